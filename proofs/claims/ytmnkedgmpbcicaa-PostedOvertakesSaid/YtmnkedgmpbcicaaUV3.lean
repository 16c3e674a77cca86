/- Several texts of this repo, one behind the other, without what is not used here. -/
import Derived.Test.YtmnkedgmpbcicaaUV2
set_option linter.unusedVariables false
set_option linter.unusedSimpArgs false
set_option maxRecDepth 8000
namespace Go.Proofs.Ytmnkedgmpbcicaa.Que
open Go Go.X Go.RowKit Go.Proofs.Ytmnkedgmpbcicaa.XF Go.Proofs.Ytmnkedgmpbcicaa.XG Go.Proofs.Ytmnkedgmpbcicaa.XK
structure OkQ (R : Rks) (ls : List Ms) : Prop where
  frm : FrmOk ls
  asc : ∀ i, (R i).Pairwise fun a b => a.call < b.call
  rk : ∀ i r, r ∈ R i → r.rank = (i : Int)
theorem OkQ.nil : OkQ (fun _ => []) [] := ⟨FrmOk.nil, fun _ => List.Pairwise.nil, fun _ _ h => by cases h⟩
theorem bad_no {r : Rc} {l : List Rc} (h : badR r l = false) : (0 ≤ r.rank ∧ r.rank ≤ 63) ∧ ∀ x, l.getLast? = some x → x.call < r.call := by
  unfold badR at h
  simp only [Bool.or_eq_false_iff, Bool.not_eq_false', Bool.and_eq_true, decide_eq_true_eq] at h
  refine ⟨h.1.1.1.1.1, fun x hx => ?_⟩
  have := h.2
  rw [hx] at this
  have := of_decide_eq_false this
  omega
theorem asc_snoc {l : List Rc} (h : l.Pairwise fun a b => a.call < b.call) {r : Rc} (hl : ∀ x, l.getLast? = some x → x.call < r.call) : (l ++ [r]).Pairwise fun a b => a.call < b.call := by
  rw [List.pairwise_append]
  refine ⟨h, List.pairwise_singleton _ _, fun a ha b hb => ?_⟩
  rw [List.mem_singleton.1 hb]
  have hne : l ≠ [] := by intro z; subst z; cases ha
  have hlast := hl _ (List.getLast?_eq_some_getLast hne)
  rcases (List.pairwise_iff_getElem.1 h) with hp
  obtain ⟨i, hi, rfl⟩ := List.mem_iff_getElem.1 ha
  rw [List.getLast_eq_getElem] at hlast
  by_cases e : i = l.length - 1
  · subst e; exact hlast
  · have := hp i (l.length - 1) hi (by omega) (by omega)
    omega
theorem asc_set {l : List Rc} (h : l.Pairwise fun a b => a.call < b.call) {j : Nat} {r : Rc} (hj : l[j]? = some r) (f s : Int) : (l.set j (r.got f s)).Pairwise fun a b => a.call < b.call := by
  have hjl := (List.getElem?_eq_some_iff.1 hj).1
  have hjr := (List.getElem?_eq_some_iff.1 hj).2
  rw [List.pairwise_iff_getElem] at h ⊢
  have key : ∀ i (hi : i < (l.set j (r.got f s)).length), (l.set j (r.got f s))[i].call = (l[i]'(by simpa using hi)).call := fun i hi => by
    rw [List.getElem_set]
    split
    · rename_i e; subst e; rw [hjr]; rfl
    · rfl
  intro a b ha hb hab
  rw [key, key]
  exact h a b _ _ hab
theorem OkQ.step {R R' : Rks} {ls ls' : List Ms} (h : OkQ R ls) (hs : StepQ R ls R' ls') : OkQ R' ls' := by
  cases hs with
  | none => exact h
  | send m => exact ⟨h.frm.send m, h.asc, h.rk⟩
  | post r =>
    refine ⟨h.frm, fun i => ?_, fun i x hx => ?_⟩
    · unfold postV
      split
      · exact h.asc i
      · rename_i hb
        have hb := bad_no (Bool.eq_false_iff.2 hb)
        dsimp only
        unfold putR
        split
        · rename_i e
          have er : rowP R r.rank = R r.rank.toNat := by unfold rowP; rw [if_pos hb.1]
          rw [er] at hb ⊢
          exact asc_snoc (h.asc _) hb.2
        · exact h.asc i
    · unfold postV at hx
      split at hx
      · exact h.rk i x hx
      · rename_i hb
        have hb := bad_no (Bool.eq_false_iff.2 hb)
        dsimp only at hx
        unfold putR at hx
        split at hx
        · rename_i e
          have er : rowP R r.rank = R r.rank.toNat := by unfold rowP; rw [if_pos hb.1]
          rw [er, ← e] at hx
          rcases List.mem_append.1 hx with z | z
          · exact h.rk i x z
          · rw [List.mem_singleton.1 z]
            show r.rank = _
            omega
        · exact h.rk i x hx
  | mtch rk c f s =>
    have hset : (∀ i, (setV R rk c f s i).Pairwise fun a b => a.call < b.call) ∧ ∀ i r, r ∈ setV R rk c f s i → r.rank = (i : Int) := by
      by_cases hr : 0 ≤ rk ∧ rk ≤ 63
      · have er : rowP R rk = R rk.toNat := by unfold rowP; rw [if_pos hr]
        unfold setV
        rw [er]
        cases hj : (R rk.toNat).findIdx? (isC c) with
        | none => exact ⟨h.asc, h.rk⟩
        | some j =>
          dsimp only
          cases hx : (R rk.toNat)[j]? with
          | none => exact ⟨h.asc, h.rk⟩
          | some r =>
            dsimp only
            unfold putR
            refine ⟨fun i => ?_, fun i x hxm => ?_⟩
            · split
              · exact asc_set (h.asc _) hx f s
              · exact h.asc i
            · split at hxm
              · rename_i e
                rcases List.mem_or_eq_of_mem_set hxm with z | z
                · rw [e]; exact h.rk _ x z
                · rw [z, e]; exact h.rk _ r (List.mem_of_getElem? hx)
              · exact h.rk i x hxm
      · have er : rowP R rk = [] := by unfold rowP; rw [if_neg hr]
        unfold setV
        rw [er]
        exact ⟨h.asc, h.rk⟩
    refine ⟨match_frm h.frm R rk c f s, fun i => ?_, fun i x hx => ?_⟩
    · unfold matchV
      split
      · split
        · exact hset.1 i
        · exact h.asc i
      · exact h.asc i
    · unfold matchV at hx
      split at hx
      · split at hx
        · exact hset.2 i x hx
        · exact h.rk i x hx
      · exact h.rk i x hx
end Go.Proofs.Ytmnkedgmpbcicaa.Que
set_option linter.unusedVariables false
set_option linter.unusedSimpArgs false
set_option maxRecDepth 8000
namespace Go.Proofs.Ytmnkedgmpbcicaa.Que
open Go Go.X Go.RowKit
theorem first_mem {ls : List Ms} {c : Ch} {tag : Int} {m : Ms} (h : firstV ls c tag = some m) : m ∈ ls ∧ m.ch = c ∧ m.taken = false ∧ (tag = -1 ∨ tag = m.tag) := by
  unfold firstV at h
  have hm := List.mem_of_find?_eq_some h
  have hf := List.find?_some h
  have hr := mem_row.1 hm
  refine ⟨hr.1, hr.2, ?_, ?_⟩
  · unfold fits at hf
    simp only [Bool.and_eq_true, Bool.not_eq_true'] at hf
    exact hf.1
  · unfold fits at hf
    simp only [Bool.and_eq_true, Bool.or_eq_true, decide_eq_true_eq] at hf
    exact hf.2
theorem one_some {ls : List Ms} {r : Rc} {wait : List Rc} {f : Int} {m : Ms} (h : oneV ls r wait f = some m) : skipV r f = false ∧ firstV ls (r.key, f, r.rank) r.tag = some m ∧ (∀ x ∈ wait, fitsV x m = false) ∧ m.frm = f := by
  unfold oneV at h
  cases hs : skipV r f with
  | true => rw [hs] at h; cases h
  | false =>
    rw [hs] at h
    rw [if_neg (by decide)] at h
    cases hf : firstV ls (r.key, f, r.rank) r.tag with
    | none => rw [hf] at h; cases h
    | some x =>
      rw [hf] at h
      dsimp only at h
      split at h
      · cases h
      · rename_i hw
        cases h
        refine ⟨rfl, rfl, fun y hy => ?_, ?_⟩
        · have := List.any_eq_false.1 (Bool.eq_false_iff.2 hw) y hy
          simpa using this
        · have := (first_mem hf).2.1
          exact congrArg (fun c : Ch => c.2.1) this
structure FreeM (ls : List Ms) (r : Rc) (ahead : List Rc) (m : Ms) : Prop where
  mem : m ∈ ls
  frm : m.frm ∈ sendersV ls r.key r.rank
  one : oneV ls r (ahead.filter wt) m.frm = some m
  first : firstV ls (r.key, m.frm, r.rank) r.tag = some m
  un : m.taken = false
  fit : fitsV r m = true
  no : ∀ x ∈ ahead, x.done = false → fitsV x m = false
theorem free_mem {ls : List Ms} {r : Rc} {ahead : List Rc} {m : Ms} (h : m ∈ freeV ls r ahead) : FreeM ls r ahead m := by
  unfold freeV at h
  obtain ⟨f, hf, ho⟩ := List.mem_filterMap.1 h
  obtain ⟨hs, h1, hw, hfr⟩ := one_some ho
  subst hfr
  obtain ⟨hm, hc, ht, hg⟩ := first_mem h1
  refine ⟨hm, hf, ho, h1, ht, ?_, fun x hx hd => hw x (List.mem_filter.2 ⟨hx, by unfold wt; rw [hd]; rfl⟩)⟩
  have hk : m.key = r.key := congrArg (fun c : Ch => c.1) hc
  have ht' : m.to = r.rank := congrArg (fun c : Ch => c.2.2) hc
  unfold fitsV
  rw [hk, ht', decide_eq_true rfl, decide_eq_true rfl]
  have hp : (decide (r.peer = -1) || decide (r.peer = m.frm)) = true := by
    unfold skipV at hs
    revert hs
    cases decide (r.peer = -1) <;> cases decide (r.peer = m.frm) <;> simp
  have hg' : (decide (r.tag = -1) || decide (r.tag = m.tag)) = true := by
    rcases hg with z | z
    · rw [decide_eq_true z]; rfl
    · rw [decide_eq_true z, Bool.or_true]
  rw [hp, hg']
  rfl
theorem senders_asc (ls : List Ms) (k : List UInt8) (t : Int) : (sendersV ls k t).Pairwise fun a b => a < b := by
  unfold sendersV
  refine List.Pairwise.filter _ ?_
  rw [List.pairwise_map]
  exact List.pairwise_lt_range.imp fun h => by omega
theorem free_asc (ls : List Ms) (r : Rc) (ahead : List Rc) : (freeV ls r ahead).Pairwise fun a b => a.frm < b.frm := by
  unfold freeV
  refine List.Pairwise.filterMap _ (fun a b hab x hx y hy => ?_) (senders_asc ls r.key r.rank)
  rw [(one_some hx).2.2.2, (one_some hy).2.2.2]
  exact hab
theorem take_of {ls : List Ms} (hu : ls.Pairwise fun a b => ¬ (a.frm = b.frm ∧ a.call = b.call)) {m : Ms} (hm : m ∈ ls) (ht : m.taken = false) : takeV ls m.frm m.call = (ls.map (tk m.frm m.call), 0) := by
  have hf : ls.find? (Ms.isAt m.frm m.call) = some m := by
    cases hq : ls.find? (Ms.isAt m.frm m.call) with
    | none =>
      have := List.find?_eq_none.1 hq m hm
      exact absurd (isAt_iff.2 ⟨rfl, rfl⟩) this
    | some x =>
      have hx := List.mem_of_find?_eq_some hq
      have hp := isAt_iff.1 (List.find?_some hq)
      rw [uniq_mem hu hx hm hp.1 hp.2]
  unfold takeV
  rw [hf]
  simp [ht]
theorem may_match {R : Rks} {ls : List Ms} (hu : ls.Pairwise fun a b => ¬ (a.frm = b.frm ∧ a.call = b.call)) {rk c : Int} {m : Ms} (h : m ∈ mayV R ls rk c) : matchV R ls rk c m.frm m.call = ((setV R rk c m.frm m.call, ls.map (tk m.frm m.call)), 0) := by
  obtain ⟨hr, j, r, hj, hx, hd, hf⟩ := may_some h
  have hM := free_mem hf
  unfold matchV
  rw [if_pos (List.any_eq_true.2 ⟨m, h, isAt_iff.2 ⟨rfl, rfl⟩⟩), take_of hu hM.mem hM.un]
  rfl
theorem asc_idx {l : List Rc} (h : l.Pairwise fun a b => a.call < b.call) {j : Nat} {r : Rc} (hj : l[j]? = some r) : l.findIdx? (isC r.call) = some j := by
  have hjl := (List.getElem?_eq_some_iff.1 hj).1
  have hjr := (List.getElem?_eq_some_iff.1 hj).2
  rw [List.findIdx?_eq_some_iff_getElem]
  refine ⟨hjl, by unfold isC; rw [hjr]; simp, fun i hi => ?_⟩
  have := List.pairwise_iff_getElem.1 h i j (by omega) hjl hi
  rw [hjr] at this
  unfold isC
  simp
  omega
end Go.Proofs.Ytmnkedgmpbcicaa.Que
set_option linter.unusedVariables false
set_option linter.unusedSimpArgs false
set_option maxRecDepth 8000
namespace Go.Proofs.Ytmnkedgmpbcicaa.Que
open Go Go.X Go.RowKit
def mO (n k : Nat) : Ms := { am k 5 with taken := decide (k < n) }
def lsO (s n : Nat) : List Ms := (List.range s).map (mO n)
def rO (n k : Nat) (pr : Int) : Rc := if k < n then (ar k pr (-1)).got 1 k else ar k pr (-1)
def rowO (ps : List Int) (n : Nat) : List Rc := ps.mapIdx (rO n)
theorem lsO_get {s n k : Nat} (h : k < s) : (lsO s n)[k]? = some (mO n k) := by
  unfold lsO
  rw [List.getElem?_map, List.getElem?_range h]; rfl
theorem lsO_mem {s n : Nat} {m : Ms} (h : m ∈ lsO s n) : ∃ k, k < s ∧ m = mO n k := by
  unfold lsO at h
  obtain ⟨k, hk, rfl⟩ := List.mem_map.1 h
  exact ⟨k, List.mem_range.1 hk, rfl⟩
theorem lsO_len (s n : Nat) : (lsO s n).length = s := by unfold lsO; simp
theorem rowO_len (ps : List Int) (n : Nat) : (rowO ps n).length = ps.length := by unfold rowO; simp
theorem rO_call (n k : Nat) (pr : Int) : (rO n k pr).call = k := by unfold rO; split <;> rfl
theorem rO_done (n k : Nat) (pr : Int) : (rO n k pr).done = decide (k < n) := by
  unfold rO
  by_cases h : k < n
  · rw [if_pos h, decide_eq_true h]; rfl
  · rw [if_neg h, decide_eq_false h]; rfl
theorem rowO_get {ps : List Int} {n k : Nat} {pr : Int} (h : ps[k]? = some pr) : (rowO ps n)[k]? = some (rO n k pr) := by
  unfold rowO
  rw [List.getElem?_mapIdx, h]; rfl
theorem lsO_send {s n : Nat} (hn : n ≤ s) (hs : s ≤ 60) : sendV (lsO s n) (am s 5) = (lsO (s + 1) n, 0) := by
  have hf : (lsO s n).find? (Ms.isAt (am s 5).frm (am s 5).call) = none := by
    rw [List.find?_eq_none]
    intro m hm
    obtain ⟨k, hk, rfl⟩ := lsO_mem hm
    unfold Ms.isAt mO am
    simp
    omega
  have hb : badM (am s 5) = false := by
    unfold badM am
    simp <;> omega
  unfold sendV
  rw [hf, hb]
  rw [if_neg (by decide)]
  unfold lsO
  rw [List.range_succ, List.map_append, List.map_singleton]
  have : mO n s = am s 5 := by unfold mO; rw [decide_eq_false (by omega)]; rfl
  rw [this]
theorem rowO_post {R : Rks} {ps : List Int} {n : Nat} {pr : Int} (hR : R 0 = rowO ps n) (hn : n ≤ ps.length) (hg : ps.length ≤ 60) (hp : pr = -1 ∨ pr = 1) : (postV R (ar ps.length pr (-1))).2 = 0 ∧ (postV R (ar ps.length pr (-1))).1 0 = rowO (ps ++ [pr]) n := by
  have er : rowP R (ar ps.length pr (-1)).rank = rowO ps n := by
    show rowP R 0 = _
    unfold rowP
    rw [if_pos (by decide)]
    exact hR
  have hlast : ∀ x, (rowO ps n).getLast? = some x → x.call < ps.length := fun x hl => by
    have hx : (rowO ps n)[(rowO ps n).length - 1]? = some x := by rw [← List.getLast?_eq_getElem?]; exact hl
    rw [rowO_len] at hx
    have hlt : ps.length - 1 < ps.length := by
      have := (List.getElem?_eq_some_iff.1 hx).1
      rw [rowO_len] at this
      omega
    rw [rowO_get (List.getElem?_eq_getElem hlt)] at hx
    cases hx
    rw [rO_call]
    omega
  have hb : badR (ar ps.length pr (-1)) (rowO ps n) = false := by
    unfold badR
    cases hl : (rowO ps n).getLast? with
    | none =>
      dsimp only
      unfold ar
      rcases hp with rfl | rfl <;> simp <;> omega
    | some x =>
      have := hlast x hl
      dsimp only
      unfold ar
      rcases hp with rfl | rfl <;> simp <;> omega
  unfold postV
  rw [er, hb, if_neg (by decide)]
  refine ⟨rfl, ?_⟩
  dsimp only
  unfold putR
  rw [if_pos (by rfl)]
  unfold rowO
  rw [List.mapIdx_append, List.mapIdx_singleton]
  congr 2
  unfold rO
  rw [if_neg (by omega)]
  rw [Nat.zero_add]
  rfl
theorem rowO_asc (ps : List Int) (n : Nat) : (rowO ps n).Pairwise fun a b => a.call < b.call := by
  rw [List.pairwise_iff_getElem]
  intro i j hi hj hij
  rw [rowO_len] at hi hj
  have h1 := rowO_get (n := n) (List.getElem?_eq_getElem hi)
  have h2 := rowO_get (n := n) (List.getElem?_eq_getElem hj)
  rw [(List.getElem?_eq_some_iff.1 h1).2, (List.getElem?_eq_some_iff.1 h2).2, rO_call, rO_call]
  omega
theorem rO_idx {ps : List Int} {n k : Nat} (h : k < ps.length) : (rowO ps n).findIdx? (isC k) = some k := by
  have := asc_idx (rowO_asc ps n) (rowO_get (n := n) (List.getElem?_eq_getElem h))
  rw [rO_call] at this
  exact this
theorem may_row {R : Rks} {ls : List Ms} {ps : List Int} {n k : Nat} (hR : R 0 = rowO ps n) (h : k < ps.length) : mayV R ls 0 k = if k < n then [] else freeV ls (rO n k ps[k]) ((rowO ps n).take k) := by
  have er : rowP R 0 = rowO ps n := by unfold rowP; rw [if_pos (by decide)]; exact hR
  unfold mayV
  rw [er, rO_idx h]
  dsimp only
  rw [rowO_get (List.getElem?_eq_getElem h)]
  dsimp only
  rw [rO_done]
  by_cases hk : k < n
  · rw [decide_eq_true hk, if_pos rfl, if_pos hk]
  · rw [decide_eq_false hk, if_neg (by decide), if_neg hk]
theorem may_O1 {R : Rks} {ps : List Int} {s n k : Nat} (hR : R 0 = rowO ps n) (h : k < ps.length) (hd : k < n ∨ s ≤ n) : mayV R (lsO s n) 0 k = [] := by
  rw [may_row hR h]
  split
  · rfl
  · rename_i hk
    have hs : s ≤ n := by omega
    rw [List.eq_nil_iff_forall_not_mem]
    intro m hm
    have M := free_mem hm
    obtain ⟨j, hj, rfl⟩ := lsO_mem M.mem
    have := M.un
    unfold mO at this
    rw [decide_eq_true (by omega)] at this
    cases this
theorem firstO {s n : Nat} (h : n < s) : firstV (lsO s n) ([], 1, 0) (-1) = some (mO n n) := by
  have er : rowOf (lsO s n) ([], 1, 0) = lsO s n := by
    unfold rowOf
    rw [List.filter_eq_self]
    intro m hm
    obtain ⟨k, _, rfl⟩ := lsO_mem hm
    rfl
  unfold firstV
  rw [er, List.find?_eq_some_iff_getElem]
  have hg := lsO_get (n := n) h
  refine ⟨?_, n, by rw [lsO_len]; exact h, (List.getElem?_eq_some_iff.1 hg).2, fun j hj => ?_⟩
  · unfold fits mO
    simp
  · have hgj := lsO_get (s := s) (n := n) (k := j) (by omega)
    rw [(List.getElem?_eq_some_iff.1 hgj).2]
    unfold fits mO
    simp
    omega
theorem may_O2 {R : Rks} {ps : List Int} {s n : Nat} (hR : R 0 = rowO ps n) (h : n < ps.length) (hs : n < s) (hp : ∀ x ∈ ps, x = -1 ∨ x = 1) : mayV R (lsO s n) 0 n = [am n 5] := by
  rw [may_row hR h, if_neg (by omega)]
  have emn : mO n n = am n 5 := by unfold mO; rw [decide_eq_false (by omega)]; rfl
  have er : rO n n ps[n] = ar n ps[n] (-1) := by unfold rO; rw [if_neg (by omega)]
  rw [er]
  have hpn := hp _ (List.getElem_mem h)
  generalize ps[n] = pr at *
  have hall : ∀ m ∈ freeV (lsO s n) (ar n pr (-1)) ((rowO ps n).take n), m = am n 5 := fun m hm => by
    have M := free_mem hm
    obtain ⟨j, hj, e⟩ := lsO_mem M.mem
    have hf := M.first
    have e1 : m.frm = 1 := by rw [e]; rfl
    rw [e1] at hf
    have hf : firstV (lsO s n) ([], 1, 0) (-1) = some m := hf
    rw [firstO hs] at hf
    rw [← Option.some.inj hf]
    exact emn
  have hone : oneV (lsO s n) (ar n pr (-1)) (((rowO ps n).take n).filter wt) 1 = some (am n 5) := by
    have hw : ((rowO ps n).take n).filter wt = [] := by
      rw [List.filter_eq_nil_iff]
      intro r hr
      obtain ⟨j, hj, e⟩ := List.mem_take_iff_getElem.1 hr
      have hjn : j < n := by omega
      rw [← e, (List.getElem?_eq_some_iff.1 (rowO_get (n := n) (List.getElem?_eq_getElem (show j < ps.length by omega)))).2]
      unfold wt
      rw [rO_done, decide_eq_true hjn]
      decide
    have hsk : skipV (ar n pr (-1)) 1 = false := by
      show (!decide (pr = -1) && !decide (pr = 1)) = false
      rcases hpn with rfl | rfl <;> decide
    unfold oneV
    rw [hw, hsk, if_neg (by decide)]
    have : firstV (lsO s n) ((ar n pr (-1)).key, 1, (ar n pr (-1)).rank) (ar n pr (-1)).tag = some (mO n n) := firstO hs
    rw [this]
    dsimp only
    rw [emn]
    rfl
  have hmem : am n 5 ∈ freeV (lsO s n) (ar n pr (-1)) ((rowO ps n).take n) := by
    unfold freeV
    refine List.mem_filterMap.2 ⟨1, ?_, hone⟩
    unfold sendersV
    refine List.mem_filter.2 ⟨List.mem_map.2 ⟨1, List.mem_range.2 (by decide), rfl⟩, ?_⟩
    unfold sentBy
    refine List.any_eq_true.2 ⟨mO n n, List.mem_of_getElem? (lsO_get hs), ?_⟩
    rw [emn]
    unfold nt am ar Ms.ch
    simp
  have hasc := free_asc (lsO s n) (ar n pr (-1)) ((rowO ps n).take n)
  generalize freeV (lsO s n) (ar n pr (-1)) ((rowO ps n).take n) = L at *
  match L, hall, hmem, hasc with
  | [], _, hm, _ => cases hm
  | [a], ha, _, _ => rw [ha a (List.mem_singleton.2 rfl)]
  | a :: b :: L', ha, _, hp => 
    have h1 := ha a (List.mem_cons_self ..)
    have h2 := ha b (List.mem_cons_of_mem _ (List.mem_cons_self ..))
    have := (List.pairwise_cons.1 hp).1 b (List.mem_cons_self ..)
    rw [h1, h2] at this
    omega
theorem matchO {R : Rks} {ps : List Int} {s n : Nat} (hu : (lsO s n).Pairwise fun a b => ¬ (a.frm = b.frm ∧ a.call = b.call)) (hR : R 0 = rowO ps n) (h : n < ps.length) (hs : n < s) (hp : ∀ x ∈ ps, x = -1 ∨ x = 1) :
    ∃ R', matchV R (lsO s n) 0 n 1 n = ((R', lsO s (n + 1)), 0) ∧ R' 0 = rowO ps (n + 1) := by
  have hm : am n 5 ∈ mayV R (lsO s n) 0 n := by rw [may_O2 hR h hs hp]; exact List.mem_singleton.2 rfl
  have e := may_match hu hm
  have e : matchV R (lsO s n) 0 n 1 n = ((setV R 0 n 1 n, (lsO s n).map (tk 1 n)), 0) := e
  have els : (lsO s n).map (tk 1 n) = lsO s (n + 1) := by
    unfold lsO
    rw [List.map_map]
    refine List.map_congr_left fun k _ => ?_
    show tk 1 n (mO n k) = mO (n + 1) k
    unfold tk Ms.isAt mO am
    by_cases hk : k = n
    · subst hk
      simp
    · have : decide (k < n) = decide (k < n + 1) := by
        by_cases hk2 : k < n
        · rw [decide_eq_true hk2, decide_eq_true (by omega)]
        · rw [decide_eq_false hk2, decide_eq_false (by omega)]
      simp [hk, this]
      omega
  rw [els] at e
  refine ⟨_, e, ?_⟩
  have hj : (R 0).findIdx? (isC n) = some n := by rw [hR]; exact rO_idx h
  have hx : (R 0)[n]? = some (rO n n ps[n]) := by rw [hR]; exact rowO_get (List.getElem?_eq_getElem h)
  have es := setV_eq (R := R) (rk := 0) (c := n) (f := 1) (s := n) (by decide) hj hx
  rw [es]
  unfold putR
  rw [if_pos (by rfl)]
  show (R 0).set n _ = _
  rw [hR]
  refine List.ext_getElem? fun i => ?_
  by_cases hi : i < ps.length
  · rw [rowO_get (List.getElem?_eq_getElem hi)]
    by_cases e : i = n
    · subst e
      rw [List.getElem?_set_self (by rw [rowO_len]; exact h)]
      congr 1
      unfold rO
      rw [if_neg (by omega), if_pos (by omega)]
    · rw [List.getElem?_set_ne (fun z => e z.symm), rowO_get (List.getElem?_eq_getElem hi)]
      congr 1
      unfold rO
      by_cases h2 : i < n
      · rw [if_pos h2, if_pos (by omega)]
      · rw [if_neg h2, if_neg (by omega)]
  · rw [List.getElem?_eq_none (by rw [List.length_set, rowO_len]; omega), List.getElem?_eq_none (by rw [rowO_len]; omega)]
theorem atO {R : Rks} {ps : List Int} {n k : Nat} (hR : R 0 = rowO ps n) (h : k < ps.length) : atV R 0 k = some (rO n k ps[k]) := by
  have er : rowP R 0 = rowO ps n := by unfold rowP; rw [if_pos (by decide)]; exact hR
  unfold atV
  rw [er]
  have hj := rO_idx (n := n) h
  rcases idxR_find (l := rowO ps n) (q := isC k) with ⟨hn, _⟩ | ⟨j, r, _, hjr, hf, hfi⟩
  · unfold idxR at hn
    rw [hj] at hn
    dsimp only at hn
    omega
  · rw [hj] at hfi
    cases hfi
    rw [hf, ← hjr, rowO_get (List.getElem?_eq_getElem h)]
end Go.Proofs.Ytmnkedgmpbcicaa.Que
set_option linter.unusedVariables false
set_option linter.unusedSimpArgs false
set_option maxRecDepth 8000
namespace Go.Proofs.Ytmnkedgmpbcicaa.Que
open Go Go.X Go.RowKit Go.Proofs.Ytmnkedgmpbcicaa.XF Go.Proofs.Ytmnkedgmpbcicaa.XG Go.Proofs.Ytmnkedgmpbcicaa.XK
theorem PP.base {w0 w1 w : World} {q p : Nat} {ls : List Ms} {V : QV} {R : Rks} {vs : List Value} (h : PP w1 w q p ls V R vs) (hm : Mod none_ w0 w1) : PP w0 w q p ls V R vs :=
  ⟨h.qa, h.pa, h.dj, fun b z => Nat.le_trans hm.size (h.fq b z), fun b z => Nat.le_trans hm.size (h.fp b z), hm.trans h.mod⟩
section
variable {w0 w : World} {q p b3 : Nat} {ls : List Ms} {V : QV} {R : Rks} {vs : List Value} {r : Rc} {L : List Ms} {vm : Value}
structure PrI (w0 w' : World) (q p b3 : Nat) (ls : List Ms) (V : QV) (R : Rks) (vs : List Value) (r : Rc) (L : List Ms) (vm : Value) : Prop where
  pp : PP w0 w' q p ls V R vs
  b : w'.heap[b3]? = some (.cells r.enc.toArray tRc (0, 0))
  nb : ¬ (V.F q b3 ∨ PF p vs b3)
  bs : Beside q p V vs w' vm
  own : w'.ownsRow w0.heap.size tMs 8 vm L.length (L.flatMap Ms.enc)
theorem PrI.on {w' w'' : World} (h : PrI w0 w' q p b3 ls V R vs r L vm) (hp : PP w0 w'' q p ls V R vs) (hm : Mod (fun b => V.F q b ∨ PF p vs b) w' w'') : PrI w0 w'' q p b3 ls V R vs r L vm :=
  ⟨hp, hm.blk h.b h.nb, h.nb, h.bs.on (MFr.m hm), h.bs.keep (MFr.m hm) h.own⟩
theorem PrI.calm {w' w'' : World} (h : PrI w0 w' q p b3 ls V R vs r L vm) (hm : Mod none_ w' w'') : PrI w0 w'' q p b3 ls V R vs r L vm := h.on (h.pp.calm hm) (hm.mono fun _ _ z => z.elim)
end
end Go.Proofs.Ytmnkedgmpbcicaa.Que
set_option linter.unusedVariables false
set_option linter.unusedSimpArgs false
set_option maxRecDepth 8000
namespace Go.Proofs.Ytmnkedgmpbcicaa.Que
open Go Go.X Go.RowKit Go.Proofs.Ytmnkedgmpbcicaa.XF Go.Proofs.Ytmnkedgmpbcicaa.XG Go.Proofs.Ytmnkedgmpbcicaa.XK
abbrev tU8s : TypeId := 52
theorem vU8s : Try.prog.underlying tU8s = some (.slice 5) := by kernel_rfl
def u8s (l : List Int) : List Value := l.map (Value.int .u8)
def Tags (w : World) (v : Value) (l : List Int) : Prop := reads w 1 v l.length (u8s l)
theorem Tags.calm {w w' : World} {v : Value} {l : List Int} (h : Tags w v l) (hm : Mod none_ w w') : Tags w' v l := reads_mod h hm fun _ _ _ => id
theorem tag_k {w : World} {v : Value} {l : List Int} {i : Nat} {g : Int} {K : Value → Value → World → Prop} (h : Tags w v l) (hi : l[i]? = some g) (hk : ∀ x, K x (.int .u8 g) w) : VK Try.prog (Instr.indexAt tU8s v (.int .i64 (i : Int))) w fun x w => VK Try.prog (Instr.loadAt 5 x) w (K x) :=
  ixld vU8s (by kernel_rfl) vU8 rfl h (by omega) (u := .int .u8 g) (by unfold u8s; simp [hi]) hk
theorem up_nr {ρ : Sl} {d : Nat} {v : Value} {k : Nat} (hk : k ≠ d) : up ρ d v k = ρ k := by rw [up_at, if_neg hk]
theorem frmO (s n : Nat) : FrmOk (lsO s n) := fun m hm => by
  obtain ⟨k, _, rfl⟩ := lsO_mem hm
  exact ⟨show (0 : Int) ≤ 1 by decide, show (1 : Int) ≤ 63 by decide⟩
structure OvS (w0 w' : World) (q p s n : Nat) (V : QV) (R : Rks) (vs : List Value) (ps : List Int) (m : Nat) : Prop where
  pp : PP w0 w' q p (lsO s n) V R vs
  r0 : R 0 = rowO ps n
  pr : ∀ x ∈ ps, x = -1 ∨ x = 1
  hs : n ≤ s
  hg : n ≤ ps.length
  ls : s ≤ m
  lg : ps.length ≤ m
  lr : ∀ j, (R j).length ≤ m
section
variable {w0 w : World} {q p s n m : Nat} {V : QV} {R : Rks} {vs : List Value} {ps : List Int} {v : Value} {i : Nat}
theorem OvS.calm {w' : World} (h : OvS w0 w q p s n V R vs ps m) (hm : Mod none_ w w') : OvS w0 w' q p s n V R vs ps m := ⟨h.pp.calm hm, h.r0, h.pr, h.hs, h.hg, h.ls, h.lg, h.lr⟩
structure OvR (q p s g : Nat) (v : Value) (i : Nat) (ρ : Sl) : Prop where
  s3 : ρ 3 = .pointer (some ⟨q, 0, none⟩)
  s4 : ρ 4 = .pointer (some ⟨p, 0, none⟩)
  s5 : ρ 5 = .int .i64 s
  s6 : ρ 6 = .int .i64 g
  s0 : ρ 0 = v
  s7 : ρ 7 = .int .i64 i
theorem OvR.of {q p s g : Nat} {v : Value} {i : Nat} {ρ ρ' : Sl} (h : OvR q p s g v i ρ) (hl : ∀ k, k < 8 → ρ' k = ρ k) : OvR q p s g v i ρ' :=
  ⟨(hl 3 (by decide)).trans h.s3, (hl 4 (by decide)).trans h.s4, (hl 5 (by decide)).trans h.s5, (hl 6 (by decide)).trans h.s6, (hl 0 (by decide)).trans h.s0, (hl 7 (by decide)).trans h.s7⟩
theorem over_R8 {K : Exit → Sl → World → Prop} {ρ : Sl} {k : Nat} {vm : Value} {L : List Ms} {B : Nat} (hm60 : m ≤ 60) (h : OvS w0 w q p s n V R vs ps m) (hk : k < ps.length) (hL : L = mayV R (lsO s n) 0 k) (hn : k ≤ n ∨ s ≤ n) (ho : w.ownsRow B tMs 8 vm L.length (L.flatMap Ms.enc))
    (hr : OvR q p s ps.length v i ρ) (e9 : ρ 9 = .int .i64 k) (e10 : ρ 10 = vm)
    (hK : ∀ (ρ' : Sl) (w' : World) (n' : Nat) (R' : Rks), OvR q p s ps.length v i ρ' → ρ' 9 = .int .i64 k → OvS w0 w' q p s n' V R' vs ps m → (k + 1 ≤ n' ∨ s ≤ n') → K .normal ρ' w') : sx fn_ Try.prog 130 dispatcherlaw14_PostedOvertakes_R8 K ρ w := by
  rw [dispatcherlaw14_PostedOvertakes_R8_eq]; unfold dispatcherlaw14_PostedOvertakes_R8_F
  obtain ⟨A, c, es, _⟩ := reads_cap (reads_of_owns ho)
  rw [e10, e9, hr.s3, hr.s4, es, len_sl vMsS, ← es]
  have lo : ∀ (ρ0 : Sl), (∀ j, j < 57 → ρ0 j = ρ j) → OvR q p s ps.length v i ρ0 ∧ ρ0 9 = .int .i64 k := fun ρ0 hl => ⟨hr.of fun j hj => hl j (by omega), (hl 9 (by decide)).trans e9⟩
  by_cases hcase : k = n ∧ n < s
  · obtain ⟨rfl, hks⟩ := hcase
    have hmay := may_O2 h.r0 hk hks h.pr
    rw [hL, hmay, show (([am k 5].length : Nat) : Int) = 1 from rfl, EQt rfl]
    try simp only [↓VG_u, ↓UG_u, ↓MG_u, ↓NG_u, ↓PG_u, ↓BG_u, ↓CG_u, ↓IG_u, ↓VGtt, ↓VGtf, ↓VGft, ↓VGff, ↓UGtt, ↓UGtf, ↓UGft, ↓UGff, ↓MGtt, ↓MGtf, ↓MGft, ↓MGff, ↓NGtt, ↓NGtf, ↓NGft, ↓NGff, ↓PGtt, ↓PGtf, ↓PGft, ↓PGff, ↓BGtt, ↓BGtf, ↓BGft, ↓BGff, ↓CGtt, ↓CGtf, ↓CGft, ↓CGff, ↓IGtt, ↓IGtf, ↓IGft, ↓IGff, ↓PKt, ↓PKf, ↓CDt, ↓CDf, ↓NOTt, ↓NOTf, ↓NK_ptr]
    obtain ⟨R', hmt, hR'⟩ := matchO h.pp.qa.inv.uniq h.r0 hk hks h.pr
    refine CK_st Try.func17 rfl rfl (Match_ok h.pp (fun j => by have := h.lr j; omega) (frmO s k) (by rw [lsO_len]; have := h.ls; omega) 0 k 1 k) ?_
    rintro _ w1 ⟨rfl, h1, hm1⟩
    have hlr : ∀ j, (R' j).length ≤ m := fun j => by
      have := match_len R (lsO s k) 0 k 1 k j
      rw [hmt] at this
      rw [this]
      exact h.lr j
    rw [hmt] at h1 ⊢
    try simp only [↓VG_u, ↓UG_u, ↓MG_u, ↓NG_u, ↓PG_u, ↓BG_u, ↓CG_u, ↓IG_u, ↓VGtt, ↓VGtf, ↓VGft, ↓VGff, ↓UGtt, ↓UGtf, ↓UGft, ↓UGff, ↓MGtt, ↓MGtf, ↓MGft, ↓MGff, ↓NGtt, ↓NGtf, ↓NGft, ↓NGff, ↓PGtt, ↓PGtf, ↓PGft, ↓PGff, ↓BGtt, ↓BGtf, ↓BGft, ↓BGff, ↓CGtt, ↓CGtf, ↓CGft, ↓CGff, ↓IGtt, ↓IGtf, ↓IGft, ↓IGff, ↓PKt, ↓PKf, ↓CDt, ↓CDf, ↓NOTt, ↓NOTf, ↓NK_ptr]
    rw [NEf rfl]
    try simp only [↓VG_u, ↓UG_u, ↓MG_u, ↓NG_u, ↓PG_u, ↓BG_u, ↓CG_u, ↓IG_u, ↓VGtt, ↓VGtf, ↓VGft, ↓VGff, ↓UGtt, ↓UGtf, ↓UGft, ↓UGff, ↓MGtt, ↓MGtf, ↓MGft, ↓MGff, ↓NGtt, ↓NGtf, ↓NGft, ↓NGff, ↓PGtt, ↓PGtf, ↓PGft, ↓PGff, ↓BGtt, ↓BGtf, ↓BGft, ↓BGff, ↓CGtt, ↓CGtf, ↓CGft, ↓CGff, ↓IGtt, ↓IGtf, ↓IGft, ↓IGff, ↓PKt, ↓PKf, ↓CDt, ↓CDf, ↓NOTt, ↓NOTf, ↓NK_ptr]
    refine hK _ w1 (k + 1) R' (lo _ fun j hj => ?_).1 (lo _ fun j hj => ?_).2 ⟨h1, hR', h.pr, hks, hk, h.ls, h.lg, hlr⟩ (.inl (Nat.le_refl _))
    · repeat rw [up_lo hj (by decide)]
    · repeat rw [up_lo hj (by decide)]
  · have hmay := may_O1 (s := s) h.r0 hk (show k < n ∨ s ≤ n by have := h.hs; omega)
    rw [hL, hmay, show ((([] : List Ms).length : Nat) : Int) = 0 from rfl, EQf (by decide)]
    try simp only [↓VG_u, ↓UG_u, ↓MG_u, ↓NG_u, ↓PG_u, ↓BG_u, ↓CG_u, ↓IG_u, ↓VGtt, ↓VGtf, ↓VGft, ↓VGff, ↓UGtt, ↓UGtf, ↓UGft, ↓UGff, ↓MGtt, ↓MGtf, ↓MGft, ↓MGff, ↓NGtt, ↓NGtf, ↓NGft, ↓NGff, ↓PGtt, ↓PGtf, ↓PGft, ↓PGff, ↓BGtt, ↓BGtf, ↓BGft, ↓BGff, ↓CGtt, ↓CGtf, ↓CGft, ↓CGff, ↓IGtt, ↓IGtf, ↓IGft, ↓IGff, ↓PKt, ↓PKf, ↓CDt, ↓CDf, ↓NOTt, ↓NOTf, ↓NK_ptr]
    refine hK _ w n R (lo _ fun j hj => ?_).1 (lo _ fun j hj => ?_).2 h (by have := h.hs; omega)
    · repeat rw [up_lo hj (by decide)]
    · repeat rw [up_lo hj (by decide)]
theorem over_L5 {K : Exit → Sl → World → Prop} {ρ : Sl} (hm60 : m ≤ 60) (h : OvS w0 w q p s n V R vs ps m) (hr : OvR q p s ps.length v i ρ) (e9 : ρ 9 = .int .i64 0)
    (hK : ∀ (ρ' : Sl) (w' : World) (n' : Nat) (R' : Rks), OvR q p s ps.length v i ρ' → OvS w0 w' q p s n' V R' vs ps m → (ps.length ≤ n' ∨ s ≤ n') → K (.exit 3) ρ' w') : W fn_ Try.prog 130 (Code.loop dispatcherlaw14_PostedOvertakes_L5) K ρ w := by
  refine W_loop dispatcherlaw14_PostedOvertakes_L5_ok (fun ρ' w' => ∃ (k n' : Nat) (R' : Rks), k ≤ ps.length ∧ ρ' 9 = .int .i64 k ∧ OvR q p s ps.length v i ρ' ∧ OvS w0 w' q p s n' V R' vs ps m ∧ (k ≤ n' ∨ s ≤ n')) (fun ρ' _ => ps.length - (intOf (ρ' 9)).toNat)
    ⟨0, n, R, Nat.zero_le _, e9, hr, h, .inl (Nat.zero_le _)⟩ ?_
  rintro ρ1 w1 ⟨k, n1, Ra, hkl, c9, hr1, h1, hn1⟩
  rw [dispatcherlaw14_PostedOvertakes_L5_eq]; unfold dispatcherlaw14_PostedOvertakes_L5_F
  have hlg := h.lg
  rw [c9, hr1.s6, hr1.s3, hr1.s4, BK_lss]
  by_cases hlt : k < ps.length
  · rw [decide_eq_true (by omega)]
    refine condT ?_
    refine CK_st Try.func16 rfl rfl (May_ok h1.pp.pa (fun j => by have := h1.lr j; omega) h1.pp.qa (frmO s n1) (by rw [lsO_len]; have := h1.ls; omega) 0 k) ?_
    rintro vm w2 ⟨ho, hm2⟩
    have h2 := h1.calm hm2
    obtain ⟨A, c, es, _⟩ := reads_cap (reads_of_owns ho)
    rw [es, len_sl vMsS, ← es, BK_gtr]
    have fin : ∀ (ρ2 : Sl) (w' : World) (n' : Nat) (R' : Rks), OvR q p s ps.length v i ρ2 → ρ2 9 = .int .i64 k → OvS w0 w' q p s n' V R' vs ps m → (k + 1 ≤ n' ∨ s ≤ n') → BK Try.prog .add 3 (.tmp 35) (.const (.int .i64 1)) (ρ2 9) (.int .i64 1) w' fun x36 w => ((∃ (k n' : Nat) (R' : Rks), k ≤ ps.length ∧ (up (up (up ρ2 35 (ρ2 9)) 36 x36) 9 x36) 9 = .int .i64 k ∧ OvR q p s ps.length v i (up (up (up ρ2 35 (ρ2 9)) 36 x36) 9 x36) ∧ OvS w0 w q p s n' V R' vs ps m ∧ (k ≤ n' ∨ s ≤ n')) ∧ ps.length - (intOf ((up (up (up ρ2 35 (ρ2 9)) 36 x36) 9 x36) 9)).toNat < ps.length - (intOf (.int .i64 (k : Int))).toNat) := by
      intro ρ2 w' n' R' hr2 q9 h' hn'
      rw [q9, BK_add, wrap_i (by omega) (by omega)]
      refine ⟨⟨k + 1, n', R', hlt, rfl, hr2.of fun j hj => ?_, h', hn'⟩, ?_⟩
      · rw [up_nr (by omega), up_lo hj (by decide), up_lo hj (by decide)]
      · simp only [sq_n, sq_x, sq_r, bk_n, bk_r, bk_x, rt_r, rt_n, rs_0, rs_t, pk_1, pk_2, up_at, reduceIte, Nat.reduceEqDiff, intOf]; omega
    by_cases hcase : k = n1 ∧ n1 < s
    · obtain ⟨rfl, hks⟩ := hcase
      have hmay := may_O2 h1.r0 hlt hks h1.pr
      have ho' := ho
      rw [hmay] at ho'
      rw [hmay, show decide ((1 : Int) < ([am k 5].length : Nat)) = false from rfl]
      try simp only [↓VG_u, ↓UG_u, ↓MG_u, ↓NG_u, ↓PG_u, ↓BG_u, ↓CG_u, ↓IG_u, ↓VGtt, ↓VGtf, ↓VGft, ↓VGff, ↓UGtt, ↓UGtf, ↓UGft, ↓UGff, ↓MGtt, ↓MGtf, ↓MGft, ↓MGff, ↓NGtt, ↓NGtf, ↓NGft, ↓NGff, ↓PGtt, ↓PGtf, ↓PGft, ↓PGff, ↓BGtt, ↓BGtf, ↓BGft, ↓BGff, ↓CGtt, ↓CGtf, ↓CGft, ↓CGff, ↓IGtt, ↓IGtf, ↓IGft, ↓IGff, ↓PKt, ↓PKf, ↓CDt, ↓CDf, ↓NOTt, ↓NOTf, ↓NK_ptr]
      rw [es, len_sl vMsS, ← es, hmay, show (([am k 5].length : Nat) : Int) = 1 from rfl]
      try simp only [↓VG_u, ↓UG_u, ↓MG_u, ↓NG_u, ↓PG_u, ↓BG_u, ↓CG_u, ↓IG_u, ↓VGtt, ↓VGtf, ↓VGft, ↓VGff, ↓UGtt, ↓UGtf, ↓UGft, ↓UGff, ↓MGtt, ↓MGtf, ↓MGft, ↓MGff, ↓NGtt, ↓NGtf, ↓NGft, ↓NGff, ↓PGtt, ↓PGtf, ↓PGft, ↓PGff, ↓BGtt, ↓BGtf, ↓BGft, ↓BGff, ↓CGtt, ↓CGtf, ↓CGft, ↓CGff, ↓IGtt, ↓IGtf, ↓IGft, ↓IGff, ↓PKt, ↓PKf, ↓CDt, ↓CDf, ↓NOTt, ↓NOTf, ↓NK_ptr]
      rw [EQt rfl]
      try simp only [↓VG_u, ↓UG_u, ↓MG_u, ↓NG_u, ↓PG_u, ↓BG_u, ↓CG_u, ↓IG_u, ↓VGtt, ↓VGtf, ↓VGft, ↓VGff, ↓UGtt, ↓UGtf, ↓UGft, ↓UGff, ↓MGtt, ↓MGtf, ↓MGft, ↓MGff, ↓NGtt, ↓NGtf, ↓NGft, ↓NGff, ↓PGtt, ↓PGtf, ↓PGft, ↓PGff, ↓BGtt, ↓BGtf, ↓BGft, ↓BGff, ↓CGtt, ↓CGtf, ↓CGft, ↓CGff, ↓IGtt, ↓IGtf, ↓IGft, ↓IGff, ↓PKt, ↓PKf, ↓CDt, ↓CDf, ↓NOTt, ↓NOTf, ↓NK_ptr]
      refine ixF (reads_of_owns ho') (i := 0) (e := am k 5) rfl rfl (show fieldOff Try.prog tMs 3 = some 3 by kernel_rfl) (ld1 vI rfl) (u := .int .i64 k) rfl fun _ _ => ?_
      try simp only [↓VG_u, ↓UG_u, ↓MG_u, ↓NG_u, ↓PG_u, ↓BG_u, ↓CG_u, ↓IG_u, ↓VGtt, ↓VGtf, ↓VGft, ↓VGff, ↓UGtt, ↓UGtf, ↓UGft, ↓UGff, ↓MGtt, ↓MGtf, ↓MGft, ↓MGff, ↓NGtt, ↓NGtf, ↓NGft, ↓NGff, ↓PGtt, ↓PGtf, ↓PGft, ↓PGff, ↓BGtt, ↓BGtf, ↓BGft, ↓BGff, ↓CGtt, ↓CGtf, ↓CGft, ↓CGff, ↓IGtt, ↓IGtf, ↓IGft, ↓IGff, ↓PKt, ↓PKf, ↓CDt, ↓CDf, ↓NOTt, ↓NOTf, ↓NK_ptr]
      rw [NEf rfl]
      try simp only [↓VG_u, ↓UG_u, ↓MG_u, ↓NG_u, ↓PG_u, ↓BG_u, ↓CG_u, ↓IG_u, ↓VGtt, ↓VGtf, ↓VGft, ↓VGff, ↓UGtt, ↓UGtf, ↓UGft, ↓UGff, ↓MGtt, ↓MGtf, ↓MGft, ↓MGff, ↓NGtt, ↓NGtf, ↓NGft, ↓NGff, ↓PGtt, ↓PGtf, ↓PGft, ↓PGff, ↓BGtt, ↓BGtf, ↓BGft, ↓BGff, ↓CGtt, ↓CGtf, ↓CGft, ↓CGff, ↓IGtt, ↓IGtf, ↓IGft, ↓IGff, ↓PKt, ↓PKf, ↓CDt, ↓CDf, ↓NOTt, ↓NOTf, ↓NK_ptr]
      rw [dispatcherlaw14_PostedOvertakes_R7_eq]; unfold dispatcherlaw14_PostedOvertakes_R7_F
      refine condF ?_
      rw [sq_n]
      refine over_R8 (k := k) (v := v) (i := i) hm60 h2 hlt rfl (.inl (Nat.le_refl _)) ho (hr1.of fun j hj => ?_) (by first | exact c9 | rfl) rfl ?_
      · repeat rw [up_lo hj (by decide)]
      intro ρ3 w3 n' R' hr3 q9 h3 hn3
      rw [bk_n, sq_n, dispatcherlaw14_PostedOvertakes_R9_eq]; unfold dispatcherlaw14_PostedOvertakes_R9_F
      exact fin ρ3 w3 n' R' hr3 q9 h3 hn3
    · have hmay := may_O1 (s := s) h1.r0 hlt (show k < n1 ∨ s ≤ n1 by have := h1.hs; omega)
      rw [hmay, show decide ((1 : Int) < (([] : List Ms).length : Nat)) = false from rfl]
      try simp only [↓VG_u, ↓UG_u, ↓MG_u, ↓NG_u, ↓PG_u, ↓BG_u, ↓CG_u, ↓IG_u, ↓VGtt, ↓VGtf, ↓VGft, ↓VGff, ↓UGtt, ↓UGtf, ↓UGft, ↓UGff, ↓MGtt, ↓MGtf, ↓MGft, ↓MGff, ↓NGtt, ↓NGtf, ↓NGft, ↓NGff, ↓PGtt, ↓PGtf, ↓PGft, ↓PGff, ↓BGtt, ↓BGtf, ↓BGft, ↓BGff, ↓CGtt, ↓CGtf, ↓CGft, ↓CGff, ↓IGtt, ↓IGtf, ↓IGft, ↓IGff, ↓PKt, ↓PKf, ↓CDt, ↓CDf, ↓NOTt, ↓NOTf, ↓NK_ptr]
      rw [es, len_sl vMsS, ← es, hmay, show ((([] : List Ms).length : Nat) : Int) = 0 from rfl]
      try simp only [↓VG_u, ↓UG_u, ↓MG_u, ↓NG_u, ↓PG_u, ↓BG_u, ↓CG_u, ↓IG_u, ↓VGtt, ↓VGtf, ↓VGft, ↓VGff, ↓UGtt, ↓UGtf, ↓UGft, ↓UGff, ↓MGtt, ↓MGtf, ↓MGft, ↓MGff, ↓NGtt, ↓NGtf, ↓NGft, ↓NGff, ↓PGtt, ↓PGtf, ↓PGft, ↓PGff, ↓BGtt, ↓BGtf, ↓BGft, ↓BGff, ↓CGtt, ↓CGtf, ↓CGft, ↓CGff, ↓IGtt, ↓IGtf, ↓IGft, ↓IGff, ↓PKt, ↓PKf, ↓CDt, ↓CDf, ↓NOTt, ↓NOTf, ↓NK_ptr]
      rw [EQf (by decide)]
      try simp only [↓VG_u, ↓UG_u, ↓MG_u, ↓NG_u, ↓PG_u, ↓BG_u, ↓CG_u, ↓IG_u, ↓VGtt, ↓VGtf, ↓VGft, ↓VGff, ↓UGtt, ↓UGtf, ↓UGft, ↓UGff, ↓MGtt, ↓MGtf, ↓MGft, ↓MGff, ↓NGtt, ↓NGtf, ↓NGft, ↓NGff, ↓PGtt, ↓PGtf, ↓PGft, ↓PGff, ↓BGtt, ↓BGtf, ↓BGft, ↓BGff, ↓CGtt, ↓CGtf, ↓CGft, ↓CGff, ↓IGtt, ↓IGtf, ↓IGft, ↓IGff, ↓PKt, ↓PKf, ↓CDt, ↓CDf, ↓NOTt, ↓NOTf, ↓NK_ptr]
      rw [dispatcherlaw14_PostedOvertakes_R7_eq]; unfold dispatcherlaw14_PostedOvertakes_R7_F
      refine condF ?_
      rw [sq_n]
      refine over_R8 (k := k) (v := v) (i := i) hm60 h2 hlt rfl hn1 ho (hr1.of fun j hj => ?_) (by first | exact c9 | rfl) rfl ?_
      · repeat rw [up_lo hj (by decide)]
      intro ρ3 w3 n' R' hr3 q9 h3 hn3
      rw [bk_n, sq_n, dispatcherlaw14_PostedOvertakes_R9_eq]; unfold dispatcherlaw14_PostedOvertakes_R9_F
      exact fin ρ3 w3 n' R' hr3 q9 h3 hn3
  · obtain rfl : k = ps.length := by omega
    rw [decide_eq_false (by omega)]
    refine condF ?_
    refine hK _ w1 n1 Ra (hr1.of fun j hj => ?_) h1 hn1
    repeat rw [up_lo hj (by decide)]
end
end Go.Proofs.Ytmnkedgmpbcicaa.Que
set_option linter.unusedVariables false
set_option linter.unusedSimpArgs false
set_option maxRecDepth 8000
namespace Go.Proofs.Ytmnkedgmpbcicaa.Que
open Go Go.X Go.RowKit Go.Proofs.Ytmnkedgmpbcicaa.XF Go.Proofs.Ytmnkedgmpbcicaa.XG Go.Proofs.Ytmnkedgmpbcicaa.XK
section
variable {w0 w : World} {q p s n m : Nat} {V : QV} {R : Rks} {vs : List Value} {ps : List Int} {v : Value} {i : Nat}
theorem over_L10 {K : Exit → Sl → World → Prop} {ρ : Sl} (hm60 : m ≤ 61) (h : OvS w0 w q p s n V R vs ps m) (hall : ps.length ≤ n ∨ s ≤ n) (hr : OvR q p s ps.length v i ρ) (e11 : ρ 11 = .int .i64 0)
    (hK : ∀ (ρ' : Sl) (w' : World), OvR q p s ps.length v i ρ' → Mod none_ w w' → K (.exit 5) ρ' w') : W fn_ Try.prog 130 (Code.loop dispatcherlaw14_PostedOvertakes_L10) K ρ w := by
  refine W_loop dispatcherlaw14_PostedOvertakes_L10_ok (fun ρ' w' => ∃ k : Nat, k ≤ ps.length ∧ ρ' 11 = .int .i64 k ∧ OvR q p s ps.length v i ρ' ∧ Mod none_ w w') (fun ρ' _ => ps.length - (intOf (ρ' 11)).toNat)
    ⟨0, Nat.zero_le _, e11, hr, Mod.refl _ _⟩ ?_
  rintro ρ1 w1 ⟨k, hkl, c11, hr1, hm1⟩
  have hlg := h.lg
  rw [dispatcherlaw14_PostedOvertakes_L10_eq]; unfold dispatcherlaw14_PostedOvertakes_L10_F
  rw [c11, hr1.s6, hr1.s4, hr1.s5, BK_lss]
  by_cases hlt : k < ps.length
  · rw [decide_eq_true (by omega)]
    refine condT ?_
    have h1 := h.calm hm1
    refine CK_st Try.func21 rfl rfl (At_ok h1.pp.pa (fun j => by have := h1.lr j; omega) 0 k) ?_
    rintro _ w2 ⟨rfl, hm2⟩
    rw [atO h1.r0 hlt]
    have hd : (rO n k ps[k]).done = decide (k < n) := rO_done ..
    have hf : k < n → (rO n k ps[k]).frm = 1 ∧ (rO n k ps[k]).seq = k := fun z => by unfold rO; rw [if_pos z]; exact ⟨rfl, rfl⟩
    generalize rO n k ps[k] = r at *
    unfold rcb
    rw [extract_ok (v := .agg r.enc.toArray) rfl, extract_ok (v := .bool true) rfl]
    refine rcSlot_k fun w3 hb3 hm3 hz3 => ?_
    have g6 : FO Try.prog w3 tRc 6 6 ⟨w2.heap.size, 0, none⟩ 4 (.bool r.done) := FO.blk hb3 (by kernel_rfl) vB rfl rfl
    have g7 : FO Try.prog w3 tRc 7 7 ⟨w2.heap.size, 0, none⟩ 3 (.int .i64 r.frm) := FO.blk hb3 (by kernel_rfl) vI rfl rfl
    have g8 : FO Try.prog w3 tRc 8 8 ⟨w2.heap.size, 0, none⟩ 3 (.int .i64 r.seq) := FO.blk hb3 (by kernel_rfl) vI rfl rfl
    have hm13 := hm1.trans (hm2.trans hm3)
    rw [not_ok]
    try simp only [Bool.not_true, ↓VG_u, ↓UG_u, ↓MG_u, ↓NG_u, ↓PG_u, ↓BG_u, ↓CG_u, ↓IG_u, ↓VGtt, ↓VGtf, ↓VGft, ↓VGff, ↓UGtt, ↓UGtf, ↓UGft, ↓UGff, ↓MGtt, ↓MGtf, ↓MGft, ↓MGff, ↓NGtt, ↓NGtf, ↓NGft, ↓NGff, ↓PGtt, ↓PGtf, ↓PGft, ↓PGff, ↓BGtt, ↓BGtf, ↓BGft, ↓BGff, ↓CGtt, ↓CGtf, ↓CGft, ↓CGff, ↓IGtt, ↓IGtf, ↓IGft, ↓IGff, ↓PKt, ↓PKf, ↓CDt, ↓CDf, ↓NOTt, ↓NOTf, ↓NK_ptr]
    rw [g6.e]
    try simp only [↓VG_u, ↓UG_u, ↓MG_u, ↓NG_u, ↓PG_u, ↓BG_u, ↓CG_u, ↓IG_u, ↓VGtt, ↓VGtf, ↓VGft, ↓VGff, ↓UGtt, ↓UGtf, ↓UGft, ↓UGff, ↓MGtt, ↓MGtf, ↓MGft, ↓MGff, ↓NGtt, ↓NGtf, ↓NGft, ↓NGff, ↓PGtt, ↓PGtf, ↓PGft, ↓PGff, ↓BGtt, ↓BGtf, ↓BGft, ↓BGff, ↓CGtt, ↓CGtf, ↓CGft, ↓CGff, ↓IGtt, ↓IGtf, ↓IGft, ↓IGff, ↓PKt, ↓PKf, ↓CDt, ↓CDf, ↓NOTt, ↓NOTf, ↓NK_ptr]
    rw [BK_lss]
    try simp only [↓VG_u, ↓UG_u, ↓MG_u, ↓NG_u, ↓PG_u, ↓BG_u, ↓CG_u, ↓IG_u, ↓VGtt, ↓VGtf, ↓VGft, ↓VGff, ↓UGtt, ↓UGtf, ↓UGft, ↓UGff, ↓MGtt, ↓MGtf, ↓MGft, ↓MGff, ↓NGtt, ↓NGtf, ↓NGft, ↓NGff, ↓PGtt, ↓PGtf, ↓PGft, ↓PGff, ↓BGtt, ↓BGtf, ↓BGft, ↓BGff, ↓CGtt, ↓CGtf, ↓CGft, ↓CGff, ↓IGtt, ↓IGtf, ↓IGft, ↓IGff, ↓PKt, ↓PKf, ↓CDt, ↓CDf, ↓NOTt, ↓NOTf, ↓NK_ptr]
    have fin : ∀ (ρ2 : Sl), ρ2 11 = .int .i64 k → (∀ j, j < 8 → ρ2 j = ρ1 j) → BK Try.prog .add 3 (.tmp 71) (.const (.int .i64 1)) (ρ2 11) (.int .i64 1) w3 fun x72 w' => ((∃ k : Nat, k ≤ ps.length ∧ (up (up (up ρ2 71 (ρ2 11)) 72 x72) 11 x72) 11 = .int .i64 k ∧ OvR q p s ps.length v i (up (up (up ρ2 71 (ρ2 11)) 72 x72) 11 x72) ∧ Mod none_ w w') ∧ ps.length - (intOf ((up (up (up ρ2 71 (ρ2 11)) 72 x72) 11 x72) 11)).toNat < ps.length - (intOf (.int .i64 (k : Int))).toNat) := by
      intro ρ2 q11 hlo
      rw [q11, BK_add, wrap_i (by omega) (by omega)]
      refine ⟨⟨k + 1, hlt, rfl, hr1.of fun j hj => ?_, hm13⟩, ?_⟩
      · rw [up_nr (by omega), up_lo hj (by decide), up_lo hj (by decide)]
        exact hlo j hj
      · simp only [sq_n, sq_x, sq_r, bk_n, bk_r, bk_x, rt_r, rt_n, rs_0, rs_t, pk_1, pk_2, up_at, reduceIte, Nat.reduceEqDiff, intOf]; omega
    by_cases hkn : k < n
    · have hks : k < s := by have := h.hs; omega
      obtain ⟨hf1, hf2⟩ := hf hkn
      rw [hd, decide_eq_true hkn, decide_eq_true (show (k : Int) < (s : Int) by omega), BK_neqB vB, show (true == true) = true from rfl]
      try simp only [Bool.not_true, ↓VG_u, ↓UG_u, ↓MG_u, ↓NG_u, ↓PG_u, ↓BG_u, ↓CG_u, ↓IG_u, ↓VGtt, ↓VGtf, ↓VGft, ↓VGff, ↓UGtt, ↓UGtf, ↓UGft, ↓UGff, ↓MGtt, ↓MGtf, ↓MGft, ↓MGff, ↓NGtt, ↓NGtf, ↓NGft, ↓NGff, ↓PGtt, ↓PGtf, ↓PGft, ↓PGff, ↓BGtt, ↓BGtf, ↓BGft, ↓BGff, ↓CGtt, ↓CGtf, ↓CGft, ↓CGff, ↓IGtt, ↓IGtf, ↓IGft, ↓IGff, ↓PKt, ↓PKf, ↓CDt, ↓CDf, ↓NOTt, ↓NOTf, ↓NK_ptr]
      rw [g6.e, hd, decide_eq_true hkn]
      try simp only [↓VG_u, ↓UG_u, ↓MG_u, ↓NG_u, ↓PG_u, ↓BG_u, ↓CG_u, ↓IG_u, ↓VGtt, ↓VGtf, ↓VGft, ↓VGff, ↓UGtt, ↓UGtf, ↓UGft, ↓UGff, ↓MGtt, ↓MGtf, ↓MGft, ↓MGff, ↓NGtt, ↓NGtf, ↓NGft, ↓NGff, ↓PGtt, ↓PGtf, ↓PGft, ↓PGff, ↓BGtt, ↓BGtf, ↓BGft, ↓BGff, ↓CGtt, ↓CGtf, ↓CGft, ↓CGff, ↓IGtt, ↓IGtf, ↓IGft, ↓IGff, ↓PKt, ↓PKf, ↓CDt, ↓CDf, ↓NOTt, ↓NOTf, ↓NK_ptr]
      rw [g7.e, hf1]
      try simp only [↓VG_u, ↓UG_u, ↓MG_u, ↓NG_u, ↓PG_u, ↓BG_u, ↓CG_u, ↓IG_u, ↓VGtt, ↓VGtf, ↓VGft, ↓VGff, ↓UGtt, ↓UGtf, ↓UGft, ↓UGff, ↓MGtt, ↓MGtf, ↓MGft, ↓MGff, ↓NGtt, ↓NGtf, ↓NGft, ↓NGff, ↓PGtt, ↓PGtf, ↓PGft, ↓PGff, ↓BGtt, ↓BGtf, ↓BGft, ↓BGff, ↓CGtt, ↓CGtf, ↓CGft, ↓CGff, ↓IGtt, ↓IGtf, ↓IGft, ↓IGff, ↓PKt, ↓PKf, ↓CDt, ↓CDf, ↓NOTt, ↓NOTf, ↓NK_ptr]
      rw [NEf rfl]
      try simp only [↓VG_u, ↓UG_u, ↓MG_u, ↓NG_u, ↓PG_u, ↓BG_u, ↓CG_u, ↓IG_u, ↓VGtt, ↓VGtf, ↓VGft, ↓VGff, ↓UGtt, ↓UGtf, ↓UGft, ↓UGff, ↓MGtt, ↓MGtf, ↓MGft, ↓MGff, ↓NGtt, ↓NGtf, ↓NGft, ↓NGff, ↓PGtt, ↓PGtf, ↓PGft, ↓PGff, ↓BGtt, ↓BGtf, ↓BGft, ↓BGff, ↓CGtt, ↓CGtf, ↓CGft, ↓CGff, ↓IGtt, ↓IGtf, ↓IGft, ↓IGff, ↓PKt, ↓PKf, ↓CDt, ↓CDf, ↓NOTt, ↓NOTf, ↓NK_ptr]
      rw [g8.e, hf2]
      try simp only [↓VG_u, ↓UG_u, ↓MG_u, ↓NG_u, ↓PG_u, ↓BG_u, ↓CG_u, ↓IG_u, ↓VGtt, ↓VGtf, ↓VGft, ↓VGff, ↓UGtt, ↓UGtf, ↓UGft, ↓UGff, ↓MGtt, ↓MGtf, ↓MGft, ↓MGff, ↓NGtt, ↓NGtf, ↓NGft, ↓NGff, ↓PGtt, ↓PGtf, ↓PGft, ↓PGff, ↓BGtt, ↓BGtf, ↓BGft, ↓BGff, ↓CGtt, ↓CGtf, ↓CGft, ↓CGff, ↓IGtt, ↓IGtf, ↓IGft, ↓IGff, ↓PKt, ↓PKf, ↓CDt, ↓CDf, ↓NOTt, ↓NOTf, ↓NK_ptr]
      rw [NEf rfl]
      try simp only [↓VG_u, ↓UG_u, ↓MG_u, ↓NG_u, ↓PG_u, ↓BG_u, ↓CG_u, ↓IG_u, ↓VGtt, ↓VGtf, ↓VGft, ↓VGff, ↓UGtt, ↓UGtf, ↓UGft, ↓UGff, ↓MGtt, ↓MGtf, ↓MGft, ↓MGff, ↓NGtt, ↓NGtf, ↓NGft, ↓NGff, ↓PGtt, ↓PGtf, ↓PGft, ↓PGff, ↓BGtt, ↓BGtf, ↓BGft, ↓BGff, ↓CGtt, ↓CGtf, ↓CGft, ↓CGff, ↓IGtt, ↓IGtf, ↓IGft, ↓IGff, ↓PKt, ↓PKf, ↓CDt, ↓CDf, ↓NOTt, ↓NOTf, ↓NK_ptr]
      rw [dispatcherlaw14_PostedOvertakes_R11_eq]; unfold dispatcherlaw14_PostedOvertakes_R11_F
      refine condF ?_
      rw [bk_n, sq_n, dispatcherlaw14_PostedOvertakes_R12_eq]; unfold dispatcherlaw14_PostedOvertakes_R12_F
      refine fin _ (by first | exact c11 | rfl) (fun j hj => ?_)
      repeat rw [up_lo hj (by decide)]
    · have hks : ¬ k < s := by omega
      rw [hd, decide_eq_false hkn, decide_eq_false (show ¬ (k : Int) < (s : Int) by omega), BK_neqB vB, show (false == false) = true from rfl]
      try simp only [Bool.not_true, ↓VG_u, ↓UG_u, ↓MG_u, ↓NG_u, ↓PG_u, ↓BG_u, ↓CG_u, ↓IG_u, ↓VGtt, ↓VGtf, ↓VGft, ↓VGff, ↓UGtt, ↓UGtf, ↓UGft, ↓UGff, ↓MGtt, ↓MGtf, ↓MGft, ↓MGff, ↓NGtt, ↓NGtf, ↓NGft, ↓NGff, ↓PGtt, ↓PGtf, ↓PGft, ↓PGff, ↓BGtt, ↓BGtf, ↓BGft, ↓BGff, ↓CGtt, ↓CGtf, ↓CGft, ↓CGff, ↓IGtt, ↓IGtf, ↓IGft, ↓IGff, ↓PKt, ↓PKf, ↓CDt, ↓CDf, ↓NOTt, ↓NOTf, ↓NK_ptr]
      rw [g6.e, hd, decide_eq_false hkn]
      try simp only [↓VG_u, ↓UG_u, ↓MG_u, ↓NG_u, ↓PG_u, ↓BG_u, ↓CG_u, ↓IG_u, ↓VGtt, ↓VGtf, ↓VGft, ↓VGff, ↓UGtt, ↓UGtf, ↓UGft, ↓UGff, ↓MGtt, ↓MGtf, ↓MGft, ↓MGff, ↓NGtt, ↓NGtf, ↓NGft, ↓NGff, ↓PGtt, ↓PGtf, ↓PGft, ↓PGff, ↓BGtt, ↓BGtf, ↓BGft, ↓BGff, ↓CGtt, ↓CGtf, ↓CGft, ↓CGff, ↓IGtt, ↓IGtf, ↓IGft, ↓IGff, ↓PKt, ↓PKf, ↓CDt, ↓CDf, ↓NOTt, ↓NOTf, ↓NK_ptr]
      rw [dispatcherlaw14_PostedOvertakes_R11_eq]; unfold dispatcherlaw14_PostedOvertakes_R11_F
      refine condF ?_
      rw [bk_n, sq_n, dispatcherlaw14_PostedOvertakes_R12_eq]; unfold dispatcherlaw14_PostedOvertakes_R12_F
      refine fin _ (by first | exact c11 | rfl) (fun j hj => ?_)
      repeat rw [up_lo hj (by decide)]
  · obtain rfl : k = ps.length := by omega
    rw [decide_eq_false (by omega)]
    refine condF ?_
    refine hK _ w1 (hr1.of fun j hj => ?_) hm1
    repeat rw [up_lo hj (by decide)]
theorem over_R4 {K : Exit → Sl → World → Prop} {ρ : Sl} {pr : Int} (hm60 : m ≤ 59) (h : OvS w0 w q p s n V R vs ps m) (hp : pr = -1 ∨ pr = 1) (hr : OvR q p s ps.length v i ρ) (e8 : ρ 8 = .int .i64 pr)
    (hK : ∀ (ρ' : Sl) (w' : World) (n' : Nat) (R' : Rks) (vs' : List Value) (ps' : List Int), OvR q p s ps'.length v i ρ' → OvS w0 w' q p s n' V R' vs' ps' (m + 1) → K .normal ρ' w') : sx fn_ Try.prog 130 dispatcherlaw14_PostedOvertakes_R4 K ρ w := by
  rw [dispatcherlaw14_PostedOvertakes_R4_eq]; unfold dispatcherlaw14_PostedOvertakes_R4_F
  have hlg := h.lg
  rw [hr.s6, hr.s4, e8]
  refine CK_st Try.func27 rfl rfl (receive_ok ps.length pr (-1) w) ?_
  rintro _ w1 ⟨rfl, hm1⟩
  have h1 := h.calm hm1
  refine CK_st Try.func14 rfl rfl (Post_ok h1.pp.pa (fun j => by have := h1.lr j; omega) (ar ps.length pr (-1))) ?_
  rintro _ w2 ⟨rfl, vs2, h2p, f2⟩
  obtain ⟨e1, e2⟩ := rowO_post h1.r0 h1.hg (by omega) hp
  rw [e1, NEf rfl]
  refine condF ?_
  rw [BK_add, wrap_i (by omega) (by omega)]
  refine hK _ w2 n _ vs2 (ps ++ [pr]) ?_ ⟨h1.pp.onP h2p f2, e2, fun x hx => ?_, h1.hs, by rw [List.length_append]; have := h1.hg; omega, by have := h1.ls; omega, by rw [List.length_append, List.length_singleton]; omega, fun j => post_len h1.lr _ j⟩
  · refine ⟨by first | exact hr.s3 | rfl, by first | exact hr.s4 | rfl, by first | exact hr.s5 | rfl, ?_, by first | exact hr.s0 | rfl, by first | exact hr.s7 | rfl⟩
    rw [List.length_append, List.length_singleton]
    rfl
  · rcases List.mem_append.1 hx with z | z
    · exact h1.pr x z
    · rw [List.mem_singleton.1 z]; exact hp
theorem over_R3 {K : Exit → Sl → World → Prop} {ρ : Sl} {b : Bool} {l : List Int} (hm60 : m ≤ 59) (hv : Tags w0 v l) (hi : i < l.length) (h : OvS w0 w q p s n V R vs ps m) (hr : OvR q p s ps.length v i ρ) (e113 : ρ 113 = .bool b)
    (hK : ∀ (ρ' : Sl) (w' : World) (n' : Nat) (R' : Rks) (vs' : List Value) (ps' : List Int), OvR q p s ps'.length v i ρ' → OvS w0 w' q p s n' V R' vs' ps' (m + 1) → K .normal ρ' w') : sx fn_ Try.prog 130 dispatcherlaw14_PostedOvertakes_R3 K ρ w := by
  rw [dispatcherlaw14_PostedOvertakes_R3_eq]; unfold dispatcherlaw14_PostedOvertakes_R3_F
  rw [e113, hr.s0, hr.s7]
  refine caseC (fun z => ?_) (fun z => ?_)
  · refine tag_k (hv.calm h.pp.mod) (List.getElem?_eq_getElem hi) fun _ => ?_
    rw [BK_rem (by decide), BK_eql]
    refine caseC (fun z2 => ?_) (fun z2 => ?_)
    · exact over_R4 (pr := 1) (v := v) (i := i) hm60 h (.inr rfl) ⟨by first | exact hr.s3 | rfl, by first | exact hr.s4 | rfl, by first | exact hr.s5 | rfl, by first | exact hr.s6 | rfl, by first | exact hr.s0 | rfl, by first | exact hr.s7 | rfl⟩ rfl hK
    · exact over_R4 (pr := -1) (v := v) (i := i) hm60 h (.inl rfl) ⟨by first | exact hr.s3 | rfl, by first | exact hr.s4 | rfl, by first | exact hr.s5 | rfl, by first | exact hr.s6 | rfl, by first | exact hr.s0 | rfl, by first | exact hr.s7 | rfl⟩ rfl hK
  · refine over_L5 (v := v) (i := i) (by omega) h ⟨by first | exact hr.s3 | rfl, by first | exact hr.s4 | rfl, by first | exact hr.s5 | rfl, by first | exact hr.s6 | rfl, by first | exact hr.s0 | rfl, by first | exact hr.s7 | rfl⟩ rfl ?_
    intro ρ1 w1 n1 Ra hr1 h1 hall
    rw [bk_x, sq_n, dispatcherlaw14_PostedOvertakes_R6_eq]; unfold dispatcherlaw14_PostedOvertakes_R6_F
    refine over_L10 (v := v) (i := i) (by omega) h1 hall ⟨by first | exact hr1.s3 | rfl, by first | exact hr1.s4 | rfl, by first | exact hr1.s5 | rfl, by first | exact hr1.s6 | rfl, by first | exact hr1.s0 | rfl, by first | exact hr1.s7 | rfl⟩ rfl ?_
    intro ρ2 w2 hr2 hm2
    rw [bk_x]
    have h2 := h1.calm hm2
    exact hK ρ2 w2 n1 Ra vs ps hr2 ⟨h2.pp, h2.r0, h2.pr, h2.hs, h2.hg, Nat.le_succ_of_le h2.ls, Nat.le_succ_of_le h2.lg, fun j => Nat.le_succ_of_le (h2.lr j)⟩
end
theorem PostedOvertakes_ok {w : World} {v : Value} {l : List Int} (h : Tags w v l) (hg : ∀ g ∈ l, 0 ≤ g) : Rt Try.prog 6 #[v] w fun u w' => u = .bool true ∧ Mod none_ w w' := by
  refine dispatcherlaw14_PostedOvertakes_calls ?_
  unfold dispatcherlaw14_PostedOvertakes_F
  refine CK_st Try.func10 rfl rfl (awake14_ok w) ?_
  rintro _ w1 ⟨rfl, hm1⟩
  rw [not_ok]
  refine condF ?_
  obtain ⟨A, c, es, _⟩ := reads_cap h
  rw [es, len_sl vU8s, ← es, BK_gtr]
  refine caseC (fun hz => ⟨by trivial, hm1⟩) (fun hz => ?_)
  have hl : l.length ≤ 60 := by have := of_decide_eq_false hz; omega
  refine begun w1 fun q p V0 vs0 w2 hP => ?_
  have hv := Tags.calm h hm1
  refine W_loop dispatcherlaw14_PostedOvertakes_L0_ok (fun ρ w' => ∃ (i s n : Nat) (V : QV) (R : Rks) (vs : List Value) (ps : List Int), i ≤ l.length ∧ OvR q p s ps.length v i ρ ∧ OvS w1 w' q p s n V R vs ps i) (fun ρ _ => l.length - (intOf (ρ 7)).toNat)
    ⟨0, 0, 0, V0, fun _ => [], vs0, [], Nat.zero_le _, ⟨rfl, rfl, rfl, rfl, rfl, rfl⟩, ⟨hP, rfl, fun x hx => (by cases hx), Nat.le_refl _, Nat.le_refl _, Nat.le_refl _, Nat.le_refl _, fun _ => Nat.le_refl _⟩⟩ ?_
  rintro ρ w3 ⟨i, s, n, V, R, vs, ps, hi, hr, hS⟩
  rw [dispatcherlaw14_PostedOvertakes_L0_eq]; unfold dispatcherlaw14_PostedOvertakes_L0_F
  rw [hr.s7, hr.s0, hr.s3, hr.s5, es, len_sl vU8s, ← es, BK_lss]
  have hls := hS.ls
  by_cases hlt : i < l.length
  · rw [decide_eq_true (by omega)]
    refine condT ?_
    have fin : ∀ (ρ2 : Sl) (w' : World) (s' n' : Nat) (V' : QV) (R' : Rks) (vs' : List Value) (ps' : List Int), OvR q p s' ps'.length v i ρ2 → OvS w1 w' q p s' n' V' R' vs' ps' (i + 1) → BK Try.prog .add 3 (.tmp 25) (.const (.int .i64 1)) (ρ2 7) (.int .i64 1) w' fun x26 w => ((∃ (i s n : Nat) (V : QV) (R : Rks) (vs : List Value) (ps : List Int), i ≤ l.length ∧ OvR q p s ps.length v i (up (up (up ρ2 25 (ρ2 7)) 26 x26) 7 x26) ∧ OvS w1 w q p s n V R vs ps i) ∧ l.length - (intOf ((up (up (up ρ2 25 (ρ2 7)) 26 x26) 7 x26) 7)).toNat < l.length - (intOf (.int .i64 (i : Int))).toNat) := by
      intro ρ2 w' s' n' V' R' vs' ps' hr2 hS2
      rw [hr2.s7, BK_add, wrap_i (by omega) (by omega)]
      refine ⟨⟨i + 1, s', n', V', R', vs', ps', hlt, ⟨hr2.s3, hr2.s4, hr2.s5, hr2.s6, hr2.s0, rfl⟩, hS2⟩, ?_⟩
      simp only [sq_n, sq_x, sq_r, bk_n, bk_r, bk_x, rt_r, rt_n, rs_0, rs_t, pk_1, pk_2, up_at, reduceIte, Nat.reduceEqDiff, intOf]; omega
    refine tag_k (hv.calm hS.pp.mod) (List.getElem?_eq_getElem hlt) fun _ => ?_
    rw [BK_rem (by decide), BK_eql]
    refine caseC (fun z => ?_) (fun z => ?_)
    · refine CK_st Try.func26 rfl rfl (message14_ok s 5 w3) ?_
      rintro _ w4 ⟨rfl, hm4⟩
      have h4 := hS.calm hm4
      refine CK_st Try.func25 rfl rfl (Send_ok h4.pp.qa (by rw [lsO_len]; omega) (am s 5)) ?_
      rintro _ w5 ⟨rfl, V5, h5q, f5⟩
      have h5 := h4.pp.onQ h5q f5
      rw [lsO_send h4.hs (by omega)] at h5 ⊢
      rw [NEf rfl]
      refine condF ?_
      rw [BK_add, wrap_i (by omega) (by omega), dispatcherlaw14_PostedOvertakes_R2_eq]; unfold dispatcherlaw14_PostedOvertakes_R2_F
      exact fin _ w5 (s + 1) n V5 R vs ps ⟨by first | exact hr.s3 | rfl, by first | exact hr.s4 | rfl, rfl, by first | exact hr.s6 | rfl, by first | exact hr.s0 | rfl, by first | exact hr.s7 | rfl⟩ ⟨h5, h4.r0, h4.pr, Nat.le_succ_of_le h4.hs, h4.hg, by omega, Nat.le_succ_of_le h4.lg, fun j => Nat.le_succ_of_le (h4.lr j)⟩
    · rw [BK_eql]
      refine caseC (fun z2 => ?_) (fun z2 => ?_)
      · refine over_R3 (v := v) (i := i) (l := l) (by omega) hv hlt hS ⟨by first | exact hr.s3 | rfl, by first | exact hr.s4 | rfl, by first | exact hr.s5 | rfl, by first | exact hr.s6 | rfl, by first | exact hr.s0 | rfl, by first | exact hr.s7 | rfl⟩ rfl ?_
        intro ρ2 w' n' R' vs' ps' hr2 hS2
        rw [bk_n, bk_n, sq_n, dispatcherlaw14_PostedOvertakes_R2_eq]; unfold dispatcherlaw14_PostedOvertakes_R2_F
        exact fin ρ2 w' s n' V R' vs' ps' hr2 hS2
      · rw [BK_eql]
        refine over_R3 (v := v) (i := i) (l := l) (by omega) hv hlt hS ⟨by first | exact hr.s3 | rfl, by first | exact hr.s4 | rfl, by first | exact hr.s5 | rfl, by first | exact hr.s6 | rfl, by first | exact hr.s0 | rfl, by first | exact hr.s7 | rfl⟩ rfl ?_
        intro ρ2 w' n' R' vs' ps' hr2 hS2
        rw [bk_n, bk_n, sq_n, dispatcherlaw14_PostedOvertakes_R2_eq]; unfold dispatcherlaw14_PostedOvertakes_R2_F
        exact fin ρ2 w' s n' V R' vs' ps' hr2 hS2
  · obtain rfl : i = l.length := by omega
    rw [decide_eq_false (by omega)]
    refine condF ?_
    rw [sq_x, bk_x, sq_n, dispatcherlaw14_PostedOvertakes_R1_eq]; unfold dispatcherlaw14_PostedOvertakes_R1_F
    exact ⟨rfl, hm1.trans hS.pp.mod⟩
end Go.Proofs.Ytmnkedgmpbcicaa.Que
set_option linter.unusedVariables false
set_option maxRecDepth 4000
namespace Go.Proofs.Ytmnkedgmpbcicaa.Que
open Go Go.X Go.RowKit
end Go.Proofs.Ytmnkedgmpbcicaa.Que
