/- Several texts of this repo, one behind the other, without what is not used here. -/
import Derived.Test.YtpkfbaagpjdifaaDoorProg
import Derived.Lib.SliceRun
import Derived.Laws.OwnMore
import Derived.Laws.IdiomStrings
import Derived.Laws.BytesArg
import Derived.Test.YtpkfbaagpjdifaaDoorLV3
set_option linter.unusedVariables false
set_option linter.unusedSimpArgs false
set_option maxRecDepth 4000
namespace Go.X
open Go Go.Proofs.YtpkfbaagpjdifaaDoor.Tr
def oneB (n op turns st : Int) (ln : Nat) (dec : Bool) (B E : Bd) : Bd :=
  if op = 3 then ⟨1 + st + mx (B.s + (if 0 < ln then 1 else 0)) E.s, mx B.c E.c, mx B.d E.d⟩
  else if op = 5 then ⟨(B.s + 9) * (if turns = 0 then n else turns) + 6, B.c * (if turns = 0 then n else turns), B.d * (if turns = 0 then n else turns)⟩
  else if op = 8 then ⟨1 + st, 1, if dec then 1 else 0⟩
  else ⟨1 + st, 0, 0⟩
mutual
def St.bd (n : Int) : St → Bd
  | ⟨op, kind, red, name, turns, es, exprs, bs, body, ls, els, line, col⟩ => (oneB n op turns (Ex.stepsL exprs) els.length (St.dec ⟨op, kind, red, name, turns, es, exprs, bs, body, ls, els, line, col⟩) (St.bdF n zBd body) (St.bdF n zBd els)).cut
def St.bdF (n : Int) (acc : Bd) : List St → Bd
  | [] => acc
  | e :: r => St.bdF n ((acc.and (St.bd n e)).cut) r
end
def St.bdO (n : Int) (e : St) : Bd := oneB n e.op e.turns (Ex.stepsL e.exprs) e.els.length e.dec (St.bdF n zBd e.body) (St.bdF n zBd e.els)
theorem St.bd_eq (n : Int) (e : St) : e.bd n = (e.bdO n).cut := by obtain ⟨op, kind, red, name, turns, es, exprs, bs, body, ls, els, line, col⟩ := e; rw [St.bd]; rfl
theorem St.bdF_snoc (n : Int) : ∀ (l : List St) (acc : Bd) (e : St), St.bdF n acc (l ++ [e]) = ((St.bdF n acc l).and (e.bd n)).cut
  | [], acc, e => by simp [St.bdF]
  | a :: r, acc, e => by rw [List.cons_append, St.bdF, St.bdF, St.bdF_snoc n r]
theorem may_turns {e : St} (h : e.may = true) : 0 ≤ e.turns ∧ e.turns ≤ 1000 := by
  rw [St.may_eq] at h
  simp only [Bool.and_eq_true] at h
  have := h.1.1.1
  unfold St.own at this
  simp only [Bool.and_eq_true, decide_eq_true_eq] at this
  exact ⟨this.1.1.1.1.2, this.1.1.1.2⟩
theorem may_parts {e : St} (h : e.may = true) : (∀ a ∈ e.exprs, a.may = true) ∧ (∀ a ∈ e.body, a.may = true) ∧ ∀ a ∈ e.els, a.may = true := by
  rw [St.may_eq] at h
  simp only [Bool.and_eq_true, Ex.mayL_eq, St.mayL_eq, List.all_eq_true] at h
  exact ⟨h.1.1.2, h.1.2, h.2⟩
theorem oneB_in {n op turns st : Int} {ln : Nat} {dec : Bool} {B E : Bd} (hB : B.In 1048577) (hE : E.In 1048577) (hst : 0 ≤ st ∧ st ≤ 4398046511104) (hn : 1 ≤ n ∧ n ≤ 64) (ht : 0 ≤ turns ∧ turns ≤ 1000) : (oneB n op turns st ln dec B E).In 4398047560000 ∧ 0 ≤ (if turns = 0 then n else turns) ∧ (if turns = 0 then n else turns) ≤ 1000 := by
  have ht2 : 0 ≤ (if turns = 0 then n else turns) ∧ (if turns = 0 then n else turns) ≤ 1000 := by split <;> omega
  refine ⟨?_, ht2⟩
  obtain ⟨⟨b1, b2⟩, b3, b4⟩ := id hB
  unfold oneB
  split
  · have h1 := mx_in (a := B.s + (if 0 < ln then 1 else 0)) (b := E.s) (m := 1048578) (by split <;> omega) ⟨hE.1.1, by have := hE.1.2; omega⟩
    have h2 := mx_in hB.2.1 hE.2.1
    have h3 := mx_in hB.2.2 hE.2.2
    refine ⟨⟨?_, ?_⟩, ⟨?_, ?_⟩, ?_, ?_⟩ <;> dsimp only <;> omega
  · split
    · have h1 := mul_in (a := B.s + 9) (m := 1048586) (by omega) ht2
      have h2 := mul_in b3 ht2
      have h3 := mul_in b4 ht2
      refine ⟨⟨?_, ?_⟩, ⟨?_, ?_⟩, ?_, ?_⟩ <;> dsimp only <;> omega
    · split
      · refine ⟨⟨?_, ?_⟩, ⟨?_, ?_⟩, ?_, ?_⟩ <;> dsimp only <;> first | omega | (split <;> omega)
      · refine ⟨⟨?_, ?_⟩, ⟨?_, ?_⟩, ?_, ?_⟩ <;> dsimp only <;> omega
theorem bdF_in {n : Int} : ∀ {l : List St} {acc : Bd}, (∀ a ∈ l, (a.bd n).In 1048577) → acc.In 1048577 → (St.bdF n acc l).In 1048577
  | [], acc, _, h => by rw [St.bdF]; exact h
  | a :: r, acc, hl, h => by
    rw [St.bdF]
    exact bdF_in (fun b hb => hl b (List.mem_cons_of_mem _ hb)) (h.and (hl a (by simp))).cut
theorem bd_in {n : Int} (hn : 1 ≤ n ∧ n ≤ 64) : ∀ e : St, e.may = true → e.sz ≤ 1099511627776 → (e.bd n).In 1048577 ∧ (e.bdO n).In 4398047560000 ∧ (St.bdF n zBd e.body).In 1048577 ∧ (St.bdF n zBd e.els).In 1048577 := by
  intro e
  induction e using St.ind with
  | h e ih1 ih2 =>
    intro hm hsz
    obtain ⟨m1, m2, m3⟩ := may_parts hm
    rw [St.sz_eq] at hsz
    have sb : ∀ (l : List St), ∀ a ∈ l, a.sz ≤ St.szL l := fun l a ha => by
      obtain ⟨i, hi⟩ := List.getElem?_of_mem ha
      have := St.szL_at hi
      omega
    have hB := bdF_in (n := n) (acc := zBd) (fun a ha => (ih1 a ha (m2 a ha) (by have := sb _ a ha; omega)).1) (zBd_in _ (by decide))
    have hE := bdF_in (n := n) (acc := zBd) (fun a ha => (ih2 a ha (m3 a ha) (by have := sb _ a ha; omega)).1) (zBd_in _ (by decide))
    have hst := Ex.stepsL_sz e.exprs
    have hO := (oneB_in (n := n) (op := e.op) (ln := e.els.length) (dec := e.dec) hB hE (st := Ex.stepsL e.exprs) (by omega) hn (may_turns hm)).1
    exact ⟨by rw [St.bd_eq]; exact Bd.In.cut hO, hO, hB, hE⟩
end Go.X
namespace Go.Proofs.YtpkfbaagpjdifaaDoor.Tr
open Go Go.X Go.RowKit Go.Proofs.YtpkfbaagpjdifaaDoor.XH Go.Proofs.YtpkfbaagpjdifaaDoor.XK
def OneOk (n : Int) (e : St) : Prop := ∀ w : World, e.Ok w → e.sz ≤ 1099511627776 → e.may = true → Rt Tryd.prog 75 #[.int .i64 n, .agg e.cells.toArray] w fun v w' => v = (e.bd n).v ∧ Mod none_ w w'
def AllOk (n : Int) (l : List St) : Prop := ∀ (w : World) (s : Value), StsOk w s l → St.szL l ≤ 1099511627776 → (∀ a ∈ l, a.may = true) → Rt Tryd.prog 47 #[.int .i64 n, s] w fun v w' => v = (St.bdF n zBd l).v ∧ Mod none_ w w'
theorem FnOne (n : Int) : FnL Tryd.prog (.func (.func 75) #[.int .i64 n] #[]) := ⟨_, _, _, _, rfl, Tryd.func75, rfl, rfl⟩
theorem all_row {n : Int} (hn : 1 ≤ n ∧ n ≤ 64) {l : List St} (ih : ∀ a ∈ l, OneOk n a) : AllOk n l := by
  intro w s hok hsz hmay
  obtain ⟨A, c, hs, _⟩ := reads_cap hok.1
  have hlen := St.len_sz l
  refine bound_size_all_calls ?_
  unfold bound_size_all_F
  refine al_k zBnd rfl _ fun w1 hb1 hm1 hz1 => ?_
  refine al_k zBnd rfl _ fun w2 hb2 hm2 hz2 => ?_
  rw [mkFunc, hs, len23]
  have hb12 := hm2.blk hb1 id
  have hm02 := hm1.trans hm2
  generalize hb4 : w.heap.size = b4 at *
  generalize hb5 : w1.heap.size = b5 at *
  have hin : ∀ m : Nat, (St.bdF n zBd (l.take m)).In 1048577 := fun m => bdF_in (fun a ha => by
    obtain ⟨i, hi⟩ := List.getElem?_of_mem (List.mem_of_mem_take ha)
    have := St.szL_at hi
    exact (bd_in hn a (hmay a (List.mem_of_mem_take ha)) (by omega)).1) (zBd_in _ (by decide))
  refine W_loop bound_size_all_L0_ok (fun ρ w' => ∃ m : Nat, m ≤ l.length ∧ ρ 13 = .int .i64 m ∧ ρ 12 = .int .i64 l.length ∧ ρ 11 = .slice A l.length c ∧ ρ 4 = pt b4 ∧ ρ 5 = pt b5 ∧ ρ 6 = .func (.func 75) #[.int .i64 n] #[] ∧ w'.heap[b5]? = some (.cells (St.bdF n zBd (l.take m)).cells.toArray 58 (0, 0)) ∧ Mod (fun i => i = b5) w2 w') (fun ρ _ => l.length - (intOf (ρ 13)).toNat)
    ⟨0, Nat.zero_le _, rfl, rfl, rfl, rfl, rfl, rfl, hb2, Mod.refl _ _⟩ ?_
  rintro ρ w3 ⟨m, hmn, h13, h12, h11, h4, h5, h6, hb53, hm3⟩
  have hm03 : Mod none_ w w3 := hm02.then hm3 fun i hi q => absurd q (by omega)
  rw [bound_size_all_L0_eq]
  unfold bound_size_all_L0_F
  rw [h13, h12, h11]
  refine BKlss (a := m) (b := l.length) rfl rfl ?_
  by_cases hlt : m < l.length
  · rw [show decide ((m : Int) < (l.length : Int)) = true by rw [decide_eq_true_eq]; omega]
    refine condT ?_
    have hx : l[m]? = some l[m] := List.getElem?_eq_getElem hlt
    have hmem : l[m] ∈ l := List.getElem_mem hlt
    have hok3 := hok.mod hm03
    rw [hs] at hok3
    have hsn := St.szL_at hx
    refine ixSt hok3 hx fun y => ?_
    refine lcl_k (cs := l[m].cells.toArray) zSt _ iSt rfl (st_one (hok3.at hx)) fun w4 hb8 hm4 hz4 => ?_
    have hb54 := hm4.blk hb53 id
    have hlt5 : b5 < w3.heap.size := X.blk_lt hb53
    have hm24 : Mod (fun i => i = b5) w2 w4 := hm3.trans (up0 hm4)
    have hok4 := (hok3.at hx).mod hm4
    have hbd := bd_in hn l[m] (hmay _ hmem) (by omega)
    have hsum := (hin m).and hbd.1
    generalize w3.heap.size = b8 at *
    have e2 : ∀ (KK : Exit → Sl → World → Prop), (∀ (ρ3 : Sl) (w9 : World), ρ3 13 = .int .i64 m → ρ3 12 = .int .i64 l.length → ρ3 11 = .slice A l.length c → ρ3 4 = pt b4 → ρ3 5 = pt b5 → ρ3 6 = .func (.func 75) #[.int .i64 n] #[] → w9.heap[b5]? = some (.cells (((St.bdF n zBd (l.take m)).and (l[m].bd n)).cut).cells.toArray 58 (0, 0)) → Mod (fun i => i = b5) w4 w9 → KK .normal ρ3 w9) →
        ∀ (ρ2 : Sl), ρ2 13 = .int .i64 m → ρ2 12 = .int .i64 l.length → ρ2 11 = .slice A l.length c → ρ2 4 = pt b4 → ρ2 5 = pt b5 → ρ2 6 = .func (.func 75) #[.int .i64 n] #[] → ρ2 8 = pt b8 → W fn_ Tryd.prog 25 bound_size_all_R2 KK ρ2 w4 := by
      intro KK kN ρ2 q13 q12 q11 q4 q5 q6 q8
      refine bound_size_all_R2_held (D := []) (fun w' => w'.heap[b8]? = some (.cells l[m].cells.toArray 25 (0, 0))) hb8 ?_
      unfold bound_size_all_R2_H
      have hbd8 : ({ w4 with drawn := w4.drawn + 1 } : World).heap[b8]? = some (.cells l[m].cells.toArray 25 (0, 0)) := hb8
      have hbd5 : ({ w4 with drawn := w4.drawn + 1 } : World).heap[b5]? = some (.cells (St.bdF n zBd (l.take m)).cells.toArray 58 (0, 0)) := hb54
      have hmd : Mod (fun i => i = b5) w4 { w4 with drawn := w4.drawn + 1 } := (Mod.refl _ w4).drawn _
      have hokd : l[m].Ok { w4 with drawn := w4.drawn + 1 } := hok4.mod ((Mod.refl none_ w4).drawn _)
      generalize ({ w4 with drawn := w4.drawn + 1 } : World) = wd at hbd8 hbd5 hmd hokd ⊢
      rw [q6, q5, q8]
      have fin : ∀ (w5 : World) (x y : Value) (N : Value → Value → World → Prop), Mod none_ wd w5 → x = (St.bdF n zBd (l.take m)).v → y = (l[m].bd n).v → (∀ u v w9, w9.heap[b5]? = some (.cells (((St.bdF n zBd (l.take m)).and (l[m].bd n)).cut).cells.toArray 58 (0, 0)) → Mod (fun i => i = b5) w4 w9 → N u v w9) →
          CK Tryd.prog (.func (.func 48) #[] #[]) [x, y] w5 fun u w => w.heap[b8]? = some (.cells l[m].cells.toArray 25 (0, 0)) ∧ (CK Tryd.prog (.func (.func 76) #[] #[]) [u] w fun v w => w.heap[b8]? = some (.cells l[m].cells.toArray 25 (0, 0)) ∧ (UK Tryd.prog (Instr.storeAt 58 (pt b5) v) w fun _ w => w.heap[b8]? = some (.cells l[m].cells.toArray 25 (0, 0)) ∧ N u v w)) := by
        rintro w5 _ _ N hm5 rfl rfl hN
        refine CK_st Tryd.func48 rfl rfl (And_ok hsum (by decide)) ?_
        rintro _ w6 ⟨rfl, hm6⟩
        refine ⟨(hm5.trans hm6).blk hbd8 id, ?_⟩
        refine CK_st Tryd.func76 rfl rfl (Cut_ok _) ?_
        rintro _ w7 ⟨rfl, hm7⟩
        have hm57 := (hm5.trans hm6).trans hm7
        refine ⟨hm57.blk hbd8 id, ?_⟩
        refine stS (b := b5) (old := (St.bdF n zBd (l.take m)).cells.toArray) (cs := (((St.bdF n zBd (l.take m)).and (l[m].bd n)).cut).cells.toArray) rfl rfl iBnd rfl (bd_one _) (hm57.blk hbd5 id) fun w9 hb9 hm9 _ => ?_
        exact ⟨hm9.blk (hm57.blk hbd8 id) (by omega), hN _ _ w9 hb9 ((hmd.trans (up0 hm57)).trans hm9)⟩
      refine HV_of (v := .agg l[m].cells.toArray) (fun w' hw => run_ldB (cs := l[m].cells.toArray) Tryd.underlying25 rfl iSt hw) ⟨?_, ?_⟩
      · refine ldS (b := b5) (cs := (St.bdF n zBd (l.take m)).cells.toArray) rfl Tryd.underlying58 rfl iBnd hbd5 ⟨hbd8, FnOne n, ?_⟩
        refine CK_fn (f := 75) (first := #[.int .i64 n]) (cap := #[]) (args := [.agg l[m].cells.toArray]) Tryd.func75 rfl rfl (ih _ hmem wd hokd (by omega) (hmay _ hmem)) ?_
        rintro _ w5 ⟨rfl, hm5⟩
        refine ⟨hm5.blk hbd8 id, fin w5 _ _ _ hm5 rfl rfl fun u v w9 hb9 hm9 => kN _ w9 ?_ ?_ ?_ ?_ ?_ ?_ hb9 hm9⟩
        · exact q13
        · exact q12
        · exact q11
        · exact q4
        · exact q5
        · exact q6
      · refine ⟨FnOne n, ?_⟩
        refine CK_fn (f := 75) (first := #[.int .i64 n]) (cap := #[]) (args := [.agg l[m].cells.toArray]) Tryd.func75 rfl rfl (ih _ hmem wd hokd (by omega) (hmay _ hmem)) ?_
        rintro _ w5 ⟨rfl, hm5⟩
        refine ⟨hm5.blk hbd8 id, ?_⟩
        refine ldS (b := b5) (cs := (St.bdF n zBd (l.take m)).cells.toArray) rfl Tryd.underlying58 rfl iBnd (hm5.blk hbd5 id) ⟨hm5.blk hbd8 id, fin w5 _ _ _ hm5 rfl rfl fun u v w9 hb9 hm9 => kN _ w9 ?_ ?_ ?_ ?_ ?_ ?_ hb9 hm9⟩
        · exact q13
        · exact q12
        · exact q11
        · exact q4
        · exact q5
        · exact q6
    refine e2 _ (fun ρ3 w9 q13 q12 q11 q4 q5 q6 hb9 hm9 => ?_) _ ?_ ?_ ?_ ?_ ?_ ?_ ?_
    · rw [bk_n, sq_n, bound_size_all_R3_eq]
      unfold bound_size_all_R3_F
      refine BKadd (a := m) (b := 1) q13 rfl (by omega) (by omega) ?_
      refine ⟨⟨m + 1, hlt, rfl, q12, q11, q4, q5, q6, ?_, hm24.trans hm9⟩, ?_⟩
      · rw [List.take_add_one, hx, Option.toList_some, St.bdF_snoc]; exact hb9
      · show l.length - (intOf (Value.int .i64 ((m : Int) + 1))).toNat < _
        simp only [intOf]; omega
    · exact h13
    · exact h12
    · exact h11
    · exact h4
    · exact h5
    · exact h6
    · rfl
  · obtain rfl : m = l.length := by omega
    rw [show decide (((l.length : Nat) : Int) < (l.length : Int)) = false by simp]
    refine condF ?_
    rw [List.take_length] at hb53
    rw [sq_x, bk_x, sq_n, bound_size_all_R1_eq]
    unfold bound_size_all_R1_F
    refine ldS (b := b5) (cs := (St.bdF n zBd l).cells.toArray) h5 Tryd.underlying58 rfl iBnd hb53 ?_
    refine stS (b := b4) (old := zBd.cells.toArray) (cs := (St.bdF n zBd l).cells.toArray) h4 rfl iBnd rfl (bd_one _) (hm3.blk hb12 (by omega)) fun w4 hb4' hm4 _ => ?_
    refine rtCell (b := b4) (cs := (St.bdF n zBd l).cells.toArray) ?_ Tryd.underlying58 rfl iBnd hb4' ⟨rfl, hm03.then hm4 fun i hi q => absurd q (by omega)⟩
    exact h4
theorem bd_set0 (e : Bd) (n : Int) : e.cells.toArray.setIfInBounds 0 (.int .i64 n) = (Bd.mk n e.c e.d).cells.toArray := by simp [Bd.cells]
theorem bd_set1 (e : Bd) (n : Int) : e.cells.toArray.setIfInBounds 1 (.int .i64 n) = (Bd.mk e.s n e.d).cells.toArray := by simp [Bd.cells]
theorem bd_set2 (e : Bd) (n : Int) : e.cells.toArray.setIfInBounds 2 (.int .i64 n) = (Bd.mk e.s e.c n).cells.toArray := by simp [Bd.cells]
theorem bdSt {w : World} {b : Nat} {e : Bd} {ty : TypeId} (h : w.heap[b]? = some (.cells e.cells.toArray ty (0, 0))) {x : Value} {n : Int} {j : Nat} (hj : j < 3) (hx : x = .pointer (some ⟨b, j, none⟩)) {K : Value → World → Prop}
    (hk : ∀ w', w'.heap[b]? = some (.cells (e.cells.toArray.setIfInBounds j (.int .i64 n)) ty (0, 0)) → Mod (fun i => i = b) w w' → K undef w') : UK Tryd.prog (Instr.storeAt 3 x (.int .i64 n)) w K :=
  stC (o := j) hx (by kernel_rfl) rfl h (by simpa [Bd.cells] using hj) fun w' h1 h2 _ => hk w' h1 h2
theorem foBd {w : World} {K : Value → World → Prop} {x : Value} {b j : Nat} (hj : j < 3) (hx : x = .pointer (some ⟨b, 0, none⟩)) (hk : K (.pointer (some ⟨b, j, none⟩)) w) : VK Tryd.prog (Instr.fieldAt 58 x j) w K := by
  rw [hx]
  have : fieldOff Tryd.prog 58 j = some j := by
    match j, hj with
    | 0, _ => exact (show fieldOff Tryd.prog 58 0 = some 0 by kernel_rfl)
    | 1, _ => exact (show fieldOff Tryd.prog 58 1 = some 1 by kernel_rfl)
    | 2, _ => exact (show fieldOff Tryd.prog 58 2 = some 2 by kernel_rfl)
  rw [fo this, add_pl, Nat.zero_add]
  exact hk
theorem R5_W (z : Go.X.At) (K : Exit → Sl → World → Prop) (ρ : Sl) (w : World) : sx z Tryd.prog 74 bound_size_one_R5 K ρ w = W z Tryd.prog 74 bound_size_one_R5 K ρ w := by kernel_rfl
theorem one_of {n : Int} (hn : 1 ≤ n ∧ n ≤ 64) {e : St} (ihB : AllOk n e.body) (ihE : AllOk n e.els) : OneOk n e := by
  intro w hok hsz hmay
  obtain ⟨A, c, hs, _⟩ := reads_cap hok.exprs.1
  obtain ⟨hA, hO, hB, hE⟩ := bd_in hn e hmay hsz
  obtain ⟨_, mB, mE⟩ := may_parts hmay
  have htn := may_turns hmay
  rw [St.sz_eq] at hsz
  have hlx := Ex.len_sz e.exprs
  have hstx := Ex.stepsL_sz e.exprs
  refine bound_size_one_calls ?_
  unfold bound_size_one_F
  refine box_k (cs := e.cells.toArray) rfl fun w1 hb1 hm1 hz1 => ?_
  refine al_k zBnd rfl _ fun w2 hb2 hm2 hz2 => ?_
  rw [build_ok (bBd1 1)]
  refine lcl_k (cs := (Bd.mk 1 0 0).cells.toArray) zBnd _ iBnd rfl (bd_one _) fun w3 hb3 hm3 hz3 => ?_
  have h13 := (hm2.trans hm3).blk hb1 id
  have h23 := hm3.blk hb2 id
  have hm03 := (hm1.trans hm2).trans hm3
  have hf1 : w.heap.size < w1.heap.size := by omega
  have hf2 : w1.heap.size < w2.heap.size := by omega
  clear hm1 hb1 hm2 hb2 hm3 hz1 hz2 hz3
  generalize hE3 : w.heap.size = b3 at *
  generalize w1.heap.size = b4 at *
  generalize w2.heap.size = b5 at *
  have d5 : FAt Tryd.prog w3 25 5 ⟨b3, 0, none⟩ 22 (.slice A e.exprs.length c) := FAt.mk' (off := 5) (by kernel_rfl) uExs rfl (by rw [add_pl, cell_blk h13, ← hs]; rfl)
  refine d5.vk' fun _ => ?_
  rw [len22]
  -- the end
  have r4 : ∀ (ρ' : Sl) (w' : World) (b : Bd), ρ' 4 = pt b4 → ρ' 5 = pt b5 → w'.heap[b5]? = some (.cells b.cells.toArray 58 (0, 0)) → w'.heap[b4]? = some (.cells zBd.cells.toArray 58 (0, 0)) → b = e.bdO n → Mod none_ w w' →
      sx fn_ Tryd.prog 74 bound_size_one_R4 (retK Tryd.prog [ResultVar.cell 4 58] fun v w' => v = (e.bd n).v ∧ Mod none_ w w') ρ' w' := by
    intro ρ' w' b q4 q5 g5 g4 hb hm
    subst hb
    rw [bound_size_one_R4_eq]
    unfold bound_size_one_R4_F
    refine ldS (b := b5) (cs := (e.bdO n).cells.toArray) q5 Tryd.underlying58 rfl iBnd g5 ?_
    refine CK_st Tryd.func76 rfl rfl (Cut_ok _) ?_
    rintro _ w7 ⟨rfl, hm7⟩
    refine stS (b := b4) (old := zBd.cells.toArray) (cs := ((e.bdO n).cut).cells.toArray) q4 rfl iBnd rfl (bd_one _) (hm7.blk g4 id) fun w9 hb9 hm9 _ => ?_
    refine rtCell (b := b4) (cs := ((e.bdO n).cut).cells.toArray) ?_ Tryd.underlying58 rfl iBnd hb9 ⟨?_, (hm.trans hm7).then hm9 fun i hi q => absurd q (by omega)⟩
    · exact q4
    · rw [St.bd_eq]; rfl
  refine W_loop bound_size_one_L0_ok (fun ρ w' => ∃ m : Nat, m ≤ e.exprs.length ∧ ρ 14 = .int .i64 m ∧ ρ 13 = .int .i64 e.exprs.length ∧ ρ 12 = .slice A e.exprs.length c ∧ ρ 3 = pt b3 ∧ ρ 4 = pt b4 ∧ ρ 5 = pt b5 ∧ ρ 0 = .int .i64 n ∧ w'.heap[b5]? = some (.cells (Bd.mk (1 + Ex.stepsL (e.exprs.take m)) 0 0).cells.toArray 58 (0, 0)) ∧ Mod (fun i => i = b5) w3 w') (fun ρ _ => e.exprs.length - (intOf (ρ 14)).toNat)
    ⟨0, Nat.zero_le _, rfl, rfl, rfl, rfl, rfl, rfl, rfl, (by simpa [Ex.stepsL] using hb3), Mod.refl _ _⟩ ?_
  rintro ρ w4 ⟨m, hmn, h14, h13', h12, q3, q4, q5, q0, hb54, hm4⟩
  have hm04 : Mod none_ w w4 := hm03.then hm4 fun i hi q => by omega
  have h14' := hm4.blk h13 (by omega)
  have h24' := hm4.blk h23 (by omega)
  rw [bound_size_one_L0_eq]
  unfold bound_size_one_L0_F
  rw [h14, h13', h12]
  refine BKlss (a := m) (b := e.exprs.length) rfl rfl ?_
  by_cases hlt : m < e.exprs.length
  · rw [show decide ((m : Int) < (e.exprs.length : Int)) = true by rw [decide_eq_true_eq]; omega]
    refine condT ?_
    have hx : e.exprs[m]? = some e.exprs[m] := List.getElem?_eq_getElem hlt
    have hmem : e.exprs[m] ∈ e.exprs := List.getElem_mem hlt
    have hrow4 := hok.exprs.mod hm04
    rw [hs] at hrow4
    have hsn := Ex.szL_at hx
    have t1 := Ex.stepsL_sz (e.exprs.take m)
    have t2 := Ex.steps_sz e.exprs[m]
    refine ixEx hrow4 hx fun y => ?_
    refine lcl_k (cs := e.exprs[m].cells.toArray) zEx _ iEx rfl (ex_one (hrow4.at hx)) fun w5 hb7 hm5 hz5 => ?_
    have hb55 := hm5.blk hb54 id
    have hlt5 : b5 < w4.heap.size := X.blk_lt hb54
    have hm35 : Mod (fun i => i = b5) w3 w5 := hm4.trans (up0 hm5)
    have hok5 := (hrow4.at hx).mod hm5
    generalize w4.heap.size = b7 at *
    have e2 : ∀ (KK : Exit → Sl → World → Prop), (∀ (ρ3 : Sl) (w9 : World), ρ3 14 = .int .i64 m → ρ3 13 = .int .i64 e.exprs.length → ρ3 12 = .slice A e.exprs.length c → ρ3 3 = pt b3 → ρ3 4 = pt b4 → ρ3 5 = pt b5 → ρ3 0 = .int .i64 n → w9.heap[b5]? = some (.cells (Bd.mk (1 + Ex.stepsL (e.exprs.take m) + e.exprs[m].steps) 0 0).cells.toArray 58 (0, 0)) → Mod (fun i => i = b5) w5 w9 → KK .normal ρ3 w9) →
        ∀ (ρ2 : Sl), ρ2 14 = .int .i64 m → ρ2 13 = .int .i64 e.exprs.length → ρ2 12 = .slice A e.exprs.length c → ρ2 3 = pt b3 → ρ2 4 = pt b4 → ρ2 5 = pt b5 → ρ2 0 = .int .i64 n → ρ2 7 = pt b7 → W fn_ Tryd.prog 74 bound_size_one_R2 KK ρ2 w5 := by
      intro KK kN ρ2 p14 p13 p12 p3 p4 p5 p0 p7
      refine bound_size_one_R2_held (D := []) (fun w' => w'.heap[b7]? = some (.cells e.exprs[m].cells.toArray 29 (0, 0))) hb7 ?_
      unfold bound_size_one_R2_H
      have hbd7 : ({ w5 with drawn := w5.drawn + 1 } : World).heap[b7]? = some (.cells e.exprs[m].cells.toArray 29 (0, 0)) := hb7
      have hbd5 : ({ w5 with drawn := w5.drawn + 1 } : World).heap[b5]? = some (.cells (Bd.mk (1 + Ex.stepsL (e.exprs.take m)) 0 0).cells.toArray 58 (0, 0)) := hb55
      have hmd : Mod (fun i => i = b5) w5 { w5 with drawn := w5.drawn + 1 } := (Mod.refl _ w5).drawn _
      have hokd : e.exprs[m].Ok { w5 with drawn := w5.drawn + 1 } := hok5.mod ((Mod.refl none_ w5).drawn _)
      generalize ({ w5 with drawn := w5.drawn + 1 } : World) = wd at hbd7 hbd5 hmd hokd ⊢
      rw [p5, p7]
      have ad : ∀ w6 : World, Mod none_ wd w6 → ∀ (KN : Value → Value → World → Prop), (∀ u v w9, w9.heap[b5]? = some (.cells (Bd.mk (1 + Ex.stepsL (e.exprs.take m) + e.exprs[m].steps) 0 0).cells.toArray 58 (0, 0)) → Mod (fun i => i = b5) w5 w9 → KN u v w9) →
          HK Tryd.prog (fun w' => w'.heap[b7]? = some (.cells e.exprs[m].cells.toArray 29 (0, 0))) (do pure (Next.value (← (do eqGuard .add 3 (.tmp 19) (.tmp 21) (.int .i64 (1 + Ex.stepsL (e.exprs.take m))) (.int .i64 e.exprs[m].steps); binOp .add 3 (.int .i64 (1 + Ex.stepsL (e.exprs.take m))) (.int .i64 e.exprs[m].steps))))) fun x22 => HK Tryd.prog (fun w' => w'.heap[b7]? = some (.cells e.exprs[m].cells.toArray 29 (0, 0))) (do pure (Next.value (← Instr.fieldAt 58 (pt b5) 0))) fun x23 => UK Tryd.prog (Instr.storeAt 3 x23 x22) w6 fun _ w => w.heap[b7]? = some (.cells e.exprs[m].cells.toArray 29 (0, 0)) ∧ KN x22 x23 w := by
        intro w6 hm6 KN hk
        refine HB_of (v := .int .i64 (1 + Ex.stepsL (e.exprs.take m) + e.exprs[m].steps)) (fun _ => rfl) (fun w => by have := wrap_i (n := 1 + (Ex.stepsL (e.exprs.take m) : Int) + (e.exprs[m].steps : Int)) (by omega) (by omega); simp [go_sem, this]) ?_
        refine HV_of (fun w' _ => run_fo (off := 0) (by kernel_rfl) _ w') ?_
        rw [add_pl]
        refine bdSt (hm6.blk hbd5 id) (j := 0) (by decide) rfl fun w9 hb9 hm9 => ?_
        rw [bd_set0] at hb9
        exact ⟨hm9.blk (hm6.blk hbd7 id) (by omega), hk _ _ w9 hb9 ((hmd.trans (up0 hm6)).trans hm9)⟩
      refine HV_of (fun w' _ => run_fo (off := 0) (by kernel_rfl) _ w') (HV_of (v := .agg e.exprs[m].cells.toArray) (fun w' hw => run_ldB (cs := e.exprs[m].cells.toArray) Tryd.underlying29 rfl iEx hw) ⟨?_, ?_⟩)
      · refine ld1 (v := .int .i64 (1 + Ex.stepsL (e.exprs.take m))) uI rfl (by rw [add_pl, cell_blk hbd5]; rfl) ⟨hbd7, ?_⟩
        refine CK_st Tryd.func91 rfl rfl (bexpr_ok _ wd hokd (by omega)) ?_
        rintro _ w6 ⟨rfl, hm6⟩
        refine ⟨hm6.blk hbd7 id, ad w6 hm6 _ fun u v w9 hb9 hm9 => kN _ w9 ?_ ?_ ?_ ?_ ?_ ?_ ?_ hb9 hm9⟩
        · exact p14
        · exact p13
        · exact p12
        · exact p3
        · exact p4
        · exact p5
        · exact p0
      · refine CK_st Tryd.func91 rfl rfl (bexpr_ok _ wd hokd (by omega)) ?_
        rintro _ w6 ⟨rfl, hm6⟩
        refine ⟨hm6.blk hbd7 id, ?_⟩
        refine ld1 (v := .int .i64 (1 + Ex.stepsL (e.exprs.take m))) uI rfl (by rw [add_pl, cell_blk (hm6.blk hbd5 id)]; rfl) ⟨hm6.blk hbd7 id, ?_⟩
        refine ad w6 hm6 _ fun u v w9 hb9 hm9 => kN _ w9 ?_ ?_ ?_ ?_ ?_ ?_ ?_ hb9 hm9
        · exact p14
        · exact p13
        · exact p12
        · exact p3
        · exact p4
        · exact p5
        · exact p0
    refine e2 _ (fun ρ3 w9 p14 p13 p12 p3 p4 p5 p0 hb9 hm9 => ?_) _ ?_ ?_ ?_ ?_ ?_ ?_ ?_ ?_
    · rw [bk_n, sq_n, bound_size_one_R3_eq]
      unfold bound_size_one_R3_F
      refine BKadd (a := m) (b := 1) p14 rfl (by omega) (by omega) ?_
      refine ⟨⟨m + 1, hlt, rfl, p13, p12, p3, p4, p5, p0, ?_, hm35.trans hm9⟩, ?_⟩
      · rw [List.take_add_one, hx, Option.toList_some, Ex.stepsL_snoc]
        rw [show (1 : Int) + ((Ex.stepsL (e.exprs.take m) + e.exprs[m].steps : Nat) : Int) = 1 + Ex.stepsL (e.exprs.take m) + e.exprs[m].steps by omega]
        exact hb9
      · show e.exprs.length - (intOf (Value.int .i64 ((m : Int) + 1))).toNat < _
        simp only [intOf]; omega
    · exact h14
    · exact h13'
    · exact h12
    · exact q3
    · exact q4
    · exact q5
    · exact q0
    · rfl
  · obtain rfl : m = e.exprs.length := by omega
    rw [show decide (((e.exprs.length : Nat) : Int) < (e.exprs.length : Int)) = false by simp]
    refine condF ?_
    rw [List.take_length] at hb54
    rw [sq_x, bk_x, sq_n, bound_size_one_R1_eq]
    unfold bound_size_one_R1_F
    have hok4 := hok.mod hm04
    have d0 : FAt Tryd.prog w4 25 0 ⟨b3, 0, none⟩ 5 (.int .u8 e.op) := FAt.mk' (off := 0) (by kernel_rfl) uU8 rfl (by rw [add_pl, cell_blk h14']; rfl)
    have d4 : FAt Tryd.prog w4 25 4 ⟨b3, 0, none⟩ 3 (.int .i64 e.turns) := FAt.mk' (off := 4) (by kernel_rfl) uI rfl (by rw [add_pl, cell_blk h14']; rfl)
    have d6 : FAt Tryd.prog w4 25 6 ⟨b3, 0, none⟩ 23 e.bs := FAt.mk' (off := 6) (by kernel_rfl) uSts rfl (by rw [add_pl, cell_blk h14']; rfl)
    have hst1 : (Ex.stepsL e.exprs : Int) = Ex.stepsL e.exprs := rfl
    -- if: both blocks
    have r5 : ∀ (ρ' : Sl) (w5 : World) (b8 : Nat) (B' : Bd), e.op = 3 → B' = ⟨(St.bdF n zBd e.body).s + (if 0 < e.els.length then 1 else 0), (St.bdF n zBd e.body).c, (St.bdF n zBd e.body).d⟩ → w5.heap[b8]? = some (.cells B'.cells.toArray 58 (0, 0)) → b8 ≠ b5 → b8 ≠ b4 → Mod none_ w4 w5 ∨ True → w5.heap[b5]? = some (.cells (Bd.mk (1 + Ex.stepsL e.exprs) 0 0).cells.toArray 58 (0, 0)) → w5.heap[b4]? = some (.cells zBd.cells.toArray 58 (0, 0)) → w5.heap[b3]? = some (.cells e.cells.toArray 25 (0, 0)) → Mod none_ w w5 → ρ' 0 = .int .i64 n → ρ' 3 = pt b3 → ρ' 4 = pt b4 → ρ' 5 = pt b5 → ρ' 8 = pt b8 →
        sx fn_ Tryd.prog 74 bound_size_one_R5 (blkK 2 (seqK (sx fn_ Tryd.prog 74 bound_size_one_R4 (retK Tryd.prog [ResultVar.cell 4 58] fun v w' => v = (e.bd n).v ∧ Mod none_ w w')) (retK Tryd.prog [ResultVar.cell 4 58] fun v w' => v = (e.bd n).v ∧ Mod none_ w w'))) ρ' w5 := by
      intro ρ' w5 b8 B' k3 hB' g8 n85 n84 _ g5 g4 g3 hm05 p0 p3 p4 p5 p8
      have hB'in : B'.In 1048578 := by
        subst hB'
        obtain ⟨⟨x1, x2⟩, ⟨x3, x4⟩, x5, x6⟩ := hB
        refine ⟨⟨?_, ?_⟩, ⟨?_, ?_⟩, ?_, ?_⟩ <;> dsimp only <;> first | omega | (split <;> omega)
      have hor := hB'in.or (hE.mono (k := 1048578) (by decide))
      have hand : (Bd.and (Bd.mk (1 + Ex.stepsL e.exprs) 0 0) (B'.or (St.bdF n zBd e.els))).In 4398047560000 := by
        obtain ⟨⟨x1, x2⟩, ⟨x3, x4⟩, x5, x6⟩ := hor
        unfold Bd.and
        refine ⟨⟨?_, ?_⟩, ⟨?_, ?_⟩, ?_, ?_⟩ <;> dsimp only <;> omega
      have hres : Bd.and (Bd.mk (1 + Ex.stepsL e.exprs) 0 0) (B'.or (St.bdF n zBd e.els)) = e.bdO n := by
        unfold St.bdO oneB
        rw [if_pos k3, hB']
        simp [Bd.and, Bd.or]
      rw [R5_W]
      let S : World → Prop := fun w' => w'.heap[b8]? = some (.cells B'.cells.toArray 58 (0, 0)) ∧ w'.heap[b3]? = some (.cells e.cells.toArray 25 (0, 0))
      refine bound_size_one_R5_held (D := []) S ⟨g8, g3⟩ ?_
      unfold bound_size_one_R5_H
      have gd8 : ({ w5 with drawn := w5.drawn + 1 } : World).heap[b8]? = some (.cells B'.cells.toArray 58 (0, 0)) := g8
      have gd5 : ({ w5 with drawn := w5.drawn + 1 } : World).heap[b5]? = some (.cells (Bd.mk (1 + Ex.stepsL e.exprs) 0 0).cells.toArray 58 (0, 0)) := g5
      have gd4 : ({ w5 with drawn := w5.drawn + 1 } : World).heap[b4]? = some (.cells zBd.cells.toArray 58 (0, 0)) := g4
      have gd3 : ({ w5 with drawn := w5.drawn + 1 } : World).heap[b3]? = some (.cells e.cells.toArray 25 (0, 0)) := g3
      have hmd : Mod none_ w { w5 with drawn := w5.drawn + 1 } := hm05.drawn _
      generalize ({ w5 with drawn := w5.drawn + 1 } : World) = wd at gd8 gd5 gd4 gd3 hmd ⊢
      have hSd : ∀ w', Mod none_ wd w' → S w' := fun w' hw => ⟨hw.blk gd8 id, hw.blk gd3 id⟩
      rw [p8, p3, p5, p0]
      have hels := (hok.mod hmd).els
      have fin : ∀ (w6 : World) (x y : Value) (N : Value → World → Prop), Mod none_ wd w6 → x = (Bd.mk (1 + Ex.stepsL e.exprs) 0 0).v → y = (B'.or (St.bdF n zBd e.els)).v → (∀ u w9, w9.heap[b5]? = some (.cells (e.bdO n).cells.toArray 58 (0, 0)) → w9.heap[b4]? = some (.cells zBd.cells.toArray 58 (0, 0)) → Mod none_ w w9 → N u w9) →
          CK Tryd.prog (.func (.func 48) #[] #[]) [x, y] w6 fun u w => S w ∧ (UK Tryd.prog (Instr.storeAt 58 (pt b5) u) w fun _ w => S w ∧ N u w) := by
        rintro w6 _ _ N hm6 rfl rfl hN
        refine CK_st Tryd.func48 rfl rfl (And_ok hand (by decide)) ?_
        rintro _ w7 ⟨rfl, hm7⟩
        have hm67 := hm6.trans hm7
        refine ⟨hSd _ hm67, ?_⟩
        refine stS (b := b5) (old := (Bd.mk (1 + Ex.stepsL e.exprs) 0 0).cells.toArray) (cs := (e.bdO n).cells.toArray) rfl (by rw [hres]; rfl) iBnd rfl (bd_one _) (hm67.blk gd5 id) fun w9 hb9 hm9 _ => ?_
        exact ⟨⟨hm9.blk (hm67.blk gd8 id) n85, hm9.blk (hm67.blk gd3 id) (by omega)⟩, hN _ w9 hb9 (hm9.blk (hm67.blk gd4 id) (by omega)) ((hmd.trans hm67).then hm9 fun i hi q => absurd q (by omega))⟩
      have end_ : ∀ (ρ5 : Sl) (w9 : World), ρ5 4 = pt b4 → ρ5 5 = pt b5 → w9.heap[b5]? = some (.cells (e.bdO n).cells.toArray 58 (0, 0)) → w9.heap[b4]? = some (.cells zBd.cells.toArray 58 (0, 0)) → Mod none_ w w9 →
          blkK 2 (seqK (sx fn_ Tryd.prog 74 bound_size_one_R4 (retK Tryd.prog [ResultVar.cell 4 58] fun v w' => v = (e.bd n).v ∧ Mod none_ w w')) (retK Tryd.prog [ResultVar.cell 4 58] fun v w' => v = (e.bd n).v ∧ Mod none_ w w')) .normal ρ5 w9 := by
        intro ρ5 w9 t4 t5 h5 h4 hm
        rw [bk_n, sq_n]
        exact r4 _ w9 _ t4 t5 h5 h4 rfl hm
      have lx : ∀ w6, Mod none_ wd w6 → ∀ (KN : Value → World → Prop), KN (Bd.mk (1 + Ex.stepsL e.exprs) 0 0).v w6 → VK Tryd.prog (Instr.loadAt 58 (pt b5)) w6 KN := fun w6 hm6 KN hk =>
        ldS (b := b5) (cs := (Bd.mk (1 + Ex.stepsL e.exprs) 0 0).cells.toArray) rfl Tryd.underlying58 rfl iBnd (hm6.blk gd5 id) hk
      refine HV_of (v := B'.v) (fun w' hw => run_ldB (cs := B'.cells.toArray) Tryd.underlying58 rfl iBnd hw.1) ?_
      refine HV_of (fun w' _ => run_fo (off := 7) (by kernel_rfl) _ w') (HV_of (v := e.ls) (fun w' hw => run_ld1 uSts rfl (by rw [add_pl, cell_blk hw.2]; rfl)) ⟨?_, ?_⟩)
      · refine lx wd (Mod.refl _ _) _ ⟨hSd _ (Mod.refl _ _), ?_⟩
        refine CK_st Tryd.func47 rfl rfl (ihE wd _ hels (by omega) mE) ?_
        rintro _ w6 ⟨rfl, hm6⟩
        refine ⟨hSd _ hm6, ?_⟩
        refine CK_st Tryd.func92 rfl rfl (Or_ok _ _) ?_
        rintro _ w7 ⟨rfl, hm7⟩
        refine ⟨hSd _ (hm6.trans hm7), fin w7 _ _ _ (hm6.trans hm7) rfl rfl fun u w9 h5 h4 hm => end_ _ w9 ?_ ?_ h5 h4 hm⟩
        · exact p4
        · exact p5
      · refine CK_st Tryd.func47 rfl rfl (ihE wd _ hels (by omega) mE) ?_
        rintro _ w6 ⟨rfl, hm6⟩
        refine ⟨hSd _ hm6, ?_, ?_⟩
        · refine lx w6 hm6 _ ⟨hSd _ hm6, ?_⟩
          refine CK_st Tryd.func92 rfl rfl (Or_ok _ _) ?_
          rintro _ w7 ⟨rfl, hm7⟩
          refine ⟨hSd _ (hm6.trans hm7), fin w7 _ _ _ (hm6.trans hm7) rfl rfl fun u w9 h5 h4 hm => end_ _ w9 ?_ ?_ h5 h4 hm⟩
          · exact p4
          · exact p5
        · refine CK_st Tryd.func92 rfl rfl (Or_ok _ _) ?_
          rintro _ w7 ⟨rfl, hm7⟩
          refine ⟨hSd _ (hm6.trans hm7), ?_⟩
          refine lx w7 (hm6.trans hm7) _ ⟨hSd _ (hm6.trans hm7), ?_⟩
          refine fin w7 _ _ _ (hm6.trans hm7) rfl rfl fun u w9 h5 h4 hm => end_ _ w9 ?_ ?_ h5 h4 hm
          · exact p4
          · exact p5
    have r6 : ∀ (ρ' : Sl) (t : Int), e.op = 5 → ρ' 9 = .int .i64 t → t = (if e.turns = 0 then n else e.turns) → ρ' 0 = .int .i64 n → ρ' 3 = pt b3 → ρ' 4 = pt b4 → ρ' 5 = pt b5 →
        sx fn_ Tryd.prog 74 bound_size_one_R6 (blkK 2 (seqK (sx fn_ Tryd.prog 74 bound_size_one_R4 (retK Tryd.prog [ResultVar.cell 4 58] fun v w' => v = (e.bd n).v ∧ Mod none_ w w')) (retK Tryd.prog [ResultVar.cell 4 58] fun v w' => v = (e.bd n).v ∧ Mod none_ w w'))) ρ' w4 := by
      intro ρ' t k5 p9 ht p0 p3 p4 p5
      have ht2 : 0 ≤ t ∧ t ≤ 1000 := by rw [ht]; split <;> omega
      rw [bound_size_one_R6_eq]
      unfold bound_size_one_R6_F
      rw [p0, p9]
      refine d6.vs p3 fun _ => ?_
      refine CK_st Tryd.func47 rfl rfl (ihB w4 _ hok4.body (by omega) mB) ?_
      rintro _ w5 ⟨rfl, hm5⟩
      rw [build_ok (bBd1 9)]
      have i1 : ((St.bdF n zBd e.body).and (Bd.mk 9 0 0)).In 1048586 := by
        obtain ⟨⟨x1, x2⟩, ⟨x3, x4⟩, x5, x6⟩ := hB
        unfold Bd.and
        refine ⟨⟨?_, ?_⟩, ⟨?_, ?_⟩, ?_, ?_⟩ <;> dsimp only <;> omega
      have i2 := i1.times ht2
      have i3 : ((((St.bdF n zBd e.body).and (Bd.mk 9 0 0)).times t).and (Bd.mk 6 0 0)).In 1048586006 := by
        obtain ⟨⟨x1, x2⟩, ⟨x3, x4⟩, x5, x6⟩ := i2
        unfold Bd.and at *
        refine ⟨⟨?_, ?_⟩, ⟨?_, ?_⟩, ?_, ?_⟩ <;> dsimp only at * <;> omega
      refine CK_st Tryd.func48 rfl rfl (And_ok (b := Bd.mk 9 0 0) i1 (by decide)) ?_
      rintro _ w6 ⟨rfl, hm6⟩
      refine CK_st Tryd.func93 rfl rfl (Times_ok i2 (by decide)) ?_
      rintro _ w7 ⟨rfl, hm7⟩
      rw [build_ok (bBd1 6)]
      refine CK_st Tryd.func48 rfl rfl (And_ok (b := Bd.mk 6 0 0) i3 (by decide)) ?_
      rintro _ w8 ⟨rfl, hm8⟩
      have hm48 := ((hm5.trans hm6).trans hm7).trans hm8
      have hres : ((((St.bdF n zBd e.body).and (Bd.mk 9 0 0)).times t).and (Bd.mk 6 0 0)) = e.bdO n := by
        unfold St.bdO oneB
        rw [if_neg (by omega), if_pos k5, ← ht]
        simp [Bd.and, Bd.times]
      refine stS (b := b5) (old := (Bd.mk (1 + Ex.stepsL e.exprs) 0 0).cells.toArray) (cs := (e.bdO n).cells.toArray) p5 (by rw [hres]; rfl) iBnd rfl (bd_one _) (hm48.blk hb54 id) fun w9 hb9 hm9 _ => ?_
      rw [bk_n, sq_n]
      refine r4 _ w9 _ ?_ ?_ hb9 (hm9.blk (hm48.blk h24' id) (by omega)) rfl ((hm04.trans hm48).then hm9 fun i hi q => absurd q (by omega))
      · exact p4
      · exact p5
    refine d0.vs q3 fun _ => ?_
    refine BKeqI (a := e.op) (b := 3) rfl rfl (fun k3 => condT ?_) (fun k3 => condF ?_)
    · refine d6.vs ?_ fun _ => ?_
      · exact q3
      refine CK_eq (bs := [.int .i64 n, e.bs]) rfl ?_ (CK_st Tryd.func47 rfl rfl (ihB w4 _ hok4.body (by omega) mB) ?_)
      · exact congrArg (fun z => [z, e.bs]) q0
      rintro _ w5 ⟨rfl, hm5⟩
      refine lcl_k (cs := (St.bdF n zBd e.body).cells.toArray) zBnd _ iBnd rfl (bd_one _) fun w6 hb6 hm6 hz6 => ?_
      have hm46 := hm5.trans hm6
      have l5 : b5 < w5.heap.size := by have := X.blk_lt hb54; have := hm5.size; omega
      generalize w5.heap.size = b8 at *
      obtain ⟨A7, c7, hs7, _⟩ := reads_cap hok4.els.1
      have g3 := hm46.blk h14' id
      have d7 : FAt Tryd.prog w6 25 7 ⟨b3, 0, none⟩ 23 (.slice A7 e.els.length c7) := FAt.mk' (off := 7) (by kernel_rfl) uSts rfl (by rw [add_pl, cell_blk g3, ← hs7]; rfl)
      refine d7.vs ?_ fun _ => ?_
      · exact q3
      rw [len23]
      refine BKgtr (a := e.els.length) (b := 0) rfl rfl ?_
      by_cases hle : 0 < e.els.length
      · rw [show decide ((0 : Int) < (e.els.length : Int)) = true by rw [decide_eq_true_eq]; omega]
        refine condT ?_
        refine (bdF hb6).1.vk' fun _ => ?_
        have := hB.1
        refine BKadd (a := (St.bdF n zBd e.body).s) (b := 1) rfl rfl (by omega) (by omega) ?_
        refine foBd (j := 0) (by decide) rfl ?_
        refine bdSt hb6 (j := 0) (by decide) rfl fun w7 hb7 hm7 => ?_
        rw [bd_set0] at hb7
        refine r5 _ w7 b8 _ k3 (by rw [if_pos hle]) hb7 (by omega) (by omega) (Or.inr trivial) (hm7.blk (hm46.blk hb54 id) (by omega)) (hm7.blk (hm46.blk h24' id) (by omega)) (hm7.blk g3 (by omega)) ((hm04.trans hm46).then hm7 fun i hi q => absurd q (by omega)) ?_ ?_ ?_ ?_ ?_
        · exact q0
        · exact q3
        · exact q4
        · exact q5
        · rfl
      · rw [show decide ((0 : Int) < (e.els.length : Int)) = false by rw [decide_eq_false_iff_not]; omega]
        refine condF ?_
        refine r5 _ w6 b8 (St.bdF n zBd e.body) k3 (by rw [if_neg hle, Int.add_zero]) hb6 (by omega) (by omega) (Or.inr trivial) (hm46.blk hb54 id) (hm46.blk h24' id) g3 (hm04.trans hm46) ?_ ?_ ?_ ?_ ?_
        · exact q0
        · exact q3
        · exact q4
        · exact q5
        · rfl
    refine BKeqI (a := e.op) (b := 5) rfl rfl (fun k5 => condT ?_) (fun k5 => condF ?_)
    · refine d4.vs ?_ fun _ => ?_
      · exact q3
      refine BKeqI (a := e.turns) (b := 0) rfl rfl (fun kt => condT ?_) (fun kt => condF ?_)
      · refine r6 _ n k5 ?_ (by rw [if_pos kt]) ?_ ?_ ?_ ?_
        · exact q0
        · exact q0
        · exact q3
        · exact q4
        · exact q5
      · refine r6 _ e.turns k5 rfl (by rw [if_neg kt]) ?_ ?_ ?_ ?_
        · exact q0
        · exact q3
        · exact q4
        · exact q5
    refine BKeqI (a := e.op) (b := 8) rfl rfl (fun k8 => condT ?_) (fun k8 => condF ?_)
    · refine foBd (j := 1) (by decide) (b := b5) ?_ ?_
      · exact q5
      refine bdSt hb54 (j := 1) (by decide) rfl fun w5 hb5' hm5 => ?_
      rw [bd_set1] at hb5'
      have g3 := hm5.blk h14' (by omega)
      refine ldS (b := b3) (cs := e.cells.toArray) ?_ Tryd.underlying25 rfl iSt g3 ?_
      · exact q3
      have hm05 : Mod none_ w w5 := hm04.then hm5 fun i hi q => absurd q (by omega)
      refine CK_st Tryd.func51 rfl rfl (Decides_ok (hok.mod hm05)) ?_
      rintro _ w6 ⟨rfl, hm6⟩
      have g56 := hm6.blk hb5' id
      have g46 := hm6.blk (hm5.blk h24' (by omega)) id
      refine caseC (fun hd => ?_) (fun hd => ?_)
      · refine foBd (j := 2) (by decide) (b := b5) ?_ ?_
        · exact q5
        refine bdSt g56 (j := 2) (by decide) rfl fun w7 hb7 hm7 => ?_
        rw [bd_set2] at hb7
        refine r4 _ w7 _ ?_ ?_ hb7 (hm7.blk g46 (by omega)) ?_ ((hm05.trans hm6).then hm7 fun i hi q => absurd q (by omega))
        · exact q4
        · exact q5
        · unfold St.bdO oneB
          rw [if_neg k3, if_neg k5, if_pos k8, hd]; rfl
      · refine r4 _ w6 _ ?_ ?_ g56 g46 ?_ (hm05.trans hm6)
        · exact q4
        · exact q5
        · unfold St.bdO oneB
          rw [if_neg k3, if_neg k5, if_pos k8, hd]; rfl
    · refine r4 _ w4 _ ?_ ?_ hb54 h24' ?_ hm04
      · exact q4
      · exact q5
      · unfold St.bdO oneB
        rw [if_neg k3, if_neg k5, if_neg k8]
theorem all_of {n : Int} (hn : 1 ≤ n ∧ n ≤ 64) : ∀ e : St, AllOk n e.body ∧ AllOk n e.els := by
  intro e
  induction e using St.ind with
  | h e ih1 ih2 => exact ⟨all_row hn fun a ha => one_of hn (ih1 a ha).1 (ih1 a ha).2, all_row hn fun a ha => one_of hn (ih2 a ha).1 (ih2 a ha).2⟩
theorem All_ok {n : Int} (hn : 1 ≤ n ∧ n ≤ 64) (l : List St) : AllOk n l := all_row hn fun a _ => one_of hn (all_of hn a).1 (all_of hn a).2
end Go.Proofs.YtpkfbaagpjdifaaDoor.Tr
set_option linter.unusedVariables false
set_option linter.unusedSimpArgs false
set_option maxRecDepth 4000
namespace Go.Proofs.YtpkfbaagpjdifaaDoor.Tr
open Go Go.X Go.RowKit Go.Proofs.YtpkfbaagpjdifaaDoor.XH Go.Proofs.YtpkfbaagpjdifaaDoor.XK
end Go.Proofs.YtpkfbaagpjdifaaDoor.Tr
set_option linter.unusedVariables false
set_option maxRecDepth 100000
namespace Go.Proofs.YtpkfbaagpjdifaaDoor.XI
open Go Go.X
noncomputable def limits_Runs_b : Code := (Tryd.f10.body).getD .skip
noncomputable def limits_Runs_R0 : Code := cAt [1, 1, 1, 0, 1] limits_Runs_b
noncomputable def limits_Runs_R1 : Code := cAt [1, 1, 1, 1] limits_Runs_b
noncomputable def limits_Runs_R0_F (z : At) (K : Exit → Sl → World → Prop) (ρ : Sl) (w : World) : Prop :=
  CondK (ρ 27) (K .ret (up (up ρ 4 (Value.int .i64 0)) 5 (Value.int .i64 90)) w) (K .normal ρ w)
theorem limits_Runs_R0_eq (z : At) (K : Exit → Sl → World → Prop) (ρ : Sl) (w : World) : sx z Tryd.prog 29 limits_Runs_R0 K ρ w = limits_Runs_R0_F z K ρ w := by kernel_rfl
noncomputable def limits_Runs_R1_F (z : At) (K : Exit → Sl → World → Prop) (ρ : Sl) (w : World) : Prop :=
  K .ret (up (up (up ρ 28 (ρ 8)) 4 (ρ 8)) 5 (Value.int .i64 0)) w
theorem limits_Runs_R1_eq (z : At) (K : Exit → Sl → World → Prop) (ρ : Sl) (w : World) : sx z Tryd.prog 29 limits_Runs_R1 K ρ w = limits_Runs_R1_F z K ρ w := by kernel_rfl
noncomputable def limits_Runs_F (a0 a1 : Value) (w : World) (R : Value → World → Prop) : Prop :=
  VK Tryd.prog (Instr.box 34 a0) w fun x2 w => VK Tryd.prog (Instr.loadAt 34 x2) w fun x10 w => CK Tryd.prog (Value.func (Fn.func 21) #[] #[]) [x10, a1] w fun x12 w => VK Tryd.prog (Instr.extract x12 0) w fun x13 w => VK Tryd.prog (Instr.extract x12 1) w fun x14 w => VK Tryd.prog (Instr.alloc 58 true (.tuple #[])) w fun x6 w => UK Tryd.prog (Instr.storeAt 58 x6 x13) w fun _ w => BK Tryd.prog .neq 38 (.tmp 15) (.const (Value.int .i64 0)) x14 (Value.int .i64 0) w fun x16 w => CondK x16 (R (Value.tuple #[(Value.int .i64 0), x14]) w) (VK Tryd.prog (Instr.fieldAt 34 x2 1) w fun x18 w => VK Tryd.prog (Instr.loadAt 23 x18) w fun x19 w => CK Tryd.prog (Value.func (Fn.func 24) #[] #[]) [x19, a1] w fun x21 w => CK Tryd.prog (Value.func (Fn.func 22) #[] #[]) [x21] w fun x22 w => CK Tryd.prog (Value.func (Fn.func 23) #[] #[]) [x22, a1] w fun x24 w => CK Tryd.prog (Value.func (Fn.func 22) #[] #[]) [x24] w fun x25 w => BK Tryd.prog .gtr 3 (.tmp 26) (.const (Value.int .i64 65536)) x25 (Value.int .i64 65536) w fun x27 w => sx fn_ Tryd.prog 29 limits_Runs_R0 (seqK (sx fn_ Tryd.prog 29 limits_Runs_R1 (retK Tryd.prog [ResultVar.tmp 4, ResultVar.tmp 5] R)) (retK Tryd.prog [ResultVar.tmp 4, ResultVar.tmp 5] R)) (up (up (up (up (up (up (up (up (up (up (up (up (up (up (up (up (up (up (up (up (up (up (up (up (rho0 [a0, a1]) 2 x2) 4 (Value.int .i64 0)) 5 (Value.int .i64 0)) 10 x10) 11 a1) 12 x12) 9 x12) 13 x13) 14 x14) 6 x6) 7 x14) 15 x14) 16 x16) 18 x18) 19 x19) 20 a1) 21 x21) 22 x22) 23 a1) 24 x24) 25 x25) 8 x25) 26 x25) 27 x27) w)
theorem limits_Runs_eq (a0 a1 : Value) (w : World) (R : Value → World → Prop) : sx fn_ Tryd.prog 29 limits_Runs_b (retK Tryd.prog Tryd.f10.results.toList R) (rho0 [a0, a1]) w = limits_Runs_F a0 a1 w R := by kernel_rfl
theorem limits_Runs_calls {a0 a1 : Value} {w : World} {R : Value → World → Prop} (h : limits_Runs_F a0 a1 w R) : Calls Tryd.prog 10 #[a0, a1] w fun e w' => ∃ v, e = .returned v ∧ R v w' :=
  Go.X.calls_of_sx (n := 29) (c := limits_Runs_b) Tryd.func10 (by kernel_rfl) (by kernel_rfl) (Nat.le_of_ble_eq_true rfl) (by kernel_rfl) (Eq.mpr (limits_Runs_eq a0 a1 w R) h)
noncomputable def limits_Steps_b : Code := (Tryd.f11.body).getD .skip
noncomputable def limits_Steps_R0 : Code := cAt [1, 1, 1, 1, 0, 1] limits_Steps_b
noncomputable def limits_Steps_R1 : Code := cAt [1, 1, 1, 1, 1] limits_Steps_b
noncomputable def limits_Steps_R0_F (z : At) (K : Exit → Sl → World → Prop) (ρ : Sl) (w : World) : Prop :=
  CondK (ρ 28) (K .ret (up (up ρ 4 (Value.int .i64 0)) 5 (Value.int .i64 90)) w) (K .normal ρ w)
theorem limits_Steps_R0_eq (z : At) (K : Exit → Sl → World → Prop) (ρ : Sl) (w : World) : sx z Tryd.prog 30 limits_Steps_R0 K ρ w = limits_Steps_R0_F z K ρ w := by kernel_rfl
noncomputable def limits_Steps_R1_F (z : At) (K : Exit → Sl → World → Prop) (ρ : Sl) (w : World) : Prop :=
  K .ret (up (up (up ρ 29 (ρ 8)) 4 (ρ 8)) 5 (Value.int .i64 0)) w
theorem limits_Steps_R1_eq (z : At) (K : Exit → Sl → World → Prop) (ρ : Sl) (w : World) : sx z Tryd.prog 30 limits_Steps_R1 K ρ w = limits_Steps_R1_F z K ρ w := by kernel_rfl
noncomputable def limits_Steps_F (a0 a1 : Value) (w : World) (R : Value → World → Prop) : Prop :=
  VK Tryd.prog (Instr.box 34 a0) w fun x2 w => VK Tryd.prog (Instr.loadAt 34 x2) w fun x10 w => CK Tryd.prog (Value.func (Fn.func 21) #[] #[]) [x10, a1] w fun x12 w => VK Tryd.prog (Instr.extract x12 0) w fun x13 w => VK Tryd.prog (Instr.extract x12 1) w fun x14 w => VK Tryd.prog (Instr.alloc 58 true (.tuple #[])) w fun x6 w => UK Tryd.prog (Instr.storeAt 58 x6 x13) w fun _ w => BK Tryd.prog .neq 38 (.tmp 15) (.const (Value.int .i64 0)) x14 (Value.int .i64 0) w fun x16 w => CondK x16 (R (Value.tuple #[(Value.int .i64 0), x14]) w) (VK Tryd.prog (Instr.fieldAt 58 x6 0) w fun x18 w => VK Tryd.prog (Instr.loadAt 3 x18) w fun x19 w => VK Tryd.prog (Instr.fieldAt 58 x6 1) w fun x21 w => VK Tryd.prog (Instr.loadAt 3 x21) w fun x22 w => BK Tryd.prog .mul 3 (.const (Value.int .i64 2)) (.tmp 22) (Value.int .i64 2) x22 w fun x23 w => BK Tryd.prog .add 3 (.tmp 23) (.const (Value.int .i64 1)) x23 (Value.int .i64 1) w fun x24 w => BK Tryd.prog .mul 3 (.tmp 20) (.tmp 24) a1 x24 w fun x25 w => IK Tryd.prog .max #[3, 3] 3 [false, false] [x19, x25] w fun x26 w => BK Tryd.prog .gtr 3 (.tmp 27) (.const (Value.int .i64 1048576)) x26 (Value.int .i64 1048576) w fun x28 w => sx fn_ Tryd.prog 30 limits_Steps_R0 (seqK (sx fn_ Tryd.prog 30 limits_Steps_R1 (retK Tryd.prog [ResultVar.tmp 4, ResultVar.tmp 5] R)) (retK Tryd.prog [ResultVar.tmp 4, ResultVar.tmp 5] R)) (up (up (up (up (up (up (up (up (up (up (up (up (up (up (up (up (up (up (up (up (up (up (up (up (up (rho0 [a0, a1]) 2 x2) 4 (Value.int .i64 0)) 5 (Value.int .i64 0)) 10 x10) 11 a1) 12 x12) 9 x12) 13 x13) 14 x14) 6 x6) 7 x14) 15 x14) 16 x16) 18 x18) 19 x19) 20 a1) 21 x21) 22 x22) 23 x23) 24 x24) 25 x25) 26 x26) 8 x26) 27 x26) 28 x28) w)
theorem limits_Steps_eq (a0 a1 : Value) (w : World) (R : Value → World → Prop) : sx fn_ Tryd.prog 30 limits_Steps_b (retK Tryd.prog Tryd.f11.results.toList R) (rho0 [a0, a1]) w = limits_Steps_F a0 a1 w R := by kernel_rfl
theorem limits_Steps_calls {a0 a1 : Value} {w : World} {R : Value → World → Prop} (h : limits_Steps_F a0 a1 w R) : Calls Tryd.prog 11 #[a0, a1] w fun e w' => ∃ v, e = .returned v ∧ R v w' :=
  Go.X.calls_of_sx (n := 30) (c := limits_Steps_b) Tryd.func11 (by kernel_rfl) (by kernel_rfl) (Nat.le_of_ble_eq_true rfl) (by kernel_rfl) (Eq.mpr (limits_Steps_eq a0 a1 w R) h)
noncomputable def limits_ways_b : Code := (Tryd.f13.body).getD .skip
noncomputable def limits_ways_R0 : Code := cAt [1, 1, 0, 1, 0, 1, 1, 1, 1, 1, 0, 1, 1] limits_ways_b
noncomputable def limits_ways_R1 : Code := cAt [1, 1, 1] limits_ways_b
noncomputable def limits_ways_R0_F (z : At) (K : Exit → Sl → World → Prop) (ρ : Sl) (w : World) : Prop :=
  CK Tryd.prog (Value.func (Fn.func 23) #[] #[]) [(ρ 5), (ρ 6)] w fun x36 w => CK Tryd.prog (Value.func (Fn.func 22) #[] #[]) [x36] w fun x37 w => K .ret (up (up (up (up (up ρ 34 (ρ 5)) 35 (ρ 6)) 36 x36) 37 x37) 4 x37) w
theorem limits_ways_R0_eq (z : At) (K : Exit → Sl → World → Prop) (ρ : Sl) (w : World) : sx z Tryd.prog 41 limits_ways_R0 K ρ w = limits_ways_R0_F z K ρ w := by kernel_rfl
noncomputable def limits_ways_F (a0 a1 : Value) (w : World) (R : Value → World → Prop) : Prop :=
  VK Tryd.prog (Instr.box 25 a0) w fun x2 w => VK Tryd.prog (Instr.fieldAt 25 x2 6) w fun x7 w => VK Tryd.prog (Instr.loadAt 23 x7) w fun x8 w => CK Tryd.prog (Value.func (Fn.func 24) #[] #[]) [x8, a1] w fun x10 w => CK Tryd.prog (Value.func (Fn.func 22) #[] #[]) [x10] w fun x11 w => VK Tryd.prog (Instr.fieldAt 25 x2 0) w fun x12 w => VK Tryd.prog (Instr.loadAt 5 x12) w fun x13 w => BK Tryd.prog .eql 5 (.tmp 13) (.const (Value.int .u8 3)) x13 (Value.int .u8 3) w fun x15 w => CondK x15 (VK Tryd.prog (Instr.fieldAt 25 x2 7) w fun x17 w => VK Tryd.prog (Instr.loadAt 23 x17) w fun x18 w => CK Tryd.prog (Value.func (Fn.func 24) #[] #[]) [x18, a1] w fun x20 w => CK Tryd.prog (Value.func (Fn.func 22) #[] #[]) [x20] w fun x21 w => IK Tryd.prog .max #[3, 3] 3 [false, false] [x11, x21] w fun x22 w => R x22 w) (BK Tryd.prog .eql 5 (.tmp 13) (.const (Value.int .u8 4)) x13 (Value.int .u8 4) w fun x24 w => CondK x24 (BK Tryd.prog .gtr 3 (.tmp 25) (.const (Value.int .i64 1)) x11 (Value.int .i64 1) w fun x26 w => CondK x26 (R (Value.int .i64 1048576) w) (R (Value.int .i64 1) w)) (BK Tryd.prog .eql 5 (.tmp 13) (.const (Value.int .u8 5)) x13 (Value.int .u8 5) w fun x28 w => CondK x28 (VK Tryd.prog (Instr.fieldAt 25 x2 4) w fun x29 w => VK Tryd.prog (Instr.loadAt 3 x29) w fun x30 w => BK Tryd.prog .eql 3 (.tmp 31) (.const (Value.int .i64 0)) x30 (Value.int .i64 0) w fun x32 w => CondK x32 (sx fn_ Tryd.prog 41 limits_ways_R0 (blkK 0 (seqK (sx fn_ Tryd.prog 41 limits_ways_R1 (retK Tryd.prog [ResultVar.tmp 4] R)) (retK Tryd.prog [ResultVar.tmp 4] R))) (up (up (up (up (up (up (up (up (up (up (up (up (up (up (up (up (up (up (up (up (up (up (up (rho0 [a0, a1]) 2 x2) 4 (Value.int .i64 0)) 7 x7) 8 x8) 9 a1) 10 x10) 11 x11) 5 x11) 12 x12) 13 x13) 15 x15) 14 x15) 24 x24) 23 x24) 28 x28) 27 x28) 29 x29) 30 x30) 6 x30) 31 x30) 32 x32) 33 a1) 6 a1) w) (sx fn_ Tryd.prog 41 limits_ways_R0 (blkK 0 (seqK (sx fn_ Tryd.prog 41 limits_ways_R1 (retK Tryd.prog [ResultVar.tmp 4] R)) (retK Tryd.prog [ResultVar.tmp 4] R))) (up (up (up (up (up (up (up (up (up (up (up (up (up (up (up (up (up (up (up (up (up (rho0 [a0, a1]) 2 x2) 4 (Value.int .i64 0)) 7 x7) 8 x8) 9 a1) 10 x10) 11 x11) 5 x11) 12 x12) 13 x13) 15 x15) 14 x15) 24 x24) 23 x24) 28 x28) 27 x28) 29 x29) 30 x30) 6 x30) 31 x30) 32 x32) w)) (VK Tryd.prog (Instr.loadAt 25 x2) w fun x38 w => CK Tryd.prog (Value.func (Fn.func 25) #[] #[]) [x38, a1] w fun x40 w => R x40 w)))
theorem limits_ways_eq (a0 a1 : Value) (w : World) (R : Value → World → Prop) : sx fn_ Tryd.prog 41 limits_ways_b (retK Tryd.prog Tryd.f13.results.toList R) (rho0 [a0, a1]) w = limits_ways_F a0 a1 w R := by kernel_rfl
theorem limits_ways_calls {a0 a1 : Value} {w : World} {R : Value → World → Prop} (h : limits_ways_F a0 a1 w R) : Calls Tryd.prog 13 #[a0, a1] w fun e w' => ∃ v, e = .returned v ∧ R v w' :=
  Go.X.calls_of_sx (n := 41) (c := limits_ways_b) Tryd.func13 (by kernel_rfl) (by kernel_rfl) (Nat.le_of_ble_eq_true rfl) (by kernel_rfl) (Eq.mpr (limits_ways_eq a0 a1 w R) h)
noncomputable def limits_out_b : Code := (Tryd.f25.body).getD .skip
noncomputable def limits_out_F (a0 a1 : Value) (w : World) (R : Value → World → Prop) : Prop :=
  VK Tryd.prog (Instr.box 25 a0) w fun x2 w => VK Tryd.prog (Instr.loadAt 25 x2) w fun x5 w => CK Tryd.prog (Value.func (Fn.func 51) #[] #[]) [x5] w fun x6 w => VK Tryd.prog (Op.unary UnOp.not x6) w fun x7 w => CondK x7 (R (Value.int .i64 1) w) (VK Tryd.prog (Instr.fieldAt 25 x2 1) w fun x8 w => VK Tryd.prog (Instr.loadAt 5 x8) w fun x9 w => BK Tryd.prog .eql 5 (.tmp 9) (.const (Value.int .u8 14)) x9 (Value.int .u8 14) w fun x11 w => CondK x11 (BK Tryd.prog .add 3 (.tmp 12) (.const (Value.int .i64 2)) a1 (Value.int .i64 2) w fun x13 w => R x13 w) (BK Tryd.prog .eql 5 (.tmp 9) (.const (Value.int .u8 11)) x9 (Value.int .u8 11) w fun x15 w => CondK x15 (R (Value.int .i64 3) w) (BK Tryd.prog .eql 5 (.tmp 9) (.const (Value.int .u8 10)) x9 (Value.int .u8 10) w fun x17 w => CondK x17 (VK Tryd.prog (Instr.fieldAt 25 x2 5) w fun x18 w => VK Tryd.prog (Instr.loadAt 22 x18) w fun x19 w => IK Tryd.prog .len #[22] 3 [false] [x19] w fun x20 w => BK Tryd.prog .add 3 (.tmp 20) (.const (Value.int .i64 1)) x20 (Value.int .i64 1) w fun x21 w => R x21 w) (BK Tryd.prog .eql 5 (.tmp 9) (.const (Value.int .u8 12)) x9 (Value.int .u8 12) w fun x23 w => CondK x23 (VK Tryd.prog (Instr.fieldAt 25 x2 5) w fun x24 w => VK Tryd.prog (Instr.loadAt 22 x24) w fun x25 w => IK Tryd.prog .len #[22] 3 [false] [x25] w fun x26 w => BK Tryd.prog .add 3 (.tmp 26) (.const (Value.int .i64 2)) x26 (Value.int .i64 2) w fun x27 w => R x27 w) (BK Tryd.prog .add 3 (.tmp 28) (.const (Value.int .i64 1)) a1 (Value.int .i64 1) w fun x29 w => R x29 w)))))
theorem limits_out_eq (a0 a1 : Value) (w : World) (R : Value → World → Prop) : sx fn_ Tryd.prog 30 limits_out_b (retK Tryd.prog Tryd.f25.results.toList R) (rho0 [a0, a1]) w = limits_out_F a0 a1 w R := by kernel_rfl
theorem limits_out_calls {a0 a1 : Value} {w : World} {R : Value → World → Prop} (h : limits_out_F a0 a1 w R) : Calls Tryd.prog 25 #[a0, a1] w fun e w' => ∃ v, e = .returned v ∧ R v w' :=
  Go.X.calls_of_sx (n := 30) (c := limits_out_b) Tryd.func25 (by kernel_rfl) (by kernel_rfl) (Nat.le_of_ble_eq_true rfl) (by kernel_rfl) (Eq.mpr (limits_out_eq a0 a1 w R) h)
noncomputable def limits_each_b : Code := (Tryd.f24.body).getD .skip
noncomputable def limits_each_F (a0 a1 : Value) (w : World) (R : Value → World → Prop) : Prop :=
  VK Tryd.prog (Instr.box 23 a0) w fun x2 w => VK Tryd.prog (Instr.box 3 a1) w fun x3 w => VK Tryd.prog (Instr.makeFunc (Fn.func 50) [].toArray [x2, x3].toArray) w fun x5 w => R x5 w
theorem limits_each_eq (a0 a1 : Value) (w : World) (R : Value → World → Prop) : sx fn_ Tryd.prog 6 limits_each_b (retK Tryd.prog Tryd.f24.results.toList R) (rho0 [a0, a1]) w = limits_each_F a0 a1 w R := by kernel_rfl
theorem limits_each_calls {a0 a1 : Value} {w : World} {R : Value → World → Prop} (h : limits_each_F a0 a1 w R) : Calls Tryd.prog 24 #[a0, a1] w fun e w' => ∃ v, e = .returned v ∧ R v w' :=
  Go.X.calls_of_sx (n := 6) (c := limits_each_b) Tryd.func24 (by kernel_rfl) (by kernel_rfl) (Nat.le_of_ble_eq_true rfl) (by kernel_rfl) (Eq.mpr (limits_each_eq a0 a1 w R) h)
noncomputable def limits_each_1_b : Code := (Tryd.f50.body).getD .skip
noncomputable def limits_each_1_L0 : Code := cAt [1, 0, 0] limits_each_1_b
noncomputable def limits_each_1_L0_F (z : At) (K : Exit → Sl → World → Prop) (ρ : Sl) (w : World) : Prop :=
  BK Tryd.prog .lss 3 (.tmp 8) (.tmp 7) (ρ 8) (ρ 7) w fun x9 w => CondK x9 (VK Tryd.prog (Instr.indexAt 23 (ρ 6) (ρ 8)) w fun x10 w => VK Tryd.prog (Instr.loadAt 25 x10) w fun x11 w => VK Tryd.prog (Instr.alloc 25 true (.tuple #[])) w fun x5 w => UK Tryd.prog (Instr.storeAt 25 x5 x11) w fun _ w => VK Tryd.prog (Instr.loadAt 25 x5) w fun x13 w => VK Tryd.prog (Instr.loadAt 3 (ρ 2)) w fun x14 w => CK Tryd.prog (Value.func (Fn.func 13) #[] #[]) [x13, x14] w fun x15 w => CK Tryd.prog (ρ 0) [x15] w fun x16 w => VK Tryd.prog (Op.unary UnOp.not x16) w fun x17 w => CondK x17 (K .ret (up (up (up (up (up (up (up (up (up (up ρ 9 x9) 10 x10) 11 x11) 5 x5) 12 (ρ 0)) 13 x13) 14 x14) 15 x15) 16 x16) 17 x17) w) (BK Tryd.prog .add 3 (.tmp 8) (.const (Value.int .i64 1)) (ρ 8) (Value.int .i64 1) w fun x18 w => K .normal (up (up (up (up (up (up (up (up (up (up (up (up ρ 9 x9) 10 x10) 11 x11) 5 x5) 12 (ρ 0)) 13 x13) 14 x14) 15 x15) 16 x16) 17 x17) 18 x18) 8 x18) w)) (K (.exit 0) (up ρ 9 x9) w)
theorem limits_each_1_L0_eq (z : At) (K : Exit → Sl → World → Prop) (ρ : Sl) (w : World) : sx z Tryd.prog 19 limits_each_1_L0 K ρ w = limits_each_1_L0_F z K ρ w := by kernel_rfl
theorem limits_each_1_L0_ok : dstOk 19 limits_each_1_L0 = true := by kernel_rfl
noncomputable def limits_each_1_F (a0 a1 a2 : Value) (w : World) (R : Value → World → Prop) : Prop :=
  VK Tryd.prog (Instr.loadAt 23 a1) w fun x6 w => IK Tryd.prog .len #[23] 3 [false] [x6] w fun x7 w => W fn_ Tryd.prog 19 (Code.loop limits_each_1_L0) (blkK 0 (retK Tryd.prog [] R)) (up (up (up (rho0 [a0, a1, a2]) 6 x6) 7 x7) 8 (Value.int .i64 0)) w
theorem limits_each_1_eq (a0 a1 a2 : Value) (w : World) (R : Value → World → Prop) : sx fn_ Tryd.prog 19 limits_each_1_b (retK Tryd.prog Tryd.f50.results.toList R) (rho0 [a0, a1, a2]) w = limits_each_1_F a0 a1 a2 w R := by kernel_rfl
theorem limits_each_1_calls {a0 a1 a2 : Value} {w : World} {R : Value → World → Prop} (h : limits_each_1_F a0 a1 a2 w R) : Calls Tryd.prog 50 #[a0, a1, a2] w fun e w' => ∃ v, e = .returned v ∧ R v w' :=
  Go.X.calls_of_sx (n := 19) (c := limits_each_1_b) Tryd.func50 (by kernel_rfl) (by kernel_rfl) (Nat.le_of_ble_eq_true rfl) (by kernel_rfl) (Eq.mpr (limits_each_1_eq a0 a1 a2 w R) h)
noncomputable def limits_times_b : Code := (Tryd.f23.body).getD .skip
noncomputable def limits_times_F (a0 a1 : Value) (w : World) (R : Value → World → Prop) : Prop :=
  VK Tryd.prog (Instr.box 3 a0) w fun x2 w => VK Tryd.prog (Instr.box 3 a1) w fun x3 w => VK Tryd.prog (Instr.makeFunc (Fn.func 49) [].toArray [x3, x2].toArray) w fun x5 w => R x5 w
theorem limits_times_eq (a0 a1 : Value) (w : World) (R : Value → World → Prop) : sx fn_ Tryd.prog 6 limits_times_b (retK Tryd.prog Tryd.f23.results.toList R) (rho0 [a0, a1]) w = limits_times_F a0 a1 w R := by kernel_rfl
theorem limits_times_calls {a0 a1 : Value} {w : World} {R : Value → World → Prop} (h : limits_times_F a0 a1 w R) : Calls Tryd.prog 23 #[a0, a1] w fun e w' => ∃ v, e = .returned v ∧ R v w' :=
  Go.X.calls_of_sx (n := 6) (c := limits_times_b) Tryd.func23 (by kernel_rfl) (by kernel_rfl) (Nat.le_of_ble_eq_true rfl) (by kernel_rfl) (Eq.mpr (limits_times_eq a0 a1 w R) h)
noncomputable def limits_times_1_b : Code := (Tryd.f49.body).getD .skip
noncomputable def limits_times_1_L0 : Code := cAt [1, 0, 0] limits_times_1_b
noncomputable def limits_times_1_L0_F (z : At) (K : Exit → Sl → World → Prop) (ρ : Sl) (w : World) : Prop :=
  BK Tryd.prog .lss 3 (.tmp 5) (.tmp 4) (ρ 5) (ρ 4) w fun x6 w => CondK x6 (VK Tryd.prog (Instr.loadAt 3 (ρ 2)) w fun x7 w => BK Tryd.prog .eql 3 (.tmp 7) (.const (Value.int .i64 1)) x7 (Value.int .i64 1) w fun x8 w => MG Tryd.prog x8 false (ρ 0) w fun x10 w => VG Tryd.prog x8 false (Instr.loadAt 3 (ρ 2)) w fun x11 w => CG Tryd.prog x8 false x10 [x11] w fun x12 w => VG Tryd.prog x8 false (Op.unary UnOp.not x12) w fun x13 w => PK Tryd.prog x8 (Value.bool true) x13 w fun x14 w => CondK x14 (K .ret (up (up (up (up (up (up (up (up (up ρ 6 x6) 7 x7) 8 x8) 9 x8) 10 x10) 11 x11) 12 x12) 13 x13) 14 x14) w) (BK Tryd.prog .add 3 (.tmp 5) (.const (Value.int .i64 1)) (ρ 5) (Value.int .i64 1) w fun x15 w => K .normal (up (up (up (up (up (up (up (up (up (up (up ρ 6 x6) 7 x7) 8 x8) 9 x8) 10 x10) 11 x11) 12 x12) 13 x13) 14 x14) 15 x15) 5 x15) w)) (K (.exit 0) (up ρ 6 x6) w)
theorem limits_times_1_L0_eq (z : At) (K : Exit → Sl → World → Prop) (ρ : Sl) (w : World) : sx z Tryd.prog 16 limits_times_1_L0 K ρ w = limits_times_1_L0_F z K ρ w := by kernel_rfl
theorem limits_times_1_L0_ok : dstOk 16 limits_times_1_L0 = true := by kernel_rfl
noncomputable def limits_times_1_F (a0 a1 a2 : Value) (w : World) (R : Value → World → Prop) : Prop :=
  VK Tryd.prog (Instr.loadAt 3 a1) w fun x4 w => W fn_ Tryd.prog 16 (Code.loop limits_times_1_L0) (blkK 0 (retK Tryd.prog [] R)) (up (up (rho0 [a0, a1, a2]) 4 x4) 5 (Value.int .i64 0)) w
theorem limits_times_1_eq (a0 a1 a2 : Value) (w : World) (R : Value → World → Prop) : sx fn_ Tryd.prog 16 limits_times_1_b (retK Tryd.prog Tryd.f49.results.toList R) (rho0 [a0, a1, a2]) w = limits_times_1_F a0 a1 a2 w R := by kernel_rfl
theorem limits_times_1_calls {a0 a1 a2 : Value} {w : World} {R : Value → World → Prop} (h : limits_times_1_F a0 a1 a2 w R) : Calls Tryd.prog 49 #[a0, a1, a2] w fun e w' => ∃ v, e = .returned v ∧ R v w' :=
  Go.X.calls_of_sx (n := 16) (c := limits_times_1_b) Tryd.func49 (by kernel_rfl) (by kernel_rfl) (Nat.le_of_ble_eq_true rfl) (by kernel_rfl) (Eq.mpr (limits_times_1_eq a0 a1 a2 w R) h)
noncomputable def limits_product_int_b : Code := (Tryd.f22.body).getD .skip
noncomputable def limits_product_int_g : Operand := gOf (cAt [1, 1, 0, 1, 0] limits_product_int_b)
noncomputable def limits_product_int_ps : Array Tmp := psOf (cAt [1, 1, 0, 1, 0] limits_product_int_b)
noncomputable def limits_product_int_R0 : Code := cAt [0] limits_product_int_b
noncomputable def limits_product_int_R1 : Code := cAt [1, 0] limits_product_int_b
noncomputable def limits_product_int_R2 : Code := cAt [1, 1, 0, 0] limits_product_int_b
noncomputable def limits_product_int_R3 : Code := cAt [1, 1, 0, 1, 0, 0] limits_product_int_b
noncomputable def limits_product_int_R4 : Code := cAt [1, 1, 0, 1, 0, 1] limits_product_int_b
noncomputable def limits_product_int_R5 : Code := cAt [1, 1, 1] limits_product_int_b
noncomputable def limits_product_int_R0_F (z : At) (K : Exit → Sl → World → Prop) (ρ : Sl) (w : World) : Prop :=
  K .normal (up ρ 2 (Value.int .i64 0)) w
theorem limits_product_int_R0_eq (z : At) (K : Exit → Sl → World → Prop) (ρ : Sl) (w : World) : sx z Tryd.prog 14 limits_product_int_R0 K ρ w = limits_product_int_R0_F z K ρ w := by kernel_rfl
theorem limits_product_int_R0_ok : dstOk 14 limits_product_int_R0 = true := by kernel_rfl
noncomputable def limits_product_int_R1_F (z : At) (K : Exit → Sl → World → Prop) (ρ : Sl) (w : World) : Prop :=
  VK Tryd.prog (Instr.alloc 3 true (.tuple #[])) w fun x3 w => UK Tryd.prog (Instr.storeAt 3 x3 (Value.int .i64 1)) w fun _ w => K .normal (up (up ρ 5 (Value.int .i64 1)) 3 x3) w
theorem limits_product_int_R1_eq (z : At) (K : Exit → Sl → World → Prop) (ρ : Sl) (w : World) : sx z Tryd.prog 14 limits_product_int_R1 K ρ w = limits_product_int_R1_F z K ρ w := by kernel_rfl
theorem limits_product_int_R1_ok : dstOk 14 limits_product_int_R1 = true := by kernel_rfl
noncomputable def limits_product_int_R2_F (z : At) (K : Exit → Sl → World → Prop) (ρ : Sl) (w : World) : Prop :=
  K .normal (up ρ 6 (ρ 0)) w
theorem limits_product_int_R2_eq (z : At) (K : Exit → Sl → World → Prop) (ρ : Sl) (w : World) : sx z Tryd.prog 14 limits_product_int_R2 K ρ w = limits_product_int_R2_F z K ρ w := by kernel_rfl
theorem limits_product_int_R2_ok : dstOk 14 limits_product_int_R2 = true := by kernel_rfl
noncomputable def limits_product_int_R3_F (z : At) (K : Exit → Sl → World → Prop) (ρ : Sl) (w : World) : Prop :=
  K .normal (up ρ 4 (ρ 7)) w
theorem limits_product_int_R3_eq (z : At) (K : Exit → Sl → World → Prop) (ρ : Sl) (w : World) : sx z Tryd.prog 14 limits_product_int_R3 K ρ w = limits_product_int_R3_F z K ρ w := by kernel_rfl
theorem limits_product_int_R3_ok : dstOk 14 limits_product_int_R3 = true := by kernel_rfl
noncomputable def limits_product_int_R4_F (z : At) (K : Exit → Sl → World → Prop) (ρ : Sl) (w : World) : Prop :=
  VK Tryd.prog (Instr.loadAt 3 (ρ 3)) w fun x8 w => IK Tryd.prog .min #[3, 3] 3 [false, true] [(ρ 4), (Value.int .i64 1048576)] w fun x10 w => BK Tryd.prog .mul 3 (.tmp 8) (.tmp 10) x8 x10 w fun x11 w => IK Tryd.prog .min #[3, 3] 3 [false, true] [x11, (Value.int .i64 1048576)] w fun x12 w => UK Tryd.prog (Instr.storeAt 3 (ρ 3) x12) w fun _ w => K .normal (up (up (up (up (up ρ 8 x8) 9 (ρ 4)) 10 x10) 11 x11) 12 x12) w
theorem limits_product_int_R4_eq (z : At) (K : Exit → Sl → World → Prop) (ρ : Sl) (w : World) : sx z Tryd.prog 14 limits_product_int_R4 K ρ w = limits_product_int_R4_F z K ρ w := by kernel_rfl
theorem limits_product_int_R4_ok : dstOk 14 limits_product_int_R4 = true := by kernel_rfl
noncomputable def limits_product_int_R5_F (z : At) (K : Exit → Sl → World → Prop) (ρ : Sl) (w : World) : Prop :=
  VK Tryd.prog (Instr.loadAt 3 (ρ 3)) w fun x13 w => K .ret (up (up ρ 13 x13) 2 x13) w
theorem limits_product_int_R5_eq (z : At) (K : Exit → Sl → World → Prop) (ρ : Sl) (w : World) : sx z Tryd.prog 14 limits_product_int_R5 K ρ w = limits_product_int_R5_F z K ρ w := by kernel_rfl
theorem limits_product_int_R5_ok : dstOk 14 limits_product_int_R5 = true := by kernel_rfl
theorem limits_product_int_parts : limits_product_int_b = (Code.seq limits_product_int_R0 (Code.seq limits_product_int_R1 (Code.seq (Code.seq limits_product_int_R2 (Code.block 0 (Code.rangeFunc limits_product_int_g limits_product_int_ps limits_product_int_R3 limits_product_int_R4))) limits_product_int_R5))) := by kernel_rfl
end Go.Proofs.YtpkfbaagpjdifaaDoor.XI
set_option linter.unusedVariables false
set_option linter.unusedSimpArgs false
namespace Go.X
open Go Go.RowKit
theorem bytes_inj {a b : ByteArray} (h : a.data.toList = b.data.toList) : a = b := by
  cases a; cases b
  simp only [Array.toList_inj] at h
  rw [h]
section
variable {P : Program} {w : World} {K : Value → World → Prop}
theorem VGtt (s : Sem Value) : VG P (.bool true) true s w K = VK P s w K := by rw [VG_b]; rfl
theorem VGtf (s : Sem Value) : VG P (.bool true) false s w K = K undef w := by rw [VG_b]; rfl
theorem VGft (s : Sem Value) : VG P (.bool false) true s w K = K undef w := by rw [VG_b]; rfl
theorem VGff (s : Sem Value) : VG P (.bool false) false s w K = VK P s w K := by rw [VG_b]; rfl
theorem UGtt (s : Sem Unit) : UG P (.bool true) true s w K = UK P s w K := by rw [UG_b]; rfl
theorem UGtf (s : Sem Unit) : UG P (.bool true) false s w K = K undef w := by rw [UG_b]; rfl
theorem UGft (s : Sem Unit) : UG P (.bool false) true s w K = K undef w := by rw [UG_b]; rfl
theorem UGff (s : Sem Unit) : UG P (.bool false) false s w K = UK P s w K := by rw [UG_b]; rfl
theorem MGtt (v : Value) : MG P (.bool true) true v w K = K v w := by rw [MG_b]; rfl
theorem MGtf (v : Value) : MG P (.bool true) false v w K = K undef w := by rw [MG_b]; rfl
theorem MGft (v : Value) : MG P (.bool false) true v w K = K undef w := by rw [MG_b]; rfl
theorem MGff (v : Value) : MG P (.bool false) false v w K = K v w := by rw [MG_b]; rfl
theorem NGtt (v : Value) : NG P (.bool true) true v w K = NK P v w K := by rw [NG_b]; rfl
theorem NGtf (v : Value) : NG P (.bool true) false v w K = K undef w := by rw [NG_b]; rfl
theorem NGft (v : Value) : NG P (.bool false) true v w K = K undef w := by rw [NG_b]; rfl
theorem NGff (v : Value) : NG P (.bool false) false v w K = NK P v w K := by rw [NG_b]; rfl
theorem PGtt (c a b : Value) : PG P (.bool true) true c a b w K = PK P c a b w K := by rw [PG_b]; rfl
theorem PGtf (c a b : Value) : PG P (.bool true) false c a b w K = K undef w := by rw [PG_b]; rfl
theorem PGft (c a b : Value) : PG P (.bool false) true c a b w K = K undef w := by rw [PG_b]; rfl
theorem PGff (c a b : Value) : PG P (.bool false) false c a b w K = PK P c a b w K := by rw [PG_b]; rfl
theorem BGtt (op : BinOp) (ty : TypeId) (x y : Operand) (a b : Value) : BG P (.bool true) true op ty x y a b w K = BK P op ty x y a b w K := by rw [BG_b]; rfl
theorem BGtf (op : BinOp) (ty : TypeId) (x y : Operand) (a b : Value) : BG P (.bool true) false op ty x y a b w K = K undef w := by rw [BG_b]; rfl
theorem BGft (op : BinOp) (ty : TypeId) (x y : Operand) (a b : Value) : BG P (.bool false) true op ty x y a b w K = K undef w := by rw [BG_b]; rfl
theorem BGff (op : BinOp) (ty : TypeId) (x y : Operand) (a b : Value) : BG P (.bool false) false op ty x y a b w K = BK P op ty x y a b w K := by rw [BG_b]; rfl
theorem CGtt (f : Value) (args : List Value) : CG P (.bool true) true f args w K = CK P f args w K := by rw [CG_b]; rfl
theorem CGtf (f : Value) (args : List Value) : CG P (.bool true) false f args w K = K undef w := by rw [CG_b]; rfl
theorem CGft (f : Value) (args : List Value) : CG P (.bool false) true f args w K = K undef w := by rw [CG_b]; rfl
theorem CGff (f : Value) (args : List Value) : CG P (.bool false) false f args w K = CK P f args w K := by rw [CG_b]; rfl
theorem IGtt (b : Builtin) (ts : Array TypeId) (ty : TypeId) (cs : List Bool) (args : List Value) : IG P (.bool true) true b ts ty cs args w K = IK P b ts ty cs args w K := by rw [IG_b]; rfl
theorem IGtf (b : Builtin) (ts : Array TypeId) (ty : TypeId) (cs : List Bool) (args : List Value) : IG P (.bool true) false b ts ty cs args w K = K undef w := by rw [IG_b]; rfl
theorem IGft (b : Builtin) (ts : Array TypeId) (ty : TypeId) (cs : List Bool) (args : List Value) : IG P (.bool false) true b ts ty cs args w K = K undef w := by rw [IG_b]; rfl
theorem IGff (b : Builtin) (ts : Array TypeId) (ty : TypeId) (cs : List Bool) (args : List Value) : IG P (.bool false) false b ts ty cs args w K = IK P b ts ty cs args w K := by rw [IG_b]; rfl
theorem PKt (a b : Value) : PK P (.bool true) a b w K = K a w := by rw [PK_bool]; rfl
theorem PKf (a b : Value) : PK P (.bool false) a b w K = K b w := by rw [PK_bool]; rfl
theorem CDt (A B : Prop) : CondK (.bool true) A B = A := by rw [CondK_bool]; rfl
theorem CDf (A B : Prop) : CondK (.bool false) A B = B := by rw [CondK_bool]; rfl
theorem NOTt : VK P (Op.unary .not (.bool true)) w K = K (.bool false) w := not_ok true
theorem NOTf : VK P (Op.unary .not (.bool false)) w K = K (.bool true) w := not_ok false
section
variable {k : IntKind} {a b : Int}
theorem EQt (h : a = b) (t : TypeId) (x y : Operand) (K : Value → World → Prop) : BK P .eql t x y (.int k a) (.int k b) w K = K (.bool true) w := by rw [BK_eql, h]; simp
theorem EQf (h : a ≠ b) (t : TypeId) (x y : Operand) (K : Value → World → Prop) : BK P .eql t x y (.int k a) (.int k b) w K = K (.bool false) w := by rw [BK_eql, beq_eq_false_iff_ne.2 h]
theorem NEt (h : a ≠ b) (t : TypeId) (x y : Operand) (K : Value → World → Prop) : BK P .neq t x y (.int k a) (.int k b) w K = K (.bool true) w := by rw [BK_neq, bne_iff_ne.2 h]
theorem NEf (h : a = b) (t : TypeId) (x y : Operand) (K : Value → World → Prop) : BK P .neq t x y (.int k a) (.int k b) w K = K (.bool false) w := by rw [BK_neq, h]; simp
theorem LTt (h : a < b) (t : TypeId) (x y : Operand) (K : Value → World → Prop) : BK P .lss t x y (.int k a) (.int k b) w K = K (.bool true) w := by rw [BK_lss, decide_eq_true h]
theorem LTf (h : b ≤ a) (t : TypeId) (x y : Operand) (K : Value → World → Prop) : BK P .lss t x y (.int k a) (.int k b) w K = K (.bool false) w := by rw [BK_lss, decide_eq_false (by omega)]
theorem GTt (h : b < a) (t : TypeId) (x y : Operand) (K : Value → World → Prop) : BK P .gtr t x y (.int k a) (.int k b) w K = K (.bool true) w := by rw [BK_gtr, decide_eq_true h]
theorem GTf (h : a ≤ b) (t : TypeId) (x y : Operand) (K : Value → World → Prop) : BK P .gtr t x y (.int k a) (.int k b) w K = K (.bool false) w := by rw [BK_gtr, decide_eq_false (by omega)]
theorem GEt (h : b ≤ a) (t : TypeId) (x y : Operand) (K : Value → World → Prop) : BK P .geq t x y (.int k a) (.int k b) w K = K (.bool true) w := by rw [BK_geq, decide_eq_true h]
theorem GEf (h : a < b) (t : TypeId) (x y : Operand) (K : Value → World → Prop) : BK P .geq t x y (.int k a) (.int k b) w K = K (.bool false) w := by rw [BK_geq, decide_eq_false (by omega)]
end
section
variable {a b : ByteArray}
theorem SEQt (h : a = b) (t : TypeId) (x y : Operand) (K : Value → World → Prop) : BK P .eql t x y (.string a) (.string b) w K = K (.bool true) w := by rw [BK_eqlS, h]; simp
theorem SEQf (h : a ≠ b) (t : TypeId) (x y : Operand) (K : Value → World → Prop) : BK P .eql t x y (.string a) (.string b) w K = K (.bool false) w := by
  rw [BK_eqlS, beq_eq_false_iff_ne.2]
  exact fun q => h (bytes_inj (by rw [← ByteArray.toList_eq, ← ByteArray.toList_eq]; exact q))
theorem SNEt (h : a ≠ b) (t : TypeId) (x y : Operand) (K : Value → World → Prop) : BK P .neq t x y (.string a) (.string b) w K = K (.bool true) w := by
  rw [BK_neqS, beq_eq_false_iff_ne.2]
  · rfl
  · exact fun q => h (bytes_inj (by rw [← ByteArray.toList_eq, ← ByteArray.toList_eq]; exact q))
theorem SNEf (h : a = b) (t : TypeId) (x y : Operand) (K : Value → World → Prop) : BK P .neq t x y (.string a) (.string b) w K = K (.bool false) w := by rw [BK_neqS, h]; simp
end
structure FO (P : Program) (w : World) (t : TypeId) (i off : Nat) (a : Addr) (t' : TypeId) (v : Value) : Prop where
  h1 : fieldOff P t i = some off
  h2 : ∀ K : Value → World → Prop, VK P (Instr.loadAt t' (.pointer (some (a.add off)))) w K = K v w
theorem FO.mk' {t t' : TypeId} {i off : Nat} {a : Addr} {v : Value} {d : TypeDesc} (h1 : fieldOff P t i = some off) (h2 : P.underlying t' = some d) (h3 : (match d with | .struct _ | .array _ _ => true | _ => false) = false) (h4 : w.cell? (a.add off) = some v) : FO P w t i off a t' v :=
  ⟨h1, fun K => VK_eq_of (run_ld1 h2 h3 h4)⟩
theorem FO.blk {t t' ty : TypeId} {i off b : Nat} {fr : Nat × Nat} {cs : Array Value} {v : Value} {d : TypeDesc} (hb : w.heap[b]? = some (.cells cs ty fr)) (h1 : fieldOff P t i = some off) (h2 : P.underlying t' = some d) (h3 : (match d with | .struct _ | .array _ _ => true | _ => false) = false) (h4 : cs[off]? = some v) : FO P w t i off ⟨b, 0, none⟩ t' v :=
  FO.mk' h1 h2 h3 (by rw [add_pl, Nat.zero_add, cell_blk hb]; exact h4)
theorem FO.e {t t' : TypeId} {i off : Nat} {a : Addr} {v : Value} (h : FO P w t i off a t' v) (K : Value → Value → World → Prop) :
    (VK P (Instr.fieldAt t (.pointer (some a)) i) w fun x w => VK P (Instr.loadAt t' x) w (K x)) = K (.pointer (some (a.add off))) v w := by
  rw [fo h.h1, h.h2]
end
theorem least_of {p : Nat → Prop} : ∀ n, p n → ∃ m, p m ∧ ∀ k, p k → m ≤ k := by
  intro n
  induction n using Nat.strongRecOn with
  | ind n ih =>
    intro hn
    by_cases h : ∃ k, k < n ∧ p k
    · obtain ⟨k, hk, hp⟩ := h
      exact ih k hk hp
    · exact ⟨n, hn, fun k hk => Nat.le_of_not_lt fun q => h ⟨k, q, hk⟩⟩
open Classical in
theorem W_loopG {P : Program} {z : At} {n : Nat} {c : Code} {K : Exit → Sl → World → Prop} {ρ : Sl} {w : World} (hd : dstOk n c = true) (I : Nat → Sl → World → Prop) (m : Nat) (h0 : I m ρ w)
    (round : ∀ m ρ w, I m ρ w → sx z P n c (seqK (fun ρ' w' => ∃ m', m' < m ∧ I m' ρ' w') K) ρ w) : W z P n (.loop c) K ρ w := by
  intro a hl
  have hmin : ∀ {ρ w}, (∃ m, I m ρ w) → ∃ m, I m ρ w ∧ ∀ k, I k ρ w → m ≤ k := fun ⟨m, h⟩ => least_of m h
  let μ : Sl → World → Nat := fun ρ w => if h : ∃ m, I m ρ w then Classical.choose (hmin h) else 0
  let M : Act → World → Nat := fun a w => μ (fun i => a.tmps.getD i undef) w
  have hM : ∀ a ρ w, Lk z n a ρ → M a w = μ ρ w := by
    intro a ρ w hl
    have : (fun i => a.tmps.getD i undef) = ρ := funext hl.val
    show μ (fun i => a.tmps.getD i undef) w = μ ρ w
    rw [this]
  refine wpIn_loop (fun a w => ∃ ρ, Lk z n a ρ ∧ ∃ m, I m ρ w) M ⟨ρ, hl, m, h0⟩ ?_
  rintro a w ⟨ρ, hl, hI⟩
  obtain ⟨hs, hle⟩ := Classical.choose_spec (hmin hI)
  have hμ : μ ρ w = Classical.choose (hmin hI) := dif_pos hI
  refine wpIn_mono (sx_W c _ ρ w hd (round _ ρ w hs) a hl) ?_
  rintro e a' w' ⟨ρ', hl', hk⟩
  cases e with
  | normal =>
    obtain ⟨m', hlt, hI'⟩ := hk
    refine ⟨⟨ρ', hl', m', hI'⟩, ?_⟩
    rw [hM a' ρ' w' hl', hM a ρ w hl, hμ]
    have h' : ∃ m, I m ρ' w' := ⟨m', hI'⟩
    have : μ ρ' w' = Classical.choose (hmin h') := dif_pos h'
    rw [this]
    exact Nat.lt_of_le_of_lt ((Classical.choose_spec (hmin h')).2 _ hI') hlt
  | exit id => exact ⟨ρ', hl', hk⟩
  | goto l => exact ⟨ρ', hl', hk⟩
  | ret => exact ⟨ρ', hl', hk⟩
  | panic c => exact ⟨ρ', hl', hk⟩
  | outgrown => exact ⟨ρ', hl', hk⟩
end Go.X
set_option linter.unusedVariables false
set_option linter.unusedSimpArgs false
set_option maxRecDepth 4000
namespace Go.X
open Go Go.RowKit
theorem cut_lh {P : Program} {w : World} {K : Value → World → Prop} {t e : TypeId} {sz : Nat} (hu : P.underlying t = some (.slice e)) (hc : P.cellsOf e = sz + 1) {v : Value} {n i j : Nat} {xs : List Value} (h : reads w (sz + 1) v n xs) (hij : i ≤ j) (hj : j ≤ n)
    (hk : ∀ v', reads w (sz + 1) v' (j - i) ((xs.take (j * (sz + 1))).drop (i * (sz + 1))) → K v' w) : VK P (Instr.sliceAt t v (some (.int .i64 (i : Int))) (some (.int .i64 (j : Int))) none) w K := by
  obtain ⟨hl, A, c, rfl, hnc, hr⟩ := h
  obtain ⟨z, hz, hzs⟩ := info_of hc
  have he : P.elem t = e := by simp [Program.elem, hu]
  have hrun : (Instr.sliceAt t (.slice A n c) (some (.int .i64 (i : Int))) (some (.int .i64 (j : Int))) none).run P w = .ok (sliced A i j c (sz + 1)) w := by
    rw [run_sliceAt_slice (h := elem_of hu), run_slice_lh w t A n c (elem_of hu) .i64 .i64 _ _ (by omega) (by omega) (by omega), he]
    simp [sizeOf, typeInfo, hz, hzs]
  have hmul : j * (sz + 1) ≤ n * (sz + 1) := Nat.mul_le_mul_right _ hj
  refine VK_of hrun (hk _ ⟨?_, ?_⟩)
  · rw [List.length_drop, List.length_take, hl, Nat.min_eq_left hmul, ← Nat.sub_mul]
  · refine ⟨_, _, rfl, by omega, fun k u hku => ?_⟩
    rw [List.getElem?_drop] at hku
    have hlt : i * (sz + 1) + k < j * (sz + 1) := by
      have := (List.getElem?_eq_some_iff.1 hku).1
      rw [List.length_take] at this
      omega
    rw [List.getElem?_take_of_lt hlt] at hku
    obtain ⟨a, rfl, hcell⟩ := hr _ u hku
    by_cases hci : c = i
    · have : i < j := Nat.lt_of_mul_lt_mul_right (a := sz + 1) (by omega)
      omega
    · refine ⟨a.add (i * (sz + 1)), by simp [sliced, hci], ?_⟩
      rw [add_add]
      exact hcell
def byteV (c : UInt8) : Value := .int .u8 (c.toNat : Int)
theorem str_of {P : Program} {w : World} {K : Value → World → Prop} {src dst e : TypeId} (hs : P.underlying src = some (.slice e)) (he : P.underlying e = some (.int .u8)) (hd : P.underlying dst = some .string) {v : Value} {n : Nat} {b : List UInt8} (h : reads w 1 v n (b.map byteV)) (hk : K (.string ⟨b.toArray⟩) w) : VK P (convert src dst v) w K := by
  obtain ⟨hl, A, c, rfl, _, hr⟩ := h
  have hn : n = b.length := by simpa using hl.symm
  subst hn
  cases A with
  | none =>
    have h0 : b = [] := by
      cases b with
      | nil => rfl
      | cons x r => obtain ⟨a, ha, _⟩ := hr 0 (byteV x) rfl; cases ha
    subst h0
    exact VK_of (run_convert_bytes_nil w src e hs he _ _ dst hd) hk
  | some a =>
    refine VK_of (run_convert_bytes_back w src dst e a c b hs he hd fun j hj => ?_) hk
    obtain ⟨a', ha, hcell⟩ := hr j (byteV b[j]) (by rw [List.getElem?_map, List.getElem?_eq_getElem hj]; rfl)
    cases ha
    exact hcell
theorem fst_k {P : Program} {w : World} {K : Value → Value → World → Prop} {t t' ty : TypeId} {i off b : Nat} {cs cs' : Array Value} {v : Value} (h1 : fieldOff P t i = some off) (hc1 : P.cellsOf t' = 1) (hv : v.oneCell' = true) (hb : w.heap[b]? = some (.cells cs ty (0, 0))) (ho : off < cs.size) (hcs : cs.setIfInBounds off v = cs')
    (hk : ∀ x w', w'.heap[b]? = some (.cells cs' ty (0, 0)) → Mod (fun j => j = b) w w' → w'.heap.size = w.heap.size → K x undef w') : VK P (Instr.fieldAt t (.pointer (some ⟨b, 0, none⟩)) i) w fun x w => UK P (Instr.storeAt t' x v) w (K x) := by
  rw [fo h1, add_pl, Nat.zero_add]
  exact stC rfl hc1 hv hb ho fun w' h2 h3 h4 => hk _ _ (hcs ▸ h2) h3 h4
theorem Mod.fresh {w w' w'' : World} {b : Nat} (h : Mod none_ w w') (hm : Mod (fun i => i = b) w' w'') (hb : w.heap.size ≤ b) : Mod none_ w w'' := h.then hm fun i hi q => by omega
end Go.X
set_option linter.unusedVariables false
set_option linter.unusedSimpArgs false
set_option maxRecDepth 4000
namespace Go.X
open Go Go.RowKit Go.Proofs.YtpkfbaagpjdifaaDoor.Tr
def mulP (a b : Int) : Int := min (a * min b 1048576) 1048576
def prodP (xs : List Int) : Int := xs.foldl mulP 1
def timesP (x n : Int) : List Int := if x = 1 then [] else List.replicate n.toNat x
theorem mul_big {a m : Int} (h1 : 1 ≤ a ∧ a ≤ 1048576) (h2 : 1 ≤ m ∧ m ≤ 1048576) : 1 ≤ a * m ∧ a * m ≤ 1099511627776 := by
  have h := Int.mul_pos (by omega : 0 < a) (by omega : 0 < m)
  have h3 : a * m ≤ 1048576 * 1048576 := Int.mul_le_mul h1.2 h2.2 (by omega) (by omega)
  omega
theorem mulP_in {a b : Int} (ha : 1 ≤ a ∧ a ≤ 1048576) (hb : 1 ≤ b) : 1 ≤ mulP a b ∧ mulP a b ≤ 1048576 := by
  unfold mulP
  have := mul_big ha (m := min b 1048576) (by omega)
  omega
theorem foldP_in : ∀ (xs : List Int) (a : Int), 1 ≤ a ∧ a ≤ 1048576 → (∀ x ∈ xs, 1 ≤ x) → 1 ≤ xs.foldl mulP a ∧ xs.foldl mulP a ≤ 1048576
  | [], a, h, _ => h
  | x :: r, a, h, hx => foldP_in r _ (mulP_in h (hx x (by simp))) fun y hy => hx y (List.mem_cons_of_mem _ hy)
theorem prodP_in {xs : List Int} (h : ∀ x ∈ xs, 1 ≤ x) : 1 ≤ prodP xs ∧ prodP xs ≤ 1048576 := foldP_in xs 1 (by omega) h
theorem timesP_in {x n : Int} (h : 1 ≤ x) : ∀ y ∈ timesP x n, 1 ≤ y := by
  intro y hy
  unfold timesP at hy
  split at hy
  · cases hy
  · rw [List.eq_of_mem_replicate hy]; exact h
theorem prodP_snoc (xs : List Int) (x : Int) : prodP (xs ++ [x]) = mulP (prodP xs) x := by unfold prodP; rw [List.foldl_append]; rfl
def outB (r kind : Int) (ne : Nat) (dec : Bool) : Int := if dec then (if kind = 14 then r + 2 else if kind = 11 then 3 else if kind = 10 then ne + 1 else if kind = 12 then ne + 2 else r + 1) else 1
def waysB (r op kind turns : Int) (ne : Nat) (dec : Bool) (B E : Int) : Int :=
  if op = 3 then mx B E else if op = 4 then (if 1 < B then 1048576 else 1) else if op = 5 then prodP (timesP B (if turns = 0 then r else turns)) else outB r kind ne dec
mutual
def St.ways (r : Int) : St → Int
  | ⟨op, kind, red, name, turns, es, exprs, bs, body, ls, els, line, col⟩ => waysB r op kind turns exprs.length (St.dec ⟨op, kind, red, name, turns, es, exprs, bs, body, ls, els, line, col⟩) (St.waysF r 1 body) (St.waysF r 1 els)
def St.waysF (r : Int) (acc : Int) : List St → Int
  | [] => acc
  | e :: l => St.waysF r (mulP acc (St.ways r e)) l
end
theorem St.waysF_eq (r : Int) : ∀ (l : List St) (acc : Int), St.waysF r acc l = (l.map (St.ways r)).foldl mulP acc
  | [], acc => by rw [St.waysF]; rfl
  | e :: l, acc => by rw [St.waysF, St.waysF_eq r l, List.map_cons, List.foldl_cons]
def St.waysL (r : Int) (l : List St) : Int := prodP (l.map (St.ways r))
theorem St.ways_eq (r : Int) (e : St) : e.ways r = waysB r e.op e.kind e.turns e.exprs.length e.dec (St.waysL r e.body) (St.waysL r e.els) := by
  obtain ⟨op, kind, red, name, turns, es, exprs, bs, body, ls, els, line, col⟩ := e
  rw [St.ways, St.waysF_eq, St.waysF_eq]; rfl
theorem waysB_in {r op kind turns : Int} {ne : Nat} {dec : Bool} {B E : Int} (hr : 1 ≤ r) (hB : 1 ≤ B) (hE : 1 ≤ E) : 1 ≤ waysB r op kind turns ne dec B E := by
  unfold waysB
  split
  · unfold mx; split <;> omega
  · split
    · split <;> omega
    · split
      · exact (prodP_in (timesP_in hB)).1
      · unfold outB
        split
        · split
          · omega
          · split
            · omega
            · split
              · omega
              · split <;> omega
        · omega
theorem St.ways_in {r : Int} (hr : 1 ≤ r) : ∀ e : St, 1 ≤ e.ways r := by
  intro e
  induction e using St.ind with
  | h e ih1 ih2 =>
    rw [St.ways_eq]
    refine waysB_in hr (prodP_in fun x hx => ?_).1 (prodP_in fun x hx => ?_).1
    · obtain ⟨a, ha, rfl⟩ := List.mem_map.1 hx; exact ih1 a ha
    · obtain ⟨a, ha, rfl⟩ := List.mem_map.1 hx; exact ih2 a ha
theorem St.waysL_in {r : Int} (hr : 1 ≤ r) (l : List St) : 1 ≤ St.waysL r l ∧ St.waysL r l ≤ 1048576 := prodP_in fun x hx => by obtain ⟨a, _, rfl⟩ := List.mem_map.1 hx; exact St.ways_in hr a
end Go.X
namespace Go.Proofs.YtpkfbaagpjdifaaDoor.Tr
open Go Go.X Go.RowKit Go.Proofs.YtpkfbaagpjdifaaDoor.XI Go.Proofs.YtpkfbaagpjdifaaDoor.XK
theorem zI : (Tryd.prog.info? 3).bind (·.zero) = some (.int .i64 0) := by kernel_rfl
def Iter (w0 : World) (f : FuncId) (cap : List Value) (xs : List Int) : Prop := ∀ (l : Nat) (w1 : World) (J : Nat → World → Prop), (∀ k w', J k w' → Mod none_ w0 w') → (∀ k w w', J k w → Mod none_ w w' → J k w') →
  (∀ k w i, xs[k]? = some i → J k w → ∀ K : Value → World → Prop, (∀ w', J (k + 1) w' → K (.bool true) w') → CK Tryd.prog (.func (.yield l) #[] #[]) [.int .i64 i] w K) → J 0 w1 →
  Rt Tryd.prog f ((.func (.yield l) #[] #[]) :: cap).toArray w1 fun _ w' => J xs.length w'
theorem Iter.mod {w0 w1 : World} {f : FuncId} {cap : List Value} {xs : List Int} (h : Iter w0 f cap xs) (hm : Mod none_ w0 w1) : Iter w1 f cap xs := fun l w J hJ hJm hy h0 => h l w J (fun k w' q => hm.trans (hJ k w' q)) hJm hy h0
theorem psP : limits_product_int_ps = #[7] := by kernel_rfl
theorem gP : limits_product_int_g = .tmp 6 := by kernel_rfl
structure Telling (w0 : World) (xs : List Int) (L0 : Loop) (k : Nat) (w : World) : Prop where
  m : Mod none_ w0 w
  n : w.heap[w0.heap.size]? = some (.cells #[.int .i64 (prodP (xs.take k))] 3 (0, 0))
  d : w.heap[w0.heap.size + 1]? = some (.deferred (some []))
  l : w.heap[w0.heap.size + 2]? = some (.loop L0)
theorem Product_ok {w : World} {f : FuncId} {fn : Func} {cap : List Value} {xs : List Int} (hx : ∀ x ∈ xs, 1 ≤ x) (hf : Tryd.prog.funcs[f]? = some fn) (hb : fn.body.isNone = false) (hn : (fn.name == "runtime.NumGoroutine") = false) (hi : Iter w f cap xs) :
    Rt Tryd.prog 22 #[.func (.func f) #[] cap.toArray] w fun v w' => v = .int .i64 (prodP xs) ∧ Mod none_ w w' := by
  refine calls_of_M (n := 14) (c := limits_product_int_b) Tryd.func22 (by kernel_rfl) (by kernel_rfl) (Nat.le_of_ble_eq_true rfl) ?_
  rw [limits_product_int_parts]
  refine seq_M (N := fun ρ' w' => ρ' 0 = .func (.func f) #[] cap.toArray ∧ w = w') limits_product_int_R0_ok (by rw [limits_product_int_R0_eq]; exact ⟨rfl, rfl⟩) ?_
  rintro ρ1 _ ⟨h10, rfl⟩
  refine seq_M (N := fun ρ' w' => ρ' 0 = .func (.func f) #[] cap.toArray ∧ ρ' 3 = .pointer (some ⟨w.heap.size, 0, none⟩) ∧ w'.heap[w.heap.size]? = some (.cells #[.int .i64 1] 3 (0, 0)) ∧ Mod none_ w w' ∧ w'.heap.size = w.heap.size + 1) limits_product_int_R1_ok (by
    rw [limits_product_int_R1_eq]
    unfold limits_product_int_R1_F
    refine al_k (cs := #[.int .i64 0]) zI rfl _ fun w2 hb2 hm2 hz2 => ?_
    refine stC (b := w.heap.size) (o := 0) rfl cI rfl hb2 (by simp) fun w3 hb3 hm3 hz3 => ?_
    exact ⟨h10, rfl, hb3, hm2.fresh hm3 (Nat.le_refl _), by omega⟩) ?_
  rintro ρ2 w1 ⟨h20, h23, hb1, hm1, hz1⟩
  refine seq_range (N := fun ρ' w' => ρ' 3 = .pointer (some ⟨w.heap.size, 0, none⟩) ∧ ρ' 6 = .func (.func f) #[] cap.toArray ∧ w1 = w') limits_product_int_R2_ok limits_product_int_R5_ok (by
    rw [limits_product_int_R2_eq]
    unfold limits_product_int_R2_F
    exact ⟨h23, h20, rfl⟩) ?_
  rintro ρ3 _ ⟨h33, h36, rfl⟩
  refine ⟨f, fn, cap.toArray, by rw [gP]; exact h36, hf, hb, hn, ?_⟩
  intro fn0 tmps hts htv
  rw [hz1]
  have hL0s : (rec_ w1 fn0 tmps limits_product_int_ps limits_product_int_R3 limits_product_int_R4).state = .ready := rfl
  have hL0p : (rec_ w1 fn0 tmps limits_product_int_ps limits_product_int_R3 limits_product_int_R4).pending = none := rfl
  have hL0t : (rec_ w1 fn0 tmps limits_product_int_ps limits_product_int_R3 limits_product_int_R4).tmps = tmps := rfl
  have hL0q : (rec_ w1 fn0 tmps limits_product_int_ps limits_product_int_R3 limits_product_int_R4).params = #[7] := psP
  have hL0a : (rec_ w1 fn0 tmps limits_product_int_ps limits_product_int_R3 limits_product_int_R4).assign = limits_product_int_R3 := rfl
  have hL0b : (rec_ w1 fn0 tmps limits_product_int_ps limits_product_int_R3 limits_product_int_R4).body = limits_product_int_R4 := rfl
  have hen : (enter_ w1 (rec_ w1 fn0 tmps limits_product_int_ps limits_product_int_R3 limits_product_int_R4)) = (w1.alloc (.deferred (some []))).alloc (.loop (rec_ w1 fn0 tmps limits_product_int_ps limits_product_int_R3 limits_product_int_R4)) := rfl
  rw [hen]
  generalize rec_ w1 fn0 tmps limits_product_int_ps limits_product_int_R3 limits_product_int_R4 = L0 at *
  have hma : Mod none_ w1 ((w1.alloc (.deferred (some []))).alloc (.loop L0)) := ((Mod.refl none_ w1).alloc _).alloc _
  have h0 : Telling w xs L0 0 ((w1.alloc (.deferred (some []))).alloc (.loop L0)) := by
    refine ⟨hm1.trans hma, hma.blk hb1 id, ?_, ?_⟩
    · rw [alloc_old _ _ _ (by rw [alloc_size]; omega), ← hz1]; exact alloc_new w1 _
    · have := alloc_new (w1.alloc (.deferred (some []))) (.loop L0)
      rw [alloc_size, hz1] at this
      exact this
  have hci := hi (w.heap.size + 1 + 1) ((w1.alloc (.deferred (some []))).alloc (.loop L0)) (Telling w xs L0) (fun k w' h => h.m) (fun k w' w'' h hm => ⟨h.m.trans hm, hm.blk h.n id, hm.blk h.d id, hm.blk h.l id⟩) ?_ h0
  · refine Rt.mono (R := fun _ w' => Telling w xs L0 xs.length w') (by simpa using hci) ?_
    rintro v w3 ⟨h1, h2, h3, h4⟩
    refine ⟨L0, h4, by rw [hL0s]; decide, hL0p, ?_⟩
    rw [limits_product_int_R5_eq]
    unfold limits_product_int_R5_F
    rw [h33]
    refine ld1 uI rfl (v := .int .i64 (prodP (xs.take xs.length))) (by rw [putB, cell_blk ((setB_old _ _ _ _ (by omega)).trans h2)]; rfl) ?_
    have hm4 : Mod (fun b => b = w.heap.size + 1 + 1 ∨ b = w.heap.size + 1) w3 ((w3.putObj (w.heap.size + 1 + 1) (.loop { L0 with state := .exhausted })).putObj (w.heap.size + 1) (.deferred none)) := ((Mod.refl _ w3).put _ (fun _ => .inl rfl)).put _ (fun _ => .inr rfl)
    refine ⟨?_, ?_⟩
    · rw [putB, setB_old _ _ _ _ (by omega)]; exact h3
    · skip
      exact ⟨by rw [List.take_length]; rfl, h1.then hm4 (fun b hb q => absurd q (by omega))⟩
  · rintro k w' i hki ⟨h1, h2, h3, h4⟩ K hK
    have hk : k < xs.length := by
      rcases Nat.lt_or_ge k xs.length with q | q
      · exact q
      · rw [List.getElem?_eq_none q] at hki; cases hki
    have hi1 : 1 ≤ i := hx i (List.mem_of_getElem? hki)
    have hpre := prodP_in (xs := xs.take k) fun x hq => hx x (List.mem_of_mem_take hq)
    refine CK_yield h4 (by rw [hL0q]; rfl) ?_
    rw [hL0a, hL0b, hL0q, hL0t]
    have hz : ((#[7] : Array Tmp).zip [Value.int .i64 i].toArray).foldl (fun tmps (t, a) => tmps.setIfInBounds t a) tmps = tmps.setIfInBounds 7 (.int .i64 i) := by simp
    rw [hz]
    refine round_of (n := 14) (ρ := up ρ3 7 (.int .i64 i)) (by simp [hts]) (fun j => ?_) limits_product_int_R3_ok limits_product_int_R4_ok ?_
    · rw [up_at]
      have hv := htv j
      simp only [Array.getD_eq_getD_getElem?] at hv ⊢
      rw [Array.getElem?_setIfInBounds]
      by_cases e : 7 = j
      · subst e; simp [hts]
      · rw [if_neg e, if_neg (fun q => e q.symm)]; exact hv
    rw [limits_product_int_R3_eq]
    unfold limits_product_int_R3_F
    refine ⟨L0, h4, hL0s, ?_⟩
    rw [limits_product_int_R4_eq]
    unfold limits_product_int_R4_F
    have hmb : Mod (fun b => b = w.heap.size + 1 + 1) w' (w'.putObj (w.heap.size + 1 + 1) (.loop { L0 with state := .busy })) := (Mod.refl _ w').put _ (fun _ => rfl)
    have hB := X.blk_lt h4
    have r3 : (up (up ρ3 7 (.int .i64 i)) 4 (up ρ3 7 (.int .i64 i) 7)) 3 = .pointer (some ⟨w.heap.size, 0, none⟩) := h33
    have r4 : (up (up ρ3 7 (.int .i64 i)) 4 (up ρ3 7 (.int .i64 i) 7)) 4 = .int .i64 i := rfl
    rw [r3, r4]
    refine ld1 uI rfl (v := .int .i64 (prodP (xs.take k))) (by rw [cell_blk (hmb.blk h2 (by omega))]; rfl) ?_
    rw [min_i]
    have hmin : (if (1048576 : Int) < i then 1048576 else i) = min i 1048576 := by split <;> omega
    rw [hmin, BK_mul]
    have hbig := mul_big hpre (m := min i 1048576) (by omega)
    rw [wrap_i (by omega) (by omega), min_i]
    have hmin2 : (if (1048576 : Int) < prodP (xs.take k) * min i 1048576 then 1048576 else prodP (xs.take k) * min i 1048576) = mulP (prodP (xs.take k)) i := by unfold mulP; split <;> omega
    rw [hmin2]
    have hnext : mulP (prodP (xs.take k)) i = prodP (xs.take (k + 1)) := by rw [List.take_add_one, hki, Option.toList_some, prodP_snoc]
    rw [hnext]
    refine st1 (o := 0) cI rfl (hmb.blk h2 (by omega)) (by simp) ?_
    have hc3 : (setB (w'.putObj (w.heap.size + 1 + 1) (.loop { L0 with state := .busy })) w.heap.size (.cells (#[Value.int .i64 (prodP (xs.take k))].setIfInBounds 0 (.int .i64 (prodP (xs.take (k + 1))))) 3 (0, 0))).heap[w.heap.size + 1 + 1]? = some (.loop { L0 with state := .busy }) := by
      rw [setB_old _ _ _ _ (by omega), putB, setB_new _ _ _ (by omega)]
    refine ⟨_, hc3, hK _ ⟨?_, ?_, ?_, ?_⟩⟩
    · refine Mod.put (Mod.set ?_ _ (fun q => absurd q (by omega))) _ (fun q => absurd q (by omega))
      exact h1.then hmb (fun b hb q => absurd q (by omega))
    · rw [putB, setB_old _ _ _ _ (by omega), setB_new _ _ _ (X.blk_lt (hmb.blk h2 (by omega)))]; rfl
    · rw [putB, setB_old _ _ _ _ (by omega), setB_old _ _ _ _ (by omega)]; exact hmb.blk h3 (by omega)
    · rw [putB, setB_new _ _ _ (by rw [setB_size]; have := X.blk_lt hc3; rw [setB_size] at this; exact this), ← hL0s, ← hL0p]
end Go.Proofs.YtpkfbaagpjdifaaDoor.Tr
set_option linter.unusedVariables false
set_option linter.unusedSimpArgs false
set_option maxRecDepth 4000
namespace Go.Proofs.YtpkfbaagpjdifaaDoor.Tr
open Go Go.X Go.RowKit Go.Proofs.YtpkfbaagpjdifaaDoor.XI Go.Proofs.YtpkfbaagpjdifaaDoor.XK
theorem Times_it {w : World} {bn bx : Nat} {x n : Int} (hn : w.heap[bn]? = some (.cells #[.int .i64 n] 3 (0, 0))) (hx : w.heap[bx]? = some (.cells #[.int .i64 x] 3 (0, 0))) (hm : n ≤ 1000000) : Iter w 49 [pt bn, pt bx] (timesP x n) := by
  intro l w1 J hJ hJm hy h0
  refine limits_times_1_calls ?_
  unfold limits_times_1_F
  refine ldOne (b := bn) rfl uI rfl ((hJ 0 _ h0).blk hn id) ?_
  have hlen : x ≠ 1 → (timesP x n).length = n.toNat := fun q => by unfold timesP; rw [if_neg q, List.length_replicate]
  refine W_loopG limits_times_1_L0_ok (fun m ρ w' => ∃ k, k + m = n.toNat ∧ (x = 1 → k = 0) ∧ ρ 0 = .func (.yield l) #[] #[] ∧ ρ 2 = pt bx ∧ ρ 4 = .int .i64 n ∧ ρ 5 = .int .i64 (k : Nat) ∧ J k w') n.toNat ⟨0, by omega, fun _ => rfl, rfl, rfl, rfl, rfl, h0⟩ ?_
  rintro m ρ w2 ⟨k, hk, hk1, q0, q2, q4, q5, hJ2⟩
  rw [limits_times_1_L0_eq]
  unfold limits_times_1_L0_F
  rw [q5, q4, q2, q0]
  by_cases hlt : (k : Int) < n
  · simp only [↓VG_u, ↓UG_u, ↓MG_u, ↓NG_u, ↓PG_u, ↓BG_u, ↓CG_u, ↓IG_u, ↓VGtt, ↓VGtf, ↓VGft, ↓VGff, ↓UGtt, ↓UGtf, ↓UGft, ↓UGff, ↓MGtt, ↓MGtf, ↓MGft, ↓MGff, ↓NGtt, ↓NGtf, ↓NGft, ↓NGff, ↓PGtt, ↓PGtf, ↓PGft, ↓PGff, ↓BGtt, ↓BGtf, ↓BGft, ↓BGff, ↓CGtt, ↓CGtf, ↓CGft, ↓CGff, ↓IGtt, ↓IGtf, ↓IGft, ↓IGff, ↓PKt, ↓PKf, ↓CDt, ↓CDf, ↓NOTt, ↓NOTf, ↓NK_ptr, ↓LTt hlt]
    have hbx := (hJ k _ hJ2).blk hx id
    refine ldOne (b := bx) rfl uI rfl hbx ?_
    by_cases h1 : x = 1
    · simp only [↓VG_u, ↓UG_u, ↓MG_u, ↓NG_u, ↓PG_u, ↓BG_u, ↓CG_u, ↓IG_u, ↓VGtt, ↓VGtf, ↓VGft, ↓VGff, ↓UGtt, ↓UGtf, ↓UGft, ↓UGff, ↓MGtt, ↓MGtf, ↓MGft, ↓MGff, ↓NGtt, ↓NGtf, ↓NGft, ↓NGff, ↓PGtt, ↓PGtf, ↓PGft, ↓PGff, ↓BGtt, ↓BGtf, ↓BGft, ↓BGff, ↓CGtt, ↓CGtf, ↓CGft, ↓CGff, ↓IGtt, ↓IGtf, ↓IGft, ↓IGff, ↓PKt, ↓PKf, ↓CDt, ↓CDf, ↓NOTt, ↓NOTf, ↓NK_ptr, ↓EQt h1]
      have hl0 : (timesP x n).length = 0 := by unfold timesP; rw [if_pos h1]; rfl
      show J (timesP x n).length w2
      rw [hl0]
      exact hk1 h1 ▸ hJ2
    · simp only [↓VG_u, ↓UG_u, ↓MG_u, ↓NG_u, ↓PG_u, ↓BG_u, ↓CG_u, ↓IG_u, ↓VGtt, ↓VGtf, ↓VGft, ↓VGff, ↓UGtt, ↓UGtf, ↓UGft, ↓UGff, ↓MGtt, ↓MGtf, ↓MGft, ↓MGff, ↓NGtt, ↓NGtf, ↓NGft, ↓NGff, ↓PGtt, ↓PGtf, ↓PGft, ↓PGff, ↓BGtt, ↓BGtf, ↓BGft, ↓BGff, ↓CGtt, ↓CGtf, ↓CGft, ↓CGff, ↓IGtt, ↓IGtf, ↓IGft, ↓IGff, ↓PKt, ↓PKf, ↓CDt, ↓CDf, ↓NOTt, ↓NOTf, ↓NK_ptr, ↓EQf h1]
      refine ldOne (b := bx) rfl uI rfl hbx ?_
      refine hy k w2 x ?_ hJ2 _ fun w3 hJ3 => ?_
      · unfold timesP
        rw [if_neg h1, List.getElem?_replicate, if_pos (by omega)]
      · try simp only [↓VG_u, ↓UG_u, ↓MG_u, ↓NG_u, ↓PG_u, ↓BG_u, ↓CG_u, ↓IG_u, ↓VGtt, ↓VGtf, ↓VGft, ↓VGff, ↓UGtt, ↓UGtf, ↓UGft, ↓UGff, ↓MGtt, ↓MGtf, ↓MGft, ↓MGff, ↓NGtt, ↓NGtf, ↓NGft, ↓NGff, ↓PGtt, ↓PGtf, ↓PGft, ↓PGff, ↓BGtt, ↓BGtf, ↓BGft, ↓BGff, ↓CGtt, ↓CGtf, ↓CGft, ↓CGff, ↓IGtt, ↓IGtf, ↓IGft, ↓IGff, ↓PKt, ↓PKf, ↓CDt, ↓CDf, ↓NOTt, ↓NOTf, ↓NK_ptr]
        refine BKadd (a := k) (b := 1) rfl rfl (by omega) (by omega) ⟨m - 1, by omega, k + 1, by omega, fun q => absurd q h1, ?_, ?_, ?_, rfl, hJ3⟩
        · exact q0
        · exact q2
        · exact q4
  · simp only [↓VG_u, ↓UG_u, ↓MG_u, ↓NG_u, ↓PG_u, ↓BG_u, ↓CG_u, ↓IG_u, ↓VGtt, ↓VGtf, ↓VGft, ↓VGff, ↓UGtt, ↓UGtf, ↓UGft, ↓UGff, ↓MGtt, ↓MGtf, ↓MGft, ↓MGff, ↓NGtt, ↓NGtf, ↓NGft, ↓NGff, ↓PGtt, ↓PGtf, ↓PGft, ↓PGff, ↓BGtt, ↓BGtf, ↓BGft, ↓BGff, ↓CGtt, ↓CGtf, ↓CGft, ↓CGff, ↓IGtt, ↓IGtf, ↓IGft, ↓IGff, ↓PKt, ↓PKf, ↓CDt, ↓CDf, ↓NOTt, ↓NOTf, ↓NK_ptr, ↓LTf (show n ≤ (k : Int) by omega)]
    rw [sq_x, bk_x]
    show J (timesP x n).length w2
    by_cases h1 : x = 1
    · have hl0 : (timesP x n).length = 0 := by unfold timesP; rw [if_pos h1]; rfl
      rw [hl0]
      exact hk1 h1 ▸ hJ2
    · rw [hlen h1, show n.toNat = k by omega]
      exact hJ2
theorem Times_k {w : World} {x n : Int} (hx : 1 ≤ x) (hm : n ≤ 1000000) {K : Value → Value → World → Prop} (hk : ∀ y w', Mod none_ w w' → K y (.int .i64 (prodP (timesP x n))) w') :
    CK Tryd.prog (.func (.func 23) #[] #[]) [.int .i64 x, .int .i64 n] w fun y w => CK Tryd.prog (.func (.func 22) #[] #[]) [y] w (K y) := by
  refine CK_st (R := fun v w' => ∃ bn bx : Nat, v = .func (.func 49) #[] [pt bn, pt bx].toArray ∧ w'.heap[bn]? = some (.cells #[.int .i64 n] 3 (0, 0)) ∧ w'.heap[bx]? = some (.cells #[.int .i64 x] 3 (0, 0)) ∧ Mod none_ w w') Tryd.func23 rfl rfl ?_ ?_
  · refine limits_times_calls ?_
    unfold limits_times_F
    refine box_k (cs := #[.int .i64 x]) rfl fun w1 hb1 hm1 hz1 => ?_
    refine box_k (cs := #[.int .i64 n]) rfl fun w2 hb2 hm2 hz2 => ?_
    rw [mkFunc]
    exact ⟨_, _, rfl, hb2, hm2.blk hb1 id, hm1.trans hm2⟩
  · rintro _ w1 ⟨bn, bx, rfl, hbn, hbx, hm1⟩
    refine CK_st Tryd.func22 rfl rfl (Product_ok (timesP_in hx) Tryd.func49 rfl rfl (Times_it hbn hbx hm)) ?_
    rintro _ w2 ⟨rfl, hm2⟩
    exact hk _ _ (hm1.trans hm2)
def WaysOk (r : Int) (e : St) : Prop := ∀ w : World, e.Ok w → e.sz ≤ 1099511627776 → e.may = true → Rt Tryd.prog 13 #[.agg e.cells.toArray, .int .i64 r] w fun v w' => v = .int .i64 (e.ways r) ∧ Mod none_ w w'
theorem Each_it {w : World} {bs br : Nat} {r : Int} {s : Value} {l : List St} (hs : w.heap[bs]? = some (.cells #[s] 23 (0, 0))) (hr : w.heap[br]? = some (.cells #[.int .i64 r] 3 (0, 0))) (hok : StsOk w s l) (hsz : St.szL l ≤ 1099511627776) (hmay : ∀ a ∈ l, a.may = true) (ih : ∀ a ∈ l, WaysOk r a) :
    Iter w 50 [pt bs, pt br] (l.map (St.ways r)) := by
  intro lp w1 J hJ hJm hy h0
  obtain ⟨A, c, rfl, _⟩ := reads_cap hok.1
  have hlen := St.len_sz l
  refine limits_each_1_calls ?_
  unfold limits_each_1_F
  refine ldOne (b := bs) rfl uSts rfl ((hJ 0 _ h0).blk hs id) ?_
  rw [len_sl uSts]
  refine W_loopG limits_each_1_L0_ok (fun m ρ w' => ∃ k, k + m = l.length ∧ ρ 0 = .func (.yield lp) #[] #[] ∧ ρ 2 = pt br ∧ ρ 6 = .slice A l.length c ∧ ρ 7 = .int .i64 (l.length : Nat) ∧ ρ 8 = .int .i64 (k : Nat) ∧ J k w') l.length ⟨0, by omega, rfl, rfl, rfl, rfl, rfl, h0⟩ ?_
  rintro m ρ w2 ⟨k, hk, q0, q2, q6, q7, q8, hJ2⟩
  rw [limits_each_1_L0_eq]
  unfold limits_each_1_L0_F
  rw [q8, q7, q6, q2, q0]
  by_cases hlt : k < l.length
  · simp only [↓VG_u, ↓UG_u, ↓MG_u, ↓NG_u, ↓PG_u, ↓BG_u, ↓CG_u, ↓IG_u, ↓VGtt, ↓VGtf, ↓VGft, ↓VGff, ↓UGtt, ↓UGtf, ↓UGft, ↓UGff, ↓MGtt, ↓MGtf, ↓MGft, ↓MGff, ↓NGtt, ↓NGtf, ↓NGft, ↓NGff, ↓PGtt, ↓PGtf, ↓PGft, ↓PGff, ↓BGtt, ↓BGtf, ↓BGft, ↓BGff, ↓CGtt, ↓CGtf, ↓CGft, ↓CGff, ↓IGtt, ↓IGtf, ↓IGft, ↓IGff, ↓PKt, ↓PKf, ↓CDt, ↓CDf, ↓NOTt, ↓NOTf, ↓NK_ptr, ↓LTt (show (k : Int) < (l.length : Int) by omega)]
    have hx : l[k]? = some l[k] := List.getElem?_eq_getElem hlt
    have hmem := List.getElem_mem hlt
    have hm2 := hJ k _ hJ2
    have hok2 := hok.mod hm2
    refine ixSt hok2 hx fun x10 => ?_
    refine lcl_k (cs := l[k].cells.toArray) zSt _ iSt rfl (st_one (hok.at hx)) fun w3 hb3 hm3 hz3 => ?_
    refine ldS (cs := l[k].cells.toArray) rfl Tryd.underlying25 rfl iSt hb3 ?_
    refine ldOne (b := br) rfl uI rfl ((hm2.trans hm3).blk hr id) ?_
    have hsn := St.szL_at hx
    refine CK_st Tryd.func13 rfl rfl (ih _ hmem w3 ((hok2.at hx).mod hm3) (by omega) (hmay _ hmem)) ?_
    rintro _ w4 ⟨rfl, hm4⟩
    refine hy k w4 _ (by rw [List.getElem?_map, hx]; rfl) (hJm _ _ _ (hJm _ _ _ hJ2 hm3) hm4) _ fun w5 hJ5 => ?_
    try simp only [↓VG_u, ↓UG_u, ↓MG_u, ↓NG_u, ↓PG_u, ↓BG_u, ↓CG_u, ↓IG_u, ↓VGtt, ↓VGtf, ↓VGft, ↓VGff, ↓UGtt, ↓UGtf, ↓UGft, ↓UGff, ↓MGtt, ↓MGtf, ↓MGft, ↓MGff, ↓NGtt, ↓NGtf, ↓NGft, ↓NGff, ↓PGtt, ↓PGtf, ↓PGft, ↓PGff, ↓BGtt, ↓BGtf, ↓BGft, ↓BGff, ↓CGtt, ↓CGtf, ↓CGft, ↓CGff, ↓IGtt, ↓IGtf, ↓IGft, ↓IGff, ↓PKt, ↓PKf, ↓CDt, ↓CDf, ↓NOTt, ↓NOTf, ↓NK_ptr]
    refine BKadd (a := k) (b := 1) rfl rfl (by omega) (by omega) ⟨m - 1, by omega, k + 1, by omega, ?_, ?_, ?_, ?_, rfl, hJ5⟩
    · exact q0
    · exact q2
    · exact q6
    · exact q7
  · simp only [↓VG_u, ↓UG_u, ↓MG_u, ↓NG_u, ↓PG_u, ↓BG_u, ↓CG_u, ↓IG_u, ↓VGtt, ↓VGtf, ↓VGft, ↓VGff, ↓UGtt, ↓UGtf, ↓UGft, ↓UGff, ↓MGtt, ↓MGtf, ↓MGft, ↓MGff, ↓NGtt, ↓NGtf, ↓NGft, ↓NGff, ↓PGtt, ↓PGtf, ↓PGft, ↓PGff, ↓BGtt, ↓BGtf, ↓BGft, ↓BGff, ↓CGtt, ↓CGtf, ↓CGft, ↓CGff, ↓IGtt, ↓IGtf, ↓IGft, ↓IGff, ↓PKt, ↓PKf, ↓CDt, ↓CDf, ↓NOTt, ↓NOTf, ↓NK_ptr, ↓LTf (show (l.length : Int) ≤ (k : Int) by omega)]
    rw [sq_x, bk_x]
    show J (l.map (St.ways r)).length w2
    rw [List.length_map, show l.length = k by omega]
    exact hJ2
theorem Each_k {w : World} {r : Int} (hr : 1 ≤ r) {s : Value} {l : List St} (hok : StsOk w s l) (hsz : St.szL l ≤ 1099511627776) (hmay : ∀ a ∈ l, a.may = true) (ih : ∀ a ∈ l, WaysOk r a) {K : Value → Value → World → Prop} (hk : ∀ y w', Mod none_ w w' → K y (.int .i64 (St.waysL r l)) w') :
    CK Tryd.prog (.func (.func 24) #[] #[]) [s, .int .i64 r] w fun y w => CK Tryd.prog (.func (.func 22) #[] #[]) [y] w (K y) := by
  have hs1 : (Value.cells s) = #[s] := by obtain ⟨A, c, rfl, _⟩ := reads_cap hok.1; rfl
  refine CK_st (R := fun v w' => ∃ bs br : Nat, v = .func (.func 50) #[] [pt bs, pt br].toArray ∧ w'.heap[bs]? = some (.cells #[s] 23 (0, 0)) ∧ w'.heap[br]? = some (.cells #[.int .i64 r] 3 (0, 0)) ∧ Mod none_ w w') Tryd.func24 rfl rfl ?_ ?_
  · refine limits_each_calls ?_
    unfold limits_each_F
    refine box_k (cs := #[s]) hs1 fun w1 hb1 hm1 hz1 => ?_
    refine box_k (cs := #[.int .i64 r]) rfl fun w2 hb2 hm2 hz2 => ?_
    rw [mkFunc]
    exact ⟨_, _, rfl, hm2.blk hb1 id, hb2, hm1.trans hm2⟩
  · rintro _ w1 ⟨bs, br, rfl, hbs, hbr, hm1⟩
    refine CK_st Tryd.func22 rfl rfl (Product_ok (fun x hx => by obtain ⟨a, _, rfl⟩ := List.mem_map.1 hx; exact St.ways_in hr a) Tryd.func50 rfl rfl (Each_it hbs hbr (hok.mod hm1) hsz hmay ih)) ?_
    rintro _ w2 ⟨rfl, hm2⟩
    exact hk _ _ (hm1.trans hm2)
theorem out_ok {w : World} {e : St} {r : Int} (hr : 1 ≤ r ∧ r ≤ 64) (hok : e.Ok w) (hsz : e.sz ≤ 1099511627776) : Rt Tryd.prog 25 #[.agg e.cells.toArray, .int .i64 r] w fun v w' => v = .int .i64 (outB r e.kind e.exprs.length e.dec) ∧ Mod none_ w w' := by
  refine limits_out_calls ?_
  unfold limits_out_F
  refine box_k (cs := e.cells.toArray) rfl fun w1 hb1 hm1 hz1 => ?_
  refine ldS (cs := e.cells.toArray) rfl Tryd.underlying25 rfl iSt hb1 ?_
  refine CK_st Tryd.func51 rfl rfl (Decides_ok (hok.mod hm1)) ?_
  rintro _ w2 ⟨rfl, hm2⟩
  have hm02 := hm1.trans hm2
  have hb2 := hm2.blk hb1 id
  have hne := Ex.len_sz e.exprs
  have hse := St.sz_eq e
  cases hd : e.dec with
  | false =>
    try simp only [↓VG_u, ↓UG_u, ↓MG_u, ↓NG_u, ↓PG_u, ↓BG_u, ↓CG_u, ↓IG_u, ↓VGtt, ↓VGtf, ↓VGft, ↓VGff, ↓UGtt, ↓UGtf, ↓UGft, ↓UGff, ↓MGtt, ↓MGtf, ↓MGft, ↓MGff, ↓NGtt, ↓NGtf, ↓NGft, ↓NGff, ↓PGtt, ↓PGtf, ↓PGft, ↓PGff, ↓BGtt, ↓BGtf, ↓BGft, ↓BGff, ↓CGtt, ↓CGtf, ↓CGft, ↓CGff, ↓IGtt, ↓IGtf, ↓IGft, ↓IGff, ↓PKt, ↓PKf, ↓CDt, ↓CDf, ↓NOTt, ↓NOTf, ↓NK_ptr]
    exact ⟨rfl, hm02⟩
  | true =>
    try simp only [↓VG_u, ↓UG_u, ↓MG_u, ↓NG_u, ↓PG_u, ↓BG_u, ↓CG_u, ↓IG_u, ↓VGtt, ↓VGtf, ↓VGft, ↓VGff, ↓UGtt, ↓UGtf, ↓UGft, ↓UGff, ↓MGtt, ↓MGtf, ↓MGft, ↓MGff, ↓NGtt, ↓NGtf, ↓NGft, ↓NGff, ↓PGtt, ↓PGtf, ↓PGft, ↓PGff, ↓BGtt, ↓BGtf, ↓BGft, ↓BGff, ↓CGtt, ↓CGtf, ↓CGft, ↓CGff, ↓IGtt, ↓IGtf, ↓IGft, ↓IGff, ↓PKt, ↓PKf, ↓CDt, ↓CDf, ↓NOTt, ↓NOTf, ↓NK_ptr]
    have f1 : FO Tryd.prog w2 25 1 1 ⟨w.heap.size, 0, none⟩ 5 (.int .u8 e.kind) := FO.blk hb2 (by kernel_rfl) uU8 rfl rfl
    obtain ⟨A, c, hes, _⟩ := reads_cap hok.exprs.1
    have f5 : FO Tryd.prog w2 25 5 5 ⟨w.heap.size, 0, none⟩ 22 (.slice A e.exprs.length c) := FO.blk hb2 (by kernel_rfl) uExs rfl (by rw [← hes]; rfl)
    simp only [↓f1.e]
    unfold outB
    rw [if_pos rfl]
    by_cases k14 : e.kind = 14
    · simp only [↓VG_u, ↓UG_u, ↓MG_u, ↓NG_u, ↓PG_u, ↓BG_u, ↓CG_u, ↓IG_u, ↓VGtt, ↓VGtf, ↓VGft, ↓VGff, ↓UGtt, ↓UGtf, ↓UGft, ↓UGff, ↓MGtt, ↓MGtf, ↓MGft, ↓MGff, ↓NGtt, ↓NGtf, ↓NGft, ↓NGff, ↓PGtt, ↓PGtf, ↓PGft, ↓PGff, ↓BGtt, ↓BGtf, ↓BGft, ↓BGff, ↓CGtt, ↓CGtf, ↓CGft, ↓CGff, ↓IGtt, ↓IGtf, ↓IGft, ↓IGff, ↓PKt, ↓PKf, ↓CDt, ↓CDf, ↓NOTt, ↓NOTf, ↓NK_ptr, ↓EQt k14]
      rw [if_pos k14]
      exact BKadd (a := r) (b := 2) rfl rfl (by omega) (by omega) ⟨rfl, hm02⟩
    · simp only [↓VG_u, ↓UG_u, ↓MG_u, ↓NG_u, ↓PG_u, ↓BG_u, ↓CG_u, ↓IG_u, ↓VGtt, ↓VGtf, ↓VGft, ↓VGff, ↓UGtt, ↓UGtf, ↓UGft, ↓UGff, ↓MGtt, ↓MGtf, ↓MGft, ↓MGff, ↓NGtt, ↓NGtf, ↓NGft, ↓NGff, ↓PGtt, ↓PGtf, ↓PGft, ↓PGff, ↓BGtt, ↓BGtf, ↓BGft, ↓BGff, ↓CGtt, ↓CGtf, ↓CGft, ↓CGff, ↓IGtt, ↓IGtf, ↓IGft, ↓IGff, ↓PKt, ↓PKf, ↓CDt, ↓CDf, ↓NOTt, ↓NOTf, ↓NK_ptr, ↓EQf k14]
      rw [if_neg k14]
      by_cases k11 : e.kind = 11
      · simp only [↓VG_u, ↓UG_u, ↓MG_u, ↓NG_u, ↓PG_u, ↓BG_u, ↓CG_u, ↓IG_u, ↓VGtt, ↓VGtf, ↓VGft, ↓VGff, ↓UGtt, ↓UGtf, ↓UGft, ↓UGff, ↓MGtt, ↓MGtf, ↓MGft, ↓MGff, ↓NGtt, ↓NGtf, ↓NGft, ↓NGff, ↓PGtt, ↓PGtf, ↓PGft, ↓PGff, ↓BGtt, ↓BGtf, ↓BGft, ↓BGff, ↓CGtt, ↓CGtf, ↓CGft, ↓CGff, ↓IGtt, ↓IGtf, ↓IGft, ↓IGff, ↓PKt, ↓PKf, ↓CDt, ↓CDf, ↓NOTt, ↓NOTf, ↓NK_ptr, ↓EQt k11]
        rw [if_pos k11]
        first | exact ⟨rfl, hm02⟩ | exact ⟨trivial, hm02⟩
      · simp only [↓VG_u, ↓UG_u, ↓MG_u, ↓NG_u, ↓PG_u, ↓BG_u, ↓CG_u, ↓IG_u, ↓VGtt, ↓VGtf, ↓VGft, ↓VGff, ↓UGtt, ↓UGtf, ↓UGft, ↓UGff, ↓MGtt, ↓MGtf, ↓MGft, ↓MGff, ↓NGtt, ↓NGtf, ↓NGft, ↓NGff, ↓PGtt, ↓PGtf, ↓PGft, ↓PGff, ↓BGtt, ↓BGtf, ↓BGft, ↓BGff, ↓CGtt, ↓CGtf, ↓CGft, ↓CGff, ↓IGtt, ↓IGtf, ↓IGft, ↓IGff, ↓PKt, ↓PKf, ↓CDt, ↓CDf, ↓NOTt, ↓NOTf, ↓NK_ptr, ↓EQf k11]
        rw [if_neg k11]
        by_cases k10 : e.kind = 10
        · simp only [↓VG_u, ↓UG_u, ↓MG_u, ↓NG_u, ↓PG_u, ↓BG_u, ↓CG_u, ↓IG_u, ↓VGtt, ↓VGtf, ↓VGft, ↓VGff, ↓UGtt, ↓UGtf, ↓UGft, ↓UGff, ↓MGtt, ↓MGtf, ↓MGft, ↓MGff, ↓NGtt, ↓NGtf, ↓NGft, ↓NGff, ↓PGtt, ↓PGtf, ↓PGft, ↓PGff, ↓BGtt, ↓BGtf, ↓BGft, ↓BGff, ↓CGtt, ↓CGtf, ↓CGft, ↓CGff, ↓IGtt, ↓IGtf, ↓IGft, ↓IGff, ↓PKt, ↓PKf, ↓CDt, ↓CDf, ↓NOTt, ↓NOTf, ↓NK_ptr, ↓EQt k10, ↓f5.e]
          rw [if_pos k10, len_sl uExs]
          exact BKadd (a := e.exprs.length) (b := 1) rfl rfl (by omega) (by omega) ⟨rfl, hm02⟩
        · simp only [↓VG_u, ↓UG_u, ↓MG_u, ↓NG_u, ↓PG_u, ↓BG_u, ↓CG_u, ↓IG_u, ↓VGtt, ↓VGtf, ↓VGft, ↓VGff, ↓UGtt, ↓UGtf, ↓UGft, ↓UGff, ↓MGtt, ↓MGtf, ↓MGft, ↓MGff, ↓NGtt, ↓NGtf, ↓NGft, ↓NGff, ↓PGtt, ↓PGtf, ↓PGft, ↓PGff, ↓BGtt, ↓BGtf, ↓BGft, ↓BGff, ↓CGtt, ↓CGtf, ↓CGft, ↓CGff, ↓IGtt, ↓IGtf, ↓IGft, ↓IGff, ↓PKt, ↓PKf, ↓CDt, ↓CDf, ↓NOTt, ↓NOTf, ↓NK_ptr, ↓EQf k10]
          rw [if_neg k10]
          by_cases k12 : e.kind = 12
          · simp only [↓VG_u, ↓UG_u, ↓MG_u, ↓NG_u, ↓PG_u, ↓BG_u, ↓CG_u, ↓IG_u, ↓VGtt, ↓VGtf, ↓VGft, ↓VGff, ↓UGtt, ↓UGtf, ↓UGft, ↓UGff, ↓MGtt, ↓MGtf, ↓MGft, ↓MGff, ↓NGtt, ↓NGtf, ↓NGft, ↓NGff, ↓PGtt, ↓PGtf, ↓PGft, ↓PGff, ↓BGtt, ↓BGtf, ↓BGft, ↓BGff, ↓CGtt, ↓CGtf, ↓CGft, ↓CGff, ↓IGtt, ↓IGtf, ↓IGft, ↓IGff, ↓PKt, ↓PKf, ↓CDt, ↓CDf, ↓NOTt, ↓NOTf, ↓NK_ptr, ↓EQt k12, ↓f5.e]
            rw [if_pos k12, len_sl uExs]
            exact BKadd (a := e.exprs.length) (b := 2) rfl rfl (by omega) (by omega) ⟨rfl, hm02⟩
          · simp only [↓VG_u, ↓UG_u, ↓MG_u, ↓NG_u, ↓PG_u, ↓BG_u, ↓CG_u, ↓IG_u, ↓VGtt, ↓VGtf, ↓VGft, ↓VGff, ↓UGtt, ↓UGtf, ↓UGft, ↓UGff, ↓MGtt, ↓MGtf, ↓MGft, ↓MGff, ↓NGtt, ↓NGtf, ↓NGft, ↓NGff, ↓PGtt, ↓PGtf, ↓PGft, ↓PGff, ↓BGtt, ↓BGtf, ↓BGft, ↓BGff, ↓CGtt, ↓CGtf, ↓CGft, ↓CGff, ↓IGtt, ↓IGtf, ↓IGft, ↓IGff, ↓PKt, ↓PKf, ↓CDt, ↓CDf, ↓NOTt, ↓NOTf, ↓NK_ptr, ↓EQf k12]
            rw [if_neg k12]
            exact BKadd (a := r) (b := 1) rfl rfl (by omega) (by omega) ⟨rfl, hm02⟩
theorem ways_ok {r : Int} (hr : 1 ≤ r ∧ r ≤ 64) : ∀ e : St, WaysOk r e := by
  intro e
  induction e using St.ind with
  | h e ih1 ih2 =>
  intro w hok hsz hmay
  have hse := St.sz_eq e
  obtain ⟨m1, m2, m3⟩ := may_parts hmay
  have ht := may_turns hmay
  have hweq := St.ways_eq r e
  refine limits_ways_calls ?_
  unfold limits_ways_F
  refine box_k (cs := e.cells.toArray) rfl fun w1 hb1 hm1 hz1 => ?_
  have f6 : FO Tryd.prog w1 25 6 6 ⟨w.heap.size, 0, none⟩ 23 e.bs := FO.blk hb1 (by kernel_rfl) uSts rfl rfl
  simp only [↓f6.e]
  refine Each_k hr.1 (hok.mod hm1).body (by omega) m2 ih1 fun y w2 hm2 => ?_
  have hm02 := hm1.trans hm2
  have hb2 := hm2.blk hb1 id
  have f0 : FO Tryd.prog w2 25 0 0 ⟨w.heap.size, 0, none⟩ 5 (.int .u8 e.op) := FO.blk hb2 (by kernel_rfl) uU8 rfl rfl
  have f4 : FO Tryd.prog w2 25 4 4 ⟨w.heap.size, 0, none⟩ 3 (.int .i64 e.turns) := FO.blk hb2 (by kernel_rfl) uI rfl rfl
  have f7 : FO Tryd.prog w2 25 7 7 ⟨w.heap.size, 0, none⟩ 23 e.ls := FO.blk hb2 (by kernel_rfl) uSts rfl rfl
  have hB := St.waysL_in hr.1 e.body
  simp only [↓f0.e]
  unfold waysB at hweq
  by_cases k3 : e.op = 3
  · simp only [↓VG_u, ↓UG_u, ↓MG_u, ↓NG_u, ↓PG_u, ↓BG_u, ↓CG_u, ↓IG_u, ↓VGtt, ↓VGtf, ↓VGft, ↓VGff, ↓UGtt, ↓UGtf, ↓UGft, ↓UGff, ↓MGtt, ↓MGtf, ↓MGft, ↓MGff, ↓NGtt, ↓NGtf, ↓NGft, ↓NGff, ↓PGtt, ↓PGtf, ↓PGft, ↓PGff, ↓BGtt, ↓BGtf, ↓BGft, ↓BGff, ↓CGtt, ↓CGtf, ↓CGft, ↓CGff, ↓IGtt, ↓IGtf, ↓IGft, ↓IGff, ↓PKt, ↓PKf, ↓CDt, ↓CDf, ↓NOTt, ↓NOTf, ↓NK_ptr, ↓EQt k3, ↓f7.e]
    rw [if_pos k3] at hweq
    refine Each_k hr.1 (hok.mod hm02).els (by omega) m3 ih2 fun y w3 hm3 => ?_
    rw [max_i]
    exact ⟨by rw [hweq]; rfl, hm02.trans hm3⟩
  · simp only [↓VG_u, ↓UG_u, ↓MG_u, ↓NG_u, ↓PG_u, ↓BG_u, ↓CG_u, ↓IG_u, ↓VGtt, ↓VGtf, ↓VGft, ↓VGff, ↓UGtt, ↓UGtf, ↓UGft, ↓UGff, ↓MGtt, ↓MGtf, ↓MGft, ↓MGff, ↓NGtt, ↓NGtf, ↓NGft, ↓NGff, ↓PGtt, ↓PGtf, ↓PGft, ↓PGff, ↓BGtt, ↓BGtf, ↓BGft, ↓BGff, ↓CGtt, ↓CGtf, ↓CGft, ↓CGff, ↓IGtt, ↓IGtf, ↓IGft, ↓IGff, ↓PKt, ↓PKf, ↓CDt, ↓CDf, ↓NOTt, ↓NOTf, ↓NK_ptr, ↓EQf k3]
    rw [if_neg k3] at hweq
    by_cases k4 : e.op = 4
    · simp only [↓VG_u, ↓UG_u, ↓MG_u, ↓NG_u, ↓PG_u, ↓BG_u, ↓CG_u, ↓IG_u, ↓VGtt, ↓VGtf, ↓VGft, ↓VGff, ↓UGtt, ↓UGtf, ↓UGft, ↓UGff, ↓MGtt, ↓MGtf, ↓MGft, ↓MGff, ↓NGtt, ↓NGtf, ↓NGft, ↓NGff, ↓PGtt, ↓PGtf, ↓PGft, ↓PGff, ↓BGtt, ↓BGtf, ↓BGft, ↓BGff, ↓CGtt, ↓CGtf, ↓CGft, ↓CGff, ↓IGtt, ↓IGtf, ↓IGft, ↓IGff, ↓PKt, ↓PKf, ↓CDt, ↓CDf, ↓NOTt, ↓NOTf, ↓NK_ptr, ↓EQt k4]
      rw [if_pos k4] at hweq
      by_cases h1 : 1 < St.waysL r e.body
      · simp only [↓VG_u, ↓UG_u, ↓MG_u, ↓NG_u, ↓PG_u, ↓BG_u, ↓CG_u, ↓IG_u, ↓VGtt, ↓VGtf, ↓VGft, ↓VGff, ↓UGtt, ↓UGtf, ↓UGft, ↓UGff, ↓MGtt, ↓MGtf, ↓MGft, ↓MGff, ↓NGtt, ↓NGtf, ↓NGft, ↓NGff, ↓PGtt, ↓PGtf, ↓PGft, ↓PGff, ↓BGtt, ↓BGtf, ↓BGft, ↓BGff, ↓CGtt, ↓CGtf, ↓CGft, ↓CGff, ↓IGtt, ↓IGtf, ↓IGft, ↓IGff, ↓PKt, ↓PKf, ↓CDt, ↓CDf, ↓NOTt, ↓NOTf, ↓NK_ptr, ↓GTt h1]
        rw [if_pos h1] at hweq
        first | exact ⟨by rw [hweq], hm02⟩ | exact ⟨trivial, hm02⟩
      · simp only [↓VG_u, ↓UG_u, ↓MG_u, ↓NG_u, ↓PG_u, ↓BG_u, ↓CG_u, ↓IG_u, ↓VGtt, ↓VGtf, ↓VGft, ↓VGff, ↓UGtt, ↓UGtf, ↓UGft, ↓UGff, ↓MGtt, ↓MGtf, ↓MGft, ↓MGff, ↓NGtt, ↓NGtf, ↓NGft, ↓NGff, ↓PGtt, ↓PGtf, ↓PGft, ↓PGff, ↓BGtt, ↓BGtf, ↓BGft, ↓BGff, ↓CGtt, ↓CGtf, ↓CGft, ↓CGff, ↓IGtt, ↓IGtf, ↓IGft, ↓IGff, ↓PKt, ↓PKf, ↓CDt, ↓CDf, ↓NOTt, ↓NOTf, ↓NK_ptr, ↓GTf (show St.waysL r e.body ≤ 1 by omega)]
        rw [if_neg h1] at hweq
        first | exact ⟨by rw [hweq], hm02⟩ | exact ⟨trivial, hm02⟩
    · simp only [↓VG_u, ↓UG_u, ↓MG_u, ↓NG_u, ↓PG_u, ↓BG_u, ↓CG_u, ↓IG_u, ↓VGtt, ↓VGtf, ↓VGft, ↓VGff, ↓UGtt, ↓UGtf, ↓UGft, ↓UGff, ↓MGtt, ↓MGtf, ↓MGft, ↓MGff, ↓NGtt, ↓NGtf, ↓NGft, ↓NGff, ↓PGtt, ↓PGtf, ↓PGft, ↓PGff, ↓BGtt, ↓BGtf, ↓BGft, ↓BGff, ↓CGtt, ↓CGtf, ↓CGft, ↓CGff, ↓IGtt, ↓IGtf, ↓IGft, ↓IGff, ↓PKt, ↓PKf, ↓CDt, ↓CDf, ↓NOTt, ↓NOTf, ↓NK_ptr, ↓EQf k4]
      rw [if_neg k4] at hweq
      by_cases k5 : e.op = 5
      · simp only [↓VG_u, ↓UG_u, ↓MG_u, ↓NG_u, ↓PG_u, ↓BG_u, ↓CG_u, ↓IG_u, ↓VGtt, ↓VGtf, ↓VGft, ↓VGff, ↓UGtt, ↓UGtf, ↓UGft, ↓UGff, ↓MGtt, ↓MGtf, ↓MGft, ↓MGff, ↓NGtt, ↓NGtf, ↓NGft, ↓NGff, ↓PGtt, ↓PGtf, ↓PGft, ↓PGff, ↓BGtt, ↓BGtf, ↓BGft, ↓BGff, ↓CGtt, ↓CGtf, ↓CGft, ↓CGff, ↓IGtt, ↓IGtf, ↓IGft, ↓IGff, ↓PKt, ↓PKf, ↓CDt, ↓CDf, ↓NOTt, ↓NOTf, ↓NK_ptr, ↓EQt k5, ↓f4.e]
        rw [if_pos k5] at hweq
        have fin : ∀ (ρ : Sl) (K : Exit → Sl → World → Prop), ρ 5 = .int .i64 (St.waysL r e.body) → ρ 6 = .int .i64 (if e.turns = 0 then r else e.turns) → (∀ ρ' w', ρ' 4 = .int .i64 (e.ways r) → Mod none_ w w' → K .ret ρ' w') → sx fn_ Tryd.prog 41 limits_ways_R0 K ρ w2 := by
          intro ρ K r5 r6 hK
          rw [limits_ways_R0_eq]
          unfold limits_ways_R0_F
          rw [r5, r6]
          refine Times_k hB.1 (by split <;> omega) fun y w3 hm3 => hK _ _ ?_ (hm02.trans hm3)
          show Value.int .i64 _ = _
          rw [hweq]
        by_cases h0 : e.turns = 0
        · simp only [↓VG_u, ↓UG_u, ↓MG_u, ↓NG_u, ↓PG_u, ↓BG_u, ↓CG_u, ↓IG_u, ↓VGtt, ↓VGtf, ↓VGft, ↓VGff, ↓UGtt, ↓UGtf, ↓UGft, ↓UGff, ↓MGtt, ↓MGtf, ↓MGft, ↓MGff, ↓NGtt, ↓NGtf, ↓NGft, ↓NGff, ↓PGtt, ↓PGtf, ↓PGft, ↓PGff, ↓BGtt, ↓BGtf, ↓BGft, ↓BGff, ↓CGtt, ↓CGtf, ↓CGft, ↓CGff, ↓IGtt, ↓IGtf, ↓IGft, ↓IGff, ↓PKt, ↓PKf, ↓CDt, ↓CDf, ↓NOTt, ↓NOTf, ↓NK_ptr, ↓EQt h0]
          refine fin _ _ ?_ ?_ fun ρ' w' h4 hm => ?_
          · rfl
          · rw [if_pos h0]; rfl
          · exact ⟨h4, hm⟩
        · simp only [↓VG_u, ↓UG_u, ↓MG_u, ↓NG_u, ↓PG_u, ↓BG_u, ↓CG_u, ↓IG_u, ↓VGtt, ↓VGtf, ↓VGft, ↓VGff, ↓UGtt, ↓UGtf, ↓UGft, ↓UGff, ↓MGtt, ↓MGtf, ↓MGft, ↓MGff, ↓NGtt, ↓NGtf, ↓NGft, ↓NGff, ↓PGtt, ↓PGtf, ↓PGft, ↓PGff, ↓BGtt, ↓BGtf, ↓BGft, ↓BGff, ↓CGtt, ↓CGtf, ↓CGft, ↓CGff, ↓IGtt, ↓IGtf, ↓IGft, ↓IGff, ↓PKt, ↓PKf, ↓CDt, ↓CDf, ↓NOTt, ↓NOTf, ↓NK_ptr, ↓EQf h0]
          refine fin _ _ ?_ ?_ fun ρ' w' h4 hm => ?_
          · rfl
          · rw [if_neg h0]; rfl
          · exact ⟨h4, hm⟩
      · simp only [↓VG_u, ↓UG_u, ↓MG_u, ↓NG_u, ↓PG_u, ↓BG_u, ↓CG_u, ↓IG_u, ↓VGtt, ↓VGtf, ↓VGft, ↓VGff, ↓UGtt, ↓UGtf, ↓UGft, ↓UGff, ↓MGtt, ↓MGtf, ↓MGft, ↓MGff, ↓NGtt, ↓NGtf, ↓NGft, ↓NGff, ↓PGtt, ↓PGtf, ↓PGft, ↓PGff, ↓BGtt, ↓BGtf, ↓BGft, ↓BGff, ↓CGtt, ↓CGtf, ↓CGft, ↓CGff, ↓IGtt, ↓IGtf, ↓IGft, ↓IGff, ↓PKt, ↓PKf, ↓CDt, ↓CDf, ↓NOTt, ↓NOTf, ↓NK_ptr, ↓EQf k5]
        rw [if_neg k5] at hweq
        refine ldS (cs := e.cells.toArray) rfl Tryd.underlying25 rfl iSt hb2 ?_
        refine CK_st Tryd.func25 rfl rfl (out_ok hr (hok.mod hm02) hsz) ?_
        rintro _ w3 ⟨rfl, hm3⟩
        exact ⟨by rw [hweq], hm02.trans hm3⟩
end Go.Proofs.YtpkfbaagpjdifaaDoor.Tr
set_option linter.unusedVariables false
set_option linter.unusedSimpArgs false
set_option maxRecDepth 4000
namespace Go.Proofs.YtpkfbaagpjdifaaDoor.Tr
open Go Go.X Go.RowKit Go.Proofs.YtpkfbaagpjdifaaDoor.XG Go.Proofs.YtpkfbaagpjdifaaDoor.XH Go.Proofs.YtpkfbaagpjdifaaDoor.XK
theorem fldWr {w : World} {K : Value → World → Prop} (e : Wr) : VK Tryd.prog (Instr.field 54 e.v 0) w K = K (.int .i64 e.err) w := by
  refine VK_eq_of ?_
  unfold Instr.field
  simp [Sem.run_bind, run_underlying Tryd.underlying54, part, isE, Wr.v, Wr.cells, asAgg]
theorem ScCheck_ok {w : World} (hg : Gl w) {p : Pr} (h : p.Ok w) (hf : p.fits) : Rt Tryd.prog 45 #[.agg p.cells.toArray] w fun v w' => v = (checkP p).v ∧ Mod none_ w w' := by
  refine scope_Check_calls ?_
  unfold scope_Check_F
  refine box_k (cs := p.cells.toArray) rfl fun w1 hb1 hm1 hz1 => ?_
  refine al_k zWrg rfl _ fun w2 hb2 hm2 hz2 => ?_
  have hm02 := hm1.trans hm2
  refine ldB (cs := p.cells.toArray) Tryd.underlying34 rfl iPr (hm2.blk hb1 id) ?_
  refine CK_st Tryd.func73 rfl rfl (New_ok (hg.mod hm02) (h.mod hm02) hf) ?_
  rintro _ w3 ⟨x, rfl, hT⟩
  rw [extract_ok (v := x) rfl, extract_ok (v := (checkP p).v) rfl]
  have hm3 := hT.m
  have hb3 := hm3.blk hb2 id
  refine lcl_k (cs := (checkP p).cells.toArray) zWrg _ iWrg rfl (wr_one _) fun w4 hb4 hm4 hz4 => ?_
  refine ldB (cs := (checkP p).cells.toArray) Tryd.underlying54 rfl iWrg hb4 ?_
  refine stS (b := w1.heap.size) (old := zWr.cells.toArray) (cs := (checkP p).cells.toArray) rfl rfl iWrg rfl (wr_one _) (hm4.blk hb3 id) fun w5 hb5 hm5 _ => ?_
  exact ⟨_, res_ld (run_ldB (cs := (checkP p).cells.toArray) Tryd.underlying54 rfl iWrg hb5), rfl, ((hm02.trans hm3).trans hm4).then hm5 fun i hi q => absurd q (by omega)⟩
def ofP (p : Pr) (n : Int) : Bd × Int :=
  if (checkP p).err ≠ 0 ∨ n < 1 ∨ 64 < n then (zBd, 2) else if St.lpL p.body then (zBd, 90) else if 1048576 < (St.bdF n zBd p.body).s + 1 then (zBd, 90) else ((St.bdF n zBd p.body).and (Bd.mk 1 0 0), 0)
theorem of_may {p : Pr} (h : (checkP p).err = 0) : ∀ a ∈ p.body, a.may = true := by
  unfold checkP at h
  split at h
  · rename_i hm
    unfold Pr.may at hm
    simp only [Bool.and_eq_true, St.mayL_eq, List.all_eq_true] at hm
    exact hm.2
  · simp at h
theorem body_in {p : Pr} {n : Int} (hn : 1 ≤ n ∧ n ≤ 64) (hm : ∀ a ∈ p.body, a.may = true) (hf : p.fits) : (St.bdF n zBd p.body).In 1048577 := bdF_in (fun a ha => by
  obtain ⟨i, hi⟩ := List.getElem?_of_mem ha
  have := St.szL_at hi
  have := hf.2
  exact (bd_in hn a (hm a ha) (by omega)).1) (zBd_in _ (by decide))
theorem resOf {w w' : World} {b4 : Nat} {b old : Bd} {er : Int} {v : Value} {p : Pr} {n : Int} (g : w'.heap[b4]? = some (.cells old.cells.toArray 58 (0, 0))) (hm : Mod none_ w w') (hb : w.heap.size ≤ b4) (ho : ofP p n = (b, er)) (hv : v = b.v) :
    UK Tryd.prog (Instr.storeAt 58 (.pointer (some ⟨b4, 0, none⟩)) v) w' fun _ w'' => ∃ x, (do loadVar 58 (← asAddr (.pointer (some ⟨b4, 0, none⟩))) : Sem Value).run Tryd.prog w'' = .ok x w'' ∧ (Value.tuple #[x, .int .i64 er] = Value.tuple #[(ofP p n).1.v, .int .i64 (ofP p n).2] ∧ Mod none_ w w'') := by
  subst hv
  refine stS (b := b4) (old := old.cells.toArray) (cs := b.cells.toArray) rfl rfl iBnd rfl (bd_one _) g fun w5 hb5 hm5 _ => ?_
  exact ⟨_, res_ld (run_ldB (cs := b.cells.toArray) Tryd.underlying58 rfl iBnd hb5), by rw [ho]; rfl, hm.then hm5 fun i hi q => absurd q (by omega)⟩
theorem Of_ok {w : World} (hg : Gl w) {p : Pr} (h : p.Ok w) (hf : p.fits) (n : Int) : Rt Tryd.prog 21 #[.agg p.cells.toArray, .int .i64 n] w fun v w' => v = .tuple #[(ofP p n).1.v, .int .i64 (ofP p n).2] ∧ Mod none_ w w' := by
  refine bound_Of_calls ?_
  unfold bound_Of_F
  refine box_k (cs := p.cells.toArray) rfl fun w1 hb1 hm1 hz1 => ?_
  refine al_k zBnd rfl _ fun w2 hb2 hm2 hz2 => ?_
  have hm02 := hm1.trans hm2
  refine ldB (cs := p.cells.toArray) Tryd.underlying34 rfl iPr (hm2.blk hb1 id) ?_
  refine CK_st Tryd.func45 rfl rfl (ScCheck_ok (hg.mod hm02) (h.mod hm02) hf) ?_
  rintro _ w3 ⟨rfl, hm3⟩
  rw [fldWr]
  have hm03 := hm02.trans hm3
  have hb13 := (hm2.trans hm3).blk hb1 id
  have hb23 := hm3.blk hb2 id
  have hlt : w.heap.size < w1.heap.size := by omega
  clear hm1 hz1 hb1 hm2 hz2 hb2 hm3 hm02
  generalize w1.heap.size = b4 at *
  have hes : (checkP p).err ≠ 0 → ofP p n = (zBd, 2) := fun q => by unfold ofP; rw [if_pos (Or.inl q)]
  refine BKneI (a := (checkP p).err) (b := 0) rfl rfl (fun hz => ?_) (fun hz => ?_)
  rotate_left
  · simp only [CondK_bool, MG_u, NG_u, VG_u, UG_u, PG_u, BG_u, CG_u, IG_u, MG_b, NG_b, VG_b, UG_b, PG_b, BG_b, CG_b, IG_b, PK_bool, NK_ptr, not_ok, reduceCtorEq, if_true, if_false, Bool.true_eq_false, Bool.false_eq_true, Bool.not_true, Bool.not_false]
    rw [build_ok bBd0]
    exact resOf hb23 hm03 (by omega) (hes hz) rfl
  · have hmays := of_may hz
    simp only [CondK_bool, MG_u, NG_u, VG_u, UG_u, PG_u, BG_u, CG_u, IG_u, MG_b, NG_b, VG_b, UG_b, PG_b, BG_b, CG_b, IG_b, PK_bool, NK_ptr, not_ok, reduceCtorEq, if_true, if_false, Bool.true_eq_false, Bool.false_eq_true, Bool.not_true, Bool.not_false]
    refine BKlss (a := n) (b := 1) rfl rfl ?_
    by_cases h1 : n < 1
    · rw [decide_eq_true h1]
      simp only [CondK_bool, MG_u, NG_u, VG_u, UG_u, PG_u, BG_u, CG_u, IG_u, MG_b, NG_b, VG_b, UG_b, PG_b, BG_b, CG_b, IG_b, PK_bool, NK_ptr, not_ok, reduceCtorEq, if_true, if_false, Bool.true_eq_false, Bool.false_eq_true, Bool.not_true, Bool.not_false]
      rw [build_ok bBd0]
      exact resOf hb23 hm03 (by omega) (by unfold ofP; rw [if_pos (Or.inr (Or.inl h1))]) rfl
    rw [decide_eq_false h1]
    simp only [CondK_bool, MG_u, NG_u, VG_u, UG_u, PG_u, BG_u, CG_u, IG_u, MG_b, NG_b, VG_b, UG_b, PG_b, BG_b, CG_b, IG_b, PK_bool, NK_ptr, not_ok, reduceCtorEq, if_true, if_false, Bool.true_eq_false, Bool.false_eq_true, Bool.not_true, Bool.not_false]
    refine BKgtr (a := n) (b := 64) rfl rfl ?_
    by_cases h2 : 64 < n
    · rw [decide_eq_true h2]
      refine condT ?_
      rw [build_ok bBd0]
      exact resOf hb23 hm03 (by omega) (by unfold ofP; rw [if_pos (Or.inr (Or.inr h2))]) rfl
    rw [decide_eq_false h2]
    refine condF ?_
    have hn : 1 ≤ n ∧ n ≤ 64 := by omega
    have ho : ofP p n = if St.lpL p.body then (zBd, 90) else if 1048576 < (St.bdF n zBd p.body).s + 1 then (zBd, 90) else ((St.bdF n zBd p.body).and (Bd.mk 1 0 0), 0) := by
      unfold ofP
      rw [if_neg (by rintro (q | q | q); exact q hz; exact h1 q; exact h2 q)]
    refine ldB (cs := p.cells.toArray) Tryd.underlying34 rfl iPr hb13 ?_
    refine CK_st Tryd.func46 rfl rfl (Counted_ok (h.mod hm03) hf) ?_
    rintro _ w4 ⟨rfl, hm4⟩
    rw [not_ok, Bool.not_not]
    have hm04 := hm03.trans hm4
    cases hl : St.lpL p.body with
    | true =>
      refine condT ?_
      rw [build_ok bBd0]
      exact resOf (hm4.blk hb23 id) hm04 (by omega) (by rw [ho, hl]; rfl) rfl
    | false =>
      refine condF ?_
      rw [hl] at ho
      have f1 : FAt Tryd.prog w4 34 1 ⟨w.heap.size, 0, none⟩ 23 p.bs := FAt.mk' (off := 1) (by kernel_rfl) uSts rfl (by rw [add_pl, cell_blk (hm4.blk hb13 id)]; rfl)
      refine f1.vk' fun _ => ?_
      refine CK_st Tryd.func47 rfl rfl (All_ok hn p.body w4 _ (h.mod hm04).b hf.2 hmays) ?_
      rintro _ w5 ⟨rfl, hm5⟩
      rw [build_ok (bBd1 1)]
      have hbi := body_in hn hmays hf
      have hai : ((St.bdF n zBd p.body).and (Bd.mk 1 0 0)).In 1048578 := by
        obtain ⟨⟨x1, x2⟩, ⟨x3, x4⟩, x5, x6⟩ := hbi
        unfold Bd.and
        refine ⟨⟨?_, ?_⟩, ⟨?_, ?_⟩, ?_, ?_⟩ <;> dsimp only <;> omega
      refine CK_st Tryd.func48 rfl rfl (And_ok (b := Bd.mk 1 0 0) hai (by decide)) ?_
      rintro _ w6 ⟨rfl, hm6⟩
      refine lcl_k (cs := ((St.bdF n zBd p.body).and (Bd.mk 1 0 0)).cells.toArray) zBnd _ iBnd rfl (bd_one _) fun w7 hb7 hm7 hz7 => ?_
      have hm47 := (hm5.trans hm6).trans hm7
      have hm07 := hm04.trans hm47
      have hb27 := hm47.blk (hm4.blk hb23 id) id
      refine (bdF hb7).1.vk' fun _ => ?_
      refine BKgtr (a := (St.bdF n zBd p.body).s + 1) (b := 1048576) rfl rfl ?_
      refine caseC (fun hq => ?_) (fun hq => ?_)
      · rw [build_ok bBd0]
        exact resOf hb27 hm07 (by omega) (by rw [ho, if_neg (by simp), if_pos (of_decide_eq_true hq)]) rfl
      · refine ldB (cs := ((St.bdF n zBd p.body).and (Bd.mk 1 0 0)).cells.toArray) Tryd.underlying58 rfl iBnd hb7 ?_
        exact resOf hb27 hm07 (by omega) (by rw [ho, if_neg (by simp), if_neg (of_decide_eq_false hq)]) rfl
end Go.Proofs.YtpkfbaagpjdifaaDoor.Tr
set_option linter.unusedVariables false
set_option linter.unusedSimpArgs false
set_option maxRecDepth 4000
namespace Go.X
open Go Go.RowKit Go.Proofs.YtpkfbaagpjdifaaDoor.Tr
end Go.X
namespace Go.Proofs.YtpkfbaagpjdifaaDoor.Tr
open Go Go.X Go.RowKit Go.Proofs.YtpkfbaagpjdifaaDoor.XI Go.Proofs.YtpkfbaagpjdifaaDoor.XK
def runsP (p : Pr) (n : Int) : Int × Int := if (ofP p n).2 ≠ 0 then (0, (ofP p n).2) else if 65536 < prodP (timesP (St.waysL n p.body) n) then (0, 90) else (prodP (timesP (St.waysL n p.body) n), 0)
def stepsP (p : Pr) (n : Int) : Int × Int := if (ofP p n).2 ≠ 0 then (0, (ofP p n).2) else if 1048576 < mx (ofP p n).1.s (IntKind.i64.wrap (n * IntKind.i64.wrap (IntKind.i64.wrap (2 * (ofP p n).1.c) + 1))) then (0, 90) else (mx (ofP p n).1.s (IntKind.i64.wrap (n * IntKind.i64.wrap (IntKind.i64.wrap (2 * (ofP p n).1.c) + 1))), 0)
theorem of_zero {p : Pr} {n : Int} (h : (ofP p n).2 = 0) : (1 ≤ n ∧ n ≤ 64) ∧ ∀ a ∈ p.body, a.may = true := by
  unfold ofP at h
  split at h
  · simp at h
  · rename_i q
    refine ⟨by omega, of_may (by omega)⟩
theorem Runs_ok {w : World} (hg : Gl w) {p : Pr} (h : p.Ok w) (hf : p.fits) (n : Int) : Rt Tryd.prog 10 #[.agg p.cells.toArray, .int .i64 n] w fun v w' => v = .tuple #[.int .i64 (runsP p n).1, .int .i64 (runsP p n).2] ∧ Mod none_ w w' := by
  refine limits_Runs_calls ?_
  unfold limits_Runs_F
  refine box_k (cs := p.cells.toArray) rfl fun w1 hb1 hm1 hz1 => ?_
  refine ldB (cs := p.cells.toArray) Tryd.underlying34 rfl iPr hb1 ?_
  refine CK_st Tryd.func21 rfl rfl (Of_ok (hg.mod hm1) (h.mod hm1) hf n) ?_
  rintro _ w2 ⟨rfl, hm2⟩
  rw [extract_ok (v := (ofP p n).1.v) rfl, extract_ok (v := .int .i64 (ofP p n).2) rfl]
  refine lcl_k (cs := (ofP p n).1.cells.toArray) zBnd _ iBnd rfl (bd_one _) fun w3 hb3 hm3 hz3 => ?_
  have hm03 := (hm1.trans hm2).trans hm3
  have hb13 := (hm2.trans hm3).blk hb1 id
  have hr : runsP p n = if (ofP p n).2 ≠ 0 then (0, (ofP p n).2) else if 65536 < prodP (timesP (St.waysL n p.body) n) then (0, 90) else (prodP (timesP (St.waysL n p.body) n), 0) := rfl
  by_cases h0 : (ofP p n).2 = 0
  · simp only [↓VG_u, ↓UG_u, ↓MG_u, ↓NG_u, ↓PG_u, ↓BG_u, ↓CG_u, ↓IG_u, ↓VGtt, ↓VGtf, ↓VGft, ↓VGff, ↓UGtt, ↓UGtf, ↓UGft, ↓UGff, ↓MGtt, ↓MGtf, ↓MGft, ↓MGff, ↓NGtt, ↓NGtf, ↓NGft, ↓NGff, ↓PGtt, ↓PGtf, ↓PGft, ↓PGff, ↓BGtt, ↓BGtf, ↓BGft, ↓BGff, ↓CGtt, ↓CGtf, ↓CGft, ↓CGff, ↓IGtt, ↓IGtf, ↓IGft, ↓IGff, ↓PKt, ↓PKf, ↓CDt, ↓CDf, ↓NOTt, ↓NOTf, ↓NK_ptr, ↓NEf h0]
    rw [if_neg (by omega)] at hr
    obtain ⟨hn, hmay⟩ := of_zero h0
    have f1 : FO Tryd.prog w3 34 1 1 ⟨w.heap.size, 0, none⟩ 23 p.bs := FO.blk hb13 (by kernel_rfl) uSts rfl rfl
    simp only [↓f1.e]
    refine Each_k hn.1 (h.mod hm03).b hf.2 hmay (fun a _ => ways_ok hn a) fun y w4 hm4 => ?_
    refine Times_k (St.waysL_in hn.1 _).1 (by omega) fun z w5 hm5 => ?_
    have hm05 := (hm03.trans hm4).trans hm5
    by_cases hq : 65536 < prodP (timesP (St.waysL n p.body) n)
    · simp only [↓VG_u, ↓UG_u, ↓MG_u, ↓NG_u, ↓PG_u, ↓BG_u, ↓CG_u, ↓IG_u, ↓VGtt, ↓VGtf, ↓VGft, ↓VGff, ↓UGtt, ↓UGtf, ↓UGft, ↓UGff, ↓MGtt, ↓MGtf, ↓MGft, ↓MGff, ↓NGtt, ↓NGtf, ↓NGft, ↓NGff, ↓PGtt, ↓PGtf, ↓PGft, ↓PGff, ↓BGtt, ↓BGtf, ↓BGft, ↓BGff, ↓CGtt, ↓CGtf, ↓CGft, ↓CGff, ↓IGtt, ↓IGtf, ↓IGft, ↓IGff, ↓PKt, ↓PKf, ↓CDt, ↓CDf, ↓NOTt, ↓NOTf, ↓NK_ptr, ↓GTt hq]
      rw [if_pos hq] at hr
      rw [limits_Runs_R0_eq]
      unfold limits_Runs_R0_F
      refine condT ?_
      exact ⟨by rw [hr]; rfl, hm05⟩
    · simp only [↓VG_u, ↓UG_u, ↓MG_u, ↓NG_u, ↓PG_u, ↓BG_u, ↓CG_u, ↓IG_u, ↓VGtt, ↓VGtf, ↓VGft, ↓VGff, ↓UGtt, ↓UGtf, ↓UGft, ↓UGff, ↓MGtt, ↓MGtf, ↓MGft, ↓MGff, ↓NGtt, ↓NGtf, ↓NGft, ↓NGff, ↓PGtt, ↓PGtf, ↓PGft, ↓PGff, ↓BGtt, ↓BGtf, ↓BGft, ↓BGff, ↓CGtt, ↓CGtf, ↓CGft, ↓CGff, ↓IGtt, ↓IGtf, ↓IGft, ↓IGff, ↓PKt, ↓PKf, ↓CDt, ↓CDf, ↓NOTt, ↓NOTf, ↓NK_ptr, ↓GTf (show prodP (timesP (St.waysL n p.body) n) ≤ 65536 by omega)]
      rw [if_neg hq] at hr
      rw [limits_Runs_R0_eq]
      unfold limits_Runs_R0_F
      refine condF ?_
      rw [sq_n, limits_Runs_R1_eq]
      unfold limits_Runs_R1_F
      exact ⟨by rw [hr]; rfl, hm05⟩
  · simp only [↓VG_u, ↓UG_u, ↓MG_u, ↓NG_u, ↓PG_u, ↓BG_u, ↓CG_u, ↓IG_u, ↓VGtt, ↓VGtf, ↓VGft, ↓VGff, ↓UGtt, ↓UGtf, ↓UGft, ↓UGff, ↓MGtt, ↓MGtf, ↓MGft, ↓MGff, ↓NGtt, ↓NGtf, ↓NGft, ↓NGff, ↓PGtt, ↓PGtf, ↓PGft, ↓PGff, ↓BGtt, ↓BGtf, ↓BGft, ↓BGff, ↓CGtt, ↓CGtf, ↓CGft, ↓CGff, ↓IGtt, ↓IGtf, ↓IGft, ↓IGff, ↓PKt, ↓PKf, ↓CDt, ↓CDf, ↓NOTt, ↓NOTf, ↓NK_ptr, ↓NEt h0]
    rw [if_pos h0] at hr
    exact ⟨by rw [hr], hm03⟩
theorem bd_fo {w : World} {b : Nat} {e : Bd} {ty : TypeId} {fr : Nat × Nat} (hb : w.heap[b]? = some (.cells e.cells.toArray ty fr)) : FO Tryd.prog w 58 0 0 ⟨b, 0, none⟩ 3 (.int .i64 e.s) ∧ FO Tryd.prog w 58 1 1 ⟨b, 0, none⟩ 3 (.int .i64 e.c) ∧ FO Tryd.prog w 58 2 2 ⟨b, 0, none⟩ 3 (.int .i64 e.d) :=
  ⟨FO.blk hb (by kernel_rfl) uI rfl rfl, FO.blk hb (by kernel_rfl) uI rfl rfl, FO.blk hb (by kernel_rfl) uI rfl rfl⟩
theorem Steps_ok {w : World} (hg : Gl w) {p : Pr} (h : p.Ok w) (hf : p.fits) (n : Int) : Rt Tryd.prog 11 #[.agg p.cells.toArray, .int .i64 n] w fun v w' => v = .tuple #[.int .i64 (stepsP p n).1, .int .i64 (stepsP p n).2] ∧ Mod none_ w w' := by
  refine limits_Steps_calls ?_
  unfold limits_Steps_F
  refine box_k (cs := p.cells.toArray) rfl fun w1 hb1 hm1 hz1 => ?_
  refine ldB (cs := p.cells.toArray) Tryd.underlying34 rfl iPr hb1 ?_
  refine CK_st Tryd.func21 rfl rfl (Of_ok (hg.mod hm1) (h.mod hm1) hf n) ?_
  rintro _ w2 ⟨rfl, hm2⟩
  rw [extract_ok (v := (ofP p n).1.v) rfl, extract_ok (v := .int .i64 (ofP p n).2) rfl]
  refine lcl_k (cs := (ofP p n).1.cells.toArray) zBnd _ iBnd rfl (bd_one _) fun w3 hb3 hm3 hz3 => ?_
  have hm03 := (hm1.trans hm2).trans hm3
  obtain ⟨f0, f1, f2⟩ := bd_fo hb3
  by_cases h0 : (ofP p n).2 = 0
  · simp only [↓VG_u, ↓UG_u, ↓MG_u, ↓NG_u, ↓PG_u, ↓BG_u, ↓CG_u, ↓IG_u, ↓VGtt, ↓VGtf, ↓VGft, ↓VGff, ↓UGtt, ↓UGtf, ↓UGft, ↓UGff, ↓MGtt, ↓MGtf, ↓MGft, ↓MGff, ↓NGtt, ↓NGtf, ↓NGft, ↓NGff, ↓PGtt, ↓PGtf, ↓PGft, ↓PGff, ↓BGtt, ↓BGtf, ↓BGft, ↓BGff, ↓CGtt, ↓CGtf, ↓CGft, ↓CGff, ↓IGtt, ↓IGtf, ↓IGft, ↓IGff, ↓PKt, ↓PKf, ↓CDt, ↓CDf, ↓NOTt, ↓NOTf, ↓NK_ptr, ↓NEf h0, ↓f0.e, ↓f1.e]
    rw [BK_mul, BK_add, BK_mul, max_i]
    have hmx : (if IntKind.i64.wrap (n * IntKind.i64.wrap (IntKind.i64.wrap (2 * (ofP p n).1.c) + 1)) > (ofP p n).1.s then IntKind.i64.wrap (n * IntKind.i64.wrap (IntKind.i64.wrap (2 * (ofP p n).1.c) + 1)) else (ofP p n).1.s) = mx (ofP p n).1.s (IntKind.i64.wrap (n * IntKind.i64.wrap (IntKind.i64.wrap (2 * (ofP p n).1.c) + 1))) := rfl
    rw [hmx]
    have hr : stepsP p n = if 1048576 < mx (ofP p n).1.s (IntKind.i64.wrap (n * IntKind.i64.wrap (IntKind.i64.wrap (2 * (ofP p n).1.c) + 1))) then (0, 90) else (mx (ofP p n).1.s (IntKind.i64.wrap (n * IntKind.i64.wrap (IntKind.i64.wrap (2 * (ofP p n).1.c) + 1))), 0) := by
      unfold stepsP; rw [if_neg (by omega)]
    generalize mx (ofP p n).1.s (IntKind.i64.wrap (n * IntKind.i64.wrap (IntKind.i64.wrap (2 * (ofP p n).1.c) + 1))) = q at hr ⊢
    by_cases hq : 1048576 < q
    · simp only [↓VG_u, ↓UG_u, ↓MG_u, ↓NG_u, ↓PG_u, ↓BG_u, ↓CG_u, ↓IG_u, ↓VGtt, ↓VGtf, ↓VGft, ↓VGff, ↓UGtt, ↓UGtf, ↓UGft, ↓UGff, ↓MGtt, ↓MGtf, ↓MGft, ↓MGff, ↓NGtt, ↓NGtf, ↓NGft, ↓NGff, ↓PGtt, ↓PGtf, ↓PGft, ↓PGff, ↓BGtt, ↓BGtf, ↓BGft, ↓BGff, ↓CGtt, ↓CGtf, ↓CGft, ↓CGff, ↓IGtt, ↓IGtf, ↓IGft, ↓IGff, ↓PKt, ↓PKf, ↓CDt, ↓CDf, ↓NOTt, ↓NOTf, ↓NK_ptr, ↓GTt hq]
      rw [if_pos hq] at hr
      rw [limits_Steps_R0_eq]
      unfold limits_Steps_R0_F
      refine condT ?_
      exact ⟨by rw [hr]; rfl, hm03⟩
    · simp only [↓VG_u, ↓UG_u, ↓MG_u, ↓NG_u, ↓PG_u, ↓BG_u, ↓CG_u, ↓IG_u, ↓VGtt, ↓VGtf, ↓VGft, ↓VGff, ↓UGtt, ↓UGtf, ↓UGft, ↓UGff, ↓MGtt, ↓MGtf, ↓MGft, ↓MGff, ↓NGtt, ↓NGtf, ↓NGft, ↓NGff, ↓PGtt, ↓PGtf, ↓PGft, ↓PGff, ↓BGtt, ↓BGtf, ↓BGft, ↓BGff, ↓CGtt, ↓CGtf, ↓CGft, ↓CGff, ↓IGtt, ↓IGtf, ↓IGft, ↓IGff, ↓PKt, ↓PKf, ↓CDt, ↓CDf, ↓NOTt, ↓NOTf, ↓NK_ptr, ↓GTf (show q ≤ 1048576 by omega)]
      rw [if_neg hq] at hr
      rw [limits_Steps_R0_eq]
      unfold limits_Steps_R0_F
      refine condF ?_
      rw [sq_n, limits_Steps_R1_eq]
      unfold limits_Steps_R1_F
      exact ⟨by rw [hr]; rfl, hm03⟩
  · simp only [↓VG_u, ↓UG_u, ↓MG_u, ↓NG_u, ↓PG_u, ↓BG_u, ↓CG_u, ↓IG_u, ↓VGtt, ↓VGtf, ↓VGft, ↓VGff, ↓UGtt, ↓UGtf, ↓UGft, ↓UGff, ↓MGtt, ↓MGtf, ↓MGft, ↓MGff, ↓NGtt, ↓NGtf, ↓NGft, ↓NGff, ↓PGtt, ↓PGtf, ↓PGft, ↓PGff, ↓BGtt, ↓BGtf, ↓BGft, ↓BGff, ↓CGtt, ↓CGtf, ↓CGft, ↓CGff, ↓IGtt, ↓IGtf, ↓IGft, ↓IGff, ↓PKt, ↓PKf, ↓CDt, ↓CDf, ↓NOTt, ↓NOTf, ↓NK_ptr, ↓NEt h0]
    exact ⟨by unfold stepsP; rw [if_pos h0], hm03⟩
end Go.Proofs.YtpkfbaagpjdifaaDoor.Tr
set_option linter.unusedVariables false
set_option linter.unusedSimpArgs false
set_option maxRecDepth 4000
namespace Go.X
open Go Go.RowKit Go.Proofs.YtpkfbaagpjdifaaDoor.Tr
mutual
def Ex.er : Ex → Ex
  | ⟨op, num, name, _, args, line, col⟩ => ⟨op, num, name, .slice none 0 0, Ex.erL args, line, col⟩
def Ex.erL : List Ex → List Ex
  | [] => []
  | e :: r => Ex.er e :: Ex.erL r
end
theorem Ex.erL_eq : ∀ l : List Ex, Ex.erL l = l.map Ex.er
  | [] => by simp [Ex.erL]
  | e :: r => by simp [Ex.erL, Ex.erL_eq r]
theorem Ex.er_eq (e : Ex) : e.er = ⟨e.op, e.num, e.name, .slice none 0 0, e.args.map Ex.er, e.line, e.col⟩ := by obtain ⟨op, num, name, s, args, line, col⟩ := e; rw [Ex.er, Ex.erL_eq]
mutual
def St.er : St → St
  | ⟨op, kind, red, name, turns, _, exprs, _, body, _, els, line, col⟩ => ⟨op, kind, red, name, turns, .slice none 0 0, Ex.erL exprs, .slice none 0 0, St.erL body, .slice none 0 0, St.erL els, line, col⟩
def St.erL : List St → List St
  | [] => []
  | e :: r => St.er e :: St.erL r
end
theorem St.erL_eq : ∀ l : List St, St.erL l = l.map St.er
  | [] => by simp [St.erL]
  | e :: r => by simp [St.erL, St.erL_eq r]
theorem St.er_eq (e : St) : e.er = ⟨e.op, e.kind, e.red, e.name, e.turns, .slice none 0 0, e.exprs.map Ex.er, .slice none 0 0, e.body.map St.er, .slice none 0 0, e.els.map St.er, e.line, e.col⟩ := by
  obtain ⟨op, kind, red, name, turns, es, exprs, bs, body, ls, els, line, col⟩ := e; rw [St.er, Ex.erL_eq, St.erL_eq, St.erL_eq]
section
variable (e : Ex) (s : St)
theorem Ex.er_name : e.er.name = e.name := by rw [Ex.er_eq]
theorem Ex.er_line : e.er.line = e.line := by rw [Ex.er_eq]
theorem Ex.er_col : e.er.col = e.col := by rw [Ex.er_eq]
theorem Ex.er_args : e.er.args = e.args.map Ex.er := by rw [Ex.er_eq]
theorem St.er_name : s.er.name = s.name := by rw [St.er_eq]
theorem St.er_line : s.er.line = s.line := by rw [St.er_eq]
theorem St.er_col : s.er.col = s.col := by rw [St.er_eq]
theorem St.er_exprs : s.er.exprs = s.exprs.map Ex.er := by rw [St.er_eq]
theorem St.er_body : s.er.body = s.body.map St.er := by rw [St.er_eq]
theorem St.er_els : s.er.els = s.els.map St.er := by rw [St.er_eq]
end
theorem Ex.er_may : ∀ e : Ex, e.er.may = e.may := by
  intro e
  induction e using Ex.ind with
  | h e ih =>
    have ho : e.er.own = e.own := by rw [Ex.er_eq]; unfold Ex.own; simp
    rw [Ex.may_eq, Ex.may_eq, ho, Ex.er_args, Ex.mayL_eq, Ex.mayL_eq, List.all_map]
    congr 1
    rw [Bool.eq_iff_iff, List.all_eq_true, List.all_eq_true]
    exact ⟨fun h a ha => by rw [← ih a ha]; exact h a ha, fun h a ha => by show a.er.may = true; rw [ih a ha]; exact h a ha⟩
theorem Ex.mayL_er (l : List Ex) : Ex.mayL (l.map Ex.er) = Ex.mayL l := by
  rw [Ex.mayL_eq, Ex.mayL_eq, List.all_map]
  congr 1
  funext a
  exact Ex.er_may a
theorem Ex.er_deep : ∀ e : Ex, e.er.deep = e.deep := by
  intro e
  induction e using Ex.ind with
  | h e ih =>
    rw [Ex.deep_eq, Ex.deep_eq, Ex.er_args]
    congr 1
    have : ∀ l : List Ex, (∀ a ∈ l, a.er.deep = a.deep) → Ex.deepL (l.map Ex.er) = Ex.deepL l := by
      intro l
      induction l with
      | nil => intro _; rfl
      | cons a r ihr =>
        intro h
        rw [List.map_cons, Ex.deepL, Ex.deepL, h a (List.mem_cons_self ..), ihr fun b hb => h b (List.mem_cons_of_mem _ hb)]
    exact this e.args ih
theorem Ex.deepL_er : ∀ l : List Ex, Ex.deepL (l.map Ex.er) = Ex.deepL l
  | [] => rfl
  | a :: r => by rw [List.map_cons, Ex.deepL, Ex.deepL, Ex.er_deep, Ex.deepL_er r]
theorem Ex.er_sz : ∀ e : Ex, e.er.sz = e.sz := by
  intro e
  induction e using Ex.ind with
  | h e ih =>
    rw [Ex.sz_eq, Ex.sz_eq, Ex.er_args, Ex.er_name, Ex.szL_eq, Ex.szL_eq, List.map_map]
    congr 2
    exact List.map_congr_left ih
theorem Ex.szL_er (l : List Ex) : Ex.szL (l.map Ex.er) = Ex.szL l := by
  rw [Ex.szL_eq, Ex.szL_eq, List.map_map]
  congr 1
  exact List.map_congr_left fun a _ => Ex.er_sz a
theorem St.er_own (s : St) : s.er.own = s.own := by rw [St.er_eq]; unfold St.own St.rng; simp
theorem St.er_may : ∀ e : St, e.er.may = e.may := by
  intro e
  induction e using St.ind with
  | h e ih1 ih2 =>
    have hl : ∀ l : List St, (∀ a ∈ l, a.er.may = a.may) → St.mayL (l.map St.er) = St.mayL l := by
      intro l h
      rw [St.mayL_eq, St.mayL_eq, List.all_map, Bool.eq_iff_iff, List.all_eq_true, List.all_eq_true]
      exact ⟨fun q a ha => by rw [← h a ha]; exact q a ha, fun q a ha => by show a.er.may = true; rw [h a ha]; exact q a ha⟩
    rw [St.may_eq, St.may_eq, St.er_own, St.er_exprs, St.er_body, St.er_els, Ex.mayL_er, hl _ ih1, hl _ ih2]
theorem St.mayL_er (l : List St) : St.mayL (l.map St.er) = St.mayL l := by
  rw [St.mayL_eq, St.mayL_eq, List.all_map]
  congr 1
  funext a
  exact St.er_may a
theorem St.er_sz : ∀ e : St, e.er.sz = e.sz := by
  intro e
  induction e using St.ind with
  | h e ih1 ih2 =>
    rw [St.sz_eq, St.sz_eq, St.er_name, St.er_exprs, St.er_body, St.er_els, Ex.szL_er, St.szL_eq, St.szL_eq, St.szL_eq, St.szL_eq, List.map_map, List.map_map]
    rw [show List.map (St.sz ∘ St.er) e.body = List.map St.sz e.body from List.map_congr_left ih1, show List.map (St.sz ∘ St.er) e.els = List.map St.sz e.els from List.map_congr_left ih2]
theorem St.szL_er (l : List St) : St.szL (l.map St.er) = St.szL l := by
  rw [St.szL_eq, St.szL_eq, List.map_map]
  congr 1
  exact List.map_congr_left fun a _ => St.er_sz a
theorem St.blocksL'_er {l : List St} (h : ∀ a ∈ l, a.er.blocks = a.blocks) : St.blocksL' (l.map St.er) = St.blocksL' l := by
  induction l with
  | nil => rfl
  | cons a r ihr => rw [List.map_cons, St.blocksL', St.blocksL', h a (List.mem_cons_self ..), ihr fun b hb => h b (List.mem_cons_of_mem _ hb)]
theorem St.blocksL_er {l : List St} (h : ∀ a ∈ l, a.er.blocks = a.blocks) : St.blocksL (l.map St.er) = St.blocksL l := by
  unfold St.blocksL
  rw [List.length_map, St.blocksL'_er h]
theorem St.er_blocks : ∀ e : St, e.er.blocks = e.blocks := by
  intro e
  induction e using St.ind with
  | h e ih1 ih2 => rw [St.blocks_eq, St.blocks_eq, St.er_body, St.er_els, St.blocksL_er ih1, St.blocksL_er ih2]
theorem St.exprDL_er {l : List St} (h : ∀ a ∈ l, a.er.exprD = a.exprD) : St.exprDL (l.map St.er) = St.exprDL l := by
  induction l with
  | nil => rfl
  | cons a r ihr => rw [List.map_cons, St.exprDL, St.exprDL, h a (List.mem_cons_self ..), ihr fun b hb => h b (List.mem_cons_of_mem _ hb)]
theorem St.er_exprD : ∀ e : St, e.er.exprD = e.exprD := by
  intro e
  induction e using St.ind with
  | h e ih1 ih2 => rw [St.exprD_eq, St.exprD_eq, St.er_body, St.er_els, St.er_exprs, Ex.deepL_er, St.exprDL_er ih1, St.exprDL_er ih2]
theorem St.deepAt_er (l : List St) (n : Nat) : St.deepAt (l.map St.er) n = St.deepAt l n := by
  unfold St.deepAt
  rw [List.length_map, St.blocksL'_er (fun a _ => St.er_blocks a), St.exprDL_er (fun a _ => St.er_exprD a)]
mutual
def Ex.In (S : Nat → Prop) : Ex → Prop
  | ⟨_, _, _, s, args, _, _⟩ => (∀ k, s.ownBlock = some k → S k) ∧ Ex.InL S args
def Ex.InL (S : Nat → Prop) : List Ex → Prop
  | [] => True
  | e :: r => Ex.In S e ∧ Ex.InL S r
end
mutual
def Ex.Own (w : World) (tE : TypeId) : Ex → Prop
  | ⟨op, num, name, s, args, line, col⟩ => w.ownsRow 0 tE 6 s args.length (args.flatMap Ex.cells) ∧ Ex.fine ⟨op, num, name, s, args, line, col⟩ ∧ Ex.OwnL w tE args
def Ex.OwnL (w : World) (tE : TypeId) : List Ex → Prop
  | [] => True
  | e :: r => Ex.Own w tE e ∧ Ex.OwnL w tE r
end
theorem Ex.inL {S : Nat → Prop} : ∀ {l : List Ex}, Ex.InL S l ↔ ∀ a ∈ l, a.In S
  | [] => by simp [Ex.InL]
  | e :: r => by simp [Ex.InL, Ex.inL (l := r)]
theorem Ex.ownL {w : World} {tE : TypeId} : ∀ {l : List Ex}, Ex.OwnL w tE l ↔ ∀ a ∈ l, a.Own w tE
  | [] => by simp [Ex.OwnL]
  | e :: r => by simp [Ex.OwnL, Ex.ownL (l := r)]
theorem Ex.in_ {S : Nat → Prop} {e : Ex} : e.In S ↔ (∀ k, e.s.ownBlock = some k → S k) ∧ ∀ a ∈ e.args, a.In S := by
  obtain ⟨op, num, name, s, args, line, col⟩ := e
  rw [Ex.In, Ex.inL]
theorem Ex.own_ {w : World} {tE : TypeId} {e : Ex} : e.Own w tE ↔ w.ownsRow 0 tE 6 e.s e.args.length (e.args.flatMap Ex.cells) ∧ e.fine ∧ ∀ a ∈ e.args, a.Own w tE := by
  obtain ⟨op, num, name, s, args, line, col⟩ := e
  rw [Ex.Own, Ex.ownL]
theorem Ex.In.mono {S T : Nat → Prop} (h : ∀ k, S k → T k) : ∀ {e : Ex}, e.In S → e.In T := by
  intro e
  induction e using Ex.ind with
  | h e ih =>
    intro q
    obtain ⟨q1, q2⟩ := Ex.in_.1 q
    exact Ex.in_.2 ⟨fun k hk => h k (q1 k hk), fun a ha => ih a ha (q2 a ha)⟩
theorem Ex.Own.ok {w : World} {tE : TypeId} : ∀ {e : Ex}, e.Own w tE → e.Ok w := by
  intro e
  induction e using Ex.ind with
  | h e ih =>
    intro h
    obtain ⟨h1, h2, h3⟩ := Ex.own_.1 h
    exact Ex.ok.2 ⟨reads_of_owns h1, h2, fun a ha => ih a ha (h3 a ha)⟩
theorem Ex.Own.mod {S : Nat → Prop} {w w' : World} {tE : TypeId} (hm : Mod S w w') : ∀ {e : Ex}, e.Own w tE → e.In (fun k => ¬ S k) → e.Own w' tE := by
  intro e
  induction e using Ex.ind with
  | h e ih =>
    intro h q
    obtain ⟨h1, h2, h3⟩ := Ex.own_.1 h
    obtain ⟨q1, q2⟩ := Ex.in_.1 q
    exact Ex.own_.2 ⟨owns_mod h1 hm (fun k hk => q1 k hk), h2, fun a ha => ih a ha (h3 a ha) (q2 a ha)⟩
theorem Ex.Own.mod0 {w w' : World} {tE : TypeId} (hm : Mod none_ w w') : ∀ {e : Ex}, e.Own w tE → e.Own w' tE := by
  intro e
  induction e using Ex.ind with
  | h e ih =>
    intro h
    obtain ⟨h1, h2, h3⟩ := Ex.own_.1 h
    exact Ex.own_.2 ⟨owns_mod h1 hm (fun k hk => id), h2, fun a ha => ih a ha (h3 a ha)⟩
theorem Ex.Own.lt {w : World} {tE : TypeId} : ∀ {e : Ex}, e.Own w tE → e.In (fun k => k < w.heap.size) := by
  intro e
  induction e using Ex.ind with
  | h e ih =>
    intro h
    obtain ⟨h1, h2, h3⟩ := Ex.own_.1 h
    exact Ex.in_.2 ⟨fun k hk => by obtain ⟨cur, hb⟩ := owns_blk h1 hk; exact blk_lt hb, fun a ha => ih a ha (h3 a ha)⟩
theorem Ex.In.and {S T : Nat → Prop} : ∀ {e : Ex}, e.In S → e.In T → e.In (fun k => S k ∧ T k) := by
  intro e
  induction e using Ex.ind with
  | h e ih =>
    intro p q
    obtain ⟨p1, p2⟩ := Ex.in_.1 p
    obtain ⟨q1, q2⟩ := Ex.in_.1 q
    exact Ex.in_.2 ⟨fun k hk => ⟨p1 k hk, q1 k hk⟩, fun a ha => ih a ha (p2 a ha) (q2 a ha)⟩
mutual
def St.In (S : Nat → Prop) : St → Prop
  | ⟨_, _, _, _, _, es, exprs, bs, body, ls, els, _, _⟩ => ((∀ k, es.ownBlock = some k → S k) ∧ Ex.InL S exprs) ∧ ((∀ k, bs.ownBlock = some k → S k) ∧ St.InL S body) ∧ ((∀ k, ls.ownBlock = some k → S k) ∧ St.InL S els)
def St.InL (S : Nat → Prop) : List St → Prop
  | [] => True
  | e :: r => St.In S e ∧ St.InL S r
end
mutual
def St.Own (w : World) (tE tS : TypeId) : St → Prop
  | ⟨op, kind, red, name, turns, es, exprs, bs, body, ls, els, line, col⟩ => (w.ownsRow 0 tE 6 es exprs.length (exprs.flatMap Ex.cells) ∧ Ex.OwnL w tE exprs) ∧ (w.ownsRow 0 tS 10 bs body.length (body.flatMap St.cells) ∧ St.OwnL w tE tS body) ∧ (w.ownsRow 0 tS 10 ls els.length (els.flatMap St.cells) ∧ St.OwnL w tE tS els) ∧ St.fine ⟨op, kind, red, name, turns, es, exprs, bs, body, ls, els, line, col⟩
def St.OwnL (w : World) (tE tS : TypeId) : List St → Prop
  | [] => True
  | e :: r => St.Own w tE tS e ∧ St.OwnL w tE tS r
end
theorem St.inL {S : Nat → Prop} : ∀ {l : List St}, St.InL S l ↔ ∀ a ∈ l, a.In S
  | [] => by simp [St.InL]
  | e :: r => by simp [St.InL, St.inL (l := r)]
theorem St.ownL {w : World} {tE tS : TypeId} : ∀ {l : List St}, St.OwnL w tE tS l ↔ ∀ a ∈ l, a.Own w tE tS
  | [] => by simp [St.OwnL]
  | e :: r => by simp [St.OwnL, St.ownL (l := r)]
theorem St.in_ {S : Nat → Prop} {e : St} : e.In S ↔ ((∀ k, e.es.ownBlock = some k → S k) ∧ ∀ a ∈ e.exprs, a.In S) ∧ ((∀ k, e.bs.ownBlock = some k → S k) ∧ ∀ a ∈ e.body, a.In S) ∧ ((∀ k, e.ls.ownBlock = some k → S k) ∧ ∀ a ∈ e.els, a.In S) := by
  obtain ⟨op, kind, red, name, turns, es, exprs, bs, body, ls, els, line, col⟩ := e
  rw [St.In, Ex.inL, St.inL, St.inL]
theorem St.own_ {w : World} {tE tS : TypeId} {e : St} : e.Own w tE tS ↔ (w.ownsRow 0 tE 6 e.es e.exprs.length (e.exprs.flatMap Ex.cells) ∧ ∀ a ∈ e.exprs, a.Own w tE) ∧ (w.ownsRow 0 tS 10 e.bs e.body.length (e.body.flatMap St.cells) ∧ ∀ a ∈ e.body, a.Own w tE tS) ∧ (w.ownsRow 0 tS 10 e.ls e.els.length (e.els.flatMap St.cells) ∧ ∀ a ∈ e.els, a.Own w tE tS) ∧ e.fine := by
  obtain ⟨op, kind, red, name, turns, es, exprs, bs, body, ls, els, line, col⟩ := e
  rw [St.Own, Ex.ownL, St.ownL, St.ownL]
theorem St.In.mono {S T : Nat → Prop} (h : ∀ k, S k → T k) : ∀ {e : St}, e.In S → e.In T := by
  intro e
  induction e using St.ind with
  | h e ih1 ih2 =>
    intro q
    obtain ⟨⟨q1, q2⟩, ⟨q3, q4⟩, q5, q6⟩ := St.in_.1 q
    exact St.in_.2 ⟨⟨fun k hk => h k (q1 k hk), fun a ha => (q2 a ha).mono h⟩, ⟨fun k hk => h k (q3 k hk), fun a ha => ih1 a ha (q4 a ha)⟩, fun k hk => h k (q5 k hk), fun a ha => ih2 a ha (q6 a ha)⟩
theorem St.Own.ok {w : World} {tE tS : TypeId} : ∀ {e : St}, e.Own w tE tS → e.Ok w := by
  intro e
  induction e using St.ind with
  | h e ih1 ih2 =>
    intro h
    obtain ⟨⟨h1, h2⟩, ⟨h3, h4⟩, ⟨h5, h6⟩, h7⟩ := St.own_.1 h
    exact St.ok.2 ⟨⟨reads_of_owns h1, fun a ha => (h2 a ha).ok⟩, ⟨reads_of_owns h3, fun a ha => ih1 a ha (h4 a ha)⟩, ⟨reads_of_owns h5, fun a ha => ih2 a ha (h6 a ha)⟩, h7⟩
theorem St.Own.mod {S : Nat → Prop} {w w' : World} {tE tS : TypeId} (hm : Mod S w w') : ∀ {e : St}, e.Own w tE tS → e.In (fun k => ¬ S k) → e.Own w' tE tS := by
  intro e
  induction e using St.ind with
  | h e ih1 ih2 =>
    intro h q
    obtain ⟨⟨h1, h2⟩, ⟨h3, h4⟩, ⟨h5, h6⟩, h7⟩ := St.own_.1 h
    obtain ⟨⟨q1, q2⟩, ⟨q3, q4⟩, q5, q6⟩ := St.in_.1 q
    exact St.own_.2 ⟨⟨owns_mod h1 hm q1, fun a ha => (h2 a ha).mod hm (q2 a ha)⟩, ⟨owns_mod h3 hm q3, fun a ha => ih1 a ha (h4 a ha) (q4 a ha)⟩, ⟨owns_mod h5 hm q5, fun a ha => ih2 a ha (h6 a ha) (q6 a ha)⟩, h7⟩
theorem St.Own.mod0 {w w' : World} {tE tS : TypeId} (hm : Mod none_ w w') : ∀ {e : St}, e.Own w tE tS → e.Own w' tE tS := by
  intro e
  induction e using St.ind with
  | h e ih1 ih2 =>
    intro h
    obtain ⟨⟨h1, h2⟩, ⟨h3, h4⟩, ⟨h5, h6⟩, h7⟩ := St.own_.1 h
    exact St.own_.2 ⟨⟨owns_mod h1 hm fun k hk => id, fun a ha => (h2 a ha).mod0 hm⟩, ⟨owns_mod h3 hm fun k hk => id, fun a ha => ih1 a ha (h4 a ha)⟩, ⟨owns_mod h5 hm fun k hk => id, fun a ha => ih2 a ha (h6 a ha)⟩, h7⟩
theorem St.Own.lt {w : World} {tE tS : TypeId} : ∀ {e : St}, e.Own w tE tS → e.In (fun k => k < w.heap.size) := by
  intro e
  induction e using St.ind with
  | h e ih1 ih2 =>
    intro h
    obtain ⟨⟨h1, h2⟩, ⟨h3, h4⟩, ⟨h5, h6⟩, h7⟩ := St.own_.1 h
    exact St.in_.2 ⟨⟨fun k hk => by obtain ⟨cur, hb⟩ := owns_blk h1 hk; exact blk_lt hb, fun a ha => (h2 a ha).lt⟩, ⟨fun k hk => by obtain ⟨cur, hb⟩ := owns_blk h3 hk; exact blk_lt hb, fun a ha => ih1 a ha (h4 a ha)⟩,
      fun k hk => by obtain ⟨cur, hb⟩ := owns_blk h5 hk; exact blk_lt hb, fun a ha => ih2 a ha (h6 a ha)⟩
theorem St.In.and {S T : Nat → Prop} : ∀ {e : St}, e.In S → e.In T → e.In (fun k => S k ∧ T k) := by
  intro e
  induction e using St.ind with
  | h e ih1 ih2 =>
    intro p q
    obtain ⟨⟨p1, p2⟩, ⟨p3, p4⟩, p5, p6⟩ := St.in_.1 p
    obtain ⟨⟨q1, q2⟩, ⟨q3, q4⟩, q5, q6⟩ := St.in_.1 q
    exact St.in_.2 ⟨⟨fun k hk => ⟨p1 k hk, q1 k hk⟩, fun a ha => (p2 a ha).and (q2 a ha)⟩, ⟨fun k hk => ⟨p3 k hk, q3 k hk⟩, fun a ha => ih1 a ha (p4 a ha) (q4 a ha)⟩, fun k hk => ⟨p5 k hk, q5 k hk⟩, fun a ha => ih2 a ha (p6 a ha) (q6 a ha)⟩
end Go.X
namespace Go.Proofs.YtpkfbaagpjdifaaDoor.Tr
open Go Go.X Go.RowKit
def Pr.er (p : Pr) : Pr := ⟨.slice none 0 0, p.decls, .slice none 0 0, p.body.map St.er⟩
theorem Pr.er_may (p : Pr) : p.er.may = p.may := by
  unfold Pr.may Pr.er
  rw [St.deepAt_er, St.mayL_er]
end Go.Proofs.YtpkfbaagpjdifaaDoor.Tr
set_option linter.unusedVariables false
set_option linter.unusedSimpArgs false
set_option maxRecDepth 4000
namespace Go.X
open Go Go.Proofs.YtpkfbaagpjdifaaDoor.Tr
theorem Ex.er_bad (f : Key → Int) (e : Ex) : e.er.bad f = e.bad f := by rw [Ex.er_eq]; rfl
theorem Ex.er_wr (f : Key → Int) : ∀ e : Ex, e.er.wr f = e.wr f := by
  intro e
  induction e using Ex.ind with
  | h e ih =>
    have : ∀ l : List Ex, (∀ a ∈ l, a.er.wr f = a.wr f) → Ex.wrL f (l.map Ex.er) = Ex.wrL f l := by
      intro l
      induction l with
      | nil => intro _; rfl
      | cons a r ihr =>
        intro h
        rw [List.map_cons, Ex.wrL, Ex.wrL, h a (List.mem_cons_self ..), ihr fun b hb => h b (List.mem_cons_of_mem _ hb)]
    rw [Ex.wr_eq, Ex.wr_eq, Ex.er_bad, Ex.er_line, Ex.er_col, Ex.er_args, this e.args ih]
theorem Ex.wrL_er (f : Key → Int) : ∀ l : List Ex, Ex.wrL f (l.map Ex.er) = Ex.wrL f l
  | [] => rfl
  | a :: r => by rw [List.map_cons, Ex.wrL, Ex.wrL, Ex.er_wr, Ex.wrL_er f r]
theorem St.er_bad (f : Key → Int) (e : St) : e.er.bad f = e.bad f := by rw [St.er_eq]; rfl
theorem St.er_wr (f : Key → Int) : ∀ e : St, e.er.wr f = e.wr f := by
  intro e
  induction e using St.ind with
  | h e ih1 ih2 =>
    have : ∀ l : List St, (∀ a ∈ l, a.er.wr f = a.wr f) → St.wrL f (l.map St.er) = St.wrL f l := by
      intro l
      induction l with
      | nil => intro _; rfl
      | cons a r ihr =>
        intro h
        rw [List.map_cons, St.wrL, St.wrL, h a (List.mem_cons_self ..), ihr fun b hb => h b (List.mem_cons_of_mem _ hb)]
    rw [St.wr_eq, St.wr_eq, St.er_bad, St.er_line, St.er_col, St.er_exprs, St.er_body, St.er_els, Ex.wrL_er, this _ ih1, this _ ih2]
theorem St.wrL_er (f : Key → Int) : ∀ l : List St, St.wrL f (l.map St.er) = St.wrL f l
  | [] => rfl
  | a :: r => by rw [List.map_cons, St.wrL, St.wrL, St.er_wr, St.wrL_er f r]
end Go.X
namespace Go.Proofs.YtpkfbaagpjdifaaDoor.Tr
open Go Go.X Go.RowKit Go.Proofs.YtpkfbaagpjdifaaDoor.XG Go.Proofs.YtpkfbaagpjdifaaDoor.XK
theorem checkP_er (p : Pr) : checkP p.er = checkP p := by
  unfold checkP
  rw [Pr.er_may]
  show (if p.may = true then if (declsW [] p.decls).err = 0 then St.wrL (kindP p.decls) (p.body.map St.er) else _ else _) = _
  rw [St.wrL_er]
  rfl
theorem fits_of {p q : Pr} (h : q.er = p.er) (hf : p.fits) : q.fits := by
  have h1 : q.decls = p.decls := by have := congrArg Pr.decls h; exact this
  have h2 : q.body.map St.er = p.body.map St.er := by have := congrArg Pr.body h; exact this
  refine ⟨by rw [h1]; exact hf.1, ?_⟩
  rw [← St.szL_er, h2, St.szL_er]
  exact hf.2
end Go.Proofs.YtpkfbaagpjdifaaDoor.Tr
set_option linter.unusedVariables false
set_option linter.unusedSimpArgs false
set_option maxRecDepth 4000
namespace Go.X
open Go Go.Proofs.YtpkfbaagpjdifaaDoor.Tr
theorem Ex.steps_er : ∀ e : Ex, e.er.steps = e.steps := by
  intro e
  induction e using Ex.ind with
  | h e ih =>
    have : ∀ l : List Ex, (∀ a ∈ l, a.er.steps = a.steps) → Ex.stepsL (l.map Ex.er) = Ex.stepsL l := by
      intro l
      induction l with
      | nil => intro _; rfl
      | cons a r ihr =>
        intro h
        rw [List.map_cons, Ex.stepsL, Ex.stepsL, h a (List.mem_cons_self ..), ihr fun b hb => h b (List.mem_cons_of_mem _ hb)]
    rw [Ex.steps_eq, Ex.steps_eq, Ex.er_eq]
    show _ + Ex.stepsL (e.args.map Ex.er) = _
    rw [this _ ih]
theorem Ex.stepsL_er (l : List Ex) : Ex.stepsL (l.map Ex.er) = Ex.stepsL l := by
  induction l with
  | nil => rfl
  | cons a r ih => rw [List.map_cons, Ex.stepsL, Ex.stepsL, ih, Ex.steps_er]
theorem St.dec_er (e : St) : e.er.dec = e.dec := by
  unfold St.dec
  rw [St.er_eq]
  dsimp only
  rw [List.length_map, List.getElem?_map]
  cases e.exprs[1]? with
  | none => rfl
  | some x => simp only [Option.map_some, Option.any_some]; rw [Ex.er_eq]
theorem St.lp_er : ∀ e : St, e.er.lp = e.lp := by
  intro e
  induction e using St.ind with
  | h e ih ih2 =>
    have : ∀ l : List St, (∀ a ∈ l, a.er.lp = a.lp) → St.lpL (l.map St.er) = St.lpL l := by
      intro l
      induction l with
      | nil => intro _; rfl
      | cons a r ihr =>
        intro h
        rw [List.map_cons, St.lpL, St.lpL, h a (List.mem_cons_self ..), ihr fun b hb => h b (List.mem_cons_of_mem _ hb)]
    rw [St.lp_eq, St.lp_eq, St.er_eq]
    show ((e.op == 4 || St.lpL (e.body.map St.er)) || St.lpL (e.els.map St.er)) = _
    rw [this _ ih, this _ ih2]
theorem St.lpL_er (l : List St) : St.lpL (l.map St.er) = St.lpL l := by
  induction l with
  | nil => rfl
  | cons a r ih => rw [List.map_cons, St.lpL, St.lpL, ih, St.lp_er]
theorem St.bd_er (n : Int) : ∀ e : St, e.er.bd n = e.bd n := by
  intro e
  induction e using St.ind with
  | h e ih ih2 =>
    have : ∀ (l : List St), (∀ a ∈ l, a.er.bd n = a.bd n) → ∀ acc, St.bdF n acc (l.map St.er) = St.bdF n acc l := by
      intro l
      induction l with
      | nil => intro _ _; rfl
      | cons a r ihr =>
        intro h acc
        rw [List.map_cons, St.bdF, St.bdF, h a (List.mem_cons_self ..), ihr fun b hb => h b (List.mem_cons_of_mem _ hb)]
    have hd := St.dec_er e
    rw [St.bd_eq, St.bd_eq]
    unfold St.bdO
    rw [hd, St.er_eq]
    dsimp only
    rw [Ex.stepsL_er, List.length_map, this _ ih, this _ ih2]
theorem St.bdF_er (n : Int) : ∀ (l : List St) (acc : Bd), St.bdF n acc (l.map St.er) = St.bdF n acc l
  | [], acc => rfl
  | a :: r, acc => by rw [List.map_cons, St.bdF, St.bdF, St.bd_er, St.bdF_er n r]
end Go.X
namespace Go.Proofs.YtpkfbaagpjdifaaDoor.Tr
open Go Go.X Go.RowKit
def Bd.Ok (b : Bd) : Prop := 0 ≤ b.d ∧ b.d ≤ b.c ∧ b.c ≤ b.s
theorem cut1_le {a b : Int} (h : a ≤ b) : cut1 a ≤ cut1 b := by unfold cut1; split <;> split <;> omega
theorem cut1_nn {a : Int} (h : 0 ≤ a) : 0 ≤ cut1 a := by unfold cut1; split <;> omega
theorem Bd.Ok.cut {b : Bd} (h : b.Ok) : b.cut.Ok := ⟨cut1_nn h.1, cut1_le h.2.1, cut1_le h.2.2⟩
theorem Bd.Ok.and {a b : Bd} (h : a.Ok) (h2 : b.Ok) : (a.and b).Ok := by
  obtain ⟨a1, a2, a3⟩ := h
  obtain ⟨b1, b2, b3⟩ := h2
  unfold Bd.and Bd.Ok
  dsimp only
  omega
theorem ofP_er (p : Pr) (n : Int) : ofP p.er n = ofP p n := by
  unfold ofP
  rw [checkP_er]
  show (if _ then _ else if St.lpL (p.body.map St.er) = true then _ else if 1048576 < (St.bdF n zBd (p.body.map St.er)).s + 1 then _ else ((St.bdF n zBd (p.body.map St.er)).and _, _)) = _
  rw [St.lpL_er, St.bdF_er]
theorem ofP_of {p q : Pr} (h : q.er = p.er) (n : Int) : ofP q n = ofP p n := by rw [← ofP_er q, h, ofP_er]
end Go.Proofs.YtpkfbaagpjdifaaDoor.Tr
set_option linter.unusedVariables false
set_option linter.unusedSimpArgs false
set_option maxRecDepth 4000
namespace Go.X
open Go Go.RowKit Go.Proofs.YtpkfbaagpjdifaaDoor.Tr
theorem St.ways_er (r : Int) : ∀ e : St, e.er.ways r = e.ways r := by
  intro e
  induction e using St.ind with
  | h e ih ih2 =>
    have hl : ∀ l : List St, (∀ a ∈ l, a.er.ways r = a.ways r) → St.waysL r (l.map St.er) = St.waysL r l := by
      intro l h
      unfold St.waysL
      rw [List.map_map]
      congr 1
      exact List.map_congr_left h
    have hd := St.dec_er e
    rw [St.ways_eq, St.ways_eq, hd, St.er_eq]
    dsimp only
    rw [List.length_map, hl _ ih, hl _ ih2]
theorem St.waysL_er (r : Int) (l : List St) : St.waysL r (l.map St.er) = St.waysL r l := by
  unfold St.waysL
  rw [List.map_map]
  congr 1
  exact List.map_congr_left fun a _ => St.ways_er r a
end Go.X
namespace Go.Proofs.YtpkfbaagpjdifaaDoor.Tr
open Go Go.X Go.RowKit
theorem runsP_er {p q : Pr} (h : q.er = p.er) (n : Int) : runsP q n = runsP p n := by
  have hb : q.body.map St.er = p.body.map St.er := by have := congrArg Pr.body h; exact this
  unfold runsP
  rw [ofP_of h, ← St.waysL_er n q.body, hb, St.waysL_er]
theorem stepsP_er {p q : Pr} (h : q.er = p.er) (n : Int) : stepsP q n = stepsP p n := by
  unfold stepsP
  rw [ofP_of h]
end Go.Proofs.YtpkfbaagpjdifaaDoor.Tr
namespace Go.Proofs.YtpkfbaagpjdifaaDoor.XC
end Go.Proofs.YtpkfbaagpjdifaaDoor.XC
set_option linter.unusedVariables false
set_option linter.unusedSimpArgs false
set_option maxRecDepth 4000
namespace Go.Proofs.YtpkfbaagpjdifaaDoor.Tr
open Go Go.X Go.RowKit Go.Proofs.YtpkfbaagpjdifaaDoor.XC Go.Proofs.YtpkfbaagpjdifaaDoor.XK
abbrev tE : TypeId := 29
abbrev tS : TypeId := 25
theorem eExs : elemOk Tryd.prog 22 29 6 72 = true := by kernel_rfl
theorem eSts : elemOk Tryd.prog 23 25 10 120 = true := by kernel_rfl
theorem eDes : elemOk Tryd.prog 32 43 4 40 = true := by kernel_rfl
theorem owns_low {w : World} {base : Nat} {e : TypeId} {size : Nat} {v : Value} {n : Nat} {xs : List Value} (h : w.ownsRow base e size v n xs) {g : Nat} (hg : v.ownBlock = some g) : base ≤ g := by
  obtain ⟨_, ⟨rfl, _⟩ | ⟨g', cap, cur, rfl, hb, _⟩⟩ := h
  · cases hg
  · cases hg; exact hb
theorem owns_lt {w : World} {base : Nat} {e : TypeId} {size : Nat} {v : Value} {n : Nat} {xs : List Value} (h : w.ownsRow base e size v n xs) {g : Nat} (hg : v.ownBlock = some g) : g < w.heap.size := by
  obtain ⟨cur, hb⟩ := owns_blk h hg
  exact blk_lt hb
theorem owns_slice {w : World} {base : Nat} {e : TypeId} {size : Nat} {v : Value} {n : Nat} {xs : List Value} (h : w.ownsRow base e size v n xs) : v.oneCell' = true := by
  obtain ⟨_, ⟨rfl, _⟩ | ⟨g', cap, cur, rfl, hb, _⟩⟩ := h <;> rfl
theorem owns_none (w : World) (base : Nat) (e : TypeId) (size : Nat) : w.ownsRow base e size (.slice none 0 0) 0 [] := ⟨by simp, .inl ⟨rfl, rfl⟩⟩
structure ExsOwn (w : World) (base : Nat) (v : Value) (l : List Ex) : Prop where
  row : w.ownsRow base tE 6 v l.length (l.flatMap Ex.cells)
  own : ∀ a ∈ l, a.Own w tE
  at_ : ∀ a ∈ l, a.In fun k => base ≤ k ∧ some k ≠ v.ownBlock
structure StsOwn (w : World) (base : Nat) (v : Value) (l : List St) : Prop where
  row : w.ownsRow base tS 10 v l.length (l.flatMap St.cells)
  own : ∀ a ∈ l, a.Own w tE tS
  at_ : ∀ a ∈ l, a.In fun k => base ≤ k ∧ some k ≠ v.ownBlock
theorem ExsOwn.ok {w : World} {base : Nat} {v : Value} {l : List Ex} (h : ExsOwn w base v l) : ExsOk w v l := ⟨reads_of_owns h.row, fun a ha => (h.own a ha).ok⟩
theorem StsOwn.ok {w : World} {base : Nat} {v : Value} {l : List St} (h : StsOwn w base v l) : StsOk w v l := ⟨reads_of_owns h.row, fun a ha => (h.own a ha).ok⟩
theorem ExsOwn.mod0 {w w' : World} {base : Nat} {v : Value} {l : List Ex} (h : ExsOwn w base v l) (hm : Mod none_ w w') : ExsOwn w' base v l := ⟨owns_mod h.row hm fun _ _ => id, fun a ha => (h.own a ha).mod0 hm, h.at_⟩
theorem StsOwn.mod0 {w w' : World} {base : Nat} {v : Value} {l : List St} (h : StsOwn w base v l) (hm : Mod none_ w w') : StsOwn w' base v l := ⟨owns_mod h.row hm fun _ _ => id, fun a ha => (h.own a ha).mod0 hm, h.at_⟩
theorem ExsOwn.off {S : Nat → Prop} {w w' : World} {base : Nat} {v : Value} {l : List Ex} (h : ExsOwn w base v l) (hm : Mod S w w') (hS : ∀ k, S k → k < base) : ExsOwn w' base v l :=
  ⟨owns_mod h.row hm fun k hk q => by have := owns_low h.row hk; have := hS k q; omega, fun a ha => (h.own a ha).mod hm ((h.at_ a ha).mono fun k hk q => by have := hS k q; omega), h.at_⟩
theorem StsOwn.off {S : Nat → Prop} {w w' : World} {base : Nat} {v : Value} {l : List St} (h : StsOwn w base v l) (hm : Mod S w w') (hS : ∀ k, S k → k < base) : StsOwn w' base v l :=
  ⟨owns_mod h.row hm fun k hk q => by have := owns_low h.row hk; have := hS k q; omega, fun a ha => (h.own a ha).mod hm ((h.at_ a ha).mono fun k hk q => by have := hS k q; omega), h.at_⟩
theorem ExsOwn.nil (w : World) (base : Nat) : ExsOwn w base (.slice none 0 0) [] := ⟨owns_none _ _ _ _, by simp, by simp⟩
theorem StsOwn.nil (w : World) (base : Nat) : StsOwn w base (.slice none 0 0) [] := ⟨owns_none _ _ _ _, by simp, by simp⟩
theorem ExsOwn.low {w : World} {base base' : Nat} {v : Value} {l : List Ex} (h : ExsOwn w base v l) (hb : base' ≤ base) : ExsOwn w base' v l := ⟨owns_base h.row hb, h.own, fun a ha => (h.at_ a ha).mono fun k hk => ⟨by omega, hk.2⟩⟩
theorem StsOwn.low {w : World} {base base' : Nat} {v : Value} {l : List St} (h : StsOwn w base v l) (hb : base' ≤ base) : StsOwn w base' v l := ⟨owns_base h.row hb, h.own, fun a ha => (h.at_ a ha).mono fun k hk => ⟨by omega, hk.2⟩⟩
theorem appEx {w : World} {base : Nat} {v y : Value} {l m : List Ex} {ty : TypeId} {K : Value → World → Prop} (hO : ExsOwn w base v l) (hy : reads w 6 y m.length (m.flatMap Ex.cells)) (h0 : 0 < m.length) (hm : ∀ e ∈ m, e.Own w tE ∧ e.In fun k => base ≤ k ∧ some k ≠ v.ownBlock)
    (hlen : l.length + m.length ≤ 1099511627776) (hb : base ≤ w.heap.size) (hk : ∀ v' w', ExsOwn w' base v' (l ++ m) → Mod (fun k => some k = v.ownBlock) w w' → (v'.ownBlock = v.ownBlock ∨ ∃ g, v'.ownBlock = some g ∧ w.heap.size ≤ g) → K v' w') : IK Tryd.prog .append #[22, 22] ty [false, false] [v, y] w K := by
  refine ap_own eExs hO.row hy h0 ?_ (by unfold maxLen; omega) (by omega) hb fun v' w' h1 h2 h3 => ?_
  · intro u hu
    obtain ⟨e, he, hu⟩ := List.mem_flatMap.1 hu
    have := ex_one (hm e he).1.ok
    rw [Array.all_eq_true_iff_forall_mem] at this
    exact this u (by simpa using hu)
  · have lo : ∀ a : Ex, a.Own w tE → a.In (fun k => base ≤ k ∧ some k ≠ v.ownBlock) → a.In fun k => base ≤ k ∧ some k ≠ v'.ownBlock := by
      intro a ha hi
      refine (hi.and ha.lt).mono fun k hk => ⟨hk.1.1, ?_⟩
      rcases h3 with h3 | h3
      · rw [h3]; exact hk.1.2
      · rw [h3]; intro q; cases q; omega
    refine hk _ _ ⟨?_, ?_, ?_⟩ h2 (h3.imp id fun q => ⟨_, q, Nat.le_refl _⟩)
    · rw [List.length_append, List.flatMap_append]; exact h1
    · intro a ha
      rcases List.mem_append.1 ha with ha | ha
      · exact (hO.own a ha).mod h2 ((hO.at_ a ha).mono fun k hk q => hk.2 q)
      · exact (hm a ha).1.mod h2 ((hm a ha).2.mono fun k hk q => hk.2 q)
    · intro a ha
      rcases List.mem_append.1 ha with ha | ha
      · exact lo a (hO.own a ha) (hO.at_ a ha)
      · exact lo a (hm a ha).1 (hm a ha).2
theorem appSt {w : World} {base : Nat} {v y : Value} {l m : List St} {ty : TypeId} {K : Value → World → Prop} (hO : StsOwn w base v l) (hy : reads w 10 y m.length (m.flatMap St.cells)) (h0 : 0 < m.length) (hm : ∀ e ∈ m, e.Own w tE tS ∧ e.In fun k => base ≤ k ∧ some k ≠ v.ownBlock)
    (hlen : l.length + m.length ≤ 1099511627776) (hb : base ≤ w.heap.size) (hk : ∀ v' w', StsOwn w' base v' (l ++ m) → Mod (fun k => some k = v.ownBlock) w w' → (v'.ownBlock = v.ownBlock ∨ ∃ g, v'.ownBlock = some g ∧ w.heap.size ≤ g) → K v' w') : IK Tryd.prog .append #[23, 23] ty [false, false] [v, y] w K := by
  refine ap_own eSts hO.row hy h0 ?_ (by unfold maxLen; omega) (by omega) hb fun v' w' h1 h2 h3 => ?_
  · intro u hu
    obtain ⟨e, he, hu⟩ := List.mem_flatMap.1 hu
    have := st_one (hm e he).1.ok
    rw [Array.all_eq_true_iff_forall_mem] at this
    exact this u (by simpa using hu)
  · have lo : ∀ a : St, a.Own w tE tS → a.In (fun k => base ≤ k ∧ some k ≠ v.ownBlock) → a.In fun k => base ≤ k ∧ some k ≠ v'.ownBlock := by
      intro a ha hi
      refine (hi.and ha.lt).mono fun k hk => ⟨hk.1.1, ?_⟩
      rcases h3 with h3 | h3
      · rw [h3]; exact hk.1.2
      · rw [h3]; intro q; cases q; omega
    refine hk _ _ ⟨?_, ?_, ?_⟩ h2 (h3.imp id fun q => ⟨_, q, Nat.le_refl _⟩)
    · rw [List.length_append, List.flatMap_append]; exact h1
    · intro a ha
      rcases List.mem_append.1 ha with ha | ha
      · exact (hO.own a ha).mod h2 ((hO.at_ a ha).mono fun k hk q => hk.2 q)
      · exact (hm a ha).1.mod h2 ((hm a ha).2.mono fun k hk q => hk.2 q)
    · intro a ha
      rcases List.mem_append.1 ha with ha | ha
      · exact lo a (hO.own a ha) (hO.at_ a ha)
      · exact lo a (hm a ha).1 (hm a ha).2
theorem snocEx {w : World} {base : Nat} {v : Value} {l : List Ex} {e : Ex} {ty : TypeId} {K : Value → Value → World → Prop} (hO : ExsOwn w base v l) (he : e.Own w tE) (hi : e.In fun k => base ≤ k ∧ some k ≠ v.ownBlock)
    (hlen : l.length < 1099511627776) (hb : base ≤ w.heap.size) (hk : ∀ y v' w', ExsOwn w' base v' (l ++ [e]) → Mod (fun k => some k = v.ownBlock) w w' → (v'.ownBlock = v.ownBlock ∨ ∃ g, v'.ownBlock = some g ∧ w.heap.size ≤ g) → K y v' w') :
    VK Tryd.prog (Instr.buildSlice 22 1 [(0, .agg e.cells.toArray)].toArray) w fun y w => IK Tryd.prog .append #[22, 22] ty [false, false] [v, y] w (K y) := by
  refine bs_k (cs := e.cells.toArray) (by kernel_rfl) fun w1 h1 hm1 hz1 => ?_
  refine appEx (m := [e]) (hO.mod0 hm1) (by simpa using reads_blk (size := 6) (n := 1) h1 rfl) (by simp) ?_ (by simp; omega) (by omega) fun v' w' hO' hm' hg' => hk _ _ _ hO' ?_ (hg'.imp id fun ⟨g, q, hg⟩ => ⟨g, q, by omega⟩)
  · intro a ha
    rw [List.mem_singleton.1 ha]
    exact ⟨he.mod0 hm1, hi⟩
  · exact (hm1.mono fun _ _ q => q.elim).trans hm'
theorem snocSt {w : World} {base : Nat} {v : Value} {l : List St} {e : St} {ty : TypeId} {K : Value → Value → World → Prop} (hO : StsOwn w base v l) (he : e.Own w tE tS) (hi : e.In fun k => base ≤ k ∧ some k ≠ v.ownBlock)
    (hlen : l.length < 1099511627776) (hb : base ≤ w.heap.size) (hk : ∀ y v' w', StsOwn w' base v' (l ++ [e]) → Mod (fun k => some k = v.ownBlock) w w' → (v'.ownBlock = v.ownBlock ∨ ∃ g, v'.ownBlock = some g ∧ w.heap.size ≤ g) → K y v' w') :
    VK Tryd.prog (Instr.buildSlice 23 1 [(0, .agg e.cells.toArray)].toArray) w fun y w => IK Tryd.prog .append #[23, 23] ty [false, false] [v, y] w (K y) := by
  refine bs_k (cs := e.cells.toArray) (by kernel_rfl) fun w1 h1 hm1 hz1 => ?_
  refine appSt (m := [e]) (hO.mod0 hm1) (by simpa using reads_blk (size := 10) (n := 1) h1 rfl) (by simp) ?_ (by simp; omega) (by omega) fun v' w' hO' hm' hg' => hk _ _ _ hO' ?_ (hg'.imp id fun ⟨g, q, hg⟩ => ⟨g, q, by omega⟩)
  · intro a ha
    rw [List.mem_singleton.1 ha]
    exact ⟨he.mod0 hm1, hi⟩
  · exact (hm1.mono fun _ _ q => q.elim).trans hm'
structure PrOwn (w : World) (base : Nat) (p : Pr) : Prop where
  d : w.ownsRow base 43 4 p.ds p.decls.length (p.decls.flatMap De.cells)
  f : ∀ a ∈ p.decls, a.fine
  b : StsOwn w base p.bs p.body
theorem PrOwn.ok {w : World} {base : Nat} {p : Pr} (h : PrOwn w base p) : p.Ok w := ⟨⟨reads_of_owns h.d, h.f⟩, h.b.ok⟩
theorem PrOwn.mod0 {w w' : World} {base : Nat} {p : Pr} (h : PrOwn w base p) (hm : Mod none_ w w') : PrOwn w' base p := ⟨owns_mod h.d hm fun _ _ => id, h.f, h.b.mod0 hm⟩
end Go.Proofs.YtpkfbaagpjdifaaDoor.Tr
set_option linter.unusedVariables false
set_option linter.unusedSimpArgs false
set_option maxRecDepth 4000
namespace Go.X
open Go Go.RowKit
theorem YHixA {P : Program} {S : World → Prop} {w0 : World} {t e : TypeId} {d : TypeDesc} {sz : Nat} (hu : P.underlying t = some (.slice e)) (hc : P.cellsOf e = sz + 1) (hue : P.underlying e = some d) (hd : (match d with | .struct _ | .array _ _ => true | _ => false) = true) {v : Value} {n : Nat} {xs : List Value} (hw0 : S w0) (h : ∀ w, S w → reads w (sz + 1) v n xs)
    {i : Nat} (h1 : i < n) {K : Value → Value → Prop} (hk : ∀ x, K x (.agg ((xs.drop (i * (sz + 1))).take (sz + 1)).toArray)) : HK P S (do pure (Next.value (← Instr.indexAt t v (.int .i64 (i : Int))))) fun x => HK P S (do pure (Next.value (← Instr.loadAt e x))) (K x) := by
  obtain ⟨hlen, A, c, rfl, hnc, hA⟩ := h w0 hw0
  have hj : i * (sz + 1) < xs.length := by rw [hlen]; exact Nat.mul_lt_mul_of_pos_right h1 (by omega)
  obtain ⟨a, rfl, _⟩ := hA (i * (sz + 1)) _ (List.getElem?_eq_getElem hj)
  refine HV_of (fun w _ => run_ixa hu hc (by omega) (by omega) w) ?_
  refine HV_of (fun w hw => ?_) (hk _)
  have hx := h w hw
  obtain ⟨_, A', c', hA', _, hcell⟩ := hx
  cases hA'
  have hsz : ((xs.drop (i * (sz + 1))).take (sz + 1)).length = sz + 1 := by
    rw [List.length_take, List.length_drop, hlen]
    have : (i + 1) * (sz + 1) ≤ n * (sz + 1) := Nat.mul_le_mul_right _ h1
    rw [Nat.add_mul, Nat.one_mul] at this
    omega
  obtain ⟨z, hz, hzs⟩ := info_of hc
  refine run_ldA hue hd (by rw [hz, hsz, ← hzs]; rfl) fun j u hu' => ?_
  have hj2 : j < sz + 1 := by
    have := (List.getElem?_eq_some_iff.1 hu').1
    omega
  rw [List.getElem?_take_of_lt hj2, List.getElem?_drop] at hu'
  obtain ⟨a', ha', hcell'⟩ := hcell _ _ hu'
  cases ha'
  rw [Int.toNat_natCast, add_add]
  exact hcell'
end Go.X
namespace Go.Proofs.YtpkfbaagpjdifaaDoor.Tr
open Go Go.X Go.RowKit Go.Proofs.YtpkfbaagpjdifaaDoor.XC Go.Proofs.YtpkfbaagpjdifaaDoor.XK
theorem ex_fo {w : World} {b : Nat} {e : Ex} {ty : TypeId} {fr : Nat × Nat} (hb : w.heap[b]? = some (.cells e.cells.toArray ty fr)) : FO Tryd.prog w 29 0 0 ⟨b, 0, none⟩ 5 (.int .u8 e.op) ∧ FO Tryd.prog w 29 1 1 ⟨b, 0, none⟩ 2 (.int .i64 e.num) ∧ FO Tryd.prog w 29 2 2 ⟨b, 0, none⟩ 9 (.string e.name) ∧
    FO Tryd.prog w 29 3 3 ⟨b, 0, none⟩ 22 e.s ∧ FO Tryd.prog w 29 4 4 ⟨b, 0, none⟩ 3 (.int .i64 e.line) ∧ FO Tryd.prog w 29 5 5 ⟨b, 0, none⟩ 3 (.int .i64 e.col) :=
  ⟨FO.blk hb (by kernel_rfl) uU8 rfl rfl, FO.blk hb (by kernel_rfl) uI64 rfl rfl, FO.blk hb (by kernel_rfl) uS rfl rfl, FO.blk hb (by kernel_rfl) uExs rfl rfl, FO.blk hb (by kernel_rfl) uI rfl rfl, FO.blk hb (by kernel_rfl) uI rfl rfl⟩
theorem st_fo {w : World} {b : Nat} {e : St} {ty : TypeId} {fr : Nat × Nat} (hb : w.heap[b]? = some (.cells e.cells.toArray ty fr)) : FO Tryd.prog w 25 0 0 ⟨b, 0, none⟩ 5 (.int .u8 e.op) ∧ FO Tryd.prog w 25 1 1 ⟨b, 0, none⟩ 5 (.int .u8 e.kind) ∧ FO Tryd.prog w 25 2 2 ⟨b, 0, none⟩ 5 (.int .u8 e.red) ∧
    FO Tryd.prog w 25 3 3 ⟨b, 0, none⟩ 9 (.string e.name) ∧ FO Tryd.prog w 25 4 4 ⟨b, 0, none⟩ 3 (.int .i64 e.turns) ∧ FO Tryd.prog w 25 5 5 ⟨b, 0, none⟩ 22 e.es ∧ FO Tryd.prog w 25 6 6 ⟨b, 0, none⟩ 23 e.bs ∧ FO Tryd.prog w 25 7 7 ⟨b, 0, none⟩ 23 e.ls ∧
    FO Tryd.prog w 25 8 8 ⟨b, 0, none⟩ 3 (.int .i64 e.line) ∧ FO Tryd.prog w 25 9 9 ⟨b, 0, none⟩ 3 (.int .i64 e.col) :=
  ⟨FO.blk hb (by kernel_rfl) uU8 rfl rfl, FO.blk hb (by kernel_rfl) uU8 rfl rfl, FO.blk hb (by kernel_rfl) uU8 rfl rfl, FO.blk hb (by kernel_rfl) uS rfl rfl, FO.blk hb (by kernel_rfl) uI rfl rfl, FO.blk hb (by kernel_rfl) uExs rfl rfl, FO.blk hb (by kernel_rfl) uSts rfl rfl, FO.blk hb (by kernel_rfl) uSts rfl rfl, FO.blk hb (by kernel_rfl) uI rfl rfl, FO.blk hb (by kernel_rfl) uI rfl rfl⟩
end Go.Proofs.YtpkfbaagpjdifaaDoor.Tr
set_option linter.unusedVariables false
set_option linter.unusedSimpArgs false
set_option maxRecDepth 4000
namespace Go.Proofs.YtpkfbaagpjdifaaDoor.Tr
open Go Go.X Go.RowKit Go.Proofs.YtpkfbaagpjdifaaDoor.XC Go.Proofs.YtpkfbaagpjdifaaDoor.XK
theorem zPr : (Tryd.prog.info? 34).bind (·.zero) = some (.agg #[.slice none 0 0, .slice none 0 0]) := by kernel_rfl
end Go.Proofs.YtpkfbaagpjdifaaDoor.Tr
set_option linter.unusedVariables false
namespace Go.X
open Go Go.RowKit Go.Proofs.YtpkfbaagpjdifaaDoor.Tr
abbrev Bs := List UInt8
def bs (b : Bs) : ByteArray := ⟨b.toArray⟩
structure Tk where
  kind : Int
  text : Bs
  num : Int
  line : Int
  col : Int
def Tk.cells (t : Tk) : List Value := [.int .u8 t.kind, txt t.text, .int .i64 t.num, .int .i64 t.line, .int .i64 t.col]
theorem Tk.cells_len (t : Tk) : t.cells.length = 5 := rfl
def zTk : Tk := ⟨0, [], 0, 0, 0⟩
def signL : List Bs := [[40], [41], [123], [125], [91], [93], [59], [44], [61], [43], [45], [42], [47], [37], [60], [60, 61], [62], [62, 61], [61, 61], [33, 61], [38, 38], [124, 124], [33]]
def numF : Bs → Int → Int
  | [], n => n
  | c :: r, n => numF r (10 * n + ((c.toNat : Int) - 48))
def numOk (b : Bs) : Bool := decide (1 ≤ b.length) && decide (b.length ≤ 18) && !(decide (b.head? = some 48) && decide (1 < b.length)) && b.all digitP
def numP (b : Bs) : Int := if numOk b then numF b 0 else 0
def tokP (b : Bs) : Int × Int := if wordsL.contains b then (3, 0) else if nameP (bs b) then (1, 0) else if numOk b then (2, numF b 0) else if signL.contains b then (4, 0) else (0, 0)
def runP (p : UInt8 → Bool) (b : Bs) (k : Nat) : Nat := k + ((b.drop k).takeWhile p).length
def endP (b : Bs) (at_ : Nat) : Nat :=
  let c := b.getD at_ 0
  if letterP c then runP alnumP b (at_ + 1) else if digitP c then runP digitP b (at_ + 1) else if at_ + 1 < b.length ∧ signL.contains ((b.take (at_ + 2)).drop at_) then at_ + 2 else at_ + 1
def scanL (b : Bs) : Nat → Nat → Int → Int → List Tk → Option (List Tk)
  | 0, _, _, _, _ => none
  | n + 1, a, line, col, acc =>
    if a < b.length then
      let c := b.getD a 0
      if c = 32 then scanL b n (a + 1) line (col + 1) acc
      else if c = 10 ∨ c = 9 ∨ c = 13 ∨ c = 35 then none
      else
        let k := endP b a
        let t := (b.take k).drop a
        if (tokP t).1 = 0 then none else scanL b n k line (col + k - a) (acc ++ [⟨(tokP t).1, t, (tokP t).2, line, col⟩])
    else some acc
def scanP (b : Bs) : Option (List Tk) := if b.length ≤ 20000 then scanL b (b.length + 1) 0 1 1 [] else none
def Tk.good (t : Tk) : Bool := decide ((tokP t.text).1 = t.kind) && decide ((tokP t.text).2 = t.num) && decide (t.text.length ≤ 20000) && decide (t.kind ≠ 0) && ((Lit.int .i64 t.num).wf && (Lit.int .i64 t.line).wf && (Lit.int .i64 t.col).wf)
def tkAt (l : List Tk) (a : Nat) : Tk := l.getD a zTk
def mayP (l : List Tk) (a : Nat) (s : Bs) : Bool := decide ((tkAt l a).kind ≠ 0) && decide ((tkAt l a).text = s)
def needP (l : List Tk) (a : Nat) (s : Bs) : Option Nat := if mayP l a s then some (a + 1) else none
def twoL : List (Bs × Int × Nat) := [([124, 124], 20, 0), ([38, 38], 19, 1), ([60], 13, 2), ([60, 61], 14, 2), ([62], 15, 2), ([62, 61], 16, 2), ([61, 61], 17, 2), ([33, 61], 18, 2), ([43], 11, 3), ([45], 12, 3), ([42], 8, 4), ([47], 9, 4), ([37], 10, 4)]
def findT : List (Bs × Int × Nat) → Bs → Int × Int
  | [], _ => (0, -1)
  | (t, o, s) :: r, b => if b = t then (o, s) else findT r b
def twoP (b : Bs) : Int × Int := findT twoL b
def nl : Value := .slice none 0 0
mutual
def exprTk (l : List Tk) : Nat → Nat → Nat → Option (Ex × Nat)
  | 0, _, _ => none
  | n + 1, k, a => if 4 < k then singleP l n a else
    match exprTk l n (k + 1) a with
    | none => none
    | some (e, a) => loopP l n k e a
def loopP (l : List Tk) : Nat → Nat → Ex → Nat → Option (Ex × Nat)
  | 0, _, _, _ => none
  | n + 1, k, e, a =>
    let t := tkAt l a
    if t.kind = 0 ∨ (twoP t.text).1 = 0 ∨ (twoP t.text).2 ≠ (k : Int) then some (e, a) else
    match exprTk l n (k + 1) (a + 1) with
    | none => none
    | some (r, a') => if k = 2 then some (⟨(twoP t.text).1, 0, bs [], nl, [e, r], t.line, t.col⟩, a') else loopP l n k ⟨(twoP t.text).1, 0, bs [], nl, [e, r], t.line, t.col⟩ a'
def singleP (l : List Tk) : Nat → Nat → Option (Ex × Nat)
  | 0, _ => none
  | n + 1, a =>
    let t := tkAt l a
    if t.kind = 0 then none
    else if t.kind = 2 then some (⟨1, t.num, bs [], nl, [], t.line, t.col⟩, a + 1)
    else if t.kind = 1 then
      if mayP l (a + 1) [91] then none else some (⟨2, 0, bs t.text, nl, [], t.line, t.col⟩, a + 1)
    else if plainP (bs t.text) then some (⟨5, 0, bs t.text, nl, [], t.line, t.col⟩, a + 1)
    else if mayP l a [114, 111, 119] then
      match needP l (a + 1) [91] with
      | none => none
      | some a =>
        match exprTk l n 0 a with
        | none => none
        | some (e, a) =>
          match needP l a [93] with
          | none => none
          | some a => some (⟨4, 0, bs [], nl, [e], t.line, t.col⟩, a)
    else if mayP l a [45] ∨ mayP l a [33] then none
    else if mayP l a [40] then
      match exprTk l n 0 (a + 1) with
      | none => none
      | some (e, a) =>
        match needP l a [41] with
        | none => none
        | some a => some (e, a)
    else none
end
def argsLoop (l : List Tk) (fuel least most : Nat) : Nat → List Ex → Nat → Option (List Ex × Nat)
  | 0, _, _ => none
  | n + 1, es, a =>
    if es.length < most then
      if 0 < es.length then
        if least ≤ es.length ∧ (tkAt l a).text = [41] then some (es, a) else
        match needP l a [44] with
        | none => none
        | some a =>
          match exprTk l fuel 0 a with
          | none => none
          | some (e, a) => argsLoop l fuel least most n (es ++ [e]) a
      else
        match exprTk l fuel 0 a with
        | none => none
        | some (e, a) => argsLoop l fuel least most n (es ++ [e]) a
    else some (es, a)
def callL : List Bs := [[115, 101, 110, 100], [115, 115, 101, 110, 100], [98, 115, 101, 110, 100], [105, 115, 101, 110, 100], [105, 115, 115, 101, 110, 100], [114, 101, 99, 118], [105, 114, 101, 99, 118], [119, 97, 105, 116], [119, 97, 105, 116, 97, 108, 108], [119, 97, 105, 116, 97, 110, 121], [116, 101, 115, 116], [116, 101, 115, 116, 97, 110, 121], [112, 114, 111, 98, 101], [105, 112, 114, 111, 98, 101], [98, 97, 114, 114, 105, 101, 114], [98, 99, 97, 115, 116], [114, 101, 100, 117, 99, 101], [97, 108, 108, 114, 101, 100, 117, 99, 101], [103, 97, 116, 104, 101, 114], [100, 117, 112], [115, 112, 108, 105, 116], [102, 114, 101, 101]]
def idxP : List Bs → Bs → Nat → Int
  | [], _, _ => 0
  | t :: r, b, n => if t = b then n + 1 else idxP r b (n + 1)
def callK (b : Bs) : Int := idxP callL b 0
def callP (l : List Tk) (n : Nat) (k : Int) (a : Nat) : Option (List Ex × Nat) :=
  match needP l a [40] with
  | none => none
  | some a =>
    match argsLoop l n (argsP k).1 (argsP k).2 10 [] a with
    | none => none
    | some (es, a) => if redsP k then none else
      match needP l a [41] with
      | none => none
      | some a => some (es, a)
mutual
def blockP (l : List Tk) : Nat → Nat → Option (List St × Nat)
  | 0, _ => none
  | n + 1, a =>
    match needP l a [123] with
    | none => none
    | some a => stmtsP l n [] a
def stmtsP (l : List Tk) : Nat → List St → Nat → Option (List St × Nat)
  | 0, _, _ => none
  | n + 1, acc, a => if mayP l a [125] then some (acc, a + 1) else
    match stmtP l n a with
    | none => none
    | some (s, a) => stmtsP l n (acc ++ [s]) a
def stmtP (l : List Tk) : Nat → Nat → Option (St × Nat)
  | 0, _ => none
  | n + 1, a =>
    let t := tkAt l a
    if t.kind = 1 then
      if mayP l (a + 1) [91] then none else
      match needP l (a + 1) [61] with
      | none => none
      | some a =>
        match exprTk l n 0 a with
        | none => none
        | some (e, a) =>
          match needP l a [59] with
          | none => none
          | some a => some (⟨1, 0, 0, bs t.text, 0, nl, [e], nl, [], nl, [], t.line, t.col⟩, a)
    else if mayP l a [105, 102] then none
    else if mayP l a [119, 104, 105, 108, 101] then
      match exprTk l n 0 (a + 1) with
      | none => none
      | some (e, a) =>
        match blockP l n a with
        | none => none
        | some (b, a) => some (⟨4, 0, 0, bs [], 0, nl, [e], nl, b, nl, [], t.line, t.col⟩, a)
    else if mayP l a [102, 111, 114] then
      if (tkAt l (a + 1)).kind = 1 then
        match needP l (a + 2) [60] with
        | none => none
        | some a1 => if mayP l a1 [115, 105, 122, 101] then none else
          if (tkAt l a1).kind = 2 ∧ 1 ≤ (tkAt l a1).num ∧ (tkAt l a1).num ≤ 1000 then
            match blockP l n (a1 + 1) with
            | none => none
            | some (b, a2) => some (⟨5, 0, 0, bs (tkAt l (a + 1)).text, (tkAt l a1).num, nl, [], nl, b, nl, [], t.line, t.col⟩, a2)
          else none
      else none
    else if mayP l a [97, 115, 115, 101, 114, 116] then
      match exprTk l n 0 (a + 1) with
      | none => none
      | some (e, a) =>
        match needP l a [59] with
        | none => none
        | some a => some (⟨6, 0, 0, bs [], 0, nl, [e], nl, [], nl, [], t.line, t.col⟩, a)
    else if mayP l a [115, 116, 111, 112] then none
    else if t.kind = 3 ∧ 0 < callK t.text then
      match callP l n (callK t.text) (a + 1) with
      | none => none
      | some (es, a) =>
        match needP l a [59] with
        | none => none
        | some a => some (⟨8, callK t.text, 0, bs [], 0, nl, es, nl, [], nl, [], t.line, t.col⟩, a)
    else none
end
def declsP (l : List Tk) : Nat → List De → Nat → Option (List De × Nat)
  | 0, _, _ => none
  | n + 1, ds, a => if mayP l a [105, 110, 116] then
      let t := tkAt l (a + 1)
      if t.kind = 1 then
        if mayP l (a + 2) [91] then
          if (tkAt l (a + 3)).kind = 2 ∧ 1 ≤ (tkAt l (a + 3)).num ∧ (tkAt l (a + 3)).num ≤ 1000 then
            match needP l (a + 4) [93] with
            | none => none
            | some a =>
              match needP l a [59] with
              | none => none
              | some a1 => declsP l n (ds ++ [⟨bs t.text, (tkAt l (a - 2)).num, t.line, t.col⟩]) a1
          else none
        else
          match needP l (a + 2) [59] with
          | none => none
          | some a => declsP l n (ds ++ [⟨bs t.text, 0, t.line, t.col⟩]) a
      else none
    else some (ds, a)
def bodyP (l : List Tk) (fuel : Nat) : Nat → List St → Nat → Option (List St)
  | 0, _, _ => none
  | n + 1, ss, a => if a < l.length then
      match stmtP l fuel a with
      | none => none
      | some (s, a) => bodyP l fuel n (ss ++ [s]) a
    else some ss
def parseP (l : List Tk) (fuel : Nat) : Option Pr :=
  match declsP l (l.length + 1) [] 0 with
  | none => none
  | some (ds, a) =>
    match bodyP l fuel (l.length + 1) [] a with
    | none => none
    | some ss => if St.deepAt ss 1 ≤ 32 then some ⟨nl, ds, nl, ss⟩ else none
def readP (b : Bs) : Option Pr :=
  match scanP b with
  | none => none
  | some l => if l.all Tk.good ∧ l.length ≤ 20000 then parseP l 40 else none
end Go.X
