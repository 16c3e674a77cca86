/- Several texts of this repo, one behind the other, without what is not used here. -/
import Derived.Maps.RangeRun
import Derived.Shelf.Sort.Plain
import Derived.Test.YtmnkedgmpbcicaaProg
import Derived.Shelf.Slices.In.SortNone
import Derived.Sort.OwnSortedInts
import Derived.Test.YtmnkedgmpbcicaaUM1
set_option linter.unusedVariables false
set_option linter.unusedSimpArgs false
set_option maxRecDepth 4000
namespace Go.X
open Go Go.RowKit
theorem findE_none {κ : Type} [DecidableEq κ] {k : κ} : ∀ {l : List (Ent κ)} {n : Nat}, findE k l n = none ↔ ∀ e ∈ l, e.k ≠ k
  | [], n => by simp [findE]
  | e :: r, n => by
    unfold findE
    by_cases h : k = e.k
    · simp [h]
    · simp only [h, if_false, findE_none (l := r) (n := n + 1), List.mem_cons]
      refine ⟨fun q x hx => ?_, fun q x hx => q x (.inr hx)⟩
      rcases hx with rfl | hx
      · exact fun z => h z.symm
      · exact q x hx
theorem findE_ex {κ : Type} [DecidableEq κ] {k : κ} {l : List (Ent κ)} (h : ∃ e ∈ l, e.k = k) : ∃ i e, findE k l 0 = some (i, e.v) ∧ l[i]? = some e ∧ e.k = k ∧ e ∈ l := by
  cases hf : findE k l 0 with
  | none =>
    obtain ⟨e, he, hk⟩ := h
    exact absurd hk (findE_none.1 hf e he)
  | some p =>
    obtain ⟨i, u⟩ := p
    obtain ⟨e, he, hk, hv⟩ := findE_at hf
    exact ⟨i, e, by rw [hv], he, hk, List.mem_of_getElem? he⟩
theorem uniq_mem {l : List Ms} (h : l.Pairwise fun a b => ¬ (a.frm = b.frm ∧ a.call = b.call)) {a b : Ms} (ha : a ∈ l) (hb : b ∈ l) (hf : a.frm = b.frm) (hc : a.call = b.call) : a = b := by
  obtain ⟨i, hi, rfl⟩ := List.mem_iff_getElem.1 ha
  obtain ⟨j, hj, rfl⟩ := List.mem_iff_getElem.1 hb
  rcases Nat.lt_trichotomy i j with q | q | q
  · exact absurd ⟨hf, hc⟩ (List.pairwise_iff_getElem.1 h i j hi hj q)
  · subst q; rfl
  · exact absurd ⟨hf.symm, hc.symm⟩ (List.pairwise_iff_getElem.1 h j i hj hi q)
theorem isAt_iff {f c : Int} {m : Ms} : m.isAt f c = true ↔ m.frm = f ∧ m.call = c := by simp [Ms.isAt]
theorem mem_row {l : List Ms} {c : Ch} {m : Ms} : m ∈ rowOf l c ↔ m ∈ l ∧ m.ch = c := by simp [rowOf]
theorem row_len (l : List Ms) (c : Ch) : (rowOf l c).length ≤ l.length := List.length_filter_le _ _
theorem row_at {l : List Ms} (hu : l.Pairwise fun a b => ¬ (a.frm = b.frm ∧ a.call = b.call)) {m : Ms} {f c : Int} (hm : l.find? (Ms.isAt f c) = some m) : ∃ j, (rowOf l m.ch)[j]? = some m ∧ (rowOf l m.ch).findIdx? (fun x => decide (x.call = c)) = some j := by
  have hp := List.find?_some hm
  have hmem := List.mem_of_find?_eq_some hm
  obtain ⟨hf, hc⟩ := isAt_iff.1 hp
  have hr : m ∈ rowOf l m.ch := mem_row.2 ⟨hmem, rfl⟩
  cases hfi : (rowOf l m.ch).findIdx? (fun x => decide (x.call = c)) with
  | none =>
    rw [List.findIdx?_eq_none_iff] at hfi
    have := hfi m hr
    simp [hc] at this
  | some j =>
    refine ⟨j, ?_, rfl⟩
    rw [List.findIdx?_eq_some_iff_getElem] at hfi
    obtain ⟨hj, hpj, _⟩ := hfi
    rw [List.getElem?_eq_getElem hj]
    congr 1
    have hx := mem_row.1 (List.getElem_mem hj)
    have e1 : ((rowOf l m.ch)[j]).frm = m.frm := by have := hx.2; unfold Ms.ch at this; simp only [Prod.mk.injEq] at this; exact this.2.1
    exact uniq_mem hu hx.1 hmem e1 (by simpa [hc] using hpj)
end Go.X
namespace Go.Proofs.Ytmnkedgmpbcicaa.Que
open Go Go.X Go.RowKit Go.Proofs.Ytmnkedgmpbcicaa.XF Go.Proofs.Ytmnkedgmpbcicaa.XK
def MsRow (w : World) (s : Value) (l : List Ms) : Prop := reads w (7 + 1) s l.length (l.flatMap Ms.enc)
theorem MsRow.mod {S : Nat → Prop} {w w' : World} {s : Value} {l : List Ms} (h : MsRow w s l) (hm : Mod S w w') (hS : ∀ k, sb s k → ¬ S k) : MsRow w' s l := reads_mod h hm fun k _ q => hS k q
theorem MsRow.calm {w w' : World} {s : Value} {l : List Ms} (h : MsRow w s l) (hm : Mod none_ w w') : MsRow w' s l := h.mod hm fun _ _ => id
theorem ixMs {w : World} {s : Value} {l : List Ms} {i : Nat} {n : Int} {e : Ms} {K : Value → Value → World → Prop} (h : MsRow w s l) (hi : l[i]? = some e) (hn : n = (i : Int)) (hk : ∀ x, K x (.agg e.enc.toArray) w) :
    VK Try.prog (Instr.indexAt tMsS s (.int .i64 n)) w fun x w => VK Try.prog (Instr.loadAt tMs x) w (K x) := by
  subst hn
  have hlt : i < l.length := (List.getElem?_eq_some_iff.1 hi).1
  refine ixldA vMsS cMs Try.underlying39 rfl h (by omega) (by omega) fun x => ?_
  rw [show ((i : Int).toNat) = i by omega, fl_drop (k := 7 + 1) Ms.enc_len hi]
  exact hk x
theorem ixMsA {w : World} {s : Value} {l : List Ms} {i : Nat} {n : Int} {e : Ms} {K : Value → World → Prop} (h : MsRow w s l) (hi : l[i]? = some e) (hn : n = (i : Int)) (hk : ∀ a, (∀ j u, e.enc[j]? = some u → w.cell? (a.add j) = some u) → K (.pointer (some a)) w) :
    VK Try.prog (Instr.indexAt tMsS s (.int .i64 n)) w K := by
  subst hn
  have hlt : i < l.length := (List.getElem?_eq_some_iff.1 hi).1
  refine ixat vMsS cMs h (by omega) (by omega) fun a ha _ => hk a fun j u hu => ?_
  have hj : j < 7 + 1 := (List.getElem?_eq_some_iff.1 hu).1
  refine ha j u hj ?_
  rw [show ((i : Int).toNat) = i by omega, fl_get (k := 7 + 1) Ms.enc_len hi hj]
  exact hu
def idxV (p : Ms → Bool) (l : List Ms) : Int := match l.findIdx? p with | some j => j | none => -1
theorem IndexFuncMs_ok {w : World} {s : Value} {l : List Ms} {p : Ms → Bool} {fv : Value} (h : MsRow w s l) (hlen : l.length ≤ 1099511627776)
    (hf : ∀ a ∈ l, ∀ w', Mod none_ w w' → ∀ K : Value → World → Prop, (∀ w'', Mod none_ w' w'' → K (.bool (p a)) w'') → CK Try.prog fv [.agg a.enc.toArray] w' K) :
    Rt Try.prog 68 #[s, fv] w fun v w' => v = .int .i64 (idxV p l) ∧ Mod none_ w w' := by
  obtain ⟨A, c, hs, _⟩ := reads_cap h
  refine slices_IndexFunc_queue_Message_queue_Message_calls ?_
  unfold slices_IndexFunc_queue_Message_queue_Message_F
  rw [hs, len_sl vMsS]
  refine W_loop slices_IndexFunc_queue_Message_queue_Message_L0_ok (fun ρ w' => ∃ n : Nat, n ≤ l.length ∧ ρ 8 = .int .i64 n ∧ ρ 7 = .int .i64 l.length ∧ ρ 0 = .slice A l.length c ∧ ρ 1 = fv ∧ (∀ a ∈ l.take n, p a = false) ∧ Mod none_ w w') (fun ρ _ => l.length - (intOf (ρ 8)).toNat)
    ⟨0, Nat.zero_le _, rfl, rfl, rfl, rfl, by simp, Mod.refl _ _⟩ ?_
  rintro ρ w1 ⟨n, hn, h8, h7, h0, h1, hno, hm⟩
  rw [slices_IndexFunc_queue_Message_queue_Message_L0_eq]
  unfold slices_IndexFunc_queue_Message_queue_Message_L0_F
  rw [h8, h7, h0, h1, BK_lss]
  by_cases hlt : n < l.length
  · rw [decide_eq_true (by omega)]
    refine condT ?_
    have hx : l[n]? = some l[n] := List.getElem?_eq_getElem hlt
    have hmem : l[n] ∈ l := List.getElem_mem hlt
    have h2 := h.calm hm
    rw [hs] at h2
    refine ixMs h2 hx rfl fun y => ?_
    refine hf _ hmem w1 hm _ fun w2 hm2 => ?_
    refine caseC (fun hp => ?_) (fun hp => ?_)
    · refine ⟨?_, hm.trans hm2⟩
      unfold idxV
      rw [show l.findIdx? p = some n from List.findIdx?_eq_some_iff_getElem.2 ⟨hlt, hp, fun j hj => by
        have := hno l[j] (List.mem_take_iff_getElem.2 ⟨j, by omega, rfl⟩)
        simp [this]⟩]
      rfl
    · rw [BK_add, wrap_i (by omega) (by omega)]
      refine ⟨⟨n + 1, hlt, rfl, h7, h0, h1, ?_, hm.trans hm2⟩, ?_⟩
      · rw [List.take_add_one, hx, Option.toList_some]
        intro a q
        rcases List.mem_append.1 q with q | q
        · exact hno a q
        · rw [List.mem_singleton.1 q]; exact hp
      · simp only [sq_n, sq_x, sq_r, bk_n, bk_r, bk_x, rt_r, rt_n, rs_0, rs_t, pk_1, pk_2, up_at, reduceIte, Nat.reduceEqDiff, intOf]; omega
  · obtain rfl : n = l.length := by omega
    rw [decide_eq_false (by omega)]
    refine condF ?_
    rw [sq_x, bk_x, sq_n, slices_IndexFunc_queue_Message_queue_Message_R1_eq]
    unfold slices_IndexFunc_queue_Message_queue_Message_R1_F
    refine ⟨?_, hm⟩
    rw [List.take_length] at hno
    unfold idxV
    rw [List.findIdx?_eq_none_iff.2 hno]
    rfl
theorem ContainsFuncMs_ok {w : World} {s : Value} {l : List Ms} {p : Ms → Bool} {fv : Value} (h : MsRow w s l) (hlen : l.length ≤ 1099511627776)
    (hf : ∀ a ∈ l, ∀ w', Mod none_ w w' → ∀ K : Value → World → Prop, (∀ w'', Mod none_ w' w'' → K (.bool (p a)) w'') → CK Try.prog fv [.agg a.enc.toArray] w' K) :
    Rt Try.prog 44 #[s, fv] w fun v w' => v = .bool (l.any p) ∧ Mod none_ w w' := by
  refine slices_ContainsFunc_queue_Message_queue_Message_calls ?_
  unfold slices_ContainsFunc_queue_Message_queue_Message_F
  refine CK_st Try.func68 rfl rfl (IndexFuncMs_ok h hlen hf) ?_
  rintro _ w1 ⟨rfl, hm⟩
  rw [BK_geq]
  refine ⟨?_, hm⟩
  congr 1
  unfold idxV
  cases hq : l.findIdx? p with
  | none =>
    rw [List.findIdx?_eq_none_iff] at hq
    rw [show l.any p = false by simpa using hq]
    rfl
  | some j =>
    rw [List.findIdx?_eq_some_iff_getElem] at hq
    obtain ⟨hj, hp, _⟩ := hq
    rw [show l.any p = true from List.any_eq_true.2 ⟨l[j], List.getElem_mem hj, hp⟩]
    simp
section
variable {w : World} {p : Nat} {l : List Ms} {V : QV}
theorem map_ne (x y : Operand) {w : World} {K : Value → World → Prop} (b : Nat) : BK Try.prog .eql 86 x y (.map (some b)) (.map none) w K = K (.bool false) w := BK_of (by kernel_rfl) (by kernel_rfl)
theorem f_rows (h : QAt w p l V) : FO Try.prog w 89 0 0 ⟨p, 0, none⟩ 86 (.map (some V.rb)) := FO.blk h.blk (by kernel_rfl) uR rfl rfl
theorem f_at (h : QAt w p l V) : FO Try.prog w 89 1 1 ⟨p, 0, none⟩ 87 (.map (some V.ab)) := FO.blk h.blk (by kernel_rfl) uA rfl rfl
theorem none_ok (h : QAt w p l V) : Rt Try.prog 49 #[.pointer (some ⟨p, 0, none⟩)] w fun v w' => v = .bool false ∧ w' = w := by
  refine queue_Queue_none_calls ?_
  unfold queue_Queue_none_F
  rw [BK_eqlP uQ]
  simp only [Option.isNone_some, ↓VG_u, ↓UG_u, ↓MG_u, ↓NG_u, ↓PG_u, ↓BG_u, ↓CG_u, ↓IG_u, ↓VGtt, ↓VGtf, ↓VGft, ↓VGff, ↓UGtt, ↓UGtf, ↓UGft, ↓UGff, ↓MGtt, ↓MGtf, ↓MGft, ↓MGff, ↓NGtt, ↓NGtf, ↓NGft, ↓NGff, ↓PGtt, ↓PGtf, ↓PGft, ↓PGff, ↓BGtt, ↓BGtf, ↓BGft, ↓BGff, ↓CGtt, ↓CGtf, ↓CGft, ↓CGff, ↓IGtt, ↓IGtf, ↓IGft, ↓IGff, ↓PKt, ↓PKf, ↓CDt, ↓CDf, ↓NOTt, ↓NOTf, ↓NK_ptr]
  rw [(f_rows h).e]
  try simp only [↓VG_u, ↓UG_u, ↓MG_u, ↓NG_u, ↓PG_u, ↓BG_u, ↓CG_u, ↓IG_u, ↓VGtt, ↓VGtf, ↓VGft, ↓VGff, ↓UGtt, ↓UGtf, ↓UGft, ↓UGff, ↓MGtt, ↓MGtf, ↓MGft, ↓MGff, ↓NGtt, ↓NGtf, ↓NGft, ↓NGff, ↓PGtt, ↓PGtf, ↓PGft, ↓PGff, ↓BGtt, ↓BGtf, ↓BGft, ↓BGff, ↓CGtt, ↓CGtf, ↓CGft, ↓CGff, ↓IGtt, ↓IGtf, ↓IGft, ↓IGff, ↓PKt, ↓PKf, ↓CDt, ↓CDf, ↓NOTt, ↓NOTf, ↓NK_ptr]
  rw [map_ne]
  simp only [↓VG_u, ↓UG_u, ↓MG_u, ↓NG_u, ↓PG_u, ↓BG_u, ↓CG_u, ↓IG_u, ↓VGtt, ↓VGtf, ↓VGft, ↓VGff, ↓UGtt, ↓UGtf, ↓UGft, ↓UGff, ↓MGtt, ↓MGtf, ↓MGft, ↓MGff, ↓NGtt, ↓NGtf, ↓NGft, ↓NGff, ↓PGtt, ↓PGtf, ↓PGft, ↓PGff, ↓BGtt, ↓BGtf, ↓BGft, ↓BGff, ↓CGtt, ↓CGtf, ↓CGft, ↓CGff, ↓IGtt, ↓IGtf, ↓IGft, ↓IGff, ↓PKt, ↓PKf, ↓CDt, ↓CDf, ↓NOTt, ↓NOTf, ↓NK_ptr]
  exact ⟨by trivial, by trivial⟩
abbrev FindP (l : List Ms) (V : QV) (f c : Int) (v : Value) : Prop := match l.find? (Ms.isAt f c) with
  | none => v = .tuple #[.slice none 0 0, .int .i64 (-1)]
  | some m => ∃ e ∈ V.er, e.k = m.ch ∧ ∃ j : Nat, (rowOf l m.ch)[j]? = some m ∧ v = .tuple #[e.v, .int .i64 (j : Int)]
theorem find1_ok {w : World} {cb : Nat} {c : Int} (hb : w.heap[cb]? = some (.cells #[.int .i64 c] 3 (0, 0))) (m : Ms) : Rt Try.prog 80 #[.agg m.enc.toArray, .pointer (some ⟨cb, 0, none⟩)] w fun v w' => v = .bool (decide (m.call = c)) ∧ Mod none_ w w' := by
  refine queue_Queue_find_1_calls ?_
  unfold queue_Queue_find_1_F
  refine box_k (cs := m.enc.toArray) rfl fun w1 hb1 hm1 hz1 => ?_
  have g : FO Try.prog w1 tMs 3 3 ⟨w.heap.size, 0, none⟩ 3 (.int .i64 m.call) := FO.blk hb1 (by kernel_rfl) vI rfl rfl
  rw [g.e]
  refine ldOne rfl vI rfl (hm1.blk hb id) ?_
  rw [BK_eql]
  refine ⟨?_, hm1⟩
  by_cases q : m.call = c <;> simp [q]
theorem find_ok (h : QAt w p l V) (hL : l.length ≤ 1000000) (f c : Int) : Rt Try.prog 69 #[.pointer (some ⟨p, 0, none⟩), .int .i64 f, .int .i64 c] w fun v w' => FindP l V f c v ∧ Mod none_ w w' := by
  refine queue_Queue_find_calls ?_
  unfold queue_Queue_find_F
  refine box_k (cs := #[.int .i64 c]) rfl fun w1 hb1 hm1 hz1 => ?_
  have h1 := h.calm hm1
  refine CK_st Try.func49 rfl rfl (none_ok h1) ?_
  rintro _ w2 ⟨rfl, rfl⟩
  refine condF ?_
  refine queue_Queue_find_R0_held (D := []) (fun w' => Mod none_ w2 w') ((Mod.refl _ w2).drawn _) ?_
  have hd : Mod none_ w2 { w2 with drawn := w2.drawn + 1 } := (Mod.refl _ w2).drawn _
  have hdz : ({ w2 with drawn := w2.drawn + 1 } : World).heap.size = w2.heap.size := rfl
  generalize ({ w2 with drawn := w2.drawn + 1 } : World) = wd at *
  unfold queue_Queue_find_R0_H
  simp only [sq_n, sq_x, sq_r, bk_n, bk_r, bk_x, rt_r, rt_n, rs_0, rs_t, pk_1, pk_2, up_at, reduceIte, Nat.reduceEqDiff]
  refine HN_ptr (HV_of (v := .pointer (some ⟨p, 1, none⟩)) (fun w' _ => by rw [run_fo (off := 1) (by kernel_rfl), add_pl]) ?_)
  refine HV_of (v := .map (some V.ab)) (fun w' hw => run_ld1 uA rfl (by rw [cell_blk (h1.calm hw).blk]; rfl)) ?_
  refine HV_of (v := .int .i64 c) (fun w' hw => run_ld1 vI rfl (by rw [cell_blk (hw.blk hb1 id)]; rfl)) ?_
  refine HV_of (v := encSt (f, c)) (fun w' _ => run_build (P := Try.prog) w' _ _ _ (by kernel_rfl)) ?_
  have hlk : ∀ w', Mod none_ w2 w' → _ := fun w' hw => run_look KS uA (h1.calm hw).am zC_z (f, c) true
  have key : ∀ ρ : Sl, ∀ b : Nat, ∀ w3 : World, ρ 0 = .pointer (some ⟨p, 0, none⟩) → ρ 5 = .pointer (some ⟨w.heap.size, 0, none⟩) → ρ 8 = .pointer (some ⟨b, 0, none⟩) → Mod none_ w2 w3 → (∀ m, l.find? (Ms.isAt f c) = some m → ρ 9 = .bool true ∧ w3.heap[b]? = some (.cells #[strV m.key, .int .i64 m.frm, .int .i64 m.to] 91 (0, 0))) → (l.find? (Ms.isAt f c) = none → ρ 9 = .bool false) →
      sx fn_ Try.prog 36 queue_Queue_find_R1 (retK Try.prog [ResultVar.tmp 6, ResultVar.tmp 7] fun v w' => FindP l V f c v ∧ Mod none_ w w') ρ w3 := by
    intro ρ b w3 e0 e5 e8 hm3 hsome hnone
    rw [queue_Queue_find_R1_eq]; unfold queue_Queue_find_R1_F
    cases hq : l.find? (Ms.isAt f c) with
    | none =>
      rw [hnone hq]
      simp only [↓VG_u, ↓UG_u, ↓MG_u, ↓NG_u, ↓PG_u, ↓BG_u, ↓CG_u, ↓IG_u, ↓VGtt, ↓VGtf, ↓VGft, ↓VGff, ↓UGtt, ↓UGtf, ↓UGft, ↓UGff, ↓MGtt, ↓MGtf, ↓MGft, ↓MGff, ↓NGtt, ↓NGtf, ↓NGft, ↓NGff, ↓PGtt, ↓PGtf, ↓PGft, ↓PGff, ↓BGtt, ↓BGtf, ↓BGft, ↓BGff, ↓CGtt, ↓CGtf, ↓CGft, ↓CGff, ↓IGtt, ↓IGtf, ↓IGft, ↓IGff, ↓PKt, ↓PKf, ↓CDt, ↓CDf, ↓NOTt, ↓NOTf, ↓NK_ptr]
      refine ⟨?_, hm1.trans hm3⟩
      unfold FindP; rw [hq]; rfl
    | some m =>
      obtain ⟨e9, hbb⟩ := hsome m hq
      rw [e9]
      simp only [↓VG_u, ↓UG_u, ↓MG_u, ↓NG_u, ↓PG_u, ↓BG_u, ↓CG_u, ↓IG_u, ↓VGtt, ↓VGtf, ↓VGft, ↓VGff, ↓UGtt, ↓UGtf, ↓UGft, ↓UGff, ↓MGtt, ↓MGtf, ↓MGft, ↓MGff, ↓NGtt, ↓NGtf, ↓NGft, ↓NGff, ↓PGtt, ↓PGtf, ↓PGft, ↓PGff, ↓BGtt, ↓BGtf, ↓BGft, ↓BGff, ↓CGtt, ↓CGtf, ↓CGft, ↓CGff, ↓IGtt, ↓IGtf, ↓IGft, ↓IGff, ↓PKt, ↓PKf, ↓CDt, ↓CDf, ↓NOTt, ↓NOTf, ↓NK_ptr]
      refine queue_Queue_find_R2_quiet (D := []) (fun w' => Mod none_ w3 w') ((Mod.refl _ _).drawn _) ?_
      unfold queue_Queue_find_R2_Q
      simp only [sq_n, sq_x, sq_r, bk_n, bk_r, bk_x, rt_r, rt_n, rs_0, rs_t, pk_1, pk_2, up_at, reduceIte, Nat.reduceEqDiff, e0, e8]
      have h3 := h1.calm hm3
      obtain ⟨j, hj, hfi⟩ := row_at h.inv.uniq hq
      obtain ⟨i, e, hfe, hei, hek, hem⟩ := findE_ex (h.inv.cov m (List.mem_of_find?_eq_some hq))
      refine QN_ptr (Qfo (off := 0) (by kernel_rfl) (Qld uR rfl (v := .map (some V.rb)) (fun w' hw => by rw [add_pl, cell_blk (h3.calm hw).blk]; rfl) ?_))
      refine QV_of (v := encC m.ch) (fun w' hw => run_ldB Try.underlying91 rfl (by kernel_rfl) (hw.blk hbb id)) ?_
      refine QV_of (v := e.v) (fun w' hw => by
        rw [run_look KC uR (h3.calm hw).rm zR_z m.ch false, hfe]; try rfl) ?_
      intro w4 hm4
      rw [queue_Queue_find_R3_eq]; unfold queue_Queue_find_R3_F
      simp only [sq_n, sq_x, sq_r, bk_n, bk_r, bk_x, rt_r, rt_n, rs_0, rs_t, pk_1, pk_2, up_at, reduceIte, Nat.reduceEqDiff, e5]
      rw [mkFunc]
      have h4 := h3.calm hm4
      have hrow : MsRow w4 e.v (rowOf l m.ch) := by have := reads_of_owns (h4.rows e hem); rw [hek] at this; exact this
      have hlr := row_len l m.ch
      have hm24 := hm3.trans hm4
      refine CK_st Try.func68 rfl rfl (IndexFuncMs_ok (p := fun x => decide (x.call = c)) hrow (by omega) fun a _ w' hw' K hK => ?_) ?_
      · refine CK_fn (f := 80) (first := #[]) (cap := #[.pointer (some ⟨w.heap.size, 0, none⟩)]) (args := [.agg a.enc.toArray]) Try.func80 rfl rfl (find1_ok ((hm24.trans hw').blk hb1 id) a) ?_
        rintro _ w'' ⟨rfl, hm''⟩
        exact hK _ hm''
      rintro _ w5 ⟨rfl, hm5⟩
      refine ⟨?_, (hm1.trans hm24).trans hm5⟩
      unfold FindP; rw [hq]
      refine ⟨e, hem, hek, j, hj, ?_⟩
      unfold idxV; rw [hfi]
  have hat := h.inv.at_ (f, c)
  cases hq : l.find? (Ms.isAt f c) with
  | none =>
    rw [hq] at hat
    have hfe : findE (f, c) V.ea 0 = none := by simpa using hat
    refine HV_of (v := .tuple #[encC ([], 0, 0), .bool false]) (fun w' hw => by rw [hlk w' hw, hfe]; try rfl) ?_
    refine HV_of (v := encC ([], 0, 0)) (fun _ _ => rfl) (HV_of (v := .bool false) (fun _ _ => rfl) ?_)
    refine al_k (cs := #[strV [], .int .i64 0, .int .i64 0]) zC_z rfl _ fun w3 hb3 hm3 hz3 => ⟨hd.trans hm3, ?_⟩
    refine stS (cs := #[strV [], .int .i64 0, .int .i64 0]) (old := #[strV [], .int .i64 0, .int .i64 0]) rfl rfl (by kernel_rfl) rfl (by simp [Value.oneCell', strV]) hb3 fun w4 hb4 hm4 hz4 => ⟨(hd.trans hm3).then hm4 fun i hi q => by omega, ?_⟩
    try rw [sq_n]
    exact key _ wd.heap.size w4 rfl rfl rfl ((hd.trans hm3).then hm4 fun i hi q => by omega) (fun m z => by rw [hq] at z; cases z) (fun _ => rfl)
  | some m =>
    rw [hq] at hat
    obtain ⟨⟨i, u⟩, hfe, hu⟩ : ∃ x, findE (f, c) V.ea 0 = some x ∧ x.2 = encC m.ch := by
      cases hz : findE (f, c) V.ea 0 with
      | none => rw [hz] at hat; cases hat
      | some x => rw [hz] at hat; exact ⟨x, rfl, by simpa using hat⟩
    dsimp only at hu
    subst hu
    refine HV_of (v := .tuple #[encC m.ch, .bool true]) (fun w' hw => by rw [hlk w' hw, hfe]; try rfl) ?_
    refine HV_of (v := encC m.ch) (fun _ _ => rfl) (HV_of (v := .bool true) (fun _ _ => rfl) ?_)
    refine al_k (cs := #[strV [], .int .i64 0, .int .i64 0]) zC_z rfl _ fun w3 hb3 hm3 hz3 => ⟨hd.trans hm3, ?_⟩
    refine stS (cs := #[strV m.key, .int .i64 m.frm, .int .i64 m.to]) (old := #[strV [], .int .i64 0, .int .i64 0]) rfl rfl (by kernel_rfl) rfl (by simp [Value.oneCell', strV]) hb3 fun w4 hb4 hm4 hz4 => ⟨(hd.trans hm3).then hm4 fun i hi q => by omega, ?_⟩
    try rw [sq_n]
    exact key _ wd.heap.size w4 rfl rfl rfl ((hd.trans hm3).then hm4 fun i hi q => by omega) (fun m' z => by rw [hq] at z; cases z; exact ⟨rfl, hb4⟩) (fun z => by rw [hq] at z; cases z)
end
end Go.Proofs.Ytmnkedgmpbcicaa.Que
set_option linter.unusedVariables false
set_option linter.unusedSimpArgs false
set_option maxRecDepth 4000
namespace Go.Proofs.Ytmnkedgmpbcicaa.Que
open Go Go.X Go.RowKit Go.Proofs.Ytmnkedgmpbcicaa.XF Go.Proofs.Ytmnkedgmpbcicaa.XK
theorem rtCT {P : Program} {w : World} {t ty : TypeId} {d : TypeDesc} {b i j : Nat} {cs : Array Value} {R : Value → World → Prop} {ρ : Sl} (hx : ρ i = .pointer (some ⟨b, 0, none⟩)) (hu : P.underlying t = some d) (hd : (match d with | .struct _ | .array _ _ => true | _ => false) = true) (hi : (P.info? t).map (·.size) = some cs.size) (hb : w.heap[b]? = some (.cells cs ty (0, 0))) (hk : R (.tuple #[.agg cs, ρ j]) w) :
    retK P [ResultVar.cell i t, ResultVar.tmp j] R .ret ρ w := by
  show ∃ v, (do loadVar t (← asAddr (ρ i)) : Sem Value).run P w = .ok v w ∧ R (.tuple #[v, ρ j]) w
  rw [hx]
  exact ⟨_, res_ld (run_ldB hu hd hi hb), hk⟩
section
variable {w : World} {p : Nat} {l : List Ms} {V : QV}
def msb (o : Option Ms) : Value := match o with | some m => .tuple #[.agg m.enc.toArray, .bool true] | none => .tuple #[.agg zMs.enc.toArray, .bool false]
theorem look_row (h : QAt w p l V) (c : Ch) : ∃ v, (∀ w', Mod none_ w w' → (Instr.lookup 86 (.map (some V.rb)) (encC c) false).run Try.prog w' = .ok v w') ∧ MsRow w v (rowOf l c) := by
  cases hf : findE c V.er 0 with
  | none =>
    refine ⟨.slice none 0 0, fun w' hw => by rw [run_look KC uR (h.calm hw).rm zR_z c false, hf]; try rfl, ?_⟩
    have : rowOf l c = [] := by
      refine List.filter_eq_nil_iff.2 fun m hm q => ?_
      obtain ⟨e, he, hk⟩ := h.inv.cov m hm
      exact findE_none.1 hf e he (hk.trans (by simpa using q))
    rw [this]; exact reads_nil _ _
  | some x =>
    obtain ⟨i, u⟩ := x
    obtain ⟨e, he, hk, hv⟩ := findE_at hf
    refine ⟨u, fun w' hw => by rw [run_look KC uR (h.calm hw).rm zR_z c false, hf]; try rfl, ?_⟩
    have := reads_of_owns (h.rows e (List.mem_of_getElem? he))
    rw [hk, hv] at this
    exact this
def fits (tag : Int) (m : Ms) : Bool := !m.taken && (decide (tag = -1) || decide (tag = m.tag))
def firstV (l : List Ms) (c : Ch) (tag : Int) : Option Ms := (rowOf l c).find? (fits tag)
theorem First_ok (h : QAt w p l V) (hL : l.length ≤ 1000000) (k : List UInt8) (f t tag : Int) : Rt Try.prog 63 #[.pointer (some ⟨p, 0, none⟩), strV k, .int .i64 f, .int .i64 t, .int .i64 tag] w fun v w' => v = msb (firstV l (k, f, t) tag) ∧ Mod none_ w w' := by
  refine queue_Queue_First_calls ?_
  unfold queue_Queue_First_F
  refine al_k (cs := zMs.enc.toArray) zMs_z rfl _ fun w1 hb1 hm1 hz1 => ?_
  have h1 := h.calm hm1
  refine CK_st Try.func49 rfl rfl (none_ok h1) ?_
  rintro _ w2 ⟨rfl, rfl⟩
  refine condF ?_
  rw [NK_ptr, (f_rows h1).e, build_ok (cs := #[strV k, .int .i64 f, .int .i64 t]) (by kernel_rfl)]
  obtain ⟨v, hlook, hrow⟩ := look_row h1 (k, f, t)
  refine VK_of (hlook w2 (Mod.refl _ _)) ?_
  have hlr := row_len l (k, f, t)
  unfold firstV
  generalize hR : rowOf l (k, f, t) = row at *
  obtain ⟨A, cc, es, _⟩ := reads_cap hrow
  rw [es, len_sl vMsS, ← es]
  refine W_loop queue_Queue_First_L0_ok (fun ρ w' => ∃ n : Nat, n ≤ row.length ∧ ρ 27 = .int .i64 n ∧ ρ 26 = .int .i64 row.length ∧ ρ 25 = v ∧ ρ 4 = .int .i64 tag ∧ ρ 10 = .pointer (some ⟨w.heap.size, 0, none⟩) ∧ (∀ a ∈ row.take n, fits tag a = false) ∧ Mod none_ w2 w') (fun ρ _ => row.length - (intOf (ρ 27)).toNat)
    ⟨0, Nat.zero_le _, rfl, rfl, rfl, rfl, rfl, by simp, Mod.refl _ _⟩ ?_
  rintro ρ w3 ⟨n, hn, e27, e26, e25, e4, e10, hno, hm3⟩
  rw [queue_Queue_First_L0_eq]; unfold queue_Queue_First_L0_F
  rw [e27, e26, e25, e4, e10, BK_lss]
  have hb3 := hm3.blk hb1 id
  by_cases hlt : n < row.length
  · rw [decide_eq_true (by omega)]
    refine condT ?_
    have hx : row[n]? = some row[n] := List.getElem?_eq_getElem hlt
    generalize hmm : row[n] = m at *
    refine ixMs (hrow.calm hm3) hx rfl fun x => ?_
    refine al_k (cs := zMs.enc.toArray) zMs_z rfl _ fun w4 hb4 hm4 hz4 => ?_
    refine stS (cs := m.enc.toArray) (old := zMs.enc.toArray) rfl rfl (by rw [iMs]; rfl) rfl (Ms.enc_one _) hb4 fun w5 hb5 hm5 hz5 => ?_
    have g7 : FO Try.prog w5 tMs 7 7 ⟨w3.heap.size, 0, none⟩ 4 (.bool m.taken) := FO.blk hb5 (by kernel_rfl) vB rfl rfl
    have g4 : FO Try.prog w5 tMs 4 4 ⟨w3.heap.size, 0, none⟩ 3 (.int .i64 m.tag) := FO.blk hb5 (by kernel_rfl) vI rfl rfl
    have hm35 : Mod none_ w3 w5 := hm4.fresh hm5 (by omega)
    have s3 := hm3.size
    have s1 := hm1.size
    have hb5' := hm35.blk hb3 id
    rw [g7.e, not_ok]
    have no : fits tag m = false → (∃ n' : Nat, n' ≤ row.length ∧ (Value.int .i64 ((n : Int) + 1)) = .int .i64 n' ∧ (∀ a ∈ row.take n', fits tag a = false)) := fun hf => ⟨n + 1, hlt, rfl, by
      rw [List.take_add_one, hx, Option.toList_some]
      intro a q
      rcases List.mem_append.1 q with q | q
      · exact hno a q
      · rw [List.mem_singleton.1 q]; exact hf⟩
    have yes2 : ∀ {K : Value → World → Prop}, fits tag m = true → (∀ x w6, (∀ ρ' : Sl, ρ' 10 = .pointer (some ⟨w.heap.size, 0, none⟩) → ρ' 11 = .bool true → retK Try.prog [ResultVar.cell 10 tMs, ResultVar.tmp 11] (fun v w' => v = msb (row.find? (fits tag)) ∧ Mod none_ w w') .ret ρ' w6) → K x w6) → VK Try.prog (Instr.loadAt tMs (.pointer (some ⟨w3.heap.size, 0, none⟩))) w5 fun x44 w_1 => UK Try.prog (Instr.storeAt tMs (.pointer (some ⟨w.heap.size, 0, none⟩)) x44) w_1 fun _ w6 => K x44 w6 := fun {K} hf hK => by
      refine ldS rfl Try.underlying39 rfl (by rw [iMs]; rfl) hb5 ?_
      refine stS (cs := m.enc.toArray) (old := zMs.enc.toArray) rfl rfl (by rw [iMs]; rfl) rfl (Ms.enc_one _) hb5' fun w6 hb6 hm6 hz6 => ?_
      refine hK _ w6 fun ρ' q10 q11 => ?_
      refine rtCT q10 Try.underlying39 rfl (by rw [iMs]; rfl) hb6 ⟨?_, (((hm1.trans hm3).trans hm35).fresh hm6 (by omega))⟩
      rw [q11]
      have : row.find? (fits tag) = some m := by
        rw [List.find?_eq_some_iff_getElem]
        exact ⟨hf, n, hlt, hmm, fun j hj => by
          have := hno row[j] (List.mem_take_iff_getElem.2 ⟨j, by omega, rfl⟩)
          simp [this]⟩
      rw [this]; rfl
    cases ht : m.taken with
    | true =>
      have hf : fits tag m = false := by simp [fits, ht]
      obtain ⟨n', a1, a2, a3⟩ := no hf
      simp only [Bool.not_true, ↓VG_u, ↓UG_u, ↓MG_u, ↓NG_u, ↓PG_u, ↓BG_u, ↓CG_u, ↓IG_u, ↓VGtt, ↓VGtf, ↓VGft, ↓VGff, ↓UGtt, ↓UGtf, ↓UGft, ↓UGff, ↓MGtt, ↓MGtf, ↓MGft, ↓MGff, ↓NGtt, ↓NGtf, ↓NGft, ↓NGff, ↓PGtt, ↓PGtf, ↓PGft, ↓PGff, ↓BGtt, ↓BGtf, ↓BGft, ↓BGff, ↓CGtt, ↓CGtf, ↓CGft, ↓CGff, ↓IGtt, ↓IGtf, ↓IGft, ↓IGff, ↓PKt, ↓PKf, ↓CDt, ↓CDf, ↓NOTt, ↓NOTf, ↓NK_ptr]
      rw [BK_add, wrap_i (n := (n : Int) + 1) (by omega) (by omega)]
      refine ⟨⟨n', a1, a2, e26, e25, e4, e10, a3, hm3.trans hm35⟩, ?_⟩
      simp only [sq_n, sq_x, sq_r, bk_n, bk_r, bk_x, rt_r, rt_n, rs_0, rs_t, pk_1, pk_2, up_at, reduceIte, Nat.reduceEqDiff, intOf]; omega
    | false =>
      simp only [Bool.not_false, ↓VG_u, ↓UG_u, ↓MG_u, ↓NG_u, ↓PG_u, ↓BG_u, ↓CG_u, ↓IG_u, ↓VGtt, ↓VGtf, ↓VGft, ↓VGff, ↓UGtt, ↓UGtf, ↓UGft, ↓UGff, ↓MGtt, ↓MGtf, ↓MGft, ↓MGff, ↓NGtt, ↓NGtf, ↓NGft, ↓NGff, ↓PGtt, ↓PGtf, ↓PGft, ↓PGff, ↓BGtt, ↓BGtf, ↓BGft, ↓BGff, ↓CGtt, ↓CGtf, ↓CGft, ↓CGff, ↓IGtt, ↓IGtf, ↓IGft, ↓IGff, ↓PKt, ↓PKf, ↓CDt, ↓CDf, ↓NOTt, ↓NOTf, ↓NK_ptr]
      by_cases c1 : tag = -1
      · have hf : fits tag m = true := by simp [fits, ht, c1]
        simp only [↓VG_u, ↓UG_u, ↓MG_u, ↓NG_u, ↓PG_u, ↓BG_u, ↓CG_u, ↓IG_u, ↓VGtt, ↓VGtf, ↓VGft, ↓VGff, ↓UGtt, ↓UGtf, ↓UGft, ↓UGff, ↓MGtt, ↓MGtf, ↓MGft, ↓MGff, ↓NGtt, ↓NGtf, ↓NGft, ↓NGff, ↓PGtt, ↓PGtf, ↓PGft, ↓PGff, ↓BGtt, ↓BGtf, ↓BGft, ↓BGff, ↓CGtt, ↓CGtf, ↓CGft, ↓CGff, ↓IGtt, ↓IGtf, ↓IGft, ↓IGff, ↓PKt, ↓PKf, ↓CDt, ↓CDf, ↓NOTt, ↓NOTf, ↓NK_ptr, ↓EQt c1]
        refine yes2 hf fun x w6 h6 => ?_
        exact h6 _ (by first | rfl | exact e10) rfl
      · simp only [↓VG_u, ↓UG_u, ↓MG_u, ↓NG_u, ↓PG_u, ↓BG_u, ↓CG_u, ↓IG_u, ↓VGtt, ↓VGtf, ↓VGft, ↓VGff, ↓UGtt, ↓UGtf, ↓UGft, ↓UGff, ↓MGtt, ↓MGtf, ↓MGft, ↓MGff, ↓NGtt, ↓NGtf, ↓NGft, ↓NGff, ↓PGtt, ↓PGtf, ↓PGft, ↓PGff, ↓BGtt, ↓BGtf, ↓BGft, ↓BGff, ↓CGtt, ↓CGtf, ↓CGft, ↓CGff, ↓IGtt, ↓IGtf, ↓IGft, ↓IGff, ↓PKt, ↓PKf, ↓CDt, ↓CDf, ↓NOTt, ↓NOTf, ↓NK_ptr, ↓EQf c1]
        rw [g4.e]
        try simp only [↓VG_u, ↓UG_u, ↓MG_u, ↓NG_u, ↓PG_u, ↓BG_u, ↓CG_u, ↓IG_u, ↓VGtt, ↓VGtf, ↓VGft, ↓VGff, ↓UGtt, ↓UGtf, ↓UGft, ↓UGff, ↓MGtt, ↓MGtf, ↓MGft, ↓MGff, ↓NGtt, ↓NGtf, ↓NGft, ↓NGff, ↓PGtt, ↓PGtf, ↓PGft, ↓PGff, ↓BGtt, ↓BGtf, ↓BGft, ↓BGff, ↓CGtt, ↓CGtf, ↓CGft, ↓CGff, ↓IGtt, ↓IGtf, ↓IGft, ↓IGff, ↓PKt, ↓PKf, ↓CDt, ↓CDf, ↓NOTt, ↓NOTf, ↓NK_ptr]
        by_cases c2 : tag = m.tag
        · have hf : fits tag m = true := by simp [fits, ht, c2]
          simp only [↓VG_u, ↓UG_u, ↓MG_u, ↓NG_u, ↓PG_u, ↓BG_u, ↓CG_u, ↓IG_u, ↓VGtt, ↓VGtf, ↓VGft, ↓VGff, ↓UGtt, ↓UGtf, ↓UGft, ↓UGff, ↓MGtt, ↓MGtf, ↓MGft, ↓MGff, ↓NGtt, ↓NGtf, ↓NGft, ↓NGff, ↓PGtt, ↓PGtf, ↓PGft, ↓PGff, ↓BGtt, ↓BGtf, ↓BGft, ↓BGff, ↓CGtt, ↓CGtf, ↓CGft, ↓CGff, ↓IGtt, ↓IGtf, ↓IGft, ↓IGff, ↓PKt, ↓PKf, ↓CDt, ↓CDf, ↓NOTt, ↓NOTf, ↓NK_ptr, ↓EQt c2]
          refine yes2 hf fun x w6 h6 => ?_
          exact h6 _ (by first | rfl | exact e10) rfl
        · have hf : fits tag m = false := by simp [fits, ht, c1, c2]
          obtain ⟨n', a1, a2, a3⟩ := no hf
          simp only [↓VG_u, ↓UG_u, ↓MG_u, ↓NG_u, ↓PG_u, ↓BG_u, ↓CG_u, ↓IG_u, ↓VGtt, ↓VGtf, ↓VGft, ↓VGff, ↓UGtt, ↓UGtf, ↓UGft, ↓UGff, ↓MGtt, ↓MGtf, ↓MGft, ↓MGff, ↓NGtt, ↓NGtf, ↓NGft, ↓NGff, ↓PGtt, ↓PGtf, ↓PGft, ↓PGff, ↓BGtt, ↓BGtf, ↓BGft, ↓BGff, ↓CGtt, ↓CGtf, ↓CGft, ↓CGff, ↓IGtt, ↓IGtf, ↓IGft, ↓IGff, ↓PKt, ↓PKf, ↓CDt, ↓CDf, ↓NOTt, ↓NOTf, ↓NK_ptr, ↓EQf c2]
          rw [BK_add, wrap_i (n := (n : Int) + 1) (by omega) (by omega)]
          refine ⟨⟨n', a1, a2, e26, e25, e4, e10, a3, hm3.trans hm35⟩, ?_⟩
          simp only [sq_n, sq_x, sq_r, bk_n, bk_r, bk_x, rt_r, rt_n, rs_0, rs_t, pk_1, pk_2, up_at, reduceIte, Nat.reduceEqDiff, intOf]; omega
  · obtain rfl : n = row.length := by omega
    rw [decide_eq_false (by omega)]
    refine condF ?_
    rw [sq_x, bk_x, sq_n, queue_Queue_First_R1_eq]; unfold queue_Queue_First_R1_F
    rw [build_ok zMs_b]
    have e10' : (up ρ 28 (Value.bool false)) 10 = .pointer (some ⟨w.heap.size, 0, none⟩) := e10
    rw [e10']
    have s1 := hm1.size
    refine stS (cs := zMs.enc.toArray) (old := zMs.enc.toArray) rfl rfl (by rw [iMs]; rfl) rfl (Ms.enc_one _) hb3 fun w6 hb6 hm6 hz6 => ?_
    refine rtCT e10 Try.underlying39 rfl (by rw [iMs]; rfl) hb6 ⟨?_, ((hm1.trans hm3).fresh hm6 (by omega))⟩
    rw [List.take_length] at hno
    rw [List.find?_eq_none.2 (fun a ha => by rw [hno a ha]; decide)]
    rfl
end
end Go.Proofs.Ytmnkedgmpbcicaa.Que
set_option linter.unusedVariables false
set_option linter.unusedSimpArgs false
set_option maxRecDepth 4000
namespace Go.X
open Go Go.RowKit
def tk (f c : Int) (m : Ms) : Ms := if m.isAt f c then { m with taken := true } else m
theorem tk_ch (f c : Int) (m : Ms) : (tk f c m).ch = m.ch := by unfold tk; split <;> rfl
theorem tk_frm (f c : Int) (m : Ms) : (tk f c m).frm = m.frm := by unfold tk; split <;> rfl
theorem tk_call (f c : Int) (m : Ms) : (tk f c m).call = m.call := by unfold tk; split <;> rfl
theorem tk_isAt (f c f' c' : Int) (m : Ms) : (tk f c m).isAt f' c' = m.isAt f' c' := by unfold Ms.isAt; rw [tk_frm, tk_call]
def takeV (l : List Ms) (f c : Int) : List Ms × Int :=
  match l.find? (Ms.isAt f c) with
  | none => (l, 2)
  | some m => if m.taken then (l, 2) else (l.map (tk f c), 0)
theorem row_map (l : List Ms) (f c : Int) (k : Ch) : rowOf (l.map (tk f c)) k = (rowOf l k).map (tk f c) := by
  unfold rowOf
  rw [List.filter_map]
  congr 1
  refine List.filter_congr fun m _ => ?_
  simp [tk_ch]
theorem row_other {l : List Ms} (hu : l.Pairwise fun a b => ¬ (a.frm = b.frm ∧ a.call = b.call)) {m : Ms} {f c : Int} (hm : l.find? (Ms.isAt f c) = some m) {k : Ch} (hk : k ≠ m.ch) : rowOf (l.map (tk f c)) k = rowOf l k := by
  rw [row_map]
  refine (List.map_congr_left fun x hx => ?_).trans (List.map_id' _)
  unfold tk
  rw [if_neg]
  intro q
  obtain ⟨hx1, hx2⟩ := mem_row.1 hx
  obtain ⟨a, b⟩ := isAt_iff.1 q
  obtain ⟨a', b'⟩ := isAt_iff.1 (List.find?_some hm)
  have := uniq_mem hu hx1 (List.mem_of_find?_eq_some hm) (a.trans a'.symm) (b.trans b'.symm)
  subst this
  exact hk hx2.symm
theorem row_set {l : List Ms} (hu : l.Pairwise fun a b => ¬ (a.frm = b.frm ∧ a.call = b.call)) {m : Ms} {f c : Int} (hm : l.find? (Ms.isAt f c) = some m) {j : Nat} (hj : (rowOf l m.ch)[j]? = some m) : rowOf (l.map (tk f c)) m.ch = (rowOf l m.ch).set j { m with taken := true } := by
  rw [row_map]
  have hat := List.find?_some hm
  have hur : (rowOf l m.ch).Pairwise fun a b => ¬ (a.frm = b.frm ∧ a.call = b.call) := hu.filter _
  apply List.ext_getElem?
  intro i
  rw [List.getElem?_map, List.getElem?_set]
  by_cases e : j = i
  · subst e
    rw [hj, if_pos rfl, if_pos (List.getElem?_eq_some_iff.1 hj).1]
    simp [tk, hat]
  · rw [if_neg e]
    cases hi : (rowOf l m.ch)[i]? with
    | none => rfl
    | some x =>
      simp only [Option.map_some]
      congr 1
      unfold tk
      rw [if_neg]
      intro q
      obtain ⟨a, b⟩ := isAt_iff.1 q
      obtain ⟨a', b'⟩ := isAt_iff.1 hat
      obtain ⟨hi1, hi2⟩ := List.getElem?_eq_some_iff.1 hi
      obtain ⟨hj1, hj2⟩ := List.getElem?_eq_some_iff.1 hj
      rcases Nat.lt_trichotomy i j with z | z | z
      · exact List.pairwise_iff_getElem.1 hur i j hi1 hj1 z ⟨by rw [hi2, hj2]; exact a.trans a'.symm, by rw [hi2, hj2]; exact b.trans b'.symm⟩
      · exact e z.symm
      · exact List.pairwise_iff_getElem.1 hur j i hj1 hi1 z ⟨by rw [hi2, hj2]; exact (a.trans a'.symm).symm, by rw [hi2, hj2]; exact (b.trans b'.symm).symm⟩
theorem QInv.take {l : List Ms} {V : QV} (h : QInv l V) (f c : Int) : QInv (l.map (tk f c)) V := by
  refine ⟨h.rk, h.rb, h.rc, fun m hm => ?_, h.dist, fun k => ?_, ?_, h.ak, h.abn, h.ac⟩
  · obtain ⟨x, hx, rfl⟩ := List.mem_map.1 hm
    obtain ⟨e, he, hk⟩ := h.cov x hx
    exact ⟨e, he, by rw [hk, tk_ch]⟩
  · rw [h.at_ k, List.find?_map]
    have : (Ms.isAt k.1 k.2 ∘ tk f c) = Ms.isAt k.1 k.2 := by funext m; exact tk_isAt _ _ _ _ _
    rw [this, Option.map_map]
    congr 1
    funext m
    simp [tk_ch]
  · rw [List.pairwise_map]
    refine h.uniq.imp fun {a b} q => ?_
    rw [tk_frm, tk_frm, tk_call, tk_call]
    exact q
def badM (m : Ms) : Bool := m.taken || !(decide (0 ≤ m.frm) && decide (m.frm ≤ 63)) || !(decide (0 ≤ m.to) && decide (m.to ≤ 63)) || decide (m.call < 0) || !(decide (0 ≤ m.tag) && decide (m.tag ≤ 32767)) || !(decide (1 ≤ m.size) && decide (m.size ≤ 64))
def sendV (l : List Ms) (m : Ms) : List Ms × Int := if (l.find? (Ms.isAt m.frm m.call)).isSome || badM m then (l, 2) else (l ++ [m], 0)
theorem row_app (l : List Ms) (m : Ms) (k : Ch) : rowOf (l ++ [m]) k = rowOf l k ++ (if m.ch = k then [m] else []) := by
  unfold rowOf
  rw [List.filter_append]
  congr 1
  by_cases h : m.ch = k <;> simp [h]
theorem findE_app {κ : Type} [DecidableEq κ] {k : κ} {e : Ent κ} : ∀ {l : List (Ent κ)} {n : Nat}, findE k (l ++ [e]) n = match findE k l n with | some x => some x | none => if k = e.k then some (n + l.length, e.v) else none
  | [], n => by simp [findE]
  | a :: r, n => by
    simp only [List.cons_append, findE]
    by_cases h : k = a.k
    · simp [h]
    · simp only [h, if_false]
      rw [findE_app (l := r) (n := n + 1)]
      cases findE k r (n + 1) with
      | none => simp only [List.length_cons]; congr 1; congr 1; simp; omega
      | some x => rfl
theorem QInv.entry {l : List Ms} {V : QV} (h : QInv l V) {k : Ch} (hf : findE k V.er 0 = none) : QInv l { V with er := V.er ++ [⟨k, .slice none 0 0, V.c1⟩], c1 := V.c1 + 1 } := by
  have hno := findE_none.1 hf
  have get : ∀ (i : Nat) (a : Ent Ch), (V.er ++ [⟨k, .slice none 0 0, V.c1⟩])[i]? = some a → V.er[i]? = some a ∨ i = V.er.length ∧ a = ⟨k, .slice none 0 0, V.c1⟩ := fun i a hi => by
    rcases Nat.lt_or_ge i V.er.length with q | q
    · rw [List.getElem?_append_left q] at hi; exact .inl hi
    · rw [List.getElem?_append_right q] at hi
      have : i - V.er.length = 0 := by
        rcases Nat.eq_zero_or_pos (i - V.er.length) with z | z
        · exact z
        · rw [List.getElem?_eq_none (by simp only [List.length_cons, List.length_nil]; omega)] at hi; cases hi
      rw [this] at hi
      exact .inr ⟨by omega, by simpa using hi.symm⟩
  have lt : ∀ (i : Nat) (a : Ent Ch), V.er[i]? = some a → i < V.er.length := fun i a hi => (List.getElem?_eq_some_iff.1 hi).1
  refine ⟨fun i j a b hi hj hk => ?_, fun i j a b hi hj hk => ?_, fun e he => ?_, fun m hm => ?_, fun i j a b hi hj hij g ha hb => ?_, h.at_, h.uniq, h.ak, h.abn, h.ac⟩
  · rcases get i a hi with q | ⟨q, rfl⟩ <;> rcases get j b hj with z | ⟨z, rfl⟩
    · exact h.rk i j a b q z hk
    · exact absurd hk (hno a (List.mem_of_getElem? q))
    · exact absurd hk.symm (hno b (List.mem_of_getElem? z))
    · omega
  · rcases get i a hi with q | ⟨q, rfl⟩ <;> rcases get j b hj with z | ⟨z, rfl⟩
    · exact h.rb i j a b q z hk
    · have := h.rc a (List.mem_of_getElem? q); dsimp only at hk; omega
    · have := h.rc b (List.mem_of_getElem? z); dsimp only at hk; omega
    · omega
  · rcases List.mem_append.1 he with q | q
    · have := h.rc e q; dsimp only; omega
    · rw [List.mem_singleton.1 q]; dsimp only; omega
  · obtain ⟨e, he, hk⟩ := h.cov m hm
    exact ⟨e, List.mem_append_left _ he, hk⟩
  · rcases get i a hi with q | ⟨q, rfl⟩ <;> rcases get j b hj with z | ⟨z, rfl⟩
    · exact h.dist i j a b q z hij g ha hb
    · cases hb
    · cases ha
    · omega
theorem app_get {α : Type} {l : List α} {x : α} {i : Nat} {a : α} (hi : (l ++ [x])[i]? = some a) : l[i]? = some a ∨ i = l.length ∧ a = x := by
  rcases Nat.lt_or_ge i l.length with q | q
  · rw [List.getElem?_append_left q] at hi; exact .inl hi
  · rw [List.getElem?_append_right q] at hi
    have : i - l.length = 0 := by
      rcases Nat.eq_zero_or_pos (i - l.length) with z | z
      · exact z
      · rw [List.getElem?_eq_none (by simp only [List.length_cons, List.length_nil]; omega)] at hi; cases hi
    rw [this] at hi
    exact .inr ⟨by omega, by simpa using hi.symm⟩
theorem QInv.send {l : List Ms} {V : QV} (h : QInv l V) {m : Ms} (hn : l.find? (Ms.isAt m.frm m.call) = none) {i : Nat} {e : Ent Ch} (hi : V.er[i]? = some e) (hk : e.k = m.ch) {v' : Value} {B : Nat} (hv : ∀ g, sb v' g → sb e.v g ∨ B ≤ g) (hB : ∀ a ∈ V.er, ∀ g, sb a.v g → g < B) :
    QInv (l ++ [m]) { V with er := V.er.modify i fun e => ⟨e.k, v', e.b⟩, ea := V.ea ++ [⟨(m.frm, m.call), encC m.ch, V.c2⟩], c2 := V.c2 + 1 } := by
  have get : ∀ (j : Nat) (a : Ent Ch), (V.er.modify i fun e => ⟨e.k, v', e.b⟩)[j]? = some a → ∃ b, V.er[j]? = some b ∧ a.k = b.k ∧ a.b = b.b ∧ (j ≠ i ∧ a = b ∨ j = i ∧ a.v = v') := fun j a hj => by
    rw [List.getElem?_modify] at hj
    by_cases q : i = j
    · subst q
      rw [hi] at hj
      simp at hj
      subst hj
      exact ⟨e, hi, rfl, rfl, .inr ⟨rfl, rfl⟩⟩
    · simp [q] at hj
      exact ⟨a, hj, rfl, rfl, .inl ⟨fun z => q z.symm, rfl⟩⟩
  have hno : ∀ x ∈ l, ¬ (x.frm = m.frm ∧ x.call = m.call) := fun x hx q => by
    have := List.find?_eq_none.1 hn x hx
    exact this (isAt_iff.2 q)
  have hfe : findE (m.frm, m.call) V.ea 0 = none := by
    have := h.at_ (m.frm, m.call)
    rw [hn] at this
    simpa using this
  have hnk := findE_none.1 hfe
  refine ⟨fun a b x y ha hb q => ?_, fun a b x y ha hb q => ?_, fun x hx => ?_, fun x hx => ?_, fun a b x y ha hb hab g hx hy => ?_, fun k => ?_, ?_, fun a b x y ha hb q => ?_, fun a b x y ha hb q => ?_, fun x hx => ?_⟩
  · obtain ⟨x', hx', e1, _, _⟩ := get a x ha
    obtain ⟨y', hy', e2, _, _⟩ := get b y hb
    exact h.rk a b x' y' hx' hy' (by rw [← e1, ← e2, q])
  · obtain ⟨x', hx', _, e1, _⟩ := get a x ha
    obtain ⟨y', hy', _, e2, _⟩ := get b y hb
    exact h.rb a b x' y' hx' hy' (by rw [← e1, ← e2, q])
  · obtain ⟨a, ha, rfl⟩ := List.mem_iff_getElem.1 hx
    obtain ⟨x', hx', _, e1, _⟩ := get a _ (List.getElem?_eq_getElem ha)
    rw [e1]
    exact h.rc x' (List.mem_of_getElem? hx')
  · have ex : ∀ x : Ent Ch, x ∈ V.er → ∃ y ∈ V.er.modify i (fun e => ⟨e.k, v', e.b⟩), y.k = x.k := fun x hx => by
      obtain ⟨a, ha, rfl⟩ := List.mem_iff_getElem.1 hx
      refine ⟨(V.er.modify i fun e => ⟨e.k, v', e.b⟩)[a]'(by rw [List.length_modify]; exact ha), List.getElem_mem _, ?_⟩
      rw [List.getElem_modify]
      split <;> rfl
    rcases List.mem_append.1 hx with q | q
    · obtain ⟨y, hy, z⟩ := h.cov x q
      obtain ⟨y', hy', z'⟩ := ex y hy
      exact ⟨y', hy', z'.trans z⟩
    · rw [List.mem_singleton.1 q]
      obtain ⟨y', hy', z'⟩ := ex e (List.mem_of_getElem? hi)
      exact ⟨y', hy', z'.trans hk⟩
  · obtain ⟨x', hx', _, _, px⟩ := get a x ha
    obtain ⟨y', hy', _, _, py⟩ := get b y hb
    rcases px with ⟨a1, rfl⟩ | ⟨rfl, a1⟩ <;> rcases py with ⟨b1, rfl⟩ | ⟨rfl, b1⟩
    · exact h.dist a b x y hx' hy' hab g hx hy
    · rw [b1] at hy
      rw [hi] at hy'; cases hy'
      rcases hv g hy with z | z
      · exact h.dist a b x e hx' hi hab g hx z
      · have := hB x (List.mem_of_getElem? hx') g hx; omega
    · rw [a1] at hx
      rw [hi] at hx'; cases hx'
      rcases hv g hx with z | z
      · exact h.dist a b e y hi hy' hab g z hy
      · have := hB y (List.mem_of_getElem? hy') g hy; omega
    · exact hab rfl
  · dsimp only
    rw [findE_app, List.find?_append]
    have h0 := h.at_ k
    cases hq : findE k V.ea 0 with
    | some x =>
      rw [hq] at h0
      cases hz : l.find? (Ms.isAt k.1 k.2) with
      | none => rw [hz] at h0; cases h0
      | some y => rw [hz] at h0; simpa using h0
    | none =>
      rw [hq] at h0
      cases hz : l.find? (Ms.isAt k.1 k.2) with
      | some y => rw [hz] at h0; cases h0
      | none =>
        simp only [Option.none_or]
        by_cases c : k = (m.frm, m.call)
        · subst c
          simp [Ms.isAt]
        · have : Ms.isAt k.1 k.2 m = false := by
            cases hb : Ms.isAt k.1 k.2 m with
            | false => rfl
            | true =>
              obtain ⟨q1, q2⟩ := isAt_iff.1 hb
              exact absurd (Prod.ext q1.symm q2.symm) c
          simp [c, this]
  · rw [List.pairwise_append]
    exact ⟨h.uniq, by simp, fun a ha b hb => by rw [List.mem_singleton.1 hb]; exact hno a ha⟩
  · rcases app_get ha with z | ⟨z, rfl⟩ <;> rcases app_get hb with y' | ⟨y', rfl⟩
    · exact h.ak a b x y z y' q
    · exact absurd q (hnk x (List.mem_of_getElem? z))
    · exact absurd q.symm (hnk y (List.mem_of_getElem? y'))
    · omega
  · rcases app_get ha with z | ⟨z, rfl⟩ <;> rcases app_get hb with y' | ⟨y', rfl⟩
    · exact h.abn a b x y z y' q
    · have := h.ac x (List.mem_of_getElem? z); dsimp only at q; omega
    · have := h.ac y (List.mem_of_getElem? y'); dsimp only at q; omega
    · omega
  · rcases List.mem_append.1 hx with z | z
    · have := h.ac x z; dsimp only; omega
    · rw [List.mem_singleton.1 z]; dsimp only; omega
end Go.X
set_option linter.unusedVariables false
set_option linter.unusedSimpArgs false
set_option maxRecDepth 4000
namespace Go.Proofs.Ytmnkedgmpbcicaa.Que
open Go Go.X Go.RowKit Go.Proofs.Ytmnkedgmpbcicaa.XF Go.Proofs.Ytmnkedgmpbcicaa.XK
section
variable {w : World} {p : Nat} {l : List Ms} {V : QV}
theorem Take_ok (h : QAt w p l V) (hL : l.length ≤ 1000000) (f c : Int) : Rt Try.prog 45 #[.pointer (some ⟨p, 0, none⟩), .int .i64 f, .int .i64 c] w fun v w' => v = .int .i64 (takeV l f c).2 ∧ QAt w' p (takeV l f c).1 V ∧ QFr p w V w' V := by
  refine queue_Queue_Take_calls ?_
  unfold queue_Queue_Take_F
  refine CK_st Try.func49 rfl rfl (none_ok h) ?_
  rintro _ w1 ⟨rfl, rfl⟩
  refine condF ?_
  refine CK_st Try.func69 rfl rfl (find_ok h hL f c) ?_
  rintro _ w2 ⟨hF, hm2⟩
  have h2 := h.calm hm2
  unfold FindP at hF
  unfold takeV
  cases hq : l.find? (Ms.isAt f c) with
  | none =>
    rw [hq] at hF
    subst hF
    rw [extract_ok (v := .slice none 0 0) rfl, extract_ok (v := .int .i64 (-1)) rfl]
    simp only [↓VG_u, ↓UG_u, ↓MG_u, ↓NG_u, ↓PG_u, ↓BG_u, ↓CG_u, ↓IG_u, ↓VGtt, ↓VGtf, ↓VGft, ↓VGff, ↓UGtt, ↓UGtf, ↓UGft, ↓UGff, ↓MGtt, ↓MGtf, ↓MGft, ↓MGff, ↓NGtt, ↓NGtf, ↓NGft, ↓NGff, ↓PGtt, ↓PGtf, ↓PGft, ↓PGff, ↓BGtt, ↓BGtf, ↓BGft, ↓BGff, ↓CGtt, ↓CGtf, ↓CGft, ↓CGff, ↓IGtt, ↓IGtf, ↓IGft, ↓IGff, ↓PKt, ↓PKf, ↓CDt, ↓CDf, ↓NOTt, ↓NOTf, ↓NK_ptr, ↓LTt (show (-1 : Int) < 0 by decide)]
    exact ⟨by trivial, h2, QFr.calm hm2⟩
  | some m =>
    rw [hq] at hF
    obtain ⟨e, hem, hek, j, hj, rfl⟩ := hF
    rw [extract_ok (v := e.v) rfl, extract_ok (v := .int .i64 (j : Int)) rfl]
    simp only [↓VG_u, ↓UG_u, ↓MG_u, ↓NG_u, ↓PG_u, ↓BG_u, ↓CG_u, ↓IG_u, ↓VGtt, ↓VGtf, ↓VGft, ↓VGff, ↓UGtt, ↓UGtf, ↓UGft, ↓UGff, ↓MGtt, ↓MGtf, ↓MGft, ↓MGff, ↓NGtt, ↓NGtf, ↓NGft, ↓NGff, ↓PGtt, ↓PGtf, ↓PGft, ↓PGff, ↓BGtt, ↓BGtf, ↓BGft, ↓BGff, ↓CGtt, ↓CGtf, ↓CGft, ↓CGff, ↓IGtt, ↓IGtf, ↓IGft, ↓IGff, ↓PKt, ↓PKf, ↓CDt, ↓CDf, ↓NOTt, ↓NOTf, ↓NK_ptr, ↓LTf (show (0 : Int) ≤ (j : Int) by omega)]
    have hown := h2.rows e hem
    rw [hek] at hown
    have hrow : MsRow w2 e.v (rowOf l m.ch) := reads_of_owns hown
    have hjl := (List.getElem?_eq_some_iff.1 hj).1
    obtain ⟨g, cap, ev, cur, hcur⟩ := owns_some hown (by omega)
    have hg : sb e.v g := by rw [ev]; rfl
    -- the place is known
    have ixg : ∀ {K : Value → World → Prop}, K (.pointer (some ⟨g, j * 8, none⟩)) w2 → VK Try.prog (Instr.indexAt tMsS e.v (.int .i64 (j : Int))) w2 K := fun {K} hK => by
      rw [ev]
      refine VK_of (run_ixa vMsS cMs (by omega) (by omega) w2) ?_
      rw [add_pl, Nat.zero_add, show ((j : Int)).toNat = j by omega]
      exact hK
    have cell : ∀ k u, m.enc[k]? = some u → w2.cell? ⟨g, j * 8 + k, none⟩ = some u := fun k u hu => by
      have hk : k < 7 + 1 := (List.getElem?_eq_some_iff.1 hu).1
      obtain ⟨_, A, cc, es, _, hr⟩ := hrow
      rw [ev] at es; cases es
      obtain ⟨a, ha, hc⟩ := hr (j * (7 + 1) + k) u (by rw [fl_get (k := 7 + 1) Ms.enc_len hj hk]; exact hu)
      cases ha
      rw [add_pl] at hc
      simpa using hc
    refine ixg ?_
    try simp only [↓VG_u, ↓UG_u, ↓MG_u, ↓NG_u, ↓PG_u, ↓BG_u, ↓CG_u, ↓IG_u, ↓VGtt, ↓VGtf, ↓VGft, ↓VGff, ↓UGtt, ↓UGtf, ↓UGft, ↓UGff, ↓MGtt, ↓MGtf, ↓MGft, ↓MGff, ↓NGtt, ↓NGtf, ↓NGft, ↓NGff, ↓PGtt, ↓PGtf, ↓PGft, ↓PGff, ↓BGtt, ↓BGtf, ↓BGft, ↓BGff, ↓CGtt, ↓CGtf, ↓CGft, ↓CGff, ↓IGtt, ↓IGtf, ↓IGft, ↓IGff, ↓PKt, ↓PKf, ↓CDt, ↓CDf, ↓NOTt, ↓NOTf, ↓NK_ptr]
    rw [fo (show fieldOff Try.prog tMs 7 = some 7 by kernel_rfl), add_pl]
    try simp only [↓VG_u, ↓UG_u, ↓MG_u, ↓NG_u, ↓PG_u, ↓BG_u, ↓CG_u, ↓IG_u, ↓VGtt, ↓VGtf, ↓VGft, ↓VGff, ↓UGtt, ↓UGtf, ↓UGft, ↓UGff, ↓MGtt, ↓MGtf, ↓MGft, ↓MGff, ↓NGtt, ↓NGtf, ↓NGft, ↓NGff, ↓PGtt, ↓PGtf, ↓PGft, ↓PGff, ↓BGtt, ↓BGtf, ↓BGft, ↓BGff, ↓CGtt, ↓CGtf, ↓CGft, ↓CGff, ↓IGtt, ↓IGtf, ↓IGft, ↓IGff, ↓PKt, ↓PKf, ↓CDt, ↓CDf, ↓NOTt, ↓NOTf, ↓NK_ptr]
    refine ld1 vB rfl (cell 7 (.bool m.taken) rfl) ?_
    cases ht : m.taken with
    | true =>
      simp only [↓VG_u, ↓UG_u, ↓MG_u, ↓NG_u, ↓PG_u, ↓BG_u, ↓CG_u, ↓IG_u, ↓VGtt, ↓VGtf, ↓VGft, ↓VGff, ↓UGtt, ↓UGtf, ↓UGft, ↓UGff, ↓MGtt, ↓MGtf, ↓MGft, ↓MGff, ↓NGtt, ↓NGtf, ↓NGft, ↓NGff, ↓PGtt, ↓PGtf, ↓PGft, ↓PGff, ↓BGtt, ↓BGtf, ↓BGft, ↓BGff, ↓CGtt, ↓CGtf, ↓CGft, ↓CGff, ↓IGtt, ↓IGtf, ↓IGft, ↓IGff, ↓PKt, ↓PKf, ↓CDt, ↓CDf, ↓NOTt, ↓NOTf, ↓NK_ptr, if_true]
      exact ⟨by trivial, h2, QFr.calm hm2⟩
    | false =>
      simp only [↓VG_u, ↓UG_u, ↓MG_u, ↓NG_u, ↓PG_u, ↓BG_u, ↓CG_u, ↓IG_u, ↓VGtt, ↓VGtf, ↓VGft, ↓VGff, ↓UGtt, ↓UGtf, ↓UGft, ↓UGff, ↓MGtt, ↓MGtf, ↓MGft, ↓MGff, ↓NGtt, ↓NGtf, ↓NGft, ↓NGff, ↓PGtt, ↓PGtf, ↓PGft, ↓PGff, ↓BGtt, ↓BGtf, ↓BGft, ↓BGff, ↓CGtt, ↓CGtf, ↓CGft, ↓CGff, ↓IGtt, ↓IGtf, ↓IGft, ↓IGff, ↓PKt, ↓PKf, ↓CDt, ↓CDf, ↓NOTt, ↓NOTf, ↓NK_ptr, Bool.false_eq_true, if_false]
      refine ixg ?_
      rw [fo (show fieldOff Try.prog tMs 7 = some 7 by kernel_rfl), add_pl]
      rw [ev] at hown
      refine st_row (by kernel_rfl) rfl hown (k := j * 8 + 7) (by omega) fun w3 ho3 hm3 => ?_
      rw [queue_Queue_Take_R0_eq]; unfold queue_Queue_Take_R0_F
      rw [fl_set (k := 7 + 1) Ms.enc_len (r' := { m with taken := true }) hj (by omega) rfl, ← row_set h.inv.uniq hq hj] at ho3
      have hlen : (rowOf l m.ch).length = (rowOf (l.map (tk f c)) m.ch).length := by rw [row_map, List.length_map]
      have hFg : V.F p g := .inr (.inr (.inr ⟨e, hem, hg⟩))
      obtain ⟨n1, n2, n3⟩ := h2.row_ne hem hg
      refine ⟨rfl, ⟨hm3.blk h2.blk (fun z => n1 z.symm), h2.rm.mod hm3 (fun z => n2 z.symm), h2.am.mod hm3 (fun z => n3 z.symm), fun e' he' => ?_, h2.ne, h2.inv.take f c⟩, ⟨(hm2.mono fun _ _ z => z.elim).trans (hm3.mono fun b _ z => by rw [z]; exact hFg), fun _ z => .inl z⟩⟩
      obtain ⟨i1, hi1, rfl⟩ := List.mem_iff_getElem.1 hem
      obtain ⟨i2, hi2, rfl⟩ := List.mem_iff_getElem.1 he'
      by_cases hi : i1 = i2
      · subst hi
        rw [hek, ev, ← hlen]
        exact ho3
      · have hne : (V.er[i2]).k ≠ m.ch := fun z => hi (h.inv.rk i1 i2 _ _ (List.getElem?_eq_getElem hi1) (List.getElem?_eq_getElem hi2) (hek.trans z.symm))
        rw [row_other h.inv.uniq hq hne]
        exact owns_mod (h2.rows _ he') hm3 fun b z y => h.inv.dist i1 i2 _ _ (List.getElem?_eq_getElem hi1) (List.getElem?_eq_getElem hi2) hi g hg (y ▸ z)
theorem in_ok (n a b : Int) (w : World) : Rt Try.prog 50 #[.int .i64 n, .int .i64 a, .int .i64 b] w fun v w' => v = .bool (decide (a ≤ n) && decide (n ≤ b)) ∧ w' = w := by
  refine queue_in_calls ?_
  unfold queue_in_F
  rw [BK_geq]
  by_cases c : a ≤ n
  · simp only [c, decide_true, ↓VG_u, ↓UG_u, ↓MG_u, ↓NG_u, ↓PG_u, ↓BG_u, ↓CG_u, ↓IG_u, ↓VGtt, ↓VGtf, ↓VGft, ↓VGff, ↓UGtt, ↓UGtf, ↓UGft, ↓UGff, ↓MGtt, ↓MGtf, ↓MGft, ↓MGff, ↓NGtt, ↓NGtf, ↓NGft, ↓NGff, ↓PGtt, ↓PGtf, ↓PGft, ↓PGff, ↓BGtt, ↓BGtf, ↓BGft, ↓BGff, ↓CGtt, ↓CGtf, ↓CGft, ↓CGff, ↓IGtt, ↓IGtf, ↓IGft, ↓IGff, ↓PKt, ↓PKf, ↓CDt, ↓CDf, ↓NOTt, ↓NOTf, ↓NK_ptr, ↓BK_leq]
    exact ⟨by simp, by trivial⟩
  · simp only [c, decide_false, ↓VG_u, ↓UG_u, ↓MG_u, ↓NG_u, ↓PG_u, ↓BG_u, ↓CG_u, ↓IG_u, ↓VGtt, ↓VGtf, ↓VGft, ↓VGff, ↓UGtt, ↓UGtf, ↓UGft, ↓UGff, ↓MGtt, ↓MGtf, ↓MGft, ↓MGff, ↓NGtt, ↓NGtf, ↓NGft, ↓NGff, ↓PGtt, ↓PGtf, ↓PGft, ↓PGff, ↓BGtt, ↓BGtf, ↓BGft, ↓BGff, ↓CGtt, ↓CGtf, ↓CGft, ↓CGff, ↓IGtt, ↓IGtf, ↓IGft, ↓IGff, ↓PKt, ↓PKf, ↓CDt, ↓CDf, ↓NOTt, ↓NOTf, ↓NK_ptr]
    exact ⟨by simp, by trivial⟩
end
end Go.Proofs.Ytmnkedgmpbcicaa.Que
set_option linter.unusedVariables false
set_option linter.unusedSimpArgs false
set_option maxRecDepth 4000
namespace Go.Proofs.Ytmnkedgmpbcicaa.Que
open Go Go.X Go.RowKit Go.Proofs.Ytmnkedgmpbcicaa.XF Go.Proofs.Ytmnkedgmpbcicaa.XK
theorem entry_ok {w : World} {p : Nat} {l : List Ms} {V : QV} (h : QAt w p l V) (c : Ch) : ∃ (w' : World) (V1 : QV) (i : Nat) (e : Ent Ch), (Instr.mapEntry 86 (.map (some V.rb)) (encC c)).run Try.prog w = .ok (.tuple #[e.v, goInt e.b]) w' ∧ QAt w' p l V1 ∧ V1.er[i]? = some e ∧ e.k = c ∧ V1.rb = V.rb ∧ V1.ab = V.ab ∧ V1.ea = V.ea ∧ V1.c2 = V.c2 ∧ Mod (fun b => b = V.rb) w w' ∧ (∀ b, V1.F p b → V.F p b) := by
  obtain ⟨w', hrun, hmap, hm⟩ := run_entry KC uR h.rm zR_z c
  cases hf : findE c V.er 0 with
  | none =>
    rw [hf] at hrun hmap
    refine ⟨w', { V with er := V.er ++ [⟨c, .slice none 0 0, V.c1⟩], c1 := V.c1 + 1 }, V.er.length, ⟨c, .slice none 0 0, V.c1⟩, hrun, ⟨hm.blk h.blk h.p_ne.1, ?_, h.am.mod hm (fun q => h.ne q.symm), fun e he => ?_, h.ne, h.inv.entry hf⟩, by simp, rfl, rfl, rfl, rfl, rfl, hm, fun b q => ?_⟩
    · unfold clkE at hmap; rw [hf] at hmap; exact hmap
    · rcases List.mem_append.1 he with q | q
      · exact owns_mod (h.rows e q) hm fun b z y => (h.row_ne q z).2.1 y
      · rw [List.mem_singleton.1 q]
        have : rowOf l c = [] := by
          refine List.filter_eq_nil_iff.2 fun m hm q => ?_
          obtain ⟨e, he, hk⟩ := h.inv.cov m hm
          exact findE_none.1 hf e he (hk.trans (by simpa using q))
        dsimp only
        rw [this]
        exact World.ownsRow_nil _ _ _ _
    · rcases q with q | q | q | ⟨e, he, q⟩
      · exact .inl q
      · exact .inr (.inl q)
      · exact .inr (.inr (.inl q))
      · rcases List.mem_append.1 he with z | z
        · exact .inr (.inr (.inr ⟨e, z, q⟩))
        · rw [List.mem_singleton.1 z] at q; cases q
  | some x =>
    obtain ⟨i, u⟩ := x
    obtain ⟨e, he, hk, hv⟩ := findE_at hf
    rw [hf] at hrun hmap
    refine ⟨w', V, i, e, ?_, ⟨hm.blk h.blk h.p_ne.1, ?_, h.am.mod hm (fun q => h.ne q.symm), fun e he => owns_mod (h.rows e he) hm fun b z y => (h.row_ne he z).2.1 y, h.ne, h.inv⟩, he, hk, rfl, rfl, rfl, rfl, hm, fun b q => q⟩
    · rw [hrun]; dsimp only; rw [he, hv]; rfl
    · unfold clkE at hmap; rw [hf] at hmap; exact hmap
section
variable {w w1 w2 w3 w4 : World} {p : Nat} {l : List Ms} {V : QV} {m : Ms}
theorem sent_at (h : QAt w p l V) (hn : l.find? (Ms.isAt m.frm m.call) = none) {i : Nat} {e : Ent Ch} (hi : V.er[i]? = some e) (hk : e.k = m.ch) {v' : Value}
    (ho : w2.ownsRow 0 tMs 8 v' ((rowOf l m.ch).length + 1) ((rowOf l m.ch).flatMap Ms.enc ++ m.enc)) (hm2 : Mod (fun k => some k = e.v.ownBlock) w w2) (hv : v'.ownBlock = e.v.ownBlock ∨ ∀ g, v'.ownBlock = some g → w.heap.size ≤ g)
    (hm3 : Mod (fun b => b = V.rb) w2 w3) (hr3 : IsMap encC w3 V.rb (V.er.modify i fun e => ⟨e.k, v', e.b⟩) V.c1)
    (hm4 : Mod (fun b => b = V.ab) w3 w4) (ha4 : IsMap encSt w4 V.ab (putE (m.frm, m.call) (encC m.ch) V.c2 V.ea) (clkE (m.frm, m.call) V.c2 V.ea)) :
    ∃ V', QAt w4 p (l ++ [m]) V' ∧ QFr p w V w4 V' := by
  have hfe : findE (m.frm, m.call) V.ea 0 = none := by
    have := h.inv.at_ (m.frm, m.call)
    rw [hn] at this
    simpa using this
  unfold putE clkE at ha4
  rw [hfe] at ha4
  have hei := List.mem_of_getElem? hi
  have hold := h.old
  have hvv : ∀ g, sb v' g → sb e.v g ∨ w.heap.size ≤ g := fun g z => by
    rcases hv with y | y
    · exact .inl (by unfold sb at z ⊢; rw [← y]; exact z)
    · exact .inr (y g z)
  have hs2 := hm2.size
  have nv : ∀ g, sb v' g → g ≠ V.rb ∧ g ≠ V.ab := fun g z => by
    rcases hvv g z with y | y
    · exact ⟨(h.row_ne hei y).2.1, (h.row_ne hei y).2.2⟩
    · have h1 := hold V.rb (.inr (.inl rfl))
      have h2 := hold V.ab (.inr (.inr (.inl rfl)))
      omega
  have hei' : ∀ a ∈ V.er, ∀ g, sb a.v g → g < w.heap.size := fun a ha g z => hold g (.inr (.inr (.inr ⟨a, ha, z⟩)))
  refine ⟨{ V with er := V.er.modify i fun e => ⟨e.k, v', e.b⟩, ea := V.ea ++ [⟨(m.frm, m.call), encC m.ch, V.c2⟩], c2 := V.c2 + 1 }, ⟨?_, ?_, ?_, ?_, h.ne, h.inv.send hn hi hk hvv hei'⟩, ⟨?_, ?_⟩⟩
  · refine hm4.blk (hm3.blk (hm2.blk h.blk fun z => ?_) h.p_ne.1) h.p_ne.2
    exact (h.row_ne hei z.symm).1 rfl
  · exact hr3.mod hm4 h.ne
  · exact ha4
  · intro x hx
    obtain ⟨j, hj, rfl⟩ := List.mem_iff_getElem.1 hx
    have hjl : j < V.er.length := by rw [List.length_modify] at hj; exact hj
    rw [List.getElem_modify]
    by_cases q : i = j
    · subst q
      have e0 : V.er[i] = e := by rw [List.getElem?_eq_getElem hjl] at hi; exact Option.some.inj hi
      simp only [if_true, e0]
      rw [hk, row_app, if_pos rfl, List.flatMap_append, List.length_append]
      refine owns_mod (owns_mod ?_ hm3 fun g z => (nv g z).1) hm4 fun g z => (nv g z).2
      simpa using ho
    · rw [if_neg q]
      have hne : m.ch ≠ (V.er[j]).k := fun z => q (h.inv.rk i j e _ hi (List.getElem?_eq_getElem hjl) (hk.trans z))
      rw [row_app, if_neg hne, List.append_nil]
      have hmem : V.er[j] ∈ V.er := List.getElem_mem hjl
      refine owns_mod (owns_mod (owns_mod (h.rows _ hmem) hm2 fun g z y => ?_) hm3 fun g z => (h.row_ne hmem z).2.1) hm4 fun g z => (h.row_ne hmem z).2.2
      exact h.inv.dist i j e _ hi (List.getElem?_eq_getElem hjl) q g y.symm z
  · refine ((hm2.mono fun b _ z => ?_).trans (hm3.mono fun b _ z => ?_)).trans (hm4.mono fun b _ z => ?_)
    · exact .inr (.inr (.inr ⟨e, hei, z.symm⟩))
    · exact .inr (.inl z)
    · exact .inr (.inr (.inl z))
  · intro b q
    rcases q with q | q | q | ⟨x, hx, q⟩
    · exact .inl (.inl q)
    · exact .inl (.inr (.inl q))
    · exact .inl (.inr (.inr (.inl q)))
    · obtain ⟨j, hj, rfl⟩ := List.mem_iff_getElem.1 hx
      have hjl : j < V.er.length := by rw [List.length_modify] at hj; exact hj
      rw [List.getElem_modify] at q
      by_cases z : i = j
      · subst z
        simp only [if_true] at q
        rcases hvv b q with y | y
        · exact .inl (.inr (.inr (.inr ⟨e, hei, y⟩)))
        · exact .inr y
      · rw [if_neg z] at q
        exact .inl (.inr (.inr (.inr ⟨_, List.getElem_mem hjl, q⟩)))
theorem Send_R1 {w0 : World} {V0 : QV} {mb : Nat} {had : Bool} {ρ : Sl} (h0 : QFr p w0 V0 w V) (h : QAt w p l V) (hL : l.length ≤ 1000000) (hmb : w.heap[mb]? = some (.cells m.enc.toArray tMs (0, 0))) (hmF : ¬ V.F p mb) (hhad : had = (l.find? (Ms.isAt m.frm m.call)).isSome)
    (e0 : ρ 0 = .pointer (some ⟨p, 0, none⟩)) (e3 : ρ 3 = .pointer (some ⟨mb, 0, none⟩)) (e6 : ρ 6 = .bool had) :
    sx fn_ Try.prog 85 queue_Queue_Send_R1 (retK Try.prog [ResultVar.tmp 4] fun v w' => v = .int .i64 (sendV l m).2 ∧ ∃ V', QAt w' p (sendV l m).1 V' ∧ QFr p w0 V0 w' V') ρ w := by
  have g0 : FO Try.prog w tMs 0 0 ⟨mb, 0, none⟩ 9 (strV m.key) := FO.blk hmb (by kernel_rfl) vS rfl rfl
  have g1 : FO Try.prog w tMs 1 1 ⟨mb, 0, none⟩ 3 (.int .i64 m.frm) := FO.blk hmb (by kernel_rfl) vI rfl rfl
  have g2 : FO Try.prog w tMs 2 2 ⟨mb, 0, none⟩ 3 (.int .i64 m.to) := FO.blk hmb (by kernel_rfl) vI rfl rfl
  have g3 : FO Try.prog w tMs 3 3 ⟨mb, 0, none⟩ 3 (.int .i64 m.call) := FO.blk hmb (by kernel_rfl) vI rfl rfl
  have g4 : FO Try.prog w tMs 4 4 ⟨mb, 0, none⟩ 3 (.int .i64 m.tag) := FO.blk hmb (by kernel_rfl) vI rfl rfl
  have g6 : FO Try.prog w tMs 6 6 ⟨mb, 0, none⟩ 3 (.int .i64 m.size) := FO.blk hmb (by kernel_rfl) vI rfl rfl
  have g7 : FO Try.prog w tMs 7 7 ⟨mb, 0, none⟩ 4 (.bool m.taken) := FO.blk hmb (by kernel_rfl) vB rfl rfl
  rw [queue_Queue_Send_R1_eq]; unfold queue_Queue_Send_R1_F
  rw [e6, e3]
  have step : ∀ (ρ' : Sl) (t : Bool), ρ' 0 = ρ 0 → ρ' 3 = ρ 3 → ρ' 56 = .bool t → t = (had || badM m) → sx fn_ Try.prog 85 queue_Queue_Send_R2 (seqK (sx fn_ Try.prog 85 queue_Queue_Send_R3 (retK Try.prog [ResultVar.tmp 4] fun v w' => v = .int .i64 (sendV l m).2 ∧ ∃ V', QAt w' p (sendV l m).1 V' ∧ QFr p w0 V0 w' V')) (retK Try.prog [ResultVar.tmp 4] fun v w' => v = .int .i64 (sendV l m).2 ∧ ∃ V', QAt w' p (sendV l m).1 V' ∧ QFr p w0 V0 w' V')) ρ' w := by
    intro ρ' t a0 a3 a56 ht
    rw [queue_Queue_Send_R2_eq]; unfold queue_Queue_Send_R2_F
    rw [a56]
    unfold sendV
    rw [← hhad, ← ht]
    refine caseC (fun q => ?_) (fun q => ?_)
    · rw [q]
      exact ⟨rfl, V, h, h0⟩
    rw [q]
    simp only [Bool.false_eq_true, if_false]
    have hn : l.find? (Ms.isAt m.frm m.call) = none := by
      rw [q] at ht
      have : had = false := (Bool.or_eq_false_iff.1 ht.symm).1
      rw [hhad] at this
      simpa using this
    rw [sq_n, queue_Queue_Send_R3_eq]; unfold queue_Queue_Send_R3_F
    rw [a3, e3, g0.e, g1.e, g2.e, build_ok (cs := #[strV m.key, .int .i64 m.frm, .int .i64 m.to]) (by kernel_rfl)]
    refine al_k (cs := #[strV [], .int .i64 0, .int .i64 0]) zC_z rfl _ fun w1 hb1 hm1 hz1 => ?_
    refine stS (cs := #[strV m.key, .int .i64 m.frm, .int .i64 m.to]) (old := #[strV [], .int .i64 0, .int .i64 0]) rfl rfl (by kernel_rfl) rfl (by simp [Value.oneCell', strV]) hb1 fun w2 hb2 hm2 hz2 => ?_
    have hm02 : Mod none_ w w2 := hm1.fresh hm2 (Nat.le_refl _)
    have h2 := h.calm hm02
    have hmb2 := hm02.blk hmb id
    have hcF : ¬ V.F p w.heap.size := fun z => by have := h.old _ z; omega
    have hmlt := X.blk_lt hmb
    refine queue_Queue_Send_R4_held (D := []) (fun w' => w'.heap[p]? = some (.cells #[.map (some V.rb), .map (some V.ab)] 89 (0, 0)) ∧ w'.heap[w.heap.size]? = some (.cells #[strV m.key, .int .i64 m.frm, .int .i64 m.to] 91 (0, 0)) ∧ w'.heap[mb]? = some (.cells m.enc.toArray tMs (0, 0))) ⟨h2.blk, hb2, hmb2⟩ ?_
    have hd : Mod none_ w2 { w2 with drawn := w2.drawn + 1 } := (Mod.refl _ w2).drawn _
    generalize ({ w2 with drawn := w2.drawn + 1 } : World) = wd at *
    unfold queue_Queue_Send_R4_H
    simp only [sq_n, sq_x, sq_r, bk_n, bk_r, bk_x, rt_r, rt_n, rs_0, rs_t, pk_1, pk_2, up_at, reduceIte, Nat.reduceEqDiff, a0, e0, a3, e3]
    have hdd := h2.calm hd
    refine HN_ptr (HV_of (v := .pointer (some ⟨p, 0, none⟩)) (fun w' _ => by rw [run_fo (off := 0) (by kernel_rfl), add_pl]) ?_)
    refine HV_of (v := .map (some V.rb)) (fun w' hw => run_ld1 uR rfl (by rw [cell_blk hw.1]; rfl)) ?_
    refine HV_of (v := encC m.ch) (fun w' hw => run_ldB Try.underlying91 rfl (by kernel_rfl) hw.2.1) ?_
    refine HV_of (v := .agg m.enc.toArray) (fun w' hw => run_ldB Try.underlying39 rfl (by rw [iMs]; rfl) hw.2.2) ?_
    have SS : ∀ {w' : World} {S : Nat → Prop}, Mod S wd w' → ¬ S p → ¬ S w.heap.size → ¬ S mb → w'.heap[p]? = some (.cells #[.map (some V.rb), .map (some V.ab)] 89 (0, 0)) ∧ w'.heap[w.heap.size]? = some (.cells #[strV m.key, .int .i64 m.frm, .int .i64 m.to] 91 (0, 0)) ∧ w'.heap[mb]? = some (.cells m.enc.toArray tMs (0, 0)) := fun hm a b c => ⟨hm.blk hdd.blk a, hm.blk (hd.blk hb2 id) b, hm.blk (hd.blk hmb2 id) c⟩
    refine bs_k (cs := m.enc.toArray) (by kernel_rfl) fun w3 hb3 hm3 hz3 => ⟨SS hm3 id id id, ?_⟩
    have h3 := hdd.calm hm3
    obtain ⟨w4, V1, i, e, hrun, h4, hei, hek, r1, r2, r3, r4, hm4, hF⟩ := entry_ok h3 m.ch
    have nrb : ∀ {b : Nat}, ¬ V.F p b → ¬ (fun x => x = V.rb) b := fun {b} q z => q (.inr (.inl z))
    have hm34 : Mod (fun b => b = V.rb) wd w4 := (hm3.mono fun _ _ z => z.elim).trans hm4
    refine VK_of hrun ⟨SS hm34 h.p_ne.1 (nrb hcF) (nrb hmF), ?_⟩
    refine HV_of (v := e.v) (fun _ _ => rfl) (HV_of (v := goInt e.b) (fun _ _ => rfl) ?_)
    have hem := List.mem_of_getElem? hei
    have hown := h4.rows e hem
    rw [hek] at hown
    have hrl := row_len l m.ch
    have hb4 : w4.heap[wd.heap.size]? = some (.cells m.enc.toArray tMs (0, 0)) := hm4.blk hb3 fun z => by
      have := (hdd.old V.rb (.inr (.inl rfl)))
      omega
    refine ap_any eMsS hown (reads_blk (size := 8) (n := 1) hb4 rfl) (fun u hu => Ms.enc_mem [m] u (by simpa using hu)) (by unfold maxLen; omega) (by omega) (Nat.zero_le _) fun v' w5 ho5 hm5 hv5 => ?_
    have hsz5 := hm5.size
    have ne5 : ∀ {b : Nat}, ¬ V.F p b → ¬ (fun k => some k = e.v.ownBlock) b := fun {b} q z => q (hF b (.inr (.inr (.inr ⟨e, hem, z.symm⟩))))
    have hpe : ¬ (fun k => some k = e.v.ownBlock) p := fun z => (h4.row_ne hem z.symm).1 rfl
    have cb4 := hm34.blk (hd.blk hb2 id) (nrb hcF)
    have mb4 := hm34.blk (hd.blk hmb2 id) (nrb hmF)
    have pb4 := h4.blk
    rw [r1, r2] at pb4
    refine ⟨⟨hm5.blk pb4 hpe, hm5.blk cb4 (ne5 hcF), hm5.blk mb4 (ne5 hmF)⟩, ?_⟩
    have hr5 : IsMap encC w5 V1.rb V1.er V1.c1 := h4.rm.mod hm5 fun z => (h4.row_ne hem z.symm).2.1 rfl
    obtain ⟨w6, hrun6, hr6, hm6⟩ := run_estore (t := 86) (P := Try.prog) hr5 hei (fun j x hj hx => h4.inv.rb j i x e hj hei hx) v'
    rw [r1] at hrun6
    refine UK_of hrun6 ?_
    have hm6' : Mod (fun b => b = V.rb) w5 w6 := hm6.mono fun b _ z => by rw [← r1]; exact z
    have pb6 := hm6'.blk (hm5.blk pb4 hpe) h.p_ne.1
    have cb6 := hm6'.blk (hm5.blk cb4 (ne5 hcF)) (nrb hcF)
    have mb6 := hm6'.blk (hm5.blk mb4 (ne5 hmF)) (nrb hmF)
    refine ⟨⟨pb6, cb6, mb6⟩, ?_⟩
    rw [queue_Queue_Send_R5_eq]; unfold queue_Queue_Send_R5_F
    refine queue_Queue_Send_R6_tail (D := []) ?_
    have hd6 : Mod none_ w6 { w6 with drawn := w6.drawn + 1 } := (Mod.refl _ w6).drawn _
    generalize ({ w6 with drawn := w6.drawn + 1 } : World) = w7 at *
    unfold queue_Queue_Send_R6_T
    simp only [sq_n, sq_x, sq_r, bk_n, bk_r, bk_x, rt_r, rt_n, rs_0, rs_t, pk_1, pk_2, up_at, reduceIte, Nat.reduceEqDiff, a0, e0, a3, e3]
    have pb7 := hd6.blk pb6 id
    have cb7 := hd6.blk cb6 id
    have mb7 := hd6.blk mb6 id
    refine QN_ptr (Qfo (off := 1) (by kernel_rfl) (Qld uA rfl (v := .map (some V.ab)) (fun w' hw => by rw [hw, add_pl, cell_blk pb7]; rfl) ?_))
    refine Qfo (off := 1) (by kernel_rfl) (Qld vI rfl (v := .int .i64 m.frm) (fun w' hw => by rw [hw, add_pl, cell_blk mb7]; rfl) ?_)
    refine Qfo (off := 3) (by kernel_rfl) (Qld vI rfl (v := .int .i64 m.call) (fun w' hw => by rw [hw, add_pl, cell_blk mb7]; rfl) ?_)
    refine QV_of (v := encSt (m.frm, m.call)) (fun w' _ => run_build (P := Try.prog) w' _ _ _ (by kernel_rfl)) ?_
    refine QV_of (v := encC m.ch) (fun w' hw => by rw [hw]; exact run_ldB Try.underlying91 rfl (by kernel_rfl) cb7) ?_
    have ha7 : IsMap encSt w7 V.ab V1.ea V1.c2 := by
      rw [← r2]
      refine ((h4.am.mod hm5 fun z => (h4.row_ne hem z.symm).2.2 rfl).mod hm6 fun z => h4.ne z.symm).mod hd6 id
    obtain ⟨w8, hrun8, ha8, hm8⟩ := run_put KS uA ha7 (m.frm, m.call) (encC m.ch)
    refine UK_of hrun8 ?_
    rw [queue_Queue_Send_R7_eq]; unfold queue_Queue_Send_R7_F
    have hn4 := hn
    obtain ⟨V', hA, hFr⟩ := sent_at (w := w4) (w2 := w5) (w3 := w7) (w4 := w8) h4 hn hei hek (v' := v') (by simpa using ho5) hm5 (hv5.imp id fun z g y => by rw [z] at y; injection y with y; omega) ((hm6.trans (hd6.mono fun _ _ z => z.elim))) (hr6.mod hd6 id) (by rw [r2]; exact hm8) (by rw [r2]; exact ha8)
    refine ⟨rfl, V', hA, ?_⟩
    have hF1 : QFr p w V w4 V1 := ⟨((hm02.trans hd).mono fun _ _ z => z.elim).trans (hm34.mono fun b _ z => .inr (.inl z)), fun b z => .inl (hF b z)⟩
    exact (h0.trans hF1).trans hFr
  have hb : ∀ {n a b : Int} {w : World} {x : Bool}, x = (decide (a ≤ n) && decide (n ≤ b)) → Rt Try.prog 50 #[.int .i64 n, .int .i64 a, .int .i64 b] w fun v w' => v = .bool x ∧ w' = w := fun {n a b w x} e => by rw [e]; exact in_ok n a b w
  cases hh : had with
  | true =>
    simp only [↓VG_u, ↓UG_u, ↓MG_u, ↓NG_u, ↓PG_u, ↓BG_u, ↓CG_u, ↓IG_u, ↓VGtt, ↓VGtf, ↓VGft, ↓VGff, ↓UGtt, ↓UGtf, ↓UGft, ↓UGff, ↓MGtt, ↓MGtf, ↓MGft, ↓MGff, ↓NGtt, ↓NGtf, ↓NGft, ↓NGff, ↓PGtt, ↓PGtf, ↓PGft, ↓PGff, ↓BGtt, ↓BGtf, ↓BGft, ↓BGff, ↓CGtt, ↓CGtf, ↓CGft, ↓CGff, ↓IGtt, ↓IGtf, ↓IGft, ↓IGff, ↓PKt, ↓PKf, ↓CDt, ↓CDf, ↓NOTt, ↓NOTf, ↓NK_ptr]
    exact step _ true rfl rfl rfl (by rw [hh]; rfl)
  | false =>
    simp only [↓VG_u, ↓UG_u, ↓MG_u, ↓NG_u, ↓PG_u, ↓BG_u, ↓CG_u, ↓IG_u, ↓VGtt, ↓VGtf, ↓VGft, ↓VGff, ↓UGtt, ↓UGtf, ↓UGft, ↓UGff, ↓MGtt, ↓MGtf, ↓MGft, ↓MGff, ↓NGtt, ↓NGtf, ↓NGft, ↓NGff, ↓PGtt, ↓PGtf, ↓PGft, ↓PGff, ↓BGtt, ↓BGtf, ↓BGft, ↓BGff, ↓CGtt, ↓CGtf, ↓CGft, ↓CGff, ↓IGtt, ↓IGtf, ↓IGft, ↓IGff, ↓PKt, ↓PKf, ↓CDt, ↓CDf, ↓NOTt, ↓NOTf, ↓NK_ptr]
    rw [g7.e]
    try simp only [↓VG_u, ↓UG_u, ↓MG_u, ↓NG_u, ↓PG_u, ↓BG_u, ↓CG_u, ↓IG_u, ↓VGtt, ↓VGtf, ↓VGft, ↓VGff, ↓UGtt, ↓UGtf, ↓UGft, ↓UGff, ↓MGtt, ↓MGtf, ↓MGft, ↓MGff, ↓NGtt, ↓NGtf, ↓NGft, ↓NGff, ↓PGtt, ↓PGtf, ↓PGft, ↓PGff, ↓BGtt, ↓BGtf, ↓BGft, ↓BGff, ↓CGtt, ↓CGtf, ↓CGft, ↓CGff, ↓IGtt, ↓IGtf, ↓IGft, ↓IGff, ↓PKt, ↓PKf, ↓CDt, ↓CDf, ↓NOTt, ↓NOTf, ↓NK_ptr]
    cases h7 : m.taken with
    | true =>
      simp only [↓VG_u, ↓UG_u, ↓MG_u, ↓NG_u, ↓PG_u, ↓BG_u, ↓CG_u, ↓IG_u, ↓VGtt, ↓VGtf, ↓VGft, ↓VGff, ↓UGtt, ↓UGtf, ↓UGft, ↓UGff, ↓MGtt, ↓MGtf, ↓MGft, ↓MGff, ↓NGtt, ↓NGtf, ↓NGft, ↓NGff, ↓PGtt, ↓PGtf, ↓PGft, ↓PGff, ↓BGtt, ↓BGtf, ↓BGft, ↓BGff, ↓CGtt, ↓CGtf, ↓CGft, ↓CGff, ↓IGtt, ↓IGtf, ↓IGft, ↓IGff, ↓PKt, ↓PKf, ↓CDt, ↓CDf, ↓NOTt, ↓NOTf, ↓NK_ptr]
      exact step _ true rfl rfl rfl (by rw [hh]; simp [badM, h7])
    | false =>
      simp only [↓VG_u, ↓UG_u, ↓MG_u, ↓NG_u, ↓PG_u, ↓BG_u, ↓CG_u, ↓IG_u, ↓VGtt, ↓VGtf, ↓VGft, ↓VGff, ↓UGtt, ↓UGtf, ↓UGft, ↓UGff, ↓MGtt, ↓MGtf, ↓MGft, ↓MGff, ↓NGtt, ↓NGtf, ↓NGft, ↓NGff, ↓PGtt, ↓PGtf, ↓PGft, ↓PGff, ↓BGtt, ↓BGtf, ↓BGft, ↓BGff, ↓CGtt, ↓CGtf, ↓CGft, ↓CGff, ↓IGtt, ↓IGtf, ↓IGft, ↓IGff, ↓PKt, ↓PKf, ↓CDt, ↓CDf, ↓NOTt, ↓NOTf, ↓NK_ptr]
      rw [g1.e]
      try simp only [↓VG_u, ↓UG_u, ↓MG_u, ↓NG_u, ↓PG_u, ↓BG_u, ↓CG_u, ↓IG_u, ↓VGtt, ↓VGtf, ↓VGft, ↓VGff, ↓UGtt, ↓UGtf, ↓UGft, ↓UGff, ↓MGtt, ↓MGtf, ↓MGft, ↓MGff, ↓NGtt, ↓NGtf, ↓NGft, ↓NGff, ↓PGtt, ↓PGtf, ↓PGft, ↓PGff, ↓BGtt, ↓BGtf, ↓BGft, ↓BGff, ↓CGtt, ↓CGtf, ↓CGft, ↓CGff, ↓IGtt, ↓IGtf, ↓IGft, ↓IGff, ↓PKt, ↓PKf, ↓CDt, ↓CDf, ↓NOTt, ↓NOTf, ↓NK_ptr]
      cases b1 : (decide (0 ≤ m.frm) && decide (m.frm ≤ 63)) with
      | false =>
        refine CK_st Try.func50 rfl rfl (hb b1.symm) ?_
        rintro _ w' ⟨rfl, rfl⟩
        simp only [↓VG_u, ↓UG_u, ↓MG_u, ↓NG_u, ↓PG_u, ↓BG_u, ↓CG_u, ↓IG_u, ↓VGtt, ↓VGtf, ↓VGft, ↓VGff, ↓UGtt, ↓UGtf, ↓UGft, ↓UGff, ↓MGtt, ↓MGtf, ↓MGft, ↓MGff, ↓NGtt, ↓NGtf, ↓NGft, ↓NGff, ↓PGtt, ↓PGtf, ↓PGft, ↓PGff, ↓BGtt, ↓BGtf, ↓BGft, ↓BGff, ↓CGtt, ↓CGtf, ↓CGft, ↓CGff, ↓IGtt, ↓IGtf, ↓IGft, ↓IGff, ↓PKt, ↓PKf, ↓CDt, ↓CDf, ↓NOTt, ↓NOTf, ↓NK_ptr]
        exact step _ true rfl rfl rfl (by rw [hh]; simp only [badM, b1, Bool.not_false, Bool.or_true, Bool.true_or])
      | true =>
        refine CK_st Try.func50 rfl rfl (hb b1.symm) ?_
        rintro _ w' ⟨rfl, rfl⟩
        simp only [↓VG_u, ↓UG_u, ↓MG_u, ↓NG_u, ↓PG_u, ↓BG_u, ↓CG_u, ↓IG_u, ↓VGtt, ↓VGtf, ↓VGft, ↓VGff, ↓UGtt, ↓UGtf, ↓UGft, ↓UGff, ↓MGtt, ↓MGtf, ↓MGft, ↓MGff, ↓NGtt, ↓NGtf, ↓NGft, ↓NGff, ↓PGtt, ↓PGtf, ↓PGft, ↓PGff, ↓BGtt, ↓BGtf, ↓BGft, ↓BGff, ↓CGtt, ↓CGtf, ↓CGft, ↓CGff, ↓IGtt, ↓IGtf, ↓IGft, ↓IGff, ↓PKt, ↓PKf, ↓CDt, ↓CDf, ↓NOTt, ↓NOTf, ↓NK_ptr]
        rw [g2.e]
        try simp only [↓VG_u, ↓UG_u, ↓MG_u, ↓NG_u, ↓PG_u, ↓BG_u, ↓CG_u, ↓IG_u, ↓VGtt, ↓VGtf, ↓VGft, ↓VGff, ↓UGtt, ↓UGtf, ↓UGft, ↓UGff, ↓MGtt, ↓MGtf, ↓MGft, ↓MGff, ↓NGtt, ↓NGtf, ↓NGft, ↓NGff, ↓PGtt, ↓PGtf, ↓PGft, ↓PGff, ↓BGtt, ↓BGtf, ↓BGft, ↓BGff, ↓CGtt, ↓CGtf, ↓CGft, ↓CGff, ↓IGtt, ↓IGtf, ↓IGft, ↓IGff, ↓PKt, ↓PKf, ↓CDt, ↓CDf, ↓NOTt, ↓NOTf, ↓NK_ptr]
        cases b2 : (decide (0 ≤ m.to) && decide (m.to ≤ 63)) with
        | false =>
          refine CK_st Try.func50 rfl rfl (hb b2.symm) ?_
          rintro _ w' ⟨rfl, rfl⟩
          simp only [↓VG_u, ↓UG_u, ↓MG_u, ↓NG_u, ↓PG_u, ↓BG_u, ↓CG_u, ↓IG_u, ↓VGtt, ↓VGtf, ↓VGft, ↓VGff, ↓UGtt, ↓UGtf, ↓UGft, ↓UGff, ↓MGtt, ↓MGtf, ↓MGft, ↓MGff, ↓NGtt, ↓NGtf, ↓NGft, ↓NGff, ↓PGtt, ↓PGtf, ↓PGft, ↓PGff, ↓BGtt, ↓BGtf, ↓BGft, ↓BGff, ↓CGtt, ↓CGtf, ↓CGft, ↓CGff, ↓IGtt, ↓IGtf, ↓IGft, ↓IGff, ↓PKt, ↓PKf, ↓CDt, ↓CDf, ↓NOTt, ↓NOTf, ↓NK_ptr]
          exact step _ true rfl rfl rfl (by rw [hh]; simp only [badM, b2, Bool.not_false, Bool.or_true, Bool.true_or])
        | true =>
          refine CK_st Try.func50 rfl rfl (hb b2.symm) ?_
          rintro _ w' ⟨rfl, rfl⟩
          simp only [↓VG_u, ↓UG_u, ↓MG_u, ↓NG_u, ↓PG_u, ↓BG_u, ↓CG_u, ↓IG_u, ↓VGtt, ↓VGtf, ↓VGft, ↓VGff, ↓UGtt, ↓UGtf, ↓UGft, ↓UGff, ↓MGtt, ↓MGtf, ↓MGft, ↓MGff, ↓NGtt, ↓NGtf, ↓NGft, ↓NGff, ↓PGtt, ↓PGtf, ↓PGft, ↓PGff, ↓BGtt, ↓BGtf, ↓BGft, ↓BGff, ↓CGtt, ↓CGtf, ↓CGft, ↓CGff, ↓IGtt, ↓IGtf, ↓IGft, ↓IGff, ↓PKt, ↓PKf, ↓CDt, ↓CDf, ↓NOTt, ↓NOTf, ↓NK_ptr]
          rw [g3.e]
          try simp only [↓VG_u, ↓UG_u, ↓MG_u, ↓NG_u, ↓PG_u, ↓BG_u, ↓CG_u, ↓IG_u, ↓VGtt, ↓VGtf, ↓VGft, ↓VGff, ↓UGtt, ↓UGtf, ↓UGft, ↓UGff, ↓MGtt, ↓MGtf, ↓MGft, ↓MGff, ↓NGtt, ↓NGtf, ↓NGft, ↓NGff, ↓PGtt, ↓PGtf, ↓PGft, ↓PGff, ↓BGtt, ↓BGtf, ↓BGft, ↓BGff, ↓CGtt, ↓CGtf, ↓CGft, ↓CGff, ↓IGtt, ↓IGtf, ↓IGft, ↓IGff, ↓PKt, ↓PKf, ↓CDt, ↓CDf, ↓NOTt, ↓NOTf, ↓NK_ptr]
          by_cases b3 : m.call < 0
          · simp only [↓VG_u, ↓UG_u, ↓MG_u, ↓NG_u, ↓PG_u, ↓BG_u, ↓CG_u, ↓IG_u, ↓VGtt, ↓VGtf, ↓VGft, ↓VGff, ↓UGtt, ↓UGtf, ↓UGft, ↓UGff, ↓MGtt, ↓MGtf, ↓MGft, ↓MGff, ↓NGtt, ↓NGtf, ↓NGft, ↓NGff, ↓PGtt, ↓PGtf, ↓PGft, ↓PGff, ↓BGtt, ↓BGtf, ↓BGft, ↓BGff, ↓CGtt, ↓CGtf, ↓CGft, ↓CGff, ↓IGtt, ↓IGtf, ↓IGft, ↓IGff, ↓PKt, ↓PKf, ↓CDt, ↓CDf, ↓NOTt, ↓NOTf, ↓NK_ptr, ↓LTt b3]
            exact step _ true rfl rfl rfl (by rw [hh]; simp [badM, b3])
          · simp only [↓VG_u, ↓UG_u, ↓MG_u, ↓NG_u, ↓PG_u, ↓BG_u, ↓CG_u, ↓IG_u, ↓VGtt, ↓VGtf, ↓VGft, ↓VGff, ↓UGtt, ↓UGtf, ↓UGft, ↓UGff, ↓MGtt, ↓MGtf, ↓MGft, ↓MGff, ↓NGtt, ↓NGtf, ↓NGft, ↓NGff, ↓PGtt, ↓PGtf, ↓PGft, ↓PGff, ↓BGtt, ↓BGtf, ↓BGft, ↓BGff, ↓CGtt, ↓CGtf, ↓CGft, ↓CGff, ↓IGtt, ↓IGtf, ↓IGft, ↓IGff, ↓PKt, ↓PKf, ↓CDt, ↓CDf, ↓NOTt, ↓NOTf, ↓NK_ptr, ↓LTf (Int.not_lt.1 b3)]
            rw [g4.e]
            try simp only [↓VG_u, ↓UG_u, ↓MG_u, ↓NG_u, ↓PG_u, ↓BG_u, ↓CG_u, ↓IG_u, ↓VGtt, ↓VGtf, ↓VGft, ↓VGff, ↓UGtt, ↓UGtf, ↓UGft, ↓UGff, ↓MGtt, ↓MGtf, ↓MGft, ↓MGff, ↓NGtt, ↓NGtf, ↓NGft, ↓NGff, ↓PGtt, ↓PGtf, ↓PGft, ↓PGff, ↓BGtt, ↓BGtf, ↓BGft, ↓BGff, ↓CGtt, ↓CGtf, ↓CGft, ↓CGff, ↓IGtt, ↓IGtf, ↓IGft, ↓IGff, ↓PKt, ↓PKf, ↓CDt, ↓CDf, ↓NOTt, ↓NOTf, ↓NK_ptr]
            cases b4 : (decide (0 ≤ m.tag) && decide (m.tag ≤ 32767)) with
            | false =>
              refine CK_st Try.func50 rfl rfl (hb b4.symm) ?_
              rintro _ w' ⟨rfl, rfl⟩
              simp only [↓VG_u, ↓UG_u, ↓MG_u, ↓NG_u, ↓PG_u, ↓BG_u, ↓CG_u, ↓IG_u, ↓VGtt, ↓VGtf, ↓VGft, ↓VGff, ↓UGtt, ↓UGtf, ↓UGft, ↓UGff, ↓MGtt, ↓MGtf, ↓MGft, ↓MGff, ↓NGtt, ↓NGtf, ↓NGft, ↓NGff, ↓PGtt, ↓PGtf, ↓PGft, ↓PGff, ↓BGtt, ↓BGtf, ↓BGft, ↓BGff, ↓CGtt, ↓CGtf, ↓CGft, ↓CGff, ↓IGtt, ↓IGtf, ↓IGft, ↓IGff, ↓PKt, ↓PKf, ↓CDt, ↓CDf, ↓NOTt, ↓NOTf, ↓NK_ptr]
              exact step _ true rfl rfl rfl (by rw [hh]; simp only [badM, b4, Bool.not_false, Bool.or_true, Bool.true_or])
            | true =>
              refine CK_st Try.func50 rfl rfl (hb b4.symm) ?_
              rintro _ w' ⟨rfl, rfl⟩
              simp only [↓VG_u, ↓UG_u, ↓MG_u, ↓NG_u, ↓PG_u, ↓BG_u, ↓CG_u, ↓IG_u, ↓VGtt, ↓VGtf, ↓VGft, ↓VGff, ↓UGtt, ↓UGtf, ↓UGft, ↓UGff, ↓MGtt, ↓MGtf, ↓MGft, ↓MGff, ↓NGtt, ↓NGtf, ↓NGft, ↓NGff, ↓PGtt, ↓PGtf, ↓PGft, ↓PGff, ↓BGtt, ↓BGtf, ↓BGft, ↓BGff, ↓CGtt, ↓CGtf, ↓CGft, ↓CGff, ↓IGtt, ↓IGtf, ↓IGft, ↓IGff, ↓PKt, ↓PKf, ↓CDt, ↓CDf, ↓NOTt, ↓NOTf, ↓NK_ptr]
              rw [g6.e]
              try simp only [↓VG_u, ↓UG_u, ↓MG_u, ↓NG_u, ↓PG_u, ↓BG_u, ↓CG_u, ↓IG_u, ↓VGtt, ↓VGtf, ↓VGft, ↓VGff, ↓UGtt, ↓UGtf, ↓UGft, ↓UGff, ↓MGtt, ↓MGtf, ↓MGft, ↓MGff, ↓NGtt, ↓NGtf, ↓NGft, ↓NGff, ↓PGtt, ↓PGtf, ↓PGft, ↓PGff, ↓BGtt, ↓BGtf, ↓BGft, ↓BGff, ↓CGtt, ↓CGtf, ↓CGft, ↓CGff, ↓IGtt, ↓IGtf, ↓IGft, ↓IGff, ↓PKt, ↓PKf, ↓CDt, ↓CDf, ↓NOTt, ↓NOTf, ↓NK_ptr]
              cases b6 : (decide (1 ≤ m.size) && decide (m.size ≤ 64)) with
              | false =>
                refine CK_st Try.func50 rfl rfl (hb b6.symm) ?_
                rintro _ w' ⟨rfl, rfl⟩
                simp only [↓VG_u, ↓UG_u, ↓MG_u, ↓NG_u, ↓PG_u, ↓BG_u, ↓CG_u, ↓IG_u, ↓VGtt, ↓VGtf, ↓VGft, ↓VGff, ↓UGtt, ↓UGtf, ↓UGft, ↓UGff, ↓MGtt, ↓MGtf, ↓MGft, ↓MGff, ↓NGtt, ↓NGtf, ↓NGft, ↓NGff, ↓PGtt, ↓PGtf, ↓PGft, ↓PGff, ↓BGtt, ↓BGtf, ↓BGft, ↓BGff, ↓CGtt, ↓CGtf, ↓CGft, ↓CGff, ↓IGtt, ↓IGtf, ↓IGft, ↓IGff, ↓PKt, ↓PKf, ↓CDt, ↓CDf, ↓NOTt, ↓NOTf, ↓NK_ptr]
                exact step _ true rfl rfl rfl (by rw [hh]; simp only [badM, b6, Bool.not_false, Bool.or_true])
              | true =>
                refine CK_st Try.func50 rfl rfl (hb b6.symm) ?_
                rintro _ w' ⟨rfl, rfl⟩
                simp only [↓VG_u, ↓UG_u, ↓MG_u, ↓NG_u, ↓PG_u, ↓BG_u, ↓CG_u, ↓IG_u, ↓VGtt, ↓VGtf, ↓VGft, ↓VGff, ↓UGtt, ↓UGtf, ↓UGft, ↓UGff, ↓MGtt, ↓MGtf, ↓MGft, ↓MGff, ↓NGtt, ↓NGtf, ↓NGft, ↓NGff, ↓PGtt, ↓PGtf, ↓PGft, ↓PGff, ↓BGtt, ↓BGtf, ↓BGft, ↓BGff, ↓CGtt, ↓CGtf, ↓CGft, ↓CGff, ↓IGtt, ↓IGtf, ↓IGft, ↓IGff, ↓PKt, ↓PKf, ↓CDt, ↓CDf, ↓NOTt, ↓NOTf, ↓NK_ptr]
                exact step _ false rfl rfl rfl (by rw [hh]; simp only [badM, h7, b1, b2, b4, b6, decide_eq_false b3, Bool.not_true, Bool.or_false])
end
end Go.Proofs.Ytmnkedgmpbcicaa.Que
set_option linter.unusedVariables false
set_option linter.unusedSimpArgs false
set_option maxRecDepth 4000
namespace Go.Proofs.Ytmnkedgmpbcicaa.Que
open Go Go.X Go.RowKit Go.Proofs.Ytmnkedgmpbcicaa.XF Go.Proofs.Ytmnkedgmpbcicaa.XK
section
variable {w : World} {p : Nat} {l : List Ms} {V : QV}
theorem Send_ok (h : QAt w p l V) (hL : l.length ≤ 1000000) (m : Ms) : Rt Try.prog 25 #[.pointer (some ⟨p, 0, none⟩), .agg m.enc.toArray] w fun v w' => v = .int .i64 (sendV l m).2 ∧ ∃ V', QAt w' p (sendV l m).1 V' ∧ QFr p w V w' V' := by
  refine queue_Queue_Send_calls ?_
  unfold queue_Queue_Send_F
  refine box_k (cs := m.enc.toArray) rfl fun w1 hb1 hm1 hz1 => ?_
  have h1 := h.calm hm1
  refine CK_st Try.func49 rfl rfl (none_ok h1) ?_
  rintro _ w2 ⟨rfl, rfl⟩
  refine condF ?_
  refine queue_Queue_Send_R0_held (D := []) (fun w' => Mod none_ w2 w') ((Mod.refl _ w2).drawn _) ?_
  have hd : Mod none_ w2 { w2 with drawn := w2.drawn + 1 } := (Mod.refl _ w2).drawn _
  have hdz : ({ w2 with drawn := w2.drawn + 1 } : World).heap.size = w2.heap.size := rfl
  generalize ({ w2 with drawn := w2.drawn + 1 } : World) = wd at *
  unfold queue_Queue_Send_R0_H
  simp only [sq_n, sq_x, sq_r, bk_n, bk_r, bk_x, rt_r, rt_n, rs_0, rs_t, pk_1, pk_2, up_at, reduceIte, Nat.reduceEqDiff]
  refine HN_ptr (HV_of (v := .pointer (some ⟨p, 1, none⟩)) (fun w' _ => by rw [run_fo (off := 1) (by kernel_rfl), add_pl]) ?_)
  refine HV_of (v := .map (some V.ab)) (fun w' hw => run_ld1 uA rfl (by rw [cell_blk (h1.calm hw).blk]; rfl)) ?_
  refine HV_of (v := .pointer (some ⟨w.heap.size, 1, none⟩)) (fun w' _ => by rw [run_fo (off := 1) (by kernel_rfl), add_pl, Nat.zero_add]) ?_
  refine HV_of (v := .int .i64 m.frm) (fun w' hw => run_ld1 vI rfl (by rw [cell_blk (hw.blk hb1 id)]; rfl)) ?_
  refine HV_of (v := .pointer (some ⟨w.heap.size, 3, none⟩)) (fun w' _ => by rw [run_fo (off := 3) (by kernel_rfl), add_pl, Nat.zero_add]) ?_
  refine HV_of (v := .int .i64 m.call) (fun w' hw => run_ld1 vI rfl (by rw [cell_blk (hw.blk hb1 id)]; rfl)) ?_
  refine HV_of (v := encSt (m.frm, m.call)) (fun w' _ => run_build (P := Try.prog) w' _ _ _ (by kernel_rfl)) ?_
  have hlk : ∀ w', Mod none_ w2 w' → _ := fun w' hw => run_look KS uA (h1.calm hw).am zC_z (m.frm, m.call) true
  have hat := h.inv.at_ (m.frm, m.call)
  have hmF : ∀ {w' : World}, ¬ V.F p w.heap.size := fun z => by have := h.old _ z; omega
  have fin : ∀ (ρ : Sl) (w' : World) (had : Bool), had = (l.find? (Ms.isAt m.frm m.call)).isSome → Mod none_ w2 w' → ρ 0 = .pointer (some ⟨p, 0, none⟩) → ρ 3 = .pointer (some ⟨w.heap.size, 0, none⟩) → ρ 6 = .bool had →
      sx fn_ Try.prog 85 queue_Queue_Send_R1 (retK Try.prog [ResultVar.tmp 4] fun v w' => v = .int .i64 (sendV l m).2 ∧ ∃ V', QAt w' p (sendV l m).1 V' ∧ QFr p w V w' V') ρ w' := fun ρ w' had e hm q0 q3 q6 =>
    Send_R1 (QFr.calm (hm1.trans hm)) (h1.calm hm) hL (hm.blk hb1 id) (hmF (w' := w')) e q0 q3 q6
  cases hq : l.find? (Ms.isAt m.frm m.call) with
  | none =>
    rw [hq] at hat
    have hfe : findE (m.frm, m.call) V.ea 0 = none := by simpa using hat
    refine HV_of (v := .tuple #[encC ([], 0, 0), .bool false]) (fun w' hw => by rw [hlk w' hw, hfe]; try rfl) ?_
    refine HV_of (v := encC ([], 0, 0)) (fun _ _ => rfl) (HV_of (v := .bool false) (fun _ _ => rfl) ?_)
    refine al_k (cs := #[strV [], .int .i64 0, .int .i64 0]) zC_z rfl _ fun w3 hb3 hm3 hz3 => ⟨hd.trans hm3, ?_⟩
    refine stS (cs := #[strV [], .int .i64 0, .int .i64 0]) (old := #[strV [], .int .i64 0, .int .i64 0]) rfl rfl (by kernel_rfl) rfl (by simp [Value.oneCell', strV]) hb3 fun w4 hb4 hm4 hz4 => ⟨(hd.trans hm3).then hm4 fun i hi q => by omega, ?_⟩
    try rw [sq_n]
    exact fin _ w4 false (by rw [hq]; rfl) ((hd.trans hm3).then hm4 fun i hi q => by omega) rfl rfl rfl
  | some x =>
    rw [hq] at hat
    obtain ⟨⟨i, u⟩, hfe, hu⟩ : ∃ x', findE (m.frm, m.call) V.ea 0 = some x' ∧ x'.2 = encC x.ch := by
      cases hz : findE (m.frm, m.call) V.ea 0 with
      | none => rw [hz] at hat; cases hat
      | some x => rw [hz] at hat; exact ⟨x, rfl, by simpa using hat⟩
    dsimp only at hu
    subst hu
    refine HV_of (v := .tuple #[encC x.ch, .bool true]) (fun w' hw => by rw [hlk w' hw, hfe]; try rfl) ?_
    refine HV_of (v := encC x.ch) (fun _ _ => rfl) (HV_of (v := .bool true) (fun _ _ => rfl) ?_)
    refine al_k (cs := #[strV [], .int .i64 0, .int .i64 0]) zC_z rfl _ fun w3 hb3 hm3 hz3 => ⟨hd.trans hm3, ?_⟩
    refine stS (cs := #[strV x.key, .int .i64 x.frm, .int .i64 x.to]) (old := #[strV [], .int .i64 0, .int .i64 0]) rfl rfl (by kernel_rfl) rfl (by simp [Value.oneCell', strV]) hb3 fun w4 hb4 hm4 hz4 => ⟨(hd.trans hm3).then hm4 fun i hi q => by omega, ?_⟩
    try rw [sq_n]
    exact fin _ w4 true (by rw [hq]; rfl) ((hd.trans hm3).then hm4 fun i hi q => by omega) rfl rfl rfl
end
theorem QInv.nil (rb ab : Nat) : QInv [] ⟨rb, ab, [], [], 0, 0⟩ := ⟨by simp, by simp, by simp, by simp, by simp, by simp [findE], by simp, by simp, by simp, by simp⟩
theorem New_ok (w : World) : Rt Try.prog 23 #[] w fun v w' => ∃ p V, v = .pointer (some ⟨p, 0, none⟩) ∧ QAt w' p [] V ∧ (∀ b, V.F p b → w.heap.size ≤ b) ∧ Mod none_ w w' := by
  refine queue_New_calls ?_
  unfold queue_New_F
  refine make_ok (enc := encC) _ fun w1 h1 hm1 hz1 => ?_
  refine make_ok (enc := encSt) _ fun w2 h2 hm2 hz2 => ?_
  rw [build_ok (cs := #[.map (some w.heap.size), .map (some w1.heap.size)]) (by kernel_rfl)]
  refine box_k (cs := #[.map (some w.heap.size), .map (some w1.heap.size)]) rfl fun w3 hb3 hm3 hz3 => ?_
  refine ⟨w2.heap.size, ⟨w.heap.size, w1.heap.size, [], [], 0, 0⟩, rfl, ⟨hb3, (h1.mod hm2 id).mod hm3 id, h2.mod hm3 id, by simp, by show w.heap.size ≠ w1.heap.size; omega, QInv.nil _ _⟩, fun b q => ?_, (hm1.trans hm2).trans hm3⟩
  rcases q with q | q | q | ⟨e, he, _⟩
  · omega
  · dsimp only at q; omega
  · dsimp only at q; omega
  · cases he
end Go.Proofs.Ytmnkedgmpbcicaa.Que
set_option linter.unusedVariables false
set_option linter.unusedSimpArgs false
namespace Go.X
structure WO {α : Type} (lt : α → α → Bool) : Prop where
  irr : ∀ a, lt a a = false
  asym : ∀ a b, lt a b = true → lt b a = false
  tr : ∀ a b c, lt b a = false → lt c b = false → lt c a = false
section
variable {α : Type} {lt : α → α → Bool}
def eqv (lt : α → α → Bool) (a b : α) : Bool := !lt a b && !lt b a
def SortedL (lt : α → α → Bool) (l : List α) : Prop := l.Pairwise fun a b => lt b a = false
structure Stab (lt : α → α → Bool) (l s : List α) : Prop where
  so : SortedL lt s
  eq : ∀ x, s.filter (eqv lt x) = l.filter (eqv lt x)
theorem eqv_refl (W : WO lt) (a : α) : eqv lt a a = true := by simp [eqv, W.irr]
theorem SameF.mem (W : WO lt) {l s : List α} (h : ∀ x, s.filter (eqv lt x) = l.filter (eqv lt x)) {a : α} : a ∈ s ↔ a ∈ l := by
  have h1 : a ∈ s ↔ a ∈ s.filter (eqv lt a) := by simp [eqv_refl W]
  have h2 : a ∈ l ↔ a ∈ l.filter (eqv lt a) := by simp [eqv_refl W]
  rw [h1, h2, h]
theorem Stab.mem (W : WO lt) {l s : List α} (h : Stab lt l s) {a : α} : a ∈ s ↔ a ∈ l := SameF.mem W h.eq
theorem Stab.len (W : WO lt) : ∀ {l s : List α}, (∀ x, s.filter (eqv lt x) = l.filter (eqv lt x)) → s.length = l.length := by
  intro l
  induction hn : l.length using Nat.strongRecOn generalizing l with
  | ind n ih =>
    intro s h
    cases l with
    | nil =>
      cases s with
      | nil => simpa using hn
      | cons b s => have := h b; simp [eqv_refl W] at this
    | cons a l =>
      have c1 : ∀ (m : List α), m.length = (m.filter (eqv lt a)).length + (m.filter fun x => !eqv lt a x).length := fun m => by
        induction m with
        | nil => rfl
        | cons b m ih => by_cases c : eqv lt a b = true <;> simp [c, ih] <;> omega
      have c2 := c1 s
      have c3 := c1 (a :: l)
      rw [h a] at c2
      have key : (s.filter fun x => !eqv lt a x).length = ((a :: l).filter fun x => !eqv lt a x).length := by
        refine ih _ ?_ rfl (fun x => ?_)
        · rw [← hn]
          rw [List.filter_cons_of_neg (by simp [eqv_refl W])]
          exact Nat.lt_of_le_of_lt (List.length_filter_le _ _) (by simp)
        · rw [List.filter_filter, List.filter_filter]
          have e1 : ∀ m : List α, m.filter (fun y => eqv lt x y && !eqv lt a y) = (m.filter (eqv lt x)).filter fun y => !eqv lt a y := fun m => by
            rw [List.filter_filter]
            congr 1; funext y; rw [Bool.and_comm]
          rw [e1, e1, h x]
      omega
theorem Stab.refl {l : List α} (h : SortedL lt l) : Stab lt l l := ⟨h, fun _ => rfl⟩
theorem Stab.trans {l m s : List α} (h : ∀ x, m.filter (eqv lt x) = l.filter (eqv lt x)) (k : Stab lt m s) : Stab lt l s := ⟨k.so, fun x => (k.eq x).trans (h x)⟩
theorem filt_swap (W : WO lt) {A B : List α} (h : ∀ a ∈ A, ∀ b ∈ B, lt b a = true) (x : α) : (B ++ A).filter (eqv lt x) = (A ++ B).filter (eqv lt x) := by
  rw [List.filter_append, List.filter_append]
  by_cases c : A.filter (eqv lt x) = []
  · rw [c]; simp
  · have : B.filter (eqv lt x) = [] := by
      obtain ⟨a, ha⟩ := List.exists_mem_of_ne_nil _ c
      rw [List.mem_filter] at ha
      refine List.filter_eq_nil_iff.2 fun b hb q => ?_
      have hba := h a ha.1 b hb
      have e1 := ha.2
      simp only [eqv, Bool.and_eq_true, Bool.not_eq_true'] at e1 q
      have : lt b a = false := W.tr a x b e1.1 q.2
      rw [hba] at this; cases this
    rw [this]; simp
theorem stab_ins (W : WO lt) {S1 S2 : List α} {x : α} (hs : SortedL lt (S1 ++ S2)) (h1 : ∀ a ∈ S1, lt x a = false) (h2 : ∀ b ∈ S2, lt x b = true) : Stab lt ((S1 ++ S2) ++ [x]) (S1 ++ x :: S2) := by
  refine ⟨?_, fun y => ?_⟩
  · rw [SortedL, List.pairwise_append] at hs ⊢
    refine ⟨hs.1, List.pairwise_cons.2 ⟨fun b hb => W.asym _ _ (h2 b hb), hs.2.1⟩, fun a ha b hb => ?_⟩
    rcases List.mem_cons.1 hb with rfl | hb
    · exact h1 a ha
    · exact hs.2.2 a ha b hb
  · have : S1 ++ x :: S2 = S1 ++ ([x] ++ S2) := by simp
    rw [this, List.append_assoc, List.filter_append, List.filter_append (p := eqv lt y) S1, filt_swap W (A := S2) (B := [x]) (fun a ha b hb => by rw [List.mem_singleton.1 hb]; exact h2 a ha)]
theorem stab_out (W : WO lt) {Y1 Y2 : List α} {x : α} (hs : SortedL lt (Y1 ++ Y2)) (h1 : ∀ a ∈ Y1, lt a x = true) (h2 : ∀ b ∈ Y2, lt b x = false) : Stab lt (x :: (Y1 ++ Y2)) (Y1 ++ x :: Y2) := by
  refine ⟨?_, fun y => ?_⟩
  · rw [SortedL, List.pairwise_append] at hs ⊢
    refine ⟨hs.1, List.pairwise_cons.2 ⟨h2, hs.2.1⟩, fun a ha b hb => ?_⟩
    rcases List.mem_cons.1 hb with rfl | hb
    · exact W.asym _ _ (h1 a ha)
    · exact hs.2.2 a ha b hb
  · have e1 : Y1 ++ x :: Y2 = (Y1 ++ [x]) ++ Y2 := by simp
    have e2 : x :: (Y1 ++ Y2) = ([x] ++ Y1) ++ Y2 := by simp
    rw [e1, e2, List.filter_append, List.filter_append (p := eqv lt y) ([x] ++ Y1), filt_swap W (A := [x]) (B := Y1) (fun a ha b hb => by rw [List.mem_singleton.1 ha]; exact h1 b hb)]
theorem SortedL.at_ {l : List α} (h : SortedL lt l) {i j : Nat} {a b : α} (hij : i < j) (ha : l[i]? = some a) (hb : l[j]? = some b) : lt b a = false := by
  obtain ⟨hj, rfl⟩ := List.getElem?_eq_some_iff.1 hb
  obtain ⟨hi, rfl⟩ := List.getElem?_eq_some_iff.1 ha
  exact List.pairwise_iff_getElem.1 h i j hi hj hij
theorem SortedL.le_at (W : WO lt) {l : List α} (h : SortedL lt l) {i j : Nat} {a b : α} (hij : i ≤ j) (ha : l[i]? = some a) (hb : l[j]? = some b) : lt b a = false := by
  rcases Nat.lt_or_eq_of_le hij with q | q
  · exact h.at_ q ha hb
  · subst q; rw [ha] at hb; cases hb; exact W.irr _
end
end Go.X
set_option linter.unusedVariables false
set_option linter.unusedSimpArgs false
set_option maxRecDepth 4000
namespace Go.X
open Go Go.RowKit
theorem bl_irr : ∀ a : List UInt8, Op.bytesLess a a = false
  | [] => rfl
  | a :: x => by simp [Op.bytesLess, bl_irr x]
theorem bl_tri : ∀ {a b : List UInt8}, Op.bytesLess a b = false → Op.bytesLess b a = false → a = b
  | [], [], _, _ => rfl
  | [], _ :: _, h, _ => by simp [Op.bytesLess] at h
  | _ :: _, [], _, h => by simp [Op.bytesLess] at h
  | a :: x, b :: y, h, k => by
    simp only [Op.bytesLess, Bool.or_eq_false_iff, decide_eq_false_iff_not, Bool.and_eq_false_iff] at h k
    have e : a = b := by
      apply UInt8.le_antisymm
      · exact UInt8.not_lt.1 k.1
      · exact UInt8.not_lt.1 h.1
    subst e
    simp at h k
    rw [bl_tri h k]
theorem bl_tr : ∀ {a b c : List UInt8}, Op.bytesLess a b = true → Op.bytesLess b c = true → Op.bytesLess a c = true
  | _, [], _, h, _ => by cases ‹List UInt8› <;> simp [Op.bytesLess] at h
  | _, _ :: _, [], _, h => by simp [Op.bytesLess] at h
  | [], _ :: _, _ :: _, _, _ => by simp [Op.bytesLess]
  | a :: x, b :: y, c :: z, h, k => by
    simp only [Op.bytesLess, Bool.or_eq_true, decide_eq_true_eq, Bool.and_eq_true, beq_iff_eq] at h k ⊢
    rcases h with h | ⟨rfl, h⟩ <;> rcases k with k | ⟨rfl, k⟩
    · exact .inl (UInt8.lt_trans h k)
    · exact .inl h
    · exact .inl k
    · exact .inr ⟨rfl, bl_tr h k⟩
def ltC (a b : Ch) : Bool := Op.bytesLess a.1 b.1 || (decide (a.1 = b.1) && (decide (a.2.1 < b.2.1) || (decide (a.2.1 = b.2.1) && decide (a.2.2 < b.2.2))))
theorem ltC_iff {a b : Ch} : ltC a b = true ↔ Op.bytesLess a.1 b.1 = true ∨ a.1 = b.1 ∧ (a.2.1 < b.2.1 ∨ a.2.1 = b.2.1 ∧ a.2.2 < b.2.2) := by simp [ltC]
theorem ltC_irr (a : Ch) : ltC a a = false := by
  cases h : ltC a a with
  | false => rfl
  | true =>
    rcases ltC_iff.1 h with q | ⟨_, q | ⟨_, q⟩⟩
    · rw [bl_irr] at q; cases q
    · omega
    · omega
theorem ltC_tr {a b c : Ch} (h : ltC a b = true) (k : ltC b c = true) : ltC a c = true := by
  rw [ltC_iff] at h k ⊢
  rcases h with h | ⟨h1, h2⟩ <;> rcases k with k | ⟨k1, k2⟩
  · exact .inl (bl_tr h k)
  · rw [← k1]; exact .inl h
  · rw [h1]; exact .inl k
  · refine .inr ⟨h1.trans k1, ?_⟩
    omega
theorem ltC_tri {a b : Ch} (h : ltC a b = false) (k : ltC b a = false) : a = b := by
  obtain ⟨a1, a2, a3⟩ := a; obtain ⟨b1, b2, b3⟩ := b
  have h' : ¬ _ := fun q => by rw [ltC_iff.2 q] at h; cases h
  have k' : ¬ _ := fun q => by rw [ltC_iff.2 q] at k; cases k
  dsimp only at h' k'
  have e : a1 = b1 := bl_tri (by cases q : Op.bytesLess a1 b1 with | false => rfl | true => exact absurd (.inl q) h') (by cases q : Op.bytesLess b1 a1 with | false => rfl | true => exact absurd (.inl q) k')
  subst e
  have h2 : ¬ (a2 < b2 ∨ a2 = b2 ∧ a3 < b3) := fun q => h' (.inr ⟨rfl, q⟩)
  have k2 : ¬ (b2 < a2 ∨ b2 = a2 ∧ b3 < a3) := fun q => k' (.inr ⟨rfl, q⟩)
  have e2 : a2 = b2 := by omega
  have e3 : a3 = b3 := by omega
  rw [e2, e3]
def ltM (a b : Ms) : Bool := ltC a.ch b.ch
theorem ltC_asym {a b : Ch} (h : ltC a b = true) : ltC b a = false := by
  cases k : ltC b a with
  | false => rfl
  | true => have := ltC_tr h k; rw [ltC_irr] at this; cases this
theorem ltM_wo : WO ltM := by
  refine ⟨fun a => ltC_irr _, fun a b h => ltC_asym h, fun a b c h k => ?_⟩
  unfold ltM at *
  cases q : ltC c.ch a.ch with
  | false => rfl
  | true =>
    cases r : ltC a.ch b.ch with
    | true => have := ltC_tr q r; rw [k] at this; cases this
    | false => rw [ltC_tri r h] at q; rw [k] at q; cases q
end Go.X
namespace Go.Proofs.Ytmnkedgmpbcicaa.Que
open Go Go.X Go.RowKit Go.Proofs.Ytmnkedgmpbcicaa.XF Go.Proofs.Ytmnkedgmpbcicaa.XK
theorem toL (a : List UInt8) : (⟨a.toArray⟩ : ByteArray).toList = a := by simp
theorem BK_lssS {P : Program} {w : World} {K : Value → World → Prop} (t : TypeId) (x y : Operand) (a b : List UInt8) : BK P .lss t x y (strV a) (strV b) w K = K (.bool (Op.bytesLess a b)) w := by
  unfold strV
  exact BK_of rfl (by rw [binOp_string_lss, toL, toL]; rfl)
def ints (l : List Int) : List Value := l.map (Value.int .i64)
theorem ints_get {l : List Int} {i : Nat} {x : Int} (h : l[i]? = some x) : (ints l)[i]? = some (.int .i64 x) := by unfold ints; simp [h]
theorem vIs : Try.prog.underlying 107 = some (.slice 3) := by kernel_rfl
end Go.Proofs.Ytmnkedgmpbcicaa.Que
set_option linter.unusedVariables false
set_option linter.unusedSimpArgs false
set_option maxRecDepth 4000
namespace Go.X
open Go Go.RowKit
theorem get_mid {α : Type} {A B : List α} {x : α} : (A ++ x :: B)[A.length]? = some x := by simp
def dv (g cap n : Nat) : Value := .slice (some ⟨g, 0, none⟩) n cap
end Go.X
namespace Go.Proofs.Ytmnkedgmpbcicaa.Que
open Go Go.X Go.RowKit Go.Proofs.Ytmnkedgmpbcicaa.XF Go.Proofs.Ytmnkedgmpbcicaa.XK
def Dat (w : World) (g cap : Nat) (l : List Ms) : Prop := w.ownsRow 0 tMs 8 (dv g cap l.length) l.length (l.flatMap Ms.enc)
section
variable {w : World} {g cap : Nat} {l : List Ms}
theorem Dat.mod {S : Nat → Prop} {w' : World} (h : Dat w g cap l) (hm : Mod S w w') (hS : ¬ S g) : Dat w' g cap l := owns_mod h hm fun k z y => by
  have : k = g := by unfold dv at z; exact (Option.some.inj z).symm
  subst this; exact hS y
theorem Dat.calm {w' : World} (h : Dat w g cap l) (hm : Mod none_ w w') : Dat w' g cap l := h.mod hm id
theorem Dat.lt (h : Dat w g cap l) : g < w.heap.size := by
  obtain ⟨c, hc⟩ := owns_blk h (g := g) rfl
  exact X.blk_lt hc
theorem Dat.ix {i : Nat} {k : Int} (hk : k = (i : Int)) (hi : i < l.length) (w' : World) : (Instr.indexAt tMsS (dv g cap l.length) (.int .i64 k)).run Try.prog w' = .ok (.pointer (some ⟨g, i * 8, none⟩)) w' := by
  subst hk
  unfold dv
  rw [run_ixa vMsS cMs (by omega) (by omega) w', add_pl, Nat.zero_add, show ((i : Int)).toNat = i by omega]
theorem Dat.run_ld {i : Nat} {m : Ms} (h : Dat w g cap l) (hi : l[i]? = some m) : (Instr.loadAt tMs (.pointer (some ⟨g, i * 8, none⟩))).run Try.prog w = .ok (.agg m.enc.toArray) w := by
  refine run_ldA (cs := m.enc) Try.underlying39 rfl (by rw [iMs]; rfl) (fun j u hu => ?_)
  have hk : j < 7 + 1 := (List.getElem?_eq_some_iff.1 hu).1
  obtain ⟨_, A, cc, es, _, hr⟩ := reads_of_owns h
  cases es
  obtain ⟨a, ha, hc⟩ := hr (i * (7 + 1) + j) u (by rw [fl_get (k := 7 + 1) Ms.enc_len hi hk]; exact hu)
  cases ha
  rw [add_pl] at hc ⊢
  simpa using hc
theorem Dat.ld {i : Nat} {m : Ms} {K : Value → World → Prop} (h : Dat w g cap l) (hi : l[i]? = some m) (hK : K (.agg m.enc.toArray) w) : VK Try.prog (Instr.loadAt tMs (.pointer (some ⟨g, i * 8, none⟩))) w K := VK_of (h.run_ld hi) hK
end
end Go.Proofs.Ytmnkedgmpbcicaa.Que
set_option linter.unusedVariables false
set_option linter.unusedSimpArgs false
set_option maxRecDepth 4000
namespace Go.Proofs.Ytmnkedgmpbcicaa.Que
open Go Go.X Go.RowKit Go.Proofs.Ytmnkedgmpbcicaa.XF Go.Proofs.Ytmnkedgmpbcicaa.XK
theorem Qsub {P : Program} {C : World → Prop} {K : Value → Prop} {t : TypeId} {x y : Operand} {k : IntKind} {a b : Int} (hk : K (.int k (k.wrap (a - b)))) : QK P C (do pure (Next.value (← (do eqGuard .sub t x y (.int k a) (.int k b); binOp .sub t (.int k a) (.int k b))))) K := QB_of (fun _ => rfl) (fun w => by simp [go_sem]) hk
section
variable {w : World} {g cap : Nat} {K : Exit → Sl → World → Prop} {ρ : Sl}
end
end Go.Proofs.Ytmnkedgmpbcicaa.Que
set_option linter.unusedVariables false
set_option linter.unusedSimpArgs false
set_option maxRecDepth 4000
namespace Go.Proofs.Ytmnkedgmpbcicaa.Que
open Go Go.X Go.RowKit Go.Proofs.Ytmnkedgmpbcicaa.XF Go.Proofs.Ytmnkedgmpbcicaa.XK
section
variable {w : World} {g cap : Nat} {K : Exit → Sl → World → Prop} {ρ : Sl}
end
end Go.Proofs.Ytmnkedgmpbcicaa.Que
set_option linter.unusedVariables false
set_option linter.unusedSimpArgs false
set_option maxRecDepth 4000
namespace Go.X
end Go.X
namespace Go.Proofs.Ytmnkedgmpbcicaa.Que
open Go Go.X Go.RowKit Go.Proofs.Ytmnkedgmpbcicaa.XF Go.Proofs.Ytmnkedgmpbcicaa.XK
section
variable {w : World} {g cap : Nat} {K : Exit → Sl → World → Prop} {ρ : Sl}
end
end Go.Proofs.Ytmnkedgmpbcicaa.Que
set_option linter.unusedVariables false
set_option linter.unusedSimpArgs false
set_option maxRecDepth 4000
namespace Go.X
end Go.X
namespace Go.Proofs.Ytmnkedgmpbcicaa.Que
open Go Go.X Go.RowKit Go.Proofs.Ytmnkedgmpbcicaa.XF Go.Proofs.Ytmnkedgmpbcicaa.XK
structure SG (ρ ρ' : Sl) : Prop where
  e0 : ρ' 0 = ρ 0
  e1 : ρ' 1 = ρ 1
  e2 : ρ' 2 = ρ 2
  e3 : ρ' 3 = ρ 3
  e4 : ρ' 4 = ρ 4
theorem SG.trans {a b c : Sl} (h : SG a b) (k : SG b c) : SG a c := ⟨k.e0.trans h.e0, k.e1.trans h.e1, k.e2.trans h.e2, k.e3.trans h.e3, k.e4.trans h.e4⟩
section
variable {w : World} {g cap n : Nat} {K : Exit → Sl → World → Prop} {ρ : Sl} {P X Y R : List Ms} {x y : Ms}
end
end Go.Proofs.Ytmnkedgmpbcicaa.Que
set_option linter.unusedVariables false
set_option linter.unusedSimpArgs false
set_option maxRecDepth 4000
namespace Go.Proofs.Ytmnkedgmpbcicaa.Que
open Go Go.X Go.RowKit Go.Proofs.Ytmnkedgmpbcicaa.XF Go.Proofs.Ytmnkedgmpbcicaa.XK
section
variable {w : World} {g cap n : Nat} {K : Exit → Sl → World → Prop} {ρ : Sl} {P X Y R : List Ms} {x y : Ms}
end
end Go.Proofs.Ytmnkedgmpbcicaa.Que
set_option linter.unusedVariables false
set_option linter.unusedSimpArgs false
set_option maxRecDepth 4000
namespace Go.Proofs.Ytmnkedgmpbcicaa.Que
open Go Go.X Go.RowKit Go.Proofs.Ytmnkedgmpbcicaa.XF Go.Proofs.Ytmnkedgmpbcicaa.XK
section
variable {w : World} {g cap n N : Nat} {K : Exit → Sl → World → Prop} {ρ : Sl} {P X Y R : List Ms}
end
end Go.Proofs.Ytmnkedgmpbcicaa.Que
set_option linter.unusedVariables false
set_option linter.unusedSimpArgs false
set_option maxRecDepth 4000
namespace Go.Proofs.Ytmnkedgmpbcicaa.Que
open Go Go.X Go.RowKit Go.Proofs.Ytmnkedgmpbcicaa.XF Go.Proofs.Ytmnkedgmpbcicaa.XK
section
variable {w : World} {g cap n N : Nat} {ρ : Sl} {P X Y R : List Ms}
end
end Go.Proofs.Ytmnkedgmpbcicaa.Que
set_option linter.unusedVariables false
set_option linter.unusedSimpArgs false
set_option maxRecDepth 4000
namespace Go.Proofs.Ytmnkedgmpbcicaa.Que
open Go Go.X Go.RowKit Go.Proofs.Ytmnkedgmpbcicaa.XF Go.Proofs.Ytmnkedgmpbcicaa.XK
def Fq (l l' : List Ms) : Prop := ∀ x, l'.filter (eqv ltM x) = l.filter (eqv ltM x)
theorem Fq.len {l l' : List Ms} (h : Fq l l') : l'.length = l.length := Stab.len ltM_wo h
section
variable {w : World} {g cap n : Nat} {l : List Ms}
structure Bl (bs : Nat) (Bs : List (List Ms)) (C : List Ms) : Prop where
  so : ∀ B ∈ Bs, SortedL ltM B ∧ B.length = bs
  last : SortedL ltM C
theorem Bl.len {bs : Nat} {Bs : List (List Ms)} (h : ∀ B ∈ Bs, SortedL ltM B ∧ B.length = bs) : Bs.flatten.length = Bs.length * bs := by
  induction Bs with
  | nil => simp
  | cons B Bs ih =>
    rw [List.flatten_cons, List.length_append, ih fun x hx => h x (List.mem_cons_of_mem _ hx), (h B List.mem_cons_self).2, List.length_cons, Nat.succ_mul]
    omega
end
end Go.Proofs.Ytmnkedgmpbcicaa.Que
set_option linter.unusedVariables false
set_option linter.unusedSimpArgs false
namespace Go.X
open Go Go.RowKit
section
variable {κ : Type} [DecidableEq κ] {P : Program} {enc : κ → Value}
def IterAt (w : World) (r bm since : Nat) (seen : List Nat) (c : Nat) : Prop := w.heap[r]? = some (.mapIter (some bm) since seen.toArray c)
omit [DecidableEq κ] in
theorem IterAt.mod {S : Nat → Prop} {w w' : World} {r bm since c : Nat} {seen : List Nat} (h : IterAt w r bm since seen c) (hm : Mod S w w') (hS : ¬ S r) : IterAt w' r bm since seen c := hm.blk h hS
omit [DecidableEq κ] in
theorem range_k {w : World} {t k e : TypeId} (ht : P.underlying t = some (.map k e)) {b : Nat} {l : List (Ent κ)} {c : Nat} (h : IsMap enc w b l c) {K : Value → World → Prop}
    (hk : ∀ w', IterAt w' w.heap.size b c [] c → Mod none_ w w' → w'.heap.size = w.heap.size + 1 → K (.pointer (some ⟨w.heap.size, 0, none⟩)) w') : VK P (Instr.range t (.map (some b))) w K :=
  VK_of (run_range_map w t k e b _ c ht h) (new_k w _ hk)
omit [DecidableEq κ] in
theorem next_k {w : World} {r b since c : Nat} {seen : List Nat} {l : List (Ent κ)} {ty : TypeId} (h : IsMap enc w b l c) (hr : IterAt w r b since seen c) (hb : ∀ e ∈ l, e.b < since) (hsc : since ≤ c) {K : Value → World → Prop}
    (h0 : (∀ e ∈ l, e.b ∈ seen) → K (.tuple #[.bool false]) w)
    (h1 : ∀ e ∈ l, e.b ∉ seen → ∀ w', IterAt w' r b since (seen ++ [e.b]) c → Mod (fun i => i = r) w w' → w'.heap.size = w.heap.size → K (.tuple #[.bool true, enc e.k, e.v]) w') : VK P (Instr.next (.pointer (some ⟨r, 0, none⟩)) false ty) w K := by
  rcases run_next_at (P := P) w ty r b since c seen.toArray (l.map (Ent.enc enc)).toArray c hr h (fun x hx => by
      simp only [List.mem_map] at hx
      obtain ⟨e, he, rfl⟩ := hx
      exact hb e he) hsc with ⟨hz, hrun⟩ | ⟨e', he', w1, hw1, hrun⟩
  · refine VK_of hrun (h0 fun e he => ?_)
    have hl : leftOf (l.map (Ent.enc enc)).toArray seen.toArray = #[] := Array.eq_empty_of_size_eq_zero hz
    unfold leftOf at hl
    rw [Array.filter_eq_empty_iff] at hl
    have := hl (e.enc enc) (by simp; exact ⟨e, he, rfl⟩)
    simpa [Ent.enc] using this
  · obtain ⟨hm, hs⟩ := mem_left he'
    simp only [List.mem_map] at hm
    obtain ⟨e, he, rfl⟩ := hm
    have hns : e.b ∉ seen := by simpa [Ent.enc] using hs
    have hb1 : w1.heap = w.heap := by rcases hw1 with rfl | rfl <;> rfl
    have hm1 : Mod none_ w w1 := by
      rcases hw1 with rfl | rfl
      · exact Mod.refl _ _
      · exact (Mod.refl _ w).drawn _
    have hlt : r < w1.heap.size := by rw [hb1]; exact X.blk_lt hr
    refine VK_of hrun (h1 e he hns _ ?_ ((hm1.mono fun _ _ z => z.elim).trans ((Mod.refl _ w1).set _ fun _ => rfl)) (by show (w1.heap.setIfInBounds _ _).size = _; simp [hb1]))
    show (setB w1 r (.mapIter (some b) since (seen.toArray.push e.b) c)).heap[r]? = _
    rw [setB_new _ _ _ hlt, List.push_toArray]
omit [DecidableEq κ] in
theorem entry_k {w : World} {r b since c : Nat} {seen : List Nat} {l : List (Ent κ)} {e : Ent κ} (h : IsMap enc w b l c) (hr : IterAt w r b since (seen ++ [e.b]) c) (he : e ∈ l) (hn : ∀ (i j : Nat) (x y : Ent κ), l[i]? = some x → l[j]? = some y → x.b = y.b → i = j) {K : Value → World → Prop}
    (hk : K (.tuple #[enc e.k, e.v]) w) : VK P (Instr.entry (.pointer (some ⟨r, 0, none⟩))) w K := by
  have hnd : (((l.map (Ent.enc enc)).toArray.toList).map (·.born)).Nodup := by
    simp only [List.map_map, List.Nodup]
    rw [List.pairwise_map, List.pairwise_iff_getElem]
    intro i j hi hj hij q
    have := hn i j _ _ (List.getElem?_eq_getElem hi) (List.getElem?_eq_getElem hj) q
    omega
  have hr' : w.heap[r]? = some (.mapIter (some b) since (seen.toArray.push (e.enc enc).born) c) := by
    have := hr
    unfold IterAt at this
    rw [List.push_toArray]
    exact this
  exact VK_of (run_entry_at (P := P) w r b since seen.toArray _ c (e.enc enc) hr' h (by simp; exact ⟨e, he, rfl⟩) hnd) hk
def togo (l : List (Ent κ)) (seen : List Nat) : Nat := (l.filter fun e => decide (e.b ∉ seen)).length
theorem filt_lt {α : Type} {p q : α → Bool} {e : α} (hpq : ∀ x, q x = true → p x = true) (hp : p e = true) (hq : q e = false) : ∀ {l : List α}, e ∈ l → (l.filter q).length < (l.filter p).length
  | a :: l, he => by
    have le : ∀ l : List α, (l.filter q).length ≤ (l.filter p).length := fun l => by
      induction l with
      | nil => exact Nat.le_refl _
      | cons a l ih =>
        by_cases c : q a = true
        · simp [c, hpq a c, ih]
        · by_cases d : p a = true <;> simp [c, d] <;> omega
    rcases List.mem_cons.1 he with rfl | he
    · simp only [List.filter_cons, hp, hq, if_true, Bool.false_eq_true, if_false, List.length_cons]
      have := le l; omega
    · have ih := filt_lt hpq hp hq he
      by_cases c : q a = true
      · simp [c, hpq a c, ih]
      · by_cases d : p a = true <;> simp [c, d] <;> omega
omit [DecidableEq κ] in
theorem togo_lt {l : List (Ent κ)} {seen : List Nat} {e : Ent κ} (he : e ∈ l) (hn : e.b ∉ seen) : togo l (seen ++ [e.b]) < togo l seen := by
  unfold togo
  exact filt_lt (fun x hx => by simp at hx ⊢; exact hx.1) (by simpa using hn) (by simp) he
end
end Go.X
set_option linter.unusedVariables false
set_option linter.unusedSimpArgs false
set_option maxRecDepth 4000
namespace Go.X
open Go Go.RowKit
def nt (m : Ms) : Bool := !m.taken
def aheadV (l : List Ms) (f c : Int) : List Ms := match l.find? (Ms.isAt f c) with | none => [] | some m => (rowOf (l.takeWhile fun x => !x.isAt f c) m.ch).filter nt
theorem ahead_row {l : List Ms} (hu : l.Pairwise fun a b => ¬ (a.frm = b.frm ∧ a.call = b.call)) {m : Ms} {f c : Int} (hm : l.find? (Ms.isAt f c) = some m) {j : Nat} (hj : (rowOf l m.ch)[j]? = some m) : (rowOf l m.ch).take j = rowOf (l.takeWhile fun x => !x.isAt f c) m.ch := by
  obtain ⟨hp, xs, ys, rfl, has⟩ := List.find?_eq_some_iff_append.1 hm
  have e1 : (xs ++ m :: ys).takeWhile (fun x => !x.isAt f c) = xs := by
    rw [List.takeWhile_append_of_pos has, List.takeWhile_cons_of_neg (by simp [hp]), List.append_nil]
  have e2 : rowOf (xs ++ m :: ys) m.ch = rowOf xs m.ch ++ m :: rowOf ys m.ch := by unfold rowOf; simp
  rw [e1, e2]
  rw [e2] at hj
  have hur : (rowOf xs m.ch ++ m :: rowOf ys m.ch).Pairwise fun a b => ¬ (a.frm = b.frm ∧ a.call = b.call) := by rw [← e2]; exact hu.filter _
  have hlt := (List.getElem?_eq_some_iff.1 hj).1
  have hat : (rowOf xs m.ch ++ m :: rowOf ys m.ch)[(rowOf xs m.ch).length]? = some m := get_mid
  have : j = (rowOf xs m.ch).length := by
    obtain ⟨hj1, hj2⟩ := List.getElem?_eq_some_iff.1 hj
    obtain ⟨hk1, hk2⟩ := List.getElem?_eq_some_iff.1 hat
    rcases Nat.lt_trichotomy j (rowOf xs m.ch).length with q | q | q
    · exact absurd ⟨by rw [hj2, hk2], by rw [hj2, hk2]⟩ (List.pairwise_iff_getElem.1 hur _ _ hj1 hk1 q)
    · exact q
    · exact absurd ⟨by rw [hj2, hk2], by rw [hj2, hk2]⟩ (List.pairwise_iff_getElem.1 hur _ _ hk1 hj1 q)
  rw [this, List.take_left']
  rfl
theorem fl_take {α : Type} {enc : α → List Value} {k : Nat} (hk : ∀ a, (enc a).length = k) : ∀ (xs : List α) (n : Nat), (xs.flatMap enc).take (n * k) = (xs.take n).flatMap enc
  | [], n => by simp
  | x :: xs, 0 => by simp
  | x :: xs, n + 1 => by
    rw [List.take_succ_cons, List.flatMap_cons, List.flatMap_cons, ← fl_take hk xs n]
    rw [show (n + 1) * k = (enc x).length + n * k by rw [hk, Nat.succ_mul]; omega, List.take_length_add_append]
end Go.X
namespace Go.Proofs.Ytmnkedgmpbcicaa.Que
open Go Go.X Go.RowKit Go.Proofs.Ytmnkedgmpbcicaa.XF Go.Proofs.Ytmnkedgmpbcicaa.XK
theorem owns_bd {w2 : World} {B : Nat} {e : TypeId} {s : Nat} {v : Value} {n : Nat} {xs : List Value} (ho : w2.ownsRow B e s v n xs) : ∀ g, sb v g → B ≤ g ∧ g < w2.heap.size := fun g z => by
  rcases ho.2 with ⟨y, _⟩ | ⟨g', cap', cur', rfl, hb', hg', _⟩
  · unfold sb at z; rw [y] at z; cases z
  · cases z; exact ⟨hb', X.blk_lt hg'⟩
theorem app1 {w : World} {v : Value} {xs : List Ms} {m : Ms} {B : Nat} {K : Value → Value → World → Prop} (ho : w.ownsRow B tMs 8 v xs.length (xs.flatMap Ms.enc)) (hB : B ≤ w.heap.size) (hl : xs.length ≤ 2000000)
    (hk : ∀ x v' w', w'.ownsRow B tMs 8 v' (xs ++ [m]).length ((xs ++ [m]).flatMap Ms.enc) → Mod (fun b => B ≤ b) w w' → K x v' w') :
    VK Try.prog (Instr.buildSlice tMsS 1 [(0, .agg m.enc.toArray)].toArray) w fun x w => IK Try.prog .append #[tMsS, tMsS] tMsS [false, false] [v, x] w (K x) := by
  refine bs_k (cs := m.enc.toArray) (by kernel_rfl) fun w1 hb1 hm1 hz1 => ?_
  refine ap_any eMsS (owns_mod ho hm1 fun _ _ => id) (reads_blk (size := 8) (n := 1) hb1 rfl) (fun u hu => Ms.enc_mem [m] u (by simpa using hu)) (by unfold maxLen; omega) (by omega) (by omega) fun v' w2 ho2 hm2 hv2 => ?_
  refine hk _ v' w2 ?_ ((hm1.mono fun _ _ z => z.elim).trans (hm2.mono fun b _ z => (owns_bd (owns_mod ho hm1 fun _ _ => id) b z.symm).1))
  rw [List.length_append, List.flatMap_append]
  simpa using ho2
section
variable {w : World} {p : Nat} {l : List Ms} {V : QV}
abbrev RowP (w0 : World) (xs : List Ms) : Value → World → Prop := fun v w' => w'.ownsRow w0.heap.size tMs 8 v xs.length (xs.flatMap Ms.enc) ∧ Mod none_ w0 w'
end
end Go.Proofs.Ytmnkedgmpbcicaa.Que
set_option linter.unusedVariables false
set_option linter.unusedSimpArgs false
set_option maxRecDepth 4000
namespace Go.Proofs.Ytmnkedgmpbcicaa.Que
open Go Go.X Go.RowKit Go.Proofs.Ytmnkedgmpbcicaa.XF Go.Proofs.Ytmnkedgmpbcicaa.XK
section
variable {w : World} {p : Nat} {l : List Ms} {V : QV}
abbrev LeftP (w0 : World) (l : List Ms) : Value → World → Prop := fun v w' => ∃ S, Stab ltM (l.filter nt) S ∧ w'.ownsRow w0.heap.size tMs 8 v S.length (S.flatMap Ms.enc) ∧ Mod none_ w0 w'
end
end Go.Proofs.Ytmnkedgmpbcicaa.Que
set_option linter.unusedVariables false
set_option linter.unusedSimpArgs false
set_option maxRecDepth 4000
namespace Go.X
open Go Go.RowKit
theorem bs0_k {P : Program} {w : World} {K : Value → World → Prop} {t e : TypeId} {n : Nat} (hu : P.underlying t = some (.slice e)) (hi : (P.info? e).map (·.size) = some n)
    (hk : ∀ w', w'.heap[w.heap.size]? = some (.cells #[] e (0, 0)) → Mod none_ w w' → w'.heap.size = w.heap.size + 1 → K (.slice (some ⟨w.heap.size, 0, none⟩) 0 0) w') : VK P (Instr.buildSlice t 0 [].toArray) w K := by
  obtain ⟨ie, hie, _⟩ := Option.map_eq_some_iff.1 hi
  have hr : (Instr.buildSlice t 0 [].toArray).run P w = .ok (.slice (some ⟨w.heap.size, 0, none⟩) 0 0) (w.alloc (.cells #[] e)) := by
    simp [Instr.buildSlice, Sem.run_bind, run_underlying hu, sizeOf, typeInfo, hie, Instr.fill, newRow]
    rw [Array.eq_empty_of_size_eq_zero (xs := Array.map _ (Array.range 0)) (by simp)]
  exact VK_of hr (new_k w _ hk)
theorem owns_zero {w : World} {b : Nat} {e : TypeId} {size base : Nat} (h : w.heap[b]? = some (.cells #[] e (0, 0))) (hb : base ≤ b) : w.ownsRow base e size (.slice (some ⟨b, 0, none⟩) 0 0) 0 [] :=
  ⟨by simp, .inr ⟨b, 0, #[], rfl, hb, h, Nat.le_refl _, Nat.zero_le _, by simp, by simp⟩⟩
end Go.X
namespace Go.Proofs.Ytmnkedgmpbcicaa.Que
open Go Go.X Go.RowKit Go.Proofs.Ytmnkedgmpbcicaa.XF Go.Proofs.Ytmnkedgmpbcicaa.XK
theorem BK_sln {t e : TypeId} (h : Try.prog.underlying t = some (.slice e)) {w : World} {K : Value → World → Prop} {x y : Operand} (a : Option Addr) (n c : Nat) : BK Try.prog .eql t x y (.slice a n c) (.slice none 0 0) w K = K (.bool a.isNone) w :=
  BK_of rfl (Lib.run_eql_slice_nil w t e a n c 0 0 h)
theorem clone_ok {w : World} {v : Value} {l : List Ms} (h : MsRow w v l) (hn : l.length ≤ 1000000) : Rt Try.prog 72 #[v] w fun v' w' => w'.ownsRow w.heap.size tMs 8 v' l.length (l.flatMap Ms.enc) ∧ Mod none_ w w' := by
  refine slices_Clone_queue_Message_queue_Message_calls ?_
  unfold slices_Clone_queue_Message_queue_Message_F
  have h' := h
  obtain ⟨hl, A, c, rfl, hnc, hr⟩ := h
  rw [BK_sln vMsS]
  cases A with
  | none =>
    refine condT ⟨?_, Mod.refl _ _⟩
    have h0 : l = [] := by
      cases l with
      | nil => rfl
      | cons a l =>
        obtain ⟨b, hb, _⟩ := hr 0 (strV a.key) rfl
        cases hb
    subst h0
    exact World.ownsRow_nil _ _ _ _
  | some a =>
    refine condF ?_
    refine bs0_k vMsS iMs fun w1 hb1 hm1 hz1 => ?_
    have hown : w1.ownsRow w.heap.size tMs 8 (.slice (some ⟨w.heap.size, 0, none⟩) 0 0) 0 [] := owns_zero hb1 (Nat.le_refl _)
    refine ap_any eMsS hown (h'.calm hm1) (Ms.enc_mem l) (by unfold maxLen; omega) (by omega) (by omega) fun v' w' h2 hm2 _ => ?_
    refine ⟨by simpa using h2, hm1.then hm2 fun i hi q => ?_⟩
    have : i = w.heap.size := by simpa [Value.ownBlock] using q
    omega
structure CpR (w' : World) (B rb : Nat) (l : List Ms) (vs E : List (Ent Ch)) : Prop where
  map : IsMap encC w' rb E E.length
  keys : E.map (·.k) = vs.map (·.k)
  born : ∀ (i : Nat) (e : Ent Ch), E[i]? = some e → e.b = i
  rows : ∀ e ∈ E, w'.ownsRow B tMs 8 e.v (rowOf l e.k).length ((rowOf l e.k).flatMap Ms.enc)
  dist : ∀ (i j : Nat) (a b : Ent Ch), E[i]? = some a → E[j]? = some b → i ≠ j → ∀ g, sb a.v g → ¬ sb b.v g
section
variable {w : World} {p : Nat} {l : List Ms} {V : QV}
theorem CpR.mod {S : Nat → Prop} {w1 w2 : World} {B rb : Nat} {vs E : List (Ent Ch)} (h : CpR w1 B rb l vs E) (hm : Mod S w1 w2) (h1 : ¬ S rb) (h2 : ∀ e ∈ E, ∀ g, sb e.v g → ¬ S g) : CpR w2 B rb l vs E :=
  ⟨h.map.mod hm h1, h.keys, h.born, fun e he => owns_mod (h.rows e he) hm fun g z => h2 e he g z, h.dist⟩
theorem CpR.snoc {w1 w2 : World} {B rb : Nat} {vs E : List (Ent Ch)} {e : Ent Ch} {v : Value} (h : CpR w1 B rb l vs E) (hn : ∀ x ∈ vs, x.k ≠ e.k) (ho : w1.ownsRow B tMs 8 v (rowOf l e.k).length ((rowOf l e.k).flatMap Ms.enc)) (hv : ∀ g, sb v g → g ≠ rb ∧ ∀ x ∈ E, ¬ sb x.v g) (hE : ∀ x ∈ E, ¬ sb x.v rb)
    (hm : Mod (fun b => b = rb) w1 w2) (hmap : IsMap encC w2 rb (putE e.k v E.length E) (clkE e.k E.length E)) : CpR w2 B rb l (vs ++ [e]) (E ++ [⟨e.k, v, E.length⟩]) := by
  have hf : findE e.k E 0 = none := by
    refine findE_none.2 fun x hx q => ?_
    have : x.k ∈ vs.map (·.k) := by rw [← h.keys]; exact List.mem_map_of_mem hx
    obtain ⟨y, hy, hk⟩ := List.mem_map.1 this
    exact hn y hy (hk.trans q)
  unfold putE clkE at hmap
  rw [hf] at hmap
  refine ⟨by rw [List.length_append]; exact hmap, by rw [List.map_append, List.map_append, h.keys]; rfl, fun i x hx => ?_, fun x hx => ?_, fun i j a b hi hj hij g ha hb => ?_⟩
  · rcases app_get hx with z | ⟨z, rfl⟩
    · exact h.born i x z
    · exact z.symm
  · rcases List.mem_append.1 hx with z | z
    · exact owns_mod (h.rows x z) hm fun g q y => hE x z (y ▸ q)
    · rw [List.mem_singleton.1 z]
      exact owns_mod ho hm fun g q y => (hv g q).1 y
  · rcases app_get hi with z | ⟨z, rfl⟩ <;> rcases app_get hj with y | ⟨y, rfl⟩
    · exact h.dist i j a b z y hij g ha hb
    · exact (hv g hb).2 a (List.mem_of_getElem? z) ha
    · exact (hv g ha).2 b (List.mem_of_getElem? y) hb
    · omega
structure CpA (w' : World) (ab : Nat) (vs E : List (Ent (Int × Int))) : Prop where
  map : IsMap encSt w' ab E E.length
  kv : E.map (fun e => (e.k, e.v)) = vs.map (fun e => (e.k, e.v))
  born : ∀ (i : Nat) (e : Ent (Int × Int)), E[i]? = some e → e.b = i
theorem CpA.snoc {w2 : World} {ab : Nat} {vs E : List (Ent (Int × Int))} {e : Ent (Int × Int)} (hb : ∀ (i : Nat) (e : Ent (Int × Int)), E[i]? = some e → e.b = i) (hkv : E.map (fun e => (e.k, e.v)) = vs.map (fun e => (e.k, e.v))) (hn : ∀ x ∈ vs, x.k ≠ e.k)
    (hmap : IsMap encSt w2 ab (putE e.k e.v E.length E) (clkE e.k E.length E)) : CpA w2 ab (vs ++ [e]) (E ++ [⟨e.k, e.v, E.length⟩]) := by
  have hf : findE e.k E 0 = none := by
    refine findE_none.2 fun x hx q => ?_
    have : (x.k, x.v) ∈ vs.map (fun e => (e.k, e.v)) := by rw [← hkv]; exact List.mem_map_of_mem (f := fun e : Ent (Int × Int) => (e.k, e.v)) hx
    obtain ⟨y, hy, hk⟩ := List.mem_map.1 this
    have hk' : y.k = x.k := congrArg Prod.fst hk
    exact hn y hy (hk'.trans q)
  unfold putE clkE at hmap
  rw [hf] at hmap
  refine ⟨by rw [List.length_append]; exact hmap, by rw [List.map_append, List.map_append, hkv]; rfl, fun i x hx => ?_⟩
  rcases app_get hx with z | ⟨z, rfl⟩
  · exact hb i x z
  · exact z.symm
theorem findE_map {κ : Type} [DecidableEq κ] {k : κ} : ∀ {l : List (Ent κ)} {n : Nat}, (findE k l n).map (·.2) = (l.find? fun e => decide (e.k = k)).map (·.v)
  | [], n => rfl
  | e :: r, n => by
    unfold findE
    by_cases h : k = e.k
    · rw [if_pos h, List.find?_cons_of_pos (by simp [h])]; rfl
    · rw [if_neg h, List.find?_cons_of_neg (by simpa using fun q : e.k = k => h q.symm)]
      exact findE_map
theorem findE_perm {κ : Type} [DecidableEq κ] {l vs E : List (Ent κ)} (hl : ∀ (i j : Nat) (a b : Ent κ), l[i]? = some a → l[j]? = some b → a.k = b.k → i = j) (hkv : E.map (fun e => (e.k, e.v)) = vs.map (fun e => (e.k, e.v))) (hs : ∀ e ∈ vs, e ∈ l) (hall : ∀ e ∈ l, e ∈ vs) (k : κ) :
    (findE k E 0).map (·.2) = (findE k l 0).map (·.2) := by
  rw [findE_map, findE_map]
  have e1 : ∀ (a : List (Ent κ)), (a.find? fun e => decide (e.k = k)).map (·.v) = ((a.map fun e => (e.k, e.v)).find? fun x => decide (x.1 = k)).map (·.2) := fun a => by
    rw [List.find?_map]
    simp [Option.map_map, Function.comp_def]
  rw [e1 E, hkv, ← e1 vs]
  cases h1 : l.find? (fun e => decide (e.k = k)) with
  | none =>
    have : vs.find? (fun e => decide (e.k = k)) = none := List.find?_eq_none.2 fun x hx => List.find?_eq_none.1 h1 x (hs x hx)
    rw [this]
  | some a =>
    have ha := List.mem_of_find?_eq_some h1
    have hak : a.k = k := by simpa using List.find?_some h1
    cases h2 : vs.find? (fun e => decide (e.k = k)) with
    | none => exact absurd (List.find?_eq_none.1 h2 a (hall a ha)) (by simp [hak])
    | some b =>
      have hb := hs b (List.mem_of_find?_eq_some h2)
      have hbk : b.k = k := by simpa using List.find?_some h2
      obtain ⟨i, hi, hi'⟩ := List.mem_iff_getElem.1 ha
      obtain ⟨j, hj, hj'⟩ := List.mem_iff_getElem.1 hb
      have := hl i j _ _ (List.getElem?_eq_getElem hi) (List.getElem?_eq_getElem hj) (by rw [hi', hj', hak, hbk])
      subst this
      rw [hi'] at hj'
      rw [hj']
end
end Go.Proofs.Ytmnkedgmpbcicaa.Que
set_option linter.unusedVariables false
set_option linter.unusedSimpArgs false
set_option maxRecDepth 4000
namespace Go.Proofs.Ytmnkedgmpbcicaa.Que
open Go Go.X Go.RowKit Go.Proofs.Ytmnkedgmpbcicaa.XF Go.Proofs.Ytmnkedgmpbcicaa.XK
section
variable {w : World} {p : Nat} {l : List Ms} {V : QV}
theorem mem_of_born {κ : Type} {L vs : List (Ent κ)} (hb : ∀ (i j : Nat) (a b : Ent κ), L[i]? = some a → L[j]? = some b → a.b = b.b → i = j) (hs : ∀ e ∈ vs, e ∈ L) (hall : ∀ e ∈ L, e.b ∈ vs.map (·.b)) : ∀ e ∈ L, e ∈ vs := by
  intro e he
  obtain ⟨x, hx, hxb⟩ := List.mem_map.1 (hall e he)
  obtain ⟨i, hi, hi'⟩ := List.mem_iff_getElem.1 he
  obtain ⟨j, hj, hj'⟩ := List.mem_iff_getElem.1 (hs x hx)
  have := hb i j _ _ (List.getElem?_eq_getElem hi) (List.getElem?_eq_getElem hj) (by rw [hi', hj', hxb])
  subst this
  rw [hi'] at hj'
  rw [hj']; exact hx
theorem key_ne {κ : Type} {L vs : List (Ent κ)} {e : Ent κ} (hk : ∀ (i j : Nat) (a b : Ent κ), L[i]? = some a → L[j]? = some b → a.k = b.k → i = j) (hs : ∀ e ∈ vs, e ∈ L) (he : e ∈ L) (hne : e.b ∉ vs.map (·.b)) : ∀ x ∈ vs, x.k ≠ e.k := by
  intro x hx q
  obtain ⟨i, hi, hi'⟩ := List.mem_iff_getElem.1 (hs x hx)
  obtain ⟨j, hj, hj'⟩ := List.mem_iff_getElem.1 he
  have := hk i j _ _ (List.getElem?_eq_getElem hi) (List.getElem?_eq_getElem hj) (by rw [hi', hj']; exact q)
  subst this
  rw [hi'] at hj'
  subst hj'
  exact hne (List.mem_map_of_mem hx)
theorem copied {w' : World} {q B rb ab : Nat} {vs E : List (Ent Ch)} {us A : List (Ent (Int × Int))} (h : QInv l V) (hb : w'.heap[q]? = some (.cells #[.map (some rb), .map (some ab)] 89 (0, 0))) (hne : rb ≠ ab) (hR : CpR w' B rb l vs E) (hvs : ∀ e ∈ vs, e ∈ V.er) (hvd : vs.Pairwise fun a b => a.k ≠ b.k) (hva : ∀ e ∈ V.er, e.b ∈ vs.map (·.b))
    (hA : CpA w' ab us A) (hus : ∀ e ∈ us, e ∈ V.ea) (hud : us.Pairwise fun a b => a.k ≠ b.k) (hua : ∀ e ∈ V.ea, e.b ∈ us.map (·.b)) : QAt w' q l ⟨rb, ab, E, A, E.length, A.length⟩ := by
  refine ⟨hb, hR.map, hA.map, fun e he => owns_base (hR.rows e he) (Nat.zero_le _), hne, ⟨?_, ?_, ?_, ?_, hR.dist, ?_, h.uniq, ?_, ?_, ?_⟩⟩
  · intro i j a b hi hj hk
    have gi : (E.map (·.k))[i]? = some a.k := by rw [List.getElem?_map, hi]; rfl
    have gj : (E.map (·.k))[j]? = some b.k := by rw [List.getElem?_map, hj]; rfl
    rw [hR.keys, List.getElem?_map] at gi gj
    obtain ⟨x, hx, hxk⟩ := Option.map_eq_some_iff.1 gi
    obtain ⟨y, hy, hyk⟩ := Option.map_eq_some_iff.1 gj
    obtain ⟨hi1, hi2⟩ := List.getElem?_eq_some_iff.1 hx
    obtain ⟨hj1, hj2⟩ := List.getElem?_eq_some_iff.1 hy
    rcases Nat.lt_trichotomy i j with z | z | z
    · exact absurd (by rw [hi2, hj2, hxk, hyk, hk]) (List.pairwise_iff_getElem.1 hvd i j hi1 hj1 z)
    · exact z
    · exact absurd (by rw [hi2, hj2, hxk, hyk, hk]) (List.pairwise_iff_getElem.1 hvd j i hj1 hi1 z)
  · intro i j a b hi hj hk
    rw [hR.born i a hi, hR.born j b hj] at hk
    exact hk
  · intro e he
    obtain ⟨i, hi, rfl⟩ := List.mem_iff_getElem.1 he
    rw [hR.born i _ (List.getElem?_eq_getElem hi)]
    exact hi
  · intro m hm
    obtain ⟨e, he, hk⟩ := h.cov m hm
    have hev := mem_of_born h.rb hvs hva e he
    have : e.k ∈ E.map (·.k) := by rw [hR.keys]; exact List.mem_map_of_mem hev
    obtain ⟨x, hx, hxk⟩ := List.mem_map.1 this
    exact ⟨x, hx, hxk.trans hk⟩
  · intro k
    rw [← h.at_ k]
    exact findE_perm h.ak hA.kv hus (mem_of_born h.abn hus hua) k
  · intro i j a b hi hj hk
    have gi : (A.map (fun e => (e.k, e.v)))[i]? = some (a.k, a.v) := by rw [List.getElem?_map, hi]; rfl
    have gj : (A.map (fun e => (e.k, e.v)))[j]? = some (b.k, b.v) := by rw [List.getElem?_map, hj]; rfl
    rw [hA.kv, List.getElem?_map] at gi gj
    obtain ⟨x, hx, hxk⟩ := Option.map_eq_some_iff.1 gi
    obtain ⟨y, hy, hyk⟩ := Option.map_eq_some_iff.1 gj
    have hxk' : x.k = a.k := congrArg Prod.fst hxk
    have hyk' : y.k = b.k := congrArg Prod.fst hyk
    obtain ⟨hi1, hi2⟩ := List.getElem?_eq_some_iff.1 hx
    obtain ⟨hj1, hj2⟩ := List.getElem?_eq_some_iff.1 hy
    rcases Nat.lt_trichotomy i j with z | z | z
    · exact absurd (by rw [hi2, hj2, hxk', hyk', hk]) (List.pairwise_iff_getElem.1 hud i j hi1 hj1 z)
    · exact z
    · exact absurd (by rw [hi2, hj2, hxk', hyk', hk]) (List.pairwise_iff_getElem.1 hud j i hj1 hi1 z)
  · intro i j a b hi hj hk
    rw [hA.born i a hi, hA.born j b hj] at hk
    exact hk
  · intro e he
    obtain ⟨i, hi, rfl⟩ := List.mem_iff_getElem.1 he
    rw [hA.born i _ (List.getElem?_eq_getElem hi)]
    exact hi
theorem zS_z : (Try.prog.info? 94).bind (·.zero) = some (encSt (0, 0)) := by kernel_rfl
abbrev CopyP (w0 : World) (l : List Ms) : Value → World → Prop := fun v w' => ∃ q V', v = .pointer (some ⟨q, 0, none⟩) ∧ QAt w' q l V' ∧ (∀ b, V'.F q b → w0.heap.size ≤ b) ∧ Mod none_ w0 w'
theorem copy_R1 {w0 : World} {ρ : Sl} {q rb ab : Nat} {vs E : List (Ent Ch)} (h0 : QAt w0 p l V) (hm : Mod none_ w0 w) (hq0 : w0.heap.size ≤ q) (hr0 : w0.heap.size ≤ rb) (ha0 : w0.heap.size ≤ ab) (hb : w.heap[q]? = some (.cells #[.map (some rb), .map (some ab)] 89 (0, 0))) (hne : rb ≠ ab) (hR : CpR w w0.heap.size rb l vs E) (hvs : ∀ e ∈ vs, e ∈ V.er) (hvd : vs.Pairwise fun a b => a.k ≠ b.k) (hva : ∀ e ∈ V.er, e.b ∈ vs.map (·.b))
    (hA : IsMap encSt w ab [] 0) (e0 : ρ 0 = .pointer (some ⟨p, 0, none⟩)) (e3 : ρ 3 = .pointer (some ⟨q, 0, none⟩)) : sx fn_ Try.prog 49 queue_Queue_Copy_R1 (retK Try.prog [ResultVar.tmp 2] (CopyP w0 l)) ρ w := by
  have h := h0.calm hm
  rw [queue_Queue_Copy_R1_eq]; unfold queue_Queue_Copy_R1_F
  rw [e0, NK_ptr, (f_at h).e]
  refine range_k uA h.am fun w2 hit hm2 hz2 => ?_
  refine W_loopG queue_Queue_Copy_L3_ok (fun m ρ' w' => ∃ (us A : List (Ent (Int × Int))), m = togo V.ea (us.map (·.b)) ∧ (∀ e ∈ us, e ∈ V.ea) ∧ us.Pairwise (fun a b => a.k ≠ b.k) ∧ ρ' 36 = .pointer (some ⟨w.heap.size, 0, none⟩) ∧ ρ' 3 = .pointer (some ⟨q, 0, none⟩) ∧ IterAt w' w.heap.size V.ab V.c2 (us.map (·.b)) V.c2 ∧ CpA w' ab us A ∧ Mod (fun b => b = ab ∨ w.heap.size ≤ b) w w') (togo V.ea [])
    ⟨[], [], rfl, by simp, by simp, rfl, e3, hit, ⟨hA.mod hm2 id, rfl, by simp⟩, hm2.mono fun _ _ z => z.elim⟩ ?_
  rintro m ρ' w3 ⟨us, A, hmv, hus, hud, q36, q3, hit3, hA3, hm3⟩
  rw [queue_Queue_Copy_L3_eq]; unfold queue_Queue_Copy_L3_F
  rw [q36]
  have hmm : Mod none_ w0 w3 := hm.then hm3 fun i hi z => by have := hm.size; omega
  have h3 := h0.calm hmm
  have habl : ab < w.heap.size := X.blk_lt hA
  have hql : q < w.heap.size := X.blk_lt hb
  have hrl : rb < w.heap.size := X.blk_lt hR.map
  have hqa : q ≠ ab := fun z => by subst z; have := hA; unfold IsMap at this; rw [hb] at this; cases this
  refine next_k h3.am hit3 h3.inv.ac (Nat.le_refl _) (fun hall => ?_) (fun e he hne4 w4 hit4 hm4 hz4 => ?_)
  · rw [extract_ok (v := .bool false) rfl]
    refine condF ?_
    rw [sq_x, bk_x, sq_n, queue_Queue_Copy_R4_eq]; unfold queue_Queue_Copy_R4_F
    have hRr : ∀ x ∈ E, ∀ g, sb x.v g → ¬ (fun b => b = ab ∨ w.heap.size ≤ b) g := fun x hx g z y => by
      have := (owns_bd (hR.rows x hx) g z).2
      rcases y with y | y
      · obtain ⟨c, hc⟩ := owns_blk (hR.rows x hx) z
        rw [y] at hc
        have hA' := hA
        unfold IsMap at hA'
        rw [hc] at hA'; cases hA'
      · omega
    have hR3 := hR.mod hm3 (by intro y; rcases y with y | y; exact hne y; omega) hRr
    refine ⟨q, _, q3, copied h0.inv (hm3.blk hb (by intro y; rcases y with y | y; exact hqa y; omega)) hne hR3 hvs hvd hva hA3 hus hud hall, fun b z => ?_, hmm⟩
    rcases z with z | z | z | ⟨x, hx, z⟩
    · omega
    · dsimp only at z; omega
    · dsimp only at z; omega
    · exact (owns_bd (hR3.rows x hx) b z).1
  · rw [extract_ok (v := .bool true) rfl]
    refine condT ?_
    have hm4' : Mod none_ w0 w4 := hmm.then hm4 fun i hi z => by have := hm.size; omega
    have h4 := h0.calm hm4'
    refine entry_k h4.am hit4 he h4.inv.abn ?_
    obtain ⟨ek, ev, eb⟩ := e
    have hev : ∃ c : Ch, ev = encC c := by
      have h1 := h0.inv.at_ ek
      obtain ⟨i, e', hfe, hei, hek, hem⟩ := findE_ex (k := ek) (l := V.ea) ⟨_, he, rfl⟩
      rw [hfe] at h1
      obtain ⟨i2, hi2, hi2'⟩ := List.mem_iff_getElem.1 he
      obtain ⟨hi1, hi1'⟩ := List.getElem?_eq_some_iff.1 hei
      have := h0.inv.ak i i2 _ _ hei (List.getElem?_eq_getElem hi2) (by rw [hi2', hek])
      subst this
      rw [hi1'] at hi2'
      cases hz : l.find? (Ms.isAt ek.1 ek.2) with
      | none => rw [hz] at h1; cases h1
      | some x => rw [hz] at h1; exact ⟨x.ch, by rw [show ev = e'.v by rw [hi2']]; simpa using h1⟩
    obtain ⟨c, rfl⟩ := hev
    dsimp only
    rw [extract_ok (v := encSt ek) rfl, extract_ok (v := encC c) rfl]
    refine al_k (cs := #[.int .i64 0, .int .i64 0]) zS_z rfl _ fun w5 hb5 hm5 hz5 => ?_
    refine al_k (cs := #[strV [], .int .i64 0, .int .i64 0]) zC_z rfl _ fun w6 hb6 hm6 hz6 => ?_
    refine stS (cs := #[.int .i64 ek.1, .int .i64 ek.2]) (old := #[.int .i64 0, .int .i64 0]) rfl rfl (by kernel_rfl) rfl (by simp [Value.oneCell']) (hm6.blk hb5 id) fun w7 hb7 hm7 hz7 => ?_
    refine stS (cs := #[strV c.1, .int .i64 c.2.1, .int .i64 c.2.2]) (old := #[strV [], .int .i64 0, .int .i64 0]) rfl rfl (by kernel_rfl) rfl (by simp [Value.oneCell', strV]) (hm7.blk hb6 (by omega)) fun w8 hb8 hm8 hz8 => ?_
    have hb7' := hm8.blk hb7 (by omega)
    have s3 : w.heap.size < w3.heap.size := X.blk_lt hit3
    have hm48 : Mod (fun b => w.heap.size < b) w4 w8 := (((hm5.trans hm6).mono fun _ _ z => z.elim).trans (hm7.mono fun b _ (z : b = w4.heap.size) => by show w.heap.size < b; omega)).trans (hm8.mono fun b _ (z : b = w5.heap.size) => by show w.heap.size < b; omega)
    refine queue_Queue_Copy_R5_tail (D := []) ?_
    have hd : Mod none_ w8 { w8 with drawn := w8.drawn + 1 } := (Mod.refl _ w8).drawn _
    generalize ({ w8 with drawn := w8.drawn + 1 } : World) = w9 at *
    unfold queue_Queue_Copy_R5_T
    simp only [sq_n, sq_x, sq_r, bk_n, bk_r, bk_x, rt_r, rt_n, rs_0, rs_t, pk_1, pk_2, up_at, reduceIte, Nat.reduceEqDiff, q3]
    have hm39 : Mod (fun b => b = ab ∨ w.heap.size ≤ b) w w9 := ((hm3.trans (hm4.mono fun b _ z => .inr (by omega))).trans (hm48.mono fun b _ z => .inr (by omega))).trans (hd.mono fun _ _ z => z.elim)
    have hb9 : w9.heap[q]? = some (.cells #[.map (some rb), .map (some ab)] 89 (0, 0)) := hm39.blk hb (by intro y; rcases y with y | y; exact hqa y; omega)
    refine QN_ptr (Qfo (off := 1) (by kernel_rfl) (Qld uA rfl (v := .map (some ab)) (fun w' hw => by rw [hw, add_pl, cell_blk hb9]; rfl) ?_))
    refine QV_of (v := encSt ek) (fun w' hw => by rw [hw]; exact run_ldB Try.underlying94 rfl (by kernel_rfl) (hd.blk hb7' id)) ?_
    refine QV_of (v := encC c) (fun w' hw => by rw [hw]; exact run_ldB Try.underlying91 rfl (by kernel_rfl) (hd.blk hb8 id)) ?_
    have hA9 : IsMap encSt w9 ab A A.length := ((hA3.map.mod hm4 (by omega)).mod hm48 (by omega)).mod hd id
    obtain ⟨w10, hrun, hmap, hm10⟩ := run_put KS uA hA9 ek (encC c)
    refine UK_of hrun ?_
    have hmapb : (us ++ [(⟨ek, encC c, eb⟩ : Ent (Int × Int))]).map (·.b) = us.map (·.b) ++ [eb] := by simp
    have hkn := key_ne h0.inv.ak hus he hne4
    refine ⟨togo V.ea ((us ++ [(⟨ek, encC c, eb⟩ : Ent (Int × Int))]).map (·.b)), by rw [hmv, hmapb]; exact togo_lt he hne4, us ++ [⟨ek, encC c, eb⟩], A ++ [⟨ek, encC c, A.length⟩], rfl, fun x hx => ?_, ?_, q36, by first | exact q3 | trivial, ?_, CpA.snoc (e := ⟨ek, encC c, eb⟩) hA3.born hA3.kv hkn hmap, ?_⟩
    · rcases List.mem_append.1 hx with z | z
      · exact hus x z
      · rw [List.mem_singleton.1 z]; exact he
    · rw [List.pairwise_append]
      exact ⟨hud, by simp, fun a ha b hb => by rw [List.mem_singleton.1 hb]; exact hkn a ha⟩
    · rw [hmapb]
      exact (((hit4.mod hm48 (by omega)).mod hd id).mod hm10 (by omega))
    · exact hm39.trans (hm10.mono fun b _ z => .inl z)
end
end Go.Proofs.Ytmnkedgmpbcicaa.Que
set_option linter.unusedVariables false
set_option linter.unusedSimpArgs false
set_option maxRecDepth 4000
namespace Go.Proofs.Ytmnkedgmpbcicaa.Que
open Go Go.X Go.RowKit Go.Proofs.Ytmnkedgmpbcicaa.XF Go.Proofs.Ytmnkedgmpbcicaa.XK
section
variable {w : World} {p : Nat} {l : List Ms} {V : QV}
theorem New2_ok (w : World) : Rt Try.prog 23 #[] w fun v w' => ∃ q rb ab, v = .pointer (some ⟨q, 0, none⟩) ∧ w'.heap[q]? = some (.cells #[.map (some rb), .map (some ab)] 89 (0, 0)) ∧ rb ≠ ab ∧ IsMap encC w' rb [] 0 ∧ IsMap encSt w' ab [] 0 ∧ w.heap.size ≤ q ∧ w.heap.size ≤ rb ∧ w.heap.size ≤ ab ∧ Mod none_ w w' := by
  refine queue_New_calls ?_
  unfold queue_New_F
  refine make_ok (enc := encC) _ fun w1 h1 hm1 hz1 => ?_
  refine make_ok (enc := encSt) _ fun w2 h2 hm2 hz2 => ?_
  rw [build_ok (cs := #[.map (some w.heap.size), .map (some w1.heap.size)]) (by kernel_rfl)]
  refine box_k (cs := #[.map (some w.heap.size), .map (some w1.heap.size)]) rfl fun w3 hb3 hm3 hz3 => ?_
  exact ⟨w2.heap.size, w.heap.size, w1.heap.size, rfl, hb3, by omega, (h1.mod hm2 id).mod hm3 id, h2.mod hm3 id, by omega, by omega, by omega, (hm1.trans hm2).trans hm3⟩
theorem Copy_ok (h : QAt w p l V) (hL : l.length ≤ 500000) : Rt Try.prog 55 #[.pointer (some ⟨p, 0, none⟩)] w (CopyP w l) := by
  refine queue_Queue_Copy_calls ?_
  unfold queue_Queue_Copy_F
  rw [BK_eqlP uQ]
  refine condF ?_
  refine CK_st Try.func49 rfl rfl (none_ok h) ?_
  rintro _ w1 ⟨rfl, rfl⟩
  refine condF ?_
  refine CK_st Try.func23 rfl rfl (New2_ok w1) ?_
  rintro _ w2 ⟨q, rb, ab, rfl, hb2, hne, hR2, hA2, hq0, hr0, ha0, hm2⟩
  have h2 := h.calm hm2
  rw [NK_ptr, (f_rows h2).e]
  refine range_k uR h2.rm fun w3 hit hm3 hz3 => ?_
  have habl : ab < w2.heap.size := X.blk_lt hA2
  have hql : q < w2.heap.size := X.blk_lt hb2
  have hrl : rb < w2.heap.size := X.blk_lt hR2
  have hqr : q ≠ rb := fun z => by subst z; have := hR2; unfold IsMap at this; rw [hb2] at this; cases this
  refine W_loopG queue_Queue_Copy_L0_ok (fun m ρ w' => ∃ (vs E : List (Ent Ch)), m = togo V.er (vs.map (·.b)) ∧ (∀ e ∈ vs, e ∈ V.er) ∧ vs.Pairwise (fun a b => a.k ≠ b.k) ∧ ρ 0 = .pointer (some ⟨p, 0, none⟩) ∧ ρ 19 = .pointer (some ⟨w2.heap.size, 0, none⟩) ∧ ρ 3 = .pointer (some ⟨q, 0, none⟩) ∧ IterAt w' w2.heap.size V.rb V.c1 (vs.map (·.b)) V.c1 ∧ CpR w' w3.heap.size rb l vs E ∧ Mod (fun b => b = rb ∨ w2.heap.size ≤ b) w2 w') (togo V.er [])
    ⟨[], [], rfl, by simp, by simp, rfl, rfl, rfl, hit, ⟨hR2.mod hm3 id, rfl, by simp, by simp, by simp⟩, hm3.mono fun _ _ z => z.elim⟩ ?_
  rintro m ρ w4 ⟨vs, E, hmv, hvs, hvd, e0, e19, e3, hit4, hE4, hm4⟩
  rw [queue_Queue_Copy_L0_eq]; unfold queue_Queue_Copy_L0_F
  rw [e19]
  have hm14 : Mod none_ w1 w4 := hm2.then hm4 fun i hi z => by have := hm2.size; omega
  have h4 := h.calm hm14
  refine next_k h4.rm hit4 h4.inv.rc (Nat.le_refl _) (fun hall => ?_) (fun e he hne5 w5 hit5 hm5 hz5 => ?_)
  · rw [extract_ok (v := .bool false) rfl]
    refine condF ?_
    rw [sq_x, bk_x, sq_n]
    have hE4' : CpR w4 w1.heap.size rb l vs E := ⟨hE4.map, hE4.keys, hE4.born, fun x hx => owns_base (hE4.rows x hx) (by have := hm2.size; omega), hE4.dist⟩
    exact copy_R1 h hm14 hq0 hr0 ha0 (hm4.blk hb2 (by intro y; rcases y with y | y; exact hqr y; omega)) hne hE4' hvs hvd hall (hA2.mod hm4 (by intro y; rcases y with y | y; exact hne y.symm; omega)) e0 e3
  · rw [extract_ok (v := .bool true) rfl]
    refine condT ?_
    have hm15 : Mod none_ w1 w5 := hm14.then hm5 fun i hi z => by have := hm2.size; omega
    have h5 := h.calm hm15
    refine entry_k h5.rm hit5 he h5.inv.rb ?_
    rw [extract_ok (v := encC e.k) rfl, extract_ok (v := e.v) rfl]
    refine al_k (cs := #[strV [], .int .i64 0, .int .i64 0]) zC_z rfl _ fun w6 hb6 hm6 hz6 => ?_
    refine stS (cs := #[strV e.k.1, .int .i64 e.k.2.1, .int .i64 e.k.2.2]) (old := #[strV [], .int .i64 0, .int .i64 0]) rfl rfl (by kernel_rfl) rfl (by simp [Value.oneCell', strV]) hb6 fun w7 hb7 hm7 hz7 => ?_
    have s4 : w2.heap.size < w4.heap.size := X.blk_lt hit4
    have hm57 : Mod none_ w5 w7 := hm6.fresh hm7 (Nat.le_refl _)
    have hm47 : Mod (fun b => b = w2.heap.size) w4 w7 := hm5.trans (hm57.mono fun _ _ z => z.elim)
    refine queue_Queue_Copy_R2_held (D := []) (fun w' => w'.heap[q]? = some (.cells #[.map (some rb), .map (some ab)] 89 (0, 0)) ∧ w'.heap[w5.heap.size]? = some (.cells #[strV e.k.1, .int .i64 e.k.2.1, .int .i64 e.k.2.2] 91 (0, 0))) ?_ ?_
    · exact ⟨hm47.blk (hm4.blk hb2 (by intro y; rcases y with y | y; exact hqr y; omega)) (by omega), hb7⟩
    have hb7q : w7.heap[q]? = some (.cells #[.map (some rb), .map (some ab)] 89 (0, 0)) := hm47.blk (hm4.blk hb2 (by intro y; rcases y with y | y; exact hqr y; omega)) (by omega)
    have hd : Mod none_ w7 { w7 with drawn := w7.drawn + 1 } := (Mod.refl _ w7).drawn _
    have hdz : ({ w7 with drawn := w7.drawn + 1 } : World).heap.size = w7.heap.size := rfl
    generalize ({ w7 with drawn := w7.drawn + 1 } : World) = wd at *
    unfold queue_Queue_Copy_R2_H
    simp only [sq_n, sq_x, sq_r, bk_n, bk_r, bk_x, rt_r, rt_n, rs_0, rs_t, pk_1, pk_2, up_at, reduceIte, Nat.reduceEqDiff, e3]
    refine HN_ptr (HV_of (v := .pointer (some ⟨q, 0, none⟩)) (fun w' _ => by rw [run_fo (off := 0) (by kernel_rfl), add_pl]) ?_)
    refine HV_of (v := .map (some rb)) (fun w' hw => run_ld1 uR rfl (by rw [cell_blk hw.1]; rfl)) ?_
    refine HV_of (v := encC e.k) (fun w' hw => run_ldB Try.underlying91 rfl (by kernel_rfl) hw.2) ?_
    have hmd : Mod none_ w5 wd := hm57.trans hd
    have hrow5 : MsRow w5 e.v (rowOf l e.k) := reads_of_owns (h5.rows e he)
    have hrow : MsRow wd e.v (rowOf l e.k) := hrow5.calm hmd
    have hrl2 := row_len l e.k
    refine CK_st Try.func72 rfl rfl (clone_ok hrow (by omega)) ?_
    rintro v w8 ⟨hO8, hm8⟩
    have hm58 : Mod none_ w5 w8 := hmd.trans hm8
    refine ⟨⟨hm8.blk (hd.blk hb7q id) id, hm8.blk (hd.blk hb7 id) id⟩, ?_⟩
    have hm48 : Mod (fun b => b = w2.heap.size) w4 w8 := hm5.trans (hm58.mono fun _ _ z => z.elim)
    have s48 := hm48.size
    have sd : w4.heap.size ≤ wd.heap.size := by have := hm47.size; omega
    have hE8 : CpR w8 w3.heap.size rb l vs E := hE4.mod hm48 (by omega) fun x hx g z y => by have := (owns_bd (hE4.rows x hx) g z).1; omega
    obtain ⟨w9, hrun, hmap, hm9⟩ := run_put KC uR hE8.map e.k v
    refine UK_of hrun ?_
    have hvn : ∀ g, sb v g → wd.heap.size ≤ g := fun g z => (owns_bd hO8 g z).1
    refine ⟨⟨hm9.blk (hm8.blk (hd.blk hb7q id) id) hqr, hm9.blk (hm8.blk (hd.blk hb7 id) id) (by omega)⟩, ?_⟩
    have hmapb : (vs ++ [e]).map (·.b) = vs.map (·.b) ++ [e.b] := by simp
    have hkn := key_ne h.inv.rk hvs he hne5
    refine ⟨togo V.er ((vs ++ [e]).map (·.b)), by rw [hmv, hmapb]; exact togo_lt he hne5, vs ++ [e], E ++ [⟨e.k, v, E.length⟩], rfl, fun x hx => ?_, ?_, by first | exact e0 | trivial, by first | exact e19 | trivial, by first | exact e3 | trivial, ?_, hE8.snoc (e := e) hkn (owns_base hO8 (by omega)) ?_ ?_ hm9 hmap, ?_⟩
    · rcases List.mem_append.1 hx with z | z
      · exact hvs x z
      · rw [List.mem_singleton.1 z]; exact he
    · rw [List.pairwise_append]
      exact ⟨hvd, by simp, fun a ha b hb => by rw [List.mem_singleton.1 hb]; exact hkn a ha⟩
    · rw [hmapb]
      exact ((hit5.mod hm58 id).mod hm9 (by omega))
    · intro g z
      have hg := hvn g z
      refine ⟨by omega, fun x hx y => ?_⟩
      have := (owns_bd (hE4.rows x hx) g y).2
      omega
    · intro x hx z
      have := (owns_bd (hE4.rows x hx) rb z).1
      omega
    · exact (hm4.trans (hm48.mono fun b _ z => .inr (by omega))).trans (hm9.mono fun b _ z => .inl z)
end
end Go.Proofs.Ytmnkedgmpbcicaa.Que
set_option linter.unusedVariables false
set_option linter.unusedSimpArgs false
set_option maxRecDepth 4000
namespace Go.X
open Go Go.RowKit
theorem idx_find {α : Type} (p : α → Bool) : ∀ l : List α, (l.findIdx? p = none ∧ l.find? p = none) ∨ ∃ (j : Nat) (m : α), l.findIdx? p = some j ∧ l[j]? = some m ∧ l.find? p = some m ∧ l.take j = l.takeWhile fun x => !p x := by
  intro l
  induction l with
  | nil => exact .inl ⟨rfl, rfl⟩
  | cons a l ih =>
    cases h : p a with
    | true => exact .inr ⟨0, a, by simp [List.findIdx?_cons, h], rfl, by simp [h], by simp [h]⟩
    | false =>
      rcases ih with ⟨h1, h2⟩ | ⟨j, m, h1, h2, h3, h4⟩
      · exact .inl ⟨by simp [List.findIdx?_cons, h, h1], by simp [h, h2]⟩
      · exact .inr ⟨j + 1, m, by simp [List.findIdx?_cons, h, h1], by simpa using h2, by simp [h, h3], by simp [h, h4]⟩
theorem all_set {l : List Ms} (hu : l.Pairwise fun a b => ¬ (a.frm = b.frm ∧ a.call = b.call)) {m : Ms} {f c : Int} (hat : m.isAt f c = true) {j : Nat} (hj : l[j]? = some m) : l.map (tk f c) = l.set j { m with taken := true } := by
  apply List.ext_getElem?
  intro i
  rw [List.getElem?_map, List.getElem?_set]
  by_cases e : j = i
  · subst e
    rw [hj, if_pos rfl, if_pos (List.getElem?_eq_some_iff.1 hj).1]
    simp [tk, hat]
  · rw [if_neg e]
    cases hi : l[i]? with
    | none => rfl
    | some x =>
      simp only [Option.map_some]
      congr 1
      unfold tk
      rw [if_neg]
      intro q
      obtain ⟨a, b⟩ := isAt_iff.1 q
      obtain ⟨a', b'⟩ := isAt_iff.1 hat
      obtain ⟨hi1, hi2⟩ := List.getElem?_eq_some_iff.1 hi
      obtain ⟨hj1, hj2⟩ := List.getElem?_eq_some_iff.1 hj
      rcases Nat.lt_trichotomy i j with z | z | z
      · exact List.pairwise_iff_getElem.1 hu i j hi1 hj1 z ⟨by rw [hi2, hj2]; exact a.trans a'.symm, by rw [hi2, hj2]; exact b.trans b'.symm⟩
      · exact e z.symm
      · exact List.pairwise_iff_getElem.1 hu j i hj1 hi1 z ⟨by rw [hi2, hj2]; exact (a.trans a'.symm).symm, by rw [hi2, hj2]; exact (b.trans b'.symm).symm⟩
structure DAt (w : World) (p : Nat) (l : List Ms) (v : Value) : Prop where
  blk : w.heap[p]? = some (.cells #[v] 97 (0, 0))
  own : w.ownsRow 0 39 8 v l.length (l.flatMap Ms.enc)
def DF (p : Nat) (v : Value) (b : Nat) : Prop := b = p ∨ sb v b
structure DFr (p : Nat) (w : World) (v : Value) (w' : World) (v' : Value) : Prop where
  mod : Mod (DF p v) w w'
  f : ∀ b, DF p v' b → DF p v b ∨ w.heap.size ≤ b
theorem DFr.refl (p : Nat) (w : World) (v : Value) : DFr p w v w v := ⟨Mod.refl _ _, fun _ h => .inl h⟩
theorem DFr.calm {p : Nat} {w w' : World} {v : Value} (h : Mod none_ w w') : DFr p w v w' v := ⟨h.mono fun _ _ q => q.elim, fun _ q => .inl q⟩
theorem DFr.trans {p : Nat} {w w1 w2 : World} {V V1 V2 : Value} (h : DFr p w V w1 V1) (k : DFr p w1 V1 w2 V2) : DFr p w V w2 V2 := by
  have hs := h.mod.size
  refine ⟨h.mod.then k.mod fun i hi q => ?_, fun b q => ?_⟩
  · rcases h.f i q with z | z
    · exact z
    · omega
  · rcases k.f b q with z | z
    · exact h.f b z
    · exact .inr (by omega)
theorem DAt.mod {w w' : World} {p : Nat} {l : List Ms} {v : Value} {S : Nat → Prop} (h : DAt w p l v) (hm : Mod S w w') (hS : ∀ b, DF p v b → ¬ S b) : DAt w' p l v :=
  ⟨hm.blk h.blk (hS _ (.inl rfl)), owns_mod h.own hm fun k q => hS k (.inr q)⟩
theorem DAt.calm {w w' : World} {p : Nat} {l : List Ms} {v : Value} (h : DAt w p l v) (hm : Mod none_ w w') : DAt w' p l v := h.mod hm fun _ _ q => q
theorem DAt.old {w : World} {p : Nat} {l : List Ms} {v : Value} (h : DAt w p l v) : ∀ b, DF p v b → b < w.heap.size := by
  intro b hb
  rcases hb with rfl | hb
  · exact X.blk_lt h.blk
  · obtain ⟨c, hc⟩ := owns_blk h.own hb
    exact X.blk_lt hc
theorem DAt.ne {w : World} {p : Nat} {l : List Ms} {v : Value} (h : DAt w p l v) {b : Nat} (hb : sb v b) : b ≠ p := by
  obtain ⟨c, hc⟩ := owns_blk h.own hb
  intro q
  subst q; have := h.blk; rw [hc] at this; cases this
end Go.X
namespace Go.Proofs.Ytmnkedgmpbcicaa.Que
open Go Go.X Go.RowKit Go.Proofs.Ytmnkedgmpbcicaa.XF Go.Proofs.Ytmnkedgmpbcicaa.XK
section
variable {w : World} {p : Nat} {l : List Ms} {V : Value}
abbrev tDq : TypeId := 97
theorem f_all (h : DAt w p l V) : FO Try.prog w tDq 0 0 ⟨p, 0, none⟩ tMsS V := FO.blk h.blk (by kernel_rfl) vMsS rfl rfl
theorem d_row (h : DAt w p l V) : MsRow w V l := reads_of_owns h.own
theorem ixF {w : World} {s : Value} {l : List Ms} {i : Nat} {n : Int} {e : Ms} {t : TypeId} {k : Nat} {u : Value} {K : Value → Value → Value → World → Prop} (h : MsRow w s l) (hi : l[i]? = some e) (hn : n = (i : Int)) (hf : fieldOff Try.prog tMs k = some k) (hu : ∀ {a : Addr} {K : Value → World → Prop}, w.cell? a = some u → K u w → VK Try.prog (Instr.loadAt t (.pointer (some a))) w K) (he : e.enc[k]? = some u) (hk : ∀ x y, K x y u w) :
    VK Try.prog (Instr.indexAt tMsS s (.int .i64 n)) w fun x w => VK Try.prog (Instr.fieldAt tMs x k) w fun y w => VK Try.prog (Instr.loadAt t y) w (K x y) := by
  refine ixMsA h hi hn fun a ha => ?_
  rw [fo hf]
  exact hu (ha k u he) (hk _ _)
theorem place_ok (h : DAt w p l V) (hL : l.length ≤ 1000000) (f c : Int) : Rt Try.prog 70 #[.pointer (some ⟨p, 0, none⟩), .int .i64 f, .int .i64 c] w fun v w' => v = .int .i64 (idxV (Ms.isAt f c) l) ∧ w' = w := by
  refine dispatcherref13_Queue_place_calls ?_
  unfold dispatcherref13_Queue_place_F
  have hr := d_row h
  obtain ⟨A, cc, es, _⟩ := reads_cap hr
  refine W_loop dispatcherref13_Queue_place_L0_ok (fun ρ w' => ∃ n : Nat, n ≤ l.length ∧ ρ 7 = .int .i64 n ∧ ρ 0 = .pointer (some ⟨p, 0, none⟩) ∧ ρ 1 = .int .i64 f ∧ ρ 2 = .int .i64 c ∧ (∀ a ∈ l.take n, Ms.isAt f c a = false) ∧ w' = w) (fun ρ _ => l.length - (intOf (ρ 7)).toNat)
    ⟨0, Nat.zero_le _, rfl, rfl, rfl, rfl, by simp, rfl⟩ ?_
  rintro ρ w1 ⟨n, hn, e7, e0, e1, e2, hno, rfl⟩
  rw [dispatcherref13_Queue_place_L0_eq]; unfold dispatcherref13_Queue_place_L0_F
  rw [e7, e0, e1, e2, NK_ptr, (f_all h).e, es, len_sl vMsS, ← es, BK_lss]
  by_cases hlt : n < l.length
  · rw [decide_eq_true (by omega)]
    refine condT ?_
    have hx : l[n]? = some l[n] := List.getElem?_eq_getElem hlt
    generalize hmm : l[n] = m at *
    rw [NK_ptr, (f_all h).e]
    refine ixF hr hx rfl (show fieldOff Try.prog tMs 1 = some 1 by kernel_rfl) (ld1 vI rfl) (u := .int .i64 m.frm) rfl fun _ _ => ?_
    have step : ∀ (ρ' : Sl) (t : Bool), ρ' 0 = ρ 0 → ρ' 1 = ρ 1 → ρ' 2 = ρ 2 → ρ' 7 = .int .i64 n → ρ' 38 = .bool t → t = m.isAt f c →
        sx fn_ Try.prog 40 dispatcherref13_Queue_place_R2 (blkK 1 (seqK (sx fn_ Try.prog 40 dispatcherref13_Queue_place_R3 (seqK (fun ρ w' => (∃ n : Nat, n ≤ l.length ∧ ρ 7 = .int .i64 n ∧ ρ 0 = .pointer (some ⟨p, 0, none⟩) ∧ ρ 1 = .int .i64 f ∧ ρ 2 = .int .i64 c ∧ (∀ a ∈ l.take n, Ms.isAt f c a = false) ∧ w' = w1) ∧ l.length - (intOf (ρ 7)).toNat < l.length - (intOf (.int .i64 (n : Int))).toNat) (blkK 0 (seqK (sx fn_ Try.prog 40 dispatcherref13_Queue_place_R1 (retK Try.prog [ResultVar.tmp 6] fun v w' => v = .int .i64 (idxV (Ms.isAt f c) l) ∧ w' = w1)) (retK Try.prog [ResultVar.tmp 6] fun v w' => v = .int .i64 (idxV (Ms.isAt f c) l) ∧ w' = w1))))) (seqK (fun ρ w' => (∃ n : Nat, n ≤ l.length ∧ ρ 7 = .int .i64 n ∧ ρ 0 = .pointer (some ⟨p, 0, none⟩) ∧ ρ 1 = .int .i64 f ∧ ρ 2 = .int .i64 c ∧ (∀ a ∈ l.take n, Ms.isAt f c a = false) ∧ w' = w1) ∧ l.length - (intOf (ρ 7)).toNat < l.length - (intOf (.int .i64 (n : Int))).toNat) (blkK 0 (seqK (sx fn_ Try.prog 40 dispatcherref13_Queue_place_R1 (retK Try.prog [ResultVar.tmp 6] fun v w' => v = .int .i64 (idxV (Ms.isAt f c) l) ∧ w' = w1)) (retK Try.prog [ResultVar.tmp 6] fun v w' => v = .int .i64 (idxV (Ms.isAt f c) l) ∧ w' = w1)))))) ρ' w1 := by
      intro ρ' t a0 a1 a2 a7 a38 ht
      rw [dispatcherref13_Queue_place_R2_eq]; unfold dispatcherref13_Queue_place_R2_F
      rw [a38]
      refine caseC (fun q => ?_) (fun q => ?_)
      · rw [a7]
        refine ⟨?_, rfl⟩
        unfold idxV
        rw [show l.findIdx? (Ms.isAt f c) = some n from List.findIdx?_eq_some_iff_getElem.2 ⟨hlt, by rw [hmm, ← ht, q], fun j hj => by
          have := hno l[j] (List.mem_take_iff_getElem.2 ⟨j, by omega, rfl⟩)
          simp [this]⟩]
        rfl
      · rw [bk_n, sq_n, dispatcherref13_Queue_place_R3_eq]; unfold dispatcherref13_Queue_place_R3_F
        rw [a7, BK_add, wrap_i (by omega) (by omega)]
        refine ⟨⟨n + 1, hlt, rfl, a0.trans e0, a1.trans e1, a2.trans e2, ?_, rfl⟩, ?_⟩
        · rw [List.take_add_one, hx, Option.toList_some]
          intro a z
          rcases List.mem_append.1 z with z | z
          · exact hno a z
          · rw [List.mem_singleton.1 z, ← ht, q]
        · simp only [sq_n, sq_x, sq_r, bk_n, bk_r, bk_x, rt_r, rt_n, rs_0, rs_t, pk_1, pk_2, up_at, reduceIte, Nat.reduceEqDiff, intOf]; omega
    by_cases c1 : m.frm = f
    · simp only [↓VG_u, ↓UG_u, ↓MG_u, ↓NG_u, ↓PG_u, ↓BG_u, ↓CG_u, ↓IG_u, ↓VGtt, ↓VGtf, ↓VGft, ↓VGff, ↓UGtt, ↓UGtf, ↓UGft, ↓UGff, ↓MGtt, ↓MGtf, ↓MGft, ↓MGff, ↓NGtt, ↓NGtf, ↓NGft, ↓NGff, ↓PGtt, ↓PGtf, ↓PGft, ↓PGff, ↓BGtt, ↓BGtf, ↓BGft, ↓BGff, ↓CGtt, ↓CGtf, ↓CGft, ↓CGff, ↓IGtt, ↓IGtf, ↓IGft, ↓IGff, ↓PKt, ↓PKf, ↓CDt, ↓CDf, ↓NOTt, ↓NOTf, ↓NK_ptr, ↓EQt c1]
      rw [(f_all h).e]
      try simp only [↓VG_u, ↓UG_u, ↓MG_u, ↓NG_u, ↓PG_u, ↓BG_u, ↓CG_u, ↓IG_u, ↓VGtt, ↓VGtf, ↓VGft, ↓VGff, ↓UGtt, ↓UGtf, ↓UGft, ↓UGff, ↓MGtt, ↓MGtf, ↓MGft, ↓MGff, ↓NGtt, ↓NGtf, ↓NGft, ↓NGff, ↓PGtt, ↓PGtf, ↓PGft, ↓PGff, ↓BGtt, ↓BGtf, ↓BGft, ↓BGff, ↓CGtt, ↓CGtf, ↓CGft, ↓CGff, ↓IGtt, ↓IGtf, ↓IGft, ↓IGff, ↓PKt, ↓PKf, ↓CDt, ↓CDf, ↓NOTt, ↓NOTf, ↓NK_ptr]
      refine ixF hr hx rfl (show fieldOff Try.prog tMs 3 = some 3 by kernel_rfl) (ld1 vI rfl) (u := .int .i64 m.call) rfl fun _ _ => ?_
      try simp only [↓VG_u, ↓UG_u, ↓MG_u, ↓NG_u, ↓PG_u, ↓BG_u, ↓CG_u, ↓IG_u, ↓VGtt, ↓VGtf, ↓VGft, ↓VGff, ↓UGtt, ↓UGtf, ↓UGft, ↓UGff, ↓MGtt, ↓MGtf, ↓MGft, ↓MGff, ↓NGtt, ↓NGtf, ↓NGft, ↓NGff, ↓PGtt, ↓PGtf, ↓PGft, ↓PGff, ↓BGtt, ↓BGtf, ↓BGft, ↓BGff, ↓CGtt, ↓CGtf, ↓CGft, ↓CGff, ↓IGtt, ↓IGtf, ↓IGft, ↓IGff, ↓PKt, ↓PKf, ↓CDt, ↓CDf, ↓NOTt, ↓NOTf, ↓NK_ptr]
      by_cases c2 : m.call = c
      · simp only [↓VG_u, ↓UG_u, ↓MG_u, ↓NG_u, ↓PG_u, ↓BG_u, ↓CG_u, ↓IG_u, ↓VGtt, ↓VGtf, ↓VGft, ↓VGff, ↓UGtt, ↓UGtf, ↓UGft, ↓UGff, ↓MGtt, ↓MGtf, ↓MGft, ↓MGff, ↓NGtt, ↓NGtf, ↓NGft, ↓NGff, ↓PGtt, ↓PGtf, ↓PGft, ↓PGff, ↓BGtt, ↓BGtf, ↓BGft, ↓BGff, ↓CGtt, ↓CGtf, ↓CGft, ↓CGff, ↓IGtt, ↓IGtf, ↓IGft, ↓IGff, ↓PKt, ↓PKf, ↓CDt, ↓CDf, ↓NOTt, ↓NOTf, ↓NK_ptr, ↓EQt c2]
        exact step _ true rfl rfl rfl (by first | exact e7 | rfl) rfl (by simp [Ms.isAt, c1, c2])
      · simp only [↓VG_u, ↓UG_u, ↓MG_u, ↓NG_u, ↓PG_u, ↓BG_u, ↓CG_u, ↓IG_u, ↓VGtt, ↓VGtf, ↓VGft, ↓VGff, ↓UGtt, ↓UGtf, ↓UGft, ↓UGff, ↓MGtt, ↓MGtf, ↓MGft, ↓MGff, ↓NGtt, ↓NGtf, ↓NGft, ↓NGff, ↓PGtt, ↓PGtf, ↓PGft, ↓PGff, ↓BGtt, ↓BGtf, ↓BGft, ↓BGff, ↓CGtt, ↓CGtf, ↓CGft, ↓CGff, ↓IGtt, ↓IGtf, ↓IGft, ↓IGff, ↓PKt, ↓PKf, ↓CDt, ↓CDf, ↓NOTt, ↓NOTf, ↓NK_ptr, ↓EQf c2]
        exact step _ false rfl rfl rfl (by first | exact e7 | rfl) rfl (by simp [Ms.isAt, c1, c2])
    · simp only [↓VG_u, ↓UG_u, ↓MG_u, ↓NG_u, ↓PG_u, ↓BG_u, ↓CG_u, ↓IG_u, ↓VGtt, ↓VGtf, ↓VGft, ↓VGff, ↓UGtt, ↓UGtf, ↓UGft, ↓UGff, ↓MGtt, ↓MGtf, ↓MGft, ↓MGff, ↓NGtt, ↓NGtf, ↓NGft, ↓NGff, ↓PGtt, ↓PGtf, ↓PGft, ↓PGff, ↓BGtt, ↓BGtf, ↓BGft, ↓BGff, ↓CGtt, ↓CGtf, ↓CGft, ↓CGff, ↓IGtt, ↓IGtf, ↓IGft, ↓IGff, ↓PKt, ↓PKf, ↓CDt, ↓CDf, ↓NOTt, ↓NOTf, ↓NK_ptr, ↓EQf c1]
      exact step _ false rfl rfl rfl (by first | exact e7 | rfl) rfl (by simp [Ms.isAt, c1])
  · obtain rfl : n = l.length := by omega
    rw [decide_eq_false (by omega)]
    refine condF ?_
    rw [sq_x, bk_x, sq_n, dispatcherref13_Queue_place_R1_eq]; unfold dispatcherref13_Queue_place_R1_F
    refine ⟨?_, rfl⟩
    rw [List.take_length] at hno
    unfold idxV
    rw [List.findIdx?_eq_none_iff.2 hno]
    rfl
theorem RTake_ok (h : DAt w p l V) (hu : l.Pairwise fun a b => ¬ (a.frm = b.frm ∧ a.call = b.call)) (hL : l.length ≤ 1000000) (f c : Int) : Rt Try.prog 71 #[.pointer (some ⟨p, 0, none⟩), .int .i64 f, .int .i64 c] w fun v w' => v = .int .i64 (takeV l f c).2 ∧ DAt w' p (takeV l f c).1 V ∧ DFr p w V w' V := by
  refine dispatcherref13_Queue_Take_calls ?_
  unfold dispatcherref13_Queue_Take_F
  refine CK_st Try.func70 rfl rfl (place_ok h hL f c) ?_
  rintro _ w1 ⟨rfl, rfl⟩
  unfold takeV idxV
  rcases idx_find (Ms.isAt f c) l with ⟨h1, h2⟩ | ⟨j, m, h1, h2, h3, h4⟩
  · rw [h1, h2]
    dsimp only
    simp only [↓VG_u, ↓UG_u, ↓MG_u, ↓NG_u, ↓PG_u, ↓BG_u, ↓CG_u, ↓IG_u, ↓VGtt, ↓VGtf, ↓VGft, ↓VGff, ↓UGtt, ↓UGtf, ↓UGft, ↓UGff, ↓MGtt, ↓MGtf, ↓MGft, ↓MGff, ↓NGtt, ↓NGtf, ↓NGft, ↓NGff, ↓PGtt, ↓PGtf, ↓PGft, ↓PGff, ↓BGtt, ↓BGtf, ↓BGft, ↓BGff, ↓CGtt, ↓CGtf, ↓CGft, ↓CGff, ↓IGtt, ↓IGtf, ↓IGft, ↓IGff, ↓PKt, ↓PKf, ↓CDt, ↓CDf, ↓NOTt, ↓NOTf, ↓NK_ptr, ↓LTt (show (-1 : Int) < 0 by decide)]
    exact ⟨by trivial, h, DFr.refl _ _ _⟩
  · rw [h1, h3]
    dsimp only
    simp only [↓VG_u, ↓UG_u, ↓MG_u, ↓NG_u, ↓PG_u, ↓BG_u, ↓CG_u, ↓IG_u, ↓VGtt, ↓VGtf, ↓VGft, ↓VGff, ↓UGtt, ↓UGtf, ↓UGft, ↓UGff, ↓MGtt, ↓MGtf, ↓MGft, ↓MGff, ↓NGtt, ↓NGtf, ↓NGft, ↓NGff, ↓PGtt, ↓PGtf, ↓PGft, ↓PGff, ↓BGtt, ↓BGtf, ↓BGft, ↓BGff, ↓CGtt, ↓CGtf, ↓CGft, ↓CGff, ↓IGtt, ↓IGtf, ↓IGft, ↓IGff, ↓PKt, ↓PKf, ↓CDt, ↓CDf, ↓NOTt, ↓NOTf, ↓NK_ptr, ↓LTf (show (0 : Int) ≤ (j : Int) by omega)]
    rw [(f_all h).e]
    try simp only [↓VG_u, ↓UG_u, ↓MG_u, ↓NG_u, ↓PG_u, ↓BG_u, ↓CG_u, ↓IG_u, ↓VGtt, ↓VGtf, ↓VGft, ↓VGff, ↓UGtt, ↓UGtf, ↓UGft, ↓UGff, ↓MGtt, ↓MGtf, ↓MGft, ↓MGff, ↓NGtt, ↓NGtf, ↓NGft, ↓NGff, ↓PGtt, ↓PGtf, ↓PGft, ↓PGff, ↓BGtt, ↓BGtf, ↓BGft, ↓BGff, ↓CGtt, ↓CGtf, ↓CGft, ↓CGff, ↓IGtt, ↓IGtf, ↓IGft, ↓IGff, ↓PKt, ↓PKf, ↓CDt, ↓CDf, ↓NOTt, ↓NOTf, ↓NK_ptr]
    have hjl := (List.getElem?_eq_some_iff.1 h2).1
    refine ixF (d_row h) h2 rfl (show fieldOff Try.prog tMs 7 = some 7 by kernel_rfl) (ld1 vB rfl) (u := .bool m.taken) rfl fun _ _ => ?_
    try simp only [↓VG_u, ↓UG_u, ↓MG_u, ↓NG_u, ↓PG_u, ↓BG_u, ↓CG_u, ↓IG_u, ↓VGtt, ↓VGtf, ↓VGft, ↓VGff, ↓UGtt, ↓UGtf, ↓UGft, ↓UGff, ↓MGtt, ↓MGtf, ↓MGft, ↓MGff, ↓NGtt, ↓NGtf, ↓NGft, ↓NGff, ↓PGtt, ↓PGtf, ↓PGft, ↓PGff, ↓BGtt, ↓BGtf, ↓BGft, ↓BGff, ↓CGtt, ↓CGtf, ↓CGft, ↓CGff, ↓IGtt, ↓IGtf, ↓IGft, ↓IGff, ↓PKt, ↓PKf, ↓CDt, ↓CDf, ↓NOTt, ↓NOTf, ↓NK_ptr]
    cases ht : m.taken with
    | true =>
      simp only [↓VG_u, ↓UG_u, ↓MG_u, ↓NG_u, ↓PG_u, ↓BG_u, ↓CG_u, ↓IG_u, ↓VGtt, ↓VGtf, ↓VGft, ↓VGff, ↓UGtt, ↓UGtf, ↓UGft, ↓UGff, ↓MGtt, ↓MGtf, ↓MGft, ↓MGff, ↓NGtt, ↓NGtf, ↓NGft, ↓NGff, ↓PGtt, ↓PGtf, ↓PGft, ↓PGff, ↓BGtt, ↓BGtf, ↓BGft, ↓BGff, ↓CGtt, ↓CGtf, ↓CGft, ↓CGff, ↓IGtt, ↓IGtf, ↓IGft, ↓IGff, ↓PKt, ↓PKf, ↓CDt, ↓CDf, ↓NOTt, ↓NOTf, ↓NK_ptr, if_true]
      exact ⟨by trivial, h, DFr.refl _ _ _⟩
    | false =>
      simp only [↓VG_u, ↓UG_u, ↓MG_u, ↓NG_u, ↓PG_u, ↓BG_u, ↓CG_u, ↓IG_u, ↓VGtt, ↓VGtf, ↓VGft, ↓VGff, ↓UGtt, ↓UGtf, ↓UGft, ↓UGff, ↓MGtt, ↓MGtf, ↓MGft, ↓MGff, ↓NGtt, ↓NGtf, ↓NGft, ↓NGff, ↓PGtt, ↓PGtf, ↓PGft, ↓PGff, ↓BGtt, ↓BGtf, ↓BGft, ↓BGff, ↓CGtt, ↓CGtf, ↓CGft, ↓CGff, ↓IGtt, ↓IGtf, ↓IGft, ↓IGff, ↓PKt, ↓PKf, ↓CDt, ↓CDf, ↓NOTt, ↓NOTf, ↓NK_ptr, Bool.false_eq_true, if_false]
      have hown := h.own
      rw [(f_all h).e]
      obtain ⟨g, cap, ev, cur, hcur⟩ := owns_some hown (by omega)
      subst ev
      have hg : sb (.slice (some ⟨g, 0, none⟩) l.length cap) g := rfl
      have hb := h.blk
      refine VK_of (run_ixa vMsS cMs (by omega) (by omega) w1) ?_
      rw [add_pl, Nat.zero_add, show ((j : Int)).toNat = j by omega]
      rw [fo (show fieldOff Try.prog tMs 7 = some 7 by kernel_rfl), add_pl]
      refine st_row (by kernel_rfl) rfl hown (k := j * 8 + 7) (by omega) fun w3 ho3 hm3 => ?_
      rw [dispatcherref13_Queue_Take_R0_eq]; unfold dispatcherref13_Queue_Take_R0_F
      rw [fl_set (k := 7 + 1) Ms.enc_len (r' := { m with taken := true }) h2 (by omega) rfl, ← all_set hu (List.find?_some h3) h2] at ho3
      refine ⟨rfl, ⟨hm3.blk hb fun z => h.ne hg z.symm, by rw [List.length_map]; exact ho3⟩, ⟨hm3.mono fun b _ z => by rw [z]; exact .inr hg, fun _ z => .inl z⟩⟩
end
end Go.Proofs.Ytmnkedgmpbcicaa.Que
set_option linter.unusedVariables false
set_option linter.unusedSimpArgs false
set_option maxRecDepth 4000
namespace Go.Proofs.Ytmnkedgmpbcicaa.Que
open Go Go.X Go.RowKit Go.Proofs.Ytmnkedgmpbcicaa.XF Go.Proofs.Ytmnkedgmpbcicaa.XK
section
variable {w : World} {p : Nat} {l : List Ms} {V : Value}
theorem RSend_R0 {m : Ms} {mb : Nat} {ρ : Sl} {t : Bool} {w0 : World} {V0 : Value} (h0 : DFr p w0 V0 w V) (h : DAt w p l V) (hL : l.length ≤ 1000000) (hmb : w.heap[mb]? = some (.cells m.enc.toArray tMs (0, 0))) (hmF : ¬ DF p V mb)
    (e0 : ρ 0 = .pointer (some ⟨p, 0, none⟩)) (e3 : ρ 3 = .pointer (some ⟨mb, 0, none⟩)) (e60 : ρ 60 = .bool t) (ht : t = ((l.find? (Ms.isAt m.frm m.call)).isSome || badM m)) :
    sx fn_ Try.prog 71 dispatcherref13_Queue_Send_R0 (seqK (sx fn_ Try.prog 71 dispatcherref13_Queue_Send_R1 (retK Try.prog [ResultVar.tmp 4] fun v w' => v = .int .i64 (sendV l m).2 ∧ ∃ V', DAt w' p (sendV l m).1 V' ∧ DFr p w0 V0 w' V')) (retK Try.prog [ResultVar.tmp 4] fun v w' => v = .int .i64 (sendV l m).2 ∧ ∃ V', DAt w' p (sendV l m).1 V' ∧ DFr p w0 V0 w' V')) ρ w := by
  rw [dispatcherref13_Queue_Send_R0_eq]; unfold dispatcherref13_Queue_Send_R0_F
  rw [e60]
  unfold sendV
  rw [← ht]
  refine caseC (fun q => ?_) (fun q => ?_)
  · rw [q]
    exact ⟨rfl, V, h, h0⟩
  rw [q]
  simp only [Bool.false_eq_true, if_false]
  rw [sq_n, dispatcherref13_Queue_Send_R1_eq]; unfold dispatcherref13_Queue_Send_R1_F
  refine dispatcherref13_Queue_Send_R2_held (D := []) (fun w' => w'.heap[mb]? = some (.cells m.enc.toArray tMs (0, 0))) hmb ?_
  have hd : Mod none_ w { w with drawn := w.drawn + 1 } := (Mod.refl _ w).drawn _
  have hdz : ({ w with drawn := w.drawn + 1 } : World).heap.size = w.heap.size := rfl
  generalize ({ w with drawn := w.drawn + 1 } : World) = wd at *
  unfold dispatcherref13_Queue_Send_R2_H
  simp only [sq_n, sq_x, sq_r, bk_n, bk_r, bk_x, rt_r, rt_n, rs_0, rs_t, pk_1, pk_2, up_at, reduceIte, Nat.reduceEqDiff, e0, e3]
  have h2 := h.calm hd
  have hmb2 := hd.blk hmb id
  refine HN_ptr (HV_of (v := .pointer (some ⟨p, 0, none⟩)) (fun w' _ => by rw [run_fo (off := 0) (by kernel_rfl), add_pl]) ?_)
  refine HV_of (v := .agg m.enc.toArray) (fun w' hw => run_ldB Try.underlying39 rfl (by rw [iMs]; rfl) hw) ?_
  have tail : ∀ (ρ' : Sl) (x : Value) (w3 : World) (K : Value → Value → Value → World → Prop), w3.heap[mb]? = some (.cells m.enc.toArray tMs (0, 0)) → Mod none_ wd w3 → reads w3 8 x 1 m.enc →
      (∀ a b c w5, w5.heap[mb]? = some (.cells m.enc.toArray tMs (0, 0)) → (∃ V', DAt w5 p (l ++ [m]) V' ∧ DFr p w0 V0 w5 V') → K a b c w5) →
      IK Try.prog .append #[tMsS, tMsS] tMsS [false, false] [V, x] w3 fun x68 w => w.heap[mb]? = some (.cells m.enc.toArray tMs (0, 0)) ∧ (HK Try.prog (fun w' => w'.heap[mb]? = some (.cells m.enc.toArray tMs (0, 0))) (nilCk (.pointer (some ⟨p, 0, none⟩))) fun x69 => HK Try.prog (fun w' => w'.heap[mb]? = some (.cells m.enc.toArray tMs (0, 0))) (do pure (Next.value (← Instr.fieldAt tDq x69 0))) fun x70 => UK Try.prog (Instr.storeAt tMsS x70 x68) w fun _ w => w.heap[mb]? = some (.cells m.enc.toArray tMs (0, 0)) ∧ K x68 x69 x70 w) := by
    intro ρ' x w3 K hmb3 hm3 hrd hK
    have h3 := h2.calm hm3
    refine ap_any eMsS h3.own hrd (fun u hu => Ms.enc_mem [m] u (by simpa using hu)) (by unfold maxLen; omega) (by omega) (Nat.zero_le _) fun v' w4 ho4 hm4 hv4 => ?_
    have hmb4 := hm4.blk hmb3 fun z => hmF (.inr z.symm)
    refine ⟨hmb4, ?_⟩
    refine HN_ptr (HV_of (v := .pointer (some ⟨p, 0, none⟩)) (fun w' _ => by rw [run_fo (off := 0) (by kernel_rfl), add_pl]) ?_)
    have hb4 := hm4.blk h3.blk fun z => h3.ne z.symm rfl
    have hv'1 : v'.oneCell' = true := by
      rcases ho4.2 with ⟨e, _⟩ | ⟨_, _, _, e, _⟩ <;> rw [e] <;> rfl
    refine st1 (o := 0) (by kernel_rfl) hv'1 hb4 (by simp) ?_
    have hb5 : (setB w4 p (Obj.cells (#[V].setIfInBounds 0 v') tDq (0, 0))).heap[p]? = some (.cells #[v'] tDq (0, 0)) := by rw [setB_new _ _ _ (X.blk_lt hb4)]; rfl
    have hm5 : Mod (fun k => k = p) w4 (setB w4 p (Obj.cells (#[V].setIfInBounds 0 v') tDq (0, 0))) := (Mod.refl _ w4).set _ fun _ => rfl
    generalize setB w4 p (Obj.cells (#[V].setIfInBounds 0 v') tDq (0, 0)) = w5 at *
    have hpm : ¬ (fun k => k = p) mb := fun z => hmF (.inl z)
    have hmb5 := hm5.blk hmb4 hpm
    have hvp : ¬ sb v' p := fun z => by
      rcases hv4 with y | y
      · exact h3.ne (b := p) (by unfold sb at z ⊢; rw [← y]; exact z) rfl
      · unfold sb at z; rw [z] at y; injection y with y
        have := X.blk_lt h3.blk; omega
    have hs3 := hm3.size
    have hmd : Mod (DF p V) w3 w5 := (hm4.mono fun b _ z => .inr z.symm).trans (hm5.mono fun b _ z => .inl z)
    refine ⟨hmb5, hK _ _ _ w5 hmb5 ⟨v', ⟨hb5, ?_⟩, h0.trans ⟨((hd.trans hm3).mono fun _ _ z => z.elim).trans hmd, fun b z => ?_⟩⟩⟩
    · refine owns_mod ?_ hm5 fun k z y => hvp (y ▸ z)
      rw [List.length_append, List.flatMap_append]
      simpa using ho4
    · rcases z with z | z
      · exact .inl (.inl z)
      · rcases hv4 with y | y
        · exact .inl (.inr (by unfold sb at z ⊢; rw [← y]; exact z))
        · unfold sb at z; rw [z] at y; injection y with y
          exact .inr (by have := hd.size; omega)
  have hld : ∀ w', Mod none_ wd w' → (Instr.loadAt tMsS (.pointer (some ⟨p, 0, none⟩))).run Try.prog w' = .ok V w' := fun w' hw => run_ld1 vMsS rfl (by rw [cell_blk (h2.calm hw).blk]; rfl)
  refine ⟨?_, ?_⟩
  · refine VK_of (hld wd (Mod.refl _ _)) ⟨hmb2, ?_⟩
    refine bs_k (cs := m.enc.toArray) (by kernel_rfl) fun w3 hb3 hm3 hz3 => ⟨hm3.blk hmb2 id, ?_⟩
    refine tail ρ _ w3 _ (hm3.blk hmb2 id) hm3 (reads_blk (size := 8) (n := 1) hb3 rfl) ?_
    intro a b c w5 _ hw
    try rw [sq_n]
    rw [dispatcherref13_Queue_Send_R3_eq]; unfold dispatcherref13_Queue_Send_R3_F
    exact ⟨rfl, hw⟩
  · refine bs_k (cs := m.enc.toArray) (by kernel_rfl) fun w3 hb3 hm3 hz3 => ⟨hm3.blk hmb2 id, ?_⟩
    refine VK_of (hld w3 hm3) ⟨hm3.blk hmb2 id, ?_⟩
    refine tail ρ _ w3 _ (hm3.blk hmb2 id) hm3 (reads_blk (size := 8) (n := 1) hb3 rfl) ?_
    intro a b c w5 _ hw
    try rw [sq_n]
    rw [dispatcherref13_Queue_Send_R3_eq]; unfold dispatcherref13_Queue_Send_R3_F
    exact ⟨rfl, hw⟩
theorem RSend_ok (h : DAt w p l V) (hL : l.length ≤ 1000000) (m : Ms) : Rt Try.prog 52 #[.pointer (some ⟨p, 0, none⟩), .agg m.enc.toArray] w fun v w' => v = .int .i64 (sendV l m).2 ∧ ∃ V', DAt w' p (sendV l m).1 V' ∧ DFr p w V w' V' := by
  refine dispatcherref13_Queue_Send_calls ?_
  unfold dispatcherref13_Queue_Send_F
  refine box_k (cs := m.enc.toArray) rfl fun w1 hb1 hm1 hz1 => ?_
  have h1 := h.calm hm1
  have hmF : ¬ DF p V w.heap.size := fun z => by have := h.old _ z; omega
  have g1 : FO Try.prog w1 tMs 1 1 ⟨w.heap.size, 0, none⟩ 3 (.int .i64 m.frm) := FO.blk hb1 (by kernel_rfl) vI rfl rfl
  have g2 : FO Try.prog w1 tMs 2 2 ⟨w.heap.size, 0, none⟩ 3 (.int .i64 m.to) := FO.blk hb1 (by kernel_rfl) vI rfl rfl
  have g3 : FO Try.prog w1 tMs 3 3 ⟨w.heap.size, 0, none⟩ 3 (.int .i64 m.call) := FO.blk hb1 (by kernel_rfl) vI rfl rfl
  have g4 : FO Try.prog w1 tMs 4 4 ⟨w.heap.size, 0, none⟩ 3 (.int .i64 m.tag) := FO.blk hb1 (by kernel_rfl) vI rfl rfl
  have g6 : FO Try.prog w1 tMs 6 6 ⟨w.heap.size, 0, none⟩ 3 (.int .i64 m.size) := FO.blk hb1 (by kernel_rfl) vI rfl rfl
  have g7 : FO Try.prog w1 tMs 7 7 ⟨w.heap.size, 0, none⟩ 4 (.bool m.taken) := FO.blk hb1 (by kernel_rfl) vB rfl rfl
  have step : ∀ (ρ : Sl) (t : Bool), ρ 0 = .pointer (some ⟨p, 0, none⟩) → ρ 3 = .pointer (some ⟨w.heap.size, 0, none⟩) → ρ 60 = .bool t → t = ((l.find? (Ms.isAt m.frm m.call)).isSome || badM m) →
      sx fn_ Try.prog 71 dispatcherref13_Queue_Send_R0 (seqK (sx fn_ Try.prog 71 dispatcherref13_Queue_Send_R1 (retK Try.prog [ResultVar.tmp 4] fun v w' => v = .int .i64 (sendV l m).2 ∧ ∃ V', DAt w' p (sendV l m).1 V' ∧ DFr p w V w' V')) (retK Try.prog [ResultVar.tmp 4] fun v w' => v = .int .i64 (sendV l m).2 ∧ ∃ V', DAt w' p (sendV l m).1 V' ∧ DFr p w V w' V')) ρ w1 := fun ρ t q0 q3 q60 ht =>
    RSend_R0 (DFr.calm hm1) h1 hL hb1 hmF q0 q3 q60 ht
  rw [g1.e]
  by_cases b1 : m.frm < 0
  · simp only [↓VG_u, ↓UG_u, ↓MG_u, ↓NG_u, ↓PG_u, ↓BG_u, ↓CG_u, ↓IG_u, ↓VGtt, ↓VGtf, ↓VGft, ↓VGff, ↓UGtt, ↓UGtf, ↓UGft, ↓UGff, ↓MGtt, ↓MGtf, ↓MGft, ↓MGff, ↓NGtt, ↓NGtf, ↓NGft, ↓NGff, ↓PGtt, ↓PGtf, ↓PGft, ↓PGff, ↓BGtt, ↓BGtf, ↓BGft, ↓BGff, ↓CGtt, ↓CGtf, ↓CGft, ↓CGff, ↓IGtt, ↓IGtf, ↓IGft, ↓IGff, ↓PKt, ↓PKf, ↓CDt, ↓CDf, ↓NOTt, ↓NOTf, ↓NK_ptr, ↓LTt b1]
    exact step _ true rfl rfl rfl (by simp [badM, Int.not_le.2 b1])
  simp only [↓VG_u, ↓UG_u, ↓MG_u, ↓NG_u, ↓PG_u, ↓BG_u, ↓CG_u, ↓IG_u, ↓VGtt, ↓VGtf, ↓VGft, ↓VGff, ↓UGtt, ↓UGtf, ↓UGft, ↓UGff, ↓MGtt, ↓MGtf, ↓MGft, ↓MGff, ↓NGtt, ↓NGtf, ↓NGft, ↓NGff, ↓PGtt, ↓PGtf, ↓PGft, ↓PGff, ↓BGtt, ↓BGtf, ↓BGft, ↓BGff, ↓CGtt, ↓CGtf, ↓CGft, ↓CGff, ↓IGtt, ↓IGtf, ↓IGft, ↓IGff, ↓PKt, ↓PKf, ↓CDt, ↓CDf, ↓NOTt, ↓NOTf, ↓NK_ptr, ↓LTf (Int.not_lt.1 b1)]
  rw [g1.e]
  try simp only [↓VG_u, ↓UG_u, ↓MG_u, ↓NG_u, ↓PG_u, ↓BG_u, ↓CG_u, ↓IG_u, ↓VGtt, ↓VGtf, ↓VGft, ↓VGff, ↓UGtt, ↓UGtf, ↓UGft, ↓UGff, ↓MGtt, ↓MGtf, ↓MGft, ↓MGff, ↓NGtt, ↓NGtf, ↓NGft, ↓NGff, ↓PGtt, ↓PGtf, ↓PGft, ↓PGff, ↓BGtt, ↓BGtf, ↓BGft, ↓BGff, ↓CGtt, ↓CGtf, ↓CGft, ↓CGff, ↓IGtt, ↓IGtf, ↓IGft, ↓IGff, ↓PKt, ↓PKf, ↓CDt, ↓CDf, ↓NOTt, ↓NOTf, ↓NK_ptr]
  by_cases b2 : m.frm > 63
  · simp only [↓VG_u, ↓UG_u, ↓MG_u, ↓NG_u, ↓PG_u, ↓BG_u, ↓CG_u, ↓IG_u, ↓VGtt, ↓VGtf, ↓VGft, ↓VGff, ↓UGtt, ↓UGtf, ↓UGft, ↓UGff, ↓MGtt, ↓MGtf, ↓MGft, ↓MGff, ↓NGtt, ↓NGtf, ↓NGft, ↓NGff, ↓PGtt, ↓PGtf, ↓PGft, ↓PGff, ↓BGtt, ↓BGtf, ↓BGft, ↓BGff, ↓CGtt, ↓CGtf, ↓CGft, ↓CGff, ↓IGtt, ↓IGtf, ↓IGft, ↓IGff, ↓PKt, ↓PKf, ↓CDt, ↓CDf, ↓NOTt, ↓NOTf, ↓NK_ptr, ↓GTt b2]
    exact step _ true rfl rfl rfl (by simp [badM, Int.not_le.2 b2])
  simp only [↓VG_u, ↓UG_u, ↓MG_u, ↓NG_u, ↓PG_u, ↓BG_u, ↓CG_u, ↓IG_u, ↓VGtt, ↓VGtf, ↓VGft, ↓VGff, ↓UGtt, ↓UGtf, ↓UGft, ↓UGff, ↓MGtt, ↓MGtf, ↓MGft, ↓MGff, ↓NGtt, ↓NGtf, ↓NGft, ↓NGff, ↓PGtt, ↓PGtf, ↓PGft, ↓PGff, ↓BGtt, ↓BGtf, ↓BGft, ↓BGff, ↓CGtt, ↓CGtf, ↓CGft, ↓CGff, ↓IGtt, ↓IGtf, ↓IGft, ↓IGff, ↓PKt, ↓PKf, ↓CDt, ↓CDf, ↓NOTt, ↓NOTf, ↓NK_ptr, ↓GTf (Int.not_lt.1 b2)]
  rw [g2.e]
  try simp only [↓VG_u, ↓UG_u, ↓MG_u, ↓NG_u, ↓PG_u, ↓BG_u, ↓CG_u, ↓IG_u, ↓VGtt, ↓VGtf, ↓VGft, ↓VGff, ↓UGtt, ↓UGtf, ↓UGft, ↓UGff, ↓MGtt, ↓MGtf, ↓MGft, ↓MGff, ↓NGtt, ↓NGtf, ↓NGft, ↓NGff, ↓PGtt, ↓PGtf, ↓PGft, ↓PGff, ↓BGtt, ↓BGtf, ↓BGft, ↓BGff, ↓CGtt, ↓CGtf, ↓CGft, ↓CGff, ↓IGtt, ↓IGtf, ↓IGft, ↓IGff, ↓PKt, ↓PKf, ↓CDt, ↓CDf, ↓NOTt, ↓NOTf, ↓NK_ptr]
  by_cases b3 : m.to < 0
  · simp only [↓VG_u, ↓UG_u, ↓MG_u, ↓NG_u, ↓PG_u, ↓BG_u, ↓CG_u, ↓IG_u, ↓VGtt, ↓VGtf, ↓VGft, ↓VGff, ↓UGtt, ↓UGtf, ↓UGft, ↓UGff, ↓MGtt, ↓MGtf, ↓MGft, ↓MGff, ↓NGtt, ↓NGtf, ↓NGft, ↓NGff, ↓PGtt, ↓PGtf, ↓PGft, ↓PGff, ↓BGtt, ↓BGtf, ↓BGft, ↓BGff, ↓CGtt, ↓CGtf, ↓CGft, ↓CGff, ↓IGtt, ↓IGtf, ↓IGft, ↓IGff, ↓PKt, ↓PKf, ↓CDt, ↓CDf, ↓NOTt, ↓NOTf, ↓NK_ptr, ↓LTt b3]
    exact step _ true rfl rfl rfl (by simp [badM, Int.not_le.2 b3])
  simp only [↓VG_u, ↓UG_u, ↓MG_u, ↓NG_u, ↓PG_u, ↓BG_u, ↓CG_u, ↓IG_u, ↓VGtt, ↓VGtf, ↓VGft, ↓VGff, ↓UGtt, ↓UGtf, ↓UGft, ↓UGff, ↓MGtt, ↓MGtf, ↓MGft, ↓MGff, ↓NGtt, ↓NGtf, ↓NGft, ↓NGff, ↓PGtt, ↓PGtf, ↓PGft, ↓PGff, ↓BGtt, ↓BGtf, ↓BGft, ↓BGff, ↓CGtt, ↓CGtf, ↓CGft, ↓CGff, ↓IGtt, ↓IGtf, ↓IGft, ↓IGff, ↓PKt, ↓PKf, ↓CDt, ↓CDf, ↓NOTt, ↓NOTf, ↓NK_ptr, ↓LTf (Int.not_lt.1 b3)]
  rw [g2.e]
  try simp only [↓VG_u, ↓UG_u, ↓MG_u, ↓NG_u, ↓PG_u, ↓BG_u, ↓CG_u, ↓IG_u, ↓VGtt, ↓VGtf, ↓VGft, ↓VGff, ↓UGtt, ↓UGtf, ↓UGft, ↓UGff, ↓MGtt, ↓MGtf, ↓MGft, ↓MGff, ↓NGtt, ↓NGtf, ↓NGft, ↓NGff, ↓PGtt, ↓PGtf, ↓PGft, ↓PGff, ↓BGtt, ↓BGtf, ↓BGft, ↓BGff, ↓CGtt, ↓CGtf, ↓CGft, ↓CGff, ↓IGtt, ↓IGtf, ↓IGft, ↓IGff, ↓PKt, ↓PKf, ↓CDt, ↓CDf, ↓NOTt, ↓NOTf, ↓NK_ptr]
  by_cases b4 : m.to > 63
  · simp only [↓VG_u, ↓UG_u, ↓MG_u, ↓NG_u, ↓PG_u, ↓BG_u, ↓CG_u, ↓IG_u, ↓VGtt, ↓VGtf, ↓VGft, ↓VGff, ↓UGtt, ↓UGtf, ↓UGft, ↓UGff, ↓MGtt, ↓MGtf, ↓MGft, ↓MGff, ↓NGtt, ↓NGtf, ↓NGft, ↓NGff, ↓PGtt, ↓PGtf, ↓PGft, ↓PGff, ↓BGtt, ↓BGtf, ↓BGft, ↓BGff, ↓CGtt, ↓CGtf, ↓CGft, ↓CGff, ↓IGtt, ↓IGtf, ↓IGft, ↓IGff, ↓PKt, ↓PKf, ↓CDt, ↓CDf, ↓NOTt, ↓NOTf, ↓NK_ptr, ↓GTt b4]
    exact step _ true rfl rfl rfl (by simp [badM, Int.not_le.2 b4])
  simp only [↓VG_u, ↓UG_u, ↓MG_u, ↓NG_u, ↓PG_u, ↓BG_u, ↓CG_u, ↓IG_u, ↓VGtt, ↓VGtf, ↓VGft, ↓VGff, ↓UGtt, ↓UGtf, ↓UGft, ↓UGff, ↓MGtt, ↓MGtf, ↓MGft, ↓MGff, ↓NGtt, ↓NGtf, ↓NGft, ↓NGff, ↓PGtt, ↓PGtf, ↓PGft, ↓PGff, ↓BGtt, ↓BGtf, ↓BGft, ↓BGff, ↓CGtt, ↓CGtf, ↓CGft, ↓CGff, ↓IGtt, ↓IGtf, ↓IGft, ↓IGff, ↓PKt, ↓PKf, ↓CDt, ↓CDf, ↓NOTt, ↓NOTf, ↓NK_ptr, ↓GTf (Int.not_lt.1 b4)]
  rw [g3.e]
  try simp only [↓VG_u, ↓UG_u, ↓MG_u, ↓NG_u, ↓PG_u, ↓BG_u, ↓CG_u, ↓IG_u, ↓VGtt, ↓VGtf, ↓VGft, ↓VGff, ↓UGtt, ↓UGtf, ↓UGft, ↓UGff, ↓MGtt, ↓MGtf, ↓MGft, ↓MGff, ↓NGtt, ↓NGtf, ↓NGft, ↓NGff, ↓PGtt, ↓PGtf, ↓PGft, ↓PGff, ↓BGtt, ↓BGtf, ↓BGft, ↓BGff, ↓CGtt, ↓CGtf, ↓CGft, ↓CGff, ↓IGtt, ↓IGtf, ↓IGft, ↓IGff, ↓PKt, ↓PKf, ↓CDt, ↓CDf, ↓NOTt, ↓NOTf, ↓NK_ptr]
  by_cases b5 : m.call < 0
  · simp only [↓VG_u, ↓UG_u, ↓MG_u, ↓NG_u, ↓PG_u, ↓BG_u, ↓CG_u, ↓IG_u, ↓VGtt, ↓VGtf, ↓VGft, ↓VGff, ↓UGtt, ↓UGtf, ↓UGft, ↓UGff, ↓MGtt, ↓MGtf, ↓MGft, ↓MGff, ↓NGtt, ↓NGtf, ↓NGft, ↓NGff, ↓PGtt, ↓PGtf, ↓PGft, ↓PGff, ↓BGtt, ↓BGtf, ↓BGft, ↓BGff, ↓CGtt, ↓CGtf, ↓CGft, ↓CGff, ↓IGtt, ↓IGtf, ↓IGft, ↓IGff, ↓PKt, ↓PKf, ↓CDt, ↓CDf, ↓NOTt, ↓NOTf, ↓NK_ptr, ↓LTt b5]
    exact step _ true rfl rfl rfl (by simp [badM, b5])
  simp only [↓VG_u, ↓UG_u, ↓MG_u, ↓NG_u, ↓PG_u, ↓BG_u, ↓CG_u, ↓IG_u, ↓VGtt, ↓VGtf, ↓VGft, ↓VGff, ↓UGtt, ↓UGtf, ↓UGft, ↓UGff, ↓MGtt, ↓MGtf, ↓MGft, ↓MGff, ↓NGtt, ↓NGtf, ↓NGft, ↓NGff, ↓PGtt, ↓PGtf, ↓PGft, ↓PGff, ↓BGtt, ↓BGtf, ↓BGft, ↓BGff, ↓CGtt, ↓CGtf, ↓CGft, ↓CGff, ↓IGtt, ↓IGtf, ↓IGft, ↓IGff, ↓PKt, ↓PKf, ↓CDt, ↓CDf, ↓NOTt, ↓NOTf, ↓NK_ptr, ↓LTf (Int.not_lt.1 b5)]
  rw [g4.e]
  try simp only [↓VG_u, ↓UG_u, ↓MG_u, ↓NG_u, ↓PG_u, ↓BG_u, ↓CG_u, ↓IG_u, ↓VGtt, ↓VGtf, ↓VGft, ↓VGff, ↓UGtt, ↓UGtf, ↓UGft, ↓UGff, ↓MGtt, ↓MGtf, ↓MGft, ↓MGff, ↓NGtt, ↓NGtf, ↓NGft, ↓NGff, ↓PGtt, ↓PGtf, ↓PGft, ↓PGff, ↓BGtt, ↓BGtf, ↓BGft, ↓BGff, ↓CGtt, ↓CGtf, ↓CGft, ↓CGff, ↓IGtt, ↓IGtf, ↓IGft, ↓IGff, ↓PKt, ↓PKf, ↓CDt, ↓CDf, ↓NOTt, ↓NOTf, ↓NK_ptr]
  by_cases b6 : m.tag < 0
  · simp only [↓VG_u, ↓UG_u, ↓MG_u, ↓NG_u, ↓PG_u, ↓BG_u, ↓CG_u, ↓IG_u, ↓VGtt, ↓VGtf, ↓VGft, ↓VGff, ↓UGtt, ↓UGtf, ↓UGft, ↓UGff, ↓MGtt, ↓MGtf, ↓MGft, ↓MGff, ↓NGtt, ↓NGtf, ↓NGft, ↓NGff, ↓PGtt, ↓PGtf, ↓PGft, ↓PGff, ↓BGtt, ↓BGtf, ↓BGft, ↓BGff, ↓CGtt, ↓CGtf, ↓CGft, ↓CGff, ↓IGtt, ↓IGtf, ↓IGft, ↓IGff, ↓PKt, ↓PKf, ↓CDt, ↓CDf, ↓NOTt, ↓NOTf, ↓NK_ptr, ↓LTt b6]
    exact step _ true rfl rfl rfl (by simp [badM, Int.not_le.2 b6])
  simp only [↓VG_u, ↓UG_u, ↓MG_u, ↓NG_u, ↓PG_u, ↓BG_u, ↓CG_u, ↓IG_u, ↓VGtt, ↓VGtf, ↓VGft, ↓VGff, ↓UGtt, ↓UGtf, ↓UGft, ↓UGff, ↓MGtt, ↓MGtf, ↓MGft, ↓MGff, ↓NGtt, ↓NGtf, ↓NGft, ↓NGff, ↓PGtt, ↓PGtf, ↓PGft, ↓PGff, ↓BGtt, ↓BGtf, ↓BGft, ↓BGff, ↓CGtt, ↓CGtf, ↓CGft, ↓CGff, ↓IGtt, ↓IGtf, ↓IGft, ↓IGff, ↓PKt, ↓PKf, ↓CDt, ↓CDf, ↓NOTt, ↓NOTf, ↓NK_ptr, ↓LTf (Int.not_lt.1 b6)]
  rw [g4.e]
  try simp only [↓VG_u, ↓UG_u, ↓MG_u, ↓NG_u, ↓PG_u, ↓BG_u, ↓CG_u, ↓IG_u, ↓VGtt, ↓VGtf, ↓VGft, ↓VGff, ↓UGtt, ↓UGtf, ↓UGft, ↓UGff, ↓MGtt, ↓MGtf, ↓MGft, ↓MGff, ↓NGtt, ↓NGtf, ↓NGft, ↓NGff, ↓PGtt, ↓PGtf, ↓PGft, ↓PGff, ↓BGtt, ↓BGtf, ↓BGft, ↓BGff, ↓CGtt, ↓CGtf, ↓CGft, ↓CGff, ↓IGtt, ↓IGtf, ↓IGft, ↓IGff, ↓PKt, ↓PKf, ↓CDt, ↓CDf, ↓NOTt, ↓NOTf, ↓NK_ptr]
  by_cases b7 : m.tag > 32767
  · simp only [↓VG_u, ↓UG_u, ↓MG_u, ↓NG_u, ↓PG_u, ↓BG_u, ↓CG_u, ↓IG_u, ↓VGtt, ↓VGtf, ↓VGft, ↓VGff, ↓UGtt, ↓UGtf, ↓UGft, ↓UGff, ↓MGtt, ↓MGtf, ↓MGft, ↓MGff, ↓NGtt, ↓NGtf, ↓NGft, ↓NGff, ↓PGtt, ↓PGtf, ↓PGft, ↓PGff, ↓BGtt, ↓BGtf, ↓BGft, ↓BGff, ↓CGtt, ↓CGtf, ↓CGft, ↓CGff, ↓IGtt, ↓IGtf, ↓IGft, ↓IGff, ↓PKt, ↓PKf, ↓CDt, ↓CDf, ↓NOTt, ↓NOTf, ↓NK_ptr, ↓GTt b7]
    exact step _ true rfl rfl rfl (by simp [badM, Int.not_le.2 b7])
  simp only [↓VG_u, ↓UG_u, ↓MG_u, ↓NG_u, ↓PG_u, ↓BG_u, ↓CG_u, ↓IG_u, ↓VGtt, ↓VGtf, ↓VGft, ↓VGff, ↓UGtt, ↓UGtf, ↓UGft, ↓UGff, ↓MGtt, ↓MGtf, ↓MGft, ↓MGff, ↓NGtt, ↓NGtf, ↓NGft, ↓NGff, ↓PGtt, ↓PGtf, ↓PGft, ↓PGff, ↓BGtt, ↓BGtf, ↓BGft, ↓BGff, ↓CGtt, ↓CGtf, ↓CGft, ↓CGff, ↓IGtt, ↓IGtf, ↓IGft, ↓IGff, ↓PKt, ↓PKf, ↓CDt, ↓CDf, ↓NOTt, ↓NOTf, ↓NK_ptr, ↓GTf (Int.not_lt.1 b7)]
  rw [g6.e]
  try simp only [↓VG_u, ↓UG_u, ↓MG_u, ↓NG_u, ↓PG_u, ↓BG_u, ↓CG_u, ↓IG_u, ↓VGtt, ↓VGtf, ↓VGft, ↓VGff, ↓UGtt, ↓UGtf, ↓UGft, ↓UGff, ↓MGtt, ↓MGtf, ↓MGft, ↓MGff, ↓NGtt, ↓NGtf, ↓NGft, ↓NGff, ↓PGtt, ↓PGtf, ↓PGft, ↓PGff, ↓BGtt, ↓BGtf, ↓BGft, ↓BGff, ↓CGtt, ↓CGtf, ↓CGft, ↓CGff, ↓IGtt, ↓IGtf, ↓IGft, ↓IGff, ↓PKt, ↓PKf, ↓CDt, ↓CDf, ↓NOTt, ↓NOTf, ↓NK_ptr]
  by_cases b8 : m.size < 1
  · simp only [↓VG_u, ↓UG_u, ↓MG_u, ↓NG_u, ↓PG_u, ↓BG_u, ↓CG_u, ↓IG_u, ↓VGtt, ↓VGtf, ↓VGft, ↓VGff, ↓UGtt, ↓UGtf, ↓UGft, ↓UGff, ↓MGtt, ↓MGtf, ↓MGft, ↓MGff, ↓NGtt, ↓NGtf, ↓NGft, ↓NGff, ↓PGtt, ↓PGtf, ↓PGft, ↓PGff, ↓BGtt, ↓BGtf, ↓BGft, ↓BGff, ↓CGtt, ↓CGtf, ↓CGft, ↓CGff, ↓IGtt, ↓IGtf, ↓IGft, ↓IGff, ↓PKt, ↓PKf, ↓CDt, ↓CDf, ↓NOTt, ↓NOTf, ↓NK_ptr, ↓LTt b8]
    exact step _ true rfl rfl rfl (by simp [badM, Int.not_le.2 b8])
  simp only [↓VG_u, ↓UG_u, ↓MG_u, ↓NG_u, ↓PG_u, ↓BG_u, ↓CG_u, ↓IG_u, ↓VGtt, ↓VGtf, ↓VGft, ↓VGff, ↓UGtt, ↓UGtf, ↓UGft, ↓UGff, ↓MGtt, ↓MGtf, ↓MGft, ↓MGff, ↓NGtt, ↓NGtf, ↓NGft, ↓NGff, ↓PGtt, ↓PGtf, ↓PGft, ↓PGff, ↓BGtt, ↓BGtf, ↓BGft, ↓BGff, ↓CGtt, ↓CGtf, ↓CGft, ↓CGff, ↓IGtt, ↓IGtf, ↓IGft, ↓IGff, ↓PKt, ↓PKf, ↓CDt, ↓CDf, ↓NOTt, ↓NOTf, ↓NK_ptr, ↓LTf (Int.not_lt.1 b8)]
  rw [g6.e]
  try simp only [↓VG_u, ↓UG_u, ↓MG_u, ↓NG_u, ↓PG_u, ↓BG_u, ↓CG_u, ↓IG_u, ↓VGtt, ↓VGtf, ↓VGft, ↓VGff, ↓UGtt, ↓UGtf, ↓UGft, ↓UGff, ↓MGtt, ↓MGtf, ↓MGft, ↓MGff, ↓NGtt, ↓NGtf, ↓NGft, ↓NGff, ↓PGtt, ↓PGtf, ↓PGft, ↓PGff, ↓BGtt, ↓BGtf, ↓BGft, ↓BGff, ↓CGtt, ↓CGtf, ↓CGft, ↓CGff, ↓IGtt, ↓IGtf, ↓IGft, ↓IGff, ↓PKt, ↓PKf, ↓CDt, ↓CDf, ↓NOTt, ↓NOTf, ↓NK_ptr]
  by_cases b9 : m.size > 64
  · simp only [↓VG_u, ↓UG_u, ↓MG_u, ↓NG_u, ↓PG_u, ↓BG_u, ↓CG_u, ↓IG_u, ↓VGtt, ↓VGtf, ↓VGft, ↓VGff, ↓UGtt, ↓UGtf, ↓UGft, ↓UGff, ↓MGtt, ↓MGtf, ↓MGft, ↓MGff, ↓NGtt, ↓NGtf, ↓NGft, ↓NGff, ↓PGtt, ↓PGtf, ↓PGft, ↓PGff, ↓BGtt, ↓BGtf, ↓BGft, ↓BGff, ↓CGtt, ↓CGtf, ↓CGft, ↓CGff, ↓IGtt, ↓IGtf, ↓IGft, ↓IGff, ↓PKt, ↓PKf, ↓CDt, ↓CDf, ↓NOTt, ↓NOTf, ↓NK_ptr, ↓GTt b9]
    exact step _ true rfl rfl rfl (by simp [badM, Int.not_le.2 b9])
  simp only [↓VG_u, ↓UG_u, ↓MG_u, ↓NG_u, ↓PG_u, ↓BG_u, ↓CG_u, ↓IG_u, ↓VGtt, ↓VGtf, ↓VGft, ↓VGff, ↓UGtt, ↓UGtf, ↓UGft, ↓UGff, ↓MGtt, ↓MGtf, ↓MGft, ↓MGff, ↓NGtt, ↓NGtf, ↓NGft, ↓NGff, ↓PGtt, ↓PGtf, ↓PGft, ↓PGff, ↓BGtt, ↓BGtf, ↓BGft, ↓BGff, ↓CGtt, ↓CGtf, ↓CGft, ↓CGff, ↓IGtt, ↓IGtf, ↓IGft, ↓IGff, ↓PKt, ↓PKf, ↓CDt, ↓CDf, ↓NOTt, ↓NOTf, ↓NK_ptr, ↓GTf (Int.not_lt.1 b9)]
  rw [g7.e]
  try simp only [↓VG_u, ↓UG_u, ↓MG_u, ↓NG_u, ↓PG_u, ↓BG_u, ↓CG_u, ↓IG_u, ↓VGtt, ↓VGtf, ↓VGft, ↓VGff, ↓UGtt, ↓UGtf, ↓UGft, ↓UGff, ↓MGtt, ↓MGtf, ↓MGft, ↓MGff, ↓NGtt, ↓NGtf, ↓NGft, ↓NGff, ↓PGtt, ↓PGtf, ↓PGft, ↓PGff, ↓BGtt, ↓BGtf, ↓BGft, ↓BGff, ↓CGtt, ↓CGtf, ↓CGft, ↓CGff, ↓IGtt, ↓IGtf, ↓IGft, ↓IGff, ↓PKt, ↓PKf, ↓CDt, ↓CDf, ↓NOTt, ↓NOTf, ↓NK_ptr]
  cases b10 : m.taken with
  | true =>
    simp only [↓VG_u, ↓UG_u, ↓MG_u, ↓NG_u, ↓PG_u, ↓BG_u, ↓CG_u, ↓IG_u, ↓VGtt, ↓VGtf, ↓VGft, ↓VGff, ↓UGtt, ↓UGtf, ↓UGft, ↓UGff, ↓MGtt, ↓MGtf, ↓MGft, ↓MGff, ↓NGtt, ↓NGtf, ↓NGft, ↓NGff, ↓PGtt, ↓PGtf, ↓PGft, ↓PGff, ↓BGtt, ↓BGtf, ↓BGft, ↓BGff, ↓CGtt, ↓CGtf, ↓CGft, ↓CGff, ↓IGtt, ↓IGtf, ↓IGft, ↓IGff, ↓PKt, ↓PKf, ↓CDt, ↓CDf, ↓NOTt, ↓NOTf, ↓NK_ptr]
    exact step _ true rfl rfl rfl (by simp [badM, b10])
  | false =>
    simp only [↓VG_u, ↓UG_u, ↓MG_u, ↓NG_u, ↓PG_u, ↓BG_u, ↓CG_u, ↓IG_u, ↓VGtt, ↓VGtf, ↓VGft, ↓VGff, ↓UGtt, ↓UGtf, ↓UGft, ↓UGff, ↓MGtt, ↓MGtf, ↓MGft, ↓MGff, ↓NGtt, ↓NGtf, ↓NGft, ↓NGff, ↓PGtt, ↓PGtf, ↓PGft, ↓PGff, ↓BGtt, ↓BGtf, ↓BGft, ↓BGff, ↓CGtt, ↓CGtf, ↓CGft, ↓CGff, ↓IGtt, ↓IGtf, ↓IGft, ↓IGff, ↓PKt, ↓PKf, ↓CDt, ↓CDf, ↓NOTt, ↓NOTf, ↓NK_ptr]
    rw [g1.e]
    try simp only [↓VG_u, ↓UG_u, ↓MG_u, ↓NG_u, ↓PG_u, ↓BG_u, ↓CG_u, ↓IG_u, ↓VGtt, ↓VGtf, ↓VGft, ↓VGff, ↓UGtt, ↓UGtf, ↓UGft, ↓UGff, ↓MGtt, ↓MGtf, ↓MGft, ↓MGff, ↓NGtt, ↓NGtf, ↓NGft, ↓NGff, ↓PGtt, ↓PGtf, ↓PGft, ↓PGff, ↓BGtt, ↓BGtf, ↓BGft, ↓BGff, ↓CGtt, ↓CGtf, ↓CGft, ↓CGff, ↓IGtt, ↓IGtf, ↓IGft, ↓IGff, ↓PKt, ↓PKf, ↓CDt, ↓CDf, ↓NOTt, ↓NOTf, ↓NK_ptr]
    rw [g3.e]
    try simp only [↓VG_u, ↓UG_u, ↓MG_u, ↓NG_u, ↓PG_u, ↓BG_u, ↓CG_u, ↓IG_u, ↓VGtt, ↓VGtf, ↓VGft, ↓VGff, ↓UGtt, ↓UGtf, ↓UGft, ↓UGff, ↓MGtt, ↓MGtf, ↓MGft, ↓MGff, ↓NGtt, ↓NGtf, ↓NGft, ↓NGff, ↓PGtt, ↓PGtf, ↓PGft, ↓PGff, ↓BGtt, ↓BGtf, ↓BGft, ↓BGff, ↓CGtt, ↓CGtf, ↓CGft, ↓CGff, ↓IGtt, ↓IGtf, ↓IGft, ↓IGff, ↓PKt, ↓PKf, ↓CDt, ↓CDf, ↓NOTt, ↓NOTf, ↓NK_ptr]
    refine CK_st Try.func70 rfl rfl (place_ok h1 hL m.frm m.call) ?_
    rintro _ w2 ⟨rfl, rfl⟩
    have hbad : badM m = false := by
      simp only [badM, b10, Bool.false_or, Bool.or_eq_false_iff, Bool.not_eq_false', Bool.and_eq_true, decide_eq_true_eq, decide_eq_false_iff_not]
      omega
    rcases idx_find (Ms.isAt m.frm m.call) l with ⟨q1, q2⟩ | ⟨j, x, q1, q2, q3, _⟩
    · unfold idxV
      rw [q1]
      dsimp only
      simp only [↓VG_u, ↓UG_u, ↓MG_u, ↓NG_u, ↓PG_u, ↓BG_u, ↓CG_u, ↓IG_u, ↓VGtt, ↓VGtf, ↓VGft, ↓VGff, ↓UGtt, ↓UGtf, ↓UGft, ↓UGff, ↓MGtt, ↓MGtf, ↓MGft, ↓MGff, ↓NGtt, ↓NGtf, ↓NGft, ↓NGff, ↓PGtt, ↓PGtf, ↓PGft, ↓PGff, ↓BGtt, ↓BGtf, ↓BGft, ↓BGff, ↓CGtt, ↓CGtf, ↓CGft, ↓CGff, ↓IGtt, ↓IGtf, ↓IGft, ↓IGff, ↓PKt, ↓PKf, ↓CDt, ↓CDf, ↓NOTt, ↓NOTf, ↓NK_ptr, ↓BK_geq]
      exact step _ false rfl rfl rfl (by rw [q2, hbad]; rfl)
    · unfold idxV
      rw [q1]
      dsimp only
      simp only [↓VG_u, ↓UG_u, ↓MG_u, ↓NG_u, ↓PG_u, ↓BG_u, ↓CG_u, ↓IG_u, ↓VGtt, ↓VGtf, ↓VGft, ↓VGff, ↓UGtt, ↓UGtf, ↓UGft, ↓UGff, ↓MGtt, ↓MGtf, ↓MGft, ↓MGff, ↓NGtt, ↓NGtf, ↓NGft, ↓NGff, ↓PGtt, ↓PGtf, ↓PGft, ↓PGff, ↓BGtt, ↓BGtf, ↓BGft, ↓BGff, ↓CGtt, ↓CGtf, ↓CGft, ↓CGff, ↓IGtt, ↓IGtf, ↓IGft, ↓IGff, ↓PKt, ↓PKf, ↓CDt, ↓CDf, ↓NOTt, ↓NOTf, ↓NK_ptr, ↓BK_geq]
      exact step _ true rfl rfl (by congr 1) (by rw [q3]; rfl)
theorem RCopy_ok (h : DAt w p l V) (hL : l.length ≤ 1000000) : Rt Try.prog 56 #[.pointer (some ⟨p, 0, none⟩)] w fun v w' => ∃ q V', v = .pointer (some ⟨q, 0, none⟩) ∧ DAt w' q l V' ∧ (∀ b, DF q V' b → w.heap.size ≤ b) ∧ Mod none_ w w' := by
  refine dispatcherref13_Queue_Copy_calls ?_
  unfold dispatcherref13_Queue_Copy_F
  refine bs0_k vMsS iMs fun w1 hb1 hm1 hz1 => ?_
  have h1 := h.calm hm1
  rw [NK_ptr, (f_all h1).e]
  have hown : w1.ownsRow w.heap.size tMs 8 (.slice (some ⟨w.heap.size, 0, none⟩) 0 0) 0 [] := owns_zero hb1 (Nat.le_refl _)
  refine ap_any eMsS hown (d_row h1) (Ms.enc_mem l) (by unfold maxLen; omega) (by omega) (by omega) fun v' w2 h2 hm2 _ => ?_
  have hm12 : Mod none_ w w2 := hm1.then hm2 fun i hi q => by
    have : i = w.heap.size := by simpa [Value.ownBlock] using q
    omega
  have hc : v' = .slice none 0 0 ∨ ∃ g n c, v' = .slice (some ⟨g, 0, none⟩) n c := by
    rcases h2.2 with ⟨e, _⟩ | ⟨g, c, _, e, _⟩
    · exact .inl e
    · exact .inr ⟨g, _, c, e⟩
  rw [build_ok (cs := #[v']) (by rcases hc with rfl | ⟨g, n, c, rfl⟩ <;> kernel_rfl)]
  refine box_k (cs := #[v']) rfl fun w3 hb3 hm3 hz3 => ?_
  have hs := hm12.size
  refine ⟨w2.heap.size, v', rfl, ⟨hb3, owns_base (owns_mod (by simpa using h2) hm3 fun _ _ => id) (Nat.zero_le _)⟩, fun b z => ?_, hm12.trans hm3⟩
  rcases z with z | z
  · omega
  · exact (owns_bd h2 b z).1
end
end Go.Proofs.Ytmnkedgmpbcicaa.Que
set_option linter.unusedVariables false
set_option linter.unusedSimpArgs false
set_option maxRecDepth 4000
namespace Go.X
open Go Go.RowKit
theorem cut_lo {P : Program} {w : World} {K : Value → World → Prop} {t e : TypeId} {sz : Nat} (hu : P.underlying t = some (.slice e)) (hc : P.cellsOf e = sz + 1) {v : Value} {n i : Nat} {xs : List Value} (h : reads w (sz + 1) v n xs) (hij : i ≤ n)
    (hk : ∀ v', reads w (sz + 1) v' (n - i) (xs.drop (i * (sz + 1))) → K v' w) : VK P (Instr.sliceAt t v (some (.int .i64 (i : Int))) none none) w K := by
  obtain ⟨hl, A, c, rfl, hnc, hr⟩ := h
  obtain ⟨z, hz, hzs⟩ := info_of hc
  have he : P.elem t = e := by simp [Program.elem, hu]
  have hrun : (Instr.sliceAt t (.slice A n c) (some (.int .i64 (i : Int))) none none).run P w = .ok (sliced A i n c (sz + 1)) w := by
    rw [run_sliceAt_slice (h := elem_of hu), run_slice_l w t A n c (elem_of hu) .i64 _ (by omega) (by omega), he]
    simp [sizeOf, typeInfo, hz, hzs]
  refine VK_of hrun (hk _ ⟨?_, ?_⟩)
  · rw [List.length_drop, hl, ← Nat.sub_mul]
  · refine ⟨_, _, rfl, by omega, fun k u hku => ?_⟩
    rw [List.getElem?_drop] at hku
    have hlt : i * (sz + 1) + k < n * (sz + 1) := by
      have := (List.getElem?_eq_some_iff.1 hku).1
      omega
    obtain ⟨a, rfl, hcell⟩ := hr _ u hku
    by_cases hci : c = i
    · have : i < n := Nat.lt_of_mul_lt_mul_right (a := sz + 1) (by omega)
      omega
    · refine ⟨a.add (i * (sz + 1)), by simp [sliced, hci], ?_⟩
      rw [add_add]
      exact hcell
theorem owns_pre {P : Program} {w : World} {t e : TypeId} {sz base : Nat} (hu : P.underlying t = some (.slice e)) (hc : P.cellsOf e = sz + 1) {v : Value} {n k : Nat} {xs : List Value} (h : w.ownsRow base e (sz + 1) v n xs) (hk : k ≤ n) :
    ∃ v', (∀ w', (Instr.sliceAt t v none (some (.int .i64 (k : Int))) none).run P w' = .ok v' w') ∧ w.ownsRow base e (sz + 1) v' k (xs.take (k * (sz + 1))) ∧ v'.ownBlock = v.ownBlock := by
  obtain ⟨z, hz, hzs⟩ := info_of hc
  have he : P.elem t = e := by simp [Program.elem, hu]
  have run : ∀ (A : Option Addr) (n c : Nat) (w' : World), k ≤ c → (Instr.sliceAt t (.slice A n c) none (some (.int .i64 (k : Int))) none).run P w' = .ok (sliced A 0 k c (sz + 1)) w' := fun A n c w' hkc => by
    rw [run_sliceAt_slice (h := elem_of hu), run_slice_h w' t A n c (elem_of hu) .i64 _ (by omega) (by omega), he]
    simp [sizeOf, typeInfo, hz, hzs]
  obtain ⟨hl, ⟨rfl, rfl⟩ | ⟨g, cap, cur, rfl, hb, hg, hn, hm, hs, ht⟩⟩ := h
  · obtain rfl : k = 0 := by omega
    refine ⟨.slice none 0 0, fun w' => by rw [run _ _ _ _ (Nat.le_refl _)]; simp [sliced], ?_, rfl⟩
    simpa using World.ownsRow_nil _ _ _ _
  · refine ⟨.slice (some ⟨g, 0, none⟩) k cap, fun w' => ?_, ⟨?_, .inr ⟨g, cap, cur, rfl, hb, hg, by omega, hm, hs, ?_⟩⟩, rfl⟩
    · rw [run _ _ _ _ (by omega)]
      simp only [sliced, Nat.sub_zero, Nat.zero_mul, add_pl]
      by_cases hc0 : cap = 0
      · simp [hc0]
      · simp [hc0]; try rfl
    · rw [List.length_take, hl]
      exact Nat.min_eq_left (Nat.mul_le_mul_right _ hk)
    · rw [← ht, List.take_take, Nat.min_eq_left (Nat.mul_le_mul_right _ hk)]
theorem ltM_below {S : List Ms} {x : Ms} (hs : SortedL ltM S) {k : Nat} {y : Ms} (hy : S[k]? = some y) (h : ltM x y = false) : ∀ a ∈ S.take (k + 1), ltM x a = false := by
  intro a ha
  obtain ⟨i, hi, rfl⟩ := List.mem_take_iff_getElem.1 ha
  have := hs.le_at ltM_wo (i := i) (j := k) (by omega) (List.getElem?_eq_getElem (by omega)) hy
  exact ltM_wo.tr _ _ _ this h
end Go.X
namespace Go.Proofs.Ytmnkedgmpbcicaa.Que
open Go Go.X Go.RowKit Go.Proofs.Ytmnkedgmpbcicaa.XF Go.Proofs.Ytmnkedgmpbcicaa.XK
theorem BK_neqL (t : TypeId) (x y : Operand) (a b : List UInt8) {P : Program} {w : World} {K : Value → World → Prop} : BK P .neq t x y (strV a) (strV b) w K = K (.bool (decide (a ≠ b))) w := by
  unfold strV
  rw [BK_neqS, toL, toL]
  congr 2
  by_cases h : a = b <;> simp [h]
theorem ahead_ok (a b : Ms) (w : World) : Rt Try.prog 61 #[.agg a.enc.toArray, .agg b.enc.toArray] w fun v w' => v = .bool (ltM a b) ∧ Mod none_ w w' := by
  refine dispatcherref13_ahead_calls ?_
  unfold dispatcherref13_ahead_F
  refine box_k (cs := a.enc.toArray) rfl fun w1 hb1 hm1 hz1 => ?_
  refine box_k (cs := b.enc.toArray) rfl fun w2 hb2 hm2 hz2 => ?_
  have hb1' := hm2.blk hb1 id
  have hm := hm1.trans hm2
  have a0 : FO Try.prog w2 tMs 0 0 ⟨w.heap.size, 0, none⟩ 9 (strV a.key) := FO.blk hb1' (by kernel_rfl) vS rfl rfl
  have a1 : FO Try.prog w2 tMs 1 1 ⟨w.heap.size, 0, none⟩ 3 (.int .i64 a.frm) := FO.blk hb1' (by kernel_rfl) vI rfl rfl
  have a2 : FO Try.prog w2 tMs 2 2 ⟨w.heap.size, 0, none⟩ 3 (.int .i64 a.to) := FO.blk hb1' (by kernel_rfl) vI rfl rfl
  have b0 : FO Try.prog w2 tMs 0 0 ⟨w1.heap.size, 0, none⟩ 9 (strV b.key) := FO.blk hb2 (by kernel_rfl) vS rfl rfl
  have b1 : FO Try.prog w2 tMs 1 1 ⟨w1.heap.size, 0, none⟩ 3 (.int .i64 b.frm) := FO.blk hb2 (by kernel_rfl) vI rfl rfl
  have b2 : FO Try.prog w2 tMs 2 2 ⟨w1.heap.size, 0, none⟩ 3 (.int .i64 b.to) := FO.blk hb2 (by kernel_rfl) vI rfl rfl
  rw [a0.e, b0.e, BK_neqL]
  by_cases c0 : a.key = b.key
  · rw [decide_eq_false (by simpa using c0)]
    refine condF ?_
    rw [a1.e, b1.e]
    by_cases c1 : a.frm = b.frm
    · rw [NEf c1]
      refine condF ?_
      rw [a2.e, b2.e, BK_lss]
      refine ⟨?_, hm⟩
      congr 1
      simp [ltM, ltC, Ms.ch, c0, c1, bl_irr]
    · rw [NEt c1]
      refine condT ?_
      rw [a1.e, b1.e, BK_lss]
      refine ⟨?_, hm⟩
      congr 1
      simp [ltM, ltC, Ms.ch, c0, c1, bl_irr]
  · rw [decide_eq_true c0]
    refine condT ?_
    rw [a0.e, b0.e, BK_lssS]
    refine ⟨?_, hm⟩
    congr 1
    simp [ltM, ltC, Ms.ch, c0]
section
variable {w : World} {p : Nat} {l : List Ms} {V : Value}
theorem rleft_L3 {K : Exit → Sl → World → Prop} {ρ : Sl} {S : List Ms} {o : Value} {x : Ms} {i B : Nat} (h : DAt w p l V) (hx : l[i]? = some x) (hL : l.length ≤ 1000000) (hs : SortedL ltM S) (hO : w.ownsRow B tMs 8 o S.length (S.flatMap Ms.enc)) (hSl : S.length ≤ 1000000)
    (e0 : ρ 0 = .pointer (some ⟨p, 0, none⟩)) (e3 : ρ 3 = o) (e4 : ρ 4 = .int .i64 i) (e5 : ρ 5 = .int .i64 S.length)
    (hk : ∀ (ρ' : Sl) (w' : World) (k : Nat), ρ' 0 = ρ 0 → ρ' 3 = ρ 3 → ρ' 4 = ρ 4 → ρ' 5 = .int .i64 k → k ≤ S.length → Mod none_ w w' → (∀ b ∈ S.drop k, ltM x b = true) → (∀ a ∈ S.take k, ltM x a = false) → K (.exit 2) ρ' w') : W fn_ Try.prog 65 (Code.loop dispatcherref13_Queue_Left_L3) K ρ w := by
  have hil := (List.getElem?_eq_some_iff.1 hx).1
  refine W_loop dispatcherref13_Queue_Left_L3_ok (fun ρ' w' => ∃ k : Nat, k ≤ S.length ∧ ρ' 5 = .int .i64 k ∧ ρ' 0 = .pointer (some ⟨p, 0, none⟩) ∧ ρ' 3 = o ∧ ρ' 4 = .int .i64 i ∧ (∀ b ∈ S.drop k, ltM x b = true) ∧ Mod none_ w w') (fun ρ' _ => (intOf (ρ' 5)).toNat)
    ⟨S.length, Nat.le_refl _, e5, e0, e3, e4, by simp, Mod.refl _ _⟩ ?_
  rintro ρ' w3 ⟨k, hk3, a5, a0, a3, a4, hno, hm3⟩
  rw [dispatcherref13_Queue_Left_L3_eq]; unfold dispatcherref13_Queue_Left_L3_F
  rw [a5]
  refine dispatcherref13_Queue_Left_R5_tail (D := []) ?_
  have hd : Mod none_ w3 { w3 with drawn := w3.drawn + 1 } := (Mod.refl _ w3).drawn _
  generalize ({ w3 with drawn := w3.drawn + 1 } : World) = wd at *
  have hmd := hm3.trans hd
  unfold dispatcherref13_Queue_Left_R5_T
  simp only [sq_n, sq_x, sq_r, bk_n, bk_r, bk_x, rt_r, rt_n, rs_0, rs_t, pk_1, pk_2, up_at, reduceIte, Nat.reduceEqDiff, a0, a3, a4, a5]
  have fin : ∀ (ρ2 : Sl) (w4 : World) (t : Bool), ρ2 0 = ρ' 0 → ρ2 3 = ρ' 3 → ρ2 4 = ρ' 4 → ρ2 5 = ρ' 5 → ρ2 42 = .bool t → Mod none_ w w4 → (t = true → ∃ k', k = k' + 1 ∧ ∀ b ∈ S.drop k', ltM x b = true) → (t = false → ∀ a ∈ S.take k, ltM x a = false) →
      sx fn_ Try.prog 65 dispatcherref13_Queue_Left_R6 (seqK (sx fn_ Try.prog 65 dispatcherref13_Queue_Left_R7 (seqK (fun ρ' w' => (∃ k : Nat, k ≤ S.length ∧ ρ' 5 = .int .i64 k ∧ ρ' 0 = .pointer (some ⟨p, 0, none⟩) ∧ ρ' 3 = o ∧ ρ' 4 = .int .i64 i ∧ (∀ b ∈ S.drop k, ltM x b = true) ∧ Mod none_ w w') ∧ (intOf (ρ' 5)).toNat < (intOf (.int .i64 (k : Int))).toNat) K)) (seqK (fun ρ' w' => (∃ k : Nat, k ≤ S.length ∧ ρ' 5 = .int .i64 k ∧ ρ' 0 = .pointer (some ⟨p, 0, none⟩) ∧ ρ' 3 = o ∧ ρ' 4 = .int .i64 i ∧ (∀ b ∈ S.drop k, ltM x b = true) ∧ Mod none_ w w') ∧ (intOf (ρ' 5)).toNat < (intOf (.int .i64 (k : Int))).toNat) K)) ρ2 w4 := by
    intro ρ2 w4 t b0 b3 b4 b5 b42 hm4 ht hf
    rw [dispatcherref13_Queue_Left_R6_eq]; unfold dispatcherref13_Queue_Left_R6_F
    rw [b42]
    refine caseC (fun q => ?_) (fun q => ?_)
    · obtain ⟨k', rfl, hk'⟩ := ht q
      rw [sq_n, dispatcherref13_Queue_Left_R7_eq]; unfold dispatcherref13_Queue_Left_R7_F
      rw [b5, a5, BK_sub, wrap_i (by omega) (by omega)]
      refine ⟨⟨k', by omega, by show Value.int .i64 _ = _; congr 1; omega, b0.trans a0, b3.trans a3, b4.trans a4, hk', hm4⟩, ?_⟩
      simp only [sq_n, sq_x, sq_r, bk_n, bk_r, bk_x, rt_r, rt_n, rs_0, rs_t, pk_1, pk_2, up_at, reduceIte, Nat.reduceEqDiff, intOf]; omega
    · exact hk ρ2 w4 k (b0.trans (a0.trans e0.symm)) (b3.trans (a3.trans e3.symm)) (b4.trans (a4.trans e4.symm)) (b5.trans a5) hk3 hm4 hno (hf q)
  rcases Nat.eq_zero_or_pos k with rfl | hpos
  · refine Qgtr ?_
    rw [decide_eq_false (by omega)]
    simp only [↓VG_u, ↓UG_u, ↓MG_u, ↓NG_u, ↓PG_u, ↓BG_u, ↓CG_u, ↓IG_u, ↓VGtt, ↓VGtf, ↓VGft, ↓VGff, ↓UGtt, ↓UGtf, ↓UGft, ↓UGff, ↓MGtt, ↓MGtf, ↓MGft, ↓MGff, ↓NGtt, ↓NGtf, ↓NGft, ↓NGff, ↓PGtt, ↓PGtf, ↓PGft, ↓PGff, ↓BGtt, ↓BGtf, ↓BGft, ↓BGff, ↓CGtt, ↓CGtf, ↓CGft, ↓CGff, ↓IGtt, ↓IGtf, ↓IGft, ↓IGff, ↓PKt, ↓PKf, ↓CDt, ↓CDf, ↓NOTt, ↓NOTf, ↓NK_ptr, QG_b, Bool.false_eq_true, if_false]
    refine fin _ wd false ?_ ?_ ?_ ?_ ?_ hmd (fun q => by cases q) (fun _ a ha => by simp at ha) <;> rfl
  · obtain ⟨k', rfl⟩ : ∃ k', k = k' + 1 := ⟨k - 1, by omega⟩
    have hy : S[k']? = some S[k'] := List.getElem?_eq_getElem (by omega)
    generalize S[k'] = y at *
    have hD := h.calm hmd
    have hO3 := owns_mod hO hmd fun _ _ => id
    obtain ⟨g, cap, ev, _⟩ := owns_some hD.own (by omega)
    obtain ⟨g2, cap2, eo, _⟩ := owns_some hO3 (by omega)
    have hDV : Dat wd g cap l := by have := hD.own; rw [ev] at this; exact this
    have hDO : Dat wd g2 cap2 S := by have := owns_base hO3 (Nat.zero_le _); rw [eo] at this; exact this
    subst ev
    subst eo
    refine Qgtr ?_
    rw [decide_eq_true (by omega)]
    rw [QG_b, if_pos rfl]
    refine QM ?_
    rw [QG_b, if_pos rfl]
    refine QN_ptr ?_
    rw [QG_b, if_pos rfl]
    refine Qfo (off := 0) (by kernel_rfl) ?_
    rw [QG_b, if_pos rfl]
    refine Qld (v := dv g cap l.length) vMsS rfl (fun w' hw => by rw [hw, add_pl, cell_blk hD.blk]; rfl) ?_
    rw [QG_b, if_pos rfl]
    refine QM ?_
    rw [QG_b, if_pos rfl]
    refine QV_of (v := .pointer (some ⟨g, i * 8, none⟩)) (fun w' hw => Dat.ix rfl hil w') ?_
    rw [QG_b, if_pos rfl]
    refine QV_of (v := .agg x.enc.toArray) (fun w' hw => by rw [hw]; exact hDV.run_ld hx) ?_
    rw [QG_b, if_pos rfl]
    refine QM ?_
    rw [QG_b, if_pos rfl]
    refine QM ?_
    rw [QG_b, if_pos rfl]
    refine Qsub ?_
    rw [wrap_i (by omega) (by omega), QG_b, if_pos rfl]
    refine QV_of (v := .pointer (some ⟨g2, k' * 8, none⟩)) (fun w' hw => Dat.ix (by omega) (by omega) w') ?_
    rw [QG_b, if_pos rfl]
    refine QV_of (v := .agg y.enc.toArray) (fun w' hw => by rw [hw]; exact hDO.run_ld hy) ?_
    rw [CG_b, if_pos rfl]
    refine CK_st Try.func61 rfl rfl (ahead_ok x y wd) ?_
    rintro _ w4 ⟨rfl, hm4⟩
    rw [PK_bool, if_pos rfl]
    refine fin _ w4 (ltM x y) ?_ ?_ ?_ ?_ ?_ (hmd.trans hm4) (fun q => ⟨k', rfl, fun b hb => ?_⟩) (fun q a ha => ltM_below hs hy q a ha)
    any_goals rfl
    rw [List.drop_eq_getElem_cons (by omega)] at hb
    rcases List.mem_cons.1 hb with rfl | hb
    · rw [(List.getElem?_eq_some_iff.1 hy).2]; exact q
    · exact hno b hb
end
end Go.Proofs.Ytmnkedgmpbcicaa.Que
set_option linter.unusedVariables false
set_option linter.unusedSimpArgs false
set_option maxRecDepth 4000
namespace Go.X
theorem fl_dropA {α : Type} {enc : α → List Value} {k : Nat} (hk : ∀ a, (enc a).length = k) : ∀ (xs : List α) (n : Nat), (xs.flatMap enc).drop (n * k) = (xs.drop n).flatMap enc
  | [], n => by simp
  | x :: xs, 0 => by simp
  | x :: xs, n + 1 => by
    rw [List.drop_succ_cons, List.flatMap_cons, ← fl_dropA hk xs n]
    rw [show (n + 1) * k = (enc x).length + n * k by rw [hk, Nat.succ_mul]; omega, List.drop_length_add_append]
end Go.X
namespace Go.Proofs.Ytmnkedgmpbcicaa.Que
open Go Go.X Go.RowKit Go.Proofs.Ytmnkedgmpbcicaa.XF Go.Proofs.Ytmnkedgmpbcicaa.XK
section
variable {w : World} {p : Nat} {l : List Ms} {V : Value}
theorem rleft_R4 {K : Exit → Sl → World → Prop} {ρ : Sl} {S : List Ms} {o : Value} {x : Ms} {i k B : Nat} (h : DAt w p l V) (hB : ∀ b, DF p V b → b < B) (hx : l[i]? = some x) (hL : l.length ≤ 1000000) (hO : w.ownsRow B tMs 8 o S.length (S.flatMap Ms.enc)) (hBw : B ≤ w.heap.size) (hSl : S.length ≤ 1000000) (hkS : k ≤ S.length)
    (e0 : ρ 0 = .pointer (some ⟨p, 0, none⟩)) (e3 : ρ 3 = o) (e4 : ρ 4 = .int .i64 i) (e5 : ρ 5 = .int .i64 k)
    (hk : ∀ (ρ' : Sl) (w' : World) (o' : Value), ρ' 0 = ρ 0 → ρ' 3 = o' → ρ' 4 = ρ 4 → w'.ownsRow B tMs 8 o' (S.take k ++ x :: S.drop k).length ((S.take k ++ x :: S.drop k).flatMap Ms.enc) → Mod (fun b => B ≤ b) w w' → K .normal ρ' w') : sx fn_ Try.prog 65 dispatcherref13_Queue_Left_R4 K ρ w := by
  have hil := (List.getElem?_eq_some_iff.1 hx).1
  rw [dispatcherref13_Queue_Left_R4_eq]; unfold dispatcherref13_Queue_Left_R4_F
  rw [e3, e5]
  refine bs0_k vMsS iMs fun w1 hb1 hm1 hz1 => ?_
  have hO1 := owns_mod hO hm1 fun _ _ => id
  refine cut_lo vMsS cMs (reads_of_owns hO1) hkS fun u hu => ?_
  have hdl : (S.drop k).length = S.length - k := by rw [List.length_drop]
  have hu' : MsRow w1 u (S.drop k) := by
    unfold MsRow
    rw [hdl, ← fl_dropA (k := 7 + 1) Ms.enc_len]
    exact hu
  have hown : w1.ownsRow w.heap.size tMs 8 (.slice (some ⟨w.heap.size, 0, none⟩) 0 0) 0 [] := owns_zero hb1 (Nat.le_refl _)
  refine ap_any eMsS hown hu' (Ms.enc_mem _) (by unfold maxLen; omega) (by omega) (by omega) fun r w2 h2 hm2 _ => ?_
  have hm12 : Mod none_ w w2 := hm1.then hm2 fun i hi q => by
    have : i = w.heap.size := by simpa [Value.ownBlock] using q
    omega
  have hR2 : w2.ownsRow w.heap.size tMs 8 r (S.drop k).length ((S.drop k).flatMap Ms.enc) := by simpa using h2
  have hO2 := owns_mod hO hm12 fun _ _ => id
  have hs2 := hm12.size
  refine dispatcherref13_Queue_Left_R8_held (D := []) (fun w' => DAt w' p l V) ((h.calm hm12).calm ((Mod.refl _ w2).drawn _)) ?_
  have hd : Mod none_ w2 { w2 with drawn := w2.drawn + 1 } := (Mod.refl _ w2).drawn _
  have hdz : ({ w2 with drawn := w2.drawn + 1 } : World).heap.size = w2.heap.size := rfl
  generalize ({ w2 with drawn := w2.drawn + 1 } : World) = wd at *
  have hDd := (h.calm hm12).calm hd
  have hOd := owns_mod hO2 hd fun _ _ => id
  have hRd := owns_mod hR2 hd fun _ _ => id
  unfold dispatcherref13_Queue_Left_R8_H
  simp only [sq_n, sq_x, sq_r, bk_n, bk_r, bk_x, rt_r, rt_n, rs_0, rs_t, pk_1, pk_2, up_at, reduceIte, Nat.reduceEqDiff, e0, e3, e4, e5]
  obtain ⟨v', hrun, hP, hPb⟩ := owns_pre vMsS cMs hOd hkS
  rw [fl_take (k := 7 + 1) Ms.enc_len] at hP
  have htl : (S.take k).length = k := by rw [List.length_take]; omega
  obtain ⟨g, cap, ev, _⟩ := owns_some h.own (by omega)
  subst ev
  refine HV_of (v := v') (fun w' _ => hrun w') ?_
  refine HN_ptr (HV_of (v := .pointer (some ⟨p, 0, none⟩)) (fun w' _ => by rw [run_fo (off := 0) (by kernel_rfl), add_pl]) ?_)
  refine HV_of (v := dv g cap l.length) (fun w' hw => run_ld1 vMsS rfl (by rw [cell_blk hw.blk]; rfl)) ?_
  refine HV_of (v := .pointer (some ⟨g, i * 8, none⟩)) (fun w' _ => Dat.ix rfl hil w') ?_
  refine HV_of (v := .agg x.enc.toArray) (fun w' hw => Dat.run_ld (show Dat w' g cap l from hw.own) hx) ?_
  refine bs_k (cs := x.enc.toArray) (by kernel_rfl) fun w3 hb3 hm3 hz3 => ⟨hDd.calm hm3, ?_⟩
  have hP3 := owns_mod hP hm3 fun _ _ => id
  refine ap_any eMsS hP3 (reads_blk (size := 8) (n := 1) hb3 rfl) (fun u hu => Ms.enc_mem [x] u (by simpa using hu)) (by unfold maxLen; omega) (by omega) (by have := hm3.size; omega) fun v2 w4 h4 hm4 hv4 => ?_
  have hPB := owns_bd hP3
  have hsz3 := hm3.size
  have hD4 : DAt w4 p l (.slice (some ⟨g, 0, none⟩) l.length cap) := (hDd.calm hm3).mod hm4 fun b z y => by
    have := hB b z
    have := (hPB b y.symm).1
    omega
  refine ⟨hD4, ?_⟩
  have hR4 : MsRow w4 r (S.drop k) := by
    refine reads_of_owns (owns_mod (owns_mod hRd hm3 fun _ _ => id) hm4 fun q z y => ?_)
    have h1 := (owns_bd hRd q z).1
    rw [hPb] at y
    have h2 := (owns_bd hO q y.symm).2
    omega
  have hsz4 := hm4.size
  refine ap_any eMsS h4 hR4 (Ms.enc_mem _) (by unfold maxLen; omega) (by omega) (by omega) fun v3 w5 h5 hm5 hv5 => ?_
  have hD5 : DAt w5 p l (.slice (some ⟨g, 0, none⟩) l.length cap) := hD4.mod hm5 fun b z y => by
    have := hB b z
    have := (owns_bd h4 b y.symm).1
    omega
  refine ⟨hD5, ?_⟩
  refine hk _ w5 v3 (by first | rfl | exact e0.symm) rfl (by first | rfl | exact e4.symm) ?_ ((((hm12.trans hd).trans hm3).mono fun _ _ z => z.elim).trans ((hm4.mono fun b _ z => (hPB b z.symm).1).trans (hm5.mono fun b _ z => (owns_bd h4 b z.symm).1)))
  have e1 : (S.take k ++ x :: S.drop k).length = k + 1 + (S.drop k).length := by
    rw [List.length_append, htl, List.length_cons]; omega
  have e2 : (S.take k ++ x :: S.drop k).flatMap Ms.enc = (S.take k).flatMap Ms.enc ++ x.enc ++ (S.drop k).flatMap Ms.enc := by
    rw [List.flatMap_append, List.flatMap_cons, List.append_assoc]
  rw [e1, e2]
  simpa using h5
theorem RLeft_ok (h : DAt w p l V) (hL : l.length ≤ 500000) : Rt Try.prog 37 #[.pointer (some ⟨p, 0, none⟩)] w (LeftP w l) := by
  refine dispatcherref13_Queue_Left_calls ?_
  unfold dispatcherref13_Queue_Left_F
  have hB := h.old
  refine W_loop dispatcherref13_Queue_Left_L0_ok (fun ρ w' => ∃ (i : Nat) (o : Value) (S : List Ms), i ≤ l.length ∧ ρ 4 = .int .i64 i ∧ ρ 0 = .pointer (some ⟨p, 0, none⟩) ∧ ρ 3 = o ∧ Stab ltM ((l.take i).filter nt) S ∧ w'.ownsRow w.heap.size tMs 8 o S.length (S.flatMap Ms.enc) ∧ Mod none_ w w') (fun ρ _ => l.length - (intOf (ρ 4)).toNat)
    ⟨0, .slice none 0 0, [], Nat.zero_le _, rfl, rfl, rfl, ⟨List.Pairwise.nil, fun _ => by simp⟩, World.ownsRow_nil _ _ _ _, Mod.refl _ _⟩ ?_
  rintro ρ w1 ⟨i, o, S, hi, e4, e0, e3, hS, hO, hm1⟩
  have h1 := h.calm hm1
  obtain ⟨A, cc, es, _⟩ := reads_cap (d_row h1)
  rw [dispatcherref13_Queue_Left_L0_eq]; unfold dispatcherref13_Queue_Left_L0_F
  rw [e4, e0, e3, NK_ptr, (f_all h1).e, es, len_sl vMsS, ← es, BK_lss]
  have lS : S.length = ((l.take i).filter nt).length := Stab.len ltM_wo hS.eq
  have lS2 : S.length ≤ i := by
    rw [lS]
    exact Nat.le_trans (List.length_filter_le _ _) (by rw [List.length_take]; omega)
  by_cases hlt : i < l.length
  · rw [decide_eq_true (by omega)]
    refine condT ?_
    have hx : l[i]? = some l[i] := List.getElem?_eq_getElem hlt
    have etk : l.take (i + 1) = l.take i ++ [l[i]] := by rw [List.take_add_one, hx]; rfl
    generalize l[i] = x at *
    rw [NK_ptr, (f_all h1).e]
    refine ixF (d_row h1) hx rfl (show fieldOff Try.prog tMs 7 = some 7 by kernel_rfl) (ld1 vB rfl) (u := .bool x.taken) rfl fun _ _ => ?_
    have nx : ∀ (ρ2 : Sl) (w' : World) (o2 : Value) (S2 : List Ms), ρ2 4 = .int .i64 i → ρ2 0 = .pointer (some ⟨p, 0, none⟩) → ρ2 3 = o2 → Stab ltM ((l.take (i + 1)).filter nt) S2 → w'.ownsRow w.heap.size tMs 8 o2 S2.length (S2.flatMap Ms.enc) → Mod none_ w w' →
        sx fn_ Try.prog 65 dispatcherref13_Queue_Left_R2 (seqK (fun ρ w' => (∃ (i : Nat) (o : Value) (S : List Ms), i ≤ l.length ∧ ρ 4 = .int .i64 i ∧ ρ 0 = .pointer (some ⟨p, 0, none⟩) ∧ ρ 3 = o ∧ Stab ltM ((l.take i).filter nt) S ∧ w'.ownsRow w.heap.size tMs 8 o S.length (S.flatMap Ms.enc) ∧ Mod none_ w w') ∧ l.length - (intOf (ρ 4)).toNat < l.length - (intOf (.int .i64 (i : Int))).toNat) (blkK 0 (seqK (sx fn_ Try.prog 65 dispatcherref13_Queue_Left_R1 (retK Try.prog [ResultVar.tmp 2] (LeftP w l))) (retK Try.prog [ResultVar.tmp 2] (LeftP w l))))) ρ2 w' := by
      intro ρ2 w' o2 S2 b4 b0 b3 hS2 hO2 hm2
      rw [dispatcherref13_Queue_Left_R2_eq]; unfold dispatcherref13_Queue_Left_R2_F
      rw [b4, BK_add, wrap_i (by omega) (by omega)]
      refine ⟨⟨i + 1, o2, S2, hlt, rfl, b0, b3, hS2, hO2, hm2⟩, ?_⟩
      simp only [sq_n, sq_x, sq_r, bk_n, bk_r, bk_x, rt_r, rt_n, rs_0, rs_t, pk_1, pk_2, up_at, reduceIte, Nat.reduceEqDiff, intOf]; omega
    cases ht : x.taken with
    | true =>
      refine condT ?_
      have e1 : (l.take (i + 1)).filter nt = (l.take i).filter nt := by rw [etk, List.filter_append]; simp [nt, ht]
      exact nx _ w1 o S (by first | rfl | exact e4) (by first | rfl | exact e0) (by first | rfl | exact e3) (by rw [e1]; exact hS) hO hm1
    | false =>
      refine condF ?_
      have e1 : (l.take (i + 1)).filter nt = (l.take i).filter nt ++ [x] := by rw [etk, List.filter_append]; simp [nt, ht]
      obtain ⟨A2, cc2, es2, _⟩ := reads_cap (reads_of_owns hO)
      rw [es2, len_sl vMsS, ← es2]
      refine rleft_L3 (i := i) (x := x) (S := S) (o := o) (B := w.heap.size) h1 hx (by omega) hS.so hO (by omega) (by first | rfl | exact e0) (by first | rfl | exact e3) (by first | rfl | exact e4) rfl ?_
      intro ρ3 w3 k c0 c3 c4 c5 hk hm3 hgt hle
      rw [bk_x, sq_n]
      refine rleft_R4 (i := i) (x := x) (S := S) (o := o) (B := w.heap.size) (k := k) (h1.calm hm3) hB hx (by omega) (owns_mod hO hm3 fun _ _ => id) (hm1.trans hm3).size (by omega) hk (c0.trans (by first | rfl | exact e0)) (c3.trans (by first | rfl | exact e3)) (c4.trans (by first | rfl | exact e4)) c5 ?_
      intro ρ4 w4 o4 d0 d3 d4 hO4 hm4
      rw [bk_n, sq_n]
      refine nx ρ4 w4 o4 _ (d4.trans (c4.trans (by first | rfl | exact e4))) (d0.trans (c0.trans (by first | rfl | exact e0))) d3 ?_ hO4 ((hm1.trans hm3).then hm4 fun i hi z => by omega)
      rw [e1]
      have hst := stab_ins ltM_wo (S1 := S.take k) (S2 := S.drop k) (x := x) (by rw [List.take_append_drop]; exact hS.so) hle hgt
      rw [List.take_append_drop] at hst
      exact Stab.trans (fun y => by rw [List.filter_append, List.filter_append, hS.eq y]) hst
  · obtain rfl : i = l.length := by omega
    rw [decide_eq_false (by omega)]
    refine condF ?_
    rw [sq_x, bk_x, sq_n, dispatcherref13_Queue_Left_R1_eq]; unfold dispatcherref13_Queue_Left_R1_F
    rw [List.take_length] at hS
    refine ⟨S, hS, ?_, hm1⟩
    show w1.ownsRow _ _ _ (ρ 3) _ _
    rw [e3]; exact hO
end
end Go.Proofs.Ytmnkedgmpbcicaa.Que
set_option linter.unusedVariables false
set_option linter.unusedSimpArgs false
set_option maxRecDepth 4000
namespace Go.Proofs.Ytmnkedgmpbcicaa.Que
open Go Go.X Go.RowKit Go.Proofs.Ytmnkedgmpbcicaa.XF Go.Proofs.Ytmnkedgmpbcicaa.XK
theorem gMs : Try.prog.eqGuardType Try.prog.depth tMs = false := by kernel_rfl
theorem is2' (w : World) : (isAgg 2).run Try.prog w = .ok false w := by unfold isAgg; rw [Sem.run_bind, run_underlying Try.underlying2 w]; rfl
theorem is4' (w : World) : (isAgg 4).run Try.prog w = .ok false w := by unfold isAgg; rw [Sem.run_bind, run_underlying Try.underlying4 w]; rfl
theorem eqMs (a b : Ms) (w : World) : (Op.equalIn 10000 39 (.agg a.enc.toArray) (.agg b.enc.toArray)).run Try.prog w = .ok (decide (a = b)) w := by
  show (Op.equalIn (9999 + 1) 39 (.agg a.enc.toArray) (.agg b.enc.toArray)).run Try.prog w = _
  rw [run_equalIn_struct w 9999 39 _ _ (by simp [Program.fieldsOf, Try.underlying39]) (by kernel_rfl)]
  obtain ⟨a1, a2, a3, a4, a5, a6, a7, a8⟩ := a; obtain ⟨b1, b2, b3, b4, b5, b6, b7, b8⟩ := b
  have e1 : ∀ l : List UInt8, (⟨l.toArray⟩ : ByteArray).toList = l := fun l => by simp
  simp [Program.fieldsOf, Try.underlying39, Op.eqFields, part, is3, is9, is2', is4', Sem.run_bind, Ms.enc, strV, run_equalIn_int w 9998 3 .i64 .i64 _ _ Try.underlying3, run_equalIn_int w 9998 2 .i64 .i64 _ _ Try.underlying2, run_equalIn_string w 9998 9 _ _ Try.underlying9, run_equalIn_bool w 9998 4 _ _ Try.underlying4, e1]
  by_cases h1 : a1 = b1 <;> by_cases h2 : a2 = b2 <;> by_cases h3 : a3 = b3 <;> by_cases h4 : a4 = b4 <;> by_cases h5 : a5 = b5 <;> by_cases h6 : a6 = b6 <;> by_cases h7 : a7 = b7 <;> by_cases h8 : a8 = b8 <;> simp [h1, h2, h3, h4, h5, h6, h7, h8, e1]
theorem rMsN (a b : Ms) (w : World) : (binOp .neq tMs (.agg a.enc.toArray) (.agg b.enc.toArray)).run Try.prog w = .ok (.bool (!decide (a = b))) w := by
  show (do let x ← Op.equalIn 10000 tMs (.agg a.enc.toArray) (.agg b.enc.toArray); pure (Value.bool !x) : Sem Value).run Try.prog w = _
  rw [Sem.run_bind, eqMs]; rfl
theorem own_at {w : World} {v : Value} {l : List Ms} {B i : Nat} {m : Ms} (h : w.ownsRow B tMs 8 v l.length (l.flatMap Ms.enc)) (hi : l[i]? = some m) : ∃ a, (∀ w', (Instr.indexAt tMsS v (.int .i64 (i : Int))).run Try.prog w' = .ok (.pointer (some a)) w') ∧ ∀ w', Mod none_ w w' → (Instr.loadAt tMs (.pointer (some a))).run Try.prog w' = .ok (.agg m.enc.toArray) w' := by
  have hil := (List.getElem?_eq_some_iff.1 hi).1
  obtain ⟨g, cap, ev, _⟩ := owns_some h (by omega)
  subst ev
  have hD : Dat w g cap l := owns_base h (Nat.zero_le _)
  exact ⟨_, fun w' => Dat.ix rfl hil w', fun w' hw => (hD.calm hw).run_ld hi⟩
theorem Same_ok {w : World} {v u : Value} {a b : List Ms} {B B' : Nat} (ha : w.ownsRow B tMs 8 v a.length (a.flatMap Ms.enc)) (hb : w.ownsRow B' tMs 8 u b.length (b.flatMap Ms.enc)) (hl : a.length ≤ 1000000) : Rt Try.prog 15 #[v, u] w fun x w' => x = .bool (decide (a = b)) ∧ Mod none_ w w' := by
  refine dispatcherref13_Same_calls ?_
  unfold dispatcherref13_Same_F
  obtain ⟨A, c, es, _⟩ := reads_cap (reads_of_owns ha)
  obtain ⟨A2, c2, es2, _⟩ := reads_cap (reads_of_owns hb)
  rw [es, len_sl vMsS, ← es, es2, len_sl vMsS, ← es2, BK_neq]
  by_cases hlen : a.length = b.length
  · rw [show ((a.length : Int) != (b.length : Int)) = false by rw [hlen]; simp]
    refine condF ?_
    refine W_loop dispatcherref13_Same_L0_ok (fun ρ w' => ∃ i : Nat, i ≤ a.length ∧ ρ 5 = .int .i64 i ∧ ρ 0 = v ∧ ρ 1 = u ∧ a.take i = b.take i ∧ Mod none_ w w') (fun ρ _ => a.length - (intOf (ρ 5)).toNat)
      ⟨0, Nat.zero_le _, rfl, rfl, rfl, by simp, Mod.refl _ _⟩ ?_
    rintro ρ w1 ⟨i, hi, e5, e0, e1, heq, hm⟩
    rw [dispatcherref13_Same_L0_eq]; unfold dispatcherref13_Same_L0_F
    rw [e5, e0, es, len_sl vMsS, ← es, BK_lss]
    by_cases hlt : i < a.length
    · rw [decide_eq_true (by omega)]
      refine condT ?_
      have hx : a[i]? = some a[i] := List.getElem?_eq_getElem hlt
      have hy : b[i]? = some b[i] := List.getElem?_eq_getElem (by omega)
      have ta : a.take (i + 1) = a.take i ++ [a[i]] := by rw [List.take_add_one, hx]; rfl
      have tb : b.take (i + 1) = b.take i ++ [b[i]] := by rw [List.take_add_one, hy]; rfl
      generalize a[i] = x at *
      generalize b[i] = y at *
      obtain ⟨p1, r1, l1⟩ := own_at ha hx
      obtain ⟨p2, r2, l2⟩ := own_at hb hy
      refine dispatcherref13_Same_R2_quiet (D := []) (fun w' => Mod none_ w w') (hm.trans ((Mod.refl _ w1).drawn _)) ?_
      have key : ∀ (ρ' : Sl) (K : Exit → Sl → World → Prop), ρ' 0 = v → ρ' 1 = u → ρ' 5 = .int .i64 i →
          (∀ (ρ2 : Sl) (w' : World), ρ2 0 = v → ρ2 1 = u → ρ2 5 = .int .i64 i → ρ2 25 = .bool (!decide (x = y)) → Mod none_ w w' → K .normal ρ2 w') → dispatcherref13_Same_R2_Q (fun w' => Mod none_ w w') K ρ' := by
        intro ρ' K q0 q1 q5 hK
        unfold dispatcherref13_Same_R2_Q
        rw [q0, q1, q5]
        refine QV_of (fun w' _ => r1 w') (QV_of (fun w' hw => l1 w' hw) (QV_of (fun w' _ => r2 w') (QV_of (fun w' hw => l2 w' hw) ?_)))
        refine QB_of (v := .bool (!decide (x = y))) (fun w => run_eqGuard_agg w .neq _ _ _ _ _ gMs) (fun w => rMsN _ _ w) ?_
        intro w' hw
        exact hK _ w' q0 q1 q5 rfl hw
      refine key _ _ (by first | exact e0 | rfl) (by first | exact e1 | rfl) (by first | exact e5 | rfl) ?_
      intro ρ2 w' q0 q1 q5 q25 hw
      rw [sq_n, dispatcherref13_Same_R3_eq]; unfold dispatcherref13_Same_R3_F
      rw [q25]
      refine caseC (fun q => ?_) (fun q => ?_)
      · refine ⟨?_, hw⟩
        rw [decide_eq_false]
        · rfl
        · intro z
          rw [z, hy] at hx
          have : ¬ (x = y) := by simpa using q
          exact this (Option.some.inj hx).symm
      · have hxy : x = y := by simpa using q
        rw [bk_n, sq_n, dispatcherref13_Same_R4_eq]; unfold dispatcherref13_Same_R4_F
        rw [q5, BK_add, wrap_i (by omega) (by omega)]
        refine ⟨⟨i + 1, hlt, rfl, q0, q1, by rw [ta, tb, heq, hxy], hw⟩, ?_⟩
        simp only [sq_n, sq_x, sq_r, bk_n, bk_r, bk_x, rt_r, rt_n, rs_0, rs_t, pk_1, pk_2, up_at, reduceIte, Nat.reduceEqDiff, intOf]; omega
    · obtain rfl : i = a.length := by omega
      rw [decide_eq_false (by omega)]
      refine condF ?_
      rw [sq_x, bk_x, sq_n, dispatcherref13_Same_R1_eq]; unfold dispatcherref13_Same_R1_F
      refine ⟨?_, hm⟩
      rw [List.take_length, hlen, List.take_length] at heq
      rw [decide_eq_true heq]; rfl
  · rw [show ((a.length : Int) != (b.length : Int)) = true by rw [bne_iff_ne]; omega]
    refine condT ⟨?_, Mod.refl _ _⟩
    rw [decide_eq_false fun z => hlen (by rw [z])]
end Go.Proofs.Ytmnkedgmpbcicaa.Que
set_option linter.unusedVariables false
set_option linter.unusedSimpArgs false
set_option maxRecDepth 4000
namespace Go.X
open Go Go.RowKit
def isV (m : Ms) (k : List UInt8) (f t : Int) : Bool := !m.taken && decide (m.ch = (k, f, t))
end Go.X
namespace Go.Proofs.Ytmnkedgmpbcicaa.Que
open Go Go.X Go.RowKit Go.Proofs.Ytmnkedgmpbcicaa.XF Go.Proofs.Ytmnkedgmpbcicaa.XK
theorem BK_eqlL (t : TypeId) (x y : Operand) (a b : List UInt8) {P : Program} {w : World} {K : Value → World → Prop} : BK P .eql t x y (strV a) (strV b) w K = K (.bool (decide (a = b))) w := by
  unfold strV
  rw [BK_eqlS, toL, toL]
  congr 2
  by_cases h : a = b <;> simp [h]
theorem is_ok (m : Ms) (k : List UInt8) (f t : Int) (w : World) : Rt Try.prog 88 #[.agg m.enc.toArray, strV k, .int .i64 f, .int .i64 t] w fun v w' => v = .bool (isV m k f t) ∧ Mod none_ w w' := by
  refine dispatcherref13_is_calls ?_
  unfold dispatcherref13_is_F
  refine box_k (cs := m.enc.toArray) rfl fun w1 hb1 hm1 hz1 => ?_
  have g0 : FO Try.prog w1 tMs 0 0 ⟨w.heap.size, 0, none⟩ 9 (strV m.key) := FO.blk hb1 (by kernel_rfl) vS rfl rfl
  have g1 : FO Try.prog w1 tMs 1 1 ⟨w.heap.size, 0, none⟩ 3 (.int .i64 m.frm) := FO.blk hb1 (by kernel_rfl) vI rfl rfl
  have g2 : FO Try.prog w1 tMs 2 2 ⟨w.heap.size, 0, none⟩ 3 (.int .i64 m.to) := FO.blk hb1 (by kernel_rfl) vI rfl rfl
  have g7 : FO Try.prog w1 tMs 7 7 ⟨w.heap.size, 0, none⟩ 4 (.bool m.taken) := FO.blk hb1 (by kernel_rfl) vB rfl rfl
  rw [g7.e, not_ok]
  unfold isV
  cases m.taken with
  | true =>
    simp only [Bool.not_true, ↓VG_u, ↓UG_u, ↓MG_u, ↓NG_u, ↓PG_u, ↓BG_u, ↓CG_u, ↓IG_u, ↓VGtt, ↓VGtf, ↓VGft, ↓VGff, ↓UGtt, ↓UGtf, ↓UGft, ↓UGff, ↓MGtt, ↓MGtf, ↓MGft, ↓MGff, ↓NGtt, ↓NGtf, ↓NGft, ↓NGff, ↓PGtt, ↓PGtf, ↓PGft, ↓PGff, ↓BGtt, ↓BGtf, ↓BGft, ↓BGff, ↓CGtt, ↓CGtf, ↓CGft, ↓CGff, ↓IGtt, ↓IGtf, ↓IGft, ↓IGff, ↓PKt, ↓PKf, ↓CDt, ↓CDf, ↓NOTt, ↓NOTf, ↓NK_ptr]
    exact ⟨rfl, hm1⟩
  | false =>
    simp only [Bool.not_false, ↓VG_u, ↓UG_u, ↓MG_u, ↓NG_u, ↓PG_u, ↓BG_u, ↓CG_u, ↓IG_u, ↓VGtt, ↓VGtf, ↓VGft, ↓VGff, ↓UGtt, ↓UGtf, ↓UGft, ↓UGff, ↓MGtt, ↓MGtf, ↓MGft, ↓MGff, ↓NGtt, ↓NGtf, ↓NGft, ↓NGff, ↓PGtt, ↓PGtf, ↓PGft, ↓PGff, ↓BGtt, ↓BGtf, ↓BGft, ↓BGff, ↓CGtt, ↓CGtf, ↓CGft, ↓CGff, ↓IGtt, ↓IGtf, ↓IGft, ↓IGff, ↓PKt, ↓PKf, ↓CDt, ↓CDf, ↓NOTt, ↓NOTf, ↓NK_ptr]
    rw [g0.e]
    try simp only [↓VG_u, ↓UG_u, ↓MG_u, ↓NG_u, ↓PG_u, ↓BG_u, ↓CG_u, ↓IG_u, ↓VGtt, ↓VGtf, ↓VGft, ↓VGff, ↓UGtt, ↓UGtf, ↓UGft, ↓UGff, ↓MGtt, ↓MGtf, ↓MGft, ↓MGff, ↓NGtt, ↓NGtf, ↓NGft, ↓NGff, ↓PGtt, ↓PGtf, ↓PGft, ↓PGff, ↓BGtt, ↓BGtf, ↓BGft, ↓BGff, ↓CGtt, ↓CGtf, ↓CGft, ↓CGff, ↓IGtt, ↓IGtf, ↓IGft, ↓IGff, ↓PKt, ↓PKf, ↓CDt, ↓CDf, ↓NOTt, ↓NOTf, ↓NK_ptr]
    rw [BK_eqlL]
    by_cases c0 : m.key = k
    · rw [decide_eq_true c0]
      simp only [↓VG_u, ↓UG_u, ↓MG_u, ↓NG_u, ↓PG_u, ↓BG_u, ↓CG_u, ↓IG_u, ↓VGtt, ↓VGtf, ↓VGft, ↓VGff, ↓UGtt, ↓UGtf, ↓UGft, ↓UGff, ↓MGtt, ↓MGtf, ↓MGft, ↓MGff, ↓NGtt, ↓NGtf, ↓NGft, ↓NGff, ↓PGtt, ↓PGtf, ↓PGft, ↓PGff, ↓BGtt, ↓BGtf, ↓BGft, ↓BGff, ↓CGtt, ↓CGtf, ↓CGft, ↓CGff, ↓IGtt, ↓IGtf, ↓IGft, ↓IGff, ↓PKt, ↓PKf, ↓CDt, ↓CDf, ↓NOTt, ↓NOTf, ↓NK_ptr]
      rw [g1.e]
      try simp only [↓VG_u, ↓UG_u, ↓MG_u, ↓NG_u, ↓PG_u, ↓BG_u, ↓CG_u, ↓IG_u, ↓VGtt, ↓VGtf, ↓VGft, ↓VGff, ↓UGtt, ↓UGtf, ↓UGft, ↓UGff, ↓MGtt, ↓MGtf, ↓MGft, ↓MGff, ↓NGtt, ↓NGtf, ↓NGft, ↓NGff, ↓PGtt, ↓PGtf, ↓PGft, ↓PGff, ↓BGtt, ↓BGtf, ↓BGft, ↓BGff, ↓CGtt, ↓CGtf, ↓CGft, ↓CGff, ↓IGtt, ↓IGtf, ↓IGft, ↓IGff, ↓PKt, ↓PKf, ↓CDt, ↓CDf, ↓NOTt, ↓NOTf, ↓NK_ptr]
      by_cases c1 : m.frm = f
      · simp only [↓VG_u, ↓UG_u, ↓MG_u, ↓NG_u, ↓PG_u, ↓BG_u, ↓CG_u, ↓IG_u, ↓VGtt, ↓VGtf, ↓VGft, ↓VGff, ↓UGtt, ↓UGtf, ↓UGft, ↓UGff, ↓MGtt, ↓MGtf, ↓MGft, ↓MGff, ↓NGtt, ↓NGtf, ↓NGft, ↓NGff, ↓PGtt, ↓PGtf, ↓PGft, ↓PGff, ↓BGtt, ↓BGtf, ↓BGft, ↓BGff, ↓CGtt, ↓CGtf, ↓CGft, ↓CGff, ↓IGtt, ↓IGtf, ↓IGft, ↓IGff, ↓PKt, ↓PKf, ↓CDt, ↓CDf, ↓NOTt, ↓NOTf, ↓NK_ptr, ↓EQt c1]
        rw [g2.e]
        try simp only [↓VG_u, ↓UG_u, ↓MG_u, ↓NG_u, ↓PG_u, ↓BG_u, ↓CG_u, ↓IG_u, ↓VGtt, ↓VGtf, ↓VGft, ↓VGff, ↓UGtt, ↓UGtf, ↓UGft, ↓UGff, ↓MGtt, ↓MGtf, ↓MGft, ↓MGff, ↓NGtt, ↓NGtf, ↓NGft, ↓NGff, ↓PGtt, ↓PGtf, ↓PGft, ↓PGff, ↓BGtt, ↓BGtf, ↓BGft, ↓BGff, ↓CGtt, ↓CGtf, ↓CGft, ↓CGff, ↓IGtt, ↓IGtf, ↓IGft, ↓IGff, ↓PKt, ↓PKf, ↓CDt, ↓CDf, ↓NOTt, ↓NOTf, ↓NK_ptr]
        by_cases c2 : m.to = t
        · simp only [↓VG_u, ↓UG_u, ↓MG_u, ↓NG_u, ↓PG_u, ↓BG_u, ↓CG_u, ↓IG_u, ↓VGtt, ↓VGtf, ↓VGft, ↓VGff, ↓UGtt, ↓UGtf, ↓UGft, ↓UGff, ↓MGtt, ↓MGtf, ↓MGft, ↓MGff, ↓NGtt, ↓NGtf, ↓NGft, ↓NGff, ↓PGtt, ↓PGtf, ↓PGft, ↓PGff, ↓BGtt, ↓BGtf, ↓BGft, ↓BGff, ↓CGtt, ↓CGtf, ↓CGft, ↓CGff, ↓IGtt, ↓IGtf, ↓IGft, ↓IGff, ↓PKt, ↓PKf, ↓CDt, ↓CDf, ↓NOTt, ↓NOTf, ↓NK_ptr, ↓EQt c2]
          exact ⟨by simp [Ms.ch, c0, c1, c2], hm1⟩
        · simp only [↓VG_u, ↓UG_u, ↓MG_u, ↓NG_u, ↓PG_u, ↓BG_u, ↓CG_u, ↓IG_u, ↓VGtt, ↓VGtf, ↓VGft, ↓VGff, ↓UGtt, ↓UGtf, ↓UGft, ↓UGff, ↓MGtt, ↓MGtf, ↓MGft, ↓MGff, ↓NGtt, ↓NGtf, ↓NGft, ↓NGff, ↓PGtt, ↓PGtf, ↓PGft, ↓PGff, ↓BGtt, ↓BGtf, ↓BGft, ↓BGff, ↓CGtt, ↓CGtf, ↓CGft, ↓CGff, ↓IGtt, ↓IGtf, ↓IGft, ↓IGff, ↓PKt, ↓PKf, ↓CDt, ↓CDf, ↓NOTt, ↓NOTf, ↓NK_ptr, ↓EQf c2]
          exact ⟨by simp [Ms.ch, c2], hm1⟩
      · simp only [↓VG_u, ↓UG_u, ↓MG_u, ↓NG_u, ↓PG_u, ↓BG_u, ↓CG_u, ↓IG_u, ↓VGtt, ↓VGtf, ↓VGft, ↓VGff, ↓UGtt, ↓UGtf, ↓UGft, ↓UGff, ↓MGtt, ↓MGtf, ↓MGft, ↓MGff, ↓NGtt, ↓NGtf, ↓NGft, ↓NGff, ↓PGtt, ↓PGtf, ↓PGft, ↓PGff, ↓BGtt, ↓BGtf, ↓BGft, ↓BGff, ↓CGtt, ↓CGtf, ↓CGft, ↓CGff, ↓IGtt, ↓IGtf, ↓IGft, ↓IGff, ↓PKt, ↓PKf, ↓CDt, ↓CDf, ↓NOTt, ↓NOTf, ↓NK_ptr, ↓EQf c1]
        exact ⟨by simp [Ms.ch, c1], hm1⟩
    · rw [decide_eq_false c0]
      simp only [↓VG_u, ↓UG_u, ↓MG_u, ↓NG_u, ↓PG_u, ↓BG_u, ↓CG_u, ↓IG_u, ↓VGtt, ↓VGtf, ↓VGft, ↓VGff, ↓UGtt, ↓UGtf, ↓UGft, ↓UGff, ↓MGtt, ↓MGtf, ↓MGft, ↓MGff, ↓NGtt, ↓NGtf, ↓NGft, ↓NGff, ↓PGtt, ↓PGtf, ↓PGft, ↓PGff, ↓BGtt, ↓BGtf, ↓BGft, ↓BGff, ↓CGtt, ↓CGtf, ↓CGft, ↓CGff, ↓IGtt, ↓IGtf, ↓IGft, ↓IGff, ↓PKt, ↓PKf, ↓CDt, ↓CDf, ↓NOTt, ↓NOTf, ↓NK_ptr]
      exact ⟨by simp [Ms.ch, c0], hm1⟩
section
variable {w : World} {p : Nat} {l : List Ms} {V : Value}
end
end Go.Proofs.Ytmnkedgmpbcicaa.Que
set_option linter.unusedVariables false
set_option linter.unusedSimpArgs false
set_option maxRecDepth 4000
namespace Go.X
open Go Go.RowKit
theorem ahead_filt (l : List Ms) (m : Ms) : (rowOf l m.ch).filter nt = l.filter fun x => isV x m.key m.frm m.to := by
  unfold rowOf
  rw [List.filter_filter]
  refine List.filter_congr fun x _ => ?_
  rfl
end Go.X
namespace Go.Proofs.Ytmnkedgmpbcicaa.Que
open Go Go.X Go.RowKit Go.Proofs.Ytmnkedgmpbcicaa.XF Go.Proofs.Ytmnkedgmpbcicaa.XK
section
variable {w : World} {p : Nat} {l : List Ms} {V : Value}
theorem RAhead_ok (h : DAt w p l V) (hL : l.length ≤ 1000000) (m0 : Ms) : Rt Try.prog 81 #[.pointer (some ⟨p, 0, none⟩), .agg m0.enc.toArray] w (RowP w (aheadV l m0.frm m0.call)) := by
  refine dispatcherref13_Queue_Ahead_calls ?_
  unfold dispatcherref13_Queue_Ahead_F
  refine box_k (cs := m0.enc.toArray) rfl fun w1 hb1 hm1 hz1 => ?_
  have g1 : FO Try.prog w1 tMs 1 1 ⟨w.heap.size, 0, none⟩ 3 (.int .i64 m0.frm) := FO.blk hb1 (by kernel_rfl) vI rfl rfl
  have g3 : FO Try.prog w1 tMs 3 3 ⟨w.heap.size, 0, none⟩ 3 (.int .i64 m0.call) := FO.blk hb1 (by kernel_rfl) vI rfl rfl
  rw [g1.e, g3.e]
  have h1 := h.calm hm1
  refine CK_st Try.func70 rfl rfl (place_ok h1 hL m0.frm m0.call) ?_
  rintro _ w2 ⟨rfl, rfl⟩
  -- how far, and what each is asked for
  obtain ⟨n, kk, hkk, hnl, hat, hres⟩ : ∃ (n : Int) (k : Nat), (n = (k : Int) ∨ n < 0 ∧ k = 0) ∧ k ≤ l.length ∧ (0 < k → ∃ m, l[k]? = some m ∧ n = (k : Int) ∧ aheadV l m0.frm m0.call = (l.take k).filter fun x => isV x m.key m.frm m.to) ∧ (idxV (Ms.isAt m0.frm m0.call) l = n ∧ (k = 0 → aheadV l m0.frm m0.call = [])) := by
    unfold idxV aheadV
    rcases idx_find (Ms.isAt m0.frm m0.call) l with ⟨q1, q2⟩ | ⟨j, m, q1, q2, q3, q4⟩
    · rw [q1, q2]
      exact ⟨-1, 0, .inr ⟨by omega, rfl⟩, Nat.zero_le _, fun z => absurd z (by omega), rfl, fun _ => rfl⟩
    · rw [q1, q3]
      refine ⟨j, j, .inl rfl, Nat.le_of_lt (List.getElem?_eq_some_iff.1 q2).1, fun _ => ⟨m, q2, rfl, ?_⟩, rfl, fun z => ?_⟩
      · dsimp only
        rw [ahead_filt, q4]
      · dsimp only
        rw [ahead_filt, ← q4, z]; rfl
  rw [hres.1]
  refine W_loop dispatcherref13_Queue_Ahead_L0_ok (fun ρ w' => ∃ (i : Nat) (o : Value) (O : List Ms), i ≤ kk ∧ ρ 7 = .int .i64 i ∧ ρ 6 = .int .i64 n ∧ ρ 0 = .pointer (some ⟨p, 0, none⟩) ∧ ρ 5 = o ∧ (i = kk → O = aheadV l m0.frm m0.call) ∧ (∀ m, l[kk]? = some m → O = (l.take i).filter fun x => isV x m.key m.frm m.to) ∧ O.length ≤ i ∧ w'.ownsRow w2.heap.size tMs 8 o O.length (O.flatMap Ms.enc) ∧ Mod none_ w2 w') (fun ρ _ => kk - (intOf (ρ 7)).toNat)
    ⟨0, .slice none 0 0, [], Nat.zero_le _, rfl, rfl, rfl, rfl, fun z => (hres.2 z.symm).symm, fun m _ => rfl, Nat.le_refl _, World.ownsRow_nil _ _ _ _, Mod.refl _ _⟩ ?_
  rintro ρ w3 ⟨i, o, O, hi, e7, e6, e0, e5, hO1, hO2, hOl, hO, hm3⟩
  rw [dispatcherref13_Queue_Ahead_L0_eq]; unfold dispatcherref13_Queue_Ahead_L0_F
  rw [e7, e6, BK_lss]
  by_cases hlt : i < kk
  · obtain ⟨m, hm, hn, hah⟩ := hat (by omega)
    subst hn
    rw [decide_eq_true (by omega)]
    refine condT ?_
    have hx : l[i]? = some l[i] := List.getElem?_eq_getElem (by omega)
    have etk : l.take (i + 1) = l.take i ++ [l[i]] := by rw [List.take_add_one, hx]; rfl
    generalize l[i] = x at *
    have hOe := hO2 m hm
    refine dispatcherref13_Queue_Ahead_R3_tail (D := []) ?_
    have hd : Mod none_ w3 { w3 with drawn := w3.drawn + 1 } := (Mod.refl _ w3).drawn _
    generalize ({ w3 with drawn := w3.drawn + 1 } : World) = wd at *
    have hmd := hm3.trans hd
    have hD := h1.calm hmd
    obtain ⟨pa, ra, la⟩ := own_at hD.own hx
    have hcell : ∀ (k : Nat) (u : Value), m.enc[k]? = some u → ∃ a, (∀ w', (Instr.indexAt tMsS V (.int .i64 (kk : Int))).run Try.prog w' = .ok (.pointer (some a)) w') ∧ wd.cell? (a.add k) = some u := by
      intro k u hu
      obtain ⟨g, cap, ev, _⟩ := owns_some hD.own (by omega)
      have hkl := (List.getElem?_eq_some_iff.1 hm).1
      have hDV : Dat wd g cap l := by have := hD.own; rw [ev] at this; exact this
      subst ev
      refine ⟨⟨g, kk * 8, none⟩, fun w' => Dat.ix rfl hkl w', ?_⟩
      obtain ⟨_, A, cc, es, _, hr⟩ := reads_of_owns hDV
      cases es
      have hk8 : k < 7 + 1 := (List.getElem?_eq_some_iff.1 hu).1
      obtain ⟨a, ha, hc⟩ := hr (kk * (7 + 1) + k) u (by rw [fl_get (k := 7 + 1) Ms.enc_len hm hk8]; exact hu)
      cases ha
      rw [add_pl] at hc ⊢
      simpa using hc
    obtain ⟨a0, r0, c0⟩ := hcell 0 _ rfl
    obtain ⟨a1, r1, c1⟩ := hcell 1 _ rfl
    obtain ⟨a2, r2, c2⟩ := hcell 2 _ rfl
    have key : ∀ (ρ' : Sl) (K : Exit → Sl → World → Prop), ρ' 0 = .pointer (some ⟨p, 0, none⟩) → ρ' 6 = .int .i64 kk → ρ' 7 = .int .i64 i →
        (∀ (ρ2 : Sl) (w' : World), ρ2 0 = ρ' 0 → ρ2 5 = ρ' 5 → ρ2 6 = ρ' 6 → ρ2 7 = ρ' 7 → ρ2 50 = .bool (isV x m.key m.frm m.to) → Mod none_ wd w' → K .normal ρ2 w') → dispatcherref13_Queue_Ahead_R3_T K ρ' wd := by
      intro ρ' K q0 q6 q7 hK
      unfold dispatcherref13_Queue_Ahead_R3_T
      rw [q0, q6, q7]
      have ldV : ∀ {K : Value → Prop}, K V → QK Try.prog (fun w' => w' = wd) (do pure (Next.value (← Instr.loadAt tMsS (.pointer (some (Addr.add ⟨p, 0, none⟩ 0)))))) K := fun hk => Qld vMsS rfl (fun w' hw => by rw [hw, add_pl, cell_blk hD.blk]; rfl) hk
      refine QN_ptr (Qfo (off := 0) (by kernel_rfl) (ldV ?_))
      refine QV_of (fun w' _ => ra w') (QV_of (fun w' hw => by rw [hw]; exact la wd (Mod.refl _ _)) ?_)
      refine QN_ptr (Qfo (off := 0) (by kernel_rfl) (ldV ?_))
      refine QV_of (fun w' _ => r0 w') (Qfo (off := 0) (by kernel_rfl) (Qld (v := strV m.key) vS rfl (fun w' hw => by rw [hw]; exact c0) ?_))
      refine QN_ptr (Qfo (off := 0) (by kernel_rfl) (ldV ?_))
      refine QV_of (fun w' _ => r1 w') (Qfo (off := 1) (by kernel_rfl) (Qld (v := .int .i64 m.frm) vI rfl (fun w' hw => by rw [hw]; exact c1) ?_))
      refine QN_ptr (Qfo (off := 0) (by kernel_rfl) (ldV ?_))
      refine QV_of (fun w' _ => r2 w') (Qfo (off := 2) (by kernel_rfl) (Qld (v := .int .i64 m.to) vI rfl (fun w' hw => by rw [hw]; exact c2) ?_))
      refine CK_st Try.func88 rfl rfl (is_ok x m.key m.frm m.to wd) ?_
      rintro _ w4 ⟨rfl, hm4⟩
      exact hK _ w4 rfl rfl rfl rfl rfl hm4
    refine key _ _ (by first | exact e0 | rfl) (by first | exact e6 | rfl) (by first | exact e7 | rfl) ?_
    intro ρ2 w4 z0 z5 z6 z7 q50 hm4
    have s0 : ρ2 0 = .pointer (some ⟨p, 0, none⟩) := z0.trans (by first | exact e0 | rfl)
    have s5 : ρ2 5 = o := z5.trans (by first | exact e5 | rfl)
    have s6 : ρ2 6 = .int .i64 kk := z6.trans (by first | exact e6 | rfl)
    have s7 : ρ2 7 = .int .i64 i := z7.trans (by first | exact e7 | rfl)
    have hm34 := hmd.trans hm4
    have hO4 := owns_mod hO (hd.trans hm4) fun _ _ => id
    have hD4 := hD.calm hm4
    rw [sq_n, dispatcherref13_Queue_Ahead_R4_eq]; unfold dispatcherref13_Queue_Ahead_R4_F
    rw [q50, s0, s5, s7]
    have nx : ∀ (ρ3 : Sl) (w' : World) (o' : Value) (O' : List Ms), ρ3 7 = .int .i64 i → ρ3 6 = .int .i64 kk → ρ3 0 = .pointer (some ⟨p, 0, none⟩) → ρ3 5 = o' → O' = ((l.take (i + 1)).filter fun x => isV x m.key m.frm m.to) → w'.ownsRow w2.heap.size tMs 8 o' O'.length (O'.flatMap Ms.enc) → Mod none_ w2 w' →
        sx fn_ Try.prog 62 dispatcherref13_Queue_Ahead_R2 (seqK (fun ρ w' => (∃ (i : Nat) (o : Value) (O : List Ms), i ≤ kk ∧ ρ 7 = .int .i64 i ∧ ρ 6 = .int .i64 kk ∧ ρ 0 = .pointer (some ⟨p, 0, none⟩) ∧ ρ 5 = o ∧ (i = kk → O = aheadV l m0.frm m0.call) ∧ (∀ m, l[kk]? = some m → O = (l.take i).filter fun x => isV x m.key m.frm m.to) ∧ O.length ≤ i ∧ w'.ownsRow w2.heap.size tMs 8 o O.length (O.flatMap Ms.enc) ∧ Mod none_ w2 w') ∧ kk - (intOf (ρ 7)).toNat < kk - (intOf (.int .i64 (i : Int))).toNat) (blkK 0 (seqK (sx fn_ Try.prog 62 dispatcherref13_Queue_Ahead_R1 (retK Try.prog [ResultVar.tmp 4] (RowP w (aheadV l m0.frm m0.call)))) (retK Try.prog [ResultVar.tmp 4] (RowP w (aheadV l m0.frm m0.call)))))) ρ3 w' := by
      intro ρ3 w' o' O' b7 b6 b0 b5 hO' hown hmw
      rw [dispatcherref13_Queue_Ahead_R2_eq]; unfold dispatcherref13_Queue_Ahead_R2_F
      rw [b7, BK_add, wrap_i (by omega) (by omega)]
      refine ⟨⟨i + 1, o', O', hlt, rfl, b6, b0, b5, fun z => by rw [hO', hah, z], fun m' hm' => by rw [hm] at hm'; cases hm'; exact hO', ?_, hown, hmw⟩, ?_⟩
      · rw [hO']
        exact Nat.le_trans (List.length_filter_le _ _) (by rw [List.length_take]; omega)
      · simp only [sq_n, sq_x, sq_r, bk_n, bk_r, bk_x, rt_r, rt_n, rs_0, rs_t, pk_1, pk_2, up_at, reduceIte, Nat.reduceEqDiff, intOf]; omega
    cases hv : isV x m.key m.frm m.to with
    | false =>
      refine condF ?_
      rw [bk_n, sq_n]
      exact nx _ w4 o O s7 s6 s0 s5 (by rw [etk, List.filter_append, hOe]; simp [hv]) hO4 hm34
    | true =>
      refine condT ?_
      rw [NK_ptr, (f_all hD4).e]
      refine ixMs (d_row hD4) hx rfl fun _ => ?_
      refine app1 hO4 hm34.size (by omega) fun _ o' w6 hO6 hm6 => ?_
      rw [bk_n, sq_n]
      exact nx _ w6 o' _ (by first | exact s7 | rfl) (by first | exact s6 | rfl) (by first | exact s0 | rfl) rfl (by rw [etk, List.filter_append, hOe]; simp [hv]) hO6 (hm34.then hm6 fun i hi z => by omega)
  · obtain rfl : i = kk := by omega
    rw [decide_eq_false (by rcases hkk with q | ⟨q, _⟩ <;> omega)]
    refine condF ?_
    rw [sq_x, bk_x, sq_n, dispatcherref13_Queue_Ahead_R1_eq]; unfold dispatcherref13_Queue_Ahead_R1_F
    rw [hO1 rfl] at hO
    refine ⟨?_, hm1.trans hm3⟩
    show w3.ownsRow _ _ _ (ρ 5) _ _
    rw [e5]; exact owns_base hO hm1.size
end
end Go.Proofs.Ytmnkedgmpbcicaa.Que
set_option maxRecDepth 20000
namespace Go.Proofs
open Go.Shelf
def Try.lays189_ren : Go.Shelf.Ren := ⟨fun | 189 => 79 | 125 => 87 | 257 => 86 | 128 => 99 | 129 => 100 | 294 => 90 | 295 => 91 | 296 => 92 | 297 => 93 | 298 => 94 | 299 => 95 | 216 => 96 | 300 => 97 | 301 => 98 | 328 => 102 | 329 => 103 | 330 => 104 | 331 => 105 | 332 => 106 | 215 => 85 | 343 => 107 | n => n, fun | 28 => 107 | 3 => 3 | 46 => 129 | 0 => 0 | 51 => 141 | 53 => 85 | 4 => 4 | 183 => 133 | 182 => 132 | 131 => 138 | 5 => 5 | 9 => 9 | 218 => 143 | 222 => 147 | 228 => 149 | 229 => 150 | n => n, fun | n => n⟩
theorem Try.lays189 : Go.Proofs.Lays.n189 Try.prog Try.lays189_ren := {
  mixed := by kernel_rfl
  f125 := Try.func87.trans (congrArg some (by kernel_rfl))
  f128 := Try.func99.trans (congrArg some (by kernel_rfl))
  f129 := Try.func100.trans (congrArg some (by kernel_rfl))
  f189 := Try.func79.trans (congrArg some (by kernel_rfl))
  f215 := Try.func85.trans (congrArg some (by kernel_rfl))
  f216 := Try.func96.trans (congrArg some (by kernel_rfl))
  f257 := Try.func86.trans (congrArg some (by kernel_rfl))
  f294 := Try.func90.trans (congrArg some (by kernel_rfl))
  f295 := Try.func91.trans (congrArg some (by kernel_rfl))
  f296 := Try.func92.trans (congrArg some (by kernel_rfl))
  f297 := Try.func93.trans (congrArg some (by kernel_rfl))
  f298 := Try.func94.trans (congrArg some (by kernel_rfl))
  f299 := Try.func95.trans (congrArg some (by kernel_rfl))
  f300 := Try.func97.trans (congrArg some (by kernel_rfl))
  f301 := Try.func98.trans (congrArg some (by kernel_rfl))
  f328 := Try.func102.trans (congrArg some (by kernel_rfl))
  f329 := Try.func103.trans (congrArg some (by kernel_rfl))
  f330 := Try.func104.trans (congrArg some (by kernel_rfl))
  f331 := Try.func105.trans (congrArg some (by kernel_rfl))
  f332 := Try.func106.trans (congrArg some (by kernel_rfl))
  f343 := Try.func107.trans (congrArg some (by kernel_rfl))
  t0 := Try.underlying0
  a0 := Try.isAgg0
  z0 := Try.sizeOf0
  v0 := Try.zeroValue0
  t3 := Try.underlying3
  a3 := Try.isAgg3
  z3 := Try.sizeOf3
  v3 := Try.zeroValue3
  t4 := Try.underlying4
  a4 := Try.isAgg4
  z4 := Try.sizeOf4
  v4 := Try.zeroValue4
  t5 := Try.underlying5
  a5 := Try.isAgg5
  z5 := Try.sizeOf5
  v5 := Try.zeroValue5
  t9 := Try.underlying9
  a9 := Try.isAgg9
  z9 := Try.sizeOf9
  v9 := Try.zeroValue9
  t28 := Try.underlying107
  a28 := Try.isAgg107
  z28 := Try.sizeOf107
  v28 := Try.zeroValue107
  t46 := Try.underlying129
  a46 := Try.isAgg129
  z46 := Try.sizeOf129
  v46 := Try.zeroValue129
  t51 := Try.underlying141
  a51 := Try.isAgg141
  z51 := Try.sizeOf141
  v51 := Try.zeroValue141
  t53 := Try.underlying85
  a53 := Try.isAgg85
  z53 := Try.sizeOf85
  v53 := Try.zeroValue85
  t131 := Try.underlying138
  a131 := Try.isAgg138
  z131 := Try.sizeOf138
  v131 := Try.zeroValue138
  t182 := Try.underlying132
  a182 := Try.isAgg132
  z182 := Try.sizeOf132
  v182 := Try.zeroValue132
  t183 := Try.underlying133
  a183 := Try.isAgg133
  z183 := Try.sizeOf133
  v183 := Try.zeroValue133
  t218 := Try.underlying143
  a218 := Try.isAgg143
  z218 := Try.sizeOf143
  v218 := Try.zeroValue143
  t222 := Try.underlying147
  a222 := Try.isAgg147
  z222 := Try.sizeOf147
  v222 := Try.zeroValue147
  t228 := Try.underlying149
  a228 := Try.isAgg149
  z228 := Try.sizeOf149
  v228 := Try.zeroValue149
  t229 := Try.underlying150
  a229 := Try.isAgg150
  z229 := Try.sizeOf150
  v229 := Try.zeroValue150 }
end Go.Proofs
set_option linter.unusedVariables false
set_option linter.unusedSimpArgs false
set_option maxRecDepth 4000
namespace Go.X
open Go Go.RowKit
theorem sorted_ext : ∀ {s t : List Int}, s.Pairwise (· < ·) → t.Pairwise (· < ·) → (∀ x, x ∈ s ↔ x ∈ t) → s = t
  | [], [], _, _, _ => rfl
  | [], b :: t, _, _, h => absurd ((h b).2 List.mem_cons_self) (by simp)
  | a :: s, [], _, _, h => absurd ((h a).1 List.mem_cons_self) (by simp)
  | a :: s, b :: t, hs, ht, h => by
    rw [List.pairwise_cons] at hs ht
    have hab : a = b := by
      have h1 := (h a).1 List.mem_cons_self
      have h2 := (h b).2 List.mem_cons_self
      rcases List.mem_cons.1 h1 with q | q
      · exact q
      · rcases List.mem_cons.1 h2 with z | z
        · exact z.symm
        · have := ht.1 a q; have := hs.1 b z; omega
    subst hab
    congr 1
    refine sorted_ext hs.2 ht.2 fun x => ⟨fun q => ?_, fun q => ?_⟩
    · rcases List.mem_cons.1 ((h x).1 (List.mem_cons_of_mem _ q)) with z | z
      · have := hs.1 x q; omega
      · exact z
    · rcases List.mem_cons.1 ((h x).2 (List.mem_cons_of_mem _ q)) with z | z
      · have := ht.1 x q; omega
      · exact z
theorem merge_lt {l : List Int} (h : l.Nodup) : (l.mergeSort fun x y => decide (x ≤ y)).Pairwise (· < ·) := by
  have h1 := List.pairwise_mergeSort (le := fun x y : Int => decide (x ≤ y)) (fun a b c p q => by simp only [decide_eq_true_eq] at p q ⊢; omega) (fun a b => by simp only [Bool.or_eq_true, decide_eq_true_eq]; omega) l
  have h2 : (l.mergeSort fun x y => decide (x ≤ y)).Nodup := (List.mergeSort_perm l _).nodup_iff.2 h
  refine (List.pairwise_iff_getElem.2 fun i j hi hj hij => ?_)
  have a := List.pairwise_iff_getElem.1 h1 i j hi hj hij
  have b := List.pairwise_iff_getElem.1 h2 i j hi hj hij
  simp only [decide_eq_true_eq] at a
  omega
def sentBy (l : List Ms) (k : List UInt8) (t x : Int) : Bool := l.any fun m => nt m && decide (m.ch = (k, x, t))
def sendersV (l : List Ms) (k : List UInt8) (t : Int) : List Int := ((List.range 64).map fun n : Nat => (n : Int)).filter (sentBy l k t)
def FrmOk (l : List Ms) : Prop := ∀ m ∈ l, 0 ≤ m.frm ∧ m.frm ≤ 63
theorem FrmOk.nil : FrmOk [] := by intro m hm; cases hm
theorem FrmOk.take {l : List Ms} (h : FrmOk l) (f c : Int) : FrmOk (takeV l f c).1 := by
  unfold takeV
  split
  · exact h
  · split
    · exact h
    · intro m hm
      obtain ⟨x, hx, rfl⟩ := List.mem_map.1 hm
      rw [tk_frm]; exact h x hx
theorem FrmOk.send {l : List Ms} (h : FrmOk l) (m : Ms) : FrmOk (sendV l m).1 := by
  unfold sendV
  split
  · exact h
  · rename_i hb
    intro x hx
    rcases List.mem_append.1 hx with q | q
    · exact h x q
    · rw [List.mem_singleton.1 q]
      have : badM m = false := by
        cases hq : badM m with
        | false => rfl
        | true => rw [hq] at hb; simp at hb
      unfold badM at this
      simp only [Bool.or_eq_false_iff, Bool.not_eq_false', Bool.and_eq_true, decide_eq_true_eq] at this
      exact this.1.1.1.1.2
theorem range_lt (n : Nat) : ((List.range n).map fun n : Nat => (n : Int)).Pairwise (· < ·) := by
  rw [List.pairwise_map]
  exact List.pairwise_lt_range.imp fun h => by omega
theorem senders_eq {l : List Ms} (hg : FrmOk l) {k : List UInt8} {t : Int} {out : List Int} (hn : out.Nodup) (hm : ∀ x, x ∈ out ↔ sentBy l k t x = true) : (out.mergeSort fun x y => decide (x ≤ y)) = sendersV l k t := by
  refine sorted_ext (merge_lt hn) ((range_lt 64).filter _) fun x => ?_
  rw [(List.mergeSort_perm out _).mem_iff, hm, sendersV, List.mem_filter]
  refine ⟨fun q => ⟨?_, q⟩, fun q => q.2⟩
  unfold sentBy at q
  obtain ⟨m, hml, hmq⟩ := List.any_eq_true.1 q
  have hch : m.ch = (k, x, t) := by
    have := (Bool.and_eq_true_iff.1 hmq).2
    simpa using this
  have hx : m.frm = x := by unfold Ms.ch at hch; simp only [Prod.mk.injEq] at hch; exact hch.2.1
  have := hg m hml
  rw [List.mem_map]
  exact ⟨x.toNat, List.mem_range.2 (by omega), by omega⟩
end Go.X
namespace Go.Proofs.Ytmnkedgmpbcicaa.Que
open Go Go.X Go.RowKit Go.Proofs.Ytmnkedgmpbcicaa.XF Go.Proofs.Ytmnkedgmpbcicaa.XK
abbrev tI : TypeId := 3
abbrev tIs : TypeId := 107
theorem eIs : elemOk Try.prog tIs tI 1 8 = true := by kernel_rfl
theorem SortI_ok {w : World} {v : Value} {zs : List Int} {B : Nat} (h : w.ownsRow B tI 1 v zs.length (ints zs)) (hl : zs.length ≤ 1000000) : Rt Try.prog 79 #[v] w fun _ w' => w'.ownsRow B tI 1 v zs.length (ints (zs.mergeSort fun x y => decide (x ≤ y))) ∧ Mod (fun b => sb v b) w w' := by
  have h' := h
  obtain ⟨hlen, ⟨rfl, h0⟩ | ⟨g, cap, cur, rfl, hb, hg, hn, hm, hs, ht⟩⟩ := h
  · obtain rfl : zs = [] := List.eq_nil_of_length_eq_zero h0
    refine Calls.mono (Any.slices_Sort_int_none Try.lays189 none 0 w) ?_
    rintro e w' ⟨rfl, rfl⟩
    exact ⟨_, rfl, by rw [List.mergeSort_nil]; exact h', Mod.refl _ _⟩
  · have hH : Go.Sort.Holds (Value.int .i64) w g 0 zs.toArray := holds_of_blockI hg (by rw [Nat.mul_one] at ht; exact ht)
    refine Calls.mono (Any.slices_Sort_int Try.lays189 g 0 cap zs w hH (X.blk_lt hg) (by omega)) ?_
    rintro e w' ⟨rfl, n, os, rfl⟩
    refine ⟨_, rfl, ?_, ?_⟩
    · exact ownsRow_sortedI (ss := zs) (ts := zs.mergeSort fun x y => decide (x ≤ y)) (List.length_mergeSort zs) hb hg hn hm hs
    · exact (Mod.ofGrown (grownBy_sortedI (n := n) (os := os) (g := g) (w := w) (zs.mergeSort fun x y => decide (x ≤ y)).toArray)).mono fun b _ z => z.symm
theorem appI {w : World} {v : Value} {xs : List Int} {m : Int} {B : Nat} {K : Value → Value → World → Prop} (ho : w.ownsRow B tI 1 v xs.length (ints xs)) (hB : B ≤ w.heap.size) (hl : xs.length ≤ 2000000)
    (hk : ∀ x v' w', w'.ownsRow B tI 1 v' (xs ++ [m]).length (ints (xs ++ [m])) → Mod (fun b => B ≤ b) w w' → K x v' w') :
    VK Try.prog (Instr.buildSlice tIs 1 [(0, .int .i64 m)].toArray) w fun x w => IK Try.prog .append #[tIs, tIs] tIs [false, false] [v, x] w (K x) := by
  refine bs_k (cs := #[.int .i64 m]) (by kernel_rfl) fun w1 hb1 hm1 hz1 => ?_
  refine ap_any eIs (owns_mod ho hm1 fun _ _ => id) (reads_blk (size := 1) (n := 1) hb1 rfl) (fun u hu => by rw [List.mem_singleton.1 hu]; rfl) (by unfold maxLen; omega) (by omega) (by omega) fun v' w2 ho2 hm2 hv2 => ?_
  refine hk _ v' w2 ?_ ((hm1.mono fun _ _ z => z.elim).trans (hm2.mono fun b _ z => (owns_bd (owns_mod ho hm1 fun _ _ => id) b z.symm).1))
  rw [List.length_append]
  unfold ints at ho2 ⊢
  rw [List.map_append]
  exact ho2
end Go.Proofs.Ytmnkedgmpbcicaa.Que
set_option linter.unusedVariables false
set_option linter.unusedSimpArgs false
set_option maxRecDepth 4000
namespace Go.X
open Go Go.RowKit
def toldE (l : List Ms) (k : List UInt8) (t : Int) (e : Ent Ch) : Bool := decide (e.k = (k, e.k.2.1, t)) && (rowOf l e.k).any nt
def outE (l : List Ms) (k : List UInt8) (t : Int) (vs : List (Ent Ch)) : List Int := (vs.filter (toldE l k t)).map fun e => e.k.2.1
theorem toldE_iff {l : List Ms} {k : List UInt8} {t : Int} {e : Ent Ch} : toldE l k t e = true ↔ e.k = (k, e.k.2.1, t) ∧ ∃ m ∈ l, m.ch = e.k ∧ nt m = true := by
  unfold toldE
  rw [Bool.and_eq_true, decide_eq_true_iff, List.any_eq_true]
  refine and_congr Iff.rfl ⟨fun ⟨m, hm, hn⟩ => ?_, fun ⟨m, hm, hc, hn⟩ => ⟨m, mem_row.2 ⟨hm, hc⟩, hn⟩⟩
  obtain ⟨a, b⟩ := mem_row.1 hm
  exact ⟨m, a, b, hn⟩
theorem outE_nodup {l : List Ms} {k : List UInt8} {t : Int} {vs : List (Ent Ch)} (hd : vs.Pairwise fun a b => a.k ≠ b.k) : (outE l k t vs).Nodup := by
  unfold outE
  show List.Pairwise _ _
  rw [List.pairwise_map]
  refine List.pairwise_iff_getElem.2 fun i j hi hj hij z => ?_
  have h1 := List.pairwise_iff_getElem.1 (hd.filter (toldE l k t)) i j hi hj hij
  have a := (toldE_iff.1 (List.mem_filter.1 (List.getElem_mem hi)).2).1
  have b := (toldE_iff.1 (List.mem_filter.1 (List.getElem_mem hj)).2).1
  exact h1 (by rw [a, b, z])
theorem outE_mem {l : List Ms} {V : QV} (h : QInv l V) {k : List UInt8} {t : Int} {vs : List (Ent Ch)} (hs : ∀ e ∈ vs, e ∈ V.er) (hall : ∀ e ∈ V.er, e ∈ vs) (x : Int) : x ∈ outE l k t vs ↔ sentBy l k t x = true := by
  unfold outE sentBy
  rw [List.mem_map, List.any_eq_true]
  constructor
  · rintro ⟨e, he, rfl⟩
    obtain ⟨h1, m, hm, hc, hn⟩ := toldE_iff.1 (List.mem_filter.1 he).2
    exact ⟨m, hm, by rw [hn, hc]; simpa using h1⟩
  · rintro ⟨m, hm, hq⟩
    rw [Bool.and_eq_true, decide_eq_true_iff] at hq
    obtain ⟨e, he, hk⟩ := h.cov m hm
    refine ⟨e, List.mem_filter.2 ⟨hall e he, toldE_iff.2 ⟨?_, m, hm, hk.symm, hq.1⟩⟩, ?_⟩
    · rw [hk, hq.2]
    · rw [hk, hq.2]
end Go.X
namespace Go.Proofs.Ytmnkedgmpbcicaa.Que
open Go Go.X Go.RowKit Go.Proofs.Ytmnkedgmpbcicaa.XF Go.Proofs.Ytmnkedgmpbcicaa.XK
theorem gCh : Try.prog.eqGuardType Try.prog.depth 91 = false := by kernel_rfl
theorem BK_ChE {w : World} {K : Value → World → Prop} {x y : Operand} (a b : Ch) : BK Try.prog .eql 91 x y (encC a) (encC b) w K = K (.bool (decide (a = b))) w := by
  obtain ⟨a1, a2, a3⟩ := a; obtain ⟨b1, b2, b3⟩ := b
  refine BK_of (run_eqGuard_agg w .eql _ x y _ _ gCh) ?_
  unfold encC strV
  rw [run_eql_struct]
  have := eqC ⟨a1.toArray⟩ ⟨b1.toArray⟩ a2 a3 b2 b3 w
  unfold Op.equal at this
  dsimp only
  rw [show (10000 : Nat) = Op.maxDepth from rfl, this, toL, toL]
  show Result.ok (Value.bool _) w = _
  congr 2
  by_cases h1 : a1 = b1 <;> by_cases h2 : a2 = b2 <;> by_cases h3 : a3 = b3 <;> simp [h1, h2, h3]
theorem Senders1_ok (m : Ms) (w : World) : Rt Try.prog 78 #[.agg m.enc.toArray] w fun v w' => v = .bool (nt m) ∧ Mod none_ w w' := by
  refine queue_Queue_Senders_1_calls ?_
  unfold queue_Queue_Senders_1_F
  refine box_k (cs := m.enc.toArray) rfl fun w1 hb1 hm1 hz1 => ?_
  have g : FO Try.prog w1 tMs 7 7 ⟨w.heap.size, 0, none⟩ 4 (.bool m.taken) := FO.blk hb1 (by kernel_rfl) vB rfl rfl
  rw [g.e, not_ok]
  exact ⟨rfl, hm1⟩
section
variable {w : World} {p : Nat} {l : List Ms} {V : QV}
abbrev IntP (w0 : World) (xs : List Int) : Value → World → Prop := fun v w' => w'.ownsRow w0.heap.size tI 1 v xs.length (ints xs) ∧ Mod none_ w0 w'
theorem Senders_ok (h : QAt w p l V) (hg : FrmOk l) (hL : l.length ≤ 500000) (k : List UInt8) (t : Int) : Rt Try.prog 62 #[.pointer (some ⟨p, 0, none⟩), strV k, .int .i64 t] w (IntP w (sendersV l k t)) := by
  refine queue_Queue_Senders_calls ?_
  unfold queue_Queue_Senders_F
  refine CK_st Try.func49 rfl rfl (none_ok h) ?_
  rintro _ w1 ⟨rfl, rfl⟩
  refine condF ?_
  rw [NK_ptr, (f_rows h).e]
  refine range_k uR h.rm fun w2 hit hm2 hz2 => ?_
  refine W_loopG queue_Queue_Senders_L0_ok (fun m ρ w' => ∃ (vs : List (Ent Ch)) (o : Value), m = togo V.er (vs.map (·.b)) ∧ (∀ e ∈ vs, e ∈ V.er) ∧ vs.Pairwise (fun a b => a.k ≠ b.k) ∧ ρ 17 = .pointer (some ⟨w1.heap.size, 0, none⟩) ∧ ρ 7 = o ∧ ρ 1 = strV k ∧ ρ 2 = .int .i64 t ∧ IterAt w' w1.heap.size V.rb V.c1 (vs.map (·.b)) V.c1 ∧ w'.ownsRow w2.heap.size tI 1 o (outE l k t vs).length (ints (outE l k t vs)) ∧ (outE l k t vs).length ≤ l.length ∧ Mod (fun b => w1.heap.size ≤ b) w2 w' ∧ Mod none_ w1 w') (togo V.er [])
    ⟨[], .slice none 0 0, rfl, by simp, by simp, rfl, rfl, rfl, rfl, hit, World.ownsRow_nil _ _ _ _, Nat.zero_le _, Mod.refl _ _, hm2⟩ ?_
  rintro m ρ w3 ⟨vs, o, hmv, hvs, hvd, e17, e7, e1, e2, hit3, hO3, hol, hm23, hm13⟩
  rw [queue_Queue_Senders_L0_eq]; unfold queue_Queue_Senders_L0_F
  rw [e17]
  have h3 := h.calm hm13
  refine next_k h3.rm hit3 h3.inv.rc (Nat.le_refl _) (fun hall => ?_) (fun e he hne w4 hit4 hm4 hz4 => ?_)
  · rw [extract_ok (v := .bool false) rfl]
    refine condF ?_
    rw [sq_x, bk_x, sq_n, queue_Queue_Senders_R1_eq]; unfold queue_Queue_Senders_R1_F
    have key : ∀ ρ : Sl, ρ 7 = o → CK Try.prog (.func (.func 79) #[] #[]) [ρ 7] w3 fun x41 w => retK Try.prog [ResultVar.tmp 6] (IntP w1 (sendersV l k t)) .ret (up (up (up (up ρ 40 (ρ 7)) 41 x41) 42 (ρ 7)) 6 (ρ 7)) w := by
      intro ρ q7
      rw [q7]
      refine CK_st Try.func79 rfl rfl (SortI_ok hO3 (by omega)) ?_
      rintro _ w4 ⟨hO4, hm4⟩
      have hall' := mem_of_born h.inv.rb hvs hall
      have hse := senders_eq hg (outE_nodup (l := l) (k := k) (t := t) hvd) (outE_mem h.inv (k := k) (t := t) hvs hall')
      have hl4 := congrArg List.length hse
      rw [List.length_mergeSort] at hl4
      rw [hse, hl4] at hO4
      refine ⟨?_, hm13.then hm4 fun i hi z => ?_⟩
      · exact owns_base hO4 (by omega)
      · have := (owns_bd hO3 i z).1; omega
    exact key _ e7
  · rw [extract_ok (v := .bool true) rfl]
    refine condT ?_
    have hm14 : Mod none_ w1 w4 := hm13.fresh hm4 (Nat.le_refl _)
    have h4 := h.calm hm14
    refine entry_k h4.rm hit4 he h4.inv.rb ?_
    rw [extract_ok (v := encC e.k) rfl, extract_ok (v := e.v) rfl]
    refine al_k (cs := #[strV [], .int .i64 0, .int .i64 0]) zC_z rfl _ fun w5 hb5 hm5 hz5 => ?_
    refine stS (cs := #[strV e.k.1, .int .i64 e.k.2.1, .int .i64 e.k.2.2]) (old := #[strV [], .int .i64 0, .int .i64 0]) rfl rfl (by kernel_rfl) rfl (by simp [Value.oneCell', strV]) hb5 fun w6 hb6 hm6 hz6 => ?_
    have hm46 : Mod none_ w4 w6 := hm5.fresh hm6 (Nat.le_refl _)
    have h6 := h4.calm hm46
    have hr6 : MsRow w6 e.v (rowOf l e.k) := reads_of_owns (h6.rows e he)
    have hrl := row_len l e.k
    refine CK_st Try.func44 rfl rfl (ContainsFuncMs_ok (p := nt) hr6 (by omega) fun a _ w' _ K hK => ?_) ?_
    · refine CK_st Try.func78 rfl rfl (Senders1_ok a w') ?_
      rintro _ w'' ⟨rfl, hm''⟩
      exact hK w'' hm''
    rintro _ w7 ⟨rfl, hm7⟩
    have hm47 := hm46.trans hm7
    have hb7 := hm7.blk hb6 id
    have g1 : FO Try.prog w7 91 1 1 ⟨w4.heap.size, 0, none⟩ 3 (.int .i64 e.k.2.1) := FO.blk hb7 (by kernel_rfl) vI rfl rfl
    refine ldS (cs := #[strV e.k.1, .int .i64 e.k.2.1, .int .i64 e.k.2.2]) rfl Try.underlying91 rfl (by kernel_rfl) hb7 ?_
    rw [g1.e, e1, e2, build_ok (cs := #[strV k, .int .i64 e.k.2.1, .int .i64 t]) (by kernel_rfl)]
    rw [show Value.agg #[strV e.k.1, .int .i64 e.k.2.1, .int .i64 e.k.2.2] = encC e.k from rfl, show Value.agg #[strV k, .int .i64 e.k.2.1, .int .i64 t] = encC (k, e.k.2.1, t) from rfl, BK_ChE]
    have hO7 := owns_mod (owns_mod hO3 hm4 fun g z y => by have := (owns_bd hO3 g z).1; omega) hm47 fun _ _ => id
    have hmap : (vs ++ [e]).map (·.b) = vs.map (·.b) ++ [e.b] := by simp
    have hz47 := hm47.size
    have hkn := key_ne h.inv.rk hvs he hne
    have hvd' : (vs ++ [e]).Pairwise fun a b => a.k ≠ b.k := by
      rw [List.pairwise_append]
      exact ⟨hvd, by simp, fun a ha b hb => by rw [List.mem_singleton.1 hb]; exact hkn a ha⟩
    have hvs' : ∀ x ∈ vs ++ [e], x ∈ V.er := fun x hx => by
      rcases List.mem_append.1 hx with z | z
      · exact hvs x z
      · rw [List.mem_singleton.1 z]; exact he
    have hoa : outE l k t (vs ++ [e]) = outE l k t vs ++ (if toldE l k t e then [e.k.2.1] else []) := by
      unfold outE
      rw [List.filter_append, List.map_append]
      congr 1
      by_cases q : toldE l k t e = true <;> simp [q]
    have hlen' : (outE l k t (vs ++ [e])).length ≤ l.length := by
      have h2 := (outE_nodup (l := l) (k := k) (t := t) hvd').length_le_of_subset (l₂ := l.map fun m => m.frm) fun x hx => ?_
      · rwa [List.length_map] at h2
      · unfold outE at hx
        obtain ⟨e', he', rfl⟩ := List.mem_map.1 hx
        obtain ⟨_, m', hm', hc', _⟩ := toldE_iff.1 (List.mem_filter.1 he').2
        exact List.mem_map.2 ⟨m', hm', by rw [← hc']; rfl⟩
    have hm27 : Mod (fun b => w1.heap.size ≤ b) w2 w7 := (hm23.trans (hm4.mono fun b _ z => by omega)).trans (hm47.mono fun _ _ z => z.elim)
    have fin : ∀ (ρ' : Sl) (w' : World) (o' : Value), ρ' 17 = .pointer (some ⟨w1.heap.size, 0, none⟩) → ρ' 7 = o' → ρ' 1 = strV k → ρ' 2 = .int .i64 t → IterAt w' w1.heap.size V.rb V.c1 (vs.map (·.b) ++ [e.b]) V.c1 → w'.ownsRow w2.heap.size tI 1 o' (outE l k t (vs ++ [e])).length (ints (outE l k t (vs ++ [e]))) → Mod (fun b => w1.heap.size ≤ b) w2 w' → Mod none_ w1 w' →
        ∃ m', m' < m ∧ ∃ (vs : List (Ent Ch)) (o : Value), m' = togo V.er (vs.map (·.b)) ∧ (∀ e ∈ vs, e ∈ V.er) ∧ vs.Pairwise (fun a b => a.k ≠ b.k) ∧ ρ' 17 = .pointer (some ⟨w1.heap.size, 0, none⟩) ∧ ρ' 7 = o ∧ ρ' 1 = strV k ∧ ρ' 2 = .int .i64 t ∧ IterAt w' w1.heap.size V.rb V.c1 (vs.map (·.b)) V.c1 ∧ w'.ownsRow w2.heap.size tI 1 o (outE l k t vs).length (ints (outE l k t vs)) ∧ (outE l k t vs).length ≤ l.length ∧ Mod (fun b => w1.heap.size ≤ b) w2 w' ∧ Mod none_ w1 w' := by
      intro ρ' w' o' a17 a7 a1 a2 hi' ho' hm2' hm1'
      exact ⟨togo V.er ((vs ++ [e]).map (·.b)), by rw [hmv, hmap]; exact togo_lt he hne, vs ++ [e], o', rfl, hvs', hvd', a17, a7, a1, a2, by rw [hmap]; exact hi', ho', hlen', hm2', hm1'⟩
    have hit7 := hit4.mod hm47 id
    have key : ∀ (ρ' : Sl) (K : Exit → Sl → World → Prop) (q : Bool), ρ' 7 = o → True := fun _ _ _ _ => trivial
    by_cases c1 : e.k = (k, e.k.2.1, t)
    · rw [decide_eq_true c1]
      simp only [↓VG_u, ↓UG_u, ↓MG_u, ↓NG_u, ↓PG_u, ↓BG_u, ↓CG_u, ↓IG_u, ↓VGtt, ↓VGtf, ↓VGft, ↓VGff, ↓UGtt, ↓UGtf, ↓UGft, ↓UGff, ↓MGtt, ↓MGtf, ↓MGft, ↓MGff, ↓NGtt, ↓NGtf, ↓NGft, ↓NGff, ↓PGtt, ↓PGtf, ↓PGft, ↓PGff, ↓BGtt, ↓BGtf, ↓BGft, ↓BGff, ↓CGtt, ↓CGtf, ↓CGft, ↓CGff, ↓IGtt, ↓IGtf, ↓IGft, ↓IGff, ↓PKt, ↓PKf, ↓CDt, ↓CDf, ↓NOTt, ↓NOTf, ↓NK_ptr]
      cases c2 : (rowOf l e.k).any nt with
      | true =>
        simp only [↓VG_u, ↓UG_u, ↓MG_u, ↓NG_u, ↓PG_u, ↓BG_u, ↓CG_u, ↓IG_u, ↓VGtt, ↓VGtf, ↓VGft, ↓VGff, ↓UGtt, ↓UGtf, ↓UGft, ↓UGff, ↓MGtt, ↓MGtf, ↓MGft, ↓MGff, ↓NGtt, ↓NGtf, ↓NGft, ↓NGff, ↓PGtt, ↓PGtf, ↓PGft, ↓PGff, ↓BGtt, ↓BGtf, ↓BGft, ↓BGff, ↓CGtt, ↓CGtf, ↓CGft, ↓CGff, ↓IGtt, ↓IGtf, ↓IGft, ↓IGff, ↓PKt, ↓PKf, ↓CDt, ↓CDf, ↓NOTt, ↓NOTf, ↓NK_ptr]
        rw [g1.e, e7]
        have htold : toldE l k t e = true := by unfold toldE; rw [decide_eq_true c1, c2]; rfl
        have hsz2 := hm2.size
        refine appI hO7 (Nat.le_trans hm27.size (Nat.le_refl _)) (by omega) fun _ o' w8 hO8 hm8 => ?_
        rw [htold, if_pos rfl] at hoa
        rw [← hoa] at hO8
        rw [sq_n]
        refine fin _ w8 o' (by first | exact e17 | rfl) rfl (by first | exact e1 | rfl) (by first | exact e2 | rfl) (hit7.mod hm8 (by omega)) hO8 (hm27.trans (hm8.mono fun b _ z => by omega)) ((hm14.trans hm47).then hm8 fun i hi z => by omega)
      | false =>
        simp only [↓VG_u, ↓UG_u, ↓MG_u, ↓NG_u, ↓PG_u, ↓BG_u, ↓CG_u, ↓IG_u, ↓VGtt, ↓VGtf, ↓VGft, ↓VGff, ↓UGtt, ↓UGtf, ↓UGft, ↓UGff, ↓MGtt, ↓MGtf, ↓MGft, ↓MGff, ↓NGtt, ↓NGtf, ↓NGft, ↓NGff, ↓PGtt, ↓PGtf, ↓PGft, ↓PGff, ↓BGtt, ↓BGtf, ↓BGft, ↓BGff, ↓CGtt, ↓CGtf, ↓CGft, ↓CGff, ↓IGtt, ↓IGtf, ↓IGft, ↓IGff, ↓PKt, ↓PKf, ↓CDt, ↓CDf, ↓NOTt, ↓NOTf, ↓NK_ptr]
        have htold : toldE l k t e = false := by unfold toldE; rw [decide_eq_true c1, c2]; rfl
        rw [htold] at hoa
        simp only [Bool.false_eq_true, if_false, List.append_nil] at hoa
        rw [← hoa] at hO7
        rw [sq_n]
        exact fin _ w7 o (by first | exact e17 | rfl) (by first | exact e7 | rfl) (by first | exact e1 | rfl) (by first | exact e2 | rfl) hit7 hO7 hm27 (hm14.trans hm47)
    · rw [decide_eq_false c1]
      simp only [↓VG_u, ↓UG_u, ↓MG_u, ↓NG_u, ↓PG_u, ↓BG_u, ↓CG_u, ↓IG_u, ↓VGtt, ↓VGtf, ↓VGft, ↓VGff, ↓UGtt, ↓UGtf, ↓UGft, ↓UGff, ↓MGtt, ↓MGtf, ↓MGft, ↓MGff, ↓NGtt, ↓NGtf, ↓NGft, ↓NGff, ↓PGtt, ↓PGtf, ↓PGft, ↓PGff, ↓BGtt, ↓BGtf, ↓BGft, ↓BGff, ↓CGtt, ↓CGtf, ↓CGft, ↓CGff, ↓IGtt, ↓IGtf, ↓IGft, ↓IGff, ↓PKt, ↓PKf, ↓CDt, ↓CDf, ↓NOTt, ↓NOTf, ↓NK_ptr]
      have htold : toldE l k t e = false := by unfold toldE; rw [decide_eq_false c1]; rfl
      rw [htold] at hoa
      simp only [Bool.false_eq_true, if_false, List.append_nil] at hoa
      rw [← hoa] at hO7
      rw [sq_n]
      exact fin _ w7 o (by first | exact e17 | rfl) (by first | exact e7 | rfl) (by first | exact e1 | rfl) (by first | exact e2 | rfl) hit7 hO7 hm27 (hm14.trans hm47)
end
end Go.Proofs.Ytmnkedgmpbcicaa.Que
set_option linter.unusedVariables false
set_option linter.unusedSimpArgs false
set_option maxRecDepth 4000
namespace Go.Proofs.Ytmnkedgmpbcicaa.Que
open Go Go.X Go.RowKit Go.Proofs.Ytmnkedgmpbcicaa.XF Go.Proofs.Ytmnkedgmpbcicaa.XK
def upto (l : List Ms) (k : List UInt8) (t : Int) (n : Nat) : List Int := ((List.range n).map fun n : Nat => (n : Int)).filter (sentBy l k t)
theorem upto_len (l : List Ms) (k : List UInt8) (t : Int) (n : Nat) : (upto l k t n).length ≤ n := by
  unfold upto
  exact Nat.le_trans (List.length_filter_le _ _) (by simp)
section
variable {w : World} {p : Nat} {l : List Ms} {V : Value}
end
theorem ixI {w : World} {v : Value} {l : List Int} {B i : Nat} {m : Int} (h : w.ownsRow B tI 1 v l.length (ints l)) (hi : l[i]? = some m) : ∃ a, (∀ w', (Instr.indexAt tIs v (.int .i64 (i : Int))).run Try.prog w' = .ok (.pointer (some a)) w') ∧ ∀ w', Mod none_ w w' → (Instr.loadAt tI (.pointer (some a))).run Try.prog w' = .ok (.int .i64 m) w' := by
  have hil := (List.getElem?_eq_some_iff.1 hi).1
  have hr := reads_of_owns h
  obtain ⟨g, cap, ev, _⟩ := owns_some h (by omega)
  subst ev
  refine ⟨⟨g, i, none⟩, fun w' => ?_, fun w' hw => ?_⟩
  · rw [run_ixa (sz := 0) vIs (by kernel_rfl) (by omega) (by omega) w', add_pl]
    congr 4
    omega
  · have hr' := reads_mod hr hw (fun _ _ _ => id)
    obtain ⟨_, A, c, es, _, hc⟩ := hr'
    cases es
    obtain ⟨a, ha, hcell⟩ := hc i _ (ints_get hi)
    cases ha
    rw [add_pl, Nat.zero_add] at hcell
    exact run_ld1 vI rfl hcell
end Go.Proofs.Ytmnkedgmpbcicaa.Que
set_option linter.unusedVariables false
set_option linter.unusedSimpArgs false
set_option maxRecDepth 4000
namespace Go.X
open Go Go.RowKit
structure Ac where
  kind : Int
  m : Ms
def Ac.enc (a : Ac) : List Value := .int .u8 a.kind :: a.m.enc
theorem Ac.enc_len (a : Ac) : a.enc.length = 8 + 1 := rfl
def Acts (w : World) (v : Value) (l : List Ac) : Prop := reads w (8 + 1) v l.length (l.flatMap Ac.enc)
structure PQ (w0 w : World) (p q : Nat) (l m : List Ms) (V : QV) (D : Value) : Prop where
  qa : QAt w p l V
  da : DAt w q m D
  dj : ∀ b, V.F p b → ¬ DF q D b
  fr : ∀ b, V.F p b → w0.heap.size ≤ b
  fd : ∀ b, DF q D b → w0.heap.size ≤ b
  mod : Mod none_ w0 w
theorem PQ.move {w0 w w1 : World} {p q : Nat} {l m : List Ms} {V : QV} {D : Value} {S : Nat → Prop} (h : PQ w0 w p q l m V D) (hm : Mod S w w1) (hS : ∀ b, S b → ¬ V.F p b ∧ ¬ DF q D b ∧ w0.heap.size ≤ b) : PQ w0 w1 p q l m V D :=
  ⟨h.qa.mod hm fun b z y => (hS b y).1 z, h.da.mod hm fun b z y => (hS b y).2.1 z, h.dj, h.fr, h.fd, h.mod.then hm fun i hi z => by have := (hS i z).2.2; omega⟩
theorem PQ.calm {w0 w w1 : World} {p q : Nat} {l m : List Ms} {V : QV} {D : Value} (h : PQ w0 w p q l m V D) (hm : Mod none_ w w1) : PQ w0 w1 p q l m V D := h.move hm fun _ z => z.elim
theorem PQ.q {w0 w w1 : World} {p q : Nat} {l m l' : List Ms} {V V1 : QV} {D : Value} (h : PQ w0 w p q l m V D) (h1 : QAt w1 p l' V1) (f : QFr p w V w1 V1) : PQ w0 w1 p q l' m V1 D := by
  have hs := h.mod.size
  refine ⟨h1, h.da.mod f.mod fun b z y => h.dj b y z, fun b z y => ?_, fun b z => ?_, h.fd, h.mod.then f.mod fun i hi z => by have := h.fr i z; omega⟩
  · rcases f.f b z with u | u
    · exact h.dj b u y
    · have := h.da.old b y; omega
  · rcases f.f b z with u | u
    · exact h.fr b u
    · omega
theorem PQ.d {w0 w w1 : World} {p q : Nat} {l m m' : List Ms} {V : QV} {D D1 : Value} (h : PQ w0 w p q l m V D) (h1 : DAt w1 q m' D1) (f : DFr q w D w1 D1) : PQ w0 w1 p q l m' V D1 := by
  have hs := h.mod.size
  refine ⟨h.qa.mod f.mod fun b z y => h.dj b z y, h1, fun b z y => ?_, h.fr, fun b z => ?_, h.mod.then f.mod fun i hi z => by have := h.fd i z; omega⟩
  · rcases f.f b y with u | u
    · exact h.dj b z u
    · have := h.qa.old b z; omega
  · rcases f.f b z with u | u
    · exact h.fd b u
    · omega
theorem sendV_len (l : List Ms) (m : Ms) : (sendV l m).1.length ≤ l.length + 1 := by
  unfold sendV
  split <;> simp
theorem takeV_len (l : List Ms) (f c : Int) : (takeV l f c).1.length = l.length := by
  unfold takeV
  split
  · rfl
  · split <;> simp
end Go.X
namespace Go.Proofs.Ytmnkedgmpbcicaa.Que
open Go Go.X Go.RowKit Go.Proofs.Ytmnkedgmpbcicaa.XF Go.Proofs.Ytmnkedgmpbcicaa.XK
theorem Acts.calm {w w' : World} {s : Value} {l : List Ac} (h : Acts w s l) (hm : Mod none_ w w') : Acts w' s l := reads_mod h hm fun _ _ _ => id
end Go.Proofs.Ytmnkedgmpbcicaa.Que
set_option linter.unusedVariables false
set_option linter.unusedSimpArgs false
set_option maxRecDepth 8000
namespace Go.X
open Go Go.RowKit
end Go.X
namespace Go.Proofs.Ytmnkedgmpbcicaa.Que
open Go Go.X Go.RowKit Go.Proofs.Ytmnkedgmpbcicaa.XF Go.Proofs.Ytmnkedgmpbcicaa.XK
section
variable {w : World} {p : Nat} {V : QV}
theorem slot_k {K : Value → World → Prop} {m : Ms} (hk : ∀ w', w'.heap[w.heap.size]? = some (.cells m.enc.toArray tMs (0, 0)) → Mod none_ w w' → w'.heap.size = w.heap.size + 1 → K (.pointer (some ⟨w.heap.size, 0, none⟩)) w') : VK Try.prog (Instr.alloc tMs true (.tuple #[])) w fun x w => UK Try.prog (Instr.storeAt tMs x (.agg m.enc.toArray)) w fun _ w => K x w := by
  refine al_k (cs := zMs.enc.toArray) zMs_z rfl _ fun w1 hb1 hm1 hz1 => ?_
  refine stS (cs := m.enc.toArray) (old := zMs.enc.toArray) rfl rfl (by rw [iMs]; rfl) rfl (Ms.enc_one _) hb1 fun w2 hb2 hm2 hz2 => ?_
  exact hk w2 hb2 (hm1.fresh hm2 (Nat.le_refl _)) (by omega)
end
end Go.Proofs.Ytmnkedgmpbcicaa.Que
set_option linter.unusedVariables false
set_option linter.unusedSimpArgs false
set_option maxRecDepth 8000
namespace Go.X
open Go Go.RowKit
end Go.X
namespace Go.Proofs.Ytmnkedgmpbcicaa.Que
open Go Go.X Go.RowKit Go.Proofs.Ytmnkedgmpbcicaa.XF Go.Proofs.Ytmnkedgmpbcicaa.XK
section
variable {w w0 : World} {p : Nat} {V : QV}
theorem QFr.none {w' : World} {V' : QV} (h : QFr p w V w' V') (h0 : Mod none_ w0 w) (hF : ∀ b, V.F p b → w0.heap.size ≤ b) : Mod none_ w0 w' ∧ ∀ b, V'.F p b → w0.heap.size ≤ b := by
  have hs := h0.size
  refine ⟨h0.then h.mod fun i hi z => by have := hF i z; omega, fun b z => ?_⟩
  rcases h.f b z with y | y
  · exact hF b y
  · omega
theorem msb_get (o : Option Ms) : msb o = .tuple #[.agg (o.getD zMs).enc.toArray, .bool o.isSome] := by cases o <;> rfl
end
end Go.Proofs.Ytmnkedgmpbcicaa.Que
namespace Go.X
open Go Go.RowKit
end Go.X
set_option linter.unusedVariables false
namespace Go.X
open Go
def stepOk (P : Program) (n : Nat) (ops : Array Oper) (i : Nat) (t : Bool) (listed : Array Bool) : Bool :=
  match ops[i]? with
  | none => false
  | some o => oOk n o && (if t then Region.free .any ops listed i && (Region.ready .any ops listed).contains i else noRound P o.op && (Region.ready .any ops listed == [i]))
theorem planOk_step {P : Program} {n : Nat} {ops : Array Oper} {i : Nat} {t : Bool} {r : List (Nat × Bool)} {listed : Array Bool} (listed' : Array Bool) (hl : listed.setIfInBounds i true = listed') (h : stepOk P n ops i t listed = true) (hr : planOk P n ops r listed' = true) : planOk P n ops ((i, t) :: r) listed = true := by
  subst hl
  show (stepOk P n ops i t listed && planOk P n ops r (listed.setIfInBounds i true)) = true
  rw [h, hr]; rfl
theorem sxh_append (P : Program) (S : World → Prop) (ops : Array Oper) (K : Sl → World → Prop) : ∀ (l r : List (Nat × Bool)), sxh P S ops K (l ++ r) = sxh P S ops (sxh P S ops K r) l
  | [], r => by funext ρ w; rfl
  | (i, t) :: l, r => by
    funext ρ w
    show sxh P S ops K ((i, t) :: (l ++ r)) ρ w = _
    unfold sxh
    rw [sxh_append P S ops K l r]
end Go.X
