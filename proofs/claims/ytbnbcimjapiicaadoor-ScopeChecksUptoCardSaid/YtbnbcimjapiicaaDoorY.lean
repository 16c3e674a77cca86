/- The chapter's comparing of trees that are the same. -/
import Derived.Test.YtbnbcimjapiicaaDoorW
import Derived.Test.YtbnbcimjapiicaaDoorXHead
set_option linter.unusedVariables false
set_option linter.unusedSimpArgs false
set_option maxRecDepth 4000
namespace Go.X
open Go Go.RowKit
/-- Two structs' own variables, in either order. -/
theorem pair_k {P : Program} {S : World → Prop} {w : World} {t : TypeId} {z : Value} {cs ds : Array Value} (hz0 : (P.info? t).bind (·.zero) = some z) (hi : (P.info? t).map (·.size) = some cs.size) (hd : ds.size = cs.size) (hsz : z.cells.size = cs.size) (h1 : cs.all (·.oneCell') = true) (h2 : ds.all (·.oneCell') = true)
    (hS : ∀ w', Mod none_ w w' → S w') {N N' : Value → Value → World → Prop}
    (hN : ∀ b c w', w.heap.size ≤ b → w.heap.size ≤ c → w'.heap[b]? = some (.cells cs t (0, 0)) → w'.heap[c]? = some (.cells ds t (0, 0)) → Mod none_ w w' → N (.pointer (some ⟨b, 0, none⟩)) (.pointer (some ⟨c, 0, none⟩)) w' ∧ N' (.pointer (some ⟨b, 0, none⟩)) (.pointer (some ⟨c, 0, none⟩)) w') :
    (VK P (Instr.alloc t true (.tuple #[])) w fun x w => S w ∧ (VK P (Instr.alloc t true (.tuple #[])) w fun y w => S w ∧ (UK P (Instr.storeAt t x (.agg cs)) w fun _ w => S w ∧ (UK P (Instr.storeAt t y (.agg ds)) w fun _ w => S w ∧ N x y w)))) ∧
    (VK P (Instr.alloc t true (.tuple #[])) w fun y w => S w ∧ (VK P (Instr.alloc t true (.tuple #[])) w fun x w => S w ∧ (UK P (Instr.storeAt t x (.agg cs)) w fun _ w => S w ∧ (UK P (Instr.storeAt t y (.agg ds)) w fun _ w => S w ∧ N' x y w)))) := by
  constructor
  · refine al_k hz0 rfl _ fun w1 hb1 hm1 hz1 => ⟨hS _ hm1, ?_⟩
    refine al_k hz0 rfl _ fun w2 hb2 hm2 hz2 => ?_
    have hm02 := hm1.trans hm2
    have hb12 := hm2.blk hb1 id
    refine ⟨hS _ hm02, ?_⟩
    refine stS (cs := cs) rfl rfl hi hsz h1 hb12 fun w3 hb3 hm3 hz3 => ?_
    have hm03 := hm02.then hm3 fun i hi q => by omega
    have hb23 := hm3.blk hb2 (by omega)
    refine ⟨hS _ hm03, ?_⟩
    refine stS (cs := ds) rfl rfl (hd ▸ hi) (hsz.trans hd.symm) h2 hb23 fun w4 hb4 hm4 hz4 => ?_
    have hm04 := hm03.then hm4 fun i hi q => by omega
    exact ⟨hS _ hm04, (hN _ _ _ (Nat.le_refl _) (by omega) (hm4.blk hb3 (by omega)) hb4 hm04).1⟩
  · refine al_k hz0 rfl _ fun w1 hb1 hm1 hz1 => ⟨hS _ hm1, ?_⟩
    refine al_k hz0 rfl _ fun w2 hb2 hm2 hz2 => ?_
    have hm02 := hm1.trans hm2
    have hb12 := hm2.blk hb1 id
    refine ⟨hS _ hm02, ?_⟩
    refine stS (cs := cs) rfl rfl hi hsz h1 hb2 fun w3 hb3 hm3 hz3 => ?_
    have hm03 := hm02.then hm3 fun i hi q => by omega
    have hb13 := hm3.blk hb12 (by omega)
    refine ⟨hS _ hm03, ?_⟩
    refine stS (cs := ds) rfl rfl (hd ▸ hi) (hsz.trans hd.symm) h2 hb13 fun w4 hb4 hm4 hz4 => ?_
    have hm04 := hm03.then hm4 fun i hi q => by omega
    exact ⟨hS _ hm04, (hN _ _ _ (by omega) (Nat.le_refl _) (hm4.blk hb3 (by omega)) hb4 hm04).2⟩
theorem Ex.er_inj {a b : Ex} (h : a.er = b.er) : a.op = b.op ∧ a.num = b.num ∧ a.name = b.name ∧ a.args.map Ex.er = b.args.map Ex.er ∧ a.line = b.line ∧ a.col = b.col := by
  rw [Ex.er_eq, Ex.er_eq] at h
  simp only [Ex.mk.injEq] at h
  exact ⟨h.1, h.2.1, h.2.2.1, h.2.2.2.2.1, h.2.2.2.2.2.1, h.2.2.2.2.2.2⟩
theorem St.er_inj {a b : St} (h : a.er = b.er) : a.op = b.op ∧ a.kind = b.kind ∧ a.red = b.red ∧ a.name = b.name ∧ a.turns = b.turns ∧ a.exprs.map Ex.er = b.exprs.map Ex.er ∧ a.body.map St.er = b.body.map St.er ∧ a.els.map St.er = b.els.map St.er ∧ a.line = b.line ∧ a.col = b.col := by
  rw [St.er_eq, St.er_eq] at h
  simp only [St.mk.injEq] at h
  exact ⟨h.1, h.2.1, h.2.2.1, h.2.2.2.1, h.2.2.2.2.1, h.2.2.2.2.2.2.1, h.2.2.2.2.2.2.2.2.1, h.2.2.2.2.2.2.2.2.2.2.1, h.2.2.2.2.2.2.2.2.2.2.2.1, h.2.2.2.2.2.2.2.2.2.2.2.2⟩
/-- An element's place and its cells, in every world of a class. -/
theorem HixA {P : Program} {S : World → Prop} {w0 : World} {t e : TypeId} {d : TypeDesc} {sz : Nat} (hu : P.underlying t = some (.slice e)) (hc : P.cellsOf e = sz + 1) (hue : P.underlying e = some d) (hd : (match d with | .struct _ | .array _ _ => true | _ => false) = true) {v : Value} {n : Nat} {xs : List Value} (hw0 : S w0) (h : ∀ w, S w → reads w (sz + 1) v n xs)
    {i : Nat} (h1 : i < n) {K : Value → Value → Prop} (hk : ∀ x, K x (.agg ((xs.drop (i * (sz + 1))).take (sz + 1)).toArray)) : HK P S (do pure (Next.value (← Instr.indexAt t v (.int .i64 (i : Int))))) fun x => HK P S (do pure (Next.value (← Instr.loadAt e x))) (K x) := by
  obtain ⟨hlen, A, c, rfl, hnc, hA⟩ := h w0 hw0
  have hj : i * (sz + 1) < xs.length := by rw [hlen]; exact Nat.mul_lt_mul_of_pos_right h1 (by omega)
  obtain ⟨a, rfl, _⟩ := hA (i * (sz + 1)) _ (List.getElem?_eq_getElem hj)
  refine HV_of (fun w _ => run_ixa hu hc (by omega) (by omega) w) ?_
  refine HV_of (fun w hw => ?_) (hk _)
  have hx := h w hw
  obtain ⟨_, A', c', hA', _, hcell⟩ := hx
  cases hA'
  have hsz : ((xs.drop (i * (sz + 1))).take (sz + 1)).length = sz + 1 := by
    rw [List.length_take, List.length_drop, hlen]
    have : (i + 1) * (sz + 1) ≤ n * (sz + 1) := Nat.mul_le_mul_right _ h1
    rw [Nat.add_mul, Nat.one_mul] at this
    omega
  obtain ⟨z, hz, hzs⟩ := info_of hc
  refine run_ldA hue hd (by rw [hz, hsz, ← hzs]; rfl) fun j u hu' => ?_
  have hj2 : j < sz + 1 := by
    have := (List.getElem?_eq_some_iff.1 hu').1
    omega
  rw [List.getElem?_take_of_lt hj2, List.getElem?_drop] at hu'
  obtain ⟨a', ha', hcell'⟩ := hcell _ _ hu'
  cases ha'
  rw [Int.toNat_natCast, add_add]
  exact hcell'
end Go.X
namespace Go.Proofs.YtbnbcimjapiicaaDoor.Tr
open Go Go.X Go.RowKit Go.Proofs.YtbnbcimjapiicaaDoor.XC Go.Proofs.YtbnbcimjapiicaaDoor.XK
theorem HixEx {S : World → Prop} {w0 : World} {s : Value} {l : List Ex} {i : Nat} {e : Ex} {K : Value → Value → Prop} (hw0 : S w0) (h : ∀ w, S w → ExsOk w s l) (hi : l[i]? = some e) (hk : ∀ x, K x (.agg e.cells.toArray)) :
    HK Tryd.prog S (do pure (Next.value (← Instr.indexAt 58 s (.int .i64 (i : Int))))) fun x => HK Tryd.prog S (do pure (Next.value (← Instr.loadAt 60 x))) (K x) := by
  refine HixA (sz := 5) uExs cEx Tryd.underlying60 rfl hw0 (fun w hw => (h w hw).1) (List.getElem?_eq_some_iff.1 hi).1 fun x => ?_
  rw [show i * (5 + 1) = i * 6 from rfl, fl_drop (k := 6) Ex.cells_len hi]
  exact hk x
theorem HixSt {S : World → Prop} {w0 : World} {s : Value} {l : List St} {i : Nat} {e : St} {K : Value → Value → Prop} (hw0 : S w0) (h : ∀ w, S w → StsOk w s l) (hi : l[i]? = some e) (hk : ∀ x, K x (.agg e.cells.toArray)) :
    HK Tryd.prog S (do pure (Next.value (← Instr.indexAt 23 s (.int .i64 (i : Int))))) fun x => HK Tryd.prog S (do pure (Next.value (← Instr.loadAt 62 x))) (K x) := by
  refine HixA (sz := 9) uSts cSt Tryd.underlying62 rfl hw0 (fun w hw => (h w hw).1) (List.getElem?_eq_some_iff.1 hi).1 fun x => ?_
  rw [show i * (9 + 1) = i * 10 from rfl, fl_drop (k := 10) St.cells_len hi]
  exact hk x
theorem HixDe {S : World → Prop} {w0 : World} {s : Value} {l : List De} {i : Nat} {e : De} {K : Value → Value → Prop} (hw0 : S w0) (h : ∀ w, S w → DesOk w s l) (hi : l[i]? = some e) (hk : ∀ x, K x (.agg e.cells.toArray)) :
    HK Tryd.prog S (do pure (Next.value (← Instr.indexAt 22 s (.int .i64 (i : Int))))) fun x => HK Tryd.prog S (do pure (Next.value (← Instr.loadAt 40 x))) (K x) := by
  refine HixA (sz := 3) uDes cDe Tryd.underlying40 rfl hw0 (fun w hw => (h w hw).1) (List.getElem?_eq_some_iff.1 hi).1 fun x => ?_
  rw [show i * (3 + 1) = i * 4 from rfl, fl_drop (k := 4) De.cells_len hi]
  exact hk x
theorem ex_fo {w : World} {b : Nat} {e : Ex} {ty : TypeId} {fr : Nat × Nat} (hb : w.heap[b]? = some (.cells e.cells.toArray ty fr)) : FO Tryd.prog w 60 0 0 ⟨b, 0, none⟩ 5 (.int .u8 e.op) ∧ FO Tryd.prog w 60 1 1 ⟨b, 0, none⟩ 2 (.int .i64 e.num) ∧ FO Tryd.prog w 60 2 2 ⟨b, 0, none⟩ 9 (.string e.name) ∧
    FO Tryd.prog w 60 3 3 ⟨b, 0, none⟩ 58 e.s ∧ FO Tryd.prog w 60 4 4 ⟨b, 0, none⟩ 3 (.int .i64 e.line) ∧ FO Tryd.prog w 60 5 5 ⟨b, 0, none⟩ 3 (.int .i64 e.col) :=
  ⟨FO.blk hb (by kernel_rfl) uU8 rfl rfl, FO.blk hb (by kernel_rfl) uI64 rfl rfl, FO.blk hb (by kernel_rfl) uS rfl rfl, FO.blk hb (by kernel_rfl) uExs rfl rfl, FO.blk hb (by kernel_rfl) uI rfl rfl, FO.blk hb (by kernel_rfl) uI rfl rfl⟩
theorem st_fo {w : World} {b : Nat} {e : St} {ty : TypeId} {fr : Nat × Nat} (hb : w.heap[b]? = some (.cells e.cells.toArray ty fr)) : FO Tryd.prog w 62 0 0 ⟨b, 0, none⟩ 5 (.int .u8 e.op) ∧ FO Tryd.prog w 62 1 1 ⟨b, 0, none⟩ 5 (.int .u8 e.kind) ∧ FO Tryd.prog w 62 2 2 ⟨b, 0, none⟩ 5 (.int .u8 e.red) ∧
    FO Tryd.prog w 62 3 3 ⟨b, 0, none⟩ 9 (.string e.name) ∧ FO Tryd.prog w 62 4 4 ⟨b, 0, none⟩ 3 (.int .i64 e.turns) ∧ FO Tryd.prog w 62 5 5 ⟨b, 0, none⟩ 58 e.es ∧ FO Tryd.prog w 62 6 6 ⟨b, 0, none⟩ 23 e.bs ∧ FO Tryd.prog w 62 7 7 ⟨b, 0, none⟩ 23 e.ls ∧
    FO Tryd.prog w 62 8 8 ⟨b, 0, none⟩ 3 (.int .i64 e.line) ∧ FO Tryd.prog w 62 9 9 ⟨b, 0, none⟩ 3 (.int .i64 e.col) :=
  ⟨FO.blk hb (by kernel_rfl) uU8 rfl rfl, FO.blk hb (by kernel_rfl) uU8 rfl rfl, FO.blk hb (by kernel_rfl) uU8 rfl rfl, FO.blk hb (by kernel_rfl) uS rfl rfl, FO.blk hb (by kernel_rfl) uI rfl rfl, FO.blk hb (by kernel_rfl) uExs rfl rfl, FO.blk hb (by kernel_rfl) uSts rfl rfl, FO.blk hb (by kernel_rfl) uSts rfl rfl, FO.blk hb (by kernel_rfl) uI rfl rfl, FO.blk hb (by kernel_rfl) uI rfl rfl⟩
theorem de_fo {w : World} {b : Nat} {e : De} {ty : TypeId} {fr : Nat × Nat} (hb : w.heap[b]? = some (.cells e.cells.toArray ty fr)) : FO Tryd.prog w 40 0 0 ⟨b, 0, none⟩ 9 (.string e.name) ∧ FO Tryd.prog w 40 1 1 ⟨b, 0, none⟩ 3 (.int .i64 e.places) ∧ FO Tryd.prog w 40 2 2 ⟨b, 0, none⟩ 3 (.int .i64 e.line) ∧ FO Tryd.prog w 40 3 3 ⟨b, 0, none⟩ 3 (.int .i64 e.col) :=
  ⟨FO.blk hb (by kernel_rfl) uS rfl rfl, FO.blk hb (by kernel_rfl) uI rfl rfl, FO.blk hb (by kernel_rfl) uI rfl rfl, FO.blk hb (by kernel_rfl) uI rfl rfl⟩
def SameEx (l : List Ex) : Prop := ∀ (w : World) (s s' : Value) (l' : List Ex) (t : Bool), ExsOk w s l → ExsOk w s' l' → l'.map Ex.er = l.map Ex.er → Ex.szL l ≤ 1099511627776 →
  Rt Tryd.prog 63 #[s, s', .bool t] w fun v w' => v = .bool true ∧ Mod none_ w w'
theorem sameEx_row {l : List Ex} (ih : ∀ a ∈ l, SameEx a.args) : SameEx l := by
  intro w s s' l' t hok hok' her hsz
  obtain ⟨A, c, rfl, _⟩ := reads_cap hok.1
  obtain ⟨A', c', rfl, _⟩ := reads_cap hok'.1
  have hlen := Ex.len_sz l
  have hll := len_of_er her
  refine dispatcherref02_SameExprs_calls ?_
  unfold dispatcherref02_SameExprs_F
  rw [len58, len58, hll]
  refine BKneI (a := (l.length : Int)) rfl rfl (fun _ => condF ?_) (fun q => absurd rfl q)
  refine W_loop dispatcherref02_SameExprs_L0_ok (fun ρ w' => ∃ n : Nat, n ≤ l.length ∧ ρ 7 = .int .i64 n ∧ ρ 0 = .slice A l.length c ∧ ρ 1 = .slice A' l.length c' ∧ ρ 2 = .bool t ∧ Mod none_ w w') (fun ρ _ => l.length - (intOf (ρ 7)).toNat)
    ⟨0, Nat.zero_le _, rfl, rfl, by rw [← hll]; rfl, rfl, Mod.refl _ _⟩ ?_
  rintro ρ w2 ⟨n, hn, h7, h0, h1, h2, hm⟩
  rw [dispatcherref02_SameExprs_L0_eq]
  unfold dispatcherref02_SameExprs_L0_F
  rw [h0, len58, h7]
  refine BKlss (a := n) (b := l.length) rfl rfl ?_
  refine caseC (fun hlt => ?_) (fun hlt => ?_)
  · have hlt : n < l.length := by have := of_decide_eq_true hlt; omega
    have hx : l[n]? = some l[n] := List.getElem?_eq_getElem hlt
    have hlt' : n < l'.length := by omega
    have hx' : l'[n]? = some l'[n] := List.getElem?_eq_getElem hlt'
    have hmem : l[n] ∈ l := List.getElem_mem hlt
    have hsn := Ex.szL_at hx
    have hse := Ex.sz_eq l[n]
    have hee : l'[n].er = l[n].er := by
      have := congrArg (fun q => q[n]?) her
      simp only [List.getElem?_map, hx, hx', Option.map_some, Option.some.injEq] at this
      exact this
    obtain ⟨e0, e1, e2, e3, e4, e5⟩ := Ex.er_inj hee
    refine dispatcherref02_SameExprs_R2_held (D := []) (fun w' => Mod none_ w2 w') ((Mod.refl _ w2).drawn _) ?_
    unfold dispatcherref02_SameExprs_R2_H
    simp only [sq_n, sq_x, sq_r, bk_n, bk_r, bk_x, rt_r, rt_n, rs_0, rs_t, pk_1, pk_2, up_at, reduceIte, Nat.reduceEqDiff, h0, h1, h7]
    have hoks : ∀ w', Mod none_ w2 w' → ExsOk w' (.slice A l.length c) l := fun w' hw => hok.mod (hm.trans hw)
    have hoks' : ∀ w', Mod none_ w2 w' → ExsOk w' (.slice A' l.length c') l' := fun w' hw => by have := hok'.mod (hm.trans hw); rwa [hll] at this
    refine HixEx (Mod.refl _ w2) hoks hx fun x => HixEx (Mod.refl _ w2) hoks' hx' fun y => ?_
    have hm2 : Mod none_ w2 { w2 with drawn := w2.drawn + 1 } := (Mod.refl _ w2).drawn _
    refine pair_k (cs := l[n].cells.toArray) (ds := l'[n].cells.toArray) zEx iEx rfl rfl (ex_one ((hoks w2 (Mod.refl _ _)).at hx)) (ex_one ((hoks' w2 (Mod.refl _ _)).at hx')) (fun w' hw => hm2.trans hw) fun b d w3 hb hd hbb hbd hm3 => ?_
    have hm23 := hm2.trans hm3
    have fin : ∀ ρ', ρ' 8 = .pointer (some ⟨b, 0, none⟩) → ρ' 9 = .pointer (some ⟨d, 0, none⟩) → ρ' 7 = .int .i64 n → ρ' 0 = .slice A l.length c → ρ' 1 = .slice A' l.length c' → ρ' 2 = .bool t → ∀ K, (∀ ρ2 w4, ρ2 7 = .int .i64 ((n : Int) + 1) → ρ2 0 = .slice A l.length c → ρ2 1 = .slice A' l.length c' → ρ2 2 = .bool t → Mod none_ w w4 → K Exit.normal ρ2 w4) →
        sx fn_ Tryd.prog 72 dispatcherref02_SameExprs_R3 (blkK 1 (seqK (sx fn_ Tryd.prog 72 dispatcherref02_SameExprs_R4 K) K)) ρ' w3 := by
      intro ρ' q8 q9 q7 q0 q1 q2 K hK
      rw [dispatcherref02_SameExprs_R3_eq]
      unfold dispatcherref02_SameExprs_R3_F
      have a3 := (Ex.Ok.args ((hoks w2 (Mod.refl _ _)).at hx)).mod hm23
      have b3 := (Ex.Ok.args ((hoks' w2 (Mod.refl _ _)).at hx')).mod hm23
      obtain ⟨p0, p1, p2, p3, p4, p5⟩ := ex_fo hbb
      obtain ⟨r0, r1, r2, r3, r4', r5⟩ := ex_fo hbd
      rw [q8, q9, q2]
      simp only [↓VG_u, ↓UG_u, ↓MG_u, ↓NG_u, ↓PG_u, ↓BG_u, ↓CG_u, ↓IG_u, ↓VGtt, ↓VGtf, ↓VGft, ↓VGff, ↓UGtt, ↓UGtf, ↓UGft, ↓UGff, ↓MGtt, ↓MGtf, ↓MGft, ↓MGff, ↓NGtt, ↓NGtf, ↓NGft, ↓NGff, ↓PGtt, ↓PGtf, ↓PGft, ↓PGff, ↓BGtt, ↓BGtf, ↓BGft, ↓BGff, ↓CGtt, ↓CGtf, ↓CGft, ↓CGff, ↓IGtt, ↓IGtf, ↓IGft, ↓IGff, ↓PKt, ↓PKf, ↓CDt, ↓CDf, ↓NOTt, ↓NOTf, ↓NK_ptr, ↓p0.e, ↓r0.e, ↓p1.e, ↓r1.e, ↓p2.e, ↓r2.e, ↓p3.e, ↓r3.e, ↓NEf e0.symm, ↓NEf e1.symm, ↓SNEf e2.symm]
      refine CK_st Tryd.func63 rfl rfl (ih _ hmem w3 _ _ _ t a3 b3 e3 (by omega)) ?_
      rintro _ w4 ⟨rfl, hm4⟩
      have hbb4 := hm4.blk hbb id
      have hbd4 := hm4.blk hbd id
      have r4 : ∀ ρ3, ρ3 7 = .int .i64 n → ρ3 0 = .slice A l.length c → ρ3 1 = .slice A' l.length c' → ρ3 2 = .bool t → sx fn_ Tryd.prog 72 dispatcherref02_SameExprs_R4 K ρ3 w4 := by
        intro ρ3 p7 p0 p1 p2
        rw [dispatcherref02_SameExprs_R4_eq]
        unfold dispatcherref02_SameExprs_R4_F
        refine BKadd (a := n) (b := 1) p7 rfl (by omega) (by omega) ?_
        exact hK _ _ rfl p0 p1 p2 ((hm.trans hm23).trans hm4)
      obtain ⟨p0, p1, p2, p3, p4, p5⟩ := ex_fo hbb4
      obtain ⟨r0, r1, r2, r3, r4', r5⟩ := ex_fo hbd4
      cases t with
      | false =>
        simp only [↓VG_u, ↓UG_u, ↓MG_u, ↓NG_u, ↓PG_u, ↓BG_u, ↓CG_u, ↓IG_u, ↓VGtt, ↓VGtf, ↓VGft, ↓VGff, ↓UGtt, ↓UGtf, ↓UGft, ↓UGff, ↓MGtt, ↓MGtf, ↓MGft, ↓MGff, ↓NGtt, ↓NGtf, ↓NGft, ↓NGff, ↓PGtt, ↓PGtf, ↓PGft, ↓PGff, ↓BGtt, ↓BGtf, ↓BGft, ↓BGff, ↓CGtt, ↓CGtf, ↓CGft, ↓CGff, ↓IGtt, ↓IGtf, ↓IGft, ↓IGff, ↓PKt, ↓PKf, ↓CDt, ↓CDf, ↓NOTt, ↓NOTf, ↓NK_ptr]
        rw [bk_n, sq_n]
        refine r4 _ ?_ ?_ ?_ ?_
        · exact q7
        · exact q0
        · exact q1
        · exact q2
      | true =>
        simp only [↓VG_u, ↓UG_u, ↓MG_u, ↓NG_u, ↓PG_u, ↓BG_u, ↓CG_u, ↓IG_u, ↓VGtt, ↓VGtf, ↓VGft, ↓VGff, ↓UGtt, ↓UGtf, ↓UGft, ↓UGff, ↓MGtt, ↓MGtf, ↓MGft, ↓MGff, ↓NGtt, ↓NGtf, ↓NGft, ↓NGff, ↓PGtt, ↓PGtf, ↓PGft, ↓PGff, ↓BGtt, ↓BGtf, ↓BGft, ↓BGff, ↓CGtt, ↓CGtf, ↓CGft, ↓CGff, ↓IGtt, ↓IGtf, ↓IGft, ↓IGff, ↓PKt, ↓PKf, ↓CDt, ↓CDf, ↓NOTt, ↓NOTf, ↓NK_ptr, ↓p4.e, ↓p5.e, ↓r4'.e, ↓r5.e, ↓NEf e4.symm, ↓NEf e5.symm]
        rw [bk_n, sq_n]
        refine r4 _ ?_ ?_ ?_ ?_
        · exact q7
        · exact q0
        · exact q1
        · exact q2
    have done : ∀ (ρ2 : Sl) (w4 : World), ρ2 7 = .int .i64 ((n : Int) + 1) → ρ2 0 = .slice A l.length c → ρ2 1 = .slice A' l.length c' → ρ2 2 = .bool t → Mod none_ w w4 → (∃ m : Nat, m ≤ l.length ∧ ρ2 7 = .int .i64 m ∧ ρ2 0 = .slice A l.length c ∧ ρ2 1 = .slice A' l.length c' ∧ ρ2 2 = .bool t ∧ Mod none_ w w4) ∧ l.length - (intOf (ρ2 7)).toNat < l.length - (intOf (ρ 7)).toNat := by
      intro ρ2 w4 p7 p0 p1 p2 hw
      refine ⟨⟨n + 1, hlt, p7, p0, p1, p2, hw⟩, ?_⟩
      rw [p7, h7]; simp only [intOf]; omega
    rw [h7] at done
    constructor
    · refine fin _ rfl rfl ?_ ?_ ?_ ?_ _ done
      · exact h7
      · exact h0
      · exact h1
      · exact h2
    · refine fin _ rfl rfl ?_ ?_ ?_ ?_ _ done
      · exact h7
      · exact h0
      · exact h1
      · exact h2
  · obtain rfl : n = l.length := by have := of_decide_eq_false hlt; omega
    rw [sq_x, bk_x, sq_n, dispatcherref02_SameExprs_R1_eq]
    unfold dispatcherref02_SameExprs_R1_F
    exact ⟨rfl, hm⟩
theorem sameEx_all : ∀ e : Ex, SameEx e.args := by
  intro e
  induction e using Ex.ind with
  | h e ih => exact sameEx_row ih
theorem SameExprs_ok (l : List Ex) : SameEx l := sameEx_row fun a _ => sameEx_all a
def SameSt (l : List St) : Prop := ∀ (w : World) (s s' : Value) (l' : List St) (t : Bool), StsOk w s l → StsOk w s' l' → l'.map St.er = l.map St.er → St.szL l ≤ 1099511627776 →
  Rt Tryd.prog 39 #[s, s', .bool t] w fun v w' => v = .bool true ∧ Mod none_ w w'
theorem sameSt_row {l : List St} (ih : ∀ a ∈ l, SameSt a.body ∧ SameSt a.els) : SameSt l := by
  intro w s s' l' t hok hok' her hsz
  obtain ⟨A, c, rfl, _⟩ := reads_cap hok.1
  obtain ⟨A', c', rfl, _⟩ := reads_cap hok'.1
  have hlen := St.len_sz l
  have hll := len_of_erS her
  refine dispatcherref02_SameStmts_calls ?_
  unfold dispatcherref02_SameStmts_F
  rw [len23, len23, hll]
  refine BKneI (a := (l.length : Int)) rfl rfl (fun _ => condF ?_) (fun q => absurd rfl q)
  refine W_loop dispatcherref02_SameStmts_L0_ok (fun ρ w' => ∃ n : Nat, n ≤ l.length ∧ ρ 7 = .int .i64 n ∧ ρ 0 = .slice A l.length c ∧ ρ 1 = .slice A' l.length c' ∧ ρ 2 = .bool t ∧ Mod none_ w w') (fun ρ _ => l.length - (intOf (ρ 7)).toNat)
    ⟨0, Nat.zero_le _, rfl, rfl, by rw [← hll]; rfl, rfl, Mod.refl _ _⟩ ?_
  rintro ρ w2 ⟨n, hn, h7, h0, h1, h2, hm⟩
  rw [dispatcherref02_SameStmts_L0_eq]
  unfold dispatcherref02_SameStmts_L0_F
  rw [h0, len23, h7]
  refine BKlss (a := n) (b := l.length) rfl rfl ?_
  refine caseC (fun hlt => ?_) (fun hlt => ?_)
  · have hlt : n < l.length := by have := of_decide_eq_true hlt; omega
    have hx : l[n]? = some l[n] := List.getElem?_eq_getElem hlt
    have hlt' : n < l'.length := by omega
    have hx' : l'[n]? = some l'[n] := List.getElem?_eq_getElem hlt'
    have hmem : l[n] ∈ l := List.getElem_mem hlt
    have hsn := St.szL_at hx
    have hse := St.sz_eq l[n]
    have hee : l'[n].er = l[n].er := by
      have := congrArg (fun q => q[n]?) her
      simp only [List.getElem?_map, hx, hx', Option.map_some, Option.some.injEq] at this
      exact this
    obtain ⟨e0, e1, e2, e3, e4, e5, e6, e7, e8, e9⟩ := St.er_inj hee
    refine dispatcherref02_SameStmts_R2_held (D := []) (fun w' => Mod none_ w2 w') ((Mod.refl _ w2).drawn _) ?_
    unfold dispatcherref02_SameStmts_R2_H
    simp only [sq_n, sq_x, sq_r, bk_n, bk_r, bk_x, rt_r, rt_n, rs_0, rs_t, pk_1, pk_2, up_at, reduceIte, Nat.reduceEqDiff, h0, h1, h7]
    have hoks : ∀ w', Mod none_ w2 w' → StsOk w' (.slice A l.length c) l := fun w' hw => hok.mod (hm.trans hw)
    have hoks' : ∀ w', Mod none_ w2 w' → StsOk w' (.slice A' l.length c') l' := fun w' hw => by have := hok'.mod (hm.trans hw); rwa [hll] at this
    refine HixSt (Mod.refl _ w2) hoks hx fun x => HixSt (Mod.refl _ w2) hoks' hx' fun y => ?_
    have hm2 : Mod none_ w2 { w2 with drawn := w2.drawn + 1 } := (Mod.refl _ w2).drawn _
    refine pair_k (cs := l[n].cells.toArray) (ds := l'[n].cells.toArray) zSt iSt rfl rfl (st_one ((hoks w2 (Mod.refl _ _)).at hx)) (st_one ((hoks' w2 (Mod.refl _ _)).at hx')) (fun w' hw => hm2.trans hw) fun b d w3 hb hd hbb hbd hm3 => ?_
    have hm23 := hm2.trans hm3
    have fin : ∀ ρ', ρ' 8 = .pointer (some ⟨b, 0, none⟩) → ρ' 9 = .pointer (some ⟨d, 0, none⟩) → ρ' 7 = .int .i64 n → ρ' 0 = .slice A l.length c → ρ' 1 = .slice A' l.length c' → ρ' 2 = .bool t → ∀ K, (∀ ρ2 w4, ρ2 7 = .int .i64 ((n : Int) + 1) → ρ2 0 = .slice A l.length c → ρ2 1 = .slice A' l.length c' → ρ2 2 = .bool t → Mod none_ w w4 → K Exit.normal ρ2 w4) →
        sx fn_ Tryd.prog 102 dispatcherref02_SameStmts_R3 (blkK 1 (seqK (sx fn_ Tryd.prog 102 dispatcherref02_SameStmts_R4 K) K)) ρ' w3 := by
      intro ρ' q8 q9 q7 q0 q1 q2 K hK
      rw [dispatcherref02_SameStmts_R3_eq]
      unfold dispatcherref02_SameStmts_R3_F
      have oa := (hoks w2 (Mod.refl _ _)).at hx
      have ob := (hoks' w2 (Mod.refl _ _)).at hx'
      rw [q8, q9, q2]
      have r4 : ∀ ρ3 w5, Mod none_ w3 w5 → ρ3 7 = .int .i64 n → ρ3 0 = .slice A l.length c → ρ3 1 = .slice A' l.length c' → ρ3 2 = .bool t → sx fn_ Tryd.prog 102 dispatcherref02_SameStmts_R4 K ρ3 w5 := by
        intro ρ3 w5 hm5 p7 p0 p1 p2
        rw [dispatcherref02_SameStmts_R4_eq]
        unfold dispatcherref02_SameStmts_R4_F
        refine BKadd (a := n) (b := 1) p7 rfl (by omega) (by omega) ?_
        exact hK _ _ rfl p0 p1 p2 ((hm.trans hm23).trans hm5)
      obtain ⟨ihB, ihE⟩ := ih _ hmem
      obtain ⟨p0, p1, p2, p3, p4, p5, p6, p7, p8, p9⟩ := st_fo hbb
      obtain ⟨r0, r1, r2, r3, r4', r5, r6, r7, r8, r9⟩ := st_fo hbd
      cases t with
      | false =>
        simp only [↓VG_u, ↓UG_u, ↓MG_u, ↓NG_u, ↓PG_u, ↓BG_u, ↓CG_u, ↓IG_u, ↓VGtt, ↓VGtf, ↓VGft, ↓VGff, ↓UGtt, ↓UGtf, ↓UGft, ↓UGff, ↓MGtt, ↓MGtf, ↓MGft, ↓MGff, ↓NGtt, ↓NGtf, ↓NGft, ↓NGff, ↓PGtt, ↓PGtf, ↓PGft, ↓PGff, ↓BGtt, ↓BGtf, ↓BGft, ↓BGff, ↓CGtt, ↓CGtf, ↓CGft, ↓CGff, ↓IGtt, ↓IGtf, ↓IGft, ↓IGff, ↓PKt, ↓PKf, ↓CDt, ↓CDf, ↓NOTt, ↓NOTf, ↓NK_ptr, ↓p0.e, ↓r0.e, ↓p1.e, ↓r1.e, ↓p2.e, ↓r2.e, ↓p3.e, ↓r3.e, ↓p4.e, ↓r4'.e, ↓p5.e, ↓r5.e, ↓p8.e, ↓p9.e, ↓r8.e, ↓r9.e, ↓NEf e0.symm, ↓NEf e1.symm, ↓NEf e2.symm, ↓SNEf e3.symm, ↓NEf e4.symm, ↓NEf e8.symm, ↓NEf e9.symm]
        refine CK_st Tryd.func63 rfl rfl (SameExprs_ok _ w3 _ _ _ _ (oa.exprs.mod hm23) (ob.exprs.mod hm23) e5 (by omega)) ?_
        rintro _ w4 ⟨rfl, hm4⟩
        obtain ⟨_, _, _, _, _, _, p6, _⟩ := st_fo (hm4.blk hbb id)
        obtain ⟨_, _, _, _, _, _, r6, _⟩ := st_fo (hm4.blk hbd id)
        simp only [↓VG_u, ↓UG_u, ↓MG_u, ↓NG_u, ↓PG_u, ↓BG_u, ↓CG_u, ↓IG_u, ↓VGtt, ↓VGtf, ↓VGft, ↓VGff, ↓UGtt, ↓UGtf, ↓UGft, ↓UGff, ↓MGtt, ↓MGtf, ↓MGft, ↓MGff, ↓NGtt, ↓NGtf, ↓NGft, ↓NGff, ↓PGtt, ↓PGtf, ↓PGft, ↓PGff, ↓BGtt, ↓BGtf, ↓BGft, ↓BGff, ↓CGtt, ↓CGtf, ↓CGft, ↓CGff, ↓IGtt, ↓IGtf, ↓IGft, ↓IGff, ↓PKt, ↓PKf, ↓CDt, ↓CDf, ↓NOTt, ↓NOTf, ↓NK_ptr, ↓p6.e, ↓r6.e]
        refine CK_st Tryd.func39 rfl rfl (ihB w4 _ _ _ _ (oa.body.mod (hm23.trans hm4)) (ob.body.mod (hm23.trans hm4)) e6 (by omega)) ?_
        rintro _ w5 ⟨rfl, hm5⟩
        have hm35 := hm4.trans hm5
        obtain ⟨_, _, _, _, _, _, _, p7, _⟩ := st_fo (hm35.blk hbb id)
        obtain ⟨_, _, _, _, _, _, _, r7, _⟩ := st_fo (hm35.blk hbd id)
        simp only [↓VG_u, ↓UG_u, ↓MG_u, ↓NG_u, ↓PG_u, ↓BG_u, ↓CG_u, ↓IG_u, ↓VGtt, ↓VGtf, ↓VGft, ↓VGff, ↓UGtt, ↓UGtf, ↓UGft, ↓UGff, ↓MGtt, ↓MGtf, ↓MGft, ↓MGff, ↓NGtt, ↓NGtf, ↓NGft, ↓NGff, ↓PGtt, ↓PGtf, ↓PGft, ↓PGff, ↓BGtt, ↓BGtf, ↓BGft, ↓BGff, ↓CGtt, ↓CGtf, ↓CGft, ↓CGff, ↓IGtt, ↓IGtf, ↓IGft, ↓IGff, ↓PKt, ↓PKf, ↓CDt, ↓CDf, ↓NOTt, ↓NOTf, ↓NK_ptr, ↓p7.e, ↓r7.e]
        refine CK_st Tryd.func39 rfl rfl (ihE w5 _ _ _ _ (oa.els.mod (hm23.trans hm35)) (ob.els.mod (hm23.trans hm35)) e7 (by omega)) ?_
        rintro _ w6 ⟨rfl, hm6⟩
        simp only [↓VG_u, ↓UG_u, ↓MG_u, ↓NG_u, ↓PG_u, ↓BG_u, ↓CG_u, ↓IG_u, ↓VGtt, ↓VGtf, ↓VGft, ↓VGff, ↓UGtt, ↓UGtf, ↓UGft, ↓UGff, ↓MGtt, ↓MGtf, ↓MGft, ↓MGff, ↓NGtt, ↓NGtf, ↓NGft, ↓NGff, ↓PGtt, ↓PGtf, ↓PGft, ↓PGff, ↓BGtt, ↓BGtf, ↓BGft, ↓BGff, ↓CGtt, ↓CGtf, ↓CGft, ↓CGff, ↓IGtt, ↓IGtf, ↓IGft, ↓IGff, ↓PKt, ↓PKf, ↓CDt, ↓CDf, ↓NOTt, ↓NOTf, ↓NK_ptr]
        rw [bk_n, sq_n]
        refine r4 _ _ (hm35.trans hm6) ?_ ?_ ?_ ?_
        · exact q7
        · exact q0
        · exact q1
        · exact q2
      | true =>
        simp only [↓VG_u, ↓UG_u, ↓MG_u, ↓NG_u, ↓PG_u, ↓BG_u, ↓CG_u, ↓IG_u, ↓VGtt, ↓VGtf, ↓VGft, ↓VGff, ↓UGtt, ↓UGtf, ↓UGft, ↓UGff, ↓MGtt, ↓MGtf, ↓MGft, ↓MGff, ↓NGtt, ↓NGtf, ↓NGft, ↓NGff, ↓PGtt, ↓PGtf, ↓PGft, ↓PGff, ↓BGtt, ↓BGtf, ↓BGft, ↓BGff, ↓CGtt, ↓CGtf, ↓CGft, ↓CGff, ↓IGtt, ↓IGtf, ↓IGft, ↓IGff, ↓PKt, ↓PKf, ↓CDt, ↓CDf, ↓NOTt, ↓NOTf, ↓NK_ptr, ↓p0.e, ↓r0.e, ↓p1.e, ↓r1.e, ↓p2.e, ↓r2.e, ↓p3.e, ↓r3.e, ↓p4.e, ↓r4'.e, ↓p5.e, ↓r5.e, ↓p8.e, ↓p9.e, ↓r8.e, ↓r9.e, ↓NEf e0.symm, ↓NEf e1.symm, ↓NEf e2.symm, ↓SNEf e3.symm, ↓NEf e4.symm, ↓NEf e8.symm, ↓NEf e9.symm]
        refine CK_st Tryd.func63 rfl rfl (SameExprs_ok _ w3 _ _ _ _ (oa.exprs.mod hm23) (ob.exprs.mod hm23) e5 (by omega)) ?_
        rintro _ w4 ⟨rfl, hm4⟩
        obtain ⟨_, _, _, _, _, _, p6, _⟩ := st_fo (hm4.blk hbb id)
        obtain ⟨_, _, _, _, _, _, r6, _⟩ := st_fo (hm4.blk hbd id)
        simp only [↓VG_u, ↓UG_u, ↓MG_u, ↓NG_u, ↓PG_u, ↓BG_u, ↓CG_u, ↓IG_u, ↓VGtt, ↓VGtf, ↓VGft, ↓VGff, ↓UGtt, ↓UGtf, ↓UGft, ↓UGff, ↓MGtt, ↓MGtf, ↓MGft, ↓MGff, ↓NGtt, ↓NGtf, ↓NGft, ↓NGff, ↓PGtt, ↓PGtf, ↓PGft, ↓PGff, ↓BGtt, ↓BGtf, ↓BGft, ↓BGff, ↓CGtt, ↓CGtf, ↓CGft, ↓CGff, ↓IGtt, ↓IGtf, ↓IGft, ↓IGff, ↓PKt, ↓PKf, ↓CDt, ↓CDf, ↓NOTt, ↓NOTf, ↓NK_ptr, ↓p6.e, ↓r6.e]
        refine CK_st Tryd.func39 rfl rfl (ihB w4 _ _ _ _ (oa.body.mod (hm23.trans hm4)) (ob.body.mod (hm23.trans hm4)) e6 (by omega)) ?_
        rintro _ w5 ⟨rfl, hm5⟩
        have hm35 := hm4.trans hm5
        obtain ⟨_, _, _, _, _, _, _, p7, _⟩ := st_fo (hm35.blk hbb id)
        obtain ⟨_, _, _, _, _, _, _, r7, _⟩ := st_fo (hm35.blk hbd id)
        simp only [↓VG_u, ↓UG_u, ↓MG_u, ↓NG_u, ↓PG_u, ↓BG_u, ↓CG_u, ↓IG_u, ↓VGtt, ↓VGtf, ↓VGft, ↓VGff, ↓UGtt, ↓UGtf, ↓UGft, ↓UGff, ↓MGtt, ↓MGtf, ↓MGft, ↓MGff, ↓NGtt, ↓NGtf, ↓NGft, ↓NGff, ↓PGtt, ↓PGtf, ↓PGft, ↓PGff, ↓BGtt, ↓BGtf, ↓BGft, ↓BGff, ↓CGtt, ↓CGtf, ↓CGft, ↓CGff, ↓IGtt, ↓IGtf, ↓IGft, ↓IGff, ↓PKt, ↓PKf, ↓CDt, ↓CDf, ↓NOTt, ↓NOTf, ↓NK_ptr, ↓p7.e, ↓r7.e]
        refine CK_st Tryd.func39 rfl rfl (ihE w5 _ _ _ _ (oa.els.mod (hm23.trans hm35)) (ob.els.mod (hm23.trans hm35)) e7 (by omega)) ?_
        rintro _ w6 ⟨rfl, hm6⟩
        simp only [↓VG_u, ↓UG_u, ↓MG_u, ↓NG_u, ↓PG_u, ↓BG_u, ↓CG_u, ↓IG_u, ↓VGtt, ↓VGtf, ↓VGft, ↓VGff, ↓UGtt, ↓UGtf, ↓UGft, ↓UGff, ↓MGtt, ↓MGtf, ↓MGft, ↓MGff, ↓NGtt, ↓NGtf, ↓NGft, ↓NGff, ↓PGtt, ↓PGtf, ↓PGft, ↓PGff, ↓BGtt, ↓BGtf, ↓BGft, ↓BGff, ↓CGtt, ↓CGtf, ↓CGft, ↓CGff, ↓IGtt, ↓IGtf, ↓IGft, ↓IGff, ↓PKt, ↓PKf, ↓CDt, ↓CDf, ↓NOTt, ↓NOTf, ↓NK_ptr]
        rw [bk_n, sq_n]
        refine r4 _ _ (hm35.trans hm6) ?_ ?_ ?_ ?_
        · exact q7
        · exact q0
        · exact q1
        · exact q2
    have done : ∀ (ρ2 : Sl) (w4 : World), ρ2 7 = .int .i64 ((n : Int) + 1) → ρ2 0 = .slice A l.length c → ρ2 1 = .slice A' l.length c' → ρ2 2 = .bool t → Mod none_ w w4 → (∃ m : Nat, m ≤ l.length ∧ ρ2 7 = .int .i64 m ∧ ρ2 0 = .slice A l.length c ∧ ρ2 1 = .slice A' l.length c' ∧ ρ2 2 = .bool t ∧ Mod none_ w w4) ∧ l.length - (intOf (ρ2 7)).toNat < l.length - (intOf (ρ 7)).toNat := by
      intro ρ2 w4 p7 p0 p1 p2 hw
      refine ⟨⟨n + 1, hlt, p7, p0, p1, p2, hw⟩, ?_⟩
      rw [p7, h7]; simp only [intOf]; omega
    rw [h7] at done
    constructor
    · refine fin _ rfl rfl ?_ ?_ ?_ ?_ _ done
      · exact h7
      · exact h0
      · exact h1
      · exact h2
    · refine fin _ rfl rfl ?_ ?_ ?_ ?_ _ done
      · exact h7
      · exact h0
      · exact h1
      · exact h2
  · obtain rfl : n = l.length := by have := of_decide_eq_false hlt; omega
    rw [sq_x, bk_x, sq_n, dispatcherref02_SameStmts_R1_eq]
    unfold dispatcherref02_SameStmts_R1_F
    exact ⟨rfl, hm⟩
theorem sameSt_all : ∀ e : St, SameSt e.body ∧ SameSt e.els := by
  intro e
  induction e using St.ind with
  | h e ih1 ih2 => exact ⟨sameSt_row ih1, sameSt_row ih2⟩
theorem SameStmts_ok (l : List St) : SameSt l := sameSt_row fun a _ => sameSt_all a
end Go.Proofs.YtbnbcimjapiicaaDoor.Tr
