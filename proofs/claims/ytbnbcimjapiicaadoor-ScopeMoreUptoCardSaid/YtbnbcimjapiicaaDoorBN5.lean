/- Several texts of this repo, one behind the other, without what is not used here. -/
import Derived.Lib.SliceRun
import Derived.Test.YtbnbcimjapiicaaDoorProg
import Derived.WideShapes
import Derived.Test.YtbnbcimjapiicaaDoorRows
import Derived.Test.YtbnbcimjapiicaaDoorBN4
set_option linter.unusedVariables false
set_option linter.unusedSimpArgs false
set_option maxRecDepth 4000
namespace Go.Proofs.YtbnbcimjapiicaaDoor.Tr
open Go Go.X Go.RowKit Go.Proofs.YtbnbcimjapiicaaDoor.XG Go.Proofs.YtbnbcimjapiicaaDoor.XK
def encK (k : Key) : Value := .string ⟨k.toArray⟩
theorem encK_of (b : ByteArray) : encK b.data.toList = .string b := by unfold encK; simp
theorem beqB (a b : Key) : ((⟨a.toArray⟩ : ByteArray) == ⟨b.toArray⟩) = decide (a = b) := by
  show ((a.toArray : Array UInt8) == b.toArray) = decide (a = b)
  by_cases h : a = b
  · subst h; simp
  · rw [decide_eq_false h]
    apply Bool.eq_false_iff.2
    intro q
    apply h
    have := eq_of_beq q
    simpa using this
theorem chkS (e : Bool) (n : Nat) (k : ByteArray) (w : World) : (Instr.checkKey e (n + 1) 9 (.string k)).run Tryd.prog w = .ok () w := by
  simp [Instr.checkKey, Sem.run_bind, run_underlying uSt]
theorem KT : KeyT Tryd.prog 9 encK where
  find := fun k l w => by
    have gen : ∀ (l : List (Ent Key)) (i : Nat), Instr.findNow .string (encK k) (l.map (Ent.enc encK)) i = some (findE k l i) := by
      intro l
      induction l with
      | nil => intro i; rfl
      | cons e r ih =>
        intro i
        simp only [List.map_cons, Instr.findNow, Ent.enc, encK, Instr.sameNow, beqB, findE]
        by_cases h : k = e.k
        · simp [h]
        · simp only [h, decide_false, if_false]
          exact ih (i + 1)
    unfold Instr.findKey
    rw [Sem.run_bind, run_underlying uSt]
    simp only [Result.andThen_ok, gen]
    rfl
  check := fun e k w => chkS e 9999 _ w
  bits := fun k => by
    show Instr.sameBits (9999 + 1) _ _ = true
    simp [encK, Instr.sameBits]
    show ((k.toArray : Array UInt8) == k.toArray) = true
    simp
  inj := fun a b h => by simpa [encK] using h
/-- What a map tells of a key. -/
def valE (k : Key) (l : List (Ent Key)) : Value := match findE k l 0 with | some (_, v) => v | none => zEn.v
theorem uMap : Tryd.prog.underlying 69 = some (.map 9 37) := by kernel_rfl
theorem look_ok {w : World} {K : Value → World → Prop} {b : Nat} {l : List (Ent Key)} {c : Nat} (h : IsMap encK w b l c) (k : ByteArray) (hk : K (valE k.data.toList l) w) : VK Tryd.prog (Instr.lookup 69 (.map (some b)) (.string k) false) w K := by
  have hr := run_look KT uMap h zEnt k.data.toList false
  rw [encK_of] at hr
  refine VK_of hr ?_
  unfold valE at hk
  cases hf : findE k.data.toList l 0 with
  | none => rw [hf] at hk; exact hk
  | some p => obtain ⟨i, v⟩ := p; rw [hf] at hk; exact hk
/-- A table in memory: of these declarations, all well. -/
structure TbAt (w : World) (base t : Nat) (ds : List De) : Prop where
  at' : ∃ nv av m l c, w.heap[t]? = some (.cells #[nv, .map (some m), .int .i64 (vars ds), av, .int .i64 (cellsP ds)] 71 (0, 0)) ∧
    IsMap encK w m l c ∧ (∀ k, valE k l = (findP ds k).v) ∧ base ≤ t ∧ base ≤ m ∧
    w.ownsRow base 9 1 nv ds.length (ds.map fun d => .string d.name) ∧ w.ownsRow base 3 1 av (arrs ds).length ((arrs ds).map (.int .i64))
end Go.Proofs.YtbnbcimjapiicaaDoor.Tr
set_option linter.unusedVariables false
set_option linter.unusedSimpArgs false
set_option maxRecDepth 4000
namespace Go.Proofs.YtbnbcimjapiicaaDoor.Tr
open Go Go.X Go.RowKit Go.Proofs.YtbnbcimjapiicaaDoor.XG Go.Proofs.YtbnbcimjapiicaaDoor.XK
theorem TbAt.mod {w w' : World} {base t : Nat} {ds : List De} (h : TbAt w base t ds) (hm : Mod none_ w w') : TbAt w' base t ds := by
  obtain ⟨nv, av, m, l, c, h1, h2, h3, h4, h5, h6, h7⟩ := h.at'
  exact ⟨⟨nv, av, m, l, c, hm.blk h1 id, h2.mod hm id, h3, h4, h5, owns_mod h6 hm (fun _ _ => id), owns_mod h7 hm (fun _ _ => id)⟩⟩
abbrev pt (b : Nat) : Value := .pointer (some ⟨b, 0, none⟩)
/-- Where the closures' variables lie. -/
structure Cx where
  w0 : World
  base : Nat
  t : Nat
  x2 : Nat
  x5 : Nat
  x6 : Nat
  x7 : Nat
  x8 : Nat
  ds : List De
structure Clo (C : Cx) (r : Wr) (w : World) : Prop where
  m : Mod none_ C.w0 w
  tb : TbAt C.w0 C.base C.t C.ds
  b2 : w.heap[C.x2]? = some (.cells #[pt C.t] 32 (0, 0))
  b5 : w.heap[C.x5]? = some (.cells r.cells.toArray 30 (0, 0))
  b6 : w.heap[C.x6]? = some (.cells #[.func (.func 60) #[] #[pt C.x2, pt C.x5]] 89 (0, 0))
  b7 : w.heap[C.x7]? = some (.cells #[.func (.func 61) #[] #[pt C.x6, pt C.x7]] 90 (0, 0))
  b8 : w.heap[C.x8]? = some (.cells #[.func (.func 62) #[] #[pt C.x6, pt C.x7, pt C.x8]] 64 (0, 0))
  d : C.x2 ≠ C.x5 ∧ C.x6 ≠ C.x5 ∧ C.x7 ≠ C.x5 ∧ C.x8 ≠ C.x5 ∧ C.w0.heap.size ≤ C.x5
theorem Clo.step {C : Cx} {r : Wr} {w w' : World} (h : Clo C r w) (hm : Mod none_ w w') : Clo C r w' :=
  ⟨h.m.trans hm, h.tb, hm.blk h.b2 id, hm.blk h.b5 id, hm.blk h.b6 id, hm.blk h.b7 id, hm.blk h.b8 id, h.d⟩
theorem Clo.put {C : Cx} {r r' : Wr} {w w' : World} (h : Clo C r w) (hm : Mod (fun i => i = C.x5) w w') (hb : w'.heap[C.x5]? = some (.cells r'.cells.toArray 30 (0, 0))) : Clo C r' w' :=
  ⟨h.m.then hm (fun i hi q => by have := h.d.2.2.2.2; omega), h.tb, hm.blk h.b2 h.d.1, hb, hm.blk h.b6 h.d.2.1, hm.blk h.b7 h.d.2.2.1, hm.blk h.b8 h.d.2.2.2.1, h.d⟩
theorem uMp : Tryd.prog.underlying 69 = some (.map 9 37) := by kernel_rfl
theorem must_ok {C : Cx} {w : World} (h : Clo C zWr w) (k : ByteArray) (kd l c : Int) :
    Rt Tryd.prog 60 #[.string k, .int .u8 kd, .int .i64 l, .int .i64 c, pt C.x2, pt C.x5] w fun v w' => v = .bool (decide (kindP C.ds k.data.toList = kd)) ∧ Clo C (if kindP C.ds k.data.toList = kd then zWr else ⟨40, l, c⟩) w' ∧ Mod (fun i => i = C.x5) w w' := by
  obtain ⟨nv, av, m, es, ck, h1, h2, h3, h4, h5, h6, h7⟩ := (h.tb.mod h.m).at'
  refine scope_Table_look_1_calls ?_
  unfold scope_Table_look_1_F
  refine ldOne rfl Tryd.underlying32 rfl h.b2 ?_
  rw [NK_ptr]
  have f1 : FAt Tryd.prog w 71 1 ⟨C.t, 0, none⟩ 69 (.map (some m)) := FAt.mk' (off := 1) (by kernel_rfl) uMp rfl (by rw [add_pl, cell_blk h1]; rfl)
  refine f1.vk' fun x13 => ?_
  refine look_ok h2 k ?_
  rw [h3, fldK]
  have fin : ∀ (ρ' : Sl) (w' : World) (r : Wr), Clo C r w' → Mod (fun i => i = C.x5) w w' → ρ' 5 = pt C.x5 → (r = if kindP C.ds k.data.toList = kd then zWr else ⟨40, l, c⟩) →
      sx fn_ Tryd.prog 26 scope_Table_look_1_R0 (retK Tryd.prog [ResultVar.tmp 10] fun v w' => v = .bool (decide (kindP C.ds k.data.toList = kd)) ∧ Clo C (if kindP C.ds k.data.toList = kd then zWr else ⟨40, l, c⟩) w' ∧ Mod (fun i => i = C.x5) w w') ρ' w' := by
    intro ρ' w' r hc hmm q5 hr
    have g0 : FAt Tryd.prog w' 30 0 ⟨C.x5, 0, none⟩ 28 (.int .i64 r.err) := FAt.mk' (off := 0) (by kernel_rfl) uErrI rfl (by rw [add_pl, cell_blk hc.b5]; rfl)
    rw [scope_Table_look_1_R0_eq]
    unfold scope_Table_look_1_R0_F
    rw [q5]
    refine g0.vk' fun x23 => ?_
    rw [BK_eql]
    refine ⟨?_, hr ▸ hc, hmm⟩
    show Value.bool _ = _
    rw [hr]
    by_cases q : kindP C.ds k.data.toList = kd <;> simp [q, zWr]
  refine BKneI (a := kindP C.ds k.data.toList) (b := kd) rfl rfl (fun hq => condF ?_) (fun hq => condT ?_)
  · exact fin _ w zWr h (Mod.refl _ _) rfl (by rw [if_pos hq])
  · rw [build_ok (bWr3 _ _ _)]
    refine stS (b := C.x5) (old := zWr.cells.toArray) (cs := (Wr.mk 40 l c).cells.toArray) rfl rfl iWrg rfl (wr_one _) h.b5 fun w2 hb2 hm2 _ => ?_
    exact fin _ w2 ⟨40, l, c⟩ (h.put hm2 hb2) hm2 rfl (by rw [if_neg hq])
/-- An expression, looked at by the program. -/
theorem exprC_ok {C : Cx} : ∀ (e : Ex) (w : World), Clo C zWr w → e.Ok C.w0 → e.sz ≤ 1099511627776 →
    Rt Tryd.prog 61 #[.agg e.cells.toArray, pt C.x6, pt C.x7] w fun v w' => v = .bool (decide ((e.wr (kindP C.ds)).err = 0)) ∧ Clo C (e.wr (kindP C.ds)) w' ∧ Mod (fun i => i = C.x5) w w' := by
  intro e
  induction e using Ex.ind with
  | h e ih =>
    intro w hC hok hsz
    obtain ⟨A, c, hs, _⟩ := reads_cap hok.args.1
    have hszL : Ex.szL e.args ≤ 1099511627776 := by rw [Ex.sz_eq] at hsz; omega
    have hlen := Ex.len_sz e.args
    have hwr := Ex.wr_eq (kindP C.ds) e
    refine scope_Table_look_2_calls ?_
    unfold scope_Table_look_2_F
    refine box_k (cs := e.cells.toArray) rfl fun w1 hb1 hm1 hz1 => ?_
    have hC1 := hC.step hm1
    have hx5 : C.x5 < w.heap.size := blk_lt hC.b5
    generalize hbe : w.heap.size = be at *
    have d0 : FAt Tryd.prog w1 60 0 ⟨be, 0, none⟩ 5 (.int .u8 e.op) := FAt.mk' (off := 0) (by kernel_rfl) uU8 rfl (by rw [add_pl, cell_blk hb1]; rfl)
    have d2 : FAt Tryd.prog w1 60 2 ⟨be, 0, none⟩ 9 (.string e.name) := FAt.mk' (off := 2) (by kernel_rfl) uSt rfl (by rw [add_pl, cell_blk hb1]; rfl)
    have d4 : FAt Tryd.prog w1 60 4 ⟨be, 0, none⟩ 3 (.int .i64 e.line) := FAt.mk' (off := 4) (by kernel_rfl) uI rfl (by rw [add_pl, cell_blk hb1]; rfl)
    have d5 : FAt Tryd.prog w1 60 5 ⟨be, 0, none⟩ 3 (.int .i64 e.col) := FAt.mk' (off := 5) (by kernel_rfl) uI rfl (by rw [add_pl, cell_blk hb1]; rfl)
    have r0 : ∀ (ρ' : Sl) (w2 : World) (r : Wr), Clo C r w2 → Mod (fun i => i = C.x5) w w2 → w2.heap[be]? = some (.cells e.cells.toArray 60 (0, 0)) → ρ' 3 = pt be → ρ' 2 = pt C.x7 → ρ' 5 = .bool (decide (r.err = 0)) → (r.err = 0 → r = zWr ∧ e.bad (kindP C.ds) = false) → (r.err ≠ 0 → e.wr (kindP C.ds) = r) →
        sx fn_ Tryd.prog 45 scope_Table_look_2_R0 (retK Tryd.prog [ResultVar.tmp 4] fun v w' => v = .bool (decide ((e.wr (kindP C.ds)).err = 0)) ∧ Clo C (e.wr (kindP C.ds)) w' ∧ Mod (fun i => i = C.x5) w w') ρ' w2 := by
      intro ρ' w2 r hC2 hmm hb2 q3 q2 q5 hr0 hr1
      rw [scope_Table_look_2_R0_eq]
      unfold scope_Table_look_2_R0_F
      have f3 : FAt Tryd.prog w2 60 3 ⟨be, 0, none⟩ 58 (.slice A e.args.length c) := FAt.mk' (off := 3) (by kernel_rfl) uExs rfl (by rw [add_pl, cell_blk hb2, ← hs]; rfl)
      refine f3.vs q3 fun x30 => ?_
      rw [len58]
      refine W_loop scope_Table_look_2_L1_ok (fun ρ w' => ∃ (n : Nat) (r : Wr), n ≤ e.args.length ∧ ρ 33 = .int .i64 n ∧ ρ 32 = .int .i64 e.args.length ∧ ρ 31 = .slice A e.args.length c ∧ ρ 2 = pt C.x7 ∧ ρ 5 = .bool (decide (r.err = 0)) ∧ Clo C r w' ∧ Mod (fun i => i = C.x5) w w' ∧ (r.err = 0 → r = zWr ∧ e.bad (kindP C.ds) = false ∧ ∀ a ∈ e.args.take n, (a.wr (kindP C.ds)).err = 0) ∧ (r.err ≠ 0 → e.wr (kindP C.ds) = r)) (fun ρ _ => e.args.length - (intOf (ρ 33)).toNat)
        ⟨0, r, Nat.zero_le _, rfl, rfl, rfl, q2, q5, hC2, hmm, fun q => ⟨(hr0 q).1, (hr0 q).2, by simp⟩, hr1⟩ ?_
      rintro ρ w3 ⟨n, r, hn, h33, h32, h31, h2, h5, hC3, hm3, g0, g1⟩
      rw [scope_Table_look_2_L1_eq]
      unfold scope_Table_look_2_L1_F
      rw [h33, h32, h31]
      refine BKlss (a := n) (b := e.args.length) rfl rfl ?_
      by_cases hlt : n < e.args.length
      · rw [show decide ((n : Int) < (e.args.length : Int)) = true by rw [decide_eq_true_eq]; omega]
        refine condT ?_
        have hx : e.args[n]? = some e.args[n] := List.getElem?_eq_getElem hlt
        have hmem : e.args[n] ∈ e.args := List.getElem_mem hlt
        have hok3 := hok.args.mod hC3.m
        rw [hs] at hok3
        have hs2 := Ex.szL_at hx
        refine ixEx hok3 hx fun y => ?_
        refine lcl_k (cs := e.args[n].cells.toArray) zEx _ iEx rfl (ex_one (hok3.at hx)) fun w4 hb4 hm4 _ => ?_
        have hC4 := hC3.step hm4
        generalize w3.heap.size = b7 at *
        rw [h5]
        by_cases hz : r.err = 0
        · obtain ⟨rfl, hbad, hall⟩ := g0 hz
          rw [show decide (zWr.err = 0) = true from rfl]
          simp only [CondK_bool, MG_u, NG_u, VG_u, UG_u, PG_u, BG_u, CG_u, IG_u, MG_b, NG_b, VG_b, UG_b, PG_b, BG_b, CG_b, IG_b, PK_bool, NK_ptr, not_ok, reduceCtorEq, if_true, if_false, Bool.true_eq_false, Bool.false_eq_true, Bool.not_true, Bool.not_false]
          refine ldOne h2 Tryd.underlying90 rfl hC4.b7 ?_
          refine ldS (cs := e.args[n].cells.toArray) rfl Tryd.underlying60 rfl iEx hb4 ?_
          refine CK_fn (f := 61) (first := #[]) (cap := #[pt C.x6, pt C.x7]) (args := [.agg e.args[n].cells.toArray]) Tryd.func61 rfl rfl (ih _ hmem w4 hC4 (hok.args.2 _ hmem) (by omega)) ?_
          rintro _ w5 ⟨rfl, hC5, hm5⟩
          refine BKadd (a := n) (b := 1) rfl rfl (by omega) (by omega) ?_
          refine ⟨⟨n + 1, e.args[n].wr (kindP C.ds), hlt, rfl, h32, h31, ?_, rfl, hC5, ((hm3.trans (hm4.mono fun _ _ q => q.elim)).trans hm5), fun q => ⟨Ex.wr_z _ q, hbad, ?_⟩, fun q => ?_⟩, ?_⟩
          · exact h2
          · rw [List.take_add_one, hx, Option.toList_some]
            intro a ha
            rcases List.mem_append.1 ha with ha | ha
            · exact hall a ha
            · rw [List.mem_singleton.1 ha]; exact q
          · rw [hwr, hbad, ← Ex.wrL_at hx hall q]; rfl
          · show e.args.length - (intOf (Value.int .i64 ((n : Int) + 1))).toNat < _
            simp only [intOf]; omega
        · rw [decide_eq_false hz]
          simp only [CondK_bool, MG_u, NG_u, VG_u, UG_u, PG_u, BG_u, CG_u, IG_u, MG_b, NG_b, VG_b, UG_b, PG_b, BG_b, CG_b, IG_b, PK_bool, NK_ptr, not_ok, reduceCtorEq, if_true, if_false, Bool.true_eq_false, Bool.false_eq_true, Bool.not_true, Bool.not_false]
          refine BKadd (a := n) (b := 1) rfl rfl (by omega) (by omega) ?_
          refine ⟨⟨n + 1, r, hlt, rfl, h32, h31, ?_, ?_, hC4, (hm3.trans (hm4.mono fun _ _ q => q.elim)), fun q => absurd q hz, g1⟩, ?_⟩
          · exact h2
          · show Value.bool false = _
            rw [decide_eq_false hz]
          · show e.args.length - (intOf (Value.int .i64 ((n : Int) + 1))).toNat < _
            simp only [intOf]; omega
      · obtain rfl : n = e.args.length := by omega
        rw [show decide (((e.args.length : Nat) : Int) < (e.args.length : Int)) = false by simp]
        refine condF ?_
        rw [sq_x, bk_x, sq_n, scope_Table_look_2_R2_eq]
        unfold scope_Table_look_2_R2_F
        have hfin : e.wr (kindP C.ds) = r := by
          by_cases hz : r.err = 0
          · obtain ⟨rfl, hbad, hall⟩ := g0 hz
            rw [List.take_length] at hall
            rw [hwr, hbad, ← Ex.wrL_all hall]; rfl
          · exact g1 hz
        refine ⟨?_, ?_, hm3⟩
        · show ρ 5 = _
          rw [h5, hfin]
        · rw [hfin]; exact hC3
    refine d0.vk' fun x8 => ?_
    refine caseI (fun k2 => condT ?_) (fun k2 => condF ?_)
    · refine ldOne rfl Tryd.underlying89 rfl hC1.b6 ?_
      refine d2.vk' fun x13 => d4.vk' fun x15 => d5.vk' fun x17 => ?_
      refine CK_fn (f := 60) (first := #[]) (cap := #[pt C.x2, pt C.x5]) (args := [.string e.name, .int .u8 1, .int .i64 e.line, .int .i64 e.col]) Tryd.func60 rfl rfl (must_ok hC1 e.name 1 e.line e.col) ?_
      rintro v w2 ⟨rfl, hC2, hm2⟩
      have hb2 := hm2.blk hb1 (by omega)
      have hmm := (hm1.mono (S' := fun i => i = C.x5) fun _ _ q => q.elim).trans hm2
      refine r0 _ w2 _ hC2 hmm hb2 rfl rfl ?_ ?_ ?_
      · show Value.bool _ = _
        by_cases q : kindP C.ds e.name.data.toList = 1 <;> simp [q, zWr]
      · intro q
        by_cases q1 : kindP C.ds e.name.data.toList = 1
        · rw [if_pos q1]
          refine ⟨rfl, ?_⟩
          unfold Ex.bad; rw [k2, q1]; rfl
        · rw [if_neg q1] at q; simp at q
      · intro q
        by_cases q1 : kindP C.ds e.name.data.toList = 1
        · rw [if_pos q1] at q; exact absurd rfl q
        · rw [if_neg q1, hwr, if_pos]
          unfold Ex.bad; rw [decide_eq_true ⟨k2, q1⟩]; rfl
    · refine caseI (fun k3 => condT ?_) (fun k3 => condF ?_)
      · refine ldOne rfl Tryd.underlying89 rfl hC1.b6 ?_
        refine d2.vk' fun x13 => d4.vk' fun x15 => d5.vk' fun x17 => ?_
        refine CK_fn (f := 60) (first := #[]) (cap := #[pt C.x2, pt C.x5]) (args := [.string e.name, .int .u8 2, .int .i64 e.line, .int .i64 e.col]) Tryd.func60 rfl rfl (must_ok hC1 e.name 2 e.line e.col) ?_
        rintro v w2 ⟨rfl, hC2, hm2⟩
        have hb2 := hm2.blk hb1 (by omega)
        have hmm := (hm1.mono (S' := fun i => i = C.x5) fun _ _ q => q.elim).trans hm2
        refine r0 _ w2 _ hC2 hmm hb2 rfl rfl ?_ ?_ ?_
        · show Value.bool _ = _
          by_cases q : kindP C.ds e.name.data.toList = 2 <;> simp [q, zWr]
        · intro q
          by_cases q1 : kindP C.ds e.name.data.toList = 2
          · rw [if_pos q1]
            refine ⟨rfl, ?_⟩
            unfold Ex.bad; rw [k3, q1]; rfl
          · rw [if_neg q1] at q; simp at q
        · intro q
          by_cases q1 : kindP C.ds e.name.data.toList = 2
          · rw [if_pos q1] at q; exact absurd rfl q
          · rw [if_neg q1, hwr, if_pos]
            unfold Ex.bad; rw [decide_eq_true (⟨k3, q1⟩ : e.op = 3 ∧ kindP C.ds e.name.data.toList ≠ 2), Bool.or_true]
      · refine r0 _ w1 zWr hC1 (hm1.mono fun _ _ q => q.elim) hb1 rfl rfl rfl ?_ fun q => absurd rfl q
        intro _
        refine ⟨rfl, ?_⟩
        unfold Ex.bad
        simp [k2, k3]
end Go.Proofs.YtbnbcimjapiicaaDoor.Tr
set_option linter.unusedVariables false
set_option linter.unusedSimpArgs false
set_option maxRecDepth 4000
namespace Go.Proofs.YtbnbcimjapiicaaDoor.Tr
open Go Go.X Go.RowKit Go.Proofs.YtbnbcimjapiicaaDoor.XG Go.Proofs.YtbnbcimjapiicaaDoor.XK
def StC (C : Cx) (l : List St) : Prop := ∀ (w : World) (v : Value), Clo C zWr w → StsOk C.w0 v l → St.szL l ≤ 1099511627776 →
  Rt Tryd.prog 62 #[v, pt C.x6, pt C.x7, pt C.x8] w fun v w' => v = .bool (decide ((St.wrL (kindP C.ds) l).err = 0)) ∧ Clo C (St.wrL (kindP C.ds) l) w' ∧ Mod (fun i => i = C.x5) w w'
theorem up0 {S : Nat → Prop} {w w' : World} (h : Mod none_ w w') : Mod S w w' := h.mono fun _ _ q => q.elim
theorem stC_row {C : Cx} {l : List St} (ih : ∀ a ∈ l, StC C a.body ∧ StC C a.els) : StC C l := by
  intro w v hC hok hsz
  obtain ⟨A, c, hs, _⟩ := reads_cap hok.1
  have hlen := St.len_sz l
  refine scope_Table_look_3_calls ?_
  unfold scope_Table_look_3_F
  rw [hs, len23]
  refine W_loop scope_Table_look_3_L0_ok (fun ρ w' => ∃ n : Nat, n ≤ l.length ∧ ρ 13 = .int .i64 n ∧ ρ 12 = .int .i64 l.length ∧ ρ 11 = .slice A l.length c ∧ ρ 1 = pt C.x6 ∧ ρ 2 = pt C.x7 ∧ ρ 3 = pt C.x8 ∧ (∀ a ∈ l.take n, (a.wr (kindP C.ds)).err = 0) ∧ Clo C zWr w' ∧ Mod (fun i => i = C.x5) w w') (fun ρ _ => l.length - (intOf (ρ 13)).toNat)
    ⟨0, Nat.zero_le _, rfl, rfl, rfl, rfl, rfl, rfl, by simp, hC, Mod.refl _ _⟩ ?_
  rintro ρ w2 ⟨n, hn, h13, h12, h11, h1, h2, h3, hall, hC2, hm⟩
  have h : ∀ K : Exit → Sl → World → Prop, (∀ ρ' w', n < l.length → ρ' 13 = .int .i64 ((n : Int) + 1) → ρ' 12 = .int .i64 l.length → ρ' 11 = .slice A l.length c → ρ' 1 = pt C.x6 → ρ' 2 = pt C.x7 → ρ' 3 = pt C.x8 → (∀ a ∈ l.take (n + 1), (a.wr (kindP C.ds)).err = 0) → Clo C zWr w' → Mod (fun i => i = C.x5) w w' → K .normal ρ' w') →
      (∀ ρ' w', ρ' 5 = .bool false → (St.wrL (kindP C.ds) l).err ≠ 0 → Clo C (St.wrL (kindP C.ds) l) w' → Mod (fun i => i = C.x5) w w' → K .ret ρ' w') →
      (∀ ρ', n = l.length → K (.exit 0) ρ' w2) → sx fn_ Tryd.prog 71 scope_Table_look_3_L0 K ρ w2 := by
    intro K kN kR kX
    rw [scope_Table_look_3_L0_eq]
    unfold scope_Table_look_3_L0_F
    rw [h13, h12, h11]
    refine BKlss (a := n) (b := l.length) rfl rfl ?_
    by_cases hlt : n < l.length
    · rw [show decide ((n : Int) < (l.length : Int)) = true by rw [decide_eq_true_eq]; omega]
      refine condT ?_
      have hx : l[n]? = some l[n] := List.getElem?_eq_getElem hlt
      have hmem : l[n] ∈ l := List.getElem_mem hlt
      have hok2 := hok.mod hC2.m
      rw [hs] at hok2
      refine ixSt hok2 hx fun y => ?_
      have hoke := hok.2 _ hmem
      have hsn := St.szL_at hx
      have hsz2 := St.sz_eq l[n]
      obtain ⟨ihB, ihE⟩ := ih _ hmem
      refine lcl_k (cs := l[n].cells.toArray) zSt _ iSt rfl (st_one (hok2.at hx)) fun w3 hb3 hm3 hz3 => ?_
      have hC3 := hC2.step hm3
      have hm03 := hm.trans (up0 hm3)
      have hx5 : C.x5 < w2.heap.size := blk_lt hC2.b5
      generalize w2.heap.size = bS at *
      clear hok2 hm3 hz3 hC2 hm
      have d0 : FAt Tryd.prog w3 62 0 ⟨bS, 0, none⟩ 5 (.int .u8 l[n].op) := FAt.mk' (off := 0) (by kernel_rfl) uU8 rfl (by rw [add_pl, cell_blk hb3]; rfl)
      have d3 : FAt Tryd.prog w3 62 3 ⟨bS, 0, none⟩ 9 (.string l[n].name) := FAt.mk' (off := 3) (by kernel_rfl) uSt rfl (by rw [add_pl, cell_blk hb3]; rfl)
      have d8 : FAt Tryd.prog w3 62 8 ⟨bS, 0, none⟩ 3 (.int .i64 l[n].line) := FAt.mk' (off := 8) (by kernel_rfl) uI rfl (by rw [add_pl, cell_blk hb3]; rfl)
      have d9 : FAt Tryd.prog w3 62 9 ⟨bS, 0, none⟩ 3 (.int .i64 l[n].col) := FAt.mk' (off := 9) (by kernel_rfl) uI rfl (by rw [add_pl, cell_blk hb3]; rfl)
      have hwr := St.wr_eq (kindP C.ds) l[n]
      have ans : (l[n].wr (kindP C.ds)).err ≠ 0 → St.wrL (kindP C.ds) l = l[n].wr (kindP C.ds) := St.wrL_at hx hall
      -- behind the expressions
      have r6 : ∀ (ρ' : Sl) (w4 : World) (r : Wr), Clo C r w4 → Mod (fun i => i = C.x5) w w4 → w4.heap[bS]? = some (.cells l[n].cells.toArray 62 (0, 0)) → ρ' 8 = .bool (decide (r.err = 0)) → ρ' 13 = .int .i64 n → ρ' 12 = .int .i64 l.length → ρ' 11 = .slice A l.length c → ρ' 1 = pt C.x6 → ρ' 2 = pt C.x7 → ρ' 3 = pt C.x8 → ρ' 7 = pt bS →
          (r.err = 0 → r = zWr ∧ l[n].bad (kindP C.ds) = false ∧ (Ex.wrL (kindP C.ds) l[n].exprs).err = 0) → (r.err ≠ 0 → l[n].wr (kindP C.ds) = r) →
          sx fn_ Tryd.prog 71 scope_Table_look_3_R6 (blkK 1 (seqK (sx fn_ Tryd.prog 71 scope_Table_look_3_R4 K) K)) ρ' w4 := by
        intro ρ' w4 r hC4 hm4 hb4 q8 q13 q12 q11 q1 q2 q3 q7 g0 g1
        rw [scope_Table_look_3_R6_eq]
        unfold scope_Table_look_3_R6_F
        have f6 : ∀ w', w'.heap[bS]? = some (.cells l[n].cells.toArray 62 (0, 0)) → FAt Tryd.prog w' 62 6 ⟨bS, 0, none⟩ 23 l[n].bs := fun w' hb => FAt.mk' (off := 6) (by kernel_rfl) uSts rfl (by rw [add_pl, cell_blk hb]; rfl)
        have f7 : ∀ w', w'.heap[bS]? = some (.cells l[n].cells.toArray 62 (0, 0)) → FAt Tryd.prog w' 62 7 ⟨bS, 0, none⟩ 23 l[n].ls := fun w' hb => FAt.mk' (off := 7) (by kernel_rfl) uSts rfl (by rw [add_pl, cell_blk hb]; rfl)
        have bad : ∀ (ρ2 : Sl) (w5 : World) (r : Wr), ρ2 5 = .bool false → r.err ≠ 0 → l[n].wr (kindP C.ds) = r → Clo C r w5 → Mod (fun i => i = C.x5) w w5 → (blkK 1 (seqK (sx fn_ Tryd.prog 71 scope_Table_look_3_R4 K) K)) .ret ρ2 w5 := by
          intro ρ2 w5 r q5 hz hr hC5 hm5
          rw [bk_r, sq_r]
          have e := ans (by rw [hr]; exact hz)
          rw [hr] at e
          exact kR _ _ q5 (by rw [e]; exact hz) (by rw [e]; exact hC5) hm5
        have good : ∀ (ρ2 : Sl) (w5 : World), (l[n].wr (kindP C.ds)).err = 0 → ρ2 13 = .int .i64 n → ρ2 12 = .int .i64 l.length → ρ2 11 = .slice A l.length c → ρ2 1 = pt C.x6 → ρ2 2 = pt C.x7 → ρ2 3 = pt C.x8 → Clo C zWr w5 → Mod (fun i => i = C.x5) w w5 → (blkK 1 (seqK (sx fn_ Tryd.prog 71 scope_Table_look_3_R4 K) K)) .normal ρ2 w5 := by
          intro ρ2 w5 hz q13 q12 q11 q1 q2 q3 hC5 hm5
          rw [bk_n, sq_n, scope_Table_look_3_R4_eq]
          unfold scope_Table_look_3_R4_F
          refine BKadd (a := n) (b := 1) q13 rfl (by omega) (by omega) ?_
          refine kN _ _ hlt rfl q12 q11 q1 q2 q3 ?_ hC5 hm5
          rw [List.take_add_one, hx, Option.toList_some]
          intro a ha
          rcases List.mem_append.1 ha with ha | ha
          · exact hall a ha
          · rw [List.mem_singleton.1 ha]; exact hz
        rw [q8, not_ok]
        by_cases hz : r.err = 0
        · obtain ⟨rfl, hbad, hex⟩ := g0 hz
          rw [hbad, if_neg (by simp), if_pos hex] at hwr
          rw [show (!decide (zWr.err = 0)) = false from rfl]
          simp only [CondK_bool, MG_u, NG_u, VG_u, UG_u, PG_u, BG_u, CG_u, IG_u, MG_b, NG_b, VG_b, UG_b, PG_b, BG_b, CG_b, IG_b, PK_bool, NK_ptr, not_ok, reduceCtorEq, if_true, if_false, Bool.true_eq_false, Bool.false_eq_true, Bool.not_true, Bool.not_false]
          refine ldOne q3 Tryd.underlying64 rfl hC4.b8 ?_
          refine (f6 _ hb4).vs q7 fun x58 => ?_
          refine CK_fn (f := 62) (first := #[]) (cap := #[pt C.x6, pt C.x7, pt C.x8]) (args := [l[n].bs]) Tryd.func62 rfl rfl (ihB w4 _ hC4 hoke.body (by omega)) ?_
          rintro _ w5 ⟨rfl, hC5, hm5⟩
          have hb5 := hm5.blk hb4 (by omega)
          have hm05 := hm4.trans hm5
          rw [not_ok]
          by_cases hzB : (St.wrL (kindP C.ds) l[n].body).err = 0
          · rw [if_pos hzB] at hwr
            have e := St.wrL_z _ (fun a _ => St.wr_z a) hzB
            rw [e] at hC5
            rw [decide_eq_true hzB]
            simp only [CondK_bool, MG_u, NG_u, VG_u, UG_u, PG_u, BG_u, CG_u, IG_u, MG_b, NG_b, VG_b, UG_b, PG_b, BG_b, CG_b, IG_b, PK_bool, NK_ptr, not_ok, reduceCtorEq, if_true, if_false, Bool.true_eq_false, Bool.false_eq_true, Bool.not_true, Bool.not_false]
            refine ldOne q3 Tryd.underlying64 rfl hC5.b8 ?_
            refine (f7 _ hb5).vs q7 fun x58 => ?_
            refine CK_fn (f := 62) (first := #[]) (cap := #[pt C.x6, pt C.x7, pt C.x8]) (args := [l[n].ls]) Tryd.func62 rfl rfl (ihE w5 _ hC5 hoke.els (by omega)) ?_
            rintro _ w6 ⟨rfl, hC6, hm6⟩
            have hm06 := hm05.trans hm6
            rw [not_ok]
            by_cases hzE : (St.wrL (kindP C.ds) l[n].els).err = 0
            · have e2 := St.wrL_z _ (fun a _ => St.wr_z a) hzE
              rw [e2] at hC6
              rw [decide_eq_true hzE]
              refine condF ?_
              refine good _ _ (by rw [hwr]; exact hzE) ?_ ?_ ?_ ?_ ?_ ?_ hC6 hm06
              · exact q13
              · exact q12
              · exact q11
              · exact q1
              · exact q2
              · exact q3
            · rw [decide_eq_false hzE]
              refine condT ?_
              exact bad _ _ _ rfl hzE hwr hC6 hm06
          · rw [if_neg hzB] at hwr
            rw [decide_eq_false hzB]
            simp only [CondK_bool, MG_u, NG_u, VG_u, UG_u, PG_u, BG_u, CG_u, IG_u, MG_b, NG_b, VG_b, UG_b, PG_b, BG_b, CG_b, IG_b, PK_bool, NK_ptr, not_ok, reduceCtorEq, if_true, if_false, Bool.true_eq_false, Bool.false_eq_true, Bool.not_true, Bool.not_false]
            exact bad _ _ _ rfl hzB hwr hC5 hm05
        · rw [decide_eq_false hz]
          simp only [CondK_bool, MG_u, NG_u, VG_u, UG_u, PG_u, BG_u, CG_u, IG_u, MG_b, NG_b, VG_b, UG_b, PG_b, BG_b, CG_b, IG_b, PK_bool, NK_ptr, not_ok, reduceCtorEq, if_true, if_false, Bool.true_eq_false, Bool.false_eq_true, Bool.not_true, Bool.not_false]
          exact bad _ _ _ rfl hz (g1 hz) hC4 hm4
      have r2 : ∀ (ρ' : Sl) (w4 : World) (r : Wr), Clo C r w4 → Mod (fun i => i = C.x5) w w4 → w4.heap[bS]? = some (.cells l[n].cells.toArray 62 (0, 0)) → ρ' 8 = .bool (decide (r.err = 0)) → ρ' 13 = .int .i64 n → ρ' 12 = .int .i64 l.length → ρ' 11 = .slice A l.length c → ρ' 1 = pt C.x6 → ρ' 2 = pt C.x7 → ρ' 3 = pt C.x8 → ρ' 7 = pt bS →
          (r.err = 0 → r = zWr ∧ l[n].bad (kindP C.ds) = false) → (r.err ≠ 0 → l[n].wr (kindP C.ds) = r) →
          sx fn_ Tryd.prog 71 scope_Table_look_3_R2 (blkK 1 (seqK (sx fn_ Tryd.prog 71 scope_Table_look_3_R4 K) K)) ρ' w4 := by
        intro ρ' w4 r hC4 hm4 hb4 q8 q13 q12 q11 q1 q2 q3 q7 g0 g1
        obtain ⟨A', c', hs', _⟩ := reads_cap hoke.exprs.1
        have hlx := Ex.len_sz l[n].exprs
        have f5 : FAt Tryd.prog w4 62 5 ⟨bS, 0, none⟩ 58 (.slice A' l[n].exprs.length c') := FAt.mk' (off := 5) (by kernel_rfl) uExs rfl (by rw [add_pl, cell_blk hb4, ← hs']; rfl)
        rw [scope_Table_look_3_R2_eq]
        unfold scope_Table_look_3_R2_F
        refine f5.vs q7 fun x40 => ?_
        rw [len58]
        refine W_loop scope_Table_look_3_L5_ok (fun ρ w' => ∃ (m : Nat) (r : Wr), m ≤ l[n].exprs.length ∧ ρ 43 = .int .i64 m ∧ ρ 42 = .int .i64 l[n].exprs.length ∧ ρ 41 = .slice A' l[n].exprs.length c' ∧ ρ 8 = .bool (decide (r.err = 0)) ∧ ρ 13 = .int .i64 n ∧ ρ 12 = .int .i64 l.length ∧ ρ 11 = .slice A l.length c ∧ ρ 1 = pt C.x6 ∧ ρ 2 = pt C.x7 ∧ ρ 3 = pt C.x8 ∧ ρ 7 = pt bS ∧ Clo C r w' ∧ Mod (fun i => i = C.x5) w w' ∧ w'.heap[bS]? = some (.cells l[n].cells.toArray 62 (0, 0)) ∧
            (r.err = 0 → r = zWr ∧ l[n].bad (kindP C.ds) = false ∧ ∀ a ∈ l[n].exprs.take m, (a.wr (kindP C.ds)).err = 0) ∧ (r.err ≠ 0 → l[n].wr (kindP C.ds) = r)) (fun ρ _ => l[n].exprs.length - (intOf (ρ 43)).toNat)
          ⟨0, r, Nat.zero_le _, rfl, rfl, rfl, q8, q13, q12, q11, q1, q2, q3, q7, hC4, hm4, hb4, fun q => ⟨(g0 q).1, (g0 q).2, by simp⟩, g1⟩ ?_
        rintro ρ w5 ⟨m, r, hmn, h43, h42, h41, h8, h13, h12, h11, h1, h2, h3, h7, hC5, hm5, hb5, g0, g1⟩
        rw [scope_Table_look_3_L5_eq]
        unfold scope_Table_look_3_L5_F
        rw [h43, h42, h41]
        refine BKlss (a := m) (b := l[n].exprs.length) rfl rfl ?_
        by_cases hlt2 : m < l[n].exprs.length
        · rw [show decide ((m : Int) < (l[n].exprs.length : Int)) = true by rw [decide_eq_true_eq]; omega]
          refine condT ?_
          have hxj : l[n].exprs[m]? = some l[n].exprs[m] := List.getElem?_eq_getElem hlt2
          have hmj : l[n].exprs[m] ∈ l[n].exprs := List.getElem_mem hlt2
          have hok5 := hoke.exprs.mod hC5.m
          rw [hs'] at hok5
          refine ixEx hok5 hxj fun y => ?_
          have hsj := Ex.szL_at hxj
          refine lcl_k (cs := l[n].exprs[m].cells.toArray) zEx _ iEx rfl (ex_one (hok5.at hxj)) fun w6 hb6 hm6 _ => ?_
          have hC6 := hC5.step hm6
          have hb6s := hm6.blk hb5 id
          have hm06 := hm5.trans (up0 hm6)
          generalize w5.heap.size = b10 at *
          rw [h8]
          by_cases hz : r.err = 0
          · obtain ⟨rfl, hbad, hall2⟩ := g0 hz
            rw [show decide (zWr.err = 0) = true from rfl]
            simp only [CondK_bool, MG_u, NG_u, VG_u, UG_u, PG_u, BG_u, CG_u, IG_u, MG_b, NG_b, VG_b, UG_b, PG_b, BG_b, CG_b, IG_b, PK_bool, NK_ptr, not_ok, reduceCtorEq, if_true, if_false, Bool.true_eq_false, Bool.false_eq_true, Bool.not_true, Bool.not_false]
            refine ldOne h2 Tryd.underlying90 rfl hC6.b7 ?_
            refine ldS (cs := l[n].exprs[m].cells.toArray) rfl Tryd.underlying60 rfl iEx hb6 ?_
            refine CK_fn (f := 61) (first := #[]) (cap := #[pt C.x6, pt C.x7]) (args := [.agg l[n].exprs[m].cells.toArray]) Tryd.func61 rfl rfl (exprC_ok _ w6 hC6 (hoke.exprs.2 _ hmj) (by omega)) ?_
            rintro _ w7 ⟨rfl, hC7, hm7⟩
            refine BKadd (a := m) (b := 1) rfl rfl (by omega) (by omega) ?_
            refine ⟨⟨m + 1, l[n].exprs[m].wr (kindP C.ds), hlt2, rfl, h42, h41, rfl, h13, h12, h11, h1, h2, h3, h7, hC7, hm06.trans hm7, hm7.blk hb6s (by omega), fun q => ⟨Ex.wr_z _ q, hbad, ?_⟩, fun q => ?_⟩, ?_⟩
            · rw [List.take_add_one, hxj, Option.toList_some]
              intro a ha
              rcases List.mem_append.1 ha with ha | ha
              · exact hall2 a ha
              · rw [List.mem_singleton.1 ha]; exact q
            · have e1 := Ex.wrL_at hxj hall2 q
              rw [hwr, hbad, e1, if_neg q]; rfl
            · show l[n].exprs.length - (intOf (Value.int .i64 ((m : Int) + 1))).toNat < _
              simp only [intOf]; omega
          · rw [decide_eq_false hz]
            simp only [CondK_bool, MG_u, NG_u, VG_u, UG_u, PG_u, BG_u, CG_u, IG_u, MG_b, NG_b, VG_b, UG_b, PG_b, BG_b, CG_b, IG_b, PK_bool, NK_ptr, not_ok, reduceCtorEq, if_true, if_false, Bool.true_eq_false, Bool.false_eq_true, Bool.not_true, Bool.not_false]
            refine BKadd (a := m) (b := 1) rfl rfl (by omega) (by omega) ?_
            refine ⟨⟨m + 1, r, hlt2, rfl, h42, h41, ?_, h13, h12, h11, h1, h2, h3, h7, hC6, hm06, hb6s, fun q => absurd q hz, g1⟩, ?_⟩
            · show Value.bool false = _
              rw [decide_eq_false hz]
            · show l[n].exprs.length - (intOf (Value.int .i64 ((m : Int) + 1))).toNat < _
              simp only [intOf]; omega
        · obtain rfl : m = l[n].exprs.length := by omega
          rw [show decide (((l[n].exprs.length : Nat) : Int) < (l[n].exprs.length : Int)) = false by simp]
          refine condF ?_
          rw [sq_x, bk_x, sq_n]
          rw [List.take_length] at g0
          refine r6 _ w5 r hC5 hm5 hb5 ?_ ?_ ?_ ?_ ?_ ?_ ?_ ?_ (fun q => ⟨(g0 q).1, (g0 q).2.1, ?_⟩) g1
          · exact h8
          · exact h13
          · exact h12
          · exact h11
          · exact h1
          · exact h2
          · exact h3
          · exact h7
          · rw [Ex.wrL_all (g0 q).2.2]; rfl
      have r3 : ∀ (ρ' : Sl) (t : Bool), ρ' 19 = .bool t → t = decide (l[n].op = 1 ∨ l[n].op = 5) → ρ' 18 = .int .u8 l[n].op → ρ' 8 = .bool true → ρ' 13 = .int .i64 n → ρ' 12 = .int .i64 l.length → ρ' 11 = .slice A l.length c → ρ' 1 = pt C.x6 → ρ' 2 = pt C.x7 → ρ' 3 = pt C.x8 → ρ' 7 = pt bS →
          sx fn_ Tryd.prog 71 scope_Table_look_3_R3 (blkK 2 (seqK (sx fn_ Tryd.prog 71 scope_Table_look_3_R2 (blkK 1 (seqK (sx fn_ Tryd.prog 71 scope_Table_look_3_R4 K) K))) (blkK 1 (seqK (sx fn_ Tryd.prog 71 scope_Table_look_3_R4 K) K)))) ρ' w3 := by
        intro ρ' t q19 ht q18 q8 q13 q12 q11 q1 q2 q3 q7
        rw [scope_Table_look_3_R3_eq]
        unfold scope_Table_look_3_R3_F
        refine caseN q19 (fun hp => ?_) (fun hp => ?_)
        · rw [hp] at ht
          have ht := of_decide_eq_true ht.symm
          have hn2 : l[n].op ≠ 2 := by omega
          refine ldOne q1 Tryd.underlying89 rfl hC3.b6 ?_
          refine d3.vs q7 fun x23 => d8.vs q7 fun x25 => d9.vs q7 fun x27 => ?_
          refine CK_fn (f := 60) (first := #[]) (cap := #[pt C.x2, pt C.x5]) (args := [.string l[n].name, .int .u8 1, .int .i64 l[n].line, .int .i64 l[n].col]) Tryd.func60 rfl rfl (must_ok hC3 l[n].name 1 l[n].line l[n].col) ?_
          rintro v w4 ⟨rfl, hC4, hm4⟩
          rw [bk_n, sq_n]
          refine r2 _ w4 _ hC4 (hm03.trans hm4) (hm4.blk hb3 (by omega)) ?_ ?_ ?_ ?_ ?_ ?_ ?_ ?_ ?_ ?_
          · show Value.bool _ = _
            by_cases q : kindP C.ds l[n].name.data.toList = 1 <;> simp [q, zWr]
          · exact q13
          · exact q12
          · exact q11
          · exact q1
          · exact q2
          · exact q3
          · exact q7
          · intro q
            by_cases k1 : kindP C.ds l[n].name.data.toList = 1
            · rw [if_pos k1]
              refine ⟨rfl, ?_⟩
              unfold St.bad; simp [k1, hn2]
            · rw [if_neg k1] at q; simp at q
          · intro q
            by_cases k1 : kindP C.ds l[n].name.data.toList = 1
            · rw [if_pos k1] at q; exact absurd rfl q
            · rw [if_neg k1, hwr, if_pos]
              unfold St.bad; rw [decide_eq_true ⟨ht, k1⟩]; rfl
        · rw [hp] at ht
          have ht := of_decide_eq_false ht.symm
          refine BKeqI (a := l[n].op) (b := 2) q18 rfl (fun h2' => condT ?_) (fun h2' => condF ?_)
          · refine ldOne q1 Tryd.underlying89 rfl hC3.b6 ?_
            refine d3.vs q7 fun x23 => d8.vs q7 fun x25 => d9.vs q7 fun x27 => ?_
            refine CK_fn (f := 60) (first := #[]) (cap := #[pt C.x2, pt C.x5]) (args := [.string l[n].name, .int .u8 2, .int .i64 l[n].line, .int .i64 l[n].col]) Tryd.func60 rfl rfl (must_ok hC3 l[n].name 2 l[n].line l[n].col) ?_
            rintro v w4 ⟨rfl, hC4, hm4⟩
            rw [bk_n, sq_n]
            refine r2 _ w4 _ hC4 (hm03.trans hm4) (hm4.blk hb3 (by omega)) ?_ ?_ ?_ ?_ ?_ ?_ ?_ ?_ ?_ ?_
            · show Value.bool _ = _
              by_cases q : kindP C.ds l[n].name.data.toList = 2 <;> simp [q, zWr]
            · exact q13
            · exact q12
            · exact q11
            · exact q1
            · exact q2
            · exact q3
            · exact q7
            · intro q
              by_cases k1 : kindP C.ds l[n].name.data.toList = 2
              · rw [if_pos k1]
                refine ⟨rfl, ?_⟩
                unfold St.bad; simp [k1, ht]
              · rw [if_neg k1] at q; simp at q
            · intro q
              by_cases k1 : kindP C.ds l[n].name.data.toList = 2
              · rw [if_pos k1] at q; exact absurd rfl q
              · rw [if_neg k1, hwr, if_pos]
                unfold St.bad; rw [decide_eq_true (⟨h2', k1⟩ : l[n].op = 2 ∧ kindP C.ds l[n].name.data.toList ≠ 2), Bool.or_true]
          · rw [bk_n, sq_n]
            refine r2 _ w3 zWr hC3 hm03 hb3 ?_ ?_ ?_ ?_ ?_ ?_ ?_ ?_ (fun _ => ⟨rfl, ?_⟩) (fun q => absurd rfl q)
            · exact q8
            · exact q13
            · exact q12
            · exact q11
            · exact q1
            · exact q2
            · exact q3
            · exact q7
            · unfold St.bad; simp [ht, h2']
      refine d0.vk' fun x17 => ?_
      refine caseI (fun k1 => condT ?_) (fun k1 => condF ?_)
      · refine r3 _ true rfl (by rw [decide_eq_true (Or.inl k1)]) rfl rfl ?_ ?_ ?_ ?_ ?_ ?_ rfl
        · exact h13
        · exact h12
        · exact h11
        · exact h1
        · exact h2
        · exact h3
      · rw [BK_eql]
        refine r3 _ (l[n].op == 5) rfl ?_ rfl rfl ?_ ?_ ?_ ?_ ?_ ?_ rfl
        · rw [beq_dec]
          by_cases q : l[n].op = 5
          · rw [decide_eq_true q, decide_eq_true (Or.inr q)]
          · rw [decide_eq_false q, decide_eq_false (by omega)]
        · exact h13
        · exact h12
        · exact h11
        · exact h1
        · exact h2
        · exact h3
    · obtain rfl : n = l.length := by omega
      rw [show decide (((l.length : Nat) : Int) < (l.length : Int)) = false by simp]
      refine condF ?_
      exact kX _ rfl
  refine h _ (fun ρ' w' a b c1 c2 c3 c4 c5 d e f => ⟨⟨n + 1, a, b, c1, c2, c3, c4, c5, d, e, f⟩, ?_⟩) (fun ρ' w' a b c' d => ?_) (fun ρ' b => ?_)
  · rw [b, h13]; simp only [intOf]; omega
  · rw [sq_r, bk_r, sq_r]
    refine ⟨?_, c', d⟩
    rw [decide_eq_false b]; exact a
  · subst b
    rw [List.take_length] at hall
    rw [sq_x, bk_x, sq_n, scope_Table_look_3_R1_eq]
    unfold scope_Table_look_3_R1_F
    rw [St.wrL_all hall]
    exact ⟨rfl, hC2, hm⟩
theorem stC_all {C : Cx} : ∀ e : St, StC C e.body ∧ StC C e.els := by
  intro e
  induction e using St.ind with
  | h e ih1 ih2 => exact ⟨stC_row ih1, stC_row ih2⟩
theorem StmtsC_ok {C : Cx} (l : List St) : StC C l := stC_row fun a _ => stC_all a
end Go.Proofs.YtbnbcimjapiicaaDoor.Tr
set_option linter.unusedVariables false
set_option linter.unusedSimpArgs false
set_option maxRecDepth 4000
namespace Go.Proofs.YtbnbcimjapiicaaDoor.Tr
open Go Go.X Go.RowKit Go.Proofs.YtbnbcimjapiicaaDoor.XG Go.Proofs.YtbnbcimjapiicaaDoor.XK

deriving instance DecidableEq for En
theorem isI (w : World) : (isAgg 3).run Tryd.prog w = .ok false w := by unfold isAgg; rw [Sem.run_bind, run_underlying Tryd.underlying3 w]; rfl
theorem isE (w : World) : (isAgg 28).run Tryd.prog w = .ok false w := by unfold isAgg; rw [Sem.run_bind, run_underlying Tryd.underlying28 w]; rfl
theorem eqEn (a b : En) (w : World) : (Op.equalIn 10000 37 a.v b.v).run Tryd.prog w = .ok (decide (a = b)) w := by
  show (Op.equalIn (9999 + 1) 37 (.agg a.cells.toArray) (.agg b.cells.toArray)).run Tryd.prog w = _
  rw [run_equalIn_struct w 9999 37 _ _ (by simp [Program.fieldsOf, Tryd.underlying37]) (by kernel_rfl)]
  obtain ⟨a1, a2, a3, a4⟩ := a; obtain ⟨b1, b2, b3, b4⟩ := b
  simp [Program.fieldsOf, Tryd.underlying37, Op.eqFields, part, isU, isI, Sem.run_bind, En.cells, run_equalIn_int w 9998 3 .i64 .i64 _ _ Tryd.underlying3, run_equalIn_int w 9998 5 .u8 .u8 _ _ Tryd.underlying5]
  by_cases h1 : a1 = b1 <;> by_cases h2 : a2 = b2 <;> by_cases h3 : a3 = b3 <;> by_cases h4 : a4 = b4 <;> simp [h1, h2, h3, h4]
theorem eqWr (a b : Wr) (w : World) : (Op.equalIn 10000 30 a.v b.v).run Tryd.prog w = .ok (decide (a = b)) w := by
  show (Op.equalIn (9999 + 1) 30 (.agg a.cells.toArray) (.agg b.cells.toArray)).run Tryd.prog w = _
  rw [run_equalIn_struct w 9999 30 _ _ (by simp [Program.fieldsOf, Tryd.underlying30]) (by kernel_rfl)]
  obtain ⟨a1, a2, a3⟩ := a; obtain ⟨b1, b2, b3⟩ := b
  simp [Program.fieldsOf, Tryd.underlying30, Op.eqFields, part, isE, isI, Sem.run_bind, Wr.cells, run_equalIn_int w 9998 3 .i64 .i64 _ _ Tryd.underlying3, run_equalIn_int w 9998 28 .i64 .i64 _ _ Tryd.underlying28]
  by_cases h1 : a1 = b1 <;> by_cases h2 : a2 = b2 <;> by_cases h3 : a3 = b3 <;> simp [h1, h2, h3]
theorem gEn : Tryd.prog.eqGuardType Tryd.prog.depth 37 = false := by kernel_rfl
theorem gWr : Tryd.prog.eqGuardType Tryd.prog.depth 30 = false := by kernel_rfl
theorem rEnE (a b : En) (w : World) : (binOp .eql 37 a.v b.v).run Tryd.prog w = .ok (.bool (decide (a = b))) w := by
  show (binOp .eql 37 (.agg a.cells.toArray) (.agg b.cells.toArray)).run Tryd.prog w = _
  rw [run_eql_struct]
  have := eqEn a b w
  rw [En.v, En.v] at this
  rw [this]; rfl
theorem rEnN (a b : En) (w : World) : (binOp .neq 37 a.v b.v).run Tryd.prog w = .ok (.bool (!decide (a = b))) w := by
  show (do pure (.bool (!(← Op.equalIn 10000 37 a.v b.v))) : Sem Value).run Tryd.prog w = _
  rw [Sem.run_bind, eqEn]; rfl
theorem rWrE (a b : Wr) (w : World) : (binOp .eql 30 a.v b.v).run Tryd.prog w = .ok (.bool (decide (a = b))) w := by
  show (binOp .eql 30 (.agg a.cells.toArray) (.agg b.cells.toArray)).run Tryd.prog w = _
  rw [run_eql_struct]
  have := eqWr a b w
  rw [Wr.v, Wr.v] at this
  rw [this]; rfl
theorem BK_EnE {w : World} {K : Value → World → Prop} {x y : Operand} (a b : En) : BK Tryd.prog .eql 37 x y a.v b.v w K = K (.bool (decide (a = b))) w := BK_of (run_eqGuard_agg w .eql _ x y _ _ gEn) (rEnE a b w)
theorem BK_WrE {w : World} {K : Value → World → Prop} {x y : Operand} (a b : Wr) : BK Tryd.prog .eql 30 x y a.v b.v w K = K (.bool (decide (a = b))) w := BK_of (run_eqGuard_agg w .eql _ x y _ _ gWr) (rWrE a b w)
theorem zF1 : (Tryd.prog.info? 89).bind (·.zero) = some .nilFunc := by kernel_rfl
theorem zF2 : (Tryd.prog.info? 90).bind (·.zero) = some .nilFunc := by kernel_rfl
theorem zF3 : (Tryd.prog.info? 64).bind (·.zero) = some .nilFunc := by kernel_rfl
theorem look_fin {C : Cx} {w : World} (hC : Clo C zWr w) {b4 : Nat} (c4 : w.heap[b4]? = some (.cells zWr.cells.toArray 30 (0, 0))) (l3 : b4 ≠ C.x5) (l4 : C.w0.heap.size ≤ b4) {v : Value} {l : List St} (hok : StsOk C.w0 v l) (hsz : St.szL l ≤ 1099511627776) :
    VK Tryd.prog (Instr.loadAt 64 (pt C.x8)) w fun x12 w => CK Tryd.prog x12 [v] w fun x14 w => VK Tryd.prog (Instr.loadAt 30 (pt C.x5)) w fun x15 w => UK Tryd.prog (Instr.storeAt 30 (pt b4) x15) w fun _ w =>
      ∃ x, (do loadVar 30 (← asAddr (pt b4)) : Sem Value).run Tryd.prog w = .ok x w ∧ (x = (St.wrL (kindP C.ds) l).v ∧ Mod none_ C.w0 w) := by
  refine ldOne rfl Tryd.underlying64 rfl hC.b8 ?_
  refine CK_fn (f := 62) (first := #[]) (cap := #[pt C.x6, pt C.x7, pt C.x8]) (args := [v]) Tryd.func62 rfl rfl (StmtsC_ok l w v hC hok hsz) ?_
  rintro v' w10 ⟨rfl, hC10, hm10⟩
  have c4' := hm10.blk c4 l3
  refine ldS (cs := (St.wrL (kindP C.ds) l).cells.toArray) rfl Tryd.underlying30 rfl iWrg hC10.b5 ?_
  refine stS (b := b4) (old := zWr.cells.toArray) (cs := (St.wrL (kindP C.ds) l).cells.toArray) rfl rfl iWrg rfl (wr_one _) c4' fun w11 hb11 hm11 _ => ?_
  exact ⟨_, res_ld (run_ldB (cs := (St.wrL (kindP C.ds) l).cells.toArray) Tryd.underlying30 rfl iWrg hb11), rfl, hC10.m.then hm11 (fun i hi q => absurd q (by omega))⟩
theorem look_ok' {w : World} {base t : Nat} {ds : List De} (ht : TbAt w base t ds) {v : Value} {l : List St} (hok : StsOk w v l) (hsz : St.szL l ≤ 1099511627776) :
    Rt Tryd.prog 38 #[pt t, v] w fun v' w' => v' = (St.wrL (kindP ds) l).v ∧ Mod none_ w w' := by
  refine scope_Table_look_calls ?_
  unfold scope_Table_look_F
  refine box_k (cs := #[pt t]) rfl fun w1 hb1 hm1 hz1 => ?_
  refine al_k zWrg rfl _ fun w2 hb2 hm2 hz2 => ?_
  refine al_k zWrg rfl _ fun w3 hb3 hm3 hz3 => ?_
  rw [mkFunc]
  refine al_k zF1 rfl _ fun w4 hb4 hm4 hz4 => ?_
  refine stC (b := w3.heap.size) (o := 0) (cs := #[.nilFunc]) rfl (by kernel_rfl) rfl hb4 (by decide) fun w5 hb5 hm5 hz5 => ?_
  refine al_k zF2 rfl _ fun w6 hb6 hm6 hz6 => ?_
  rw [mkFunc]
  refine stC (b := w5.heap.size) (o := 0) (cs := #[.nilFunc]) rfl (by kernel_rfl) rfl hb6 (by decide) fun w7 hb7 hm7 hz7 => ?_
  refine al_k zF3 rfl _ fun w8 hb8 hm8 hz8 => ?_
  rw [mkFunc]
  refine stC (b := w7.heap.size) (o := 0) (cs := #[.nilFunc]) rfl (by kernel_rfl) rfl hb8 (by decide) fun w9 hb9 hm9 hz9 => ?_
  have c2 := hm9.blk (hm8.blk (hm7.blk (hm6.blk (hm5.blk (hm4.blk (hm3.blk (hm2.blk hb1 id) id) id) (by omega)) id) (by omega)) id) (by omega)
  have c4 := hm9.blk (hm8.blk (hm7.blk (hm6.blk (hm5.blk (hm4.blk (hm3.blk hb2 id) id) (by omega)) id) (by omega)) id) (by omega)
  have c5 := hm9.blk (hm8.blk (hm7.blk (hm6.blk (hm5.blk (hm4.blk hb3 id) (by omega)) id) (by omega)) id) (by omega)
  have c6 := hm9.blk (hm8.blk (hm7.blk (hm6.blk hb5 id) (by omega)) id) (by omega)
  have c7 := hm9.blk (hm8.blk hb7 id) (by omega)
  have hm09 : Mod none_ w w9 := (((((((hm1.trans hm2).trans hm3).trans hm4).then hm5 (fun i hi q => absurd q (by omega))).trans hm6).then hm7 (fun i hi q => absurd q (by omega))).trans hm8).then hm9 (fun i hi q => absurd q (by omega))
  have hC : Clo ⟨w, base, t, w.heap.size, w2.heap.size, w3.heap.size, w5.heap.size, w7.heap.size, ds⟩ zWr w9 :=
    ⟨hm09, ht, c2, c5, c6, c7, hb9, by dsimp only; omega⟩
  exact look_fin hC c4 (by dsimp only; omega) (by dsimp only; omega) hok hsz
end Go.Proofs.YtbnbcimjapiicaaDoor.Tr
set_option linter.unusedVariables false
set_option linter.unusedSimpArgs false
set_option maxRecDepth 4000
namespace Go.Proofs.YtbnbcimjapiicaaDoor.Tr
open Go Go.X Go.RowKit Go.Proofs.YtbnbcimjapiicaaDoor.XG Go.Proofs.YtbnbcimjapiicaaDoor.XK
theorem findF_yes {k : Key} : ∀ (l pre r : List De), (∃ a ∈ l, a.key = k) → (findF pre l k).kind ≠ 0 ∧ findF pre (l ++ r) k = findF pre l k
  | [], pre, r, h => by obtain ⟨a, ha, _⟩ := h; cases ha
  | d :: l, pre, r, h => by
    rw [List.cons_append, findF, findF]
    by_cases q : d.key = k
    · rw [if_pos q, if_pos q]; exact ⟨nu_kind _ _, rfl⟩
    · rw [if_neg q, if_neg q]
      refine findF_yes l _ r ?_
      obtain ⟨a, ha, hk⟩ := h
      rcases List.mem_cons.1 ha with rfl | ha
      · exact absurd hk q
      · exact ⟨a, ha, hk⟩
theorem findP_none {l : List De} {k : Key} (h : ∀ a ∈ l, a.key ≠ k) : findP l k = zEn := by
  have := findF_no k l [] [] h
  rw [List.append_nil] at this
  unfold findP
  rw [this]; rfl
theorem findP_snoc {ds : List De} {d : De} (h : (findP ds d.key).kind = 0) (k : Key) : findP (ds ++ [d]) k = if k = d.key then nu ds d else findP ds k := by
  by_cases q : ∃ a ∈ ds, a.key = k
  · obtain ⟨h1, h2⟩ := findF_yes ds [] [d] q
    have hne : k ≠ d.key := by rintro rfl; exact h1 h
    rw [if_neg hne]; exact h2
  · have q' : ∀ a ∈ ds, a.key ≠ k := fun a ha e => q ⟨a, ha, e⟩
    have e1 : findP (ds ++ [d]) k = findF ds [d] k := by unfold findP; rw [findF_no k ds [] [d] q', List.nil_append]
    rw [e1, findF]
    by_cases e : d.key = k
    · rw [if_pos e, if_pos e.symm]
    · rw [if_neg e, if_neg (fun x => e x.symm), findP_none q']; rfl
theorem findP_zero {ds : List De} {k : Key} (h : (findP ds k).kind = 0) : findP ds k = zEn := by
  by_cases q : ∃ a ∈ ds, a.key = k
  · exact absurd h (findF_yes ds [] [] q).1
  · exact findP_none fun a ha e => q ⟨a, ha, e⟩
theorem findE_app {k' k : Key} {v : Value} {c : Nat} : ∀ (l : List (Ent Key)) (n : Nat), findE k' (l ++ [⟨k, v, c⟩]) n = match findE k' l n with | some p => some p | none => if k' = k then some (n + l.length, v) else none
  | [], n => by simp [findE]
  | e :: r, n => by
    rw [List.cons_append, findE, findE]
    by_cases h : k' = e.k
    · simp [h]
    · rw [if_neg h, if_neg h, findE_app r (n + 1)]
      cases findE k' r (n + 1) with
      | some p => rfl
      | none => simp only [List.length_cons]; rw [show n + 1 + r.length = n + (r.length + 1) by omega]
theorem findE_ge {k : Key} {u : Value} : ∀ (l : List (Ent Key)) (n i : Nat), findE k l n = some (i, u) → n ≤ i
  | [], n, i, h => by simp [findE] at h
  | e :: r, n, i, h => by
    rw [findE] at h
    split at h
    · cases h; exact Nat.le_refl _
    · have := findE_ge r (n + 1) i h; omega
theorem findE_mod {k' k : Key} {v u : Value} : ∀ (l : List (Ent Key)) (n i : Nat), findE k l n = some (n + i, u) → findE k' (l.modify i fun e => ⟨e.k, v, e.b⟩) n = if k' = k then some (n + i, v) else findE k' l n
  | [], n, i, h => by simp [findE] at h
  | e :: r, n, 0, h => by
    rw [findE] at h
    split at h
    · rename_i hk
      subst hk
      show findE k' (⟨e.k, v, e.b⟩ :: r) n = _
      rw [findE, findE]
      by_cases q : k' = e.k <;> simp [q]
    · have := findE_ge _ _ _ h; omega
  | e :: r, n, i + 1, h => by
    rw [findE] at h
    split at h
    · simp at h
    · rename_i hk
      show findE k' (e :: r.modify i fun e => ⟨e.k, v, e.b⟩) n = _
      rw [findE, findE, findE_mod (k' := k') r (n + 1) i (by rw [show n + 1 + i = n + (i + 1) by omega]; exact h)]
      by_cases q : k' = e.k
      · rw [if_pos q, if_pos q, if_neg (by rintro rfl; exact hk q)]
      · rw [if_neg q, if_neg q, show n + 1 + i = n + (i + 1) by omega]
theorem valE_put (k' k : Key) (v : Value) (c : Nat) (l : List (Ent Key)) : valE k' (putE k v c l) = if k' = k then v else valE k' l := by
  unfold valE putE
  cases h : findE k l 0 with
  | none =>
    dsimp only
    rw [findE_app]
    by_cases q : k' = k
    · subst q; rw [h]; simp
    · cases findE k' l 0 <;> simp [q]
  | some p =>
    obtain ⟨i, u⟩ := p
    dsimp only
    rw [findE_mod l 0 i (by simpa using h)]
    by_cases q : k' = k <;> simp [q]
/-- A table in memory, in parts. -/
structure Raw (w : World) (base t m : Nat) (nv av : Value) (vs cl : Int) (ns es : List Value) (l : List (Ent Key)) (c : Nat) : Prop where
  bt : w.heap[t]? = some (.cells #[nv, .map (some m), .int .i64 vs, av, .int .i64 cl] 71 (0, 0))
  bm : IsMap encK w m l c
  lt : base ≤ t
  lm : base ≤ m
  on : w.ownsRow base 9 1 nv ns.length ns
  oa : w.ownsRow base 3 1 av es.length es
section
variable {w w' : World} {base t m : Nat} {nv av : Value} {vs cl : Int} {ns es : List Value} {l : List (Ent Key)} {c : Nat}
theorem Raw.mod (h : Raw w base t m nv av vs cl ns es l c) (hm : Mod none_ w w') : Raw w' base t m nv av vs cl ns es l c :=
  ⟨hm.blk h.bt id, h.bm.mod hm id, h.lt, h.lm, owns_mod h.on hm (fun _ _ => id), owns_mod h.oa hm (fun _ _ => id)⟩
theorem Raw.tm (h : Raw w base t m nv av vs cl ns es l c) : m ≠ t := by
  rintro rfl
  have := h.bm.symm.trans h.bt
  cases this
theorem Raw.nt (h : Raw w base t m nv av vs cl ns es l c) : nv.ownBlock ≠ some t := owns_ne_blk h.on h.bt (by decide)
theorem Raw.at (h : Raw w base t m nv av vs cl ns es l c) : av.ownBlock ≠ some t := owns_ne_blk h.oa h.bt (by decide)
theorem Raw.nm (h : Raw w base t m nv av vs cl ns es l c) : nv.ownBlock ≠ some m := fun q => by
  obtain ⟨cur, hc⟩ := owns_blk h.on q
  have := h.bm.symm.trans hc
  cases this
theorem Raw.am (h : Raw w base t m nv av vs cl ns es l c) : av.ownBlock ≠ some m := fun q => by
  obtain ⟨cur, hc⟩ := owns_blk h.oa q
  have := h.bm.symm.trans hc
  cases this
/-- The table's own block stored over. -/
theorem Raw.setT (h : Raw w base t m nv av vs cl ns es l c) (hm : Mod (fun i => i = t) w w') {nv' av' : Value} {vs' cl' : Int} (hb : w'.heap[t]? = some (.cells #[nv', .map (some m), .int .i64 vs', av', .int .i64 cl'] 71 (0, 0)))
    (hn : nv' = nv) (ha : av' = av) : Raw w' base t m nv' av' vs' cl' ns es l c := by
  subst hn ha
  exact ⟨hb, h.bm.mod hm h.tm, h.lt, h.lm, owns_mod h.on hm (fun k hk q => h.nt (q ▸ hk)), owns_mod h.oa hm (fun k hk q => h.at (q ▸ hk))⟩
theorem Raw.fld (h : Raw w base t m nv av vs cl ns es l c) : t < w.heap.size := X.blk_lt h.bt
end
end Go.Proofs.YtbnbcimjapiicaaDoor.Tr
set_option linter.unusedVariables false
set_option linter.unusedSimpArgs false
set_option maxRecDepth 4000
namespace Go.Proofs.YtbnbcimjapiicaaDoor.Tr
open Go Go.X Go.RowKit Go.Proofs.YtbnbcimjapiicaaDoor.XG Go.Proofs.YtbnbcimjapiicaaDoor.XK
def full (ds : List De) (d : De) : Bool := if d.places = 0 then decide (vars ds = 64) else decide (1000 < cellsP ds + d.places)
/-- What a declaration more is told. -/
def dstep (ds : List De) (d : De) : Int := if (findP ds d.key).kind ≠ 0 then 40 else if full ds d then 4 else 0
theorem look_run {w : World} {b : Nat} {l : List (Ent Key)} {c : Nat} (h : IsMap encK w b l c) (k : ByteArray) : (Instr.lookup 69 (.map (some b)) (.string k) false).run Tryd.prog w = .ok (valE k.data.toList l) w := by
  have hr := run_look KT uMap h zEnt k.data.toList false
  rw [encK_of] at hr
  rw [hr]
  unfold valE
  cases findE k.data.toList l 0 with
  | none => rfl
  | some p => obtain ⟨i, v⟩ := p; rfl
theorem build_run {t : TypeId} {parts : List (Nat × Value)} {cs : Array Value} {w : World} (h : Tryd.prog.built t parts = some cs) : (Instr.build t parts.toArray).run Tryd.prog w = .ok (.agg cs) w :=
  run_build (P := Tryd.prog) w t parts.toArray cs (by simpa using h)
theorem uIs : Tryd.prog.underlying 50 = some (.slice 3) := by kernel_rfl
theorem eIs : elemOk Tryd.prog 50 3 1 8 = true := by kernel_rfl
theorem eSs : elemOk Tryd.prog 52 9 1 16 = true := by kernel_rfl
theorem owns_ge {w : World} {base : Nat} {e : TypeId} {size : Nat} {v : Value} {n : Nat} {xs : List Value} (h : w.ownsRow base e size v n xs) {g : Nat} (hg : v.ownBlock = some g) : base ≤ g := by
  obtain ⟨_, ⟨rfl, _⟩ | ⟨g', cap, cur, rfl, hb, _⟩⟩ := h
  · cases hg
  · have : g' = g := by simpa [Value.ownBlock] using hg
    omega
/-- One of the names more. -/
theorem app_names {w : World} {base t m : Nat} {nv av : Value} {vs cl : Int} {ns es : List Value} {l : List (Ent Key)} {c : Nat} {S : World → Prop} {N : Value → Value → Value → World → Prop} (hR : Raw w base t m nv av vs cl ns es l c) {x u : Value} (hx : reads w 1 x 1 [u]) (hu : u.oneCell' = true) (hlen : ns.length < 1099511627776)
    (hS : ∀ w', Mod (fun i => some i = nv.ownBlock ∨ i = t) w w' → S w')
    (hN : ∀ x1 x2 v' w', Raw w' base t m v' av vs cl (ns ++ [u]) es l c → S w' → Mod (fun i => some i = nv.ownBlock ∨ i = t) w w' → N x1 x2 v' w') :
    IK Tryd.prog .append #[52, 52] 52 [false, false] [nv, x] w fun v' w => S w ∧ (HK Tryd.prog S (nilCk (pt t)) fun x1 => HK Tryd.prog S (do pure (Next.value (← Instr.fieldAt 71 x1 0))) fun x2 => UK Tryd.prog (Instr.storeAt 52 x2 v') w fun _ w => S w ∧ N x1 x2 v' w) := by
  have ht := hR.fld
  refine ap_own eSs hR.on hx (by decide) (by simpa using hu) (by unfold maxLen; omega) (by omega) (Nat.le_of_lt (Nat.lt_of_le_of_lt hR.lt ht)) fun v' w2 h2 hm2 h4 => ?_
  have hbt2 := hm2.blk hR.bt (fun q => hR.nt q.symm)
  refine ⟨hS _ (hm2.mono fun _ _ q => Or.inl q), HN_ptr (HV_of (fun w' _ => run_fo (off := 0) (by kernel_rfl) _ w') ?_)⟩
  rw [add_pl]
  have h1 : v'.oneCell' = true := by obtain ⟨_, ⟨rfl, _⟩ | ⟨g, cap, cur, rfl, _⟩⟩ := h2 <;> rfl
  refine stC (b := t) (o := 0 + 0) rfl (by kernel_rfl) h1 hbt2 (by simp) fun w3 hb3' hm3 hz3 => ?_
  have hvt : v'.ownBlock ≠ some t := by
    rcases h4 with h4 | h4
    · rw [h4]; exact hR.nt
    · rw [h4]; intro q; injection q with q; omega
  have hm13 : Mod (fun i => some i = nv.ownBlock ∨ i = t) w w3 := (hm2.mono fun _ _ q => Or.inl q).then hm3 fun _ _ q => Or.inr q
  have hs3 := hS w3 hm13
  refine ⟨hs3, hN _ _ _ _ ?_ hs3 hm13⟩
  refine ⟨hb3', (hR.bm.mod hm2 fun q => hR.nm q.symm).mod hm3 hR.tm, hR.lt, hR.lm, ?_, ?_⟩
  · rw [List.length_append]; exact owns_mod h2 hm3 (fun k hk q => hvt (q ▸ hk))
  · exact owns_mod (owns_mod hR.oa hm2 (fun k hk q => owns_ne hR.oa hR.on (by decide) k hk q)) hm3 (fun k hk q => hR.at (q ▸ hk))
/-- One of the arrs more. -/
theorem app_arrs {w : World} {base t m : Nat} {nv av : Value} {vs cl : Int} {ns es : List Value} {l : List (Ent Key)} {c : Nat} {S : World → Prop} {N : Value → Value → Value → World → Prop} (hR : Raw w base t m nv av vs cl ns es l c) {x u : Value} (hx : reads w 1 x 1 [u]) (hu : u.oneCell' = true) (hlen : es.length < 1099511627776)
    (hS : ∀ w', Mod (fun i => some i = av.ownBlock ∨ i = t) w w' → S w')
    (hN : ∀ x1 x2 v' w', Raw w' base t m nv v' vs cl ns (es ++ [u]) l c → S w' → Mod (fun i => some i = av.ownBlock ∨ i = t) w w' → N x1 x2 v' w') :
    IK Tryd.prog .append #[50, 50] 50 [false, false] [av, x] w fun v' w => S w ∧ (HK Tryd.prog S (nilCk (pt t)) fun x1 => HK Tryd.prog S (do pure (Next.value (← Instr.fieldAt 71 x1 3))) fun x2 => UK Tryd.prog (Instr.storeAt 50 x2 v') w fun _ w => S w ∧ N x1 x2 v' w) := by
  have ht := hR.fld
  refine ap_own eIs hR.oa hx (by decide) (by simpa using hu) (by unfold maxLen; omega) (by omega) (Nat.le_of_lt (Nat.lt_of_le_of_lt hR.lt ht)) fun v' w2 h2 hm2 h4 => ?_
  have hbt2 := hm2.blk hR.bt (fun q => hR.at q.symm)
  refine ⟨hS _ (hm2.mono fun _ _ q => Or.inl q), HN_ptr (HV_of (fun w' _ => run_fo (off := 3) (by kernel_rfl) _ w') ?_)⟩
  rw [add_pl]
  have h1 : v'.oneCell' = true := by obtain ⟨_, ⟨rfl, _⟩ | ⟨g, cap, cur, rfl, _⟩⟩ := h2 <;> rfl
  refine stC (b := t) (o := 0 + 3) rfl (by kernel_rfl) h1 hbt2 (by simp) fun w3 hb3' hm3 hz3 => ?_
  have hvt : v'.ownBlock ≠ some t := by
    rcases h4 with h4 | h4
    · rw [h4]; exact hR.at
    · rw [h4]; intro q; injection q with q; omega
  have hm13 : Mod (fun i => some i = av.ownBlock ∨ i = t) w w3 := (hm2.mono fun _ _ q => Or.inl q).then hm3 fun _ _ q => Or.inr q
  have hs3 := hS w3 hm13
  refine ⟨hs3, hN _ _ _ _ ?_ hs3 hm13⟩
  refine ⟨hb3', (hR.bm.mod hm2 fun q => hR.am q.symm).mod hm3 hR.tm, hR.lt, hR.lm, ?_, ?_⟩
  · exact owns_mod (owns_mod hR.on hm2 (fun k hk q => owns_ne hR.on hR.oa (by decide) k hk q)) hm3 (fun k hk q => hR.nt (q ▸ hk))
  · rw [List.length_append]; exact owns_mod h2 hm3 (fun k hk q => hvt (q ▸ hk))
theorem TbAt.raw {w : World} {base t : Nat} {ds : List De} (h : TbAt w base t ds) : ∃ nv av m l c, Raw w base t m nv av (vars ds) (cellsP ds) (ds.map fun d => .string d.name) ((arrs ds).map (.int .i64)) l c ∧ ∀ k, valE k l = (findP ds k).v := by
  obtain ⟨nv, av, m, l, c, h1, h2, h3, h4, h5, h6, h7⟩ := h.at'
  exact ⟨nv, av, m, l, c, ⟨h1, h2, h4, h5, by rw [List.length_map]; exact h6, by rw [List.length_map]; exact h7⟩, h3⟩
theorem Raw.tb {w : World} {base t : Nat} {ds : List De} {nv av : Value} {m : Nat} {l : List (Ent Key)} {c : Nat} (h : Raw w base t m nv av (vars ds) (cellsP ds) (ds.map fun d => .string d.name) ((arrs ds).map (.int .i64)) l c) (hv : ∀ k, valE k l = (findP ds k).v) : TbAt w base t ds :=
  ⟨⟨nv, av, m, l, c, h.bt, h.bm, hv, h.lt, h.lm, by have := h.on; rw [List.length_map] at this; exact this, by have := h.oa; rw [List.length_map] at this; exact this⟩⟩
theorem NKs {P : Program} {w : World} {K : Value → World → Prop} {x : Value} {a : Addr} (hx : x = .pointer (some a)) (hk : K (.pointer (some a)) w) : NK P x w K := by rw [hx, NK_ptr]; exact hk
theorem R10_W (z : Go.X.At) (K : Exit → Sl → World → Prop) (ρ : Sl) (w : World) : sx z Tryd.prog 101 scope_Table_declare_R10 K ρ w = W z Tryd.prog 101 scope_Table_declare_R10 K ρ w := by kernel_rfl
/-- Blocks that a table may have for its own: no declaration's. -/
def Own (w : World) (base i : Nat) : Prop := base ≤ i ∧ ∀ cs fr, w.heap[i]? ≠ some (.cells cs 40 fr)
theorem declare_ok {w : World} {base t : Nat} {ds : List De} {d : De} (ht : TbAt w base t ds) (hD : Decls ds) (hl : ds.length < 1099511627776) (hv : vars ds ≤ 64) (hc : cellsP ds ≤ 1000) (hdm : d.may = true) :
    Rt Tryd.prog 37 #[pt t, .agg d.cells.toArray] w fun v w' => v = .int .i64 (dstep ds d) ∧ (dstep ds d = 0 → TbAt w' base t (ds ++ [d])) ∧ Mod (Own w base) w w' := by
  obtain ⟨nv, av, m, l, c, hR, hval⟩ := ht.raw
  have hOt : Own w base t := ⟨hR.lt, fun cs fr q => by
    have := hR.bt.symm.trans q
    injection this with this
    injection this with _ this
    exact absurd this (by decide)⟩
  have hOm : Own w base m := ⟨hR.lm, fun cs fr q => by have := hR.bm.symm.trans q; cases this⟩
  have hOn : ∀ i, some i = nv.ownBlock → Own w base i := fun i q => ⟨owns_ge hR.on q.symm, fun cs fr q2 => owns_ne_blk hR.on q2 (by decide) q.symm⟩
  have hOa : ∀ i, some i = av.ownBlock → Own w base i := fun i q => ⟨owns_ge hR.oa q.symm, fun cs fr q2 => owns_ne_blk hR.oa q2 (by decide) q.symm⟩
  have hc0 := (cellsP_le hD.may).1
  have hp := may_places hdm
  refine scope_Table_declare_calls ?_
  unfold scope_Table_declare_F
  refine box_k (cs := d.cells.toArray) rfl fun w1 hb1 hm1 hz1 => ?_
  have hR1 := hR.mod hm1
  have hbt : base ≤ t := hR.lt
  have hltw : t < w.heap.size := hR.fld
  generalize hb3 : w.heap.size = b3 at *
  refine scope_Table_declare_R0_quiet (D := []) (fun w' => Mod none_ w1 w') ((Mod.refl _ w1).drawn _) ?_
  unfold scope_Table_declare_R0_Q
  refine QN_ptr (a := ⟨t, 0, none⟩) ?_
  refine Qfo (off := 1) (a := ⟨t, 0, none⟩) (by kernel_rfl) (Qld uMp rfl (v := .map (some m)) (fun w' hw => by rw [add_pl, cell_blk (hR1.mod hw).bt]; rfl) ?_)
  refine Qfo (off := 0) (a := ⟨b3, 0, none⟩) (by kernel_rfl) (Qld uSt rfl (v := .string d.name) (fun w' hw => by rw [add_pl, cell_blk (hw.blk hb1 id)]; rfl) ?_)
  refine QV_of (fun w' hw => look_run (hR1.mod hw).bm d.name) ?_
  refine QV_of (fun w' hw => build_run bEnt0) ?_
  rw [hval]
  refine QB_of (v := .bool (!decide (findP ds d.name.data.toList = zEn))) (fun w => run_eqGuard_agg w .neq _ _ _ _ _ gEn) (fun w => rEnN _ _ w) ?_
  intro w2 hm2
  have hR2 := hR1.mod hm2
  have hb2 := hm2.blk hb1 id
  have hm02 := hm1.trans hm2
  have up1 : ∀ {w'}, Mod none_ w w' → Mod (Own w base) w w' := fun h => h.mono fun _ _ q => q.elim
  rw [sq_n, scope_Table_declare_R1_eq]
  unfold scope_Table_declare_R1_F
  refine caseC (fun hq => ?_) (fun hq => ?_)
  · have hk : (findP ds d.key).kind ≠ 0 := fun e => by rw [show d.name.data.toList = d.key from rfl, findP_zero e] at hq; simp at hq
    have hs : dstep ds d = 40 := by unfold dstep; rw [if_pos hk]
    rw [hs]
    exact ⟨rfl, fun q => by simp at q, up1 hm02⟩
  have hk : (findP ds d.key).kind = 0 := by
    have : findP ds d.name.data.toList = zEn := by simpa using hq
    rw [show d.key = d.name.data.toList from rfl, this]; rfl
  have hds : dstep ds d = if full ds d then 4 else 0 := by unfold dstep; rw [if_neg (by simp [hk])]
  rw [hds]
  clear hm1 hm2 hR1 hb1 hq hds
  have hfld2 : ∀ (w' : World) (nv av : Value) (vs cl : Int) (ns es : List Value) (l : List (Ent Key)) (c : Nat), Raw w' base t m nv av vs cl ns es l c → ∀ (j : Nat) (v : Value), (#[nv, .map (some m), .int .i64 vs, av, .int .i64 cl] : Array Value)[j]? = some v → w'.cell? ⟨t, 0 + j, none⟩ = some v := fun w' nv av vs cl ns es l c h j v hj => by
    rw [cell_blk h.bt, Nat.zero_add]; exact hj
  -- names, the end
  have r8 : ∀ (ρ' : Sl) (w5 : World) (av' : Value) (l' : List (Ent Key)) (c' : Nat), Raw w5 base t m nv av' (vars (ds ++ [d])) (cellsP (ds ++ [d])) (ds.map fun d => .string d.name) ((arrs (ds ++ [d])).map (.int .i64)) l' c' → w5.heap[b3]? = some (.cells d.cells.toArray 40 (0, 0)) → Mod (Own w base) w w5 → (∀ k, valE k l' = (findP (ds ++ [d]) k).v) → full ds d = false → ρ' 0 = pt t → ρ' 3 = pt b3 →
      sx fn_ Tryd.prog 101 scope_Table_declare_R8 (retK Tryd.prog [ResultVar.tmp 4] fun v w' => v = .int .i64 (if full ds d then 4 else 0) ∧ ((if full ds d then (4 : Int) else 0) = 0 → TbAt w' base t (ds ++ [d])) ∧ Mod (Own w base) w w') ρ' w5 := by
    intro ρ' w5 av' l' c' hR5 hb5 hm5 hval5 hfull q0 q3
    rw [hfull, show (if (false : Bool) = true then (4 : Int) else 0) = 0 from rfl]
    rw [scope_Table_declare_R8_eq]
    unfold scope_Table_declare_R8_F
    have hRd := hR5.mod ((Mod.refl none_ w5).drawn (w5.drawn + 1))
    have hbd : ({ w5 with drawn := w5.drawn + 1 } : World).heap[b3]? = some (.cells d.cells.toArray 40 (0, 0)) := hb5
    have hmd : Mod (Own w base) w { w5 with drawn := w5.drawn + 1 } := hm5.drawn _
    refine scope_Table_declare_R11_held (D := []) (fun w' => w'.heap[b3]? = some (.cells d.cells.toArray 40 (0, 0))) hb5 ?_
    unfold scope_Table_declare_R11_H
    generalize ({ w5 with drawn := w5.drawn + 1 } : World) = wd at hRd hbd hmd ⊢
    rw [q0, q3]
    have hend : ∀ (ρ2 : Sl) (x' : Value) (w' : World), Raw w' base t m x' av' (vars (ds ++ [d])) (cellsP (ds ++ [d])) ((ds.map fun d => .string d.name) ++ [.string d.name]) ((arrs (ds ++ [d])).map (.int .i64)) l' c' → Mod (Own w base) wd w' →
        seqK (sx fn_ Tryd.prog 101 scope_Table_declare_R12 (retK Tryd.prog [ResultVar.tmp 4] fun v w' => v = .int .i64 0 ∧ ((0 : Int) = 0 → TbAt w' base t (ds ++ [d])) ∧ Mod (Own w base) w w')) (retK Tryd.prog [ResultVar.tmp 4] fun v w' => v = .int .i64 0 ∧ ((0 : Int) = 0 → TbAt w' base t (ds ++ [d])) ∧ Mod (Own w base) w w') .normal ρ2 w' := by
      intro ρ2 x' w' hRe hme
      rw [sq_n, scope_Table_declare_R12_eq]
      unfold scope_Table_declare_R12_F
      have hRe' : Raw w' base t m x' av' (vars (ds ++ [d])) (cellsP (ds ++ [d])) ((ds ++ [d]).map fun d => .string d.name) ((arrs (ds ++ [d])).map (.int .i64)) l' c' := by rw [List.map_append]; exact hRe
      exact ⟨rfl, fun _ => hRe'.tb hval5, hmd.trans hme⟩
    have hn3 : t ≠ b3 := by omega
    have hnb : nv.ownBlock ≠ some b3 := owns_ne_blk hRd.on hbd (by decide)
    refine HN_ptr (HV_of (fun w' _ => run_fo (off := 0) (by kernel_rfl) _ w') (HV_of (fun w' _ => run_fo (off := 0) (by kernel_rfl) _ w') (HV_of (fun w' hw => run_ld1 uSt rfl (v := .string d.name) (by rw [add_pl, cell_blk hw]; rfl)) ⟨?_, ?_⟩)))
    · refine ld1 (v := nv) uSs rfl (by rw [add_pl]; exact hfld2 _ _ _ _ _ _ _ _ _ hRd 0 nv rfl) ⟨hbd, ?_⟩
      refine bs_k (cs := #[.string d.name]) (by kernel_rfl) fun w6 hb6 hm6 hz6 => ⟨hm6.blk hbd id, ?_⟩
      exact app_names (hRd.mod hm6) (by simpa using reads_blk (size := 1) (n := 1) hb6 rfl) rfl (by rw [List.length_map]; omega) (fun w' h => h.blk (hm6.blk hbd id) (by rintro (q | q); exact hnb q.symm; exact hn3 q.symm)) fun x1 x2 v' w' hRe hS hme => hend _ v' w' hRe ((hm6.mono fun _ _ q => q.elim).trans (hme.mono fun i _ q => q.elim (hOn i) fun e => by rw [e]; exact hOt))
    · refine bs_k (cs := #[.string d.name]) (by kernel_rfl) fun w6 hb6 hm6 hz6 => ⟨hm6.blk hbd id, ?_⟩
      refine ld1 (v := nv) uSs rfl (by rw [add_pl]; exact hfld2 _ _ _ _ _ _ _ _ _ (hRd.mod hm6) 0 nv rfl) ⟨hm6.blk hbd id, ?_⟩
      exact app_names (hRd.mod hm6) (by simpa using reads_blk (size := 1) (n := 1) hb6 rfl) rfl (by rw [List.length_map]; omega) (fun w' h => h.blk (hm6.blk hbd id) (by rintro (q | q); exact hnb q.symm; exact hn3 q.symm)) fun x1 x2 v' w' hRe hS hme => hend _ v' w' hRe ((hm6.mono fun _ _ q => q.elim).trans (hme.mono fun i _ q => q.elim (hOn i) fun e => by rw [e]; exact hOt))
  -- the map
  have r5 : ∀ (ρ' : Sl) (w4 : World) (av' : Value) (b5 : Nat), Raw w4 base t m nv av' (vars (ds ++ [d])) (cellsP (ds ++ [d])) (ds.map fun d => .string d.name) ((arrs (ds ++ [d])).map (.int .i64)) l c → w4.heap[b3]? = some (.cells d.cells.toArray 40 (0, 0)) → w4.heap[b5]? = some (.cells (nu ds d).cells.toArray 37 (0, 0)) → Mod (Own w base) w w4 → full ds d = false → ρ' 0 = pt t → ρ' 3 = pt b3 → ρ' 5 = pt b5 →
      sx fn_ Tryd.prog 101 scope_Table_declare_R5 (retK Tryd.prog [ResultVar.tmp 4] fun v w' => v = .int .i64 (if full ds d then 4 else 0) ∧ ((if full ds d then (4 : Int) else 0) = 0 → TbAt w' base t (ds ++ [d])) ∧ Mod (Own w base) w w') ρ' w4 := by
    intro ρ' w4 av' b5 hR4 hb4 hb5 hm4 hfull q0 q3 q5
    rw [scope_Table_declare_R5_eq]
    unfold scope_Table_declare_R5_F
    refine scope_Table_declare_R7_tail (D := []) ?_
    unfold scope_Table_declare_R7_T
    have hRd := hR4.mod ((Mod.refl none_ w4).drawn (w4.drawn + 1))
    have hbd : ({ w4 with drawn := w4.drawn + 1 } : World).heap[b3]? = some (.cells d.cells.toArray 40 (0, 0)) := hb4
    have hbd5 : ({ w4 with drawn := w4.drawn + 1 } : World).heap[b5]? = some (.cells (nu ds d).cells.toArray 37 (0, 0)) := hb5
    have hmd : Mod (Own w base) w { w4 with drawn := w4.drawn + 1 } := hm4.drawn _
    generalize ({ w4 with drawn := w4.drawn + 1 } : World) = wd at hRd hbd hbd5 hmd ⊢
    rw [q0, q3, q5]
    dsimp only
    refine QN_ptr (a := ⟨t, 0, none⟩) ?_
    refine Qfo (off := 1) (a := ⟨t, 0, none⟩) (by kernel_rfl) (Qld uMp rfl (v := .map (some m)) (fun w' hw => by rw [hw, add_pl]; exact hfld2 _ _ _ _ _ _ _ _ _ hRd 1 _ rfl) ?_)
    refine Qfo (off := 0) (a := ⟨b3, 0, none⟩) (by kernel_rfl) (Qld uSt rfl (v := .string d.name) (fun w' hw => by rw [hw, add_pl, cell_blk hbd]; rfl) ?_)
    refine QV_of (v := (nu ds d).v) (fun w' hw => by rw [hw]; exact run_ldB (cs := (nu ds d).cells.toArray) Tryd.underlying37 rfl iEnt hbd5) ?_
    obtain ⟨w5, hrun, hIs, hm5⟩ := run_put KT uMap hRd.bm d.key (nu ds d).v
    rw [show encK d.key = .string d.name from encK_of d.name] at hrun
    refine UK_of hrun ?_
    have hn0 : m ≠ b3 := by
      rintro rfl
      have := hRd.bm.symm.trans hbd
      cases this
    rw [sq_n]
    refine r8 _ w5 av' _ _ ⟨hm5.blk hRd.bt (fun q => hRd.tm q.symm), hIs, hRd.lt, hRd.lm, owns_mod hRd.on hm5 (fun k hk q => hRd.nm (q ▸ hk)), owns_mod hRd.oa hm5 (fun k hk q => hRd.am (q ▸ hk))⟩ (hm5.blk hbd fun q => hn0 q.symm) (hmd.then hm5 fun i _ q => by rw [q]; exact hOm) ?_ hfull ?_ ?_
    · intro k
      rw [valE_put, findP_snoc hk, hval]
      by_cases q : k = d.key <;> simp [q]
    · exact q0
    · exact q3
  have hnotV : ∀ (q : d.places ≠ 0), isV d = false := fun q => decide_eq_false q
  have hisV : ∀ (q : d.places = 0), isV d = true := fun q => decide_eq_true q
  -- the counters
  have r6 : ∀ (ρ' : Sl) (w4 : World) (b5 : Nat) (f : Bool), Raw w4 base t m nv av (vars ds) (cellsP ds) (ds.map fun d => .string d.name) ((arrs ds).map (.int .i64)) l c → w4.heap[b3]? = some (.cells d.cells.toArray 40 (0, 0)) → w4.heap[b5]? = some (.cells (nu ds d).cells.toArray 37 (0, 0)) → Mod (Own w base) w w4 → f = full ds d → ρ' 55 = .bool f → ρ' 0 = pt t → ρ' 3 = pt b3 → ρ' 5 = pt b5 →
      sx fn_ Tryd.prog 101 scope_Table_declare_R6 (blkK 0 (seqK (sx fn_ Tryd.prog 101 scope_Table_declare_R5 (retK Tryd.prog [ResultVar.tmp 4] fun v w' => v = .int .i64 (if full ds d then 4 else 0) ∧ ((if full ds d then (4 : Int) else 0) = 0 → TbAt w' base t (ds ++ [d])) ∧ Mod (Own w base) w w')) (retK Tryd.prog [ResultVar.tmp 4] fun v w' => v = .int .i64 (if full ds d then 4 else 0) ∧ ((if full ds d then (4 : Int) else 0) = 0 → TbAt w' base t (ds ++ [d])) ∧ Mod (Own w base) w w'))) ρ' w4 := by
    intro ρ' w4 b5 f hR4 hb4 hb5 hm4 hf q55 q0 q3 q5
    rw [scope_Table_declare_R6_eq]
    unfold scope_Table_declare_R6_F
    have hn5 : t ≠ b5 := by
      rintro rfl
      have := hR4.bt.symm.trans hb5
      injection this with this
      injection this with _ this
      exact absurd this (by decide)
    have hn3 : t ≠ b3 := by omega
    refine caseN q55 (fun hp => ?_) (fun hp => ?_)
    · rw [bk_r, sq_r]
      rw [← hf, hp]
      exact ⟨rfl, fun q => by simp at q, hm4⟩
    · rw [hp] at hf
      have g0 : FAt Tryd.prog w4 37 0 ⟨b5, 0, none⟩ 5 (.int .u8 (nu ds d).kind) := FAt.mk' (off := 0) (by kernel_rfl) uU8 rfl (by rw [add_pl, cell_blk hb5]; rfl)
      refine g0.vs q5 fun x73 => ?_
      by_cases hpl : d.places = 0
      · have hnu : nu ds d = ⟨1, vars ds, 0, 0⟩ := by unfold nu; rw [if_pos hpl]
        rw [hnu]
        refine BKeqI (a := 1) (b := 1) rfl rfl (fun _ => condT ?_) (fun q => absurd rfl q)
        rw [q0, NK_ptr]
        have g2 : FAt Tryd.prog w4 71 2 ⟨t, 0, none⟩ 3 (.int .i64 (vars ds)) := FAt.mk' (off := 2) (by kernel_rfl) uI rfl (by rw [add_pl]; exact hfld2 _ _ _ _ _ _ _ _ _ hR4 2 _ rfl)
        refine g2.vk' fun x78 => ?_
        refine BKadd (a := vars ds) (b := 1) rfl rfl (by omega) (by omega) ?_
        rw [NK_ptr, fo71_2, add_pl]
        refine stC (b := t) (o := 0 + 2) rfl (by kernel_rfl) rfl hR4.bt (by simp) fun w5 hb5' hm5 _ => ?_
        have hR5 := hR4.setT (nv' := nv) (av' := av) (vs' := (vars ds : Int) + 1) (cl' := cellsP ds) hm5 hb5' rfl rfl
        rw [bk_n, sq_n]
        refine r5 _ w5 av b5 ?_ (hm5.blk hb4 fun q => hn3 q.symm) (hm5.blk hb5 fun q => hn5 q.symm) (hm4.then hm5 fun i _ q => by rw [q]; exact hOt) hf.symm ?_ ?_ ?_
        · have e1 : (vars (ds ++ [d]) : Int) = (vars ds : Int) + 1 := by rw [vars_snoc, hisV hpl]; simp
          have e2 : cellsP (ds ++ [d]) = cellsP ds := by rw [cellsP_snoc, hpl, Int.add_zero]
          have e3 : arrs (ds ++ [d]) = arrs ds := by rw [arrs_snoc, hisV hpl]; simp
          rw [e1, e2, e3]; exact hR5
        · exact q0
        · exact q3
        · exact q5
      · have hnu : nu ds d = ⟨2, (arrs ds).length, cellsP ds, d.places⟩ := by unfold nu; rw [if_neg hpl]
        have hle : cellsP ds + d.places ≤ 1000 := by
          unfold full at hf
          rw [if_neg hpl] at hf
          have := of_decide_eq_false hf.symm
          omega
        rw [show (nu ds d).kind = 2 by rw [hnu]]
        refine BKeqI (a := 2) (b := 1) rfl rfl (fun q => absurd q (by decide)) (fun _ => condF ?_)
        have h9 : ∀ (KK : Exit → Sl → World → Prop), (∀ (ρ2 : Sl) (w6 : World) (x' : Value), ρ2 0 = pt t → ρ2 3 = pt b3 → ρ2 5 = pt b5 → Raw w6 base t m nv x' (vars (ds ++ [d])) (cellsP (ds ++ [d])) (ds.map fun d => .string d.name) ((arrs (ds ++ [d])).map (.int .i64)) l c → w6.heap[b3]? = some (.cells d.cells.toArray 40 (0, 0)) → w6.heap[b5]? = some (.cells (nu ds d).cells.toArray 37 (0, 0)) → Mod (Own w base) w w6 → KK .normal ρ2 w6) →
            ∀ (ρ9 : Sl), ρ9 0 = pt t → ρ9 3 = pt b3 → ρ9 5 = pt b5 → W fn_ Tryd.prog 101 scope_Table_declare_R9 (seqK (sx fn_ Tryd.prog 101 scope_Table_declare_R10 KK) KK) ρ9 w4 := by
          intro KK kN ρ9 q0 q3 q5
          refine scope_Table_declare_R9_held (D := []) (fun w' => w'.heap[b3]? = some (.cells d.cells.toArray 40 (0, 0)) ∧ w'.heap[b5]? = some (.cells (nu ds d).cells.toArray 37 (0, 0))) ⟨hb4, hb5⟩ ?_
          unfold scope_Table_declare_R9_H
          have hRd := hR4.mod ((Mod.refl none_ w4).drawn (w4.drawn + 1))
          have hbd : ({ w4 with drawn := w4.drawn + 1 } : World).heap[b3]? = some (.cells d.cells.toArray 40 (0, 0)) := hb4
          have hbd5 : ({ w4 with drawn := w4.drawn + 1 } : World).heap[b5]? = some (.cells (nu ds d).cells.toArray 37 (0, 0)) := hb5
          have hmd : Mod (Own w base) w { w4 with drawn := w4.drawn + 1 } := hm4.drawn _
          generalize ({ w4 with drawn := w4.drawn + 1 } : World) = wd at hRd hbd hbd5 hmd ⊢
          have e1 : (vars (ds ++ [d]) : Int) = (vars ds : Int) := by rw [vars_snoc, hnotV hpl]; simp
          have e2 : cellsP (ds ++ [d]) = cellsP ds + d.places := by rw [cellsP_snoc]
          have e3 : (arrs (ds ++ [d])).map (.int .i64) = (arrs ds).map (Value.int .i64) ++ [.int .i64 d.places] := by rw [arrs_snoc, hnotV hpl]; simp
          have hav5 : av.ownBlock ≠ some b5 := owns_ne_blk hRd.oa hbd5 (by decide)
          have hend : ∀ (ρ2 : Sl) (x' : Value) (w5 : World), ρ2 0 = pt t → ρ2 3 = pt b3 → ρ2 5 = pt b5 → Raw w5 base t m nv x' (vars ds) (cellsP ds) (ds.map fun d => .string d.name) ((arrs ds).map (Value.int .i64) ++ [.int .i64 d.places]) l c → w5.heap[b3]? = some (.cells d.cells.toArray 40 (0, 0)) → w5.heap[b5]? = some (.cells (nu ds d).cells.toArray 37 (0, 0)) → Mod (Own w base) w w5 →
              sx fn_ Tryd.prog 101 scope_Table_declare_R10 KK ρ2 w5 := by
            intro ρ2 x' w5 q0 q3 q5 hR5 hb53 hb55 hm5
            rw [R10_W]
            refine scope_Table_declare_R10_held (D := []) (fun w' => w'.heap[b3]? = some (.cells d.cells.toArray 40 (0, 0))) hb53 ?_
            unfold scope_Table_declare_R10_H
            have hRd := hR5.mod ((Mod.refl none_ w5).drawn (w5.drawn + 1))
            have hbd : ({ w5 with drawn := w5.drawn + 1 } : World).heap[b3]? = some (.cells d.cells.toArray 40 (0, 0)) := hb53
            have hbd5 : ({ w5 with drawn := w5.drawn + 1 } : World).heap[b5]? = some (.cells (nu ds d).cells.toArray 37 (0, 0)) := hb55
            have hmd : Mod (Own w base) w { w5 with drawn := w5.drawn + 1 } := hm5.drawn _
            generalize ({ w5 with drawn := w5.drawn + 1 } : World) = wd at hRd hbd hbd5 hmd ⊢
            rw [q0, q3]
            refine HN_ptr (HV_of (fun w' _ => run_fo (off := 4) (by kernel_rfl) _ w') (HV_of (fun w' _ => run_fo (off := 1) (by kernel_rfl) _ w') (HV_of (fun w' hw => run_ld1 uI rfl (v := .int .i64 d.places) (by rw [add_pl, cell_blk hw]; rfl)) ?_)))
            refine ld1 (v := .int .i64 (cellsP ds)) uI rfl (by rw [add_pl]; exact hfld2 _ _ _ _ _ _ _ _ _ hRd 4 _ rfl) ⟨hbd, ?_⟩
            refine HB_of (v := .int .i64 (cellsP ds + d.places)) (fun _ => rfl) (fun w => by have := wrap_i (n := cellsP ds + d.places) (by omega) (by omega); simp [go_sem, this]) ?_
            refine HN_ptr (HV_of (fun w' _ => run_fo (off := 4) (by kernel_rfl) _ w') ?_)
            rw [add_pl]
            refine stC (b := t) (o := 0 + 4) rfl (by kernel_rfl) rfl hRd.bt (by simp) fun w6 hb6 hm6 _ => ?_
            refine ⟨hm6.blk hbd fun q => hn3 q.symm, ?_⟩
            have hR6 := hRd.setT (nv' := nv) (av' := x') (vs' := (vars ds : Int)) (cl' := cellsP ds + d.places) hm6 hb6 rfl rfl
            refine kN _ w6 x' ?_ ?_ ?_ ?_ (hm6.blk hbd fun q => hn3 q.symm) (hm6.blk hbd5 fun q => hn5 q.symm) (hmd.then hm6 fun i _ q => by rw [q]; exact hOt)
            · exact q0
            · exact q3
            · exact q5
            · rw [e1, e2, e3]; exact hR6
          have hnb : av.ownBlock ≠ some b3 := owns_ne_blk hRd.oa hbd (by decide)
          have keep : ∀ w6, Mod none_ wd w6 → ∀ w', Mod (fun i => some i = av.ownBlock ∨ i = t) w6 w' → w'.heap[b3]? = some (.cells d.cells.toArray 40 (0, 0)) ∧ w'.heap[b5]? = some (.cells (nu ds d).cells.toArray 37 (0, 0)) := fun w6 h6 w' h => ⟨h.blk (h6.blk hbd id) (by rintro (q | q); exact hnb q.symm; exact hn3 q.symm), h.blk (h6.blk hbd5 id) (by rintro (q | q); exact hav5 q.symm; exact hn5 q.symm)⟩
          rw [q0, q3]
          refine HN_ptr (HV_of (fun w' _ => run_fo (off := 3) (by kernel_rfl) _ w') (HV_of (fun w' _ => run_fo (off := 1) (by kernel_rfl) _ w') (HV_of (fun w' hw => run_ld1 uI rfl (v := .int .i64 d.places) (by rw [add_pl, cell_blk hw.1]; rfl)) ⟨?_, ?_⟩)))
          · refine ld1 (v := av) uIs rfl (by rw [add_pl]; exact hfld2 _ _ _ _ _ _ _ _ _ hRd 3 _ rfl) ⟨⟨hbd, hbd5⟩, ?_⟩
            refine bs_k (cs := #[.int .i64 d.places]) (by kernel_rfl) fun w6 hb6 hm6 hz6 => ⟨⟨hm6.blk hbd id, hm6.blk hbd5 id⟩, ?_⟩
            refine app_arrs (hRd.mod hm6) (by simpa using reads_blk (size := 1) (n := 1) hb6 rfl) rfl (by have := arrs_le ds; rw [List.length_map]; omega) (keep w6 hm6) fun x1 x2 v' w' hRe hS hme => ?_
            rw [sq_n]
            refine hend _ v' w' ?_ ?_ ?_ hRe hS.1 hS.2 (hmd.trans ((hm6.mono fun _ _ q => q.elim).trans (hme.mono fun i _ q => q.elim (hOa i) fun e => by rw [e]; exact hOt)))
            · exact q0
            · exact q3
            · exact q5
          · refine bs_k (cs := #[.int .i64 d.places]) (by kernel_rfl) fun w6 hb6 hm6 hz6 => ⟨⟨hm6.blk hbd id, hm6.blk hbd5 id⟩, ?_⟩
            refine ld1 (v := av) uIs rfl (by rw [add_pl]; exact hfld2 _ _ _ _ _ _ _ _ _ (hRd.mod hm6) 3 _ rfl) ⟨⟨hm6.blk hbd id, hm6.blk hbd5 id⟩, ?_⟩
            refine app_arrs (hRd.mod hm6) (by simpa using reads_blk (size := 1) (n := 1) hb6 rfl) rfl (by have := arrs_le ds; rw [List.length_map]; omega) (keep w6 hm6) fun x1 x2 v' w' hRe hS hme => ?_
            rw [sq_n]
            refine hend _ v' w' ?_ ?_ ?_ hRe hS.1 hS.2 (hmd.trans ((hm6.mono fun _ _ q => q.elim).trans (hme.mono fun i _ q => q.elim (hOa i) fun e => by rw [e]; exact hOt)))
            · exact q0
            · exact q3
            · exact q5
        refine h9 _ (fun ρ2 w6 x' q0 q3 q5 hR6 h3 h5 hm6 => ?_) _ ?_ ?_ ?_
        · rw [bk_n, sq_n]
          exact r5 _ w6 x' b5 hR6 h3 h5 hm6 hf.symm q0 q3 q5
        · exact q0
        · exact q3
        · exact q5
  have kv : ∀ (q : d.places = 0), nu ds d = ⟨1, vars ds, 0, 0⟩ := fun q => by unfold nu; rw [if_pos q]
  have ka : ∀ (q : d.places ≠ 0), nu ds d = ⟨2, (arrs ds).length, cellsP ds, d.places⟩ := fun q => by unfold nu; rw [if_neg q]
  have r3 : ∀ (ρ' : Sl) (w4 : World) (b5 : Nat), Raw w4 base t m nv av (vars ds) (cellsP ds) (ds.map fun d => .string d.name) ((arrs ds).map (.int .i64)) l c → w4.heap[b3]? = some (.cells d.cells.toArray 40 (0, 0)) → w4.heap[b5]? = some (.cells (nu ds d).cells.toArray 37 (0, 0)) → Mod (Own w base) w w4 → ρ' 0 = pt t → ρ' 3 = pt b3 → ρ' 5 = pt b5 →
      sx fn_ Tryd.prog 101 scope_Table_declare_R3 (retK Tryd.prog [ResultVar.tmp 4] fun v w' => v = .int .i64 (if full ds d then 4 else 0) ∧ ((if full ds d then (4 : Int) else 0) = 0 → TbAt w' base t (ds ++ [d])) ∧ Mod (Own w base) w w') ρ' w4 := by
    intro ρ' w4 b5 hR4 hb4 hb5 hm4 q0 q3 q5
    rw [scope_Table_declare_R3_eq]
    unfold scope_Table_declare_R3_F
    have g0 : FAt Tryd.prog w4 37 0 ⟨b5, 0, none⟩ 5 (.int .u8 (nu ds d).kind) := FAt.mk' (off := 0) (by kernel_rfl) uU8 rfl (by rw [add_pl, cell_blk hb5]; rfl)
    have g2 : FAt Tryd.prog w4 37 2 ⟨b5, 0, none⟩ 3 (.int .i64 (nu ds d).base) := FAt.mk' (off := 2) (by kernel_rfl) uI rfl (by rw [add_pl, cell_blk hb5]; rfl)
    have g3 : FAt Tryd.prog w4 37 3 ⟨b5, 0, none⟩ 3 (.int .i64 (nu ds d).places) := FAt.mk' (off := 3) (by kernel_rfl) uI rfl (by rw [add_pl, cell_blk hb5]; rfl)
    have gv : FAt Tryd.prog w4 71 2 ⟨t, 0, none⟩ 3 (.int .i64 (vars ds)) := FAt.mk' (off := 2) (by kernel_rfl) uI rfl (by rw [add_pl]; exact hfld2 _ _ _ _ _ _ _ _ _ hR4 2 _ rfl)
    refine g0.vs q5 fun x56 => ?_
    by_cases hpl : d.places = 0
    · rw [show (nu ds d).kind = 1 by rw [kv hpl]]
      refine BKeqI (a := 1) (b := 1) rfl rfl (fun _ => ?_) (fun q => absurd rfl q)
      rw [q0]
      simp only [CondK_bool, MG_u, NG_u, VG_u, UG_u, PG_u, BG_u, CG_u, IG_u, MG_b, NG_b, VG_b, UG_b, PG_b, BG_b, CG_b, IG_b, PK_bool, NK_ptr, not_ok, reduceCtorEq, if_true, if_false, Bool.true_eq_false, Bool.false_eq_true, Bool.not_true, Bool.not_false]
      refine gv.vk' fun x62 => ?_
      have hfull : full ds d = decide (vars ds = 64) := by unfold full; rw [if_pos hpl]
      refine BKeqI (a := vars ds) (b := 64) rfl rfl (fun q => ?_) (fun q => ?_)
      · have hq : vars ds = 64 := by omega
        simp only [CondK_bool, MG_u, NG_u, VG_u, UG_u, PG_u, BG_u, CG_u, IG_u, MG_b, NG_b, VG_b, UG_b, PG_b, BG_b, CG_b, IG_b, PK_bool, NK_ptr, not_ok, reduceCtorEq, if_true, if_false, Bool.true_eq_false, Bool.false_eq_true, Bool.not_true, Bool.not_false]
        refine r6 _ w4 b5 true hR4 hb4 hb5 hm4 (by rw [hfull, decide_eq_true hq]) rfl ?_ ?_ ?_
        · exact q0
        · exact q3
        · exact q5
      · have hq : vars ds ≠ 64 := by omega
        simp only [CondK_bool, MG_u, NG_u, VG_u, UG_u, PG_u, BG_u, CG_u, IG_u, MG_b, NG_b, VG_b, UG_b, PG_b, BG_b, CG_b, IG_b, PK_bool, NK_ptr, not_ok, reduceCtorEq, if_true, if_false, Bool.true_eq_false, Bool.false_eq_true, Bool.not_true, Bool.not_false]
        refine g2.vs q5 fun x66 => g3.vs q5 fun x68 => ?_
        rw [show (nu ds d).base = 0 by rw [kv hpl], show (nu ds d).places = 0 by rw [kv hpl]]
        refine BKadd (a := 0) (b := 0) rfl rfl (by decide) (by decide) ?_
        refine BKgtr (a := 0 + 0) (b := 1000) rfl rfl ?_
        refine r6 _ w4 b5 false hR4 hb4 hb5 hm4 (by rw [hfull, decide_eq_false hq]) rfl ?_ ?_ ?_
        · exact q0
        · exact q3
        · exact q5
    · rw [show (nu ds d).kind = 2 by rw [ka hpl]]
      refine BKeqI (a := 2) (b := 1) rfl rfl (fun q => absurd q (by decide)) (fun _ => ?_)
      simp only [CondK_bool, MG_u, NG_u, VG_u, UG_u, PG_u, BG_u, CG_u, IG_u, MG_b, NG_b, VG_b, UG_b, PG_b, BG_b, CG_b, IG_b, PK_bool, NK_ptr, not_ok, reduceCtorEq, if_true, if_false, Bool.true_eq_false, Bool.false_eq_true, Bool.not_true, Bool.not_false]
      have hfull : full ds d = decide (1000 < cellsP ds + d.places) := by unfold full; rw [if_neg hpl]
      refine g2.vs q5 fun x66 => g3.vs q5 fun x68 => ?_
      rw [show (nu ds d).base = cellsP ds by rw [ka hpl], show (nu ds d).places = d.places by rw [ka hpl]]
      refine BKadd (a := cellsP ds) (b := d.places) rfl rfl (by omega) (by omega) ?_
      refine BKgtr (a := cellsP ds + d.places) (b := 1000) rfl rfl ?_
      refine r6 _ w4 b5 (decide (1000 < cellsP ds + d.places)) hR4 hb4 hb5 hm4 hfull.symm rfl ?_ ?_ ?_
      · exact q0
      · exact q3
      · exact q5
  have r2 : ∀ (ρ' : Sl), ρ' 0 = pt t → ρ' 3 = pt b3 →
      sx fn_ Tryd.prog 101 scope_Table_declare_R2 (retK Tryd.prog [ResultVar.tmp 4] fun v w' => v = .int .i64 (if full ds d then 4 else 0) ∧ ((if full ds d then (4 : Int) else 0) = 0 → TbAt w' base t (ds ++ [d])) ∧ Mod (Own w base) w w') ρ' w2 := by
    intro ρ' q0 q3
    rw [scope_Table_declare_R2_eq]
    unfold scope_Table_declare_R2_F
    have gv : FAt Tryd.prog w2 71 2 ⟨t, 0, none⟩ 3 (.int .i64 (vars ds)) := FAt.mk' (off := 2) (by kernel_rfl) uI rfl (by rw [add_pl]; exact hfld2 _ _ _ _ _ _ _ _ _ hR2 2 _ rfl)
    refine NKs q0 ?_
    refine gv.vk' fun x17 => ?_
    rw [build_ok (bEnt1 _)]
    refine lcl_k (cs := (En.mk 1 (vars ds) 0 0).cells.toArray) zEnt _ iEnt rfl (en_one _) fun w3 hb3' hm3 hz3 => ?_
    have hR3 := hR2.mod hm3
    have hb23 := hm3.blk hb2 id
    have hm03 := hm02.trans hm3
    have hlt5 : b3 < w2.heap.size := X.blk_lt hb2
    generalize w2.heap.size = b5 at *
    have gp : FAt Tryd.prog w3 40 1 ⟨b3, 0, none⟩ 3 (.int .i64 d.places) := FAt.mk' (off := 1) (by kernel_rfl) uI rfl (by rw [add_pl, cell_blk hb23]; rfl)
    refine gp.vs q3 fun x20 => ?_
    refine BKgtr (a := d.places) (b := 0) rfl rfl ?_
    refine caseC (fun hpp => ?_) (fun hpp => ?_)
    · have hpl : d.places ≠ 0 := by have := of_decide_eq_true hpp; omega
      have h4 : ∀ (KK : Exit → Sl → World → Prop), (∀ (ρ5 : Sl) (w5 : World), ρ5 0 = pt t → ρ5 3 = pt b3 → ρ5 5 = pt b5 → Raw w5 base t m nv av (vars ds) (cellsP ds) (ds.map fun d => .string d.name) ((arrs ds).map (.int .i64)) l c → w5.heap[b3]? = some (.cells d.cells.toArray 40 (0, 0)) → w5.heap[b5]? = some (.cells (nu ds d).cells.toArray 37 (0, 0)) → Mod (Own w base) w w5 → KK .normal ρ5 w5) →
          ∀ (ρ4 : Sl), ρ4 0 = pt t → ρ4 3 = pt b3 → ρ4 5 = pt b5 → W fn_ Tryd.prog 101 scope_Table_declare_R4 KK ρ4 w3 := by
        intro KK kN ρ4 q0 q3 q5
        refine scope_Table_declare_R4_tail (D := []) ?_
        unfold scope_Table_declare_R4_T
        have hRd := hR3.mod ((Mod.refl none_ w3).drawn (w3.drawn + 1))
        have hbd : ({ w3 with drawn := w3.drawn + 1 } : World).heap[b3]? = some (.cells d.cells.toArray 40 (0, 0)) := hb23
        have hbd5 : ({ w3 with drawn := w3.drawn + 1 } : World).heap[b5]? = some (.cells (En.mk 1 (vars ds) 0 0).cells.toArray 37 (0, 0)) := hb3'
        have hmd : Mod none_ w { w3 with drawn := w3.drawn + 1 } := hm03.drawn _
        generalize ({ w3 with drawn := w3.drawn + 1 } : World) = wd at hRd hbd hbd5 hmd ⊢
        obtain ⟨Aa, ca, hav, _⟩ := reads_cap (reads_of_owns hRd.oa)
        dsimp only
        rw [q0, q3]
        refine QN_ptr (a := ⟨t, 0, none⟩) ?_
        refine Qfo (off := 3) (a := ⟨t, 0, none⟩) (by kernel_rfl) (Qld uIs rfl (v := .slice Aa ((arrs ds).map (Value.int .i64)).length ca) (fun w' hw => by rw [hw, add_pl, ← hav]; exact hfld2 _ _ _ _ _ _ _ _ _ hRd 3 _ rfl) ?_)
        refine QI_len uIs _ _ _ _ ?_
        refine QN_ptr (a := ⟨t, 0, none⟩) ?_
        refine Qfo (off := 4) (a := ⟨t, 0, none⟩) (by kernel_rfl) (Qld uI rfl (v := .int .i64 (cellsP ds)) (fun w' hw => by rw [hw, add_pl]; exact hfld2 _ _ _ _ _ _ _ _ _ hRd 4 _ rfl) ?_)
        refine Qfo (off := 1) (a := ⟨b3, 0, none⟩) (by kernel_rfl) (Qld uI rfl (v := .int .i64 d.places) (fun w' hw => by rw [hw, add_pl, cell_blk hbd]; rfl) ?_)
        rw [build_ok (bEnt2 _ _ _), List.length_map]
        refine stS (b := b5) (old := (En.mk 1 (vars ds) 0 0).cells.toArray) (cs := (nu ds d).cells.toArray) ?_ ?_ iEnt rfl (en_one _) hbd5 fun w5 hb55 hm5 _ => ?_
        · exact q5
        · rw [ka hpl]
        have hn5 : b5 ≠ t ∧ b5 ≠ b3 ∧ b5 ≠ m := by
          refine ⟨?_, ?_, ?_⟩
          · rintro rfl
            have := hRd.bt.symm.trans hbd5
            injection this with this
            injection this with _ this
            exact absurd this (by decide)
          · rintro rfl
            have := hbd.symm.trans hbd5
            injection this with this
            injection this with _ this
            exact absurd this (by decide)
          · rintro rfl
            have := hRd.bm.symm.trans hbd5
            cases this
        have hR5 : Raw w5 base t m nv av (vars ds) (cellsP ds) (ds.map fun d => .string d.name) ((arrs ds).map (.int .i64)) l c :=
          ⟨hm5.blk hRd.bt hn5.1.symm, hRd.bm.mod hm5 hn5.2.2.symm, hRd.lt, hRd.lm, owns_mod hRd.on hm5 (fun k hk q => owns_ne_blk hRd.on hbd5 (by decide) (q ▸ hk)), owns_mod hRd.oa hm5 (fun k hk q => owns_ne_blk hRd.oa hbd5 (by decide) (q ▸ hk))⟩
        refine kN _ w5 ?_ ?_ ?_ hR5 (hm5.blk hbd hn5.2.1.symm) hb55 ((up1 hmd).then hm5 fun i _ q => by omega)
        · exact q0
        · exact q3
        · exact q5
      refine h4 _ (fun ρ5 w5 a b c' h1 h2 h3 h4 => ?_) _ ?_ ?_ ?_
      · rw [sq_n]
        exact r3 _ w5 b5 h1 h2 h3 h4 a b c'
      · exact q0
      · exact q3
      · rfl
    · have hpl : d.places = 0 := by have := of_decide_eq_false hpp; omega
      refine r3 _ w3 b5 hR3 hb23 (by rw [kv hpl]; exact hb3') (up1 hm03) ?_ ?_ rfl
      · exact q0
      · exact q3
  rw [sq_n]
  exact r2 _ rfl rfl
end Go.Proofs.YtbnbcimjapiicaaDoor.Tr
set_option linter.unusedVariables false
set_option linter.unusedSimpArgs false
set_option maxRecDepth 4000
namespace Go.Proofs.YtbnbcimjapiicaaDoor.Tr
open Go Go.X Go.RowKit Go.Proofs.YtbnbcimjapiicaaDoor.XG Go.Proofs.YtbnbcimjapiicaaDoor.XK
def declsW (pre : List De) : List De → Wr
  | [] => zWr
  | d :: r => if dstep pre d = 0 then declsW (pre ++ [d]) r else ⟨dstep pre d, d.line, d.col⟩
def checkP (p : Pr) : Wr := if p.may then (if (declsW [] p.decls).err = 0 then St.wrL (kindP p.decls) p.body else declsW [] p.decls) else ⟨2, 0, 0⟩
theorem dstep_zero {pre : List De} {d : De} (h : dstep pre d = 0) : (findP pre d.key).kind = 0 ∧ full pre d = false := by
  unfold dstep at h
  split at h
  · simp at h
  · rename_i q
    split at h
    · simp at h
    · rename_i q2; exact ⟨by simpa using q, by simpa using q2⟩
theorem lim_snoc {pre : List De} {d : De} (h : full pre d = false) (hp : 0 ≤ d.places) (hv : vars pre ≤ 64) (hc : cellsP pre ≤ 1000) : vars (pre ++ [d]) ≤ 64 ∧ cellsP (pre ++ [d]) ≤ 1000 := by
  unfold full at h
  rw [vars_snoc, cellsP_snoc]
  by_cases q : d.places = 0
  · rw [if_pos q] at h
    have := of_decide_eq_false h
    rw [show isV d = true from decide_eq_true q]
    simp only [if_true]
    omega
  · rw [if_neg q] at h
    have := of_decide_eq_false h
    rw [show isV d = false from decide_eq_false q]
    simp only [Bool.false_eq_true, if_false]
    omega
theorem bTb (m : Nat) : Tryd.prog.built 71 [(1, .map (some m))] = some #[.slice none 0 0, .map (some m), .int .i64 0, .slice none 0 0, .int .i64 0] := by kernel_rfl
theorem TbAt.low {w : World} {base base' t : Nat} {ds : List De} (h : TbAt w base t ds) (hb : base' ≤ base) : TbAt w base' t ds := by
  obtain ⟨nv, av, m, l, c, h1, h2, h3, h4, h5, h6, h7⟩ := h.at'
  exact ⟨⟨nv, av, m, l, c, h1, h2, h3, by omega, by omega, owns_base h6 hb, owns_base h7 hb⟩⟩
theorem TbAt.off {w w' : World} {S : Nat → Prop} {base t : Nat} {ds : List De} (h : TbAt w base t ds) (hm : Mod S w w') (hS : ∀ i, S i → i < base) : TbAt w' base t ds := by
  obtain ⟨nv, av, m, l, c, h1, h2, h3, h4, h5, h6, h7⟩ := h.at'
  have hn : ∀ {i}, base ≤ i → ¬ S i := fun h q => by have := hS _ q; omega
  exact ⟨⟨nv, av, m, l, c, hm.blk h1 (hn h4), h2.mod hm (hn h5), h3, h4, h5, owns_mod h6 hm (fun k hk => hn (owns_ge h6 hk)), owns_mod h7 hm (fun k hk => hn (owns_ge h7 hk))⟩⟩
/-- What New tells. -/
structure Told (p : Pr) (w : World) (x : Value) (w' : World) : Prop where
  m : Mod none_ w w'
  ok : (checkP p).err = 0 → p.may = true ∧ (declsW [] p.decls).err = 0 ∧ ∃ t, x = pt t ∧ TbAt w' w.heap.size t p.decls
  bad : (checkP p).err ≠ 0 → x = .pointer none
theorem New_ok {w : World} (hg : Gl w) {p : Pr} (h : p.Ok w) (hf : p.fits) : Rt Tryd.prog 13 #[.agg p.cells.toArray] w fun v w' => ∃ x, v = .tuple #[x, (checkP p).v] ∧ Told p w x w' := by
  refine scope_New_calls ?_
  unfold scope_New_F
  refine box_k (cs := p.cells.toArray) rfl fun w1 hb1 hm1 hz1 => ?_
  refine al_k zWrg rfl _ fun w2 hb2 hm2 hz2 => ?_
  have hb12 := hm2.blk hb1 id
  have hm12 := hm1.trans hm2
  refine ldB (cs := p.cells.toArray) Tryd.underlying25 rfl iPr hb12 ?_
  refine CK_st Tryd.func29 rfl rfl (May_ok (hg.mod hm12) (h.mod hm12) hf) ?_
  rintro _ w3 ⟨rfl, hm3⟩
  rw [not_ok]
  have hm13 := hm12.trans hm3
  have hb13 := hm3.blk hb12 id
  have hb23 := hm3.blk hb2 id
  generalize hx3 : w1.heap.size = b3 at *
  cases hmay : p.may with
  | false =>
    refine condT ?_
    rw [build_ok (bWr1 2)]
    refine stS (b := b3) (old := zWr.cells.toArray) (cs := (Wr.mk 2 0 0).cells.toArray) rfl rfl iWrg rfl (wr_one _) hb23 fun w4 hb4 hm4 _ => ?_
    have hcp : checkP p = ⟨2, 0, 0⟩ := by unfold checkP; rw [hmay]; rfl
    refine ⟨_, res_ld (run_ldB (cs := (Wr.mk 2 0 0).cells.toArray) Tryd.underlying30 rfl iWrg hb4), _, by rw [hcp]; rfl, hm13.then hm4 (fun i hi q => absurd q (by omega)), fun q => ?_, fun _ => rfl⟩
    rw [hcp] at q; simp at q
  | true =>
    refine condF ?_
    have hmays : ∀ d ∈ p.decls, d.may = true := by
      unfold Pr.may at hmay
      simp only [Bool.and_eq_true, List.all_eq_true] at hmay
      exact hmay.1.2
    refine make_ok (enc := encK) 69 fun w4 hIs hm4 hz4 => ?_
    rw [build_ok (bTb _)]
    refine box_k (cs := #[.slice none 0 0, .map (some w3.heap.size), .int .i64 0, .slice none 0 0, .int .i64 0]) rfl fun w5 hb5 hm5 hz5 => ?_
    have hlt3 : w3.heap.size < w4.heap.size := by omega
    have hbase : b3 < w3.heap.size := X.blk_lt hb23
    have hT0 : TbAt w5 w3.heap.size w4.heap.size [] :=
      ⟨⟨_, _, _, [], 0, hb5, hIs.mod hm5 id, fun k => rfl, by omega, by omega, ⟨rfl, .inl ⟨rfl, rfl⟩⟩, ⟨rfl, .inl ⟨rfl, rfl⟩⟩⟩⟩
    have hm35 := hm4.trans hm5
    have hm15 := hm13.trans hm35
    have hb15 := hm35.blk hb13 id
    have hb25 := hm35.blk hb23 id
    have hb1lt : w.heap.size < b3 := by omega
    have h5 := h.mod hm15
    obtain ⟨A, c, hs, _⟩ := reads_cap h.d.1
    generalize w3.heap.size = base at *
    generalize w4.heap.size = t at *
    have f0 : FAt Tryd.prog w5 25 0 ⟨w.heap.size, 0, none⟩ 22 (.slice A p.decls.length c) := FAt.mk' (off := 0) (by kernel_rfl) uDes rfl (by rw [add_pl, cell_blk hb15, ← hs]; rfl)
    refine f0.vk' fun x16 => ?_
    rw [len22]
    have hcp : checkP p = (if (declsW [] p.decls).err = 0 then St.wrL (kindP p.decls) p.body else declsW [] p.decls) := by unfold checkP; rw [hmay]; rfl
    clear hm1 hz1 hb1 hm2 hz2 hb2 hm12 hb12 hb13 hb23 hm3 hIs hm4 hz4 hb5 hm5 hz5 hm13 hm35
    refine W_loop scope_New_L0_ok (fun ρ w' => ∃ n : Nat, n ≤ p.decls.length ∧ ρ 19 = .int .i64 n ∧ ρ 18 = .int .i64 p.decls.length ∧ ρ 17 = .slice A p.decls.length c ∧ ρ 1 = pt w.heap.size ∧ ρ 3 = pt b3 ∧ ρ 4 = pt t ∧ TbAt w' base t (p.decls.take n) ∧ vars (p.decls.take n) ≤ 64 ∧ cellsP (p.decls.take n) ≤ 1000 ∧ declsW [] p.decls = declsW (p.decls.take n) (p.decls.drop n) ∧ Mod (fun i => base ≤ i) w5 w') (fun ρ _ => p.decls.length - (intOf (ρ 19)).toNat)
      ⟨0, Nat.zero_le _, rfl, rfl, rfl, rfl, rfl, rfl, hT0, Nat.zero_le _, (by rw [List.take_zero]; decide), rfl, Mod.refl _ _⟩ ?_
    rintro ρ w6 ⟨n, hn, h19, h18, h17, h1, h3, h4, hT, hv, hc, hdW, hm6⟩
    have hb16 := hm6.blk hb15 (by omega)
    have hb26 := hm6.blk hb25 (by omega)
    have hm06 : Mod none_ w w6 := hm15.then hm6 fun i hi q => by omega
    rw [scope_New_L0_eq]
    unfold scope_New_L0_F
    rw [h19, h18, h17]
    refine BKlss (a := n) (b := p.decls.length) rfl rfl ?_
    by_cases hlt : n < p.decls.length
    · rw [show decide ((n : Int) < (p.decls.length : Int)) = true by rw [decide_eq_true_eq]; omega]
      refine condT ?_
      have hx : p.decls[n]? = some p.decls[n] := List.getElem?_eq_getElem hlt
      have hmem : p.decls[n] ∈ p.decls := List.getElem_mem hlt
      have hds6 := h.d.mod hm06
      rw [hs] at hds6
      refine ixDe hds6 hx fun y => ?_
      refine lcl_k (cs := p.decls[n].cells.toArray) zDe _ iDe rfl (de_one _) fun w7 hb7 hm7 hz7 => ?_
      refine ldS (b := w6.heap.size) (cs := p.decls[n].cells.toArray) rfl Tryd.underlying40 rfl iDe hb7 ?_
      rw [h4]
      have hlen' := hf.1
      have htl : (p.decls.take n).length = n := by rw [List.length_take]; omega
      have htake : p.decls.take (n + 1) = p.decls.take n ++ [p.decls[n]] := by rw [List.take_add_one, hx, Option.toList_some]
      have hdrop : p.decls.drop n = p.decls[n] :: p.decls.drop (n + 1) := (List.getElem_cons_drop hlt).symm
      have hp := may_places (hmays _ hmem)
      have hb17 := hm7.blk hb16 id
      have hb27 := hm7.blk hb26 id
      have hlt6 : base < w6.heap.size := by have := hm6.size; have := hT.raw; obtain ⟨_, _, m, _, _, hR, _⟩ := this; have := hR.fld; have := hR.lt; have := hR.bm; have := X.blk_lt this; have := hR.lm; omega
      refine CK_st Tryd.func37 rfl rfl (declare_ok (hT.mod hm7) ⟨by omega, fun d hd => hmays d (List.mem_of_mem_take hd)⟩ (by omega) hv hc (hmays _ hmem)) ?_
      rintro _ w8 ⟨rfl, hTn, hm8⟩
      have hdl : w8.heap[w6.heap.size]? = some (.cells p.decls[n].cells.toArray 40 (0, 0)) := hm8.blk hb7 fun q => q.2 _ _ hb7
      have hm58 : Mod (fun i => base ≤ i) w5 w8 := (hm6.trans (hm7.mono fun _ _ q => q.elim)).trans (hm8.mono fun _ _ q => q.1)
      rw [hdrop, declsW] at hdW
      refine BKneI (a := dstep (p.decls.take n) p.decls[n]) (b := 0) rfl rfl (fun hz => condF ?_) (fun hz => condT ?_)
      · obtain ⟨_, hfull⟩ := dstep_zero hz
        obtain ⟨hv', hc'⟩ := lim_snoc hfull hp.1 hv hc
        rw [if_pos hz] at hdW
        refine BKadd (a := n) (b := 1) rfl rfl (by omega) (by omega) ?_
        refine ⟨⟨n + 1, hlt, rfl, h18, h17, h1, h3, h4, ?_, ?_, ?_, ?_, hm58⟩, ?_⟩
        · rw [htake]; exact hTn hz
        · rw [htake]; exact hv'
        · rw [htake]; exact hc'
        · rw [htake]; exact hdW
        · show p.decls.length - (intOf (Value.int .i64 ((n : Int) + 1))).toNat < _
          simp only [intOf]; omega
      · rw [if_neg hz] at hdW
        have hcp' : checkP p = ⟨dstep (p.decls.take n) p.decls[n], p.decls[n].line, p.decls[n].col⟩ := by rw [hcp, hdW, if_neg hz]
        have hb18 := hm8.blk hb17 (fun q => by have := q.1; omega)
        have hb28 := hm8.blk hb27 (fun q => by have := q.1; omega)
        have hm08 : Mod none_ w w8 := hm15.then hm58 fun i hi q => by omega
        have e2 : ∀ (KK : Exit → Sl → World → Prop), (∀ (ρ3 : Sl) (w9 : World), ρ3 3 = pt b3 → ρ3 2 = .pointer none → w9.heap[b3]? = some (.cells (checkP p).cells.toArray 30 (0, 0)) → Mod (fun i => i = b3) w8 w9 → KK .normal ρ3 w9) → ∀ (ρ2 : Sl), ρ2 3 = pt b3 → ρ2 6 = pt w6.heap.size → ρ2 7 = .int .i64 (dstep (p.decls.take n) p.decls[n]) → W fn_ Tryd.prog 45 scope_New_R2 KK ρ2 w8 := by
          intro KK kN ρ2 q3 q6 q7
          refine scope_New_R2_tail (D := []) ?_
          unfold scope_New_R2_T
          have hbd : ({ w8 with drawn := w8.drawn + 1 } : World).heap[w6.heap.size]? = some (.cells p.decls[n].cells.toArray 40 (0, 0)) := hdl
          have hbd3 : ({ w8 with drawn := w8.drawn + 1 } : World).heap[b3]? = some (.cells zWr.cells.toArray 30 (0, 0)) := hb28
          have hmd : Mod (fun i => i = b3) w8 { w8 with drawn := w8.drawn + 1 } := (Mod.refl _ w8).drawn _
          generalize ({ w8 with drawn := w8.drawn + 1 } : World) = wd at hbd hbd3 hmd ⊢
          dsimp only
          rw [q6, q7]
          refine Qfo (off := 2) (a := ⟨w6.heap.size, 0, none⟩) (by kernel_rfl) (Qld uI rfl (v := .int .i64 p.decls[n].line) (fun w' hw => by rw [hw, add_pl, cell_blk hbd]; rfl) ?_)
          refine Qfo (off := 3) (a := ⟨w6.heap.size, 0, none⟩) (by kernel_rfl) (Qld uI rfl (v := .int .i64 p.decls[n].col) (fun w' hw => by rw [hw, add_pl, cell_blk hbd]; rfl) ?_)
          refine QV_of (fun w' _ => build_run (bWr3 _ _ _)) ?_
          refine stS (b := b3) (old := zWr.cells.toArray) (cs := (checkP p).cells.toArray) q3 (by rw [hcp']) iWrg rfl (wr_one _) hbd3 fun w9 hb9 hm9 _ => ?_
          refine kN _ w9 ?_ rfl hb9 (hmd.trans hm9)
          exact q3
        refine e2 _ (fun ρ3 w9 q3 q2 hb9 hm9 => ?_) _ ?_ ?_ rfl
        · rw [sq_n, scope_New_R3_eq]
          unfold scope_New_R3_F
          rw [bk_r, sq_r, sq_r, bk_r, sq_r]
          refine rtTC (b := b3) (cs := (checkP p).cells.toArray) q3 Tryd.underlying30 rfl iWrg hb9 ?_
          refine ⟨_, by rw [q2]; rfl, hm08.then hm9 (fun i hi q => absurd q (by omega)), fun q => ?_, fun _ => rfl⟩
          rw [hcp'] at q; exact absurd q hz
        · exact h3
        · rfl
    · obtain rfl : n = p.decls.length := by omega
      rw [show decide (((p.decls.length : Nat) : Int) < (p.decls.length : Int)) = false by simp]
      refine condF ?_
      rw [List.take_length] at hT hv hc
      rw [List.drop_length, List.take_length, declsW] at hdW
      rw [hdW] at hcp
      rw [if_pos (show zWr.err = 0 from rfl)] at hcp
      rw [sq_x, bk_x, sq_n, scope_New_R1_eq]
      unfold scope_New_R1_F
      have f1 : FAt Tryd.prog w6 25 1 ⟨w.heap.size, 0, none⟩ 23 p.bs := FAt.mk' (off := 1) (by kernel_rfl) uSts rfl (by rw [add_pl, cell_blk hb16]; rfl)
      refine f1.vs h1 fun x36 => ?_
      refine CK_eq (bs := [pt t, p.bs]) rfl ?_ (CK_st Tryd.func38 rfl rfl (look_ok' hT (h.b.mod hm06) hf.2) ?_)
      · exact congrArg (fun z => [z, p.bs]) h4
      rintro _ w7 ⟨rfl, hm7⟩
      refine lcl_k (cs := (St.wrL (kindP p.decls) p.body).cells.toArray) zWrg _ iWrg rfl (wr_one _) fun w8 hb8 hm8 hz8 => ?_
      have hb28 := (hm7.trans hm8).blk hb26 id
      have hm08 := (hm06.trans hm7).trans hm8
      have hT8 := (hT.mod hm7).mod hm8
      have hlt8 : b3 < w7.heap.size := by have := X.blk_lt hb26; have := hm7.size; omega
      generalize w7.heap.size = b8 at *
      have g0 : FAt Tryd.prog w8 30 0 ⟨b8, 0, none⟩ 28 (.int .i64 (St.wrL (kindP p.decls) p.body).err) := FAt.mk' (off := 0) (by kernel_rfl) uErrI rfl (by rw [add_pl, cell_blk hb8]; rfl)
      refine g0.vk' fun x39 => ?_
      refine BKneI (a := (St.wrL (kindP p.decls) p.body).err) (b := 0) rfl rfl (fun hz => condF ?_) (fun hz => condT ?_)
      · have he : (checkP p).err = 0 := by rw [hcp]; exact hz
        have hcz : checkP p = zWr := by rw [hcp]; exact St.wrL_z _ (fun a _ => St.wr_z a) hz
        rw [build_ok bWr0]
        refine stS (b := b3) (old := zWr.cells.toArray) (cs := zWr.cells.toArray) h3 rfl iWrg rfl (wr_one _) hb28 fun w9 hb9 hm9 _ => ?_
        refine rtTC (b := b3) (cs := zWr.cells.toArray) ?_ Tryd.underlying30 rfl iWrg hb9 ?_
        · exact h3
        · refine ⟨_, by rw [hcz]; rfl, hm08.then hm9 (fun i hi q => absurd q (by omega)), fun _ => ⟨hmay, by rw [hdW]; rfl, t, ?_, ?_⟩, fun q => absurd he q⟩
          · exact h4
          · exact (hT8.off hm9 fun i q => by omega).low (by omega)
      · have he : (checkP p).err ≠ 0 := by rw [hcp]; exact hz
        have e5 : ∀ (KK : Exit → Sl → World → Prop), (∀ (ρ3 : Sl) (w9 : World), ρ3 3 = pt b3 → ρ3 2 = .pointer none → w9.heap[b3]? = some (.cells (checkP p).cells.toArray 30 (0, 0)) → Mod (fun i => i = b3) w8 w9 → KK .normal ρ3 w9) → ∀ (ρ2 : Sl), ρ2 3 = pt b3 → ρ2 8 = pt b8 → W fn_ Tryd.prog 45 scope_New_R5 KK ρ2 w8 := by
          intro KK kN ρ2 q3 q8
          refine scope_New_R5_tail (D := []) ?_
          unfold scope_New_R5_T
          have hbd : ({ w8 with drawn := w8.drawn + 1 } : World).heap[b8]? = some (.cells (St.wrL (kindP p.decls) p.body).cells.toArray 30 (0, 0)) := hb8
          have hbd3 : ({ w8 with drawn := w8.drawn + 1 } : World).heap[b3]? = some (.cells zWr.cells.toArray 30 (0, 0)) := hb28
          have hmd : Mod (fun i => i = b3) w8 { w8 with drawn := w8.drawn + 1 } := (Mod.refl _ w8).drawn _
          generalize ({ w8 with drawn := w8.drawn + 1 } : World) = wd at hbd hbd3 hmd ⊢
          dsimp only
          rw [q8]
          refine QV_of (v := (checkP p).v) (fun w' hw => by rw [hw, hcp]; exact run_ldB (cs := (St.wrL (kindP p.decls) p.body).cells.toArray) Tryd.underlying30 rfl iWrg hbd) ?_
          refine stS (b := b3) (old := zWr.cells.toArray) (cs := (checkP p).cells.toArray) q3 rfl iWrg rfl (wr_one _) hbd3 fun w9 hb9 hm9 _ => ?_
          refine kN _ w9 ?_ rfl hb9 (hmd.trans hm9)
          exact q3
        refine e5 _ (fun ρ3 w9 q3 q2 hb9 hm9 => ?_) _ ?_ ?_
        · rw [sq_n, scope_New_R6_eq]
          unfold scope_New_R6_F
          rw [sq_r]
          refine rtTC (b := b3) (cs := (checkP p).cells.toArray) q3 Tryd.underlying30 rfl iWrg hb9 ?_
          exact ⟨_, by rw [q2]; rfl, hm08.then hm9 (fun i hi q => absurd q (by omega)), fun q => absurd q he, fun _ => rfl⟩
        · exact h3
        · rfl
end Go.Proofs.YtbnbcimjapiicaaDoor.Tr
set_option linter.unusedVariables false
set_option linter.unusedSimpArgs false
set_option maxRecDepth 4000
namespace Go.Proofs.YtbnbcimjapiicaaDoor.Tr
open Go Go.X Go.RowKit Go.Proofs.YtbnbcimjapiicaaDoor.XG Go.Proofs.YtbnbcimjapiicaaDoor.XK
theorem fldK_run {w : World} (e : En) : (Instr.field 37 e.v 0).run Tryd.prog w = .ok (.int .u8 e.kind) w := by
  unfold Instr.field
  simp [Sem.run_bind, run_underlying Tryd.underlying37, part, isU, En.v, En.cells, asAgg]
end Go.Proofs.YtbnbcimjapiicaaDoor.Tr
set_option linter.unusedVariables false
set_option linter.unusedSimpArgs false
set_option maxRecDepth 4000
namespace Go.Proofs.YtbnbcimjapiicaaDoor.Tr
open Go Go.X Go.RowKit Go.Proofs.YtbnbcimjapiicaaDoor.XG Go.Proofs.YtbnbcimjapiicaaDoor.XK
theorem uTp : Tryd.prog.underlying 32 = some (.pointer 71) := by kernel_rfl
theorem FindT_ok {w : World} {base t : Nat} {ds : List De} (h : TbAt w base t ds) (k : ByteArray) : Rt Tryd.prog 16 #[pt t, .string k] w fun v w' => v = (findP ds k.data.toList).v ∧ Mod none_ w w' := by
  obtain ⟨nv, av, m, l, c, hR, hval⟩ := h.raw
  refine scope_Table_Find_calls ?_
  unfold scope_Table_Find_F
  refine al_k zEnt rfl _ fun w1 hb1 hm1 hz1 => ?_
  have hR1 := hR.mod hm1
  rw [BK_eqlP uTp]
  refine condF ?_
  rw [NK_ptr]
  have f1 : FAt Tryd.prog w1 71 1 ⟨t, 0, none⟩ 69 (.map (some m)) := FAt.mk' (off := 1) (by kernel_rfl) uMp rfl (by rw [add_pl, cell_blk hR1.bt]; rfl)
  refine f1.vk' fun x10 => ?_
  refine look_ok hR1.bm k ?_
  rw [hval]
  refine stS (b := w.heap.size) (old := zEn.cells.toArray) (cs := (findP ds k.data.toList).cells.toArray) rfl rfl iEnt rfl (en_one _) hb1 fun w2 hb2 hm2 _ => ?_
  exact ⟨_, res_ld (run_ldB (cs := (findP ds k.data.toList).cells.toArray) Tryd.underlying37 rfl iEnt hb2), rfl, hm1.then hm2 (fun i hi q => absurd q (by omega))⟩
theorem QixDe {C : World → Prop} {s : Value} {l : List De} {i : Nat} {e : De} {K : Value → Prop} {w0 : World} (hw0 : C w0) (h : ∀ w, C w → DesOk w s l) (hi : l[i]? = some e) (hk : ∀ a, (∀ w, C w → ∀ j u, e.cells[j]? = some u → w.cell? (a.add j) = some u) → K (.pointer (some a))) :
    QK Tryd.prog C (do pure (Next.value (← Instr.indexAt 22 s (.int .i64 (i : Int))))) K := by
  have hlt : i < l.length := (List.getElem?_eq_some_iff.1 hi).1
  obtain ⟨hl, A, c, hs, hc, hr⟩ := (h w0 hw0).1
  obtain ⟨a, ha | q⟩ := rd_cell (size := 4) (hs ▸ (h w0 hw0).1) hlt
  · subst ha
    subst hs
    refine QV_of (fun w _ => run_ixa uDes cDe (by omega) (by omega) w) (hk _ fun w hw j u hu => ?_)
    obtain ⟨_, A', c', hs', _, hr'⟩ := (h w hw).1
    cases hs'
    have hj : j < 3 + 1 := (List.getElem?_eq_some_iff.1 hu).1
    obtain ⟨a', ha', hcell⟩ := hr' (i * 4 + j) u (by rw [fl_get (k := 3 + 1) De.cells_len hi hj]; exact hu)
    cases ha'
    rw [add_add, show ((i : Int).toNat) = i by omega]
    exact hcell
  · omega
end Go.Proofs.YtbnbcimjapiicaaDoor.Tr
set_option linter.unusedVariables false
set_option linter.unusedSimpArgs false
set_option maxRecDepth 4000
namespace Go.X
open Go Go.RowKit
/-- Elements of a slice that is there, behind one's own; none is as well. -/
theorem ap_some {P : Program} {w : World} {K : Value → World → Prop} {t ty e : TypeId} {size bytes base : Nat} (hE : elemOk P t e size bytes = true) {v : Value} {n : Nat} {xs : List Value} (hown : w.ownsRow base e size v n xs) {a : Addr} {m c : Nat} {news : List Value} (hr : reads w size (.slice (some a) m c) m news) (h1 : ∀ u ∈ news, u.oneCell' = true)
    (h63 : n + m ≤ maxLen) (hbytes : (n + m) * bytes ≤ 140737488355328) (hbase : base ≤ w.heap.size)
    (hk : ∀ v' w', w'.ownsRow base e size v' (n + m) (xs ++ news) → Mod (fun k => some k = v.ownBlock) w w' → K v' w') : IK P .append #[t, t] ty [false, false] [v, .slice (some a) m c] w K := by
  unfold elemOk at hE
  split at hE
  · rename_i e' i hu hi
    simp only [Bool.and_eq_true, beq_iff_eq] at hE
    obtain ⟨⟨⟨⟨rfl, hz⟩, hs⟩, hb⟩, hp⟩ := hE
    split at hz
    · rename_i z hzz
      have hz : z.cells.size = size := by simpa using hz
      have hpos : 0 < size := Nat.le_of_ble_eq_true hp
      obtain ⟨hl, A, c', q, _, hrd⟩ := hr
      cases q
      obtain ⟨v', w', hrun, h2, h3, h4, h5⟩ := run_append_own_at (P := P) w base t ty _ i z size bytes hu hi hzz hs hb hz hpos v n xs hown a m c news hl (fun j u hj => by obtain ⟨a', ha, hc⟩ := hrd j u hj; cases ha; exact hc) h1 h63 hbytes hbase
      exact IK_of (s := Builtin.append_ #[t, t] ty #[v, .slice (some a) m c]) rfl hrun (hk v' w' h2 (Mod.ofGrown h3))
    · cases hz
  · cases hE
/-- A slice literal without elements. -/
theorem bs0_k {P : Program} {w : World} {K : Value → World → Prop} {t e : TypeId} {n : Nat} (hu : P.underlying t = some (.slice e)) (hi : (P.info? e).map (·.size) = some n)
    (hk : ∀ w', w'.heap[w.heap.size]? = some (.cells #[] e (0, 0)) → Mod none_ w w' → w'.heap.size = w.heap.size + 1 → K (.slice (some ⟨w.heap.size, 0, none⟩) 0 0) w') : VK P (Instr.buildSlice t 0 [].toArray) w K := by
  obtain ⟨ie, hie, _⟩ := Option.map_eq_some_iff.1 hi
  have hr : (Instr.buildSlice t 0 [].toArray).run P w = .ok (.slice (some ⟨w.heap.size, 0, none⟩) 0 0) (w.alloc (.cells #[] e)) := by
    simp [Instr.buildSlice, Sem.run_bind, run_underlying hu, sizeOf, typeInfo, hie, Instr.fill, newRow]
    rw [Array.eq_empty_of_size_eq_zero (xs := Array.map _ (Array.range 0)) (by simp)]
  exact VK_of hr (new_k w _ hk)
/-- A row of one's own, without elements. -/
theorem owns_zero {w : World} {b : Nat} {e : TypeId} {size base : Nat} (h : w.heap[b]? = some (.cells #[] e (0, 0))) (hb : base ≤ b) : w.ownsRow base e size (.slice (some ⟨b, 0, none⟩) 0 0) 0 [] :=
  ⟨by simp, .inr ⟨b, 0, #[], rfl, hb, h, Nat.le_refl _, Nat.zero_le _, by simp, by simp⟩⟩
end Go.X
namespace Go.Proofs.YtbnbcimjapiicaaDoor.Tr
open Go Go.X Go.RowKit Go.Proofs.YtbnbcimjapiicaaDoor.XG Go.Proofs.YtbnbcimjapiicaaDoor.XK
theorem BK_slN {t e : TypeId} (h : Tryd.prog.underlying t = some (.slice e)) {w : World} {K : Value → World → Prop} {x y : Operand} (a : Option Addr) (n c : Nat) : BK Tryd.prog .eql t x y (.slice a n c) (.slice none 0 0) w K = K (.bool a.isNone) w :=
  BK_of rfl (Lib.run_eql_slice_nil w t e a n c 0 0 h)
theorem CloneI_ok {w : World} {v : Value} {n : Nat} {xs : List Int} (h : reads w 1 v n (xs.map (.int .i64))) (hn : n ≤ 1099511627776) : Rt Tryd.prog 47 #[v] w fun v' w' => w'.ownsRow w.heap.size 3 1 v' n (xs.map (.int .i64)) ∧ Mod none_ w w' := by
  obtain ⟨A, c, rfl, hnc⟩ := reads_cap h
  refine slices_Clone_int_int_calls ?_
  unfold slices_Clone_int_int_F
  rw [BK_slN uIs]
  cases A with
  | none =>
    refine condT ⟨?_, Mod.refl _ _⟩
    have h0 : (xs.map (Value.int .i64)) = [] := by
      obtain ⟨hl, A', c', q, _, hr⟩ := h
      cases q
      rcases Nat.eq_zero_or_pos (xs.map (Value.int .i64)).length with q | q
      · exact List.length_eq_zero_iff.1 q
      · obtain ⟨a, ha, _⟩ := hr 0 _ (List.getElem?_eq_getElem q)
        cases ha
    have hn0 : n = 0 := by have := h.1; rw [h0] at this; simp at this; omega
    rw [h0, hn0]
    exact ⟨rfl, .inl ⟨rfl, rfl⟩⟩
  | some a =>
    refine condF ?_
    refine bs0_k uIs (show (Tryd.prog.info? 3).map (·.size) = some 1 by kernel_rfl) fun w1 hb1 hm1 hz1 => ?_
    have hown : w1.ownsRow w.heap.size 3 1 (.slice (some ⟨w.heap.size, 0, none⟩) 0 0) 0 [] := owns_zero hb1 (Nat.le_refl _)
    refine ap_some eIs hown (reads_mod h hm1 (fun _ _ _ => id)) (by simp [Value.oneCell']) (by unfold maxLen; omega) (by omega) (by omega) fun v' w' h2 hm2 => ?_
    refine ⟨by simpa using h2, hm1.then hm2 fun i hi q => ?_⟩
    have : i = w.heap.size := by simpa [Value.ownBlock] using q
    omega
section
variable {w : World} {base t : Nat} {ds : List De}
theorem VarsT_ok (h : TbAt w base t ds) : Rt Tryd.prog 22 #[pt t] w fun v w' => v = .int .i64 (vars ds) ∧ Mod none_ w w' := by
  obtain ⟨nv, av, m, l, c, hR, _⟩ := h.raw
  refine scope_Table_Vars_calls ?_
  unfold scope_Table_Vars_F
  rw [BK_eqlP uTp]
  refine condF ?_
  rw [NK_ptr]
  have f : FAt Tryd.prog w 71 2 ⟨t, 0, none⟩ 3 (.int .i64 (vars ds)) := FAt.mk' (off := 2) (by kernel_rfl) uI rfl (by rw [add_pl, cell_blk hR.bt]; rfl)
  refine f.vk' fun _ => ⟨rfl, Mod.refl _ _⟩
theorem ArraysT_ok (h : TbAt w base t ds) (hl : ds.length ≤ 1099511627776) : Rt Tryd.prog 23 #[pt t] w fun v w' => w'.ownsRow w.heap.size 3 1 v (arrs ds).length ((arrs ds).map (.int .i64)) ∧ Mod none_ w w' := by
  obtain ⟨nv, av, m, l, c, hR, _⟩ := h.raw
  refine scope_Table_Arrays_calls ?_
  unfold scope_Table_Arrays_F
  rw [BK_eqlP uTp]
  refine condF ?_
  rw [NK_ptr]
  have f : FAt Tryd.prog w 71 3 ⟨t, 0, none⟩ 50 av := FAt.mk' (off := 3) (by kernel_rfl) uIs rfl (by rw [add_pl, cell_blk hR.bt]; rfl)
  refine f.vk' fun _ => ?_
  have hoa := reads_of_owns hR.oa
  rw [List.length_map] at hoa
  have := arrs_le ds
  exact CK_st Tryd.func47 rfl rfl (CloneI_ok hoa (by omega)) fun v w' h => h
end
end Go.Proofs.YtbnbcimjapiicaaDoor.Tr
set_option linter.unusedVariables false
set_option linter.unusedSimpArgs false
set_option maxRecDepth 4000
namespace Go.X
open Go Go.Proofs.YtbnbcimjapiicaaDoor.Tr
theorem Ex.er_bad (f : Key → Int) (e : Ex) : e.er.bad f = e.bad f := by rw [Ex.er_eq]; rfl
theorem Ex.er_wr (f : Key → Int) : ∀ e : Ex, e.er.wr f = e.wr f := by
  intro e
  induction e using Ex.ind with
  | h e ih =>
    have : ∀ l : List Ex, (∀ a ∈ l, a.er.wr f = a.wr f) → Ex.wrL f (l.map Ex.er) = Ex.wrL f l := by
      intro l
      induction l with
      | nil => intro _; rfl
      | cons a r ihr =>
        intro h
        rw [List.map_cons, Ex.wrL, Ex.wrL, h a (List.mem_cons_self ..), ihr fun b hb => h b (List.mem_cons_of_mem _ hb)]
    rw [Ex.wr_eq, Ex.wr_eq, Ex.er_bad, Ex.er_line, Ex.er_col, Ex.er_args, this e.args ih]
theorem Ex.wrL_er (f : Key → Int) : ∀ l : List Ex, Ex.wrL f (l.map Ex.er) = Ex.wrL f l
  | [] => rfl
  | a :: r => by rw [List.map_cons, Ex.wrL, Ex.wrL, Ex.er_wr, Ex.wrL_er f r]
theorem St.er_bad (f : Key → Int) (e : St) : e.er.bad f = e.bad f := by rw [St.er_eq]; rfl
theorem St.er_wr (f : Key → Int) : ∀ e : St, e.er.wr f = e.wr f := by
  intro e
  induction e using St.ind with
  | h e ih1 ih2 =>
    have : ∀ l : List St, (∀ a ∈ l, a.er.wr f = a.wr f) → St.wrL f (l.map St.er) = St.wrL f l := by
      intro l
      induction l with
      | nil => intro _; rfl
      | cons a r ihr =>
        intro h
        rw [List.map_cons, St.wrL, St.wrL, h a (List.mem_cons_self ..), ihr fun b hb => h b (List.mem_cons_of_mem _ hb)]
    rw [St.wr_eq, St.wr_eq, St.er_bad, St.er_line, St.er_col, St.er_exprs, St.er_body, St.er_els, Ex.wrL_er, this _ ih1, this _ ih2]
theorem St.wrL_er (f : Key → Int) : ∀ l : List St, St.wrL f (l.map St.er) = St.wrL f l
  | [] => rfl
  | a :: r => by rw [List.map_cons, St.wrL, St.wrL, St.er_wr, St.wrL_er f r]
end Go.X
namespace Go.Proofs.YtbnbcimjapiicaaDoor.Tr
open Go Go.X Go.RowKit Go.Proofs.YtbnbcimjapiicaaDoor.XG Go.Proofs.YtbnbcimjapiicaaDoor.XK
theorem checkP_er (p : Pr) : checkP p.er = checkP p := by
  unfold checkP
  rw [Pr.er_may]
  show (if p.may = true then if (declsW [] p.decls).err = 0 then St.wrL (kindP p.decls) (p.body.map St.er) else _ else _) = _
  rw [St.wrL_er]
  rfl
theorem checkP_of {p q : Pr} (h : q.er = p.er) : checkP q = checkP p := by rw [← checkP_er q, h, checkP_er]
theorem fits_of {p q : Pr} (h : q.er = p.er) (hf : p.fits) : q.fits := by
  have h1 : q.decls = p.decls := by have := congrArg Pr.decls h; exact this
  have h2 : q.body.map St.er = p.body.map St.er := by have := congrArg Pr.body h; exact this
  refine ⟨by rw [h1]; exact hf.1, ?_⟩
  rw [← St.szL_er, h2, St.szL_er]
  exact hf.2
theorem Ex.wrL_zero {f : Key → Int} : ∀ {l : List Ex}, (Ex.wrL f l).err = 0 ↔ ∀ a ∈ l, (a.wr f).err = 0
  | [] => by rw [Ex.wrL]; simp [zWr]
  | e :: r => by
    rw [Ex.wrL]
    split
    · rename_i h; rw [Ex.wrL_zero]; simp [h]
    · rename_i h; simp [h]
theorem St.wrL_zero {f : Key → Int} : ∀ {l : List St}, (St.wrL f l).err = 0 ↔ ∀ a ∈ l, (a.wr f).err = 0
  | [] => by rw [St.wrL]; simp [zWr]
  | e :: r => by
    rw [St.wrL]
    split
    · rename_i h; rw [St.wrL_zero]; simp [h]
    · rename_i h; simp [h]
end Go.Proofs.YtbnbcimjapiicaaDoor.Tr
set_option linter.unusedVariables false
set_option linter.unusedSimpArgs false
set_option maxRecDepth 4000
namespace Go.Proofs.YtbnbcimjapiicaaDoor.Tr
open Go Go.X Go.RowKit Go.Proofs.YtbnbcimjapiicaaDoor.XC Go.Proofs.YtbnbcimjapiicaaDoor.XK
end Go.Proofs.YtbnbcimjapiicaaDoor.Tr
set_option linter.unusedVariables false
set_option linter.unusedSimpArgs false
set_option maxRecDepth 4000
namespace Go.Proofs.YtbnbcimjapiicaaDoor.Tr
open Go Go.X Go.RowKit Go.Proofs.YtbnbcimjapiicaaDoor.XC Go.Proofs.YtbnbcimjapiicaaDoor.XK
end Go.Proofs.YtbnbcimjapiicaaDoor.Tr
set_option linter.unusedVariables false
set_option linter.unusedSimpArgs false
set_option maxRecDepth 4000
namespace Go.Proofs.YtbnbcimjapiicaaDoor.Tr
open Go Go.X Go.RowKit Go.Proofs.YtbnbcimjapiicaaDoor.XG Go.Proofs.YtbnbcimjapiicaaDoor.XK
theorem Check_ok {w : World} (hg : Gl w) {p : Pr} (h : p.Ok w) (hf : p.fits) : Rt Tryd.prog 14 #[.agg p.cells.toArray] w fun v w' => v = (checkP p).v ∧ Mod none_ w w' := by
  refine scope_Check_calls ?_
  unfold scope_Check_F
  refine box_k (cs := p.cells.toArray) rfl fun w1 hb1 hm1 hz1 => ?_
  refine al_k (cs := zWr.cells.toArray) zWrg rfl _ fun w2 hb2 hm2 hz2 => ?_
  have hb12 := hm2.blk hb1 id
  have hm02 := hm1.trans hm2
  refine ldB (cs := p.cells.toArray) Tryd.underlying25 rfl iPr hb12 ?_
  refine CK_st Tryd.func13 rfl rfl (New_ok (hg.mod hm02) (h.mod hm02) hf) ?_
  rintro _ w3 ⟨x, rfl, hT⟩
  rw [extract_ok (v := x) rfl, extract_ok (v := (checkP p).v) rfl]
  have hm3 := hT.m
  have hb23 := hm3.blk hb2 id
  refine lcl_k (cs := (checkP p).cells.toArray) zWrg _ iWrg rfl (wr_one _) fun w4 hb4 hm4 hz4 => ?_
  have hb24 := hm4.blk hb23 id
  have hm04 := (hm02.trans hm3).trans hm4
  refine ldB (cs := (checkP p).cells.toArray) Tryd.underlying30 rfl iWrg hb4 ?_
  refine stS (old := zWr.cells.toArray) (cs := (checkP p).cells.toArray) rfl rfl iWrg rfl (wr_one _) hb24 fun w5 hb5 hm5 hz5 => ?_
  refine rsCell (R := fun v w' => v = (checkP p).v ∧ Mod none_ w w') (cs := (checkP p).cells.toArray) rfl Tryd.underlying30 rfl iWrg hb5 ⟨rfl, hm04.then hm5 fun i hi q => by omega⟩
end Go.Proofs.YtbnbcimjapiicaaDoor.Tr
set_option linter.unusedVariables false
set_option maxRecDepth 100000
namespace Go.Proofs.YtbnbcimjapiicaaDoor.Tr
open Go Go.X Go.RowKit
def tellB (b : Bs) (e : Wr) : Bool := (readP b).any fun p => p.fitsB && decide (checkP p = e)
theorem tx1 : tellB [105, 110, 116, 32, 120, 59, 32, 120, 32, 61, 32, 121, 59] ⟨40, 1, 12⟩ = true := by kernel_rfl
theorem tx2 : tellB [105, 110, 116, 32, 97, 91, 50, 93, 59, 32, 97, 32, 61, 32, 49, 59] ⟨40, 1, 11⟩ = true := by kernel_rfl
theorem tx3 : tellB [105, 110, 116, 32, 120, 59, 32, 105, 110, 116, 32, 120, 59] ⟨40, 1, 12⟩ = true := by kernel_rfl
def newB (b : Bs) (f : Pr → Bool) : Bool := (readP b).any fun p => p.fitsB && decide (checkP p = ⟨0, 0, 0⟩) && f p
theorem tx0 : newB [105, 110, 116, 32, 120, 59, 32, 105, 110, 116, 32, 97, 91, 51, 93, 59, 32, 105, 110, 116, 32, 121, 59, 32, 105, 110, 116, 32, 98, 91, 50, 93, 59] (fun p => decide (findP p.decls [121] = ⟨1, 1, 0, 0⟩) && decide (findP p.decls [98] = ⟨2, 1, 3, 2⟩)) = true := by kernel_rfl
end Go.Proofs.YtbnbcimjapiicaaDoor.Tr
set_option linter.unusedVariables false
set_option maxRecDepth 100000
namespace Go.Proofs.YtbnbcimjapiicaaDoor.XL
open Go Go.X
/-- dispatcher/dispatcherlaw04.read -/
noncomputable def dispatcherlaw04_read_b : Code := (Tryd.f40.body).getD .skip
noncomputable def dispatcherlaw04_read_F (a0 : Value) (w : World) (R : Value → World → Prop) : Prop :=
  VK Tryd.prog (Instr.alloc 25 true (.tuple #[])) w fun x2 w => VK Tryd.prog (convert 9 95 a0) w fun x11 w => CK Tryd.prog (Value.func (Fn.func 64) #[] #[]) [x11] w fun x12 w => VK Tryd.prog (Instr.extract x12 0) w fun x13 w => VK Tryd.prog (Instr.extract x12 1) w fun x14 w => VK Tryd.prog (Instr.extract x12 2) w fun x15 w => VK Tryd.prog (Instr.extract x12 3) w fun x16 w => CK Tryd.prog (Value.func (Fn.func 65) #[] #[]) [x13] w fun x19 w => VK Tryd.prog (Instr.extract x19 0) w fun x20 w => VK Tryd.prog (Instr.extract x19 1) w fun x21 w => VK Tryd.prog (Instr.alloc 25 true (.tuple #[])) w fun x7 w => VK Tryd.prog (Instr.alloc 30 true (.tuple #[])) w fun x8 w => UK Tryd.prog (Instr.storeAt 25 x7 x20) w fun _ w => UK Tryd.prog (Instr.storeAt 30 x8 x21) w fun _ w => VK Tryd.prog (Instr.loadAt 25 x7) w fun x22 w => UK Tryd.prog (Instr.storeAt 25 x2 x22) w fun _ w => ∃ x2_1, (do loadVar 25 (← asAddr x2) : Sem Value).run Tryd.prog w = .ok x2_1 w ∧ R x2_1 w
theorem dispatcherlaw04_read_eq (a0 : Value) (w : World) (R : Value → World → Prop) : sx fn_ Tryd.prog 23 dispatcherlaw04_read_b (retK Tryd.prog Tryd.f40.results.toList R) (rho0 [a0]) w = dispatcherlaw04_read_F a0 w R := by kernel_rfl
theorem dispatcherlaw04_read_calls {a0 : Value} {w : World} {R : Value → World → Prop} (h : dispatcherlaw04_read_F a0 w R) : Calls Tryd.prog 40 #[a0] w fun e w' => ∃ v, e = .returned v ∧ R v w' :=
  Go.X.calls_of_sx (n := 23) (c := dispatcherlaw04_read_b) Tryd.func40 (by kernel_rfl) (by kernel_rfl) (Nat.le_of_ble_eq_true rfl) (by kernel_rfl) (Eq.mpr (dispatcherlaw04_read_eq a0 w R) h)
/-- dispatcher/dispatcherlaw04.told -/
noncomputable def dispatcherlaw04_told_b : Code := (Tryd.f41.body).getD .skip
noncomputable def dispatcherlaw04_told_F (a0 a1 a2 a3 : Value) (w : World) (R : Value → World → Prop) : Prop :=
  CK Tryd.prog (Value.func (Fn.func 40) #[] #[]) [a0] w fun x10 w => CK Tryd.prog (Value.func (Fn.func 14) #[] #[]) [x10] w fun x11 w => VK Tryd.prog (Instr.build 30 [(0, a1), (1, a2), (2, a3)].toArray) w fun x15 w => BK Tryd.prog BinOp.eql 30 (Operand.tmp 11) (Operand.tmp 15) x11 x15 w fun x16 w => R x16 w
theorem dispatcherlaw04_told_eq (a0 a1 a2 a3 : Value) (w : World) (R : Value → World → Prop) : sx fn_ Tryd.prog 17 dispatcherlaw04_told_b (retK Tryd.prog Tryd.f41.results.toList R) (rho0 [a0, a1, a2, a3]) w = dispatcherlaw04_told_F a0 a1 a2 a3 w R := by kernel_rfl
theorem dispatcherlaw04_told_calls {a0 a1 a2 a3 : Value} {w : World} {R : Value → World → Prop} (h : dispatcherlaw04_told_F a0 a1 a2 a3 w R) : Calls Tryd.prog 41 #[a0, a1, a2, a3] w fun e w' => ∃ v, e = .returned v ∧ R v w' :=
  Go.X.calls_of_sx (n := 17) (c := dispatcherlaw04_told_b) Tryd.func41 (by kernel_rfl) (by kernel_rfl) (Nat.le_of_ble_eq_true rfl) (by kernel_rfl) (Eq.mpr (dispatcherlaw04_told_eq a0 a1 a2 a3 w R) h)
/-- dispatcher/dispatcherlaw04.awake -/
noncomputable def dispatcherlaw04_awake_b : Code := (Tryd.f18.body).getD .skip
noncomputable def dispatcherlaw04_awake_F (w : World) (R : Value → World → Prop) : Prop :=
  CK Tryd.prog (Value.func (Fn.func 40) #[] #[]) [(Value.string { data := #[105, 110, 116, 32, 120, 59, 32, 105, 110, 116, 32, 97, 91, 51, 93, 59, 32, 105, 110, 116, 32, 121, 59, 32, 105, 110, 116, 32, 98, 91, 50, 93, 59] })] w fun x4 w => CK Tryd.prog (Value.func (Fn.func 13) #[] #[]) [x4] w fun x5 w => VK Tryd.prog (Instr.extract x5 0) w fun x6 w => VK Tryd.prog (Instr.extract x5 1) w fun x7 w => VK Tryd.prog (Instr.alloc 30 true (.tuple #[])) w fun x2 w => UK Tryd.prog (Instr.storeAt 30 x2 x7) w fun _ w => VK Tryd.prog (Instr.fieldAt 30 x2 0) w fun x8 w => VK Tryd.prog (Instr.loadAt 28 x8) w fun x9 w => BK Tryd.prog BinOp.neq 28 (Operand.tmp 9) (Operand.const (Value.int IntKind.i64 0)) x9 (Value.int IntKind.i64 0) w fun x10 w => MG Tryd.prog x10 false x6 w fun x12 w => BG Tryd.prog x10 false BinOp.eql 32 (Operand.tmp 12) (Operand.const (Value.pointer none)) x12 (Value.pointer none) w fun x13 w => PK Tryd.prog x10 (Value.bool true) x13 w fun x14 w => CondK x14 (R (Value.bool false) w) (CK Tryd.prog (Value.func (Fn.func 16) #[] #[]) [x6, (Value.string { data := #[121] })] w fun x16 w => VK Tryd.prog (Instr.build 37 [(0, (Value.int IntKind.u8 1)), (1, (Value.int IntKind.i64 1))].toArray) w fun x17 w => BK Tryd.prog BinOp.eql 37 (Operand.tmp 16) (Operand.tmp 17) x16 x17 w fun x18 w => MG Tryd.prog x18 true x6 w fun x20 w => CG Tryd.prog x18 true (Value.func (Fn.func 16) #[] #[]) [x20, (Value.string { data := #[98] })] w fun x21 w => VG Tryd.prog x18 true (Instr.build 37 [(0, (Value.int IntKind.u8 2)), (1, (Value.int IntKind.i64 1)), (2, (Value.int IntKind.i64 3)), (3, (Value.int IntKind.i64 2))].toArray) w fun x22 w => BG Tryd.prog x18 true BinOp.eql 37 (Operand.tmp 21) (Operand.tmp 22) x21 x22 w fun x23 w => PK Tryd.prog x18 x23 (Value.bool false) w fun x24 w => CG Tryd.prog x24 true (Value.func (Fn.func 41) #[] #[]) [(Value.string { data := #[105, 110, 116, 32, 120, 59, 32, 120, 32, 61, 32, 121, 59] }), (Value.int IntKind.i64 40), (Value.int IntKind.i64 1), (Value.int IntKind.i64 12)] w fun x26 w => PK Tryd.prog x24 x26 (Value.bool false) w fun x27 w => CG Tryd.prog x27 true (Value.func (Fn.func 41) #[] #[]) [(Value.string { data := #[105, 110, 116, 32, 97, 91, 50, 93, 59, 32, 97, 32, 61, 32, 49, 59] }), (Value.int IntKind.i64 40), (Value.int IntKind.i64 1), (Value.int IntKind.i64 11)] w fun x29 w => PK Tryd.prog x27 x29 (Value.bool false) w fun x30 w => CG Tryd.prog x30 true (Value.func (Fn.func 41) #[] #[]) [(Value.string { data := #[105, 110, 116, 32, 120, 59, 32, 105, 110, 116, 32, 120, 59] }), (Value.int IntKind.i64 40), (Value.int IntKind.i64 1), (Value.int IntKind.i64 12)] w fun x32 w => PK Tryd.prog x30 x32 (Value.bool false) w fun x33 w => R x33 w)
theorem dispatcherlaw04_awake_eq (w : World) (R : Value → World → Prop) : sx fn_ Tryd.prog 34 dispatcherlaw04_awake_b (retK Tryd.prog Tryd.f18.results.toList R) (rho0 []) w = dispatcherlaw04_awake_F  w R := by kernel_rfl
theorem dispatcherlaw04_awake_calls {w : World} {R : Value → World → Prop} (h : dispatcherlaw04_awake_F  w R) : Calls Tryd.prog 18 #[] w fun e w' => ∃ v, e = .returned v ∧ R v w' :=
  Go.X.calls_of_sx (n := 34) (c := dispatcherlaw04_awake_b) Tryd.func18 (by kernel_rfl) (by kernel_rfl) (Nat.le_of_ble_eq_true rfl) (by kernel_rfl) (Eq.mpr (dispatcherlaw04_awake_eq  w R) h)
/-- dispatcher/dispatcherlaw04.sum -/
noncomputable def dispatcherlaw04_sum_b : Code := (Tryd.f28.body).getD .skip
noncomputable def dispatcherlaw04_sum_L0 : Code := cAt [1, 1, 0, 1, 0, 0] dispatcherlaw04_sum_b
noncomputable def dispatcherlaw04_sum_R1 : Code := cAt [1, 1, 1] dispatcherlaw04_sum_b
noncomputable def dispatcherlaw04_sum_L0_F (z : At) (K : Exit → Sl → World → Prop) (ρ : Sl) (w : World) : Prop :=
  IK Tryd.prog Builtin.len #[50] 3 [false] [(ρ 0)] w fun x7 w => BK Tryd.prog BinOp.lss 3 (Operand.tmp 5) (Operand.tmp 7) (ρ 4) x7 w fun x8 w => CondK x8 (VK Tryd.prog (Instr.indexAt 50 (ρ 0) (ρ 4)) w fun x14 w => VK Tryd.prog (Instr.loadAt 3 x14) w fun x15 w => BK Tryd.prog BinOp.add 3 (Operand.tmp 11) (Operand.tmp 15) (ρ 3) x15 w fun x16 w => BK Tryd.prog BinOp.add 3 (Operand.tmp 9) (Operand.const (Value.int IntKind.i64 1)) (ρ 4) (Value.int IntKind.i64 1) w fun x10 w => K Exit.normal (up (up (up (up (up (up (up (up (up (up (up (up (up (up ρ 5 (ρ 4)) 6 (ρ 0)) 7 x7) 8 x8) 11 (ρ 3)) 12 (ρ 0)) 13 (ρ 4)) 14 x14) 15 x15) 16 x16) 3 x16) 9 (ρ 4)) 10 x10) 4 x10) w) (K (Exit.exit 0) (up (up (up (up ρ 5 (ρ 4)) 6 (ρ 0)) 7 x7) 8 x8) w)
theorem dispatcherlaw04_sum_L0_eq (z : At) (K : Exit → Sl → World → Prop) (ρ : Sl) (w : World) : sx z Tryd.prog 18 dispatcherlaw04_sum_L0 K ρ w = dispatcherlaw04_sum_L0_F z K ρ w := by kernel_rfl
theorem dispatcherlaw04_sum_L0_ok : dstOk 18 dispatcherlaw04_sum_L0 = true := by kernel_rfl
noncomputable def dispatcherlaw04_sum_R1_F (z : At) (K : Exit → Sl → World → Prop) (ρ : Sl) (w : World) : Prop :=
  K Exit.ret (up (up ρ 17 (ρ 3)) 2 (ρ 3)) w
theorem dispatcherlaw04_sum_R1_eq (z : At) (K : Exit → Sl → World → Prop) (ρ : Sl) (w : World) : sx z Tryd.prog 18 dispatcherlaw04_sum_R1 K ρ w = dispatcherlaw04_sum_R1_F z K ρ w := by kernel_rfl
noncomputable def dispatcherlaw04_sum_F (a0 : Value) (w : World) (R : Value → World → Prop) : Prop :=
  W fn_ Tryd.prog 18 (Code.loop dispatcherlaw04_sum_L0) (blkK 0 (seqK (sx fn_ Tryd.prog 18 dispatcherlaw04_sum_R1 (retK Tryd.prog [ResultVar.tmp 2] R)) (retK Tryd.prog [ResultVar.tmp 2] R))) (up (up (up (rho0 [a0]) 2 (Value.int IntKind.i64 0)) 3 (Value.int IntKind.i64 0)) 4 (Value.int IntKind.i64 0)) w
theorem dispatcherlaw04_sum_eq (a0 : Value) (w : World) (R : Value → World → Prop) : sx fn_ Tryd.prog 18 dispatcherlaw04_sum_b (retK Tryd.prog Tryd.f28.results.toList R) (rho0 [a0]) w = dispatcherlaw04_sum_F a0 w R := by kernel_rfl
theorem dispatcherlaw04_sum_calls {a0 : Value} {w : World} {R : Value → World → Prop} (h : dispatcherlaw04_sum_F a0 w R) : Calls Tryd.prog 28 #[a0] w fun e w' => ∃ v, e = .returned v ∧ R v w' :=
  Go.X.calls_of_sx (n := 18) (c := dispatcherlaw04_sum_b) Tryd.func28 (by kernel_rfl) (by kernel_rfl) (Nat.le_of_ble_eq_true rfl) (by kernel_rfl) (Eq.mpr (dispatcherlaw04_sum_eq a0 w R) h)
end Go.Proofs.YtbnbcimjapiicaaDoor.XL
set_option linter.unusedVariables false
set_option linter.unusedSimpArgs false
set_option maxRecDepth 4000
namespace Go.Proofs.YtbnbcimjapiicaaDoor.Tr
open Go Go.X Go.RowKit Go.Proofs.YtbnbcimjapiicaaDoor.XL Go.Proofs.YtbnbcimjapiicaaDoor.XK
theorem read_ok {b : Bs} {pr : Pr} (h : readP b = some pr) (hf : pr.fits) {w : World} : Rt Tryd.prog 40 #[.string (bs b)] w fun v w' => ∃ q : Pr, v = .agg q.cells.toArray ∧ q.er = pr ∧ q.Ok w' ∧ Mod none_ w w' := by
  refine dispatcherlaw04_read_calls ?_
  unfold dispatcherlaw04_read_F
  refine al_k (cs := zPc) zPr rfl _ fun w1 hb1 hm1 hz1 => ?_
  refine bytes_k Tryd.underlying9 Tryd.underlying95 Tryd.underlying5 b fun v w2 hr hm2 => ?_
  refine Parse_tx h hf hr fun x q w3 he hO hm3 => ?_
  have hq := hO.ok
  have hb3 := hm3.blk (hm2.blk hb1 id) id
  have hm03 := (hm1.trans hm2).trans hm3
  rw [extract_ok (v := .agg q.cells.toArray) rfl, extract_ok (v := .agg zWc) rfl]
  refine al_k (cs := zPc) zPr rfl _ fun w4 hb4 hm4 hz4 => ?_
  refine al_k (cs := zWc) zWr' rfl _ fun w5 hb5 hm5 hz5 => ?_
  have hb35 := hm5.blk (hm4.blk hb3 id) id
  have hlt := blk_lt hb3
  refine stS (old := zPc) (cs := q.cells.toArray) rfl rfl iPr' rfl (oneOk hq) (hm5.blk hb4 id) fun w6 hb6 hm6 hz6 => ?_
  refine stS (old := zWc) (cs := zWc) rfl rfl iWr' rfl (by kernel_rfl) (hm6.blk hb5 (by omega)) fun w7 hb7 hm7 hz7 => ?_
  have hb67 := hm7.blk hb6 (by omega)
  refine ldS (cs := q.cells.toArray) rfl Tryd.underlying25 rfl iPr' hb67 ?_
  refine stS (old := zPc) (cs := q.cells.toArray) rfl rfl iPr' rfl (oneOk hq) (hm7.blk (hm6.blk hb35 (by omega)) (by omega)) fun w8 hb8 hm8 hz8 => ?_
  have hm38 : Mod none_ w w8 := ((((hm03.trans hm4).trans hm5).then hm6 fun i hi q => by have := hm03.size; omega).then hm7 fun i hi q => by have := hm03.size; omega).then hm8 fun i hi q => by omega
  have hm37 : Mod none_ w3 w7 := ((hm4.trans hm5).then hm6 fun i hi q => by omega).then hm7 fun i hi q => by omega
  have hs2 := hm2.size
  have hq8 : PrOwn w8 w2.heap.size q := (hO.mod0 hm37).off hm8 fun k q => by omega
  exact rsCell (R := fun v w' => ∃ q : Pr, v = .agg q.cells.toArray ∧ q.er = pr ∧ q.Ok w' ∧ Mod none_ w w') (cs := q.cells.toArray) rfl Tryd.underlying25 rfl iPr' hb8 ⟨q, rfl, he, hq8.ok, hm38⟩
theorem told_ok {w : World} (hg : Gl w) {b : Bs} {e : Wr} (h : tellB b e = true) : Rt Tryd.prog 41 #[.string (bs b), .int .i64 e.err, .int .i64 e.line, .int .i64 e.col] w fun v w' => v = .bool true ∧ Mod none_ w w' := by
  obtain ⟨pr, hr, hf⟩ := got h
  rw [Bool.and_eq_true, decide_eq_true_iff] at hf
  have hfit := Pr.fits_of hf.1
  refine dispatcherlaw04_told_calls ?_
  unfold dispatcherlaw04_told_F
  refine CK_st Tryd.func40 rfl rfl (read_ok hr hfit) ?_
  rintro _ w1 ⟨q, rfl, he, hq, hm1⟩
  have hpe : q.er = pr.er := by
    rw [← he, Pr.er_er]
  refine CK_st Tryd.func14 rfl rfl (Check_ok (hg.mod hm1) hq (fits_of hpe hfit)) ?_
  rintro _ w2 ⟨rfl, hm2⟩
  rw [build_ok (bWr3 _ _ _), checkP_of hpe, hf.2]
  show BK Tryd.prog .eql 30 _ _ e.v e.v w2 _
  rw [BK_WrE, decide_eq_true rfl]
  exact ⟨rfl, hm1.trans hm2⟩
theorem awake_ok {w : World} (hg : Gl w) : Rt Tryd.prog 18 #[] w fun v w' => v = .bool true ∧ Mod none_ w w' := by
  obtain ⟨pr, hr, hf⟩ := got tx0
  rw [Bool.and_eq_true, Bool.and_eq_true, Bool.and_eq_true, decide_eq_true_iff, decide_eq_true_iff, decide_eq_true_iff] at hf
  obtain ⟨⟨h1, h2⟩, h3, h4⟩ := hf
  have hfit := Pr.fits_of h1
  refine dispatcherlaw04_awake_calls ?_
  unfold dispatcherlaw04_awake_F
  refine CK_st Tryd.func40 rfl rfl (read_ok hr hfit) ?_
  rintro _ w1 ⟨q, rfl, he, hq, hm1⟩
  have hpe : q.er = pr.er := by
    rw [← he, Pr.er_er]
  refine CK_st Tryd.func13 rfl rfl (New_ok (hg.mod hm1) hq (fits_of hpe hfit)) ?_
  rintro _ w2 ⟨x, rfl, hT⟩
  rw [checkP_of hpe, h2, extract_ok (v := x) rfl, extract_ok (v := (Wr.mk 0 0 0).v) rfl]
  have hm2 := hT.m
  obtain ⟨_, _, t, rfl, hTb⟩ := hT.ok (by rw [checkP_of hpe, h2])
  refine lcl_k (cs := (Wr.mk 0 0 0).cells.toArray) zWrg _ iWrg rfl (wr_one _) fun w3 hb3 hm3 hz3 => ?_
  have e0 : FO Tryd.prog w3 30 0 0 ⟨w2.heap.size, 0, none⟩ 28 (.int .i64 0) := FO.blk hb3 (by kernel_rfl) Tryd.underlying28 rfl rfl
  have hd : q.decls = pr.decls := by have := congrArg Pr.decls hpe; exact this
  have hTb3 := hTb.mod hm3
  rw [hd] at hTb3
  simp only [↓VG_u, ↓UG_u, ↓MG_u, ↓NG_u, ↓PG_u, ↓BG_u, ↓CG_u, ↓IG_u, ↓VGtt, ↓VGtf, ↓VGft, ↓VGff, ↓UGtt, ↓UGtf, ↓UGft, ↓UGff, ↓MGtt, ↓MGtf, ↓MGft, ↓MGff, ↓NGtt, ↓NGtf, ↓NGft, ↓NGff, ↓PGtt, ↓PGtf, ↓PGft, ↓PGff, ↓BGtt, ↓BGtf, ↓BGft, ↓BGff, ↓CGtt, ↓CGtf, ↓CGft, ↓CGff, ↓IGtt, ↓IGtf, ↓IGft, ↓IGff, ↓PKt, ↓PKf, ↓CDt, ↓CDf, ↓NOTt, ↓NOTf, ↓NK_ptr, ↓e0.e, ↓NEf (rfl : (0 : Int) = 0)]
  rw [BK_eqlP uTp, Option.isNone_some]
  try simp only [↓VG_u, ↓UG_u, ↓MG_u, ↓NG_u, ↓PG_u, ↓BG_u, ↓CG_u, ↓IG_u, ↓VGtt, ↓VGtf, ↓VGft, ↓VGff, ↓UGtt, ↓UGtf, ↓UGft, ↓UGff, ↓MGtt, ↓MGtf, ↓MGft, ↓MGff, ↓NGtt, ↓NGtf, ↓NGft, ↓NGff, ↓PGtt, ↓PGtf, ↓PGft, ↓PGff, ↓BGtt, ↓BGtf, ↓BGft, ↓BGff, ↓CGtt, ↓CGtf, ↓CGft, ↓CGff, ↓IGtt, ↓IGtf, ↓IGft, ↓IGff, ↓PKt, ↓PKf, ↓CDt, ↓CDf, ↓NOTt, ↓NOTf, ↓NK_ptr]
  refine CK_st Tryd.func16 rfl rfl (FindT_ok hTb3 (bs [121])) ?_
  rintro _ w4 ⟨rfl, hm4⟩
  have e3 : (findP pr.decls (bs [121]).data.toList).v = (En.mk 1 1 0 0).v := by rw [show (bs [121]).data.toList = [121] from rfl, h3]
  rw [build_ok (bEnt1 _), e3]
  have eq1 : ∀ {x y : Operand} {e : En} {w : World} {K : Value → World → Prop}, BK Tryd.prog .eql 37 x y e.v e.v w K = K (.bool true) w := by
    intro x y e w K; rw [BK_EnE, decide_eq_true rfl]
  rw [show Value.agg (En.mk 1 1 0 0).cells.toArray = (En.mk 1 1 0 0).v from rfl, eq1]
  try simp only [↓VG_u, ↓UG_u, ↓MG_u, ↓NG_u, ↓PG_u, ↓BG_u, ↓CG_u, ↓IG_u, ↓VGtt, ↓VGtf, ↓VGft, ↓VGff, ↓UGtt, ↓UGtf, ↓UGft, ↓UGff, ↓MGtt, ↓MGtf, ↓MGft, ↓MGff, ↓NGtt, ↓NGtf, ↓NGft, ↓NGff, ↓PGtt, ↓PGtf, ↓PGft, ↓PGff, ↓BGtt, ↓BGtf, ↓BGft, ↓BGff, ↓CGtt, ↓CGtf, ↓CGft, ↓CGff, ↓IGtt, ↓IGtf, ↓IGft, ↓IGff, ↓PKt, ↓PKf, ↓CDt, ↓CDf, ↓NOTt, ↓NOTf, ↓NK_ptr]
  refine CK_st Tryd.func16 rfl rfl (FindT_ok (hTb3.mod hm4) (bs [98])) ?_
  rintro _ w5 ⟨rfl, hm5⟩
  have e4 : (findP pr.decls (bs [98]).data.toList).v = (En.mk 2 1 3 2).v := by rw [show (bs [98]).data.toList = [98] from rfl, h4]
  try simp only [↓VG_u, ↓UG_u, ↓MG_u, ↓NG_u, ↓PG_u, ↓BG_u, ↓CG_u, ↓IG_u, ↓VGtt, ↓VGtf, ↓VGft, ↓VGff, ↓UGtt, ↓UGtf, ↓UGft, ↓UGff, ↓MGtt, ↓MGtf, ↓MGft, ↓MGff, ↓NGtt, ↓NGtf, ↓NGft, ↓NGff, ↓PGtt, ↓PGtf, ↓PGft, ↓PGff, ↓BGtt, ↓BGtf, ↓BGft, ↓BGff, ↓CGtt, ↓CGtf, ↓CGft, ↓CGff, ↓IGtt, ↓IGtf, ↓IGft, ↓IGff, ↓PKt, ↓PKf, ↓CDt, ↓CDf, ↓NOTt, ↓NOTf, ↓NK_ptr]
  rw [build_ok (bEnt2 _ _ _), e4, show Value.agg (En.mk 2 1 3 2).cells.toArray = (En.mk 2 1 3 2).v from rfl, eq1]
  try simp only [↓VG_u, ↓UG_u, ↓MG_u, ↓NG_u, ↓PG_u, ↓BG_u, ↓CG_u, ↓IG_u, ↓VGtt, ↓VGtf, ↓VGft, ↓VGff, ↓UGtt, ↓UGtf, ↓UGft, ↓UGff, ↓MGtt, ↓MGtf, ↓MGft, ↓MGff, ↓NGtt, ↓NGtf, ↓NGft, ↓NGff, ↓PGtt, ↓PGtf, ↓PGft, ↓PGff, ↓BGtt, ↓BGtf, ↓BGft, ↓BGff, ↓CGtt, ↓CGtf, ↓CGft, ↓CGff, ↓IGtt, ↓IGtf, ↓IGft, ↓IGff, ↓PKt, ↓PKf, ↓CDt, ↓CDf, ↓NOTt, ↓NOTf, ↓NK_ptr]
  have hm05 := (((hm1.trans hm2).trans hm3).trans hm4).trans hm5
  refine CK_st Tryd.func41 rfl rfl (told_ok (hg.mod hm05) (e := ⟨40, 1, 12⟩) tx1) ?_
  rintro _ w6 ⟨rfl, hm6⟩
  try simp only [↓VG_u, ↓UG_u, ↓MG_u, ↓NG_u, ↓PG_u, ↓BG_u, ↓CG_u, ↓IG_u, ↓VGtt, ↓VGtf, ↓VGft, ↓VGff, ↓UGtt, ↓UGtf, ↓UGft, ↓UGff, ↓MGtt, ↓MGtf, ↓MGft, ↓MGff, ↓NGtt, ↓NGtf, ↓NGft, ↓NGff, ↓PGtt, ↓PGtf, ↓PGft, ↓PGff, ↓BGtt, ↓BGtf, ↓BGft, ↓BGff, ↓CGtt, ↓CGtf, ↓CGft, ↓CGff, ↓IGtt, ↓IGtf, ↓IGft, ↓IGff, ↓PKt, ↓PKf, ↓CDt, ↓CDf, ↓NOTt, ↓NOTf, ↓NK_ptr]
  have hm06 := hm05.trans hm6
  refine CK_st Tryd.func41 rfl rfl (told_ok (hg.mod hm06) (e := ⟨40, 1, 11⟩) tx2) ?_
  rintro _ w7 ⟨rfl, hm7⟩
  try simp only [↓VG_u, ↓UG_u, ↓MG_u, ↓NG_u, ↓PG_u, ↓BG_u, ↓CG_u, ↓IG_u, ↓VGtt, ↓VGtf, ↓VGft, ↓VGff, ↓UGtt, ↓UGtf, ↓UGft, ↓UGff, ↓MGtt, ↓MGtf, ↓MGft, ↓MGff, ↓NGtt, ↓NGtf, ↓NGft, ↓NGff, ↓PGtt, ↓PGtf, ↓PGft, ↓PGff, ↓BGtt, ↓BGtf, ↓BGft, ↓BGff, ↓CGtt, ↓CGtf, ↓CGft, ↓CGff, ↓IGtt, ↓IGtf, ↓IGft, ↓IGff, ↓PKt, ↓PKf, ↓CDt, ↓CDf, ↓NOTt, ↓NOTf, ↓NK_ptr]
  have hm07 := hm06.trans hm7
  refine CK_st Tryd.func41 rfl rfl (told_ok (hg.mod hm07) (e := ⟨40, 1, 12⟩) tx3) ?_
  rintro _ w8 ⟨rfl, hm8⟩
  exact ⟨rfl, hm07.trans hm8⟩
end Go.Proofs.YtbnbcimjapiicaaDoor.Tr
set_option linter.unusedVariables false
set_option linter.unusedSimpArgs false
set_option maxRecDepth 4000
namespace Go.X
open Go Go.Proofs.YtbnbcimjapiicaaDoor.Tr
theorem nu_kind0 (pre : List De) (d : De) : (nu pre d).kind ≠ 0 := by unfold nu; split <;> simp
theorem find_mem {k : Key} : ∀ {l pre : List De}, (∃ x ∈ l, x.key = k) → (findF pre l k).kind ≠ 0
  | [], pre, ⟨x, hx, _⟩ => by simp at hx
  | d :: r, pre, ⟨x, hx, hk⟩ => by
    rw [findF]
    split
    · exact nu_kind0 _ _
    · rename_i h
      rcases List.mem_cons.1 hx with rfl | hx
      · exact absurd hk h
      · exact find_mem ⟨x, hx, hk⟩
end Go.X
set_option linter.unusedVariables false
set_option linter.unusedSimpArgs false
set_option maxRecDepth 4000
namespace Go.X
open Go Go.Proofs.YtbnbcimjapiicaaDoor.Tr
theorem findF_old {k : Key} : ∀ {l pre m : List De}, (findF pre l k).kind ≠ 0 → findF pre (l ++ m) k = findF pre l k
  | [], pre, m, h => by rw [findF] at h; exact absurd rfl h
  | d :: r, pre, m, h => by
    rw [findF] at h
    rw [List.cons_append, findF, findF]
    split
    · rfl
    · rename_i q
      rw [if_neg q] at h
      exact findF_old h
theorem findP_old {l m : List De} {k : Key} (h : (findP l k).kind ≠ 0) : findP (l ++ m) k = findP l k := findF_old h
theorem findP_new {l : List De} {z : De} (h : (findP l z.key).kind = 0) : findP (l ++ [z]) z.key = nu l z := by
  have hno : ∀ a ∈ l, a.key ≠ z.key := fun a ha q => find_mem ⟨a, ha, q⟩ h
  unfold findP
  rw [findF_no _ _ _ _ hno, List.nil_append, findF, if_pos rfl]
theorem declsW_app : ∀ {l pre m : List De}, (declsW pre l).err = 0 → declsW pre (l ++ m) = declsW (pre ++ l) m
  | [], pre, m, _ => by rw [List.nil_append, List.append_nil]
  | d :: r, pre, m, h => by
    rw [declsW] at h
    rw [List.cons_append, declsW]
    split at h
    · rename_i q
      rw [if_pos q, declsW_app h, List.append_assoc, List.singleton_append]
    · rename_i q
      exact absurd h q
end Go.X
namespace Go.Proofs.YtbnbcimjapiicaaDoor.Tr
open Go Go.X Go.RowKit
section
variable {f g : Key → Int} (hfg : ∀ k, f k ≠ 0 → g k = f k)
include hfg
theorem kinds_up {k : Key} {n : Int} (hn : n ≠ 0) (h : f k = n) : g k = n := by rw [hfg k (by rw [h]; exact hn), h]
theorem Ex.wr_up : ∀ e : Ex, (e.wr f).err = 0 → (e.wr g).err = 0 := by
  intro e
  induction e using Ex.ind with
  | h e ih =>
    intro h
    rw [Ex.wr_eq] at h ⊢
    split at h
    · exact absurd h (by show ¬ (40 : Int) = 0; decide)
    · rename_i hb
      have hb2 : e.bad g = false := by
        have hb : e.bad f = false := by simpa using hb
        unfold Ex.bad at hb ⊢
        simp only [Bool.or_eq_false_iff, decide_eq_false_iff_not, not_and, Classical.not_not] at hb ⊢
        exact ⟨fun q => kinds_up hfg (by decide) (hb.1 q), fun q => kinds_up hfg (by decide) (hb.2 q)⟩
      rw [hb2, if_neg (by decide), Ex.wrL_zero]
      exact fun a ha => ih a ha (Ex.wrL_zero.1 h a ha)
theorem Ex.wrL_up (l : List Ex) (h : (Ex.wrL f l).err = 0) : (Ex.wrL g l).err = 0 := Ex.wrL_zero.2 fun a ha => Ex.wr_up hfg a (Ex.wrL_zero.1 h a ha)
theorem St.wr_up : ∀ e : St, (e.wr f).err = 0 → (e.wr g).err = 0 := by
  intro e
  induction e using St.ind with
  | h e ih ih2 =>
    intro h
    rw [St.wr_eq] at h ⊢
    split at h
    · exact absurd h (by show ¬ (40 : Int) = 0; decide)
    · rename_i hb
      have hb2 : e.bad g = false := by
        have hb : e.bad f = false := by simpa using hb
        unfold St.bad at hb ⊢
        simp only [Bool.or_eq_false_iff, decide_eq_false_iff_not, not_and, Classical.not_not] at hb ⊢
        exact ⟨fun q => kinds_up hfg (by decide) (hb.1 q), fun q => kinds_up hfg (by decide) (hb.2 q)⟩
      rw [hb2, if_neg (by decide)]
      split at h
      · rename_i h1
        rw [if_pos (Ex.wrL_up hfg _ h1)]
        split at h
        · rename_i h2
          rw [if_pos (St.wrL_zero.2 fun a ha => ih a ha (St.wrL_zero.1 h2 a ha))]
          exact St.wrL_zero.2 fun a ha => ih2 a ha (St.wrL_zero.1 h a ha)
        · rename_i h2; exact absurd h h2
      · rename_i h1; exact absurd h h1
theorem St.wrL_up (l : List St) (h : (St.wrL f l).err = 0) : (St.wrL g l).err = 0 := St.wrL_zero.2 fun a ha => St.wr_up hfg a (St.wrL_zero.1 h a ha)
end
theorem St.wrL_z {f : Key → Int} : ∀ {l : List St}, (St.wrL f l).err = 0 → St.wrL f l = zWr
  | [], _ => by rw [St.wrL]
  | e :: r, h => by
    rw [St.wrL] at h ⊢
    split at h
    · rename_i q; rw [if_pos q]; exact St.wrL_z h
    · rename_i q; exact absurd h q
def zz : Bs := [122, 122, 111, 116, 104, 101, 114]
def zzD (n : Int) : De := ⟨bs zz, n, 5, 7⟩
theorem zz_may {n : Int} (h : 0 ≤ n ∧ n ≤ 1000) : (zzD n).may = true := by
  unfold De.may zzD
  rw [show nameP (bs zz) = true by kernel_rfl]
  simp [h.1, h.2]
/-- What is told of a program with a declaration more. -/
theorem checkP_decl {p q : Pr} {n : Int} (hp : (checkP p).err = 0) (hz : (findP p.decls zz).kind = 0) (hn : 0 ≤ n ∧ n ≤ 1000) (hd : q.decls = p.decls ++ [zzD n]) (hb : q.body.map St.er = p.body.map St.er) :
    checkP q = if full p.decls (zzD n) then ⟨4, 5, 7⟩ else zWr := by
  unfold checkP at hp
  split at hp
  rotate_left
  · simp at hp
  rename_i hm
  split at hp
  rotate_left
  · rename_i h; exact absurd hp h
  rename_i hdw
  have e1 : q.may = true := by
    unfold Pr.may at hm ⊢
    rw [← St.deepAt_er, ← St.mayL_er, hb, St.deepAt_er, St.mayL_er, hd, List.all_append]
    simp only [Bool.and_eq_true] at hm ⊢
    exact ⟨⟨hm.1.1, hm.1.2, by simp [zz_may hn]⟩, hm.2⟩
  have hkey : (zzD n).key = zz := by rfl
  have hdw2 : declsW [] q.decls = if full p.decls (zzD n) then ⟨4, 5, 7⟩ else zWr := by
    rw [hd, declsW_app hdw, List.nil_append, declsW, declsW]
    have hs : dstep p.decls (zzD n) = if full p.decls (zzD n) then 4 else 0 := by
      unfold dstep
      rw [hkey, if_neg (by simpa using hz)]
    rw [hs]
    split
    · rw [if_neg (by decide)]; rfl
    · rw [if_pos rfl]
  unfold checkP
  rw [if_pos e1, hdw2]
  split
  · rw [if_neg (by decide)]
  · rw [if_pos (show zWr.err = 0 from rfl)]
    have hk : ∀ k, kindP p.decls k ≠ 0 → kindP q.decls k = kindP p.decls k := fun k hk => by
      unfold kindP at hk ⊢
      rw [hd, findP_old hk]
    have := St.wrL_up hk p.body hp
    rw [← St.wrL_er, hb, St.wrL_er]
    exact St.wrL_z this
/-- A statement ahead that names what isn't there. -/
def firstS (v : Value) (l c : Int) : St := ⟨1, 0, 0, bs zz, 0, v, [⟨1, 0, bs [], .slice none 0 0, [], 0, 0⟩], .slice none 0 0, [], .slice none 0 0, [], l, c⟩
theorem first_may (v : Value) (l c : Int) : (firstS v l c).may = true := by kernel_rfl
theorem checkP_first {p q : Pr} {v : Value} {l c : Int} (hp : (checkP p).err = 0) (hz : (findP p.decls zz).kind = 0) (hd : q.decls = p.decls) (hb : ∃ x, q.body = firstS v l c :: x ∧ x.map St.er = p.body.map St.er) : checkP q = ⟨40, l, c⟩ := by
  obtain ⟨x, hb, hx⟩ := hb
  unfold checkP at hp
  split at hp
  rotate_left
  · simp at hp
  rename_i hm
  split at hp
  rotate_left
  · rename_i h; exact absurd hp h
  rename_i hdw
  have e1 : q.may = true := by
    unfold Pr.may at hm ⊢
    simp only [Bool.and_eq_true, decide_eq_true_iff] at hm ⊢
    obtain ⟨⟨h1, h2⟩, h3⟩ := hm
    rw [← St.deepAt_er, ← hx, St.deepAt_er] at h1
    rw [← St.mayL_er, ← hx, St.mayL_er] at h3
    rw [hb, hd]
    refine ⟨⟨?_, h2⟩, by rw [St.mayL, first_may, h3]; rfl⟩
    unfold St.deepAt at h1 ⊢
    have hb0 : (firstS v l c).blocks = 0 := by kernel_rfl
    have he1 : (firstS v l c).exprD = 1 := by kernel_rfl
    rw [St.blocksL', St.exprDL, hb0, he1, if_neg (by simp)]
    split at h1
    · rename_i q0
      obtain rfl : x = [] := List.length_eq_zero_iff.1 q0
      simp [St.blocksL', St.exprDL]
    · omega
  unfold checkP
  rw [if_pos e1, hd, if_pos hdw, hb, St.wrL]
  have hw : (firstS v l c).wr (kindP p.decls) = ⟨40, l, c⟩ := by
    rw [St.wr_eq]
    have : (firstS v l c).bad (kindP p.decls) = true := by
      unfold St.bad
      have : kindP p.decls (firstS v l c).name.data.toList = 0 := hz
      rw [this]
      simp [firstS]
    rw [this, if_pos rfl]; rfl
  rw [hw, if_neg (by show ¬ (40 : Int) = 0; decide)]
theorem full_eq {l : List De} {n : Int} : full l (zzD n) = if n = 0 then decide (vars l = 64) else decide (1000 < cellsP l + n) := rfl
theorem sum_arrs : ∀ l : List De, (arrs l).sum = cellsP l
  | [] => rfl
  | d :: r => by
    rw [cellsP, ← sum_arrs r]
    unfold arrs isV
    rw [List.filter_cons]
    by_cases h : d.places = 0
    · simp [h]
    · simp [h]
end Go.Proofs.YtbnbcimjapiicaaDoor.Tr
set_option linter.unusedVariables false
set_option maxRecDepth 100000
namespace Go.Proofs.YtbnbcimjapiicaaDoor.XM
open Go Go.X
/-- dispatcher/dispatcherlaw04.ScopeMore -/
noncomputable def dispatcherlaw04_ScopeMore_b : Code := (Tryd.f8.body).getD .skip
noncomputable def dispatcherlaw04_ScopeMore_R0 : Code := cAt [1, 1, 1, 1, 0, 1] dispatcherlaw04_ScopeMore_b
noncomputable def dispatcherlaw04_ScopeMore_R1 : Code := cAt [1, 1, 1, 1, 1] dispatcherlaw04_ScopeMore_b
noncomputable def dispatcherlaw04_ScopeMore_R2 : Code := cAt [1, 1, 1, 1, 1, 1, 1, 1, 1] dispatcherlaw04_ScopeMore_b
noncomputable def dispatcherlaw04_ScopeMore_R3 : Code := cAt [1, 1, 1, 1, 1, 1, 1, 1, 1, 1, 1] dispatcherlaw04_ScopeMore_b
noncomputable def dispatcherlaw04_ScopeMore_L4 : Code := cAt [1, 1, 1, 1, 1, 1, 1, 1, 1, 1, 1, 1, 1, 0, 1, 0, 0] dispatcherlaw04_ScopeMore_b
noncomputable def dispatcherlaw04_ScopeMore_R5 : Code := cAt [1, 1, 1, 1, 1, 1, 1, 1, 1, 1, 1, 1, 1, 1] dispatcherlaw04_ScopeMore_b
noncomputable def dispatcherlaw04_ScopeMore_R6 : Code := cAt [1, 1, 1, 1, 1, 1, 1, 1, 1, 1, 1, 1, 1, 0, 1, 0, 0, 1, 0, 0, 0] dispatcherlaw04_ScopeMore_b
noncomputable def dispatcherlaw04_ScopeMore_R7 : Code := cAt [1, 1, 1, 1, 1, 1, 1, 1, 1, 1, 1, 1, 1, 0, 1, 0, 0, 1, 0, 0, 1] dispatcherlaw04_ScopeMore_b
noncomputable def dispatcherlaw04_ScopeMore_R8 : Code := cAt [1, 1, 1, 1, 1, 1, 1, 1, 1, 1, 1, 1, 1, 0, 1, 0, 0, 1, 1] dispatcherlaw04_ScopeMore_b
noncomputable def dispatcherlaw04_ScopeMore_R0_F (z : At) (K : Exit → Sl → World → Prop) (ρ : Sl) (w : World) : Prop :=
  CondK (ρ 41) (K Exit.ret (up ρ 8 (Value.bool false)) w) (K Exit.normal ρ w)
theorem dispatcherlaw04_ScopeMore_R0_eq (z : At) (K : Exit → Sl → World → Prop) (ρ : Sl) (w : World) : sx z Tryd.prog 143 dispatcherlaw04_ScopeMore_R0 K ρ w = dispatcherlaw04_ScopeMore_R0_F z K ρ w := by kernel_rfl
noncomputable def dispatcherlaw04_ScopeMore_R1_F (z : At) (K : Exit → Sl → World → Prop) (ρ : Sl) (w : World) : Prop :=
  VK Tryd.prog (Instr.fieldAt 30 (ρ 10) 0) w fun x42 w => VK Tryd.prog (Instr.loadAt 28 x42) w fun x43 w => BK Tryd.prog BinOp.neq 28 (Operand.tmp 43) (Operand.const (Value.int IntKind.i64 0)) x43 (Value.int IntKind.i64 0) w fun x44 w => MG Tryd.prog x44 false (ρ 9) w fun x46 w => CG Tryd.prog x44 false (Value.func (Fn.func 16) #[] #[]) [x46, (Value.string { data := #[122, 122, 111, 116, 104, 101, 114] })] w fun x47 w => VG Tryd.prog x44 false (Instr.field 37 x47 0) w fun x48 w => BG Tryd.prog x44 false BinOp.neq 5 (Operand.tmp 48) (Operand.const (Value.int IntKind.u8 0)) x48 (Value.int IntKind.u8 0) w fun x49 w => PK Tryd.prog x44 (Value.bool true) x49 w fun x50 w => CondK x50 (K Exit.ret (up (up (up (up (up (up (up (up (up (up ρ 42 x42) 43 x43) 44 x44) 45 x44) 46 x46) 47 x47) 48 x48) 49 x49) 50 x50) 8 (Value.bool true)) w) (VK Tryd.prog (Instr.loadAt 25 (ρ 4)) w fun x51 w => CK Tryd.prog (Value.func (Fn.func 11) #[] #[]) [x51] w fun x52 w => VK Tryd.prog (Instr.alloc 25 true (.tuple #[])) w fun x11 w => UK Tryd.prog (Instr.storeAt 25 x11 x52) w fun _ w => VK Tryd.prog (Instr.fieldAt 25 x11 0) w fun x53 w => VK Tryd.prog (Instr.loadAt 22 x53) w fun x54 w => VK Tryd.prog (Instr.build 40 [(0, (Value.string { data := #[122, 122, 111, 116, 104, 101, 114] })), (1, (ρ 1)), (2, (Value.int IntKind.i64 5)), (3, (Value.int IntKind.i64 7))].toArray) w fun x56 w => VK Tryd.prog (Instr.buildSlice 22 1 [(0, x56)].toArray) w fun x57 w => IK Tryd.prog Builtin.append #[22, 22] 22 [false, false] [x54, x57] w fun x58 w => VK Tryd.prog (Instr.fieldAt 25 x11 0) w fun x59 w => UK Tryd.prog (Instr.storeAt 22 x59 x58) w fun _ w => VK Tryd.prog (Instr.loadAt 25 x11) w fun x61 w => CK Tryd.prog (Value.func (Fn.func 13) #[] #[]) [x61] w fun x62 w => VK Tryd.prog (Instr.extract x62 0) w fun x63 w => VK Tryd.prog (Instr.extract x62 1) w fun x64 w => VK Tryd.prog (Instr.alloc 30 true (.tuple #[])) w fun x13 w => UK Tryd.prog (Instr.storeAt 30 x13 x64) w fun _ w => sx z Tryd.prog 143 dispatcherlaw04_ScopeMore_R2 K (up (up (up (up (up (up (up (up (up (up (up (up (up (up (up (up (up (up (up (up (up (up (up (up (up (up ρ 42 x42) 43 x43) 44 x44) 45 x44) 46 x46) 47 x47) 48 x48) 49 x49) 50 x50) 51 x51) 52 x52) 11 x11) 53 x53) 54 x54) 55 (ρ 1)) 56 x56) 57 x57) 58 x58) 59 x59) 61 x61) 62 x62) 60 x62) 63 x63) 64 x64) 13 x13) 12 x63) w)
theorem dispatcherlaw04_ScopeMore_R1_eq (z : At) (K : Exit → Sl → World → Prop) (ρ : Sl) (w : World) : sx z Tryd.prog 143 dispatcherlaw04_ScopeMore_R1 K ρ w = dispatcherlaw04_ScopeMore_R1_F z K ρ w := by kernel_rfl
noncomputable def dispatcherlaw04_ScopeMore_R2_F (z : At) (K : Exit → Sl → World → Prop) (ρ : Sl) (w : World) : Prop :=
  CK Tryd.prog (Value.func (Fn.func 22) #[] #[]) [(ρ 9)] w fun x66 w => BK Tryd.prog BinOp.eql 3 (Operand.tmp 66) (Operand.const (Value.int IntKind.i64 64)) x66 (Value.int IntKind.i64 64) w fun x67 w => BK Tryd.prog BinOp.gtr 3 (Operand.tmp 68) (Operand.const (Value.int IntKind.i64 0)) (ρ 1) (Value.int IntKind.i64 0) w fun x69 w => CondK x69 (CK Tryd.prog (Value.func (Fn.func 23) #[] #[]) [(ρ 9)] w fun x72 w => CK Tryd.prog (Value.func (Fn.func 28) #[] #[]) [x72] w fun x73 w => BK Tryd.prog BinOp.sub 3 (Operand.const (Value.int IntKind.i64 1000)) (Operand.tmp 73) (Value.int IntKind.i64 1000) x73 w fun x74 w => BK Tryd.prog BinOp.gtr 3 (Operand.tmp 70) (Operand.tmp 74) (ρ 1) x74 w fun x75 w => sx z Tryd.prog 143 dispatcherlaw04_ScopeMore_R3 K (up (up (up (up (up (up (up (up (up (up (up (up (up ρ 65 (ρ 9)) 66 x66) 67 x67) 14 x67) 68 (ρ 1)) 69 x69) 70 (ρ 1)) 71 (ρ 9)) 72 x72) 73 x73) 74 x74) 75 x75) 14 x75) w) (sx z Tryd.prog 143 dispatcherlaw04_ScopeMore_R3 K (up (up (up (up (up (up ρ 65 (ρ 9)) 66 x66) 67 x67) 14 x67) 68 (ρ 1)) 69 x69) w)
theorem dispatcherlaw04_ScopeMore_R2_eq (z : At) (K : Exit → Sl → World → Prop) (ρ : Sl) (w : World) : sx z Tryd.prog 143 dispatcherlaw04_ScopeMore_R2 K ρ w = dispatcherlaw04_ScopeMore_R2_F z K ρ w := by kernel_rfl
noncomputable def dispatcherlaw04_ScopeMore_R3_F (z : At) (K : Exit → Sl → World → Prop) (ρ : Sl) (w : World) : Prop :=
  CondK (ρ 14) (BK Tryd.prog BinOp.eql 32 (Operand.tmp 77) (Operand.const (Value.pointer none)) (ρ 12) (Value.pointer none) w fun x78 w => VG Tryd.prog x78 true (Instr.loadAt 30 (ρ 13)) w fun x80 w => VG Tryd.prog x78 true (Instr.build 30 [(0, (Value.int IntKind.i64 4)), (1, (Value.int IntKind.i64 5)), (2, (Value.int IntKind.i64 7))].toArray) w fun x81 w => BG Tryd.prog x78 true BinOp.eql 30 (Operand.tmp 80) (Operand.tmp 81) x80 x81 w fun x82 w => PK Tryd.prog x78 x82 (Value.bool false) w fun x83 w => K Exit.ret (up (up (up (up (up (up (up (up (up ρ 76 (ρ 14)) 77 (ρ 12)) 78 x78) 79 x78) 80 x80) 81 x81) 82 x82) 83 x83) 8 x83) w) (VK Tryd.prog (Instr.fieldAt 30 (ρ 13) 0) w fun x84 w => VK Tryd.prog (Instr.loadAt 28 x84) w fun x85 w => BK Tryd.prog BinOp.neq 28 (Operand.tmp 85) (Operand.const (Value.int IntKind.i64 0)) x85 (Value.int IntKind.i64 0) w fun x86 w => MG Tryd.prog x86 false (ρ 12) w fun x88 w => BG Tryd.prog x86 false BinOp.eql 32 (Operand.tmp 88) (Operand.const (Value.pointer none)) x88 (Value.pointer none) w fun x89 w => PK Tryd.prog x86 (Value.bool true) x89 w fun x90 w => MG Tryd.prog x90 false (ρ 12) w fun x92 w => CG Tryd.prog x90 false (Value.func (Fn.func 16) #[] #[]) [x92, (Value.string { data := #[122, 122, 111, 116, 104, 101, 114] })] w fun x93 w => VG Tryd.prog x90 false (Instr.field 37 x93 0) w fun x94 w => BG Tryd.prog x90 false BinOp.eql 5 (Operand.tmp 94) (Operand.const (Value.int IntKind.u8 2)) x94 (Value.int IntKind.u8 2) w fun x95 w => MG Tryd.prog x90 false (ρ 1) w fun x96 w => BG Tryd.prog x90 false BinOp.gtr 3 (Operand.tmp 96) (Operand.const (Value.int IntKind.i64 0)) x96 (Value.int IntKind.i64 0) w fun x97 w => BG Tryd.prog x90 false BinOp.neq 4 (Operand.tmp 95) (Operand.tmp 97) x95 x97 w fun x98 w => PK Tryd.prog x90 (Value.bool true) x98 w fun x99 w => CondK x99 (K Exit.ret (up (up (up (up (up (up (up (up (up (up (up (up (up (up (up (up (up (up ρ 76 (ρ 14)) 84 x84) 85 x85) 86 x86) 87 x86) 88 x88) 89 x89) 90 x90) 91 x90) 92 x92) 93 x93) 94 x94) 95 x95) 96 x96) 97 x97) 98 x98) 99 x99) 8 (Value.bool false)) w) (W z Tryd.prog 143 (Code.loop dispatcherlaw04_ScopeMore_L4) (blkK 0 (seqK (sx z Tryd.prog 143 dispatcherlaw04_ScopeMore_R5 K) K)) (up (up (up (up (up (up (up (up (up (up (up (up (up (up (up (up (up (up ρ 76 (ρ 14)) 84 x84) 85 x85) 86 x86) 87 x86) 88 x88) 89 x89) 90 x90) 91 x90) 92 x92) 93 x93) 94 x94) 95 x95) 96 x96) 97 x97) 98 x98) 99 x99) 15 (Value.int IntKind.i64 0)) w))
theorem dispatcherlaw04_ScopeMore_R3_eq (z : At) (K : Exit → Sl → World → Prop) (ρ : Sl) (w : World) : sx z Tryd.prog 143 dispatcherlaw04_ScopeMore_R3 K ρ w = dispatcherlaw04_ScopeMore_R3_F z K ρ w := by kernel_rfl
noncomputable def dispatcherlaw04_ScopeMore_L4_F (z : At) (K : Exit → Sl → World → Prop) (ρ : Sl) (w : World) : Prop :=
  VK Tryd.prog (Instr.fieldAt 25 (ρ 4) 0) w fun x101 w => VK Tryd.prog (Instr.loadAt 22 x101) w fun x102 w => IK Tryd.prog Builtin.len #[22] 3 [false] [x102] w fun x103 w => BK Tryd.prog BinOp.lss 3 (Operand.tmp 100) (Operand.tmp 103) (ρ 15) x103 w fun x104 w => CondK x104 (W z Tryd.prog 143 dispatcherlaw04_ScopeMore_R6 (seqK (sx z Tryd.prog 143 dispatcherlaw04_ScopeMore_R7 (blkK 1 (seqK (sx z Tryd.prog 143 dispatcherlaw04_ScopeMore_R8 K) K))) (blkK 1 (seqK (sx z Tryd.prog 143 dispatcherlaw04_ScopeMore_R8 K) K))) (up (up (up (up (up ρ 100 (ρ 15)) 101 x101) 102 x102) 103 x103) 104 x104) w) (K (Exit.exit 0) (up (up (up (up (up ρ 100 (ρ 15)) 101 x101) 102 x102) 103 x103) 104 x104) w)
theorem dispatcherlaw04_ScopeMore_L4_eq (z : At) (K : Exit → Sl → World → Prop) (ρ : Sl) (w : World) : sx z Tryd.prog 143 dispatcherlaw04_ScopeMore_L4 K ρ w = dispatcherlaw04_ScopeMore_L4_F z K ρ w := by kernel_rfl
theorem dispatcherlaw04_ScopeMore_L4_ok : dstOk 143 dispatcherlaw04_ScopeMore_L4 = true := by kernel_rfl
noncomputable def dispatcherlaw04_ScopeMore_R5_F (z : At) (K : Exit → Sl → World → Prop) (ρ : Sl) (w : World) : Prop :=
  VK Tryd.prog (Instr.build 60 [(0, (Value.int IntKind.u8 1))].toArray) w fun x124 w => VK Tryd.prog (Instr.buildSlice 58 1 [(0, x124)].toArray) w fun x125 w => VK Tryd.prog (Instr.build 62 [(0, (Value.int IntKind.u8 1)), (3, (Value.string { data := #[122, 122, 111, 116, 104, 101, 114] })), (5, x125), (8, (ρ 2)), (9, (ρ 3))].toArray) w fun x128 w => VK Tryd.prog (Instr.alloc 62 true (.tuple #[])) w fun x16 w => UK Tryd.prog (Instr.storeAt 62 x16 x128) w fun _ w => VK Tryd.prog (Instr.loadAt 25 (ρ 4)) w fun x129 w => CK Tryd.prog (Value.func (Fn.func 11) #[] #[]) [x129] w fun x130 w => VK Tryd.prog (Instr.alloc 25 true (.tuple #[])) w fun x17 w => UK Tryd.prog (Instr.storeAt 25 x17 x130) w fun _ w => VK Tryd.prog (Instr.loadAt 62 x16) w fun x131 w => VK Tryd.prog (Instr.buildSlice 23 1 [(0, x131)].toArray) w fun x132 w => VK Tryd.prog (Instr.fieldAt 25 x17 1) w fun x133 w => VK Tryd.prog (Instr.loadAt 23 x133) w fun x134 w => IK Tryd.prog Builtin.append #[23, 23] 23 [false, false] [x132, x134] w fun x135 w => VK Tryd.prog (Instr.fieldAt 25 x17 1) w fun x136 w => UK Tryd.prog (Instr.storeAt 23 x136 x135) w fun _ w => VK Tryd.prog (Instr.loadAt 25 x17) w fun x137 w => CK Tryd.prog (Value.func (Fn.func 14) #[] #[]) [x137] w fun x138 w => VK Tryd.prog (Instr.build 30 [(0, (Value.int IntKind.i64 40)), (1, (ρ 2)), (2, (ρ 3))].toArray) w fun x141 w => BK Tryd.prog BinOp.eql 30 (Operand.tmp 138) (Operand.tmp 141) x138 x141 w fun x142 w => K Exit.ret (up (up (up (up (up (up (up (up (up (up (up (up (up (up (up (up (up (up (up (up (up (up ρ 124 x124) 125 x125) 126 (ρ 2)) 127 (ρ 3)) 128 x128) 16 x16) 129 x129) 130 x130) 17 x17) 131 x131) 132 x132) 133 x133) 134 x134) 135 x135) 136 x136) 137 x137) 138 x138) 139 (ρ 2)) 140 (ρ 3)) 141 x141) 142 x142) 8 x142) w
theorem dispatcherlaw04_ScopeMore_R5_eq (z : At) (K : Exit → Sl → World → Prop) (ρ : Sl) (w : World) : sx z Tryd.prog 143 dispatcherlaw04_ScopeMore_R5 K ρ w = dispatcherlaw04_ScopeMore_R5_F z K ρ w := by kernel_rfl
noncomputable def dispatcherlaw04_ScopeMore_R6_ops : Array Oper := opsOf dispatcherlaw04_ScopeMore_R6
def dispatcherlaw04_ScopeMore_R6_Q (C : World → Prop) (K : Exit → Sl → World → Prop) (ρ : Sl) : Prop :=
  QK Tryd.prog C (do pure (Next.value (← Instr.fieldAt 25 (ρ 4) 0))) fun x108 => QK Tryd.prog C (do pure (Next.value (← Instr.loadAt 22 x108))) fun x109 => QK Tryd.prog C (do pure (Next.value (← Instr.indexAt 22 x109 (ρ 15)))) fun x111 => QK Tryd.prog C (do pure (Next.value (← Instr.fieldAt 40 x111 0))) fun x112 => QK Tryd.prog C (do pure (Next.value (← Instr.loadAt 9 x112))) fun x113 => QK Tryd.prog C (do let d ← Deferred.ofValue (Value.func (Fn.func 16) #[] #[]) [(ρ 9), x113].toArray; invoke d.target d.args) fun x114 => QK Tryd.prog C (do pure (Next.value (← Instr.fieldAt 25 (ρ 4) 0))) fun x116 => QK Tryd.prog C (do pure (Next.value (← Instr.loadAt 22 x116))) fun x117 => QK Tryd.prog C (do pure (Next.value (← Instr.indexAt 22 x117 (ρ 15)))) fun x119 => QK Tryd.prog C (do pure (Next.value (← Instr.fieldAt 40 x119 0))) fun x120 => QK Tryd.prog C (do pure (Next.value (← Instr.loadAt 9 x120))) fun x121 => QK Tryd.prog C (do let d ← Deferred.ofValue (Value.func (Fn.func 16) #[] #[]) [(ρ 12), x121].toArray; invoke d.target d.args) fun x122 => QK Tryd.prog C (do pure (Next.value (← (do eqGuard BinOp.neq 37 (Operand.tmp 114) (Operand.tmp 122) x114 x122; binOp BinOp.neq 37 x114 x122)))) fun x123 => ∀ w', C w' → K Exit.normal (up (up (up (up (up (up (up (up (up (up (up (up (up (up (up (up (up ρ 107 (ρ 9)) 108 x108) 109 x109) 110 (ρ 15)) 111 x111) 112 x112) 113 x113) 114 x114) 115 (ρ 12)) 116 x116) 117 x117) 118 (ρ 15)) 119 x119) 120 x120) 121 x121) 122 x122) 123 x123) w'
theorem dispatcherlaw04_ScopeMore_R6_quiet {D : List Deferred} (C : World → Prop) {K : Exit → Sl → World → Prop} {ρ : Sl} {w : World} (hC : C { w with drawn := w.drawn + 1 }) (h : dispatcherlaw04_ScopeMore_R6_Q C K ρ) : W ⟨none, D⟩ Tryd.prog 143 dispatcherlaw04_ScopeMore_R6 K ρ w := by
  have e : dispatcherlaw04_ScopeMore_R6 = .region (idOf dispatcherlaw04_ScopeMore_R6) dispatcherlaw04_ScopeMore_R6_ops true := by kernel_rfl
  have q : sxq Tryd.prog C dispatcherlaw04_ScopeMore_R6_ops (fun ρ' => ∀ w', C w' → K .normal ρ' w') dispatcherlaw04_ScopeMore_R6_ops.toList ρ = dispatcherlaw04_ScopeMore_R6_Q C K ρ := by kernel_rfl
  rw [e]
  exact W_quiet C (by kernel_rfl) (by kernel_rfl) (by kernel_rfl) hC (Eq.mpr q h)
noncomputable def dispatcherlaw04_ScopeMore_R7_F (z : At) (K : Exit → Sl → World → Prop) (ρ : Sl) (w : World) : Prop :=
  CondK (ρ 123) (K Exit.ret (up ρ 8 (Value.bool false)) w) (K Exit.normal ρ w)
theorem dispatcherlaw04_ScopeMore_R7_eq (z : At) (K : Exit → Sl → World → Prop) (ρ : Sl) (w : World) : sx z Tryd.prog 143 dispatcherlaw04_ScopeMore_R7 K ρ w = dispatcherlaw04_ScopeMore_R7_F z K ρ w := by kernel_rfl
noncomputable def dispatcherlaw04_ScopeMore_R8_F (z : At) (K : Exit → Sl → World → Prop) (ρ : Sl) (w : World) : Prop :=
  BK Tryd.prog BinOp.add 3 (Operand.tmp 105) (Operand.const (Value.int IntKind.i64 1)) (ρ 15) (Value.int IntKind.i64 1) w fun x106 w => K Exit.normal (up (up (up ρ 105 (ρ 15)) 106 x106) 15 x106) w
theorem dispatcherlaw04_ScopeMore_R8_eq (z : At) (K : Exit → Sl → World → Prop) (ρ : Sl) (w : World) : sx z Tryd.prog 143 dispatcherlaw04_ScopeMore_R8 K ρ w = dispatcherlaw04_ScopeMore_R8_F z K ρ w := by kernel_rfl
noncomputable def dispatcherlaw04_ScopeMore_F (a0 a1 a2 a3 : Value) (w : World) (R : Value → World → Prop) : Prop :=
  VK Tryd.prog (Instr.box 25 a0) w fun x4 w => CK Tryd.prog (Value.func (Fn.func 18) #[] #[]) [] w fun x18 w => VK Tryd.prog (Op.unary UnOp.not x18) w fun x19 w => CondK x19 (R (Value.bool false) w) (VK Tryd.prog (Instr.loadAt 25 x4) w fun x20 w => CK Tryd.prog (Value.func (Fn.func 10) #[] #[]) [x20] w fun x21 w => MG Tryd.prog x21 false a1 w fun x23 w => BG Tryd.prog x21 false BinOp.lss 3 (Operand.tmp 23) (Operand.const (Value.int IntKind.i64 0)) x23 (Value.int IntKind.i64 0) w fun x24 w => PK Tryd.prog x21 (Value.bool true) x24 w fun x25 w => MG Tryd.prog x25 false a1 w fun x27 w => BG Tryd.prog x25 false BinOp.gtr 3 (Operand.tmp 27) (Operand.const (Value.int IntKind.i64 1000)) x27 (Value.int IntKind.i64 1000) w fun x28 w => PK Tryd.prog x25 (Value.bool true) x28 w fun x29 w => CondK x29 (R (Value.bool true) w) (VK Tryd.prog (Instr.loadAt 25 x4) w fun x31 w => CK Tryd.prog (Value.func (Fn.func 13) #[] #[]) [x31] w fun x32 w => VK Tryd.prog (Instr.extract x32 0) w fun x33 w => VK Tryd.prog (Instr.extract x32 1) w fun x34 w => VK Tryd.prog (Instr.alloc 30 true (.tuple #[])) w fun x10 w => UK Tryd.prog (Instr.storeAt 30 x10 x34) w fun _ w => VK Tryd.prog (Instr.fieldAt 30 x10 0) w fun x35 w => VK Tryd.prog (Instr.loadAt 28 x35) w fun x36 w => BK Tryd.prog BinOp.eql 28 (Operand.tmp 36) (Operand.const (Value.int IntKind.i64 0)) x36 (Value.int IntKind.i64 0) w fun x37 w => MG Tryd.prog x37 true x33 w fun x39 w => BG Tryd.prog x37 true BinOp.eql 32 (Operand.tmp 39) (Operand.const (Value.pointer none)) x39 (Value.pointer none) w fun x40 w => PK Tryd.prog x37 x40 (Value.bool false) w fun x41 w => sx fn_ Tryd.prog 143 dispatcherlaw04_ScopeMore_R0 (seqK (sx fn_ Tryd.prog 143 dispatcherlaw04_ScopeMore_R1 (retK Tryd.prog [ResultVar.tmp 8] R)) (retK Tryd.prog [ResultVar.tmp 8] R)) (up (up (up (up (up (up (up (up (up (up (up (up (up (up (up (up (up (up (up (up (up (up (up (up (up (up (up (up (rho0 [a0, a1, a2, a3]) 4 x4) 8 (Value.bool false)) 18 x18) 19 x19) 20 x20) 21 x21) 22 x21) 23 x23) 24 x24) 25 x25) 26 x25) 27 x27) 28 x28) 29 x29) 31 x31) 32 x32) 30 x32) 33 x33) 34 x34) 10 x10) 9 x33) 35 x35) 36 x36) 37 x37) 38 x37) 39 x39) 40 x40) 41 x41) w))
theorem dispatcherlaw04_ScopeMore_eq (a0 a1 a2 a3 : Value) (w : World) (R : Value → World → Prop) : sx fn_ Tryd.prog 143 dispatcherlaw04_ScopeMore_b (retK Tryd.prog Tryd.f8.results.toList R) (rho0 [a0, a1, a2, a3]) w = dispatcherlaw04_ScopeMore_F a0 a1 a2 a3 w R := by kernel_rfl
theorem dispatcherlaw04_ScopeMore_calls {a0 a1 a2 a3 : Value} {w : World} {R : Value → World → Prop} (h : dispatcherlaw04_ScopeMore_F a0 a1 a2 a3 w R) : Calls Tryd.prog 8 #[a0, a1, a2, a3] w fun e w' => ∃ v, e = .returned v ∧ R v w' :=
  Go.X.calls_of_sx (n := 143) (c := dispatcherlaw04_ScopeMore_b) Tryd.func8 (by kernel_rfl) (by kernel_rfl) (Nat.le_of_ble_eq_true rfl) (by kernel_rfl) (Eq.mpr (dispatcherlaw04_ScopeMore_eq a0 a1 a2 a3 w R) h)
end Go.Proofs.YtbnbcimjapiicaaDoor.XM
set_option linter.unusedVariables false
set_option linter.unusedSimpArgs false
set_option maxRecDepth 4000
namespace Go.Proofs.YtbnbcimjapiicaaDoor.Tr
open Go Go.X Go.RowKit Go.Proofs.YtbnbcimjapiicaaDoor.XL Go.Proofs.YtbnbcimjapiicaaDoor.XM Go.Proofs.YtbnbcimjapiicaaDoor.XK
theorem sum_bd : ∀ {l : List Int}, (∀ x ∈ l, 0 ≤ x ∧ x ≤ 1000) → 0 ≤ l.sum ∧ l.sum ≤ 1000 * l.length
  | [], _ => by simp
  | a :: r, h => by
    have := h a (List.mem_cons_self ..)
    have := sum_bd fun x hx => h x (List.mem_cons_of_mem _ hx)
    rw [List.sum_cons, List.length_cons]
    omega
theorem Sum_ok {w : World} {v : Value} {xs : List Int} (h : reads w 1 v xs.length (xs.map (.int .i64))) (hx : ∀ x ∈ xs, 0 ≤ x ∧ x ≤ 1000) (hl : xs.length ≤ 1048576) : Rt Tryd.prog 28 #[v] w fun r w' => r = .int .i64 xs.sum ∧ w' = w := by
  obtain ⟨A, c, rfl, _⟩ := reads_cap h
  refine dispatcherlaw04_sum_calls ?_
  unfold dispatcherlaw04_sum_F
  refine W_loopG dispatcherlaw04_sum_L0_ok (fun m ρ w' => ∃ i, i + m = xs.length ∧ ρ 4 = .int .i64 (i : Nat) ∧ ρ 3 = .int .i64 (xs.take i).sum ∧ ρ 0 = .slice A xs.length c ∧ w' = w) xs.length ⟨0, by omega, rfl, rfl, rfl, rfl⟩ ?_
  rintro m ρ w' ⟨i, hi, q4, q3, q0, rfl⟩
  rw [dispatcherlaw04_sum_L0_eq]
  unfold dispatcherlaw04_sum_L0_F
  rw [q0, q3, q4, len_sl uIs]
  by_cases hlt : i < xs.length
  · simp only [↓VG_u, ↓UG_u, ↓MG_u, ↓NG_u, ↓PG_u, ↓BG_u, ↓CG_u, ↓IG_u, ↓VGtt, ↓VGtf, ↓VGft, ↓VGff, ↓UGtt, ↓UGtf, ↓UGft, ↓UGff, ↓MGtt, ↓MGtf, ↓MGft, ↓MGff, ↓NGtt, ↓NGtf, ↓NGft, ↓NGff, ↓PGtt, ↓PGtf, ↓PGft, ↓PGff, ↓BGtt, ↓BGtf, ↓BGft, ↓BGff, ↓CGtt, ↓CGtf, ↓CGft, ↓CGff, ↓IGtt, ↓IGtf, ↓IGft, ↓IGff, ↓PKt, ↓PKf, ↓CDt, ↓CDf, ↓NOTt, ↓NOTf, ↓NK_ptr, ↓LTt (show (i : Int) < (xs.length : Int) by omega)]
    have hxi : xs[i]? = some xs[i] := List.getElem?_eq_getElem hlt
    have htk : (xs.take (i + 1)).sum = (xs.take i).sum + xs[i] := by rw [List.take_add_one, hxi, Option.toList_some, List.sum_append]; simp
    have b1 := sum_bd (l := xs.take i) fun x hx' => hx x (List.mem_of_mem_take hx')
    have b2 := hx _ (List.getElem_mem hlt)
    rw [List.length_take] at b1
    refine ixld uIs (by kernel_rfl) uI rfl h (by omega) (u := .int .i64 xs[i]) (by rw [Int.toNat_natCast, List.getElem?_map, hxi]; rfl) fun x => ?_
    refine BKadd (a := (xs.take i).sum) (b := xs[i]) rfl rfl (by omega) (by omega) ?_
    refine BKadd (a := i) (b := 1) rfl rfl (by omega) (by omega) ⟨m - 1, by omega, i + 1, by omega, rfl, by rw [htk]; rfl, ?_, rfl⟩
    exact q0
  · simp only [↓VG_u, ↓UG_u, ↓MG_u, ↓NG_u, ↓PG_u, ↓BG_u, ↓CG_u, ↓IG_u, ↓VGtt, ↓VGtf, ↓VGft, ↓VGff, ↓UGtt, ↓UGtf, ↓UGft, ↓UGff, ↓MGtt, ↓MGtf, ↓MGft, ↓MGff, ↓NGtt, ↓NGtf, ↓NGft, ↓NGff, ↓PGtt, ↓PGtf, ↓PGft, ↓PGff, ↓BGtt, ↓BGtf, ↓BGft, ↓BGff, ↓CGtt, ↓CGtf, ↓CGft, ↓CGff, ↓IGtt, ↓IGtf, ↓IGft, ↓IGff, ↓PKt, ↓PKf, ↓CDt, ↓CDf, ↓NOTt, ↓NOTf, ↓NK_ptr, ↓LTf (show (xs.length : Int) ≤ (i : Int) by omega)]
    rw [sq_x, bk_x, sq_n, dispatcherlaw04_sum_R1_eq]
    unfold dispatcherlaw04_sum_R1_F
    rw [List.take_of_length_le (by omega)] at q3
    exact ⟨q3, rfl⟩
abbrev moreR (w0 : World) : Value → World → Prop := fun v w' => v = .bool true ∧ Mod none_ w0 w'
theorem bX1 : Tryd.prog.built 60 [(0, .int .u8 1)] = some (Ex.mk 1 0 (bs []) nl [] 0 0).cells.toArray := by kernel_rfl
theorem bFst (A : Option Addr) (n c : Nat) (l k : Int) : Tryd.prog.built 62 [(0, .int .u8 1), (3, .string (bs zz)), (5, .slice A n c), (8, .int .i64 l), (9, .int .i64 k)] = some (firstS (.slice A n c) l k).cells.toArray := by kernel_rfl
theorem bZz (n : Int) : Tryd.prog.built 40 [(0, .string (bs zz)), (1, .int .i64 n), (2, .int .i64 5), (3, .int .i64 7)] = some (zzD n).cells.toArray := by kernel_rfl
theorem sts_cells_one {w : World} {l : List St} (h : ∀ a ∈ l, a.Ok w) : ∀ u ∈ l.flatMap St.cells, u.oneCell' = true := by
  intro u hu
  obtain ⟨a, ha, hu⟩ := List.mem_flatMap.1 hu
  have ok := h a ha
  obtain ⟨A1, c1, h1, _⟩ := reads_cap ok.exprs.1
  obtain ⟨A2, c2, h2, _⟩ := reads_cap ok.body.1
  obtain ⟨A3, c3, h3, _⟩ := reads_cap ok.els.1
  unfold St.cells at hu
  rw [h1, h2, h3] at hu
  simp only [List.mem_cons, List.mem_nil_iff, or_false] at hu
  rcases hu with rfl | rfl | rfl | rfl | rfl | rfl | rfl | rfl | rfl | rfl <;> rfl
section
variable {w0 w : World} (hg : Gl w0) {p : Pr} (h : p.Ok w0) (hsz : p.decls.length + St.szL p.body ≤ 1048576) (hm : Mod none_ w0 w) {b4 : Nat} (hb4 : w.heap[b4]? = some (.cells p.cells.toArray 25 (0, 0)))
  (hp : (checkP p).err = 0) (hz : (findP p.decls zz).kind = 0) {l c : Int} (hl : (Lit.int .i64 l).wf = true) (hc : (Lit.int .i64 c).wf = true)
include hg h hsz hm hb4 hp hz hl hc
/-- A statement ahead. -/
theorem more5 {ρ : Sl} (r4 : ρ 4 = pq b4) (r2 : ρ 2 = .int .i64 l) (r3 : ρ 3 = .int .i64 c) :
    sx fn_ Tryd.prog 143 dispatcherlaw04_ScopeMore_R5 (retK Tryd.prog [ResultVar.tmp 8] (moreR w0)) ρ w := by
  have hf : p.fits := ⟨by omega, by omega⟩
  rw [dispatcherlaw04_ScopeMore_R5_eq]
  unfold dispatcherlaw04_ScopeMore_R5_F
  rw [r4, r2, r3, build_ok bX1]
  refine bs_k (cs := (Ex.mk 1 0 (bs []) nl [] 0 0).cells.toArray) (by kernel_rfl) fun w1 hb1 hm1 hz1 => ?_
  rw [show ({ data := #[122, 122, 111, 116, 104, 101, 114] } : ByteArray) = bs zz from rfl, build_ok (bFst _ _ _ _ _)]
  obtain ⟨F, hF⟩ : ∃ F, F = firstS (.slice (some ⟨w.heap.size, 0, none⟩) 1 1) l c := ⟨_, rfl⟩
  rw [← hF]
  have hone : (F.cells.toArray.all (·.oneCell')) = true := by rw [hF]; exact st_cells_one rfl rfl rfl
  refine lcl_k (cs := F.cells.toArray) zSt _ iSt rfl hone fun w2 hb2 hm2 hz2 => ?_
  have hm02 := (hm.trans hm1).trans hm2
  have hb42 := hm2.blk (hm1.blk hb4 id) id
  refine ldS (cs := p.cells.toArray) rfl Tryd.underlying25 rfl iPr hb42 ?_
  refine CK_st Tryd.func11 rfl rfl (Copy_ok (h.mod hm02) hf) ?_
  rintro _ w3 ⟨q, rfl, he, hO, hm3⟩
  refine lcl_k (cs := q.cells.toArray) zPr _ iPr rfl (oneOk hO.ok) fun w4 hb7 hm4 hz4 => ?_
  have hm24 := hm3.trans hm4
  refine ldS (cs := F.cells.toArray) rfl Tryd.underlying62 rfl iSt (hm24.blk hb2 id) ?_
  refine bs_k (cs := F.cells.toArray) (by kernel_rfl) fun w5 hb5 hm5 hz5 => ?_
  have hb57 := hm5.blk hb7 id
  have hm05 := (hm02.trans hm24).trans hm5
  have hO5 := hO.mod0 (hm4.trans hm5)
  have f1 : FO Tryd.prog w5 25 1 1 ⟨w3.heap.size, 0, none⟩ 23 q.bs := FO.blk hb57 (by kernel_rfl) uSts rfl rfl
  simp only [↓f1.e]
  have hqb : q.body.map St.er = p.body.map St.er := by have := congrArg Pr.body he; exact this
  have hqd : q.decls = p.decls := by have := congrArg Pr.decls he; exact this
  have hszq : St.szL q.body = St.szL p.body := by rw [← St.szL_er, hqb, St.szL_er]
  have hlq := St.len_sz q.body
  have els : Tryd.prog.elem 23 = tS := by kernel_rfl
  rw [els] at hb5
  have hrow : w5.ownsRow w4.heap.size tS 10 (.slice (some ⟨w4.heap.size, 0, none⟩) 1 1) 1 F.cells.toArray.toList := ⟨by simp [St.cells], .inr ⟨_, 1, _, rfl, Nat.le_refl _, hb5, Nat.le_refl _, by decide, rfl, List.take_of_length_le (by simp [St.cells])⟩⟩
  refine ap_any eSts hrow hO5.b.ok.1 (sts_cells_one hO5.b.ok.2) (by unfold maxLen; omega) (by omega) (by omega) fun v' w6 ho6 hm6 _ => ?_
  have hm46 : Mod none_ w4 w6 := hm5.then hm6 fun i hi z => by simp [Value.ownBlock] at z; omega
  have hb67 := hm46.blk hb7 id
  have hO6 := hO.mod0 (hm4.trans hm46)
  obtain ⟨q', hq'⟩ : ∃ q' : Pr, q' = ⟨q.ds, q.decls, v', F :: q.body⟩ := ⟨_, rfl⟩
  refine fst_k (off := 1) (by kernel_rfl) (by kernel_rfl) (owns_slice ho6) hb67 (by simp [Pr.cells]) (cs' := q'.cells.toArray) (by rw [hq']; rfl) fun _ w7 hb77 hm7 hz7 => ?_
  have hs2 := hm02.size
  have hs3 := hm3.size
  have hm07 : Mod none_ w0 w7 := ((hm02.trans hm24).trans hm46).then hm7 fun i hi z => by omega
  have hm17 : Mod none_ w1 w7 := ((hm2.trans hm24).trans hm46).then hm7 fun i hi z => by omega
  have hO7 := hO6.b.ne hm7 hb67 (by decide) (by decide)
  have hd7 := owns_mod hO6.d hm7 fun k hk z => owns_ne_blk hO6.d hb67 (by decide) (by rw [hk, z])
  have ho7 := owns_mod ho6 hm7 fun k hk z => by have := owns_low ho6 hk; omega
  have hFok : F.Ok w7 := by
    have r := reads_blk (size := 6) (n := 1) (hm17.blk hb1 id) rfl
    rw [hF]
    refine St.ok.2 ⟨⟨r, fun x hx => ?_⟩, ⟨reads_nil _ _, by simp [firstS]⟩, ⟨reads_nil _ _, by simp [firstS]⟩, by rfl, by rfl, by rfl, by show (bs zz).size ≤ maxLen; decide, by rfl, hl, hc⟩
    have : x = ⟨1, 0, bs [], .slice none 0 0, [], 0, 0⟩ := List.mem_singleton.1 hx
    rw [this]
    exact Ex.ok.2 ⟨reads_nil _ _, ⟨by rfl, by rfl, by show (bs []).size ≤ maxLen; decide, by rfl, by rfl⟩, by simp⟩
  have hq7 : q'.Ok w7 := by
    rw [hq']
    refine ⟨⟨reads_of_owns hd7, hO6.f⟩, ?_, fun a ha => ?_⟩
    · have := reads_of_owns ho7
      rw [show 1 + q.body.length = (F :: q.body).length by simp; omega] at this
      simpa using this
    · rcases List.mem_cons.1 ha with rfl | ha
      · exact hFok
      · exact hO7.ok.2 a ha
  have hqf : q'.fits := by
    rw [hq']
    refine ⟨by show q.decls.length ≤ _; rw [hqd]; omega, ?_⟩
    show St.szL (F :: q.body) ≤ _
    rw [St.szL, hszq, show F.sz = 9 by rw [hF]; kernel_rfl]
    omega
  refine ldS (cs := q'.cells.toArray) rfl Tryd.underlying25 rfl iPr hb77 ?_
  refine CK_st Tryd.func14 rfl rfl (Check_ok (hg.mod hm07) hq7 hqf) ?_
  rintro _ w8 ⟨rfl, hm8⟩
  rw [build_ok (bWr3 _ _ _), checkP_first (q := q') (v := .slice (some ⟨w.heap.size, 0, none⟩) 1 1) (l := l) (c := c) hp hz (by rw [hq']; exact hqd) ⟨q.body, by rw [hq', hF], hqb⟩,
    show Value.agg (Wr.mk 40 l c).cells.toArray = (Wr.mk 40 l c).v from rfl, BK_WrE, decide_eq_true rfl]
  exact ⟨rfl, hm07.trans hm8⟩
/-- Each name is found as before. -/
theorem more4 {t u base base' : Nat} {n : Int} (hT : TbAt w base t p.decls) (hU : TbAt w base' u (p.decls ++ [zzD n])) {ρ : Sl} (r4 : ρ 4 = pq b4) (r2 : ρ 2 = .int .i64 l) (r3 : ρ 3 = .int .i64 c) (r9 : ρ 9 = pt t) (r12 : ρ 12 = pt u) (r15 : ρ 15 = .int .i64 0) :
    W fn_ Tryd.prog 143 (Code.loop dispatcherlaw04_ScopeMore_L4) (blkK 0 (seqK (sx fn_ Tryd.prog 143 dispatcherlaw04_ScopeMore_R5 (retK Tryd.prog [ResultVar.tmp 8] (moreR w0))) (retK Tryd.prog [ResultVar.tmp 8] (moreR w0)))) ρ w := by
  obtain ⟨A, cp, hds, _⟩ := reads_cap h.d.1
  refine W_loopG dispatcherlaw04_ScopeMore_L4_ok (fun m ρ w' => ∃ i, i + m = p.decls.length ∧ ρ 15 = .int .i64 (i : Nat) ∧ ρ 4 = pq b4 ∧ ρ 2 = .int .i64 l ∧ ρ 3 = .int .i64 c ∧ ρ 9 = pt t ∧ ρ 12 = pt u ∧ Mod none_ w w') p.decls.length
    ⟨0, by omega, r15, r4, r2, r3, r9, r12, Mod.refl _ _⟩ ?_
  rintro m ρ w1 ⟨i, hi, q15, q4, q2, q3, q9, q12, hm1⟩
  have hm01 := hm.trans hm1
  have hb41 := hm1.blk hb4 id
  have cell0 : ∀ w', Mod none_ w1 w' → w'.cell? ((⟨b4, 0, none⟩ : Addr).add 0) = some (.slice A p.decls.length cp) := fun w' hw => by rw [add_pl, cell_blk (hw.blk hb41 id), ← hds]; rfl
  have hD : ∀ w', Mod none_ w1 w' → DesOk w' (.slice A p.decls.length cp) p.decls := fun w' hw => hds ▸ (h.mod (hm01.trans hw)).d
  have f0 : FO Tryd.prog w1 25 0 0 ⟨b4, 0, none⟩ 22 (.slice A p.decls.length cp) := FO.mk' (by kernel_rfl) uDes rfl (cell0 w1 (Mod.refl _ _))
  rw [dispatcherlaw04_ScopeMore_L4_eq]
  unfold dispatcherlaw04_ScopeMore_L4_F
  rw [q4, q15]
  simp only [↓f0.e]
  rw [len_sl uDes]
  by_cases hlt : i < p.decls.length
  · simp only [↓VG_u, ↓UG_u, ↓MG_u, ↓NG_u, ↓PG_u, ↓BG_u, ↓CG_u, ↓IG_u, ↓VGtt, ↓VGtf, ↓VGft, ↓VGff, ↓UGtt, ↓UGtf, ↓UGft, ↓UGff, ↓MGtt, ↓MGtf, ↓MGft, ↓MGff, ↓NGtt, ↓NGtf, ↓NGft, ↓NGff, ↓PGtt, ↓PGtf, ↓PGft, ↓PGff, ↓BGtt, ↓BGtf, ↓BGft, ↓BGff, ↓CGtt, ↓CGtf, ↓CGft, ↓CGff, ↓IGtt, ↓IGtf, ↓IGft, ↓IGff, ↓PKt, ↓PKf, ↓CDt, ↓CDf, ↓NOTt, ↓NOTf, ↓NK_ptr, ↓LTt (show (i : Int) < (p.decls.length : Int) by omega)]
    have hx : p.decls[i]? = some p.decls[i] := List.getElem?_eq_getElem hlt
    have hsame : findP (p.decls ++ [zzD n]) p.decls[i].name.data.toList = findP p.decls p.decls[i].name.data.toList := findP_old (find_mem ⟨_, List.getElem_mem hlt, rfl⟩)
    have st : ∀ (ρ2 : Sl), ρ2 15 = .int .i64 (i : Nat) → ρ2 4 = pq b4 → ρ2 2 = .int .i64 l → ρ2 3 = .int .i64 c → ρ2 9 = pt t → ρ2 12 = pt u → ∀ K : Exit → Sl → World → Prop, (∀ ρ' w', (∃ m', m' < m ∧ ∃ i, i + m' = p.decls.length ∧ ρ' 15 = .int .i64 (i : Nat) ∧ ρ' 4 = pq b4 ∧ ρ' 2 = .int .i64 l ∧ ρ' 3 = .int .i64 c ∧ ρ' 9 = pt t ∧ ρ' 12 = pt u ∧ Mod none_ w w') → K .normal ρ' w') →
        W fn_ Tryd.prog 143 dispatcherlaw04_ScopeMore_R6 (seqK (sx fn_ Tryd.prog 143 dispatcherlaw04_ScopeMore_R7 (blkK 1 (seqK (sx fn_ Tryd.prog 143 dispatcherlaw04_ScopeMore_R8 K) K))) (blkK 1 (seqK (sx fn_ Tryd.prog 143 dispatcherlaw04_ScopeMore_R8 K) K))) ρ2 w1 := by
      intro ρ2 p15 p4 p2 p3 p9 p12 K hK
      refine dispatcherlaw04_ScopeMore_R6_quiet (D := []) (fun w' => Mod none_ w1 w') ((Mod.refl _ w1).drawn _) ?_
      unfold dispatcherlaw04_ScopeMore_R6_Q
      rw [p4, p15, p9, p12]
      refine Qfo (off := 0) (by kernel_rfl) (Qld uDes rfl (v := .slice A p.decls.length cp) cell0 ?_)
      refine QixDe (w0 := w1) (Mod.refl _ w1) hD hx fun a ha => ?_
      refine Qfo (off := 0) (by kernel_rfl) (Qld uSt rfl (v := .string p.decls[i].name) (fun w' hw => ha w' hw 0 _ rfl) ?_)
      refine QC_rt (R := fun w' v w'' => v = (findP p.decls p.decls[i].name.data.toList).v ∧ Mod none_ w' w'') Tryd.func16 rfl rfl (v := (findP p.decls p.decls[i].name.data.toList).v) (fun w' hw => FindT_ok (hT.mod (hm1.trans hw)) _) (fun w' u w'' hw hu => ⟨hu.1, hw.trans hu.2⟩) ?_
      refine Qfo (off := 0) (by kernel_rfl) (Qld uDes rfl (v := .slice A p.decls.length cp) cell0 ?_)
      refine QixDe (w0 := w1) (Mod.refl _ w1) hD hx fun a2 ha2 => ?_
      refine Qfo (off := 0) (by kernel_rfl) (Qld uSt rfl (v := .string p.decls[i].name) (fun w' hw => ha2 w' hw 0 _ rfl) ?_)
      refine QC_rt (R := fun w' v w'' => v = (findP (p.decls ++ [zzD n]) p.decls[i].name.data.toList).v ∧ Mod none_ w' w'') Tryd.func16 rfl rfl (v := (findP (p.decls ++ [zzD n]) p.decls[i].name.data.toList).v) (fun w' hw => FindT_ok (hU.mod (hm1.trans hw)) _) (fun w' u w'' hw hu => ⟨hu.1, hw.trans hu.2⟩) ?_
      rw [hsame]
      refine QB_of (v := .bool (!decide (findP p.decls p.decls[i].name.data.toList = findP p.decls p.decls[i].name.data.toList))) (fun w => run_eqGuard_agg w .neq _ _ _ _ _ gEn) (fun w => rEnN _ _ w) ?_
      rw [decide_eq_true rfl]
      intro w2 hm2
      rw [sq_n, dispatcherlaw04_ScopeMore_R7_eq]
      unfold dispatcherlaw04_ScopeMore_R7_F
      refine condF ?_
      rw [bk_n, sq_n, dispatcherlaw04_ScopeMore_R8_eq]
      unfold dispatcherlaw04_ScopeMore_R8_F
      refine BKadd (a := i) (b := 1) ?_ rfl (by omega) (by omega) (hK _ _ ⟨m - 1, by omega, i + 1, by omega, rfl, ?_, ?_, ?_, ?_, ?_, hm1.trans hm2⟩)
      · exact p15
      · exact p4
      · exact p2
      · exact p3
      · exact p9
      · exact p12
    refine st _ ?_ ?_ ?_ ?_ ?_ ?_ _ fun ρ' w' h => h
    · exact q15
    · exact q4
    · exact q2
    · exact q3
    · exact q9
    · exact q12
  · simp only [↓VG_u, ↓UG_u, ↓MG_u, ↓NG_u, ↓PG_u, ↓BG_u, ↓CG_u, ↓IG_u, ↓VGtt, ↓VGtf, ↓VGft, ↓VGff, ↓UGtt, ↓UGtf, ↓UGft, ↓UGff, ↓MGtt, ↓MGtf, ↓MGft, ↓MGff, ↓NGtt, ↓NGtf, ↓NGft, ↓NGff, ↓PGtt, ↓PGtf, ↓PGft, ↓PGff, ↓BGtt, ↓BGtf, ↓BGft, ↓BGff, ↓CGtt, ↓CGtf, ↓CGft, ↓CGff, ↓IGtt, ↓IGtf, ↓IGft, ↓IGff, ↓PKt, ↓PKf, ↓CDt, ↓CDf, ↓NOTt, ↓NOTf, ↓NK_ptr, ↓LTf (show (p.decls.length : Int) ≤ (i : Int) by omega)]
    rw [sq_x, bk_x, sq_n]
    refine more5 hg h hsz hm01 hb41 hp hz hl hc ?_ ?_ ?_
    · exact q4
    · exact q2
    · exact q3
end
end Go.Proofs.YtbnbcimjapiicaaDoor.Tr
set_option linter.unusedVariables false
set_option linter.unusedSimpArgs false
set_option maxRecDepth 4000
namespace Go.Proofs.YtbnbcimjapiicaaDoor.Tr
open Go Go.X Go.RowKit Go.Proofs.YtbnbcimjapiicaaDoor.XL Go.Proofs.YtbnbcimjapiicaaDoor.XM Go.Proofs.YtbnbcimjapiicaaDoor.XK
theorem i64_wf' {t : Int} (h : -9223372036854775808 ≤ t ∧ t < 9223372036854775808) : (Lit.int .i64 t).wf = true := by
  simp [Lit.wf, IntKind.min, IntKind.max, IntKind.signed, IntKind.bits]
  omega
section
variable {w0 w : World} (hg : Gl w0) {p : Pr} (h : p.Ok w0) (hsz : p.decls.length + St.szL p.body ≤ 1048576) (hm : Mod none_ w0 w) {b4 : Nat} (hb4 : w.heap[b4]? = some (.cells p.cells.toArray 25 (0, 0)))
  (hp : (checkP p).err = 0) (hz : (findP p.decls zz).kind = 0) {l c : Int} (hl : (Lit.int .i64 l).wf = true) (hc : (Lit.int .i64 c).wf = true)
include hg h hsz hm hb4 hp hz hl hc
theorem more3 {t base b13 : Nat} {n : Int} (hn : 0 ≤ n ∧ n ≤ 1000) (hT : TbAt w base t p.decls) {x : Value} {q : Pr} (hq : checkP q = if full p.decls (zzD n) then ⟨4, 5, 7⟩ else zWr) (hqd : q.decls = p.decls ++ [zzD n]) {w9 : World} (hTd : Told q w9 x w)
    (hb13 : w.heap[b13]? = some (.cells (checkP q).cells.toArray 30 (0, 0))) {ρ : Sl} (r4 : ρ 4 = pq b4) (r1 : ρ 1 = .int .i64 n) (r2 : ρ 2 = .int .i64 l) (r3 : ρ 3 = .int .i64 c) (r9 : ρ 9 = pt t) (r12 : ρ 12 = x) (r13 : ρ 13 = pq b13) (r14 : ρ 14 = .bool (full p.decls (zzD n))) :
    sx fn_ Tryd.prog 143 dispatcherlaw04_ScopeMore_R3 (retK Tryd.prog [ResultVar.tmp 8] (moreR w0)) ρ w := by
  rw [dispatcherlaw04_ScopeMore_R3_eq]
  unfold dispatcherlaw04_ScopeMore_R3_F
  rw [r14, r12, r13, r1]
  cases hfu : full p.decls (zzD n) with
  | true =>
    rw [hfu, if_pos rfl] at hq
    have hx := hTd.bad (by rw [hq]; show ¬ (4 : Int) = 0; decide)
    rw [hx, hq] at *
    refine condT ?_
    rw [BK_eqlP uTp, Option.isNone_none]
    try simp only [↓VG_u, ↓UG_u, ↓MG_u, ↓NG_u, ↓PG_u, ↓BG_u, ↓CG_u, ↓IG_u, ↓VGtt, ↓VGtf, ↓VGft, ↓VGff, ↓UGtt, ↓UGtf, ↓UGft, ↓UGff, ↓MGtt, ↓MGtf, ↓MGft, ↓MGff, ↓NGtt, ↓NGtf, ↓NGft, ↓NGff, ↓PGtt, ↓PGtf, ↓PGft, ↓PGff, ↓BGtt, ↓BGtf, ↓BGft, ↓BGff, ↓CGtt, ↓CGtf, ↓CGft, ↓CGff, ↓IGtt, ↓IGtf, ↓IGft, ↓IGff, ↓PKt, ↓PKf, ↓CDt, ↓CDf, ↓NOTt, ↓NOTf, ↓NK_ptr]
    refine ldS (cs := (Wr.mk 4 5 7).cells.toArray) rfl Tryd.underlying30 rfl iWrg hb13 ?_
    rw [build_ok (bWr3 _ _ _), show Value.agg (Wr.mk 4 5 7).cells.toArray = (Wr.mk 4 5 7).v from rfl]
    try simp only [↓VG_u, ↓UG_u, ↓MG_u, ↓NG_u, ↓PG_u, ↓BG_u, ↓CG_u, ↓IG_u, ↓VGtt, ↓VGtf, ↓VGft, ↓VGff, ↓UGtt, ↓UGtf, ↓UGft, ↓UGff, ↓MGtt, ↓MGtf, ↓MGft, ↓MGff, ↓NGtt, ↓NGtf, ↓NGft, ↓NGff, ↓PGtt, ↓PGtf, ↓PGft, ↓PGff, ↓BGtt, ↓BGtf, ↓BGft, ↓BGff, ↓CGtt, ↓CGtf, ↓CGft, ↓CGff, ↓IGtt, ↓IGtf, ↓IGft, ↓IGff, ↓PKt, ↓PKf, ↓CDt, ↓CDf, ↓NOTt, ↓NOTf, ↓NK_ptr]
    rw [BK_WrE, decide_eq_true rfl]
    try simp only [↓VG_u, ↓UG_u, ↓MG_u, ↓NG_u, ↓PG_u, ↓BG_u, ↓CG_u, ↓IG_u, ↓VGtt, ↓VGtf, ↓VGft, ↓VGff, ↓UGtt, ↓UGtf, ↓UGft, ↓UGff, ↓MGtt, ↓MGtf, ↓MGft, ↓MGff, ↓NGtt, ↓NGtf, ↓NGft, ↓NGff, ↓PGtt, ↓PGtf, ↓PGft, ↓PGff, ↓BGtt, ↓BGtf, ↓BGft, ↓BGff, ↓CGtt, ↓CGtf, ↓CGft, ↓CGff, ↓IGtt, ↓IGtf, ↓IGft, ↓IGff, ↓PKt, ↓PKf, ↓CDt, ↓CDf, ↓NOTt, ↓NOTf, ↓NK_ptr]
    first | exact ⟨rfl, hm⟩ | exact ⟨trivial, hm⟩
  | false =>
    rw [hfu, if_neg (by decide)] at hq
    obtain ⟨_, _, u, hx, hU⟩ := hTd.ok (by rw [hq]; rfl)
    rw [hqd] at hU
    rw [hq] at hb13
    rw [hx]
    refine condF ?_
    have e0 : FO Tryd.prog w 30 0 0 ⟨b13, 0, none⟩ 28 (.int .i64 0) := FO.blk hb13 (by kernel_rfl) Tryd.underlying28 rfl rfl
    simp only [↓VG_u, ↓UG_u, ↓MG_u, ↓NG_u, ↓PG_u, ↓BG_u, ↓CG_u, ↓IG_u, ↓VGtt, ↓VGtf, ↓VGft, ↓VGff, ↓UGtt, ↓UGtf, ↓UGft, ↓UGff, ↓MGtt, ↓MGtf, ↓MGft, ↓MGff, ↓NGtt, ↓NGtf, ↓NGft, ↓NGff, ↓PGtt, ↓PGtf, ↓PGft, ↓PGff, ↓BGtt, ↓BGtf, ↓BGft, ↓BGff, ↓CGtt, ↓CGtf, ↓CGft, ↓CGff, ↓IGtt, ↓IGtf, ↓IGft, ↓IGff, ↓PKt, ↓PKf, ↓CDt, ↓CDf, ↓NOTt, ↓NOTf, ↓NK_ptr, ↓e0.e, ↓NEf (rfl : (0 : Int) = 0)]
    rw [BK_eqlP uTp, Option.isNone_some]
    try simp only [↓VG_u, ↓UG_u, ↓MG_u, ↓NG_u, ↓PG_u, ↓BG_u, ↓CG_u, ↓IG_u, ↓VGtt, ↓VGtf, ↓VGft, ↓VGff, ↓UGtt, ↓UGtf, ↓UGft, ↓UGff, ↓MGtt, ↓MGtf, ↓MGft, ↓MGff, ↓NGtt, ↓NGtf, ↓NGft, ↓NGff, ↓PGtt, ↓PGtf, ↓PGft, ↓PGff, ↓BGtt, ↓BGtf, ↓BGft, ↓BGff, ↓CGtt, ↓CGtf, ↓CGft, ↓CGff, ↓IGtt, ↓IGtf, ↓IGft, ↓IGff, ↓PKt, ↓PKf, ↓CDt, ↓CDf, ↓NOTt, ↓NOTf, ↓NK_ptr]
    refine CK_st Tryd.func16 rfl rfl (FindT_ok hU (bs zz)) ?_
    rintro _ w1 ⟨rfl, hm1⟩
    have hnew : findP (p.decls ++ [zzD n]) (bs zz).data.toList = nu p.decls (zzD n) := findP_new (z := zzD n) hz
    rw [hnew]
    rw [VK_eq_of (v := .int .u8 (nu p.decls (zzD n)).kind) (fldK_run _)]
    try simp only [↓VG_u, ↓UG_u, ↓MG_u, ↓NG_u, ↓PG_u, ↓BG_u, ↓CG_u, ↓IG_u, ↓VGtt, ↓VGtf, ↓VGft, ↓VGff, ↓UGtt, ↓UGtf, ↓UGft, ↓UGff, ↓MGtt, ↓MGtf, ↓MGft, ↓MGff, ↓NGtt, ↓NGtf, ↓NGft, ↓NGff, ↓PGtt, ↓PGtf, ↓PGft, ↓PGff, ↓BGtt, ↓BGtf, ↓BGft, ↓BGff, ↓CGtt, ↓CGtf, ↓CGft, ↓CGff, ↓IGtt, ↓IGtf, ↓IGft, ↓IGff, ↓PKt, ↓PKf, ↓CDt, ↓CDf, ↓NOTt, ↓NOTf, ↓NK_ptr]
    rw [BK_eql]
    try simp only [↓VG_u, ↓UG_u, ↓MG_u, ↓NG_u, ↓PG_u, ↓BG_u, ↓CG_u, ↓IG_u, ↓VGtt, ↓VGtf, ↓VGft, ↓VGff, ↓UGtt, ↓UGtf, ↓UGft, ↓UGff, ↓MGtt, ↓MGtf, ↓MGft, ↓MGff, ↓NGtt, ↓NGtf, ↓NGft, ↓NGff, ↓PGtt, ↓PGtf, ↓PGft, ↓PGff, ↓BGtt, ↓BGtf, ↓BGft, ↓BGff, ↓CGtt, ↓CGtf, ↓CGft, ↓CGff, ↓IGtt, ↓IGtf, ↓IGft, ↓IGff, ↓PKt, ↓PKf, ↓CDt, ↓CDf, ↓NOTt, ↓NOTf, ↓NK_ptr]
    rw [BK_gtr]
    try simp only [↓VG_u, ↓UG_u, ↓MG_u, ↓NG_u, ↓PG_u, ↓BG_u, ↓CG_u, ↓IG_u, ↓VGtt, ↓VGtf, ↓VGft, ↓VGff, ↓UGtt, ↓UGtf, ↓UGft, ↓UGff, ↓MGtt, ↓MGtf, ↓MGft, ↓MGff, ↓NGtt, ↓NGtf, ↓NGft, ↓NGff, ↓PGtt, ↓PGtf, ↓PGft, ↓PGff, ↓BGtt, ↓BGtf, ↓BGft, ↓BGff, ↓CGtt, ↓CGtf, ↓CGft, ↓CGff, ↓IGtt, ↓IGtf, ↓IGft, ↓IGff, ↓PKt, ↓PKf, ↓CDt, ↓CDf, ↓NOTt, ↓NOTf, ↓NK_ptr]
    rw [BK_neqB Tryd.underlying4]
    have hk : ((nu p.decls (zzD n)).kind == 2) = decide (0 < n) := by
      unfold nu zzD
      dsimp only
      split
      · rename_i q; subst q; rfl
      · rename_i q
        rw [decide_eq_true (by omega : 0 < n)]; rfl
    rw [hk, beq_self_eq_true, Bool.not_true]
    try simp only [↓VG_u, ↓UG_u, ↓MG_u, ↓NG_u, ↓PG_u, ↓BG_u, ↓CG_u, ↓IG_u, ↓VGtt, ↓VGtf, ↓VGft, ↓VGff, ↓UGtt, ↓UGtf, ↓UGft, ↓UGff, ↓MGtt, ↓MGtf, ↓MGft, ↓MGff, ↓NGtt, ↓NGtf, ↓NGft, ↓NGff, ↓PGtt, ↓PGtf, ↓PGft, ↓PGff, ↓BGtt, ↓BGtf, ↓BGft, ↓BGff, ↓CGtt, ↓CGtf, ↓CGft, ↓CGff, ↓IGtt, ↓IGtf, ↓IGft, ↓IGff, ↓PKt, ↓PKf, ↓CDt, ↓CDf, ↓NOTt, ↓NOTf, ↓NK_ptr]
    refine more4 hg h hsz (hm.trans hm1) (hm1.blk hb4 id) hp hz hl hc (hT.mod hm1) (hU.mod hm1) ?_ ?_ ?_ ?_ ?_ ?_
    · exact r4
    · exact r2
    · exact r3
    · exact r9
    · exact r12.trans hx
    · rfl
theorem more2 {t base b13 : Nat} {n : Int} (hn : 0 ≤ n ∧ n ≤ 1000) (hmay : ∀ d ∈ p.decls, d.may = true) (hT : TbAt w base t p.decls) {x : Value} {q : Pr} (hq : checkP q = if full p.decls (zzD n) then ⟨4, 5, 7⟩ else zWr) (hqd : q.decls = p.decls ++ [zzD n]) {w9 : World} (hTd : Told q w9 x w)
    (hb13 : w.heap[b13]? = some (.cells (checkP q).cells.toArray 30 (0, 0))) {ρ : Sl} (r4 : ρ 4 = pq b4) (r1 : ρ 1 = .int .i64 n) (r2 : ρ 2 = .int .i64 l) (r3 : ρ 3 = .int .i64 c) (r9 : ρ 9 = pt t) (r12 : ρ 12 = x) (r13 : ρ 13 = pq b13) :
    sx fn_ Tryd.prog 143 dispatcherlaw04_ScopeMore_R2 (retK Tryd.prog [ResultVar.tmp 8] (moreR w0)) ρ w := by
  rw [dispatcherlaw04_ScopeMore_R2_eq]
  unfold dispatcherlaw04_ScopeMore_R2_F
  rw [r9, r1]
  refine CK_st Tryd.func22 rfl rfl (VarsT_ok hT) ?_
  rintro _ w1 ⟨rfl, hm1⟩
  have told : ∀ {w'}, Mod none_ w w' → Told q w9 x w' := fun hw => ⟨hTd.m.trans hw, fun e => by
    obtain ⟨a, b, u, c, d⟩ := hTd.ok e
    exact ⟨a, b, u, c, d.mod hw⟩, hTd.bad⟩
  rw [BK_eql]
  by_cases hn0 : 0 < n
  · simp only [↓VG_u, ↓UG_u, ↓MG_u, ↓NG_u, ↓PG_u, ↓BG_u, ↓CG_u, ↓IG_u, ↓VGtt, ↓VGtf, ↓VGft, ↓VGff, ↓UGtt, ↓UGtf, ↓UGft, ↓UGff, ↓MGtt, ↓MGtf, ↓MGft, ↓MGff, ↓NGtt, ↓NGtf, ↓NGft, ↓NGff, ↓PGtt, ↓PGtf, ↓PGft, ↓PGff, ↓BGtt, ↓BGtf, ↓BGft, ↓BGff, ↓CGtt, ↓CGtf, ↓CGft, ↓CGff, ↓IGtt, ↓IGtf, ↓IGft, ↓IGff, ↓PKt, ↓PKf, ↓CDt, ↓CDf, ↓NOTt, ↓NOTf, ↓NK_ptr, ↓GTt hn0]
    refine CK_st Tryd.func23 rfl rfl (ArraysT_ok (hT.mod hm1) (by omega)) ?_
    rintro v w2 ⟨ho, hm2⟩
    have hax : ∀ x ∈ arrs p.decls, 0 ≤ x ∧ x ≤ 1000 := by
      intro x hx
      unfold arrs at hx
      obtain ⟨d, hd, rfl⟩ := List.mem_map.1 hx
      exact may_places (hmay d (List.mem_filter.1 hd).1)
    refine CK_st Tryd.func28 rfl rfl (Sum_ok (reads_of_owns ho) hax (by have := arrs_le p.decls; omega)) ?_
    rintro _ w3 ⟨rfl, rfl⟩
    have hcl := cellsP_le hmay
    rw [sum_arrs, BK_sub, wrap_i (n := 1000 - cellsP p.decls) (by omega) (by omega), BK_gtr]
    have hm3 := hm1.trans hm2
    refine more3 hg h hsz (hm.trans hm3) (hm3.blk hb4 id) hp hz hl hc hn (hT.mod hm3) hq hqd (told hm3) (hm3.blk hb13 id) ?_ ?_ ?_ ?_ ?_ ?_ ?_ ?_
    · exact r4
    · exact r1
    · exact r2
    · exact r3
    · exact r9
    · exact r12
    · exact r13
    · show Value.bool (decide (1000 - cellsP p.decls < n)) = _
      rw [full_eq, if_neg (by omega)]
      congr 1
      rw [decide_eq_decide]
      omega
  · simp only [↓VG_u, ↓UG_u, ↓MG_u, ↓NG_u, ↓PG_u, ↓BG_u, ↓CG_u, ↓IG_u, ↓VGtt, ↓VGtf, ↓VGft, ↓VGff, ↓UGtt, ↓UGtf, ↓UGft, ↓UGff, ↓MGtt, ↓MGtf, ↓MGft, ↓MGff, ↓NGtt, ↓NGtf, ↓NGft, ↓NGff, ↓PGtt, ↓PGtf, ↓PGft, ↓PGff, ↓BGtt, ↓BGtf, ↓BGft, ↓BGff, ↓CGtt, ↓CGtf, ↓CGft, ↓CGff, ↓IGtt, ↓IGtf, ↓IGft, ↓IGff, ↓PKt, ↓PKf, ↓CDt, ↓CDf, ↓NOTt, ↓NOTf, ↓NK_ptr, ↓GTf (show n ≤ 0 by omega)]
    refine more3 hg h hsz (hm.trans hm1) (hm1.blk hb4 id) hp hz hl hc hn (hT.mod hm1) hq hqd (told hm1) (hm1.blk hb13 id) ?_ ?_ ?_ ?_ ?_ ?_ ?_ ?_
    · exact r4
    · exact r1
    · exact r2
    · exact r3
    · exact r9
    · exact r12
    · exact r13
    · show Value.bool (((vars p.decls : Nat) : Int) == 64) = _
      rw [full_eq, if_pos (by omega)]
      congr 1
      rw [Bool.eq_iff_iff, beq_iff_eq, decide_eq_true_iff]
      omega
theorem more1 {t base b10 : Nat} {n : Int} (hn : 0 ≤ n ∧ n ≤ 1000) (hT : TbAt w base t p.decls) (hb10 : w.heap[b10]? = some (.cells (checkP p).cells.toArray 30 (0, 0)))
    {ρ : Sl} (r4 : ρ 4 = pq b4) (r1 : ρ 1 = .int .i64 n) (r2 : ρ 2 = .int .i64 l) (r3 : ρ 3 = .int .i64 c) (r9 : ρ 9 = pt t) (r10 : ρ 10 = pq b10) :
    sx fn_ Tryd.prog 143 dispatcherlaw04_ScopeMore_R1 (retK Tryd.prog [ResultVar.tmp 8] (moreR w0)) ρ w := by
  have hf : p.fits := ⟨by omega, by omega⟩
  have hmay : ∀ d ∈ p.decls, d.may = true := by
    have : p.may = true := by
      unfold checkP at hp
      split at hp
      · assumption
      · simp at hp
    unfold Pr.may at this
    simp only [Bool.and_eq_true, List.all_eq_true] at this
    exact this.1.2
  rw [dispatcherlaw04_ScopeMore_R1_eq]
  unfold dispatcherlaw04_ScopeMore_R1_F
  rw [r10, r9, r4, r1]
  have e0 : FO Tryd.prog w 30 0 0 ⟨b10, 0, none⟩ 28 (.int .i64 (checkP p).err) := FO.blk hb10 (by kernel_rfl) Tryd.underlying28 rfl rfl
  simp only [↓VG_u, ↓UG_u, ↓MG_u, ↓NG_u, ↓PG_u, ↓BG_u, ↓CG_u, ↓IG_u, ↓VGtt, ↓VGtf, ↓VGft, ↓VGff, ↓UGtt, ↓UGtf, ↓UGft, ↓UGff, ↓MGtt, ↓MGtf, ↓MGft, ↓MGff, ↓NGtt, ↓NGtf, ↓NGft, ↓NGff, ↓PGtt, ↓PGtf, ↓PGft, ↓PGff, ↓BGtt, ↓BGtf, ↓BGft, ↓BGff, ↓CGtt, ↓CGtf, ↓CGft, ↓CGff, ↓IGtt, ↓IGtf, ↓IGft, ↓IGff, ↓PKt, ↓PKf, ↓CDt, ↓CDf, ↓NOTt, ↓NOTf, ↓NK_ptr, ↓e0.e, ↓NEf hp]
  refine CK_st Tryd.func16 rfl rfl (FindT_ok hT (bs zz)) ?_
  rintro _ w1 ⟨rfl, hm1⟩
  rw [VK_eq_of (v := .int .u8 (findP p.decls (bs zz).data.toList).kind) (fldK_run _)]
  have hz' : (findP p.decls (bs zz).data.toList).kind = 0 := hz
  simp only [↓VG_u, ↓UG_u, ↓MG_u, ↓NG_u, ↓PG_u, ↓BG_u, ↓CG_u, ↓IG_u, ↓VGtt, ↓VGtf, ↓VGft, ↓VGff, ↓UGtt, ↓UGtf, ↓UGft, ↓UGff, ↓MGtt, ↓MGtf, ↓MGft, ↓MGff, ↓NGtt, ↓NGtf, ↓NGft, ↓NGff, ↓PGtt, ↓PGtf, ↓PGft, ↓PGff, ↓BGtt, ↓BGtf, ↓BGft, ↓BGff, ↓CGtt, ↓CGtf, ↓CGft, ↓CGff, ↓IGtt, ↓IGtf, ↓IGft, ↓IGff, ↓PKt, ↓PKf, ↓CDt, ↓CDf, ↓NOTt, ↓NOTf, ↓NK_ptr, ↓NEf hz']
  have hm01 := hm.trans hm1
  have hb41 := hm1.blk hb4 id
  refine ldS (cs := p.cells.toArray) rfl Tryd.underlying25 rfl iPr hb41 ?_
  refine CK_st Tryd.func11 rfl rfl (Copy_ok (h.mod hm01) hf) ?_
  rintro _ w2 ⟨q, rfl, he, hO, hm2⟩
  refine lcl_k (cs := q.cells.toArray) zPr _ iPr rfl (oneOk hO.ok) fun w3 hb3 hm3 hz3 => ?_
  have hm13 := hm2.trans hm3
  have hO3 := hO.mod0 hm3
  have hqb : q.body.map St.er = p.body.map St.er := by have := congrArg Pr.body he; exact this
  have hqd : q.decls = p.decls := by have := congrArg Pr.decls he; exact this
  have f0 : FO Tryd.prog w3 25 0 0 ⟨w2.heap.size, 0, none⟩ 22 q.ds := FO.blk hb3 (by kernel_rfl) uDes rfl rfl
  simp only [↓f0.e]
  rw [show ({ data := #[122, 122, 111, 116, 104, 101, 114] } : ByteArray) = bs zz from rfl, build_ok (bZz _)]
  have hs2 := hm2.size
  have hlen : q.decls.length ≤ 1048576 := by rw [hqd]; omega
  refine snoc (cs := (zzD n).cells.toArray) eDes hO3.d (by kernel_rfl) rfl (by intro u hu; have := de_one (zzD n); rw [Array.all_eq_true_iff_forall_mem] at this; exact this u (by simpa using hu)) (by unfold maxLen; omega) (by omega) (by omega) fun y v' w4 ho4 hm4 _ => ?_
  have hno : ¬ some w2.heap.size = q.ds.ownBlock := fun z => owns_ne_blk hO3.d hb3 (by decide) z.symm
  obtain ⟨q', hq'⟩ : ∃ q' : Pr, q' = ⟨v', q.decls ++ [zzD n], q.bs, q.body⟩ := ⟨_, rfl⟩
  have hb34 := hm4.blk hb3 hno
  refine fst_k (off := 0) (by kernel_rfl) (by kernel_rfl) (owns_slice ho4) hb34 (by simp [Pr.cells]) (cs' := q'.cells.toArray) (by rw [hq']; rfl) fun _ w5 hb5 hm5 hz5 => ?_
  have hB4 : StsOwn w4 w1.heap.size q.bs q.body := by
    have hbd : ∀ k, q.bs.ownBlock = some k → ¬ some k = q.ds.ownBlock := fun k hk z => owns_ne hO3.b.row hO3.d (by decide) k hk z
    have hbd2 : ∀ z ∈ q.body, z.In fun k => ¬ some k = q.ds.ownBlock := by
      intro z hz
      cases hqq : q.ds.ownBlock with
      | none => exact (hO3.b.own z hz).lt.mono fun k _ y => by cases y
      | some g =>
        obtain ⟨cur, hcur⟩ := owns_blk hO3.d hqq
        exact ((hO3.b.own z hz).ne hcur (by decide) (by decide)).mono fun k hk y => hk (by injection y)
    exact ⟨owns_mod hO3.b.row hm4 hbd, fun z hz => (hO3.b.own z hz).mod hm4 (hbd2 z hz), hO3.b.at_⟩
  have hB5 := hB4.ne hm5 hb34 (by decide) (by decide)
  have hd5 := owns_mod ho4 hm5 fun k hk z => owns_ne_blk ho4 hb34 (by decide) (by rw [hk, z])
  have hzf : (zzD n).fine := ⟨by show (bs zz).size ≤ maxLen; decide, i64_wf' (by show -9223372036854775808 ≤ n ∧ n < 9223372036854775808; omega), by rfl, by rfl⟩
  have hq5 : q'.Ok w5 := by
    rw [hq']
    refine ⟨⟨?_, fun a ha => ?_⟩, hB5.ok⟩
    · have := reads_of_owns hd5
      show reads w5 4 v' (q.decls ++ [zzD n]).length ((q.decls ++ [zzD n]).flatMap De.cells)
      rw [List.length_append, List.flatMap_append]
      simpa using this
    · rcases List.mem_append.1 ha with ha | ha
      · exact hO3.f a ha
      · rw [List.mem_singleton.1 ha]; exact hzf
  have hszq : St.szL q.body = St.szL p.body := by rw [← St.szL_er, hqb, St.szL_er]
  have hqf : q'.fits := by
    rw [hq']
    refine ⟨by show (q.decls ++ [zzD n]).length ≤ _; rw [List.length_append]; simp; omega, by show St.szL q.body ≤ _; omega⟩
  have hs1 := hm01.size
  have hm45 : Mod none_ w1 w5 := (hm13.then hm4 fun i hi z => by have := owns_low hO3.d z.symm; omega).then hm5 fun i hi z => by omega
  have hm05 := hm01.trans hm45
  refine ldS (cs := q'.cells.toArray) rfl Tryd.underlying25 rfl iPr hb5 ?_
  refine CK_st Tryd.func13 rfl rfl (New_ok (hg.mod hm05) hq5 hqf) ?_
  rintro _ w6 ⟨x, rfl, hTd⟩
  rw [extract_ok (v := x) rfl, extract_ok (v := (checkP q').v) rfl]
  have hm6 := hTd.m
  refine lcl_k (cs := (checkP q').cells.toArray) zWrg _ iWrg rfl (wr_one _) fun w7 hb7 hm7 hz7 => ?_
  have hq'd : q'.decls = p.decls ++ [zzD n] := by rw [hq', ← hqd]
  have hck := checkP_decl (q := q') (n := n) hp hz hn hq'd (by rw [hq']; exact hqb)
  have hm17 := (hm45.trans hm6).trans hm7
  have hTd7 : Told q' w5 x w7 := ⟨hTd.m.trans hm7, fun e => by
    obtain ⟨a, b, u, c, d⟩ := hTd.ok e
    exact ⟨a, b, u, c, d.mod hm7⟩, hTd.bad⟩
  refine more2 hg h hsz (hm01.trans hm17) (hm17.blk hb41 id) hp hz hl hc hn hmay (hT.mod (hm1.trans hm17)) hck hq'd hTd7 hb7 ?_ ?_ ?_ ?_ ?_ ?_ ?_
  · exact r4
  · exact r1
  · exact r2
  · exact r3
  · exact r9
  · rfl
  · rfl
end
theorem more1b {w0 w : World} (hm : Mod none_ w0 w) {p : Pr} (hp : (checkP p).err ≠ 0) {b10 : Nat} (hb10 : w.heap[b10]? = some (.cells (checkP p).cells.toArray 30 (0, 0))) {ρ : Sl} (r10 : ρ 10 = pq b10) :
    sx fn_ Tryd.prog 143 dispatcherlaw04_ScopeMore_R1 (retK Tryd.prog [ResultVar.tmp 8] (moreR w0)) ρ w := by
  rw [dispatcherlaw04_ScopeMore_R1_eq]
  unfold dispatcherlaw04_ScopeMore_R1_F
  rw [r10]
  have e0 : FO Tryd.prog w 30 0 0 ⟨b10, 0, none⟩ 28 (.int .i64 (checkP p).err) := FO.blk hb10 (by kernel_rfl) Tryd.underlying28 rfl rfl
  simp only [↓VG_u, ↓UG_u, ↓MG_u, ↓NG_u, ↓PG_u, ↓BG_u, ↓CG_u, ↓IG_u, ↓VGtt, ↓VGtf, ↓VGft, ↓VGff, ↓UGtt, ↓UGtf, ↓UGft, ↓UGff, ↓MGtt, ↓MGtf, ↓MGft, ↓MGff, ↓NGtt, ↓NGtf, ↓NGft, ↓NGff, ↓PGtt, ↓PGtf, ↓PGft, ↓PGff, ↓BGtt, ↓BGtf, ↓BGft, ↓BGff, ↓CGtt, ↓CGtf, ↓CGft, ↓CGff, ↓IGtt, ↓IGtf, ↓IGft, ↓IGff, ↓PKt, ↓PKf, ↓CDt, ↓CDf, ↓NOTt, ↓NOTf, ↓NK_ptr, ↓e0.e, ↓NEt hp]
  first | exact ⟨rfl, hm⟩ | exact ⟨trivial, hm⟩
theorem more1n {w0 w : World} (hm : Mod none_ w0 w) {p : Pr} (hp : (checkP p).err = 0) (hz : (findP p.decls zz).kind ≠ 0) {b10 t base : Nat} (hT : TbAt w base t p.decls) (hb10 : w.heap[b10]? = some (.cells (checkP p).cells.toArray 30 (0, 0))) {ρ : Sl} (r9 : ρ 9 = pt t) (r10 : ρ 10 = pq b10) :
    sx fn_ Tryd.prog 143 dispatcherlaw04_ScopeMore_R1 (retK Tryd.prog [ResultVar.tmp 8] (moreR w0)) ρ w := by
  rw [dispatcherlaw04_ScopeMore_R1_eq]
  unfold dispatcherlaw04_ScopeMore_R1_F
  rw [r10, r9]
  have e0 : FO Tryd.prog w 30 0 0 ⟨b10, 0, none⟩ 28 (.int .i64 (checkP p).err) := FO.blk hb10 (by kernel_rfl) Tryd.underlying28 rfl rfl
  simp only [↓VG_u, ↓UG_u, ↓MG_u, ↓NG_u, ↓PG_u, ↓BG_u, ↓CG_u, ↓IG_u, ↓VGtt, ↓VGtf, ↓VGft, ↓VGff, ↓UGtt, ↓UGtf, ↓UGft, ↓UGff, ↓MGtt, ↓MGtf, ↓MGft, ↓MGff, ↓NGtt, ↓NGtf, ↓NGft, ↓NGff, ↓PGtt, ↓PGtf, ↓PGft, ↓PGff, ↓BGtt, ↓BGtf, ↓BGft, ↓BGff, ↓CGtt, ↓CGtf, ↓CGft, ↓CGff, ↓IGtt, ↓IGtf, ↓IGft, ↓IGff, ↓PKt, ↓PKf, ↓CDt, ↓CDf, ↓NOTt, ↓NOTf, ↓NK_ptr, ↓e0.e, ↓NEf hp]
  refine CK_st Tryd.func16 rfl rfl (FindT_ok hT (bs zz)) ?_
  rintro _ w1 ⟨rfl, hm1⟩
  rw [VK_eq_of (v := .int .u8 (findP p.decls (bs zz).data.toList).kind) (fldK_run _)]
  have hz' : (findP p.decls (bs zz).data.toList).kind ≠ 0 := hz
  simp only [↓VG_u, ↓UG_u, ↓MG_u, ↓NG_u, ↓PG_u, ↓BG_u, ↓CG_u, ↓IG_u, ↓VGtt, ↓VGtf, ↓VGft, ↓VGff, ↓UGtt, ↓UGtf, ↓UGft, ↓UGff, ↓MGtt, ↓MGtf, ↓MGft, ↓MGff, ↓NGtt, ↓NGtf, ↓NGft, ↓NGff, ↓PGtt, ↓PGtf, ↓PGft, ↓PGff, ↓BGtt, ↓BGtf, ↓BGft, ↓BGff, ↓CGtt, ↓CGtf, ↓CGft, ↓CGff, ↓IGtt, ↓IGtf, ↓IGft, ↓IGff, ↓PKt, ↓PKf, ↓CDt, ↓CDf, ↓NOTt, ↓NOTf, ↓NK_ptr, ↓NEt hz']
  first | exact ⟨rfl, hm.trans hm1⟩ | exact ⟨trivial, hm.trans hm1⟩
theorem ScopeMore_ok {w : World} (hg : Gl w) {p : Pr} (h : p.Ok w) (hsz : p.decls.length + St.szL p.body ≤ 1048576) (n l c : Int) (hl : (Lit.int .i64 l).wf = true) (hc : (Lit.int .i64 c).wf = true) : Rt Tryd.prog 8 #[.agg p.cells.toArray, .int .i64 n, .int .i64 l, .int .i64 c] w fun v w' => v = .bool true ∧ Mod none_ w w' := by
  have hf : p.fits := ⟨by omega, by omega⟩
  refine dispatcherlaw04_ScopeMore_calls ?_
  unfold dispatcherlaw04_ScopeMore_F
  refine box_k (cs := p.cells.toArray) rfl fun w1 hb1 hm1 hz1 => ?_
  refine CK_st Tryd.func18 rfl rfl (awake_ok (hg.mod hm1)) ?_
  rintro _ w2 ⟨rfl, hm2⟩
  have hb2 := hm2.blk hb1 id
  have hm02 := hm1.trans hm2
  simp only [↓VG_u, ↓UG_u, ↓MG_u, ↓NG_u, ↓PG_u, ↓BG_u, ↓CG_u, ↓IG_u, ↓VGtt, ↓VGtf, ↓VGft, ↓VGff, ↓UGtt, ↓UGtf, ↓UGft, ↓UGff, ↓MGtt, ↓MGtf, ↓MGft, ↓MGff, ↓NGtt, ↓NGtf, ↓NGft, ↓NGff, ↓PGtt, ↓PGtf, ↓PGft, ↓PGff, ↓BGtt, ↓BGtf, ↓BGft, ↓BGff, ↓CGtt, ↓CGtf, ↓CGft, ↓CGff, ↓IGtt, ↓IGtf, ↓IGft, ↓IGff, ↓PKt, ↓PKf, ↓CDt, ↓CDf, ↓NOTt, ↓NOTf, ↓NK_ptr]
  refine ldB (cs := p.cells.toArray) Tryd.underlying25 rfl iPr hb2 ?_
  refine CK_st Tryd.func10 rfl rfl (Great_ok (h.mod hm02) hf) ?_
  rintro _ w3 ⟨rfl, hm3⟩
  have hb3 := hm3.blk hb2 id
  have hm03 := hm02.trans hm3
  have done : ∀ {w' : World}, Mod none_ w w' → moreR w (.bool true) w' := fun hm => ⟨rfl, hm⟩
  cases hgr : p.great with
  | true => simp only [↓VG_u, ↓UG_u, ↓MG_u, ↓NG_u, ↓PG_u, ↓BG_u, ↓CG_u, ↓IG_u, ↓VGtt, ↓VGtf, ↓VGft, ↓VGff, ↓UGtt, ↓UGtf, ↓UGft, ↓UGff, ↓MGtt, ↓MGtf, ↓MGft, ↓MGff, ↓NGtt, ↓NGtf, ↓NGft, ↓NGff, ↓PGtt, ↓PGtf, ↓PGft, ↓PGff, ↓BGtt, ↓BGtf, ↓BGft, ↓BGff, ↓CGtt, ↓CGtf, ↓CGft, ↓CGff, ↓IGtt, ↓IGtf, ↓IGft, ↓IGff, ↓PKt, ↓PKf, ↓CDt, ↓CDf, ↓NOTt, ↓NOTf, ↓NK_ptr]; first | exact done hm03 | exact ⟨trivial, hm03⟩
  | false =>
  simp only [↓VG_u, ↓UG_u, ↓MG_u, ↓NG_u, ↓PG_u, ↓BG_u, ↓CG_u, ↓IG_u, ↓VGtt, ↓VGtf, ↓VGft, ↓VGff, ↓UGtt, ↓UGtf, ↓UGft, ↓UGff, ↓MGtt, ↓MGtf, ↓MGft, ↓MGff, ↓NGtt, ↓NGtf, ↓NGft, ↓NGff, ↓PGtt, ↓PGtf, ↓PGft, ↓PGff, ↓BGtt, ↓BGtf, ↓BGft, ↓BGff, ↓CGtt, ↓CGtf, ↓CGft, ↓CGff, ↓IGtt, ↓IGtf, ↓IGft, ↓IGff, ↓PKt, ↓PKf, ↓CDt, ↓CDf, ↓NOTt, ↓NOTf, ↓NK_ptr]
  by_cases h0 : n < 0
  · simp only [↓VG_u, ↓UG_u, ↓MG_u, ↓NG_u, ↓PG_u, ↓BG_u, ↓CG_u, ↓IG_u, ↓VGtt, ↓VGtf, ↓VGft, ↓VGff, ↓UGtt, ↓UGtf, ↓UGft, ↓UGff, ↓MGtt, ↓MGtf, ↓MGft, ↓MGff, ↓NGtt, ↓NGtf, ↓NGft, ↓NGff, ↓PGtt, ↓PGtf, ↓PGft, ↓PGff, ↓BGtt, ↓BGtf, ↓BGft, ↓BGff, ↓CGtt, ↓CGtf, ↓CGft, ↓CGff, ↓IGtt, ↓IGtf, ↓IGft, ↓IGff, ↓PKt, ↓PKf, ↓CDt, ↓CDf, ↓NOTt, ↓NOTf, ↓NK_ptr, ↓LTt h0]; first | exact done hm03 | exact ⟨trivial, hm03⟩
  simp only [↓VG_u, ↓UG_u, ↓MG_u, ↓NG_u, ↓PG_u, ↓BG_u, ↓CG_u, ↓IG_u, ↓VGtt, ↓VGtf, ↓VGft, ↓VGff, ↓UGtt, ↓UGtf, ↓UGft, ↓UGff, ↓MGtt, ↓MGtf, ↓MGft, ↓MGff, ↓NGtt, ↓NGtf, ↓NGft, ↓NGff, ↓PGtt, ↓PGtf, ↓PGft, ↓PGff, ↓BGtt, ↓BGtf, ↓BGft, ↓BGff, ↓CGtt, ↓CGtf, ↓CGft, ↓CGff, ↓IGtt, ↓IGtf, ↓IGft, ↓IGff, ↓PKt, ↓PKf, ↓CDt, ↓CDf, ↓NOTt, ↓NOTf, ↓NK_ptr, ↓LTf (show 0 ≤ n by omega)]
  by_cases h1 : 1000 < n
  · simp only [↓VG_u, ↓UG_u, ↓MG_u, ↓NG_u, ↓PG_u, ↓BG_u, ↓CG_u, ↓IG_u, ↓VGtt, ↓VGtf, ↓VGft, ↓VGff, ↓UGtt, ↓UGtf, ↓UGft, ↓UGff, ↓MGtt, ↓MGtf, ↓MGft, ↓MGff, ↓NGtt, ↓NGtf, ↓NGft, ↓NGff, ↓PGtt, ↓PGtf, ↓PGft, ↓PGff, ↓BGtt, ↓BGtf, ↓BGft, ↓BGff, ↓CGtt, ↓CGtf, ↓CGft, ↓CGff, ↓IGtt, ↓IGtf, ↓IGft, ↓IGff, ↓PKt, ↓PKf, ↓CDt, ↓CDf, ↓NOTt, ↓NOTf, ↓NK_ptr, ↓GTt h1]; first | exact done hm03 | exact ⟨trivial, hm03⟩
  simp only [↓VG_u, ↓UG_u, ↓MG_u, ↓NG_u, ↓PG_u, ↓BG_u, ↓CG_u, ↓IG_u, ↓VGtt, ↓VGtf, ↓VGft, ↓VGff, ↓UGtt, ↓UGtf, ↓UGft, ↓UGff, ↓MGtt, ↓MGtf, ↓MGft, ↓MGff, ↓NGtt, ↓NGtf, ↓NGft, ↓NGff, ↓PGtt, ↓PGtf, ↓PGft, ↓PGff, ↓BGtt, ↓BGtf, ↓BGft, ↓BGff, ↓CGtt, ↓CGtf, ↓CGft, ↓CGff, ↓IGtt, ↓IGtf, ↓IGft, ↓IGff, ↓PKt, ↓PKf, ↓CDt, ↓CDf, ↓NOTt, ↓NOTf, ↓NK_ptr, ↓GTf (show n ≤ 1000 by omega)]
  refine ldB (cs := p.cells.toArray) Tryd.underlying25 rfl iPr hb3 ?_
  refine CK_st Tryd.func13 rfl rfl (New_ok (hg.mod hm03) (h.mod hm03) hf) ?_
  rintro _ w4 ⟨x, rfl, hT⟩
  rw [extract_ok (v := x) rfl, extract_ok (v := (checkP p).v) rfl]
  have hm4 := hT.m
  refine lcl_k (cs := (checkP p).cells.toArray) zWrg _ iWrg rfl (wr_one _) fun w5 hb5 hm5 hz5 => ?_
  have hm35 := hm4.trans hm5
  have hm05 := hm03.trans hm35
  have e0 : FO Tryd.prog w5 30 0 0 ⟨w4.heap.size, 0, none⟩ 28 (.int .i64 (checkP p).err) := FO.blk hb5 (by kernel_rfl) Tryd.underlying28 rfl rfl
  simp only [↓e0.e]
  by_cases hp : (checkP p).err = 0
  · obtain ⟨_, _, t, rfl, hTb⟩ := hT.ok hp
    simp only [↓VG_u, ↓UG_u, ↓MG_u, ↓NG_u, ↓PG_u, ↓BG_u, ↓CG_u, ↓IG_u, ↓VGtt, ↓VGtf, ↓VGft, ↓VGff, ↓UGtt, ↓UGtf, ↓UGft, ↓UGff, ↓MGtt, ↓MGtf, ↓MGft, ↓MGff, ↓NGtt, ↓NGtf, ↓NGft, ↓NGff, ↓PGtt, ↓PGtf, ↓PGft, ↓PGff, ↓BGtt, ↓BGtf, ↓BGft, ↓BGff, ↓CGtt, ↓CGtf, ↓CGft, ↓CGff, ↓IGtt, ↓IGtf, ↓IGft, ↓IGff, ↓PKt, ↓PKf, ↓CDt, ↓CDf, ↓NOTt, ↓NOTf, ↓NK_ptr, ↓EQt hp]
    rw [BK_eqlP uTp, Option.isNone_some]
    try simp only [↓VG_u, ↓UG_u, ↓MG_u, ↓NG_u, ↓PG_u, ↓BG_u, ↓CG_u, ↓IG_u, ↓VGtt, ↓VGtf, ↓VGft, ↓VGff, ↓UGtt, ↓UGtf, ↓UGft, ↓UGff, ↓MGtt, ↓MGtf, ↓MGft, ↓MGff, ↓NGtt, ↓NGtf, ↓NGft, ↓NGff, ↓PGtt, ↓PGtf, ↓PGft, ↓PGff, ↓BGtt, ↓BGtf, ↓BGft, ↓BGff, ↓CGtt, ↓CGtf, ↓CGft, ↓CGff, ↓IGtt, ↓IGtf, ↓IGft, ↓IGff, ↓PKt, ↓PKf, ↓CDt, ↓CDf, ↓NOTt, ↓NOTf, ↓NK_ptr]
    rw [dispatcherlaw04_ScopeMore_R0_eq]
    unfold dispatcherlaw04_ScopeMore_R0_F
    refine condF ?_
    rw [sq_n]
    by_cases hz : (findP p.decls zz).kind = 0
    · refine more1 (n := n) hg h hsz hm05 (hm35.blk hb3 id) hp hz hl hc ⟨by omega, by omega⟩ (hTb.mod hm5) hb5 ?_ ?_ ?_ ?_ ?_ ?_
      all_goals rfl
    · refine more1n hm05 hp hz (hTb.mod hm5) hb5 ?_ ?_
      all_goals rfl
  · simp only [↓VG_u, ↓UG_u, ↓MG_u, ↓NG_u, ↓PG_u, ↓BG_u, ↓CG_u, ↓IG_u, ↓VGtt, ↓VGtf, ↓VGft, ↓VGff, ↓UGtt, ↓UGtf, ↓UGft, ↓UGff, ↓MGtt, ↓MGtf, ↓MGft, ↓MGff, ↓NGtt, ↓NGtf, ↓NGft, ↓NGff, ↓PGtt, ↓PGtf, ↓PGft, ↓PGff, ↓BGtt, ↓BGtf, ↓BGft, ↓BGff, ↓CGtt, ↓CGtf, ↓CGft, ↓CGff, ↓IGtt, ↓IGtf, ↓IGft, ↓IGff, ↓PKt, ↓PKf, ↓CDt, ↓CDf, ↓NOTt, ↓NOTf, ↓NK_ptr, ↓EQf hp]
    rw [dispatcherlaw04_ScopeMore_R0_eq]
    unfold dispatcherlaw04_ScopeMore_R0_F
    refine condF ?_
    rw [sq_n]
    refine more1b hm05 hp hb5 ?_
    rfl
theorem okWide_intW {P : Program} {W' : World} {t : TypeId} {v : Value} {k : IntKind} (ht : P.underlying t = some (.int k)) (h : Value.okWide P W' .any 0 t v) : ∃ n, v = .int k n ∧ (Lit.int k n).wf = true := by
  simp only [Value.okWide, ht, Cell.okWide] at h
  cases v <;> simp_all [Cell.ok, IntKind.has, Lit.wf]
end Go.Proofs.YtbnbcimjapiicaaDoor.Tr
set_option linter.unusedVariables false
set_option maxRecDepth 10000
namespace Go.Proofs.YtbnbcimjapiicaaDoor.Tr
open Go Go.X Go.RowKit
def argsN : List Int := [5, 5, 5, 5, 5, 3, 3, 1, -1, -1, 1, -1, 3, 3, 1, 3, 3, 2, 3, 1, 3, 1]
theorem gl_of {W : World} (h : laidMetH Tryd.prog [("dispatcher/scan.words", Rows.laid_dispatcher_scan_words), ("dispatcher/tree.args", Rows.laid_dispatcher_tree_args), ("dispatcher/tree.plain", Rows.laid_dispatcher_tree_plain)] W) : Gl W := by
  rw [MakeChecks.laidMetH_plain _ _ _ (by kernel_rfl)] at h
  obtain ⟨ps, ⟨g, t, cs, fuel, p, q, hg, ht, hv, hd, ⟨g2, t2, cs2, fuel2, p2, q2, hg2, ht2, hv2, hd2, ⟨g3, t3, cs3, fuel3, p3, q3, hg3, ht3, hv3, hd3, _, _⟩, _⟩, _⟩, _⟩ := h
  obtain rfl := Option.some.inj ((show Tryd.prog.globalNamed "dispatcher/scan.words" = some 0 by kernel_rfl).symm.trans hg)
  obtain rfl := Option.some.inj ((show (Tryd.prog.globals[0]?).map (·.type) = some 120 by kernel_rfl).symm.trans ht)
  obtain rfl := Option.some.inj ((show Tryd.prog.globalNamed "dispatcher/tree.args" = some 1 by kernel_rfl).symm.trans hg2)
  obtain rfl := Option.some.inj ((show (Tryd.prog.globals[1]?).map (·.type) = some 133 by kernel_rfl).symm.trans ht2)
  obtain rfl := Option.some.inj ((show Tryd.prog.globalNamed "dispatcher/tree.plain" = some 2 by kernel_rfl).symm.trans hg3)
  obtain rfl := Option.some.inj ((show (Tryd.prog.globals[2]?).map (·.type) = some 135 by kernel_rfl).symm.trans ht3)
  refine ⟨?_, ?_, ?_⟩
  · exact laid_arr (xs := wordsL) (val := txt) (dat := fun b => .lit (.string b)) (n := 43) hg hv (show Tryd.prog.underlying 120 = some (.array 43 9) by kernel_rfl) (by kernel_rfl) (by decide) hd (fun m l x b h hx => laid_str uS m l x b h hx)
  · exact laid_arr (xs := argsN) (val := fun n => .int .i64 n) (dat := fun n => .lit (.int .i64 n)) (n := 22) hg2 hv2 (show Tryd.prog.underlying 133 = some (.array 22 3) by kernel_rfl) (by kernel_rfl) (by decide) hd2 (fun m l x b h hx => laid_int uI m l x b h hx)
  · exact laid_arr (xs := plainL) (val := txt) (dat := fun b => .lit (.string b)) (n := 10) hg3 hv3 (show Tryd.prog.underlying 135 = some (.array 10 9) by kernel_rfl) (by kernel_rfl) (by decide) hd3 (fun m l x b h hx => laid_str uS m l x b h hx)
end Go.Proofs.YtbnbcimjapiicaaDoor.Tr
set_option linter.unusedVariables false
set_option maxRecDepth 4000
namespace Go.Proofs.YtbnbcimjapiicaaDoor.Tr
open Go Go.X Go.RowKit
def shDe : ShM De := ⟨⟨4, fun w e cs => cs = e.cells ∧ e.fine⟩, fun _ => 1⟩
def shPr : ShM Pr := ⟨⟨2, fun w e cs => cs = e.cells ∧ e.Ok w⟩, fun p => p.decls.length + St.szL p.body⟩
theorem opensDe (n : Nat) : OpensM U Tryd.prog n shDe 40 :=
  opensM_as (opensM_struct Tryd.underlying40 (by kernel_rfl) (fun m hm => fieldsM_cons rfl (by kernel_rfl) (opensM_string uS) (fieldsM_cons rfl (by kernel_rfl) (opensM_int uI) (fieldsM_cons rfl (by kernel_rfl) (opensM_int uI) (fieldsM_one rfl (by kernel_rfl) (opensM_int uI))))))
    (fun x => (⟨x.1, x.2.1, x.2.2.1, x.2.2.2⟩ : De))
    (fun w v cs h => by
      obtain ⟨c0, d0, rfl, _, ⟨rfl, h0⟩, c1, d1, rfl, _, ⟨rfl, h1⟩, c2, d2, rfl, _, ⟨rfl, h2⟩, rfl, h3⟩ := h
      exact ⟨rfl, h0, h1, h2, h3⟩)
    (fun v => by
      show 1 ≤ _
      exact Nat.le_add_left 1 _)
theorem des_of {w : World} {x : Value × List De} {cs : List Value} (h : (Sh.slice shDe.toSh).K w x cs) : DesOk w x.1 x.2 :=
  ⟨reads_sh h De.cells De.cells_len (fun a d hk => hk.1), fun a ha => by obtain ⟨d, hd⟩ := mem_sh h a ha; exact hd.2⟩
theorem ones_sum (l : List De) : (l.map fun _ => 1).sum = l.length := by
  induction l with
  | nil => rfl
  | cons a r ih => simp only [List.map_cons, List.sum_cons, List.length_cons, ih]; omega
theorem opensPr (n : Nat) : OpensM U Tryd.prog n shPr 25 :=
  opensM_as (opensM_struct Tryd.underlying25 (by kernel_rfl) (fun m hm => fieldsM_cons rfl (by kernel_rfl) (opensM_slice uDes cDe (fun k hk => opensDe k)) (fieldsM_one rfl (by kernel_rfl) (opensM_slice uSts cSt (fun k hk => opensSt k)))))
    (fun x => (⟨x.1.1, x.1.2, x.2.1, x.2.2⟩ : Pr))
    (fun w v cs h => by
      obtain ⟨c0, d0, rfl, _, h0, h1⟩ := h
      have h0' := des_of h0
      have h1' := sts_of h1
      obtain ⟨rfl, _⟩ := h0
      obtain ⟨rfl, _⟩ := h1
      exact ⟨rfl, h0', h1'⟩)
    (fun v => by
      show v.1.2.length + St.szL v.2.2 ≤ (((v.1.2.map fun _ => 1).sum + 1) + ((v.2.2.map St.sz).sum + 1)) + 1
      rw [St.szL_eq, ones_sum]
      omega)
end Go.Proofs.YtbnbcimjapiicaaDoor.Tr
