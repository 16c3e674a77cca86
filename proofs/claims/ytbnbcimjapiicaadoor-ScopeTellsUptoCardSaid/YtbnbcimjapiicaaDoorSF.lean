/- Tables in memory; what is wrong with expressions, statements: the program's. -/
import Derived.Test.YtbnbcimjapiicaaDoorSD
set_option linter.unusedVariables false
set_option linter.unusedSimpArgs false
set_option maxRecDepth 4000
namespace Go.Proofs.YtbnbcimjapiicaaDoor.Tr
open Go Go.X Go.RowKit Go.Proofs.YtbnbcimjapiicaaDoor.XG Go.Proofs.YtbnbcimjapiicaaDoor.XK

def encK (k : Key) : Value := .string ⟨k.toArray⟩
theorem encK_of (b : ByteArray) : encK b.data.toList = .string b := by unfold encK; simp
theorem beqB (a b : Key) : ((⟨a.toArray⟩ : ByteArray) == ⟨b.toArray⟩) = decide (a = b) := by
  show ((a.toArray : Array UInt8) == b.toArray) = decide (a = b)
  by_cases h : a = b
  · subst h; simp
  · rw [decide_eq_false h]
    apply Bool.eq_false_iff.2
    intro q
    apply h
    have := eq_of_beq q
    simpa using this
theorem chkS (e : Bool) (n : Nat) (k : ByteArray) (w : World) : (Instr.checkKey e (n + 1) 9 (.string k)).run Tryd.prog w = .ok () w := by
  simp [Instr.checkKey, Sem.run_bind, run_underlying uSt]
theorem KT : KeyT Tryd.prog 9 encK where
  find := fun k l w => by
    have gen : ∀ (l : List (Ent Key)) (i : Nat), Instr.findNow .string (encK k) (l.map (Ent.enc encK)) i = some (findE k l i) := by
      intro l
      induction l with
      | nil => intro i; rfl
      | cons e r ih =>
        intro i
        simp only [List.map_cons, Instr.findNow, Ent.enc, encK, Instr.sameNow, beqB, findE]
        by_cases h : k = e.k
        · simp [h]
        · simp only [h, decide_false, if_false]
          exact ih (i + 1)
    unfold Instr.findKey
    rw [Sem.run_bind, run_underlying uSt]
    simp only [Result.andThen_ok, gen]
    rfl
  check := fun e k w => chkS e 9999 _ w
  bits := fun k => by
    show Instr.sameBits (9999 + 1) _ _ = true
    simp [encK, Instr.sameBits]
    show ((k.toArray : Array UInt8) == k.toArray) = true
    simp
  inj := fun a b h => by simpa [encK] using h
/-- What a map tells of a key. -/
def valE (k : Key) (l : List (Ent Key)) : Value := match findE k l 0 with | some (_, v) => v | none => zEn.v
theorem uMap : Tryd.prog.underlying 69 = some (.map 9 37) := by kernel_rfl
theorem look_ok {w : World} {K : Value → World → Prop} {b : Nat} {l : List (Ent Key)} {c : Nat} (h : IsMap encK w b l c) (k : ByteArray) (hk : K (valE k.data.toList l) w) : VK Tryd.prog (Instr.lookup 69 (.map (some b)) (.string k) false) w K := by
  have hr := run_look KT uMap h zEnt k.data.toList false
  rw [encK_of] at hr
  refine VK_of hr ?_
  unfold valE at hk
  cases hf : findE k.data.toList l 0 with
  | none => rw [hf] at hk; exact hk
  | some p => obtain ⟨i, v⟩ := p; rw [hf] at hk; exact hk
/-- A table in memory: of these declarations, all well. -/
structure TbAt (w : World) (base t : Nat) (ds : List De) : Prop where
  at' : ∃ nv av m l c, w.heap[t]? = some (.cells #[nv, .map (some m), .int .i64 (vars ds), av, .int .i64 (cellsP ds)] 71 (0, 0)) ∧
    IsMap encK w m l c ∧ (∀ k, valE k l = (findP ds k).v) ∧ base ≤ t ∧ base ≤ m ∧
    w.ownsRow base 9 1 nv ds.length (ds.map fun d => .string d.name) ∧ w.ownsRow base 3 1 av (arrs ds).length ((arrs ds).map (.int .i64))
end Go.Proofs.YtbnbcimjapiicaaDoor.Tr
/-! What is wrong with expressions, statements: the program's. -/
set_option linter.unusedVariables false
set_option linter.unusedSimpArgs false
set_option maxRecDepth 4000
namespace Go.Proofs.YtbnbcimjapiicaaDoor.Tr
open Go Go.X Go.RowKit Go.Proofs.YtbnbcimjapiicaaDoor.XG Go.Proofs.YtbnbcimjapiicaaDoor.XK

theorem TbAt.mod {w w' : World} {base t : Nat} {ds : List De} (h : TbAt w base t ds) (hm : Mod none_ w w') : TbAt w' base t ds := by
  obtain ⟨nv, av, m, l, c, h1, h2, h3, h4, h5, h6, h7⟩ := h.at'
  exact ⟨⟨nv, av, m, l, c, hm.blk h1 id, h2.mod hm id, h3, h4, h5, owns_mod h6 hm (fun _ _ => id), owns_mod h7 hm (fun _ _ => id)⟩⟩
abbrev pt (b : Nat) : Value := .pointer (some ⟨b, 0, none⟩)
/-- Where the closures' variables lie. -/
structure Cx where
  w0 : World
  base : Nat
  t : Nat
  x2 : Nat
  x5 : Nat
  x6 : Nat
  x7 : Nat
  x8 : Nat
  ds : List De
structure Clo (C : Cx) (r : Wr) (w : World) : Prop where
  m : Mod none_ C.w0 w
  tb : TbAt C.w0 C.base C.t C.ds
  b2 : w.heap[C.x2]? = some (.cells #[pt C.t] 32 (0, 0))
  b5 : w.heap[C.x5]? = some (.cells r.cells.toArray 30 (0, 0))
  b6 : w.heap[C.x6]? = some (.cells #[.func (.func 60) #[] #[pt C.x2, pt C.x5]] 89 (0, 0))
  b7 : w.heap[C.x7]? = some (.cells #[.func (.func 61) #[] #[pt C.x6, pt C.x7]] 90 (0, 0))
  b8 : w.heap[C.x8]? = some (.cells #[.func (.func 62) #[] #[pt C.x6, pt C.x7, pt C.x8]] 64 (0, 0))
  d : C.x2 ≠ C.x5 ∧ C.x6 ≠ C.x5 ∧ C.x7 ≠ C.x5 ∧ C.x8 ≠ C.x5 ∧ C.w0.heap.size ≤ C.x5
theorem Clo.step {C : Cx} {r : Wr} {w w' : World} (h : Clo C r w) (hm : Mod none_ w w') : Clo C r w' :=
  ⟨h.m.trans hm, h.tb, hm.blk h.b2 id, hm.blk h.b5 id, hm.blk h.b6 id, hm.blk h.b7 id, hm.blk h.b8 id, h.d⟩
theorem Clo.put {C : Cx} {r r' : Wr} {w w' : World} (h : Clo C r w) (hm : Mod (fun i => i = C.x5) w w') (hb : w'.heap[C.x5]? = some (.cells r'.cells.toArray 30 (0, 0))) : Clo C r' w' :=
  ⟨h.m.then hm (fun i hi q => by have := h.d.2.2.2.2; omega), h.tb, hm.blk h.b2 h.d.1, hb, hm.blk h.b6 h.d.2.1, hm.blk h.b7 h.d.2.2.1, hm.blk h.b8 h.d.2.2.2.1, h.d⟩
theorem uMp : Tryd.prog.underlying 69 = some (.map 9 37) := by kernel_rfl
theorem must_ok {C : Cx} {w : World} (h : Clo C zWr w) (k : ByteArray) (kd l c : Int) :
    Rt Tryd.prog 60 #[.string k, .int .u8 kd, .int .i64 l, .int .i64 c, pt C.x2, pt C.x5] w fun v w' => v = .bool (decide (kindP C.ds k.data.toList = kd)) ∧ Clo C (if kindP C.ds k.data.toList = kd then zWr else ⟨40, l, c⟩) w' ∧ Mod (fun i => i = C.x5) w w' := by
  obtain ⟨nv, av, m, es, ck, h1, h2, h3, h4, h5, h6, h7⟩ := (h.tb.mod h.m).at'
  refine scope_Table_look_1_calls ?_
  unfold scope_Table_look_1_F
  refine ldOne rfl Tryd.underlying32 rfl h.b2 ?_
  rw [NK_ptr]
  have f1 : FAt Tryd.prog w 71 1 ⟨C.t, 0, none⟩ 69 (.map (some m)) := FAt.mk' (off := 1) (by kernel_rfl) uMp rfl (by rw [add_pl, cell_blk h1]; rfl)
  refine f1.vk' fun x13 => ?_
  refine look_ok h2 k ?_
  rw [h3, fldK]
  have fin : ∀ (ρ' : Sl) (w' : World) (r : Wr), Clo C r w' → Mod (fun i => i = C.x5) w w' → ρ' 5 = pt C.x5 → (r = if kindP C.ds k.data.toList = kd then zWr else ⟨40, l, c⟩) →
      sx fn_ Tryd.prog 26 scope_Table_look_1_R0 (retK Tryd.prog [ResultVar.tmp 10] fun v w' => v = .bool (decide (kindP C.ds k.data.toList = kd)) ∧ Clo C (if kindP C.ds k.data.toList = kd then zWr else ⟨40, l, c⟩) w' ∧ Mod (fun i => i = C.x5) w w') ρ' w' := by
    intro ρ' w' r hc hmm q5 hr
    have g0 : FAt Tryd.prog w' 30 0 ⟨C.x5, 0, none⟩ 28 (.int .i64 r.err) := FAt.mk' (off := 0) (by kernel_rfl) uErrI rfl (by rw [add_pl, cell_blk hc.b5]; rfl)
    rw [scope_Table_look_1_R0_eq]
    unfold scope_Table_look_1_R0_F
    rw [q5]
    refine g0.vk' fun x23 => ?_
    rw [BK_eql]
    refine ⟨?_, hr ▸ hc, hmm⟩
    show Value.bool _ = _
    rw [hr]
    by_cases q : kindP C.ds k.data.toList = kd <;> simp [q, zWr]
  refine BKneI (a := kindP C.ds k.data.toList) (b := kd) rfl rfl (fun hq => condF ?_) (fun hq => condT ?_)
  · exact fin _ w zWr h (Mod.refl _ _) rfl (by rw [if_pos hq])
  · rw [build_ok (bWr3 _ _ _)]
    refine stS (b := C.x5) (old := zWr.cells.toArray) (cs := (Wr.mk 40 l c).cells.toArray) rfl rfl iWrg rfl (wr_one _) h.b5 fun w2 hb2 hm2 _ => ?_
    exact fin _ w2 ⟨40, l, c⟩ (h.put hm2 hb2) hm2 rfl (by rw [if_neg hq])
/-- An expression, looked at by the program. -/
theorem exprC_ok {C : Cx} : ∀ (e : Ex) (w : World), Clo C zWr w → e.Ok C.w0 → e.sz ≤ 1099511627776 →
    Rt Tryd.prog 61 #[.agg e.cells.toArray, pt C.x6, pt C.x7] w fun v w' => v = .bool (decide ((e.wr (kindP C.ds)).err = 0)) ∧ Clo C (e.wr (kindP C.ds)) w' ∧ Mod (fun i => i = C.x5) w w' := by
  intro e
  induction e using Ex.ind with
  | h e ih =>
    intro w hC hok hsz
    obtain ⟨A, c, hs, _⟩ := reads_cap hok.args.1
    have hszL : Ex.szL e.args ≤ 1099511627776 := by rw [Ex.sz_eq] at hsz; omega
    have hlen := Ex.len_sz e.args
    have hwr := Ex.wr_eq (kindP C.ds) e
    refine scope_Table_look_2_calls ?_
    unfold scope_Table_look_2_F
    refine box_k (cs := e.cells.toArray) rfl fun w1 hb1 hm1 hz1 => ?_
    have hC1 := hC.step hm1
    have hx5 : C.x5 < w.heap.size := blk_lt hC.b5
    generalize hbe : w.heap.size = be at *
    have d0 : FAt Tryd.prog w1 60 0 ⟨be, 0, none⟩ 5 (.int .u8 e.op) := FAt.mk' (off := 0) (by kernel_rfl) uU8 rfl (by rw [add_pl, cell_blk hb1]; rfl)
    have d2 : FAt Tryd.prog w1 60 2 ⟨be, 0, none⟩ 9 (.string e.name) := FAt.mk' (off := 2) (by kernel_rfl) uSt rfl (by rw [add_pl, cell_blk hb1]; rfl)
    have d4 : FAt Tryd.prog w1 60 4 ⟨be, 0, none⟩ 3 (.int .i64 e.line) := FAt.mk' (off := 4) (by kernel_rfl) uI rfl (by rw [add_pl, cell_blk hb1]; rfl)
    have d5 : FAt Tryd.prog w1 60 5 ⟨be, 0, none⟩ 3 (.int .i64 e.col) := FAt.mk' (off := 5) (by kernel_rfl) uI rfl (by rw [add_pl, cell_blk hb1]; rfl)
    have r0 : ∀ (ρ' : Sl) (w2 : World) (r : Wr), Clo C r w2 → Mod (fun i => i = C.x5) w w2 → w2.heap[be]? = some (.cells e.cells.toArray 60 (0, 0)) → ρ' 3 = pt be → ρ' 2 = pt C.x7 → ρ' 5 = .bool (decide (r.err = 0)) → (r.err = 0 → r = zWr ∧ e.bad (kindP C.ds) = false) → (r.err ≠ 0 → e.wr (kindP C.ds) = r) →
        sx fn_ Tryd.prog 45 scope_Table_look_2_R0 (retK Tryd.prog [ResultVar.tmp 4] fun v w' => v = .bool (decide ((e.wr (kindP C.ds)).err = 0)) ∧ Clo C (e.wr (kindP C.ds)) w' ∧ Mod (fun i => i = C.x5) w w') ρ' w2 := by
      intro ρ' w2 r hC2 hmm hb2 q3 q2 q5 hr0 hr1
      rw [scope_Table_look_2_R0_eq]
      unfold scope_Table_look_2_R0_F
      have f3 : FAt Tryd.prog w2 60 3 ⟨be, 0, none⟩ 58 (.slice A e.args.length c) := FAt.mk' (off := 3) (by kernel_rfl) uExs rfl (by rw [add_pl, cell_blk hb2, ← hs]; rfl)
      refine f3.vs q3 fun x30 => ?_
      rw [len58]
      refine W_loop scope_Table_look_2_L1_ok (fun ρ w' => ∃ (n : Nat) (r : Wr), n ≤ e.args.length ∧ ρ 33 = .int .i64 n ∧ ρ 32 = .int .i64 e.args.length ∧ ρ 31 = .slice A e.args.length c ∧ ρ 2 = pt C.x7 ∧ ρ 5 = .bool (decide (r.err = 0)) ∧ Clo C r w' ∧ Mod (fun i => i = C.x5) w w' ∧ (r.err = 0 → r = zWr ∧ e.bad (kindP C.ds) = false ∧ ∀ a ∈ e.args.take n, (a.wr (kindP C.ds)).err = 0) ∧ (r.err ≠ 0 → e.wr (kindP C.ds) = r)) (fun ρ _ => e.args.length - (intOf (ρ 33)).toNat)
        ⟨0, r, Nat.zero_le _, rfl, rfl, rfl, q2, q5, hC2, hmm, fun q => ⟨(hr0 q).1, (hr0 q).2, by simp⟩, hr1⟩ ?_
      rintro ρ w3 ⟨n, r, hn, h33, h32, h31, h2, h5, hC3, hm3, g0, g1⟩
      rw [scope_Table_look_2_L1_eq]
      unfold scope_Table_look_2_L1_F
      rw [h33, h32, h31]
      refine BKlss (a := n) (b := e.args.length) rfl rfl ?_
      by_cases hlt : n < e.args.length
      · rw [show decide ((n : Int) < (e.args.length : Int)) = true by rw [decide_eq_true_eq]; omega]
        refine condT ?_
        have hx : e.args[n]? = some e.args[n] := List.getElem?_eq_getElem hlt
        have hmem : e.args[n] ∈ e.args := List.getElem_mem hlt
        have hok3 := hok.args.mod hC3.m
        rw [hs] at hok3
        have hs2 := Ex.szL_at hx
        refine ixEx hok3 hx fun y => ?_
        refine lcl_k (cs := e.args[n].cells.toArray) zEx _ iEx rfl (ex_one (hok3.at hx)) fun w4 hb4 hm4 _ => ?_
        have hC4 := hC3.step hm4
        generalize w3.heap.size = b7 at *
        rw [h5]
        by_cases hz : r.err = 0
        · obtain ⟨rfl, hbad, hall⟩ := g0 hz
          rw [show decide (zWr.err = 0) = true from rfl]
          simp only [CondK_bool, MG_u, NG_u, VG_u, UG_u, PG_u, BG_u, CG_u, IG_u, MG_b, NG_b, VG_b, UG_b, PG_b, BG_b, CG_b, IG_b, PK_bool, NK_ptr, not_ok, reduceCtorEq, if_true, if_false, Bool.true_eq_false, Bool.false_eq_true, Bool.not_true, Bool.not_false]
          refine ldOne h2 Tryd.underlying90 rfl hC4.b7 ?_
          refine ldS (cs := e.args[n].cells.toArray) rfl Tryd.underlying60 rfl iEx hb4 ?_
          refine CK_fn (f := 61) (first := #[]) (cap := #[pt C.x6, pt C.x7]) (args := [.agg e.args[n].cells.toArray]) Tryd.func61 rfl rfl (ih _ hmem w4 hC4 (hok.args.2 _ hmem) (by omega)) ?_
          rintro _ w5 ⟨rfl, hC5, hm5⟩
          refine BKadd (a := n) (b := 1) rfl rfl (by omega) (by omega) ?_
          refine ⟨⟨n + 1, e.args[n].wr (kindP C.ds), hlt, rfl, h32, h31, ?_, rfl, hC5, ((hm3.trans (hm4.mono fun _ _ q => q.elim)).trans hm5), fun q => ⟨Ex.wr_z _ q, hbad, ?_⟩, fun q => ?_⟩, ?_⟩
          · exact h2
          · rw [List.take_add_one, hx, Option.toList_some]
            intro a ha
            rcases List.mem_append.1 ha with ha | ha
            · exact hall a ha
            · rw [List.mem_singleton.1 ha]; exact q
          · rw [hwr, hbad, ← Ex.wrL_at hx hall q]; rfl
          · show e.args.length - (intOf (Value.int .i64 ((n : Int) + 1))).toNat < _
            simp only [intOf]; omega
        · rw [decide_eq_false hz]
          simp only [CondK_bool, MG_u, NG_u, VG_u, UG_u, PG_u, BG_u, CG_u, IG_u, MG_b, NG_b, VG_b, UG_b, PG_b, BG_b, CG_b, IG_b, PK_bool, NK_ptr, not_ok, reduceCtorEq, if_true, if_false, Bool.true_eq_false, Bool.false_eq_true, Bool.not_true, Bool.not_false]
          refine BKadd (a := n) (b := 1) rfl rfl (by omega) (by omega) ?_
          refine ⟨⟨n + 1, r, hlt, rfl, h32, h31, ?_, ?_, hC4, (hm3.trans (hm4.mono fun _ _ q => q.elim)), fun q => absurd q hz, g1⟩, ?_⟩
          · exact h2
          · show Value.bool false = _
            rw [decide_eq_false hz]
          · show e.args.length - (intOf (Value.int .i64 ((n : Int) + 1))).toNat < _
            simp only [intOf]; omega
      · obtain rfl : n = e.args.length := by omega
        rw [show decide (((e.args.length : Nat) : Int) < (e.args.length : Int)) = false by simp]
        refine condF ?_
        rw [sq_x, bk_x, sq_n, scope_Table_look_2_R2_eq]
        unfold scope_Table_look_2_R2_F
        have hfin : e.wr (kindP C.ds) = r := by
          by_cases hz : r.err = 0
          · obtain ⟨rfl, hbad, hall⟩ := g0 hz
            rw [List.take_length] at hall
            rw [hwr, hbad, ← Ex.wrL_all hall]; rfl
          · exact g1 hz
        refine ⟨?_, ?_, hm3⟩
        · show ρ 5 = _
          rw [h5, hfin]
        · rw [hfin]; exact hC3
    refine d0.vk' fun x8 => ?_
    refine caseI (fun k2 => condT ?_) (fun k2 => condF ?_)
    · refine ldOne rfl Tryd.underlying89 rfl hC1.b6 ?_
      refine d2.vk' fun x13 => d4.vk' fun x15 => d5.vk' fun x17 => ?_
      refine CK_fn (f := 60) (first := #[]) (cap := #[pt C.x2, pt C.x5]) (args := [.string e.name, .int .u8 1, .int .i64 e.line, .int .i64 e.col]) Tryd.func60 rfl rfl (must_ok hC1 e.name 1 e.line e.col) ?_
      rintro v w2 ⟨rfl, hC2, hm2⟩
      have hb2 := hm2.blk hb1 (by omega)
      have hmm := (hm1.mono (S' := fun i => i = C.x5) fun _ _ q => q.elim).trans hm2
      refine r0 _ w2 _ hC2 hmm hb2 rfl rfl ?_ ?_ ?_
      · show Value.bool _ = _
        by_cases q : kindP C.ds e.name.data.toList = 1 <;> simp [q, zWr]
      · intro q
        by_cases q1 : kindP C.ds e.name.data.toList = 1
        · rw [if_pos q1]
          refine ⟨rfl, ?_⟩
          unfold Ex.bad; rw [k2, q1]; rfl
        · rw [if_neg q1] at q; simp at q
      · intro q
        by_cases q1 : kindP C.ds e.name.data.toList = 1
        · rw [if_pos q1] at q; exact absurd rfl q
        · rw [if_neg q1, hwr, if_pos]
          unfold Ex.bad; rw [decide_eq_true ⟨k2, q1⟩]; rfl
    · refine caseI (fun k3 => condT ?_) (fun k3 => condF ?_)
      · refine ldOne rfl Tryd.underlying89 rfl hC1.b6 ?_
        refine d2.vk' fun x13 => d4.vk' fun x15 => d5.vk' fun x17 => ?_
        refine CK_fn (f := 60) (first := #[]) (cap := #[pt C.x2, pt C.x5]) (args := [.string e.name, .int .u8 2, .int .i64 e.line, .int .i64 e.col]) Tryd.func60 rfl rfl (must_ok hC1 e.name 2 e.line e.col) ?_
        rintro v w2 ⟨rfl, hC2, hm2⟩
        have hb2 := hm2.blk hb1 (by omega)
        have hmm := (hm1.mono (S' := fun i => i = C.x5) fun _ _ q => q.elim).trans hm2
        refine r0 _ w2 _ hC2 hmm hb2 rfl rfl ?_ ?_ ?_
        · show Value.bool _ = _
          by_cases q : kindP C.ds e.name.data.toList = 2 <;> simp [q, zWr]
        · intro q
          by_cases q1 : kindP C.ds e.name.data.toList = 2
          · rw [if_pos q1]
            refine ⟨rfl, ?_⟩
            unfold Ex.bad; rw [k3, q1]; rfl
          · rw [if_neg q1] at q; simp at q
        · intro q
          by_cases q1 : kindP C.ds e.name.data.toList = 2
          · rw [if_pos q1] at q; exact absurd rfl q
          · rw [if_neg q1, hwr, if_pos]
            unfold Ex.bad; rw [decide_eq_true (⟨k3, q1⟩ : e.op = 3 ∧ kindP C.ds e.name.data.toList ≠ 2), Bool.or_true]
      · refine r0 _ w1 zWr hC1 (hm1.mono fun _ _ q => q.elim) hb1 rfl rfl rfl ?_ fun q => absurd rfl q
        intro _
        refine ⟨rfl, ?_⟩
        unfold Ex.bad
        simp [k2, k3]
end Go.Proofs.YtbnbcimjapiicaaDoor.Tr
