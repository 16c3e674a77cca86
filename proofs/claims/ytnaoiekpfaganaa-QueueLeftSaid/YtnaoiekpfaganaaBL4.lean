/- Several texts of this repo, one behind the other, without what is not used here. -/
import Derived.Test.YtnaoiekpfaganaaBL3
set_option linter.unusedVariables false
set_option linter.unusedSimpArgs false
set_option maxRecDepth 8000
namespace Go.Proofs.Ytnaoiekpfaganaa.Que
open Go Go.X Go.RowKit Go.Proofs.Ytnaoiekpfaganaa.XF Go.Proofs.Ytnaoiekpfaganaa.XK
theorem of_R3 {w w1 : World} {v o : Value} {l : List Ms} {x : Ms} {i : Nat} {k : List UInt8} {f t : Int} {K : Exit → Sl → World → Prop} {ρ' : Sl} {b : Bool} (h1 : MsRow w1 v l) (hl : l.length ≤ 1000000) (hx : l[i]? = some x) (hO : w1.ownsRow w.heap.size tMs 8 o (rowOf (l.take i) (k, f, t)).length ((rowOf (l.take i) (k, f, t)).flatMap Ms.enc)) (hm : Mod none_ w w1)
    (hb : b = decide (x.ch = (k, f, t))) (a41 : ρ' 41 = .bool b) (a10 : ρ' 10 = .int .i64 i) (a0 : ρ' 0 = v) (a1 : ρ' 1 = strV k) (a2 : ρ' 2 = .int .i64 f) (a3 : ρ' 3 = .int .i64 t) (a9 : ρ' 9 = o)
    (hk : ∀ (ρ2 : Sl) (w' : World) (o' : Value), ρ2 10 = .int .i64 (i + 1 : Nat) → ρ2 0 = v → ρ2 1 = strV k → ρ2 2 = .int .i64 f → ρ2 3 = .int .i64 t → ρ2 9 = o' → w'.ownsRow w.heap.size tMs 8 o' (rowOf (l.take (i + 1)) (k, f, t)).length ((rowOf (l.take (i + 1)) (k, f, t)).flatMap Ms.enc) → Mod none_ w w' → K .normal ρ2 w') :
    sx fn_ Try.prog 50 dispatcherlaw13_of_R3 (blkK 1 (seqK (sx fn_ Try.prog 50 dispatcherlaw13_of_R2 K) K)) ρ' w1 := by
  have hlt := (List.getElem?_eq_some_iff.1 hx).1
  have etk : l.take (i + 1) = l.take i ++ [x] := by rw [List.take_add_one, hx]; rfl
  have hrow : rowOf (l.take (i + 1)) (k, f, t) = rowOf (l.take i) (k, f, t) ++ (if x.ch = (k, f, t) then [x] else []) := by rw [etk, row_app]
  have hrl := row_len (l.take i) (k, f, t)
  have htl : (l.take i).length ≤ i := by rw [List.length_take]; omega
  have nx : ∀ (ρ2 : Sl) (w' : World) (o' : Value), ρ2 10 = .int .i64 i → ρ2 0 = v → ρ2 1 = strV k → ρ2 2 = .int .i64 f → ρ2 3 = .int .i64 t → ρ2 9 = o' → w'.ownsRow w.heap.size tMs 8 o' (rowOf (l.take (i + 1)) (k, f, t)).length ((rowOf (l.take (i + 1)) (k, f, t)).flatMap Ms.enc) → Mod none_ w w' → sx fn_ Try.prog 50 dispatcherlaw13_of_R2 K ρ2 w' := by
    intro ρ2 w' o' b10 b0 b1 b2 b3 b9 hO' hm'
    rw [dispatcherlaw13_of_R2_eq]; unfold dispatcherlaw13_of_R2_F
    rw [b10, BK_add, wrap_i (by omega) (by omega)]
    exact hk _ w' o' rfl b0 b1 b2 b3 b9 hO' hm'
  rw [dispatcherlaw13_of_R3_eq]; unfold dispatcherlaw13_of_R3_F
  rw [a41, a0, a10, a9]
  refine caseC (fun q => ?_) (fun q => ?_)
  · have hc : x.ch = (k, f, t) := by rw [q] at hb; simpa using hb.symm
    rw [if_pos hc] at hrow
    refine ixMs h1 hx rfl fun _ => ?_
    refine app1 hO hm.size (by omega) fun _ o' w2 hO2 hm2 => ?_
    rw [← hrow] at hO2
    rw [bk_n, sq_n]
    exact nx _ w2 o' (by first | exact a10 | rfl) (by first | exact a0 | rfl) (by first | exact a1 | rfl) (by first | exact a2 | rfl) (by first | exact a3 | rfl) rfl hO2 (hm.then hm2 fun i hi z => by omega)
  · have hc : ¬ x.ch = (k, f, t) := by rw [q] at hb; simpa using hb.symm
    rw [if_neg hc, List.append_nil] at hrow
    rw [← hrow] at hO
    rw [bk_n, sq_n]
    exact nx _ w1 o a10 a0 a1 a2 a3 a9 hO hm
theorem of_ok {w : World} {v : Value} {l : List Ms} (h : MsRow w v l) (hl : l.length ≤ 1000000) (k : List UInt8) (f t : Int) : Rt Try.prog 30 #[v, strV k, .int .i64 f, .int .i64 t] w (RowP w (rowOf l (k, f, t))) := by
  refine dispatcherlaw13_of_calls ?_
  unfold dispatcherlaw13_of_F
  refine W_loop dispatcherlaw13_of_L0_ok (fun ρ w' => ∃ (i : Nat) (o : Value), i ≤ l.length ∧ ρ 10 = .int .i64 i ∧ ρ 0 = v ∧ ρ 1 = strV k ∧ ρ 2 = .int .i64 f ∧ ρ 3 = .int .i64 t ∧ ρ 9 = o ∧ w'.ownsRow w.heap.size tMs 8 o (rowOf (l.take i) (k, f, t)).length ((rowOf (l.take i) (k, f, t)).flatMap Ms.enc) ∧ Mod none_ w w') (fun ρ _ => l.length - (intOf (ρ 10)).toNat)
    ⟨0, .slice none 0 0, Nat.zero_le _, rfl, rfl, rfl, rfl, rfl, rfl, World.ownsRow_nil _ _ _ _, Mod.refl _ _⟩ ?_
  rintro ρ w1 ⟨i, o, hi, e10, e0, e1, e2, e3, e9, hO, hm⟩
  rw [dispatcherlaw13_of_L0_eq]; unfold dispatcherlaw13_of_L0_F
  obtain ⟨A, c, es, _⟩ := reads_cap h
  rw [e10, e0, e1, e2, e3, es, len_sl vMsS, ← es, BK_lss]
  by_cases hlt : i < l.length
  · rw [decide_eq_true (by omega)]
    refine condT ?_
    have hx : l[i]? = some l[i] := List.getElem?_eq_getElem hlt
    have etk : l.take (i + 1) = l.take i ++ [l[i]] := by rw [List.take_add_one, hx]; rfl
    generalize l[i] = x at *
    have h1 := h.calm hm
    have hrl := row_len (l.take i) (k, f, t)
    have htl : (l.take i).length ≤ i := by rw [List.length_take]; omega
    have fin : ∀ (ρ2 : Sl) (w' : World) (o' : Value), ρ2 10 = .int .i64 (i + 1 : Nat) → ρ2 0 = v → ρ2 1 = strV k → ρ2 2 = .int .i64 f → ρ2 3 = .int .i64 t → ρ2 9 = o' → w'.ownsRow w.heap.size tMs 8 o' (rowOf (l.take (i + 1)) (k, f, t)).length ((rowOf (l.take (i + 1)) (k, f, t)).flatMap Ms.enc) → Mod none_ w w' →
        (fun ρ w' => (∃ (i : Nat) (o : Value), i ≤ l.length ∧ ρ 10 = .int .i64 i ∧ ρ 0 = v ∧ ρ 1 = strV k ∧ ρ 2 = .int .i64 f ∧ ρ 3 = .int .i64 t ∧ ρ 9 = o ∧ w'.ownsRow w.heap.size tMs 8 o (rowOf (l.take i) (k, f, t)).length ((rowOf (l.take i) (k, f, t)).flatMap Ms.enc) ∧ Mod none_ w w') ∧ l.length - (intOf (ρ 10)).toNat < l.length - (intOf (.int .i64 (i : Int))).toNat) ρ2 w' := by
      intro ρ2 w' o' b10 b0 b1 b2 b3 b9 hO' hm'
      refine ⟨⟨i + 1, o', hlt, b10, b0, b1, b2, b3, b9, hO', hm'⟩, ?_⟩
      rw [b10]
      simp only [intOf]; omega
    refine ixF h1 hx rfl (show fieldOff Try.prog tMs 0 = some 0 by kernel_rfl) (ld1 vS rfl) (u := strV x.key) rfl fun _ _ => ?_
    rw [BK_eqlL]
    by_cases c0 : x.key = k
    · rw [decide_eq_true c0]
      simp only [↓VG_u, ↓UG_u, ↓MG_u, ↓NG_u, ↓PG_u, ↓BG_u, ↓CG_u, ↓IG_u, ↓VGtt, ↓VGtf, ↓VGft, ↓VGff, ↓UGtt, ↓UGtf, ↓UGft, ↓UGff, ↓MGtt, ↓MGtf, ↓MGft, ↓MGff, ↓NGtt, ↓NGtf, ↓NGft, ↓NGff, ↓PGtt, ↓PGtf, ↓PGft, ↓PGff, ↓BGtt, ↓BGtf, ↓BGft, ↓BGff, ↓CGtt, ↓CGtf, ↓CGft, ↓CGff, ↓IGtt, ↓IGtf, ↓IGft, ↓IGff, ↓PKt, ↓PKf, ↓CDt, ↓CDf, ↓NOTt, ↓NOTf, ↓NK_ptr]
      refine ixF h1 hx rfl (show fieldOff Try.prog tMs 1 = some 1 by kernel_rfl) (ld1 vI rfl) (u := .int .i64 x.frm) rfl fun _ _ => ?_
      try simp only [↓VG_u, ↓UG_u, ↓MG_u, ↓NG_u, ↓PG_u, ↓BG_u, ↓CG_u, ↓IG_u, ↓VGtt, ↓VGtf, ↓VGft, ↓VGff, ↓UGtt, ↓UGtf, ↓UGft, ↓UGff, ↓MGtt, ↓MGtf, ↓MGft, ↓MGff, ↓NGtt, ↓NGtf, ↓NGft, ↓NGff, ↓PGtt, ↓PGtf, ↓PGft, ↓PGff, ↓BGtt, ↓BGtf, ↓BGft, ↓BGff, ↓CGtt, ↓CGtf, ↓CGft, ↓CGff, ↓IGtt, ↓IGtf, ↓IGft, ↓IGff, ↓PKt, ↓PKf, ↓CDt, ↓CDf, ↓NOTt, ↓NOTf, ↓NK_ptr]
      by_cases c1 : x.frm = f
      · simp only [↓VG_u, ↓UG_u, ↓MG_u, ↓NG_u, ↓PG_u, ↓BG_u, ↓CG_u, ↓IG_u, ↓VGtt, ↓VGtf, ↓VGft, ↓VGff, ↓UGtt, ↓UGtf, ↓UGft, ↓UGff, ↓MGtt, ↓MGtf, ↓MGft, ↓MGff, ↓NGtt, ↓NGtf, ↓NGft, ↓NGff, ↓PGtt, ↓PGtf, ↓PGft, ↓PGff, ↓BGtt, ↓BGtf, ↓BGft, ↓BGff, ↓CGtt, ↓CGtf, ↓CGft, ↓CGff, ↓IGtt, ↓IGtf, ↓IGft, ↓IGff, ↓PKt, ↓PKf, ↓CDt, ↓CDf, ↓NOTt, ↓NOTf, ↓NK_ptr, ↓EQt c1]
        refine ixF h1 hx rfl (show fieldOff Try.prog tMs 2 = some 2 by kernel_rfl) (ld1 vI rfl) (u := .int .i64 x.to) rfl fun _ _ => ?_
        try simp only [↓VG_u, ↓UG_u, ↓MG_u, ↓NG_u, ↓PG_u, ↓BG_u, ↓CG_u, ↓IG_u, ↓VGtt, ↓VGtf, ↓VGft, ↓VGff, ↓UGtt, ↓UGtf, ↓UGft, ↓UGff, ↓MGtt, ↓MGtf, ↓MGft, ↓MGff, ↓NGtt, ↓NGtf, ↓NGft, ↓NGff, ↓PGtt, ↓PGtf, ↓PGft, ↓PGff, ↓BGtt, ↓BGtf, ↓BGft, ↓BGff, ↓CGtt, ↓CGtf, ↓CGft, ↓CGff, ↓IGtt, ↓IGtf, ↓IGft, ↓IGff, ↓PKt, ↓PKf, ↓CDt, ↓CDf, ↓NOTt, ↓NOTf, ↓NK_ptr]
        by_cases c2 : x.to = t
        · simp only [↓VG_u, ↓UG_u, ↓MG_u, ↓NG_u, ↓PG_u, ↓BG_u, ↓CG_u, ↓IG_u, ↓VGtt, ↓VGtf, ↓VGft, ↓VGff, ↓UGtt, ↓UGtf, ↓UGft, ↓UGff, ↓MGtt, ↓MGtf, ↓MGft, ↓MGff, ↓NGtt, ↓NGtf, ↓NGft, ↓NGff, ↓PGtt, ↓PGtf, ↓PGft, ↓PGff, ↓BGtt, ↓BGtf, ↓BGft, ↓BGff, ↓CGtt, ↓CGtf, ↓CGft, ↓CGff, ↓IGtt, ↓IGtf, ↓IGft, ↓IGff, ↓PKt, ↓PKf, ↓CDt, ↓CDf, ↓NOTt, ↓NOTf, ↓NK_ptr, ↓EQt c2]
          exact of_R3 (b := true) h1 hl hx hO hm (by simp [Ms.ch, c0, c1, c2]) rfl (by first | exact e10 | rfl) (by first | exact e0 | rfl) (by first | exact e1 | rfl) (by first | exact e2 | rfl) (by first | exact e3 | rfl) (by first | exact e9 | rfl) fin
        · simp only [↓VG_u, ↓UG_u, ↓MG_u, ↓NG_u, ↓PG_u, ↓BG_u, ↓CG_u, ↓IG_u, ↓VGtt, ↓VGtf, ↓VGft, ↓VGff, ↓UGtt, ↓UGtf, ↓UGft, ↓UGff, ↓MGtt, ↓MGtf, ↓MGft, ↓MGff, ↓NGtt, ↓NGtf, ↓NGft, ↓NGff, ↓PGtt, ↓PGtf, ↓PGft, ↓PGff, ↓BGtt, ↓BGtf, ↓BGft, ↓BGff, ↓CGtt, ↓CGtf, ↓CGft, ↓CGff, ↓IGtt, ↓IGtf, ↓IGft, ↓IGff, ↓PKt, ↓PKf, ↓CDt, ↓CDf, ↓NOTt, ↓NOTf, ↓NK_ptr, ↓EQf c2]
          exact of_R3 (b := false) h1 hl hx hO hm (by simp [Ms.ch, c2]) rfl (by first | exact e10 | rfl) (by first | exact e0 | rfl) (by first | exact e1 | rfl) (by first | exact e2 | rfl) (by first | exact e3 | rfl) (by first | exact e9 | rfl) fin
      · simp only [↓VG_u, ↓UG_u, ↓MG_u, ↓NG_u, ↓PG_u, ↓BG_u, ↓CG_u, ↓IG_u, ↓VGtt, ↓VGtf, ↓VGft, ↓VGff, ↓UGtt, ↓UGtf, ↓UGft, ↓UGff, ↓MGtt, ↓MGtf, ↓MGft, ↓MGff, ↓NGtt, ↓NGtf, ↓NGft, ↓NGff, ↓PGtt, ↓PGtf, ↓PGft, ↓PGff, ↓BGtt, ↓BGtf, ↓BGft, ↓BGff, ↓CGtt, ↓CGtf, ↓CGft, ↓CGff, ↓IGtt, ↓IGtf, ↓IGft, ↓IGff, ↓PKt, ↓PKf, ↓CDt, ↓CDf, ↓NOTt, ↓NOTf, ↓NK_ptr, ↓EQf c1]
        exact of_R3 (b := false) h1 hl hx hO hm (by simp [Ms.ch, c1]) rfl (by first | exact e10 | rfl) (by first | exact e0 | rfl) (by first | exact e1 | rfl) (by first | exact e2 | rfl) (by first | exact e3 | rfl) (by first | exact e9 | rfl) fin
    · rw [decide_eq_false c0]
      simp only [↓VG_u, ↓UG_u, ↓MG_u, ↓NG_u, ↓PG_u, ↓BG_u, ↓CG_u, ↓IG_u, ↓VGtt, ↓VGtf, ↓VGft, ↓VGff, ↓UGtt, ↓UGtf, ↓UGft, ↓UGff, ↓MGtt, ↓MGtf, ↓MGft, ↓MGff, ↓NGtt, ↓NGtf, ↓NGft, ↓NGff, ↓PGtt, ↓PGtf, ↓PGft, ↓PGff, ↓BGtt, ↓BGtf, ↓BGft, ↓BGff, ↓CGtt, ↓CGtf, ↓CGft, ↓CGff, ↓IGtt, ↓IGtf, ↓IGft, ↓IGff, ↓PKt, ↓PKf, ↓CDt, ↓CDf, ↓NOTt, ↓NOTf, ↓NK_ptr]
      exact of_R3 (b := false) h1 hl hx hO hm (by simp [Ms.ch, c0]) rfl (by first | exact e10 | rfl) (by first | exact e0 | rfl) (by first | exact e1 | rfl) (by first | exact e2 | rfl) (by first | exact e3 | rfl) (by first | exact e9 | rfl) fin
  · obtain rfl : i = l.length := by omega
    rw [decide_eq_false (by omega)]
    refine condF ?_
    rw [sq_x, bk_x, sq_n, dispatcherlaw13_of_R1_eq]; unfold dispatcherlaw13_of_R1_F
    rw [List.take_length] at hO
    refine ⟨?_, hm⟩
    show w1.ownsRow _ _ _ (ρ 9) _ _
    rw [e9]; exact hO
end Go.Proofs.Ytnaoiekpfaganaa.Que
set_option linter.unusedVariables false
set_option linter.unusedSimpArgs false
set_option maxRecDepth 4000
namespace Go.Proofs.Ytnaoiekpfaganaa.Que
open Go Go.X Go.RowKit Go.Proofs.Ytnaoiekpfaganaa.XF Go.Proofs.Ytnaoiekpfaganaa.XK
section
variable {w w0 : World} {p : Nat} {l : List Ms} {V : QV}
end
end Go.Proofs.Ytnaoiekpfaganaa.Que
set_option linter.unusedVariables false
set_option linter.unusedSimpArgs false
set_option maxRecDepth 4000
namespace Go.Proofs.Ytnaoiekpfaganaa.Que
open Go Go.X Go.RowKit Go.Proofs.Ytnaoiekpfaganaa.XF Go.Proofs.Ytnaoiekpfaganaa.XK
theorem vU8 : Try.prog.underlying 5 = some (.int .u8) := by kernel_rfl
theorem ld_act {w : World} {K : Value → World → Prop} {a : Addr} {e : Ac} (ha : ∀ j u, e.enc[j]? = some u → w.cell? (a.add j) = some u) (hk : K (.agg e.m.enc.toArray) w) : VK Try.prog (Instr.loadAt tMs (.pointer (some (a.add 1)))) w K := by
  refine VK_of (run_ldA (cs := e.m.enc) Try.underlying31 rfl (by rw [iMs]; rfl) fun j u hu => ?_) hk
  rw [add_add, show 1 + j = j + 1 by omega]
  exact ha (j + 1) u hu
end Go.Proofs.Ytnaoiekpfaganaa.Que
set_option linter.unusedVariables false
set_option linter.unusedSimpArgs false
set_option maxRecDepth 8000
namespace Go.X
open Go Go.RowKit
theorem stab_row {ls S : List Ms} (h : Stab ltM (ls.filter nt) S) (k : List UInt8) (f t : Int) : rowOf S (k, f, t) = (rowOf ls (k, f, t)).filter nt := by
  have := h.eq ⟨k, f, t, 0, 0, 0, 0, false⟩
  rw [eqv_filter, eqv_filter] at this
  unfold rowOf
  refine Eq.trans this ?_
  rw [List.filter_filter, List.filter_filter]
  refine List.filter_congr fun m _ => ?_
  rw [Bool.and_comm]
  rfl
structure S7 (ρ ρ' : Sl) : Prop where
  s0 : ρ' 0 = ρ 0
  s1 : ρ' 1 = ρ 1
  s2 : ρ' 2 = ρ 2
  s3 : ρ' 3 = ρ 3
  s4 : ρ' 4 = ρ 4
  s11 : ρ' 11 = ρ 11
  s12 : ρ' 12 = ρ 12
theorem S7.trans {a b c : Sl} (h : S7 a b) (k : S7 b c) : S7 a c := ⟨k.s0.trans h.s0, k.s1.trans h.s1, k.s2.trans h.s2, k.s3.trans h.s3, k.s4.trans h.s4, k.s11.trans h.s11, k.s12.trans h.s12⟩
end Go.X
namespace Go.Proofs.Ytnaoiekpfaganaa.Que
open Go Go.X Go.RowKit Go.Proofs.Ytnaoiekpfaganaa.XF Go.Proofs.Ytnaoiekpfaganaa.XK
theorem msb_get (o : Option Ms) : msb o = .tuple #[.agg (o.getD zMs).enc.toArray, .bool o.isSome] := by cases o <;> rfl
section
variable {w : World} {p : Nat} {V : QV} {ls ls' S : List Ms} {k : List UInt8} {f t tag : Int}
end
end Go.Proofs.Ytnaoiekpfaganaa.Que
set_option linter.unusedVariables false
set_option linter.unusedSimpArgs false
set_option maxRecDepth 8000
namespace Go.Proofs.Ytnaoiekpfaganaa.Que
open Go Go.X Go.RowKit Go.Proofs.Ytnaoiekpfaganaa.XF Go.Proofs.Ytnaoiekpfaganaa.XK
section
variable {w w0 : World} {p : Nat} {V : QV} {ls S : List Ms} {k : List UInt8} {f t tag : Int}
theorem QFr.none {w' : World} {V' : QV} (h : QFr p w V w' V') (h0 : Mod none_ w0 w) (hF : ∀ b, V.F p b → w0.heap.size ≤ b) : Mod none_ w0 w' ∧ ∀ b, V'.F p b → w0.heap.size ≤ b := by
  have hs := h0.size
  refine ⟨h0.then h.mod fun i hi z => by have := hF i z; omega, fun b z => ?_⟩
  rcases h.f b z with y | y
  · exact hF b y
  · omega
end
end Go.Proofs.Ytnaoiekpfaganaa.Que
set_option linter.unusedVariables false
set_option linter.unusedSimpArgs false
set_option maxRecDepth 4000
namespace Go.X
open Go Go.RowKit
theorem send_cases (l : List Ms) (m : Ms) : sendV l m = (l, 2) ∨ sendV l m = (l ++ [m], 0) ∧ m.taken = false := by
  unfold sendV
  split
  · exact .inl rfl
  · rename_i hb
    refine .inr ⟨rfl, ?_⟩
    cases ht : m.taken with
    | false => rfl
    | true => simp [badM, ht] at hb
theorem take_cases {l : List Ms} (hu : l.Pairwise fun a b => ¬ (a.frm = b.frm ∧ a.call = b.call)) (f c : Int) :
    (takeV l f c = (l, 2) ∧ ((l.find? (Ms.isAt f c)) = none ∨ ∃ x, l.find? (Ms.isAt f c) = some x ∧ x.taken = true)) ∨ ∃ x, l.find? (Ms.isAt f c) = some x ∧ x.taken = false ∧ (takeV l f c).2 = 0 ∧ ((takeV l f c).1.filter nt).length + 1 = (l.filter nt).length := by
  unfold takeV
  cases hq : l.find? (Ms.isAt f c) with
  | none => exact .inl ⟨rfl, .inl rfl⟩
  | some x =>
    dsimp only
    cases ht : x.taken with
    | true => exact .inl ⟨by simp, .inr ⟨x, rfl, ht⟩⟩
    | false =>
      refine .inr ⟨x, rfl, ht, by simp, ?_⟩
      simp only [Bool.false_eq_true, if_false]
      obtain ⟨hp, xs, ys, rfl, has⟩ := List.find?_eq_some_iff_append.1 hq
      rw [all_set hu hp (j := xs.length) (by simp)]
      rw [List.set_append_right _ _ (Nat.le_refl _), Nat.sub_self, List.set_cons_zero, List.filter_append, List.filter_append]
      rw [List.filter_cons_of_neg (by simp [nt]), List.filter_cons_of_pos (by simp [nt, ht])]
      simp only [List.length_append, List.length_cons]
      omega
section
variable {ls S : List Ms} {m : Ms} {i : Nat}
theorem left_mem (h : Stab ltM (ls.filter nt) S) (hm : S[i]? = some m) : m ∈ ls ∧ m.taken = false := by
  have := (Stab.mem ltM_wo h).1 (List.mem_of_getElem? hm)
  have h2 := List.mem_filter.1 this
  exact ⟨h2.1, by simpa [nt] using h2.2⟩
theorem left_find (hu : ls.Pairwise fun a b => ¬ (a.frm = b.frm ∧ a.call = b.call)) (hm : m ∈ ls) : ls.find? (Ms.isAt m.frm m.call) = some m := by
  cases hq : ls.find? (Ms.isAt m.frm m.call) with
  | none => exact absurd (isAt_iff.2 ⟨rfl, rfl⟩) (List.find?_eq_none.1 hq m hm)
  | some x =>
    obtain ⟨a, b⟩ := isAt_iff.1 (List.find?_some hq)
    rw [uniq_mem hu (List.mem_of_find?_eq_some hq) hm a b]
theorem left_uniq (hu : ls.Pairwise fun a b => ¬ (a.frm = b.frm ∧ a.call = b.call)) (h : Stab ltM (ls.filter nt) S) : S.Pairwise fun a b => ¬ (a.frm = b.frm ∧ a.call = b.call) := by
  refine List.pairwise_iff_getElem.2 fun i j hi hj hij z => ?_
  have hsi : S[i]? = some S[i] := List.getElem?_eq_getElem hi
  have hsj : S[j]? = some S[j] := List.getElem?_eq_getElem hj
  have he := uniq_mem hu (left_mem h hsi).1 (left_mem h hsj).1 z.1 z.2
  have hp : (S.filter (eqv ltM S[j])).Pairwise fun a b => ¬ (a.frm = b.frm ∧ a.call = b.call) := by
    rw [h.eq]; exact (hu.filter _).filter _
  have hd : S = S.take j ++ S[j] :: S.drop (j + 1) := by rw [← List.drop_eq_getElem_cons hj, List.take_append_drop]
  have hin : S[j] ∈ S.take j := by rw [← he]; exact List.mem_take_iff_getElem.2 ⟨i, by omega, rfl⟩
  generalize S[j] = y at *
  rw [hd, List.filter_append, List.filter_cons_of_pos (eqv_refl ltM_wo y)] at hp
  exact (List.pairwise_append.1 hp).2.2 y (List.mem_filter.2 ⟨hin, eqv_refl ltM_wo y⟩) y List.mem_cons_self ⟨rfl, rfl⟩
theorem cancel_at {α : Type} {m : α} : ∀ {A C B D : List α}, A ++ m :: B = C ++ m :: D → m ∉ A → m ∉ C → A = C
  | [], [], _, _, _, _, _ => rfl
  | [], c :: C, _, _, h, _, h2 => by
    simp only [List.nil_append, List.cons_append, List.cons.injEq] at h
    exact absurd (by rw [h.1]; exact List.mem_cons_self) h2
  | a :: A, [], _, _, h, h1, _ => by
    simp only [List.nil_append, List.cons_append, List.cons.injEq] at h
    exact absurd (by rw [h.1]; exact List.mem_cons_self) h1
  | a :: A, c :: C, _, _, h, h1, h2 => by
    simp only [List.cons_append, List.cons.injEq] at h
    rw [h.1, cancel_at h.2 (fun q => h1 (List.mem_cons_of_mem _ q)) (fun q => h2 (List.mem_cons_of_mem _ q))]
theorem left_ahead (hu : ls.Pairwise fun a b => ¬ (a.frm = b.frm ∧ a.call = b.call)) (h : Stab ltM (ls.filter nt) S) (hm : S[i]? = some m) : aheadV ls m.frm m.call = rowOf (S.take i) m.ch := by
  obtain ⟨hml, hmt⟩ := left_mem h hm
  have hf := left_find hu hml
  unfold aheadV
  rw [hf]
  dsimp only
  obtain ⟨hp, xs, ys, hls, has⟩ := List.find?_eq_some_iff_append.1 hf
  have e1 : ls.takeWhile (fun x => !x.isAt m.frm m.call) = xs := by
    rw [hls, List.takeWhile_append_of_pos has, List.takeWhile_cons_of_neg (by simp [hp]), List.append_nil]
  rw [e1]
  have hil := (List.getElem?_eq_some_iff.1 hm).1
  have hS : S = S.take i ++ m :: S.drop (i + 1) := by
    have := (List.getElem?_eq_some_iff.1 hm).2
    conv => lhs; rw [← List.take_append_drop i S, List.drop_eq_getElem_cons hil, this]
  have hr := stab_row h m.key m.frm m.to
  rw [show ((m.key, m.frm, m.to) : Ch) = m.ch from rfl] at hr
  have hus := left_uniq hu h
  have r1 : rowOf S m.ch = rowOf (S.take i) m.ch ++ m :: rowOf (S.drop (i + 1)) m.ch := by
    conv => lhs; rw [hS]
    unfold rowOf; simp
  have r2 : (rowOf ls m.ch).filter nt = (rowOf xs m.ch).filter nt ++ m :: (rowOf ys m.ch).filter nt := by
    rw [hls]; unfold rowOf; simp [nt, hmt]
  rw [r1, r2] at hr
  refine (cancel_at hr (fun q => ?_) (fun q => ?_)).symm
  · rw [hS] at hus
    exact (List.pairwise_append.1 hus).2.2 m (mem_row.1 q).1 m List.mem_cons_self ⟨rfl, rfl⟩
  · have := has m (mem_row.1 (List.mem_filter.1 q).1).1
    rw [hp] at this; cases this
theorem left_sent (hg : FrmOk ls) (hml : m ∈ ls) (hmt : m.taken = false) : m.frm ∈ sendersV ls m.key m.to := by
  unfold sendersV
  rw [List.mem_filter, List.mem_map]
  have := hg m hml
  refine ⟨⟨m.frm.toNat, List.mem_range.2 (by omega), by omega⟩, ?_⟩
  unfold sentBy
  exact List.any_eq_true.2 ⟨m, hml, by simp [nt, hmt, Ms.ch]⟩
end
end Go.X
set_option linter.unusedVariables false
set_option linter.unusedSimpArgs false
set_option maxRecDepth 8000
namespace Go.Proofs.Ytnaoiekpfaganaa.Que
open Go Go.X Go.RowKit Go.Proofs.Ytnaoiekpfaganaa.XF Go.Proofs.Ytnaoiekpfaganaa.XK
theorem Qnot {C : World → Prop} {K : Value → Prop} {b : Bool} (hk : K (.bool (!b))) : QK Try.prog C (do pure (Next.value (← Op.unary .not (.bool b)))) K := QV_of (fun w _ => rfl) hk
theorem own_fld {w : World} {v : Value} {l : List Ms} {B i k : Nat} {m : Ms} {u : Value} (h : w.ownsRow B tMs 8 v l.length (l.flatMap Ms.enc)) (hi : l[i]? = some m) (hu : m.enc[k]? = some u) : ∃ a, (∀ w', (Instr.indexAt tMsS v (.int .i64 (i : Int))).run Try.prog w' = .ok (.pointer (some a)) w') ∧ ∀ w', Mod none_ w w' → w'.cell? (a.add k) = some u := by
  have hil := (List.getElem?_eq_some_iff.1 hi).1
  obtain ⟨g, cap, ev, _⟩ := owns_some h (by omega)
  subst ev
  have hD : Dat w g cap l := owns_base h (Nat.zero_le _)
  refine ⟨⟨g, i * 8, none⟩, fun w' => Dat.ix rfl hil w', fun w' hw => ?_⟩
  obtain ⟨_, A, cc, es, _, hr⟩ := reads_of_owns (hD.calm hw)
  cases es
  have hk8 : k < 7 + 1 := (List.getElem?_eq_some_iff.1 hu).1
  obtain ⟨a, ha, hc⟩ := hr (i * (7 + 1) + k) u (by rw [fl_get (k := 7 + 1) Ms.enc_len hi hk8]; exact hu)
  cases ha
  rw [add_pl] at hc ⊢
  simpa using hc
section
variable {w : World} {p : Nat} {V : QV} {ls S : List Ms} {m : Ms} {i b12 : Nat} {u : Value} {B : Nat}
theorem left_R6 {b13 : Nat} {K : Exit → Sl → World → Prop} {ρ : Sl} (hb12 : w.heap[b12]? = some (.cells m.enc.toArray tMs (0, 0))) (hb13 : w.heap[b13]? = some (.cells m.enc.toArray tMs (0, 0))) (hmt : m.taken = false) (hO : w.ownsRow B tMs 8 u S.length (S.flatMap Ms.enc)) (hus : S.Pairwise fun a b => ¬ (a.frm = b.frm ∧ a.call = b.call)) (hm : S[i]? = some m) (hSl : S.length ≤ 500000)
    (e12 : ρ 12 = .pointer (some ⟨b12, 0, none⟩)) (e13 : ρ 13 = .pointer (some ⟨b13, 0, none⟩)) (e14 : ρ 14 = .bool true) (e10 : ρ 10 = u) (e11 : ρ 11 = .int .i64 i)
    (hk : ∀ (ρ' : Sl) (w' : World), ρ' 0 = ρ 0 → ρ' 3 = ρ 3 → ρ' 10 = ρ 10 → ρ' 11 = ρ 11 → ρ' 12 = ρ 12 → ρ' 137 = .bool false → Mod none_ w w' → K .normal ρ' w') : W fn_ Try.prog 180 dispatcherlaw13_QueueLeft_R6 K ρ w := by
  have hil := (List.getElem?_eq_some_iff.1 hm).1
  refine dispatcherlaw13_QueueLeft_R6_quiet (D := []) (fun w' => Mod none_ w w') ((Mod.refl _ w).drawn _) ?_
  unfold dispatcherlaw13_QueueLeft_R6_Q
  rw [e14, e12, e13, e10, e11]
  have fld : ∀ {i off : Nat} {bl : Nat} (h : fieldOff Try.prog tMs i = some off) (w' : World), (Instr.fieldAt tMs (.pointer (some ⟨bl, 0, none⟩)) i).run Try.prog w' = .ok (.pointer (some ⟨bl, off, none⟩)) w' := fun h w' => by rw [run_fo h, add_pl, Nat.zero_add]
  refine Qnot ?_
  rw [Bool.not_true, QG_b, if_pos rfl]
  refine QV_of (v := .agg m.enc.toArray) (fun w' hw => run_ldB Try.underlying31 rfl (by rw [iMs]; rfl) (hw.blk hb13 id)) ?_
  rw [QG_b, if_pos rfl]
  refine QV_of (v := .agg m.enc.toArray) (fun w' hw => run_ldB Try.underlying31 rfl (by rw [iMs]; rfl) (hw.blk hb12 id)) ?_
  rw [QG_b, if_pos rfl]
  refine QB_of (v := .bool (!decide (m = m))) (fun w => run_eqGuard_agg w .neq _ _ _ _ _ gMs) (fun w => rMsN _ _ w) ?_
  rw [decide_eq_true rfl, Bool.not_true]
  refine QP_of ?_
  rw [if_neg (by decide), QG_b, if_pos rfl]
  refine QV_of (fun w' _ => fld (off := 7) (by kernel_rfl) w') ?_
  rw [QG_b, if_pos rfl]
  refine QV_of (v := .bool m.taken) (fun w' hw => run_ld1 vB rfl (by rw [cell_blk (hw.blk hb12 id)]; rfl)) ?_
  rw [hmt]
  refine QP_of ?_
  rw [if_neg (by decide), QG_b, if_pos rfl]
  refine QM ?_
  rw [QG_b, if_pos rfl]
  refine Qgtr ?_
  rcases Nat.eq_zero_or_pos i with rfl | hpos
  · rw [decide_eq_false (by omega), QG_b, if_pos rfl]
    refine QM ?_
    repeat rw [QG_b, if_neg (by decide)]
    simp only [QG_b, QG_u, Bool.false_eq_true, if_false, if_true]
    refine QP_of ?_
    rw [if_neg (by decide)]
    refine QP_of ?_
    rw [if_neg (by decide)]
    intro w' hw
    exact hk _ w' rfl rfl (by first | rfl | exact e10.symm) (by first | rfl | exact e11.symm) (by first | rfl | exact e12.symm) rfl hw
  · obtain ⟨i', rfl⟩ : ∃ i', i = i' + 1 := ⟨i - 1, by omega⟩
    have hy : S[i']? = some S[i'] := List.getElem?_eq_getElem (by omega)
    have hyu : ¬ (S[i'].frm = m.frm ∧ S[i'].call = m.call) := by
      have := List.pairwise_iff_getElem.1 hus i' (i' + 1) (by omega) hil (by omega)
      rwa [(List.getElem?_eq_some_iff.1 hm).2] at this
    generalize S[i'] = y at *
    obtain ⟨a1, r1, c1⟩ := own_fld hO hy (k := 1) (u := .int .i64 y.frm) rfl
    obtain ⟨a3, r3, c3⟩ := own_fld hO hy (k := 3) (u := .int .i64 y.call) rfl
    have hsub : ((i' + 1 : Nat) : Int) - 1 = (i' : Int) := by omega
    rw [decide_eq_true (by omega), QG_b, if_pos rfl]
    refine QM ?_
    rw [QG_b, if_pos rfl]
    refine QM ?_
    rw [QG_b, if_pos rfl]
    refine QM ?_
    rw [QG_b, if_pos rfl]
    refine Qsub ?_
    rw [hsub, wrap_i (by omega) (by omega), QG_b, if_pos rfl]
    refine QV_of (fun w' _ => r1 w') ?_
    rw [QG_b, if_pos rfl]
    refine Qfo (off := 1) (by kernel_rfl) ?_
    rw [QG_b, if_pos rfl]
    refine Qld (v := .int .i64 y.frm) vI rfl (fun w' hw => c1 w' hw) ?_
    rw [QG_b, if_pos rfl]
    refine QV_of (fun w' _ => fld (off := 1) (by kernel_rfl) w') ?_
    rw [QG_b, if_pos rfl]
    refine QV_of (v := .int .i64 m.frm) (fun w' hw => run_ld1 vI rfl (by rw [cell_blk (hw.blk hb12 id)]; rfl)) ?_
    rw [QG_b, if_pos rfl]
    refine Qeql ?_
    rw [QG_b, if_pos rfl]
    refine QM ?_
    by_cases hf : y.frm = m.frm
    · have hc : ¬ y.call = m.call := fun z => hyu ⟨hf, z⟩
      rw [show (y.frm == m.frm) = true by simpa using hf, QG_b, if_pos rfl]
      refine QM ?_
      rw [QG_b, if_pos rfl]
      refine QM ?_
      rw [QG_b, if_pos rfl]
      refine Qsub ?_
      rw [hsub, wrap_i (by omega) (by omega), QG_b, if_pos rfl]
      refine QV_of (fun w' _ => r3 w') ?_
      rw [QG_b, if_pos rfl]
      refine Qfo (off := 3) (by kernel_rfl) ?_
      rw [QG_b, if_pos rfl]
      refine Qld (v := .int .i64 y.call) vI rfl (fun w' hw => c3 w' hw) ?_
      rw [QG_b, if_pos rfl]
      refine QV_of (fun w' _ => fld (off := 3) (by kernel_rfl) w') ?_
      rw [QG_b, if_pos rfl]
      refine QV_of (v := .int .i64 m.call) (fun w' hw => run_ld1 vI rfl (by rw [cell_blk (hw.blk hb12 id)]; rfl)) ?_
      rw [QG_b, if_pos rfl]
      refine Qeql ?_
      rw [show (y.call == m.call) = false by simpa using hc, QG_b, if_pos rfl]
      refine QP_of ?_
      rw [if_pos rfl, QG_b, if_pos rfl]
      refine QP_of ?_
      rw [if_pos rfl]
      refine QP_of ?_
      rw [if_neg (by decide)]
      intro w' hw
      exact hk _ w' rfl rfl (by first | rfl | exact e10.symm) (by first | rfl | exact e11.symm) (by first | rfl | exact e12.symm) rfl hw
    · rw [show (y.frm == m.frm) = false by simpa using hf]
      simp only [QG_b, QG_u, Bool.false_eq_true, Bool.true_eq_false, if_false, if_true]
      refine QP_of ?_
      rw [if_neg (by decide)]
      refine QP_of ?_
      rw [if_pos rfl]
      refine QP_of ?_
      rw [if_neg (by decide)]
      intro w' hw
      exact hk _ w' rfl rfl (by first | rfl | exact e10.symm) (by first | rfl | exact e11.symm) (by first | rfl | exact e12.symm) rfl hw
theorem left_L10 {K : Exit → Sl → World → Prop} {ρ : Sl} {s : Value} {out : List Int} {B' : Nat} (hb12 : w.heap[b12]? = some (.cells m.enc.toArray tMs (0, 0))) (hs : w.ownsRow B' tI 1 s out.length (ints out)) (hl : out.length ≤ 100000)
    (e12 : ρ 12 = .pointer (some ⟨b12, 0, none⟩)) (e15 : ρ 15 = s) (e16 : ρ 16 = .bool false) (e17 : ρ 17 = .int .i64 0)
    (hk : ∀ (ρ' : Sl) (w' : World), ρ' 0 = ρ 0 → ρ' 3 = ρ 3 → ρ' 10 = ρ 10 → ρ' 11 = ρ 11 → ρ' 12 = ρ 12 → ρ' 16 = .bool (decide (m.frm ∈ out)) → Mod none_ w w' → K (.exit 4) ρ' w') : W fn_ Try.prog 180 (Code.loop dispatcherlaw13_QueueLeft_L10) K ρ w := by
  refine W_loop dispatcherlaw13_QueueLeft_L10_ok (fun ρ' w' => ∃ j : Nat, j ≤ out.length ∧ ρ' 17 = .int .i64 j ∧ ρ' 16 = .bool (decide (m.frm ∈ out.take j)) ∧ ρ' 15 = s ∧ ρ' 0 = ρ 0 ∧ ρ' 3 = ρ 3 ∧ ρ' 10 = ρ 10 ∧ ρ' 11 = ρ 11 ∧ ρ' 12 = ρ 12 ∧ Mod none_ w w') (fun ρ' _ => out.length - (intOf (ρ' 17)).toNat)
    ⟨0, Nat.zero_le _, e17, by rw [e16]; simp, e15, rfl, rfl, rfl, rfl, rfl, Mod.refl _ _⟩ ?_
  rintro ρ' w1 ⟨j, hj, a17, a16, a15, a0, a3, a10, a11, a12, hm1⟩
  rw [dispatcherlaw13_QueueLeft_L10_eq]; unfold dispatcherlaw13_QueueLeft_L10_F
  obtain ⟨A, c, es, _⟩ := reads_cap (reads_of_owns hs)
  rw [a17, a15, es, len_sl vIs, ← es, BK_lss]
  by_cases hlt : j < out.length
  · rw [decide_eq_true (by omega)]
    refine condT ?_
    have hx : out[j]? = some out[j] := List.getElem?_eq_getElem hlt
    have etk : out.take (j + 1) = out.take j ++ [out[j]] := by rw [List.take_add_one, hx]; rfl
    generalize out[j] = x at *
    obtain ⟨ap, ra, la⟩ := ixI hs hx
    have hmem : decide (m.frm ∈ out.take (j + 1)) = (decide (m.frm ∈ out.take j) || (x == m.frm)) := by
      rw [etk]
      rw [Bool.eq_iff_iff]
      simp only [decide_eq_true_iff, Bool.or_eq_true, List.mem_append, List.mem_singleton, beq_iff_eq]
      exact or_congr Iff.rfl eq_comm
    refine dispatcherlaw13_QueueLeft_R12_quiet (D := []) (fun w' => Mod none_ w w') (hm1.trans ((Mod.refl _ w1).drawn _)) ?_
    have fld : ∀ {i off : Nat} {bl : Nat} (h : fieldOff Try.prog tMs i = some off) (w' : World), (Instr.fieldAt tMs (.pointer (some ⟨bl, 0, none⟩)) i).run Try.prog w' = .ok (.pointer (some ⟨bl, off, none⟩)) w' := fun h w' => by rw [run_fo h, add_pl, Nat.zero_add]
    have key : ∀ (ρ2 : Sl) (K : Exit → Sl → World → Prop) (b : Bool), ρ2 16 = .bool b → ρ2 15 = s → ρ2 17 = .int .i64 j → ρ2 12 = .pointer (some ⟨b12, 0, none⟩) →
        (∀ (ρ3 : Sl) (w' : World), ρ3 0 = ρ2 0 → ρ3 3 = ρ2 3 → ρ3 10 = ρ2 10 → ρ3 11 = ρ2 11 → ρ3 12 = ρ2 12 → ρ3 15 = ρ2 15 → ρ3 17 = ρ2 17 → ρ3 16 = .bool (b || (x == m.frm)) → Mod none_ w w' → K .normal ρ3 w') → dispatcherlaw13_QueueLeft_R12_Q (fun w' => Mod none_ w w') K ρ2 := by
      intro ρ2 K b q16 q15 q17 q12 hK
      unfold dispatcherlaw13_QueueLeft_R12_Q
      rw [q16, q15, q17, q12]
      cases b with
      | true =>
        simp only [QG_b, QG_u, Bool.false_eq_true, Bool.true_eq_false, if_false, if_true]
        refine QP_of ?_
        rw [if_pos rfl]
        intro w' hw
        exact hK _ w' rfl rfl rfl rfl (by first | rfl | exact q12.symm) (by first | rfl | exact q15.symm) (by first | rfl | exact q17.symm) rfl hw
      | false =>
        rw [QG_b, if_pos rfl]
        refine QM ?_
        rw [QG_b, if_pos rfl]
        refine QM ?_
        rw [QG_b, if_pos rfl]
        refine QV_of (fun w' _ => ra w') ?_
        rw [QG_b, if_pos rfl]
        refine QV_of (fun w' hw => la w' hw) ?_
        rw [QG_b, if_pos rfl]
        refine QV_of (fun w' _ => fld (off := 1) (by kernel_rfl) w') ?_
        rw [QG_b, if_pos rfl]
        refine QV_of (v := .int .i64 m.frm) (fun w' hw => run_ld1 vI rfl (by rw [cell_blk (hw.blk hb12 id)]; rfl)) ?_
        rw [QG_b, if_pos rfl]
        refine Qeql ?_
        refine QP_of ?_
        rw [if_neg (by decide)]
        intro w' hw
        exact hK _ w' rfl rfl rfl rfl (by first | rfl | exact q12.symm) (by first | rfl | exact q15.symm) (by first | rfl | exact q17.symm) rfl hw
    refine key _ _ _ (by first | exact a16 | rfl) (by first | exact a15 | rfl) (by first | exact a17 | rfl) (by first | exact a12.trans e12 | rfl) ?_
    intro ρ3 w' z0 z3 z10 z11 z12 z15 z17 z16 hw
    rw [bk_n, sq_n, dispatcherlaw13_QueueLeft_R13_eq]; unfold dispatcherlaw13_QueueLeft_R13_F
    rw [z17.trans (by first | exact a17 | rfl), BK_add, wrap_i (by omega) (by omega)]
    refine ⟨⟨j + 1, hlt, rfl, z16.trans (by rw [hmem]), z15.trans (by first | exact a15 | rfl), z0.trans (by first | exact a0 | rfl), z3.trans (by first | exact a3 | rfl), z10.trans (by first | exact a10 | rfl), z11.trans (by first | exact a11 | rfl), z12.trans (by first | exact a12 | rfl), hw⟩, ?_⟩
    simp only [sq_n, sq_x, sq_r, bk_n, bk_r, bk_x, rt_r, rt_n, rs_0, rs_t, pk_1, pk_2, up_at, reduceIte, Nat.reduceEqDiff, intOf]; omega
  · obtain rfl : j = out.length := by omega
    rw [decide_eq_false (by omega)]
    refine condF ?_
    rw [List.take_length] at a16
    exact hk _ w1 (by first | exact a0 | rfl) (by first | exact a3 | rfl) (by first | exact a10 | rfl) (by first | exact a11 | rfl) (by first | exact a12 | rfl) (by first | exact a16 | rfl) hm1
end
end Go.Proofs.Ytnaoiekpfaganaa.Que
set_option linter.unusedVariables false
set_option linter.unusedSimpArgs false
set_option maxRecDepth 8000
namespace Go.Proofs.Ytnaoiekpfaganaa.Que
open Go Go.X Go.RowKit Go.Proofs.Ytnaoiekpfaganaa.XF Go.Proofs.Ytnaoiekpfaganaa.XK
section
variable {w : World} {p : Nat} {V : QV} {ls S : List Ms} {m : Ms} {i b12 : Nat} {u : Value} {B : Nat}
theorem left_R11 {K : Exit → Sl → World → Prop} {ρ : Sl} (h : QAt w p ls V) (hL : ls.length ≤ 400000) (hS : Stab ltM (ls.filter nt) S) (hSl : S.length ≤ 400000) (hm : S[i]? = some m) (hb12 : w.heap[b12]? = some (.cells m.enc.toArray tMs (0, 0))) (hO : w.ownsRow B tMs 8 u S.length (S.flatMap Ms.enc))
    (e3 : ρ 3 = .pointer (some ⟨p, 0, none⟩)) (e10 : ρ 10 = u) (e11 : ρ 11 = .int .i64 i) (e12 : ρ 12 = .pointer (some ⟨b12, 0, none⟩)) (e16 : ρ 16 = .bool true)
    (hk : ∀ (ρ' : Sl) (w' : World), ρ' 0 = ρ 0 → ρ' 3 = ρ 3 → ρ' 10 = ρ 10 → ρ' 11 = ρ 11 → Mod none_ w w' → K .normal ρ' w') : sx fn_ Try.prog 180 dispatcherlaw13_QueueLeft_R11 K ρ w := by
  have hil := (List.getElem?_eq_some_iff.1 hm).1
  rw [dispatcherlaw13_QueueLeft_R11_eq]; unfold dispatcherlaw13_QueueLeft_R11_F
  refine dispatcherlaw13_QueueLeft_R14_tail (D := []) ?_
  have hd : Mod none_ w { w with drawn := w.drawn + 1 } := (Mod.refl _ w).drawn _
  generalize ({ w with drawn := w.drawn + 1 } : World) = wd at *
  have hOd := owns_mod hO hd fun _ _ => id
  have hbd := hd.blk hb12 id
  have hQd := h.calm hd
  obtain ⟨v', hrun, hP, _⟩ := owns_pre vMsS cMs hOd (Nat.le_of_lt hil)
  rw [fl_take (k := 7 + 1) Ms.enc_len] at hP
  have htl : (S.take i).length = i := by rw [List.length_take]; omega
  have hrow : MsRow wd v' (S.take i) := by
    have := reads_of_owns hP
    unfold MsRow
    rw [htl]; exact this
  have fld : ∀ {i off : Nat} {bl : Nat} (h : fieldOff Try.prog tMs i = some off) (w' : World), (Instr.fieldAt tMs (.pointer (some ⟨bl, 0, none⟩)) i).run Try.prog w' = .ok (.pointer (some ⟨bl, off, none⟩)) w' := fun h w' => by rw [run_fo h, add_pl, Nat.zero_add]
  have key : ∀ (K' : Exit → Sl → World → Prop), (∀ (ρ2 : Sl) (w' : World) (y : Value), ρ2 0 = ρ 0 → ρ2 3 = ρ 3 → ρ2 10 = ρ 10 → ρ2 11 = ρ 11 → ρ2 12 = ρ 12 → ρ2 16 = ρ 16 → ρ2 18 = y → RowP wd (rowOf (S.take i) m.ch) y w' → K' .normal ρ2 w') → dispatcherlaw13_QueueLeft_R14_T K' ρ wd := by
    intro K' hK
    unfold dispatcherlaw13_QueueLeft_R14_T
    rw [e10, e11, e12]
    refine QV_of (fun w' _ => hrun w') ?_
    refine QV_of (fun w' _ => fld (off := 0) (by kernel_rfl) w') (QV_of (v := strV m.key) (fun w' hw => run_ld1 vS rfl (by rw [hw, cell_blk hbd]; rfl)) ?_)
    refine QV_of (fun w' _ => fld (off := 1) (by kernel_rfl) w') (QV_of (v := .int .i64 m.frm) (fun w' hw => run_ld1 vI rfl (by rw [hw, cell_blk hbd]; rfl)) ?_)
    refine QV_of (fun w' _ => fld (off := 2) (by kernel_rfl) w') (QV_of (v := .int .i64 m.to) (fun w' hw => run_ld1 vI rfl (by rw [hw, cell_blk hbd]; rfl)) ?_)
    refine CK_st Try.func30 rfl rfl (of_ok hrow (by omega) m.key m.frm m.to) ?_
    rintro y w' hy
    exact hK _ w' y rfl rfl (by first | rfl | exact e10.symm) (by first | rfl | exact e11.symm) (by first | rfl | exact e12.symm) rfl rfl hy
  refine key _ ?_
  rintro ρ2 w1 y z0 z3 z10 z11 z12 z16 z18 ⟨hOy, hm1⟩
  have hQ1 := hQd.calm hm1
  have hb1 := hm1.blk hbd id
  rw [sq_n, dispatcherlaw13_QueueLeft_R15_eq]; unfold dispatcherlaw13_QueueLeft_R15_F
  rw [z16, e16, z3, e3, z12, e12, z18, not_ok]
  simp only [Bool.not_true, ↓VG_u, ↓UG_u, ↓MG_u, ↓NG_u, ↓PG_u, ↓BG_u, ↓CG_u, ↓IG_u, ↓VGtt, ↓VGtf, ↓VGft, ↓VGff, ↓UGtt, ↓UGtf, ↓UGft, ↓UGff, ↓MGtt, ↓MGtf, ↓MGft, ↓MGff, ↓NGtt, ↓NGtf, ↓NGft, ↓NGff, ↓PGtt, ↓PGtf, ↓PGft, ↓PGff, ↓BGtt, ↓BGtf, ↓BGft, ↓BGff, ↓CGtt, ↓CGtf, ↓CGft, ↓CGff, ↓IGtt, ↓IGtf, ↓IGft, ↓IGff, ↓PKt, ↓PKf, ↓CDt, ↓CDf, ↓NOTt, ↓NOTf, ↓NK_ptr]
  refine ldS rfl Try.underlying31 rfl (by rw [iMs]; rfl) hb1 ?_
  try simp only [↓VG_u, ↓UG_u, ↓MG_u, ↓NG_u, ↓PG_u, ↓BG_u, ↓CG_u, ↓IG_u, ↓VGtt, ↓VGtf, ↓VGft, ↓VGff, ↓UGtt, ↓UGtf, ↓UGft, ↓UGff, ↓MGtt, ↓MGtf, ↓MGft, ↓MGff, ↓NGtt, ↓NGtf, ↓NGft, ↓NGff, ↓PGtt, ↓PGtf, ↓PGft, ↓PGff, ↓BGtt, ↓BGtf, ↓BGft, ↓BGff, ↓CGtt, ↓CGtf, ↓CGft, ↓CGff, ↓IGtt, ↓IGtf, ↓IGft, ↓IGff, ↓PKt, ↓PKf, ↓CDt, ↓CDf, ↓NOTt, ↓NOTf, ↓NK_ptr]
  refine CK_st Try.func24 rfl rfl (Ahead_ok hQ1 (by omega) m) ?_
  rintro x w2 ⟨hOx, hm2⟩
  try simp only [↓VG_u, ↓UG_u, ↓MG_u, ↓NG_u, ↓PG_u, ↓BG_u, ↓CG_u, ↓IG_u, ↓VGtt, ↓VGtf, ↓VGft, ↓VGff, ↓UGtt, ↓UGtf, ↓UGft, ↓UGff, ↓MGtt, ↓MGtf, ↓MGft, ↓MGff, ↓NGtt, ↓NGtf, ↓NGft, ↓NGff, ↓PGtt, ↓PGtf, ↓PGft, ↓PGff, ↓BGtt, ↓BGtf, ↓BGft, ↓BGff, ↓CGtt, ↓CGtf, ↓CGft, ↓CGff, ↓IGtt, ↓IGtf, ↓IGft, ↓IGff, ↓PKt, ↓PKf, ↓CDt, ↓CDf, ↓NOTt, ↓NOTf, ↓NK_ptr]
  rw [left_ahead h.inv.uniq hS hm] at hOx
  have hrl := row_len (S.take i) m.ch
  refine CK_st Try.func17 rfl rfl (Same_ok hOx (owns_mod hOy hm2 fun _ _ => id) (by omega)) ?_
  rintro _ w3 ⟨rfl, hm3⟩
  rw [decide_eq_true rfl]
  try simp only [↓VG_u, ↓UG_u, ↓MG_u, ↓NG_u, ↓PG_u, ↓BG_u, ↓CG_u, ↓IG_u, ↓VGtt, ↓VGtf, ↓VGft, ↓VGff, ↓UGtt, ↓UGtf, ↓UGft, ↓UGff, ↓MGtt, ↓MGtf, ↓MGft, ↓MGff, ↓NGtt, ↓NGtf, ↓NGft, ↓NGff, ↓PGtt, ↓PGtf, ↓PGft, ↓PGff, ↓BGtt, ↓BGtf, ↓BGft, ↓BGff, ↓CGtt, ↓CGtf, ↓CGft, ↓CGff, ↓IGtt, ↓IGtf, ↓IGft, ↓IGff, ↓PKt, ↓PKf, ↓CDt, ↓CDf, ↓NOTt, ↓NOTf, ↓NK_ptr]
  exact hk _ w3 (by first | exact z0 | rfl) (by first | exact z3 | rfl) (by first | exact z10 | rfl) (by first | exact z11 | rfl) (((hd.trans hm1).trans hm2).trans hm3)
theorem left_L4 {K : Exit → Sl → World → Prop} {ρ : Sl} (h : QAt w p ls V) (hL : ls.length ≤ 400000) (hg : FrmOk ls) (hS : Stab ltM (ls.filter nt) S) (hSl : S.length ≤ 400000) (hO : w.ownsRow B tMs 8 u S.length (S.flatMap Ms.enc))
    (e3 : ρ 3 = .pointer (some ⟨p, 0, none⟩)) (e10 : ρ 10 = u) (e11 : ρ 11 = .int .i64 0) (hk : ∀ (ρ' : Sl) (w' : World), Mod none_ w w' → K (.exit 2) ρ' w') : W fn_ Try.prog 180 (Code.loop dispatcherlaw13_QueueLeft_L4) K ρ w := by
  refine W_loop dispatcherlaw13_QueueLeft_L4_ok (fun ρ' w' => ∃ i : Nat, i ≤ S.length ∧ ρ' 11 = .int .i64 i ∧ ρ' 10 = u ∧ ρ' 3 = .pointer (some ⟨p, 0, none⟩) ∧ Mod none_ w w') (fun ρ' _ => S.length - (intOf (ρ' 11)).toNat)
    ⟨0, Nat.zero_le _, e11, e10, e3, Mod.refl _ _⟩ ?_
  rintro ρ' w1 ⟨i, hi, a11, a10, a3, hm1⟩
  rw [dispatcherlaw13_QueueLeft_L4_eq]; unfold dispatcherlaw13_QueueLeft_L4_F
  obtain ⟨A, c, es, _⟩ := reads_cap (reads_of_owns hO)
  rw [a11, a10, a3, es, len_sl vMsS, ← es, BK_lss]
  by_cases hlt : i < S.length
  · rw [decide_eq_true (by omega)]
    refine condT ?_
    have hx : S[i]? = some S[i] := List.getElem?_eq_getElem hlt
    generalize S[i] = m at *
    obtain ⟨hml, hmt⟩ := left_mem hS hx
    have hO1 := owns_mod hO hm1 fun _ _ => id
    refine ixMs (reads_of_owns hO1) hx rfl fun _ => ?_
    refine slot_k fun w2 hb2 hm2 hz2 => ?_
    have g1 : FO Try.prog w2 tMs 1 1 ⟨w1.heap.size, 0, none⟩ 3 (.int .i64 m.frm) := FO.blk hb2 (by kernel_rfl) vI rfl rfl
    have g3 : FO Try.prog w2 tMs 3 3 ⟨w1.heap.size, 0, none⟩ 3 (.int .i64 m.call) := FO.blk hb2 (by kernel_rfl) vI rfl rfl
    rw [g1.e, g3.e]
    have hm12 := hm1.trans hm2
    refine CK_st Try.func20 rfl rfl (Find_ok (h.calm hm12) (by omega) m.frm m.call) ?_
    rintro _ w3 ⟨rfl, hm3⟩
    rw [left_find h.inv.uniq hml]
    unfold msb
    dsimp only
    rw [extract_ok (v := .agg m.enc.toArray) rfl, extract_ok (v := .bool true) rfl]
    refine slot_k fun w4 hb4 hm4 hz4 => ?_
    have hm24 := hm3.trans hm4
    have hm04 := hm12.trans hm24
    refine left_R6 (m := m) (S := S) (i := i) (u := u) (B := B) (b12 := w1.heap.size) (b13 := w3.heap.size) (hm24.blk hb2 id) hb4 hmt (owns_mod hO hm04 fun _ _ => id) (left_uniq h.inv.uniq hS) hx (by omega) rfl rfl rfl (by first | exact a10 | rfl) (by first | exact a11 | rfl) ?_
    intro ρ2 w5 z0 z3 z10 z11 z12 z137 hm5
    have q3 : ρ2 3 = .pointer (some ⟨p, 0, none⟩) := z3.trans (by first | exact a3 | rfl)
    have q10 : ρ2 10 = u := z10.trans (by first | exact a10 | rfl)
    have q11 : ρ2 11 = .int .i64 i := z11.trans (by first | exact a11 | rfl)
    have q12 : ρ2 12 = .pointer (some ⟨w1.heap.size, 0, none⟩) := z12.trans rfl
    rw [sq_n, dispatcherlaw13_QueueLeft_R7_eq]; unfold dispatcherlaw13_QueueLeft_R7_F
    rw [z137]
    refine condF ?_
    rw [sq_n, dispatcherlaw13_QueueLeft_R8_eq]; unfold dispatcherlaw13_QueueLeft_R8_F
    have hm05 := hm04.trans hm5
    have hb5 := hm5.blk (hm24.blk hb2 id) id
    have k0 : FO Try.prog w5 tMs 0 0 ⟨w1.heap.size, 0, none⟩ 9 (strV m.key) := FO.blk hb5 (by kernel_rfl) vS rfl rfl
    have k2 : FO Try.prog w5 tMs 2 2 ⟨w1.heap.size, 0, none⟩ 3 (.int .i64 m.to) := FO.blk hb5 (by kernel_rfl) vI rfl rfl
    rw [q12, q3, k0.e, k2.e]
    refine CK_st Try.func27 rfl rfl (Senders_ok (h.calm hm05) hg (by omega) m.key m.to) ?_
    rintro s w6 ⟨hs, hm6⟩
    have hsl : (sendersV ls m.key m.to).length ≤ 64 := upto_len ls m.key m.to 64
    have hb6 := hm6.blk hb5 id
    have hm06 := hm05.trans hm6
    refine left_L10 (m := m) (b12 := w1.heap.size) hb6 hs (by omega) (by first | exact q12 | rfl) rfl rfl rfl ?_
    intro ρ4 w7 y0 y3 y10 y11 y12 y16 hm7
    rw [decide_eq_true (left_sent hg hml hmt)] at y16
    have hm07 := hm06.trans hm7
    rw [bk_x, sq_n]
    refine left_R11 (ls := ls) (S := S) (m := m) (i := i) (u := u) (B := B) (b12 := w1.heap.size) (h.calm hm07) hL hS hSl hx (hm7.blk hb6 id) (owns_mod hO hm07 fun _ _ => id) (y3.trans (by first | exact q3 | rfl)) (y10.trans (by first | exact q10 | rfl)) (y11.trans (by first | exact q11 | rfl)) (y12.trans (by first | exact q12 | rfl)) y16 ?_
    intro ρ5 w8 x0 x3 x10 x11 hm8
    rw [bk_n, sq_n, dispatcherlaw13_QueueLeft_R9_eq]; unfold dispatcherlaw13_QueueLeft_R9_F
    have v11 : ρ5 11 = .int .i64 i := x11.trans (y11.trans (by first | exact q11 | rfl))
    rw [v11, BK_add, wrap_i (by omega) (by omega)]
    refine ⟨⟨i + 1, hlt, rfl, x10.trans (y10.trans (by first | exact q10 | rfl)), x3.trans (y3.trans (by first | exact q3 | rfl)), hm07.trans hm8⟩, ?_⟩
    simp only [sq_n, sq_x, sq_r, bk_n, bk_r, bk_x, rt_r, rt_n, rs_0, rs_t, pk_1, pk_2, up_at, reduceIte, Nat.reduceEqDiff, intOf]; omega
  · obtain rfl : i = S.length := by omega
    rw [decide_eq_false (by omega)]
    refine condF ?_
    exact hk _ w1 hm1
end
end Go.Proofs.Ytnaoiekpfaganaa.Que
set_option linter.unusedVariables false
set_option linter.unusedSimpArgs false
set_option maxRecDepth 8000
namespace Go.Proofs.Ytnaoiekpfaganaa.Que
open Go Go.X Go.RowKit Go.Proofs.Ytnaoiekpfaganaa.XF Go.Proofs.Ytnaoiekpfaganaa.XK
section
variable {w w0 : World}
def PL (w0 : World) (v : Value) (n : Nat) (i : Int) (ρ : Sl) (w' : World) : Prop := ∃ (ls : List Ms) (p : Nat) (V : QV), ρ 5 = .int .i64 i ∧ ρ 0 = v ∧ ρ 3 = .pointer (some ⟨p, 0, none⟩) ∧ ρ 4 = .int .i64 ((ls.filter nt).length : Nat) ∧ QAt w' p ls V ∧ ls.length ≤ n ∧ FrmOk ls ∧ (∀ b, V.F p b → w0.heap.size ≤ b) ∧ Mod none_ w0 w'
theorem QueueLeft_ok {v : Value} {l : List Ac} (h : Acts w v l) : Rt Try.prog 7 #[v] w fun u w' => u = .bool true ∧ Mod none_ w w' := by
  refine dispatcherlaw13_QueueLeft_calls ?_
  unfold dispatcherlaw13_QueueLeft_F
  refine CK_st Try.func29 rfl rfl (awake_ok w) ?_
  rintro _ w1 ⟨rfl, hm1⟩
  rw [not_ok]
  refine condF ?_
  have h1 := Acts.calm h hm1
  refine CK_st Try.func8 rfl rfl (Great_ok h1) ?_
  rintro _ w2 ⟨rfl, rfl⟩
  refine caseC (fun hg => ⟨rfl, hm1⟩) (fun hg => ?_)
  have hl : l.length ≤ 200 := by
    unfold greatV at hg
    have := (Bool.or_eq_false_iff.1 hg).1
    simpa using this
  refine CK_st Try.func9 rfl rfl (New_ok w2) ?_
  rintro _ w3 ⟨p, V, rfl, hA, hF, hm3⟩
  obtain ⟨A, c, es, _⟩ := reads_cap h
  refine W_loop dispatcherlaw13_QueueLeft_L0_ok (fun ρ w' => ∃ i : Nat, i ≤ l.length ∧ PL w2 v i (i : Int) ρ w') (fun ρ _ => l.length - (intOf (ρ 5)).toNat)
    ⟨0, Nat.zero_le _, [], p, V, rfl, rfl, rfl, rfl, hA, Nat.le_refl _, FrmOk.nil, hF, hm3⟩ ?_
  rintro ρ w4 ⟨i, hi, ls, p', V', e5, e0, e3, e4, h4, hls, hgd, hF4, hm4⟩
  rw [dispatcherlaw13_QueueLeft_L0_eq]; unfold dispatcherlaw13_QueueLeft_L0_F
  rw [e5, e0, e3, e4, es, len_sl vAcs, ← es, BK_lss]
  have hfl : (ls.filter nt).length ≤ ls.length := List.length_filter_le _ _
  by_cases hlt : i < l.length
  · rw [decide_eq_true (by omega)]
    refine condT ?_
    have hx : l[i]? = some l[i] := List.getElem?_eq_getElem hlt
    generalize l[i] = a at *
    have hA4 := Acts.calm h1 hm4
    refine ixAc hA4 hx rfl fun aa ha => ?_
    rw [fo (show fieldOff Try.prog tAc 1 = some 1 by kernel_rfl)]
    refine ld_act ha ?_
    refine slot_k fun w5 hb5 hm5 hz5 => ?_
    refine ixAc (Acts.calm hA4 hm5) hx rfl fun aa2 ha2 => ?_
    rw [fo (show fieldOff Try.prog tAc 0 = some 0 by kernel_rfl)]
    refine ld1 vU8 rfl (ha2 0 (.int .u8 a.kind) rfl) ?_
    rw [BK_rem (by decide), BK_eql]
    have h5 := h4.calm hm5
    have n5 := hm4.trans hm5
    have nb : ¬ V'.F p' w4.heap.size := fun z => by have := h4.old _ z; omega
    have nx : ∀ (ρ2 : Sl) (w' : World), PL w2 v (i + 1) (i : Int) ρ2 w' → sx fn_ Try.prog 180 dispatcherlaw13_QueueLeft_R2 (seqK (fun ρ w' => (∃ i : Nat, i ≤ l.length ∧ PL w2 v i (i : Int) ρ w') ∧ l.length - (intOf (ρ 5)).toNat < l.length - (intOf (.int .i64 (i : Int))).toNat) (blkK 0 (seqK (sx fn_ Try.prog 180 dispatcherlaw13_QueueLeft_R1 (retK Try.prog [ResultVar.tmp 2] fun u w' => u = .bool true ∧ Mod none_ w w')) (retK Try.prog [ResultVar.tmp 2] fun u w' => u = .bool true ∧ Mod none_ w w')))) ρ2 w' := by
      rintro ρ2 w' ⟨ls2, p2, V2, c5, c0, c3, c4, hQ, hl2, hg2, hF2, hmw⟩
      rw [dispatcherlaw13_QueueLeft_R2_eq]; unfold dispatcherlaw13_QueueLeft_R2_F
      rw [c5, BK_add, wrap_i (by omega) (by omega)]
      refine ⟨⟨i + 1, hlt, ls2, p2, V2, rfl, c0, c3, c4, hQ, hl2, hg2, hF2, hmw⟩, ?_⟩
      simp only [sq_n, sq_x, sq_r, bk_n, bk_r, bk_x, rt_r, rt_n, rs_0, rs_t, pk_1, pk_2, up_at, reduceIte, Nat.reduceEqDiff, intOf]; omega
    refine caseC (fun hq => ?_) (fun hq => ?_)
    · have g1 : FO Try.prog w5 tMs 1 1 ⟨w4.heap.size, 0, none⟩ 3 (.int .i64 a.m.frm) := FO.blk hb5 (by kernel_rfl) vI rfl rfl
      have g3 : FO Try.prog w5 tMs 3 3 ⟨w4.heap.size, 0, none⟩ 3 (.int .i64 a.m.call) := FO.blk hb5 (by kernel_rfl) vI rfl rfl
      rw [g1.e, g3.e]
      refine CK_st Try.func20 rfl rfl (Find_ok h5 (by omega) a.m.frm a.m.call) ?_
      rintro _ w6 ⟨rfl, hm6⟩
      rw [msb_get]
      generalize hfd : ls.find? (Ms.isAt a.m.frm a.m.call) = fd
      rw [extract_ok (v := .agg (fd.getD zMs).enc.toArray) rfl, extract_ok (v := .bool fd.isSome) rfl]
      refine slot_k fun w7 hb7 hm7 hz7 => ?_
      have hm57 := hm6.trans hm7
      have h7 := h5.calm hm57
      have n7 := n5.trans hm57
      have hb5' := hm57.blk hb5 id
      have s6 := hm6.size
      have key : ∀ ρ0 : Sl, ρ0 0 = v → ρ0 3 = .pointer (some ⟨p', 0, none⟩) → ρ0 4 = .int .i64 ((ls.filter nt).length : Nat) → ρ0 5 = .int .i64 i → ρ0 6 = .pointer (some ⟨w4.heap.size, 0, none⟩) → ρ0 7 = .pointer (some ⟨w6.heap.size, 0, none⟩) → ρ0 8 = .bool fd.isSome →
          ∀ (K : Exit → Sl → World → Prop), (∀ (ρ2 : Sl) (w' : World), PL w2 v (i + 1) (i : Int) ρ2 w' → K .normal ρ2 w') → sx fn_ Try.prog 180 dispatcherlaw13_QueueLeft_R3 K ρ0 w7 := by
        intro ρ0 q0 q3 q4 q5 q6 q7 q8 K hK
        rw [dispatcherlaw13_QueueLeft_R3_eq]; unfold dispatcherlaw13_QueueLeft_R3_F
        rw [q6, q3, q8, q7, q4]
        have k1 : FO Try.prog w7 tMs 1 1 ⟨w4.heap.size, 0, none⟩ 3 (.int .i64 a.m.frm) := FO.blk hb5' (by kernel_rfl) vI rfl rfl
        have k3 : FO Try.prog w7 tMs 3 3 ⟨w4.heap.size, 0, none⟩ 3 (.int .i64 a.m.call) := FO.blk hb5' (by kernel_rfl) vI rfl rfl
        rw [k1.e, k3.e]
        refine CK_st Try.func12 rfl rfl (Take_ok h7 (by omega) a.m.frm a.m.call) ?_
        rintro _ w8 ⟨rfl, h8, f8⟩
        have tl := takeV_len ls a.m.frm a.m.call
        obtain ⟨n8, nf8⟩ := QFr.none f8 n7 hF4
        have hb8 : w8.heap[w6.heap.size]? = some (.cells (fd.getD zMs).enc.toArray tMs (0, 0)) := f8.mod.blk hb7 fun z => by have := h4.old _ z; omega
        have g7 : FO Try.prog w8 tMs 7 7 ⟨w6.heap.size, 0, none⟩ 4 (.bool (fd.getD zMs).taken) := FO.blk hb8 (by kernel_rfl) vB rfl rfl
        have hg8 := hgd.take a.m.frm a.m.call
        rcases take_cases h4.inv.uniq a.m.frm a.m.call with ⟨ht, hn⟩ | ⟨x, hfx, hxt, ht, hcnt⟩
        · rw [ht] at h8 hg8
          have ht2 : (takeV ls a.m.frm a.m.call).2 = 2 := by rw [ht]
          rw [ht2, EQf (by decide)]
          have hPL : ∀ ρ2 : Sl, ρ2 0 = v → ρ2 3 = .pointer (some ⟨p', 0, none⟩) → ρ2 4 = .int .i64 ((ls.filter nt).length : Nat) → ρ2 5 = .int .i64 i → PL w2 v (i + 1) (i : Int) ρ2 w8 := fun ρ2 a0 a3 a4 a5 => ⟨ls, p', V', a5, a0, a3, a4, h8, by omega, hg8, nf8, n8⟩
          rcases hn with hn | ⟨x, hn, hxt⟩
          · rw [hfd] at hn
            subst hn
            simp only [Option.isSome_none, ↓VG_u, ↓UG_u, ↓MG_u, ↓NG_u, ↓PG_u, ↓BG_u, ↓CG_u, ↓IG_u, ↓VGtt, ↓VGtf, ↓VGft, ↓VGff, ↓UGtt, ↓UGtf, ↓UGft, ↓UGff, ↓MGtt, ↓MGtf, ↓MGft, ↓MGff, ↓NGtt, ↓NGtf, ↓NGft, ↓NGff, ↓PGtt, ↓PGtf, ↓PGft, ↓PGff, ↓BGtt, ↓BGtf, ↓BGft, ↓BGff, ↓CGtt, ↓CGtf, ↓CGft, ↓CGff, ↓IGtt, ↓IGtf, ↓IGft, ↓IGff, ↓PKt, ↓PKf, ↓CDt, ↓CDf, ↓NOTt, ↓NOTf, ↓NK_ptr]
            rw [BK_neqB vB, show (false == false) = true from rfl]
            simp only [Bool.not_true, ↓VG_u, ↓UG_u, ↓MG_u, ↓NG_u, ↓PG_u, ↓BG_u, ↓CG_u, ↓IG_u, ↓VGtt, ↓VGtf, ↓VGft, ↓VGff, ↓UGtt, ↓UGtf, ↓UGft, ↓UGff, ↓MGtt, ↓MGtf, ↓MGft, ↓MGff, ↓NGtt, ↓NGtf, ↓NGft, ↓NGff, ↓PGtt, ↓PGtf, ↓PGft, ↓PGff, ↓BGtt, ↓BGtf, ↓BGft, ↓BGff, ↓CGtt, ↓CGtf, ↓CGft, ↓CGff, ↓IGtt, ↓IGtf, ↓IGft, ↓IGff, ↓PKt, ↓PKf, ↓CDt, ↓CDf, ↓NOTt, ↓NOTf, ↓NK_ptr]
            rw [EQf (by decide)]
            try simp only [↓VG_u, ↓UG_u, ↓MG_u, ↓NG_u, ↓PG_u, ↓BG_u, ↓CG_u, ↓IG_u, ↓VGtt, ↓VGtf, ↓VGft, ↓VGff, ↓UGtt, ↓UGtf, ↓UGft, ↓UGff, ↓MGtt, ↓MGtf, ↓MGft, ↓MGff, ↓NGtt, ↓NGtf, ↓NGft, ↓NGff, ↓PGtt, ↓PGtf, ↓PGft, ↓PGff, ↓BGtt, ↓BGtf, ↓BGft, ↓BGff, ↓CGtt, ↓CGtf, ↓CGft, ↓CGff, ↓IGtt, ↓IGtf, ↓IGft, ↓IGff, ↓PKt, ↓PKf, ↓CDt, ↓CDf, ↓NOTt, ↓NOTf, ↓NK_ptr]
            exact hK _ w8 (hPL _ (by first | exact q0 | rfl) (by first | exact q3 | rfl) (by first | exact q4 | rfl) (by first | exact q5 | rfl))
          · rw [hfd] at hn
            subst hn
            simp only [Option.isSome_some, ↓VG_u, ↓UG_u, ↓MG_u, ↓NG_u, ↓PG_u, ↓BG_u, ↓CG_u, ↓IG_u, ↓VGtt, ↓VGtf, ↓VGft, ↓VGff, ↓UGtt, ↓UGtf, ↓UGft, ↓UGff, ↓MGtt, ↓MGtf, ↓MGft, ↓MGff, ↓NGtt, ↓NGtf, ↓NGft, ↓NGff, ↓PGtt, ↓PGtf, ↓PGft, ↓PGff, ↓BGtt, ↓BGtf, ↓BGft, ↓BGff, ↓CGtt, ↓CGtf, ↓CGft, ↓CGff, ↓IGtt, ↓IGtf, ↓IGft, ↓IGff, ↓PKt, ↓PKf, ↓CDt, ↓CDf, ↓NOTt, ↓NOTf, ↓NK_ptr]
            rw [g7.e]
            try simp only [↓VG_u, ↓UG_u, ↓MG_u, ↓NG_u, ↓PG_u, ↓BG_u, ↓CG_u, ↓IG_u, ↓VGtt, ↓VGtf, ↓VGft, ↓VGff, ↓UGtt, ↓UGtf, ↓UGft, ↓UGff, ↓MGtt, ↓MGtf, ↓MGft, ↓MGff, ↓NGtt, ↓NGtf, ↓NGft, ↓NGff, ↓PGtt, ↓PGtf, ↓PGft, ↓PGff, ↓BGtt, ↓BGtf, ↓BGft, ↓BGff, ↓CGtt, ↓CGtf, ↓CGft, ↓CGff, ↓IGtt, ↓IGtf, ↓IGft, ↓IGff, ↓PKt, ↓PKf, ↓CDt, ↓CDf, ↓NOTt, ↓NOTf, ↓NK_ptr]
            rw [show ((some x).getD zMs).taken = true from hxt]
            try simp only [Bool.not_true, ↓VG_u, ↓UG_u, ↓MG_u, ↓NG_u, ↓PG_u, ↓BG_u, ↓CG_u, ↓IG_u, ↓VGtt, ↓VGtf, ↓VGft, ↓VGff, ↓UGtt, ↓UGtf, ↓UGft, ↓UGff, ↓MGtt, ↓MGtf, ↓MGft, ↓MGff, ↓NGtt, ↓NGtf, ↓NGft, ↓NGff, ↓PGtt, ↓PGtf, ↓PGft, ↓PGff, ↓BGtt, ↓BGtf, ↓BGft, ↓BGff, ↓CGtt, ↓CGtf, ↓CGft, ↓CGff, ↓IGtt, ↓IGtf, ↓IGft, ↓IGff, ↓PKt, ↓PKf, ↓CDt, ↓CDf, ↓NOTt, ↓NOTf, ↓NK_ptr]
            rw [BK_neqB vB, show (false == false) = true from rfl]
            simp only [Bool.not_true, ↓VG_u, ↓UG_u, ↓MG_u, ↓NG_u, ↓PG_u, ↓BG_u, ↓CG_u, ↓IG_u, ↓VGtt, ↓VGtf, ↓VGft, ↓VGff, ↓UGtt, ↓UGtf, ↓UGft, ↓UGff, ↓MGtt, ↓MGtf, ↓MGft, ↓MGff, ↓NGtt, ↓NGtf, ↓NGft, ↓NGff, ↓PGtt, ↓PGtf, ↓PGft, ↓PGff, ↓BGtt, ↓BGtf, ↓BGft, ↓BGff, ↓CGtt, ↓CGtf, ↓CGft, ↓CGff, ↓IGtt, ↓IGtf, ↓IGft, ↓IGff, ↓PKt, ↓PKf, ↓CDt, ↓CDf, ↓NOTt, ↓NOTf, ↓NK_ptr]
            rw [EQf (by decide)]
            try simp only [↓VG_u, ↓UG_u, ↓MG_u, ↓NG_u, ↓PG_u, ↓BG_u, ↓CG_u, ↓IG_u, ↓VGtt, ↓VGtf, ↓VGft, ↓VGff, ↓UGtt, ↓UGtf, ↓UGft, ↓UGff, ↓MGtt, ↓MGtf, ↓MGft, ↓MGff, ↓NGtt, ↓NGtf, ↓NGft, ↓NGff, ↓PGtt, ↓PGtf, ↓PGft, ↓PGff, ↓BGtt, ↓BGtf, ↓BGft, ↓BGff, ↓CGtt, ↓CGtf, ↓CGft, ↓CGff, ↓IGtt, ↓IGtf, ↓IGft, ↓IGff, ↓PKt, ↓PKf, ↓CDt, ↓CDf, ↓NOTt, ↓NOTf, ↓NK_ptr]
            exact hK _ w8 (hPL _ (by first | exact q0 | rfl) (by first | exact q3 | rfl) (by first | exact q4 | rfl) (by first | exact q5 | rfl))
        · rw [hfd] at hfx
          subst hfx
          rw [ht, EQt rfl]
          simp only [Option.isSome_some, ↓VG_u, ↓UG_u, ↓MG_u, ↓NG_u, ↓PG_u, ↓BG_u, ↓CG_u, ↓IG_u, ↓VGtt, ↓VGtf, ↓VGft, ↓VGff, ↓UGtt, ↓UGtf, ↓UGft, ↓UGff, ↓MGtt, ↓MGtf, ↓MGft, ↓MGff, ↓NGtt, ↓NGtf, ↓NGft, ↓NGff, ↓PGtt, ↓PGtf, ↓PGft, ↓PGff, ↓BGtt, ↓BGtf, ↓BGft, ↓BGff, ↓CGtt, ↓CGtf, ↓CGft, ↓CGff, ↓IGtt, ↓IGtf, ↓IGft, ↓IGff, ↓PKt, ↓PKf, ↓CDt, ↓CDf, ↓NOTt, ↓NOTf, ↓NK_ptr]
          rw [g7.e]
          try simp only [↓VG_u, ↓UG_u, ↓MG_u, ↓NG_u, ↓PG_u, ↓BG_u, ↓CG_u, ↓IG_u, ↓VGtt, ↓VGtf, ↓VGft, ↓VGff, ↓UGtt, ↓UGtf, ↓UGft, ↓UGff, ↓MGtt, ↓MGtf, ↓MGft, ↓MGff, ↓NGtt, ↓NGtf, ↓NGft, ↓NGff, ↓PGtt, ↓PGtf, ↓PGft, ↓PGff, ↓BGtt, ↓BGtf, ↓BGft, ↓BGff, ↓CGtt, ↓CGtf, ↓CGft, ↓CGff, ↓IGtt, ↓IGtf, ↓IGft, ↓IGff, ↓PKt, ↓PKf, ↓CDt, ↓CDf, ↓NOTt, ↓NOTf, ↓NK_ptr]
          rw [show ((some x).getD zMs).taken = false from hxt]
          try simp only [Bool.not_false, ↓VG_u, ↓UG_u, ↓MG_u, ↓NG_u, ↓PG_u, ↓BG_u, ↓CG_u, ↓IG_u, ↓VGtt, ↓VGtf, ↓VGft, ↓VGff, ↓UGtt, ↓UGtf, ↓UGft, ↓UGff, ↓MGtt, ↓MGtf, ↓MGft, ↓MGff, ↓NGtt, ↓NGtf, ↓NGft, ↓NGff, ↓PGtt, ↓PGtf, ↓PGft, ↓PGff, ↓BGtt, ↓BGtf, ↓BGft, ↓BGff, ↓CGtt, ↓CGtf, ↓CGft, ↓CGff, ↓IGtt, ↓IGtf, ↓IGft, ↓IGff, ↓PKt, ↓PKf, ↓CDt, ↓CDf, ↓NOTt, ↓NOTf, ↓NK_ptr]
          rw [BK_neqB vB, show (true == true) = true from rfl]
          simp only [Bool.not_true, ↓VG_u, ↓UG_u, ↓MG_u, ↓NG_u, ↓PG_u, ↓BG_u, ↓CG_u, ↓IG_u, ↓VGtt, ↓VGtf, ↓VGft, ↓VGff, ↓UGtt, ↓UGtf, ↓UGft, ↓UGff, ↓MGtt, ↓MGtf, ↓MGft, ↓MGff, ↓NGtt, ↓NGtf, ↓NGft, ↓NGff, ↓PGtt, ↓PGtf, ↓PGft, ↓PGff, ↓BGtt, ↓BGtf, ↓BGft, ↓BGff, ↓CGtt, ↓CGtf, ↓CGft, ↓CGff, ↓IGtt, ↓IGtf, ↓IGft, ↓IGff, ↓PKt, ↓PKf, ↓CDt, ↓CDf, ↓NOTt, ↓NOTf, ↓NK_ptr]
          rw [EQt rfl]
          try simp only [↓VG_u, ↓UG_u, ↓MG_u, ↓NG_u, ↓PG_u, ↓BG_u, ↓CG_u, ↓IG_u, ↓VGtt, ↓VGtf, ↓VGft, ↓VGff, ↓UGtt, ↓UGtf, ↓UGft, ↓UGff, ↓MGtt, ↓MGtf, ↓MGft, ↓MGff, ↓NGtt, ↓NGtf, ↓NGft, ↓NGff, ↓PGtt, ↓PGtf, ↓PGft, ↓PGff, ↓BGtt, ↓BGtf, ↓BGft, ↓BGff, ↓CGtt, ↓CGtf, ↓CGft, ↓CGff, ↓IGtt, ↓IGtf, ↓IGft, ↓IGff, ↓PKt, ↓PKf, ↓CDt, ↓CDf, ↓NOTt, ↓NOTf, ↓NK_ptr]
          rw [BK_sub, wrap_i (by omega) (by omega)]
          refine hK _ w8 ⟨_, p', V', by first | exact q5 | rfl, by first | exact q0 | rfl, by first | exact q3 | rfl, ?_, h8, by omega, hg8, nf8, n8⟩
          show Value.int .i64 _ = _
          congr 1
          omega
      refine key _ (by first | exact e0 | rfl) (by first | exact e3 | rfl) (by first | exact e4 | rfl) (by first | exact e5 | rfl) rfl rfl rfl _ ?_
      intro ρ2 w' hPL
      rw [bk_n, sq_n]
      exact nx ρ2 w' hPL
    · refine ldS rfl Try.underlying31 rfl (by rw [iMs]; rfl) hb5 ?_
      refine CK_st Try.func10 rfl rfl (Send_ok h5 (by omega) a.m) ?_
      rintro _ w6 ⟨rfl, V6, h6, f6⟩
      obtain ⟨n6, nf6⟩ := QFr.none f6 n5 hF4
      have tl := sendV_len ls a.m
      have hg6 := hgd.send a.m
      rcases send_cases ls a.m with hs | ⟨hs, hmt⟩
      · rw [hs] at h6 hg6
        rw [hs, EQf (show (2 : Int) ≠ 0 by decide)]
        refine condF ?_
        exact nx _ w6 ⟨ls, p', V6, by first | exact e5 | rfl, by first | exact e0 | rfl, by first | exact e3 | rfl, by first | exact e4 | rfl, h6, by omega, hg6, nf6, n6⟩
      · rw [hs] at h6 hg6
        rw [hs, EQt (show (0 : Int) = 0 from rfl)]
        refine condT ?_
        rw [BK_add, wrap_i (by omega) (by omega)]
        refine nx _ w6 ⟨ls ++ [a.m], p', V6, by first | exact e5 | rfl, by first | exact e0 | rfl, by first | exact e3 | rfl, ?_, h6, by simp; omega, hg6, nf6, n6⟩
        show Value.int .i64 _ = _
        congr 1
        rw [List.filter_append, List.filter_cons_of_pos (by simp [nt, hmt])]
        simp
  · obtain rfl : i = l.length := by omega
    rw [decide_eq_false (by omega)]
    refine condF ?_
    rw [sq_x, bk_x, sq_n, dispatcherlaw13_QueueLeft_R1_eq]; unfold dispatcherlaw13_QueueLeft_R1_F
    have key : ∀ ρ0 : Sl, ρ0 3 = .pointer (some ⟨p', 0, none⟩) → ρ0 4 = .int .i64 ((ls.filter nt).length : Nat) → dispatcherlaw13_QueueLeft_R1_F fn_ (retK Try.prog [ResultVar.tmp 2] fun u w' => u = .bool true ∧ Mod none_ w w') ρ0 w4 := by
      intro ρ0 q3 q4
      unfold dispatcherlaw13_QueueLeft_R1_F
      rw [q3, q4]
      refine CK_st Try.func16 rfl rfl (Left_ok h4 (by omega)) ?_
      rintro u w5 ⟨S, hS, hO, hm5⟩
      have lS : S.length = (ls.filter nt).length := Stab.len ltM_wo hS.eq
      obtain ⟨A2, c2, es2, _⟩ := reads_cap (reads_of_owns hO)
      rw [es2, len_sl vMsS, ← es2, lS, NEf rfl]
      refine condF ?_
      refine left_L4 (ls := ls) (S := S) (u := u) (p := p') (V := V') (h4.calm hm5) (by omega) hgd hS (by omega) hO (by first | exact q3 | rfl) rfl rfl ?_
      intro ρ5 w6 hm6
      rw [bk_x, sq_n, dispatcherlaw13_QueueLeft_R5_eq]; unfold dispatcherlaw13_QueueLeft_R5_F
      exact ⟨rfl, ((hm1.trans hm4).trans hm5).trans hm6⟩
    exact key _ (by first | exact e3 | rfl) (by first | exact e4 | rfl)
end
end Go.Proofs.Ytnaoiekpfaganaa.Que
set_option linter.unusedVariables false
set_option maxRecDepth 4000
namespace Go.Proofs.Ytnaoiekpfaganaa.Que
open Go Go.X Go.RowKit
def shM : Sh Ms := ⟨8, fun w m cs => cs = m.enc⟩
def shA : Sh Ac := ⟨9, fun w a cs => cs = a.enc⟩
theorem strV_back (b : ByteArray) : strV b.data.toList = .string b := by unfold strV; rw [Array.toArray_toList]
theorem opensM (n : Nat) : OpensAt Try.prog n shM 31 :=
  opens_as (opens_struct Try.underlying31 (by kernel_rfl) (fun m _ => fields_cons rfl (by kernel_rfl) (opens_string Try.underlying9) (fields_cons rfl (by kernel_rfl) (opens_int Try.underlying3) (fields_cons rfl (by kernel_rfl) (opens_int Try.underlying3)
    (fields_cons rfl (by kernel_rfl) (opens_int Try.underlying3) (fields_cons rfl (by kernel_rfl) (opens_int Try.underlying3) (fields_cons rfl (by kernel_rfl) (opens_int Try.underlying2) (fields_cons rfl (by kernel_rfl) (opens_int Try.underlying3) (fields_one rfl (by kernel_rfl) (opens_bool Try.underlying4))))))))))
    (fun x => (⟨x.1.data.toList, x.2.1, x.2.2.1, x.2.2.2.1, x.2.2.2.2.1, x.2.2.2.2.2.1, x.2.2.2.2.2.2.1, x.2.2.2.2.2.2.2⟩ : Ms))
    (fun w v cs h => by
      obtain ⟨c0, d0, rfl, _, ⟨rfl, h0⟩, c1, d1, rfl, _, ⟨rfl, h1⟩, c2, d2, rfl, _, ⟨rfl, h2⟩, c3, d3, rfl, _, ⟨rfl, h3⟩, c4, d4, rfl, _, ⟨rfl, h4⟩, c5, d5, rfl, _, ⟨rfl, h5⟩, c6, d6, rfl, _, ⟨rfl, h6⟩, h7⟩ := h
      subst h7
      show _ = Ms.enc _
      simp only [Ms.enc, strV_back]
      rfl)
theorem opensA (n : Nat) : OpensAt Try.prog n shA 33 :=
  opens_as (opens_struct Try.underlying33 (by kernel_rfl) (fun m _ => fields_cons rfl (by kernel_rfl) (opens_int Try.underlying5) (fields_one rfl (by kernel_rfl) (opensM m))))
    (fun x => (⟨x.1, x.2⟩ : Ac))
    (fun w v cs h => by
      obtain ⟨c0, d0, rfl, _, ⟨rfl, h0⟩, h1⟩ := h
      obtain rfl : d0 = v.2.enc := h1
      rfl)
theorem opensAs (n : Nat) : OpensAt Try.prog n (Sh.slice shA) 22 := opens_slice Try.underlying22 (by kernel_rfl) (fun m _ => opensA m)
theorem Acts_of {w : World} {x : Value × List Ac} {cs : List Value} (h : (Sh.slice shA).K w x cs) : Acts w x.1 x.2 := reads_sh h Ac.enc (fun _ => rfl) (fun _ _ hd => hd)
end Go.Proofs.Ytnaoiekpfaganaa.Que
