/- Several texts of this repo, one behind the other, without what is not used here. -/
import Derived.Shelf.SlIter.Nil
import Derived.Shelf.SortM.Plain
import Derived.Shelf.SortM.SortNone
import Derived.Shelf.Strconv.Itoa3
import Derived.Test.YtandbmnhghmcgaaDoorProg
import Derived.Sort.Walk0
import Derived.Lib.ItoaLen
import Derived.Lib.AppendIntMem
import Derived.Laws.MakeOwn
import Derived.Maps.RangeRun
import Derived.Test.YtandbmnhghmcgaaDoorCP1
set_option linter.unusedVariables false
set_option linter.unusedSimpArgs false
set_option maxRecDepth 8000
namespace Go.X
open Go Go.RowKit
def Pt.enc (p : Pt) : List Value := [.int .u8 p.kind, .int .i64 p.root, .int .u8 p.op, .int .i64 p.val, .int .i64 p.color, .int .i64 p.key]
theorem Pt.enc_len (p : Pt) : p.enc.length = 5 + 1 := rfl
def Pt.v (p : Pt) : Value := .agg p.enc.toArray
theorem Pt.enc_one (p : Pt) : p.enc.toArray.all (·.oneCell') = true := by simp [Pt.enc, Value.oneCell']
theorem Pt.enc_mem (l : List Pt) : ∀ u ∈ l.flatMap Pt.enc, u.oneCell' = true := by
  intro u hu
  obtain ⟨m, _, hm⟩ := List.mem_flatMap.1 hu
  have := Pt.enc_one m
  rw [List.all_toArray, List.all_eq_true] at this
  exact this u hm
end Go.X
namespace Go.Proofs.YtandbmnhghmcgaaDoor.Col
open Go Go.X Go.RowKit Go.Proofs.YtandbmnhghmcgaaDoor.XF Go.Proofs.YtandbmnhghmcgaaDoor.XK
abbrev tPt : TypeId := 34
abbrev tPts : TypeId := 61
theorem vU8 : Tryd.prog.underlying 5 = some (.int .u8) := by kernel_rfl
theorem vPts : Tryd.prog.underlying tPts = some (.slice tPt) := by kernel_rfl
theorem cPt : Tryd.prog.cellsOf tPt = 5 + 1 := by kernel_rfl
theorem iPt : (Tryd.prog.info? tPt).map (·.size) = some 6 := by kernel_rfl
theorem zPt_z : (Tryd.prog.info? tPt).bind (·.zero) = some zPt.v := by kernel_rfl
theorem zPt_b : Tryd.prog.built tPt [] = some zPt.enc.toArray := by kernel_rfl
theorem ePts : elemOk Tryd.prog tPts tPt 6 48 = true := by kernel_rfl
section
variable {w : World} {b : Nat} {p : Pt}
theorem fP0 (h : w.heap[b]? = some (.cells p.enc.toArray tPt (0, 0))) : FO Tryd.prog w tPt 0 0 ⟨b, 0, none⟩ 5 (.int .u8 p.kind) := FO.blk h (by kernel_rfl) vU8 rfl rfl
theorem fP1 (h : w.heap[b]? = some (.cells p.enc.toArray tPt (0, 0))) : FO Tryd.prog w tPt 1 1 ⟨b, 0, none⟩ tI (.int .i64 p.root) := FO.blk h (by kernel_rfl) vI rfl rfl
theorem fP2 (h : w.heap[b]? = some (.cells p.enc.toArray tPt (0, 0))) : FO Tryd.prog w tPt 2 2 ⟨b, 0, none⟩ 5 (.int .u8 p.op) := FO.blk h (by kernel_rfl) vU8 rfl rfl
end
theorem Fit_ok (a b : Pt) (w : World) : Rt Tryd.prog 21 #[a.v, b.v] w fun x w' => x = .bool (fitPt a b) ∧ Mod none_ w w' := by
  refine coll_Fit_calls ?_
  unfold coll_Fit_F
  refine box_k (cs := a.enc.toArray) rfl fun w1 hb1 hm1 hz1 => ?_
  refine box_k (cs := b.enc.toArray) rfl fun w2 hb2 hm2 hz2 => ?_
  have h1 := hm2.blk hb1 id
  have hm := hm1.trans hm2
  simp only [↓(fP0 h1).e, ↓(fP0 hb2).e]
  unfold fitPt
  by_cases e0 : a.kind = b.kind
  · simp only [↓VG_u, ↓UG_u, ↓MG_u, ↓NG_u, ↓PG_u, ↓BG_u, ↓CG_u, ↓IG_u, ↓VGtt, ↓VGtf, ↓VGft, ↓VGff, ↓UGtt, ↓UGtf, ↓UGft, ↓UGff, ↓MGtt, ↓MGtf, ↓MGft, ↓MGff, ↓NGtt, ↓NGtf, ↓NGft, ↓NGff, ↓PGtt, ↓PGtf, ↓PGft, ↓PGff, ↓BGtt, ↓BGtf, ↓BGft, ↓BGff, ↓CGtt, ↓CGtf, ↓CGft, ↓CGff, ↓IGtt, ↓IGtf, ↓IGft, ↓IGff, ↓PKt, ↓PKf, ↓CDt, ↓CDf, ↓NOTt, ↓NOTf, ↓NK_ptr, ↓EQt e0, ↓(fP1 h1).e, ↓(fP1 hb2).e]
    by_cases e1 : a.root = b.root
    · simp only [↓VG_u, ↓UG_u, ↓MG_u, ↓NG_u, ↓PG_u, ↓BG_u, ↓CG_u, ↓IG_u, ↓VGtt, ↓VGtf, ↓VGft, ↓VGff, ↓UGtt, ↓UGtf, ↓UGft, ↓UGff, ↓MGtt, ↓MGtf, ↓MGft, ↓MGff, ↓NGtt, ↓NGtf, ↓NGft, ↓NGff, ↓PGtt, ↓PGtf, ↓PGft, ↓PGff, ↓BGtt, ↓BGtf, ↓BGft, ↓BGff, ↓CGtt, ↓CGtf, ↓CGft, ↓CGff, ↓IGtt, ↓IGtf, ↓IGft, ↓IGff, ↓PKt, ↓PKf, ↓CDt, ↓CDf, ↓NOTt, ↓NOTf, ↓NK_ptr, ↓EQt e1, ↓(fP2 h1).e, ↓(fP2 hb2).e]
      rw [BK_eql]
      try simp only [↓VG_u, ↓UG_u, ↓MG_u, ↓NG_u, ↓PG_u, ↓BG_u, ↓CG_u, ↓IG_u, ↓VGtt, ↓VGtf, ↓VGft, ↓VGff, ↓UGtt, ↓UGtf, ↓UGft, ↓UGff, ↓MGtt, ↓MGtf, ↓MGft, ↓MGff, ↓NGtt, ↓NGtf, ↓NGft, ↓NGff, ↓PGtt, ↓PGtf, ↓PGft, ↓PGff, ↓BGtt, ↓BGtf, ↓BGft, ↓BGff, ↓CGtt, ↓CGtf, ↓CGft, ↓CGff, ↓IGtt, ↓IGtf, ↓IGft, ↓IGff, ↓PKt, ↓PKf, ↓CDt, ↓CDf, ↓NOTt, ↓NOTf, ↓NK_ptr]
      refine ⟨?_, hm⟩
      rw [decide_eq_true e0, decide_eq_true e1]
      simp only [Bool.true_and]
      congr 1
    · simp only [↓VG_u, ↓UG_u, ↓MG_u, ↓NG_u, ↓PG_u, ↓BG_u, ↓CG_u, ↓IG_u, ↓VGtt, ↓VGtf, ↓VGft, ↓VGff, ↓UGtt, ↓UGtf, ↓UGft, ↓UGff, ↓MGtt, ↓MGtf, ↓MGft, ↓MGff, ↓NGtt, ↓NGtf, ↓NGft, ↓NGff, ↓PGtt, ↓PGtf, ↓PGft, ↓PGff, ↓BGtt, ↓BGtf, ↓BGft, ↓BGff, ↓CGtt, ↓CGtf, ↓CGft, ↓CGff, ↓IGtt, ↓IGtf, ↓IGft, ↓IGff, ↓PKt, ↓PKf, ↓CDt, ↓CDf, ↓NOTt, ↓NOTf, ↓NK_ptr, ↓EQf e1]
      refine ⟨?_, hm⟩
      rw [decide_eq_false e1]
      simp
  · simp only [↓VG_u, ↓UG_u, ↓MG_u, ↓NG_u, ↓PG_u, ↓BG_u, ↓CG_u, ↓IG_u, ↓VGtt, ↓VGtf, ↓VGft, ↓VGff, ↓UGtt, ↓UGtf, ↓UGft, ↓UGff, ↓MGtt, ↓MGtf, ↓MGft, ↓MGff, ↓NGtt, ↓NGtf, ↓NGft, ↓NGff, ↓PGtt, ↓PGtf, ↓PGft, ↓PGff, ↓BGtt, ↓BGtf, ↓BGft, ↓BGff, ↓CGtt, ↓CGtf, ↓CGft, ↓CGff, ↓IGtt, ↓IGtf, ↓IGft, ↓IGff, ↓PKt, ↓PKf, ↓CDt, ↓CDf, ↓NOTt, ↓NOTf, ↓NK_ptr, ↓EQf e0]
    refine ⟨?_, hm⟩
    rw [decide_eq_false e0]
    simp
theorem rooted_ok (k : Int) (w : World) : Rt Tryd.prog 48 #[.int .u8 k] w fun x w' => x = .bool (rootedK k) ∧ w' = w := by
  refine coll_rooted_calls ?_
  unfold coll_rooted_F rootedK
  by_cases e0 : k = 16
  · simp only [↓VG_u, ↓UG_u, ↓MG_u, ↓NG_u, ↓PG_u, ↓BG_u, ↓CG_u, ↓IG_u, ↓VGtt, ↓VGtf, ↓VGft, ↓VGff, ↓UGtt, ↓UGtf, ↓UGft, ↓UGff, ↓MGtt, ↓MGtf, ↓MGft, ↓MGff, ↓NGtt, ↓NGtf, ↓NGft, ↓NGff, ↓PGtt, ↓PGtf, ↓PGft, ↓PGff, ↓BGtt, ↓BGtf, ↓BGft, ↓BGff, ↓CGtt, ↓CGtf, ↓CGft, ↓CGff, ↓IGtt, ↓IGtf, ↓IGft, ↓IGff, ↓PKt, ↓PKf, ↓CDt, ↓CDf, ↓NOTt, ↓NOTf, ↓NK_ptr, ↓EQt e0]
    exact ⟨by rw [decide_eq_true e0]; rfl, by trivial⟩
  · simp only [↓VG_u, ↓UG_u, ↓MG_u, ↓NG_u, ↓PG_u, ↓BG_u, ↓CG_u, ↓IG_u, ↓VGtt, ↓VGtf, ↓VGft, ↓VGff, ↓UGtt, ↓UGtf, ↓UGft, ↓UGff, ↓MGtt, ↓MGtf, ↓MGft, ↓MGff, ↓NGtt, ↓NGtf, ↓NGft, ↓NGff, ↓PGtt, ↓PGtf, ↓PGft, ↓PGff, ↓BGtt, ↓BGtf, ↓BGft, ↓BGff, ↓CGtt, ↓CGtf, ↓CGft, ↓CGff, ↓IGtt, ↓IGtf, ↓IGft, ↓IGff, ↓PKt, ↓PKf, ↓CDt, ↓CDf, ↓NOTt, ↓NOTf, ↓NK_ptr, ↓EQf e0]
    by_cases e1 : k = 17
    · simp only [↓VG_u, ↓UG_u, ↓MG_u, ↓NG_u, ↓PG_u, ↓BG_u, ↓CG_u, ↓IG_u, ↓VGtt, ↓VGtf, ↓VGft, ↓VGff, ↓UGtt, ↓UGtf, ↓UGft, ↓UGff, ↓MGtt, ↓MGtf, ↓MGft, ↓MGff, ↓NGtt, ↓NGtf, ↓NGft, ↓NGff, ↓PGtt, ↓PGtf, ↓PGft, ↓PGff, ↓BGtt, ↓BGtf, ↓BGft, ↓BGff, ↓CGtt, ↓CGtf, ↓CGft, ↓CGff, ↓IGtt, ↓IGtf, ↓IGft, ↓IGff, ↓PKt, ↓PKf, ↓CDt, ↓CDf, ↓NOTt, ↓NOTf, ↓NK_ptr, ↓EQt e1]
      exact ⟨by rw [decide_eq_true e1]; simp, by trivial⟩
    · simp only [↓VG_u, ↓UG_u, ↓MG_u, ↓NG_u, ↓PG_u, ↓BG_u, ↓CG_u, ↓IG_u, ↓VGtt, ↓VGtf, ↓VGft, ↓VGff, ↓UGtt, ↓UGtf, ↓UGft, ↓UGff, ↓MGtt, ↓MGtf, ↓MGft, ↓MGff, ↓NGtt, ↓NGtf, ↓NGft, ↓NGff, ↓PGtt, ↓PGtf, ↓PGft, ↓PGff, ↓BGtt, ↓BGtf, ↓BGft, ↓BGff, ↓CGtt, ↓CGtf, ↓CGft, ↓CGff, ↓IGtt, ↓IGtf, ↓IGft, ↓IGff, ↓PKt, ↓PKf, ↓CDt, ↓CDf, ↓NOTt, ↓NOTf, ↓NK_ptr, ↓EQf e1]
      rw [BK_eql]
      try simp only [↓VG_u, ↓UG_u, ↓MG_u, ↓NG_u, ↓PG_u, ↓BG_u, ↓CG_u, ↓IG_u, ↓VGtt, ↓VGtf, ↓VGft, ↓VGff, ↓UGtt, ↓UGtf, ↓UGft, ↓UGff, ↓MGtt, ↓MGtf, ↓MGft, ↓MGff, ↓NGtt, ↓NGtf, ↓NGft, ↓NGff, ↓PGtt, ↓PGtf, ↓PGft, ↓PGff, ↓BGtt, ↓BGtf, ↓BGft, ↓BGff, ↓CGtt, ↓CGtf, ↓CGft, ↓CGff, ↓IGtt, ↓IGtf, ↓IGft, ↓IGff, ↓PKt, ↓PKf, ↓CDt, ↓CDf, ↓NOTt, ↓NOTf, ↓NK_ptr]
      refine ⟨?_, by trivial⟩
      rw [decide_eq_false e0, decide_eq_false e1]
      simp only [Bool.false_or]
      congr 1
theorem reduces_ok (k : Int) (w : World) : Rt Tryd.prog 49 #[.int .u8 k] w fun x w' => x = .bool (reducesK k) ∧ w' = w := by
  refine coll_reduces_calls ?_
  unfold coll_reduces_F reducesK
  by_cases e0 : k = 17
  · simp only [↓VG_u, ↓UG_u, ↓MG_u, ↓NG_u, ↓PG_u, ↓BG_u, ↓CG_u, ↓IG_u, ↓VGtt, ↓VGtf, ↓VGft, ↓VGff, ↓UGtt, ↓UGtf, ↓UGft, ↓UGff, ↓MGtt, ↓MGtf, ↓MGft, ↓MGff, ↓NGtt, ↓NGtf, ↓NGft, ↓NGff, ↓PGtt, ↓PGtf, ↓PGft, ↓PGff, ↓BGtt, ↓BGtf, ↓BGft, ↓BGff, ↓CGtt, ↓CGtf, ↓CGft, ↓CGff, ↓IGtt, ↓IGtf, ↓IGft, ↓IGff, ↓PKt, ↓PKf, ↓CDt, ↓CDf, ↓NOTt, ↓NOTf, ↓NK_ptr, ↓EQt e0]
    exact ⟨by rw [decide_eq_true e0]; rfl, by trivial⟩
  · simp only [↓VG_u, ↓UG_u, ↓MG_u, ↓NG_u, ↓PG_u, ↓BG_u, ↓CG_u, ↓IG_u, ↓VGtt, ↓VGtf, ↓VGft, ↓VGff, ↓UGtt, ↓UGtf, ↓UGft, ↓UGff, ↓MGtt, ↓MGtf, ↓MGft, ↓MGff, ↓NGtt, ↓NGtf, ↓NGft, ↓NGff, ↓PGtt, ↓PGtf, ↓PGft, ↓PGff, ↓BGtt, ↓BGtf, ↓BGft, ↓BGff, ↓CGtt, ↓CGtf, ↓CGft, ↓CGff, ↓IGtt, ↓IGtf, ↓IGft, ↓IGff, ↓PKt, ↓PKf, ↓CDt, ↓CDf, ↓NOTt, ↓NOTf, ↓NK_ptr, ↓EQf e0]
    rw [BK_eql]
    try simp only [↓VG_u, ↓UG_u, ↓MG_u, ↓NG_u, ↓PG_u, ↓BG_u, ↓CG_u, ↓IG_u, ↓VGtt, ↓VGtf, ↓VGft, ↓VGff, ↓UGtt, ↓UGtf, ↓UGft, ↓UGff, ↓MGtt, ↓MGtf, ↓MGft, ↓MGff, ↓NGtt, ↓NGtf, ↓NGft, ↓NGff, ↓PGtt, ↓PGtf, ↓PGft, ↓PGff, ↓BGtt, ↓BGtf, ↓BGft, ↓BGff, ↓CGtt, ↓CGtf, ↓CGft, ↓CGff, ↓IGtt, ↓IGtf, ↓IGft, ↓IGff, ↓PKt, ↓PKf, ↓CDt, ↓CDf, ↓NOTt, ↓NOTf, ↓NK_ptr]
    refine ⟨?_, by trivial⟩
    rw [decide_eq_false e0]
    simp only [Bool.false_or]
    congr 1
section
variable {w : World} {ρ : Sl}
theorem MayP_R1 {w0 : World} {p : Pt} {b : Nat} {R : Bool → Prop} (hb : w.heap[b]? = some (.cells p.enc.toArray tPt (0, 0))) (q3 : ρ 3 = .pointer (some ⟨b, 0, none⟩)) (hm : Mod none_ w0 w) :
    sx fn_ Tryd.prog 50 coll_May_R1 (retK Tryd.prog [ResultVar.tmp 4] fun x w' => x = .bool (decide (p.op ≤ 2) && (decide (p.op = 0) || reducesK p.kind)) ∧ Mod none_ w0 w') ρ w := by
  rw [coll_May_R1_eq]; unfold coll_May_R1_F
  rw [q3]
  simp only [↓(fP2 hb).e]
  by_cases e0 : p.op ≤ 2
  · simp only [↓VG_u, ↓UG_u, ↓MG_u, ↓NG_u, ↓PG_u, ↓BG_u, ↓CG_u, ↓IG_u, ↓VGtt, ↓VGtf, ↓VGft, ↓VGff, ↓UGtt, ↓UGtf, ↓UGft, ↓UGff, ↓MGtt, ↓MGtf, ↓MGft, ↓MGff, ↓NGtt, ↓NGtf, ↓NGft, ↓NGff, ↓PGtt, ↓PGtf, ↓PGft, ↓PGff, ↓BGtt, ↓BGtf, ↓BGft, ↓BGff, ↓CGtt, ↓CGtf, ↓CGft, ↓CGff, ↓IGtt, ↓IGtf, ↓IGft, ↓IGff, ↓PKt, ↓PKf, ↓CDt, ↓CDf, ↓NOTt, ↓NOTf, ↓NK_ptr, ↓LEt e0, ↓(fP2 hb).e]
    by_cases e1 : p.op = 0
    · simp only [↓VG_u, ↓UG_u, ↓MG_u, ↓NG_u, ↓PG_u, ↓BG_u, ↓CG_u, ↓IG_u, ↓VGtt, ↓VGtf, ↓VGft, ↓VGff, ↓UGtt, ↓UGtf, ↓UGft, ↓UGff, ↓MGtt, ↓MGtf, ↓MGft, ↓MGff, ↓NGtt, ↓NGtf, ↓NGft, ↓NGff, ↓PGtt, ↓PGtf, ↓PGft, ↓PGff, ↓BGtt, ↓BGtf, ↓BGft, ↓BGff, ↓CGtt, ↓CGtf, ↓CGft, ↓CGff, ↓IGtt, ↓IGtf, ↓IGft, ↓IGff, ↓PKt, ↓PKf, ↓CDt, ↓CDf, ↓NOTt, ↓NOTf, ↓NK_ptr, ↓EQt e1]
      refine ⟨?_, hm⟩
      rw [decide_eq_true e0, decide_eq_true e1]; rfl
    · simp only [↓VG_u, ↓UG_u, ↓MG_u, ↓NG_u, ↓PG_u, ↓BG_u, ↓CG_u, ↓IG_u, ↓VGtt, ↓VGtf, ↓VGft, ↓VGff, ↓UGtt, ↓UGtf, ↓UGft, ↓UGff, ↓MGtt, ↓MGtf, ↓MGft, ↓MGff, ↓NGtt, ↓NGtf, ↓NGft, ↓NGff, ↓PGtt, ↓PGtf, ↓PGft, ↓PGff, ↓BGtt, ↓BGtf, ↓BGft, ↓BGff, ↓CGtt, ↓CGtf, ↓CGft, ↓CGff, ↓IGtt, ↓IGtf, ↓IGft, ↓IGff, ↓PKt, ↓PKf, ↓CDt, ↓CDf, ↓NOTt, ↓NOTf, ↓NK_ptr, ↓EQf e1, ↓(fP0 hb).e]
      refine CK_st Tryd.func49 rfl rfl (reduces_ok _ _) ?_
      rintro _ w1 ⟨rfl, rfl⟩
      try simp only [↓VG_u, ↓UG_u, ↓MG_u, ↓NG_u, ↓PG_u, ↓BG_u, ↓CG_u, ↓IG_u, ↓VGtt, ↓VGtf, ↓VGft, ↓VGff, ↓UGtt, ↓UGtf, ↓UGft, ↓UGff, ↓MGtt, ↓MGtf, ↓MGft, ↓MGff, ↓NGtt, ↓NGtf, ↓NGft, ↓NGff, ↓PGtt, ↓PGtf, ↓PGft, ↓PGff, ↓BGtt, ↓BGtf, ↓BGft, ↓BGff, ↓CGtt, ↓CGtf, ↓CGft, ↓CGff, ↓IGtt, ↓IGtf, ↓IGft, ↓IGff, ↓PKt, ↓PKf, ↓CDt, ↓CDf, ↓NOTt, ↓NOTf, ↓NK_ptr]
      refine ⟨?_, hm⟩
      rw [decide_eq_true e0, decide_eq_false e1, Bool.true_and, Bool.false_or]
      rfl
  · simp only [↓VG_u, ↓UG_u, ↓MG_u, ↓NG_u, ↓PG_u, ↓BG_u, ↓CG_u, ↓IG_u, ↓VGtt, ↓VGtf, ↓VGft, ↓VGff, ↓UGtt, ↓UGtf, ↓UGft, ↓UGff, ↓MGtt, ↓MGtf, ↓MGft, ↓MGff, ↓NGtt, ↓NGtf, ↓NGft, ↓NGff, ↓PGtt, ↓PGtf, ↓PGft, ↓PGff, ↓BGtt, ↓BGtf, ↓BGft, ↓BGff, ↓CGtt, ↓CGtf, ↓CGft, ↓CGff, ↓IGtt, ↓IGtf, ↓IGft, ↓IGff, ↓PKt, ↓PKf, ↓CDt, ↓CDf, ↓NOTt, ↓NOTf, ↓NK_ptr, ↓LEf (show (2 : Int) < p.op by omega)]
    refine ⟨?_, hm⟩
    rw [decide_eq_false e0]; rfl
end
theorem MayP_ok {w : World} {key : Ky} {v : Value} {r : List Int} (h : RR w v r) (hl : r.length ≤ 1000000) (p : Pt) : Rt Tryd.prog 19 #[grpV key v, p.v] w fun x w' => x = .bool (mayPt r.length p) ∧ Mod none_ w w' := by
  refine coll_May_calls ?_
  unfold coll_May_F
  refine box_k (cs := #[strV key, v]) rfl fun w1 hb1 hm1 hz1 => ?_
  refine box_k (cs := p.enc.toArray) rfl fun w2 hb2 hm2 hz2 => ?_
  have h1 := hm2.blk hb1 id
  have hm := hm1.trans hm2
  simp only [↓(fP0 hb2).e]
  unfold mayPt
  by_cases k0 : 15 ≤ p.kind
  case neg =>
    simp only [↓VG_u, ↓UG_u, ↓MG_u, ↓NG_u, ↓PG_u, ↓BG_u, ↓CG_u, ↓IG_u, ↓VGtt, ↓VGtf, ↓VGft, ↓VGff, ↓UGtt, ↓UGtf, ↓UGft, ↓UGff, ↓MGtt, ↓MGtf, ↓MGft, ↓MGff, ↓NGtt, ↓NGtf, ↓NGft, ↓NGff, ↓PGtt, ↓PGtf, ↓PGft, ↓PGff, ↓BGtt, ↓BGtf, ↓BGft, ↓BGff, ↓CGtt, ↓CGtf, ↓CGft, ↓CGff, ↓IGtt, ↓IGtf, ↓IGft, ↓IGff, ↓PKt, ↓PKf, ↓CDt, ↓CDf, ↓NOTt, ↓NOTf, ↓NK_ptr, ↓LTt (show p.kind < 15 by omega)]
    exact ⟨by rw [decide_eq_false k0]; rfl, hm⟩
  simp only [↓VG_u, ↓UG_u, ↓MG_u, ↓NG_u, ↓PG_u, ↓BG_u, ↓CG_u, ↓IG_u, ↓VGtt, ↓VGtf, ↓VGft, ↓VGff, ↓UGtt, ↓UGtf, ↓UGft, ↓UGff, ↓MGtt, ↓MGtf, ↓MGft, ↓MGff, ↓NGtt, ↓NGtf, ↓NGft, ↓NGff, ↓PGtt, ↓PGtf, ↓PGft, ↓PGff, ↓BGtt, ↓BGtf, ↓BGft, ↓BGff, ↓CGtt, ↓CGtf, ↓CGft, ↓CGff, ↓IGtt, ↓IGtf, ↓IGft, ↓IGff, ↓PKt, ↓PKf, ↓CDt, ↓CDf, ↓NOTt, ↓NOTf, ↓NK_ptr, ↓LTf k0, ↓(fP0 hb2).e]
  by_cases k1 : p.kind ≤ 21
  case neg =>
    simp only [↓VG_u, ↓UG_u, ↓MG_u, ↓NG_u, ↓PG_u, ↓BG_u, ↓CG_u, ↓IG_u, ↓VGtt, ↓VGtf, ↓VGft, ↓VGff, ↓UGtt, ↓UGtf, ↓UGft, ↓UGff, ↓MGtt, ↓MGtf, ↓MGft, ↓MGff, ↓NGtt, ↓NGtf, ↓NGft, ↓NGff, ↓PGtt, ↓PGtf, ↓PGft, ↓PGff, ↓BGtt, ↓BGtf, ↓BGft, ↓BGff, ↓CGtt, ↓CGtf, ↓CGft, ↓CGff, ↓IGtt, ↓IGtf, ↓IGft, ↓IGff, ↓PKt, ↓PKf, ↓CDt, ↓CDf, ↓NOTt, ↓NOTf, ↓NK_ptr, ↓GTt (show (21 : Int) < p.kind by omega)]
    exact ⟨by rw [decide_eq_false k1]; simp, hm⟩
  simp only [↓VG_u, ↓UG_u, ↓MG_u, ↓NG_u, ↓PG_u, ↓BG_u, ↓CG_u, ↓IG_u, ↓VGtt, ↓VGtf, ↓VGft, ↓VGff, ↓UGtt, ↓UGtf, ↓UGft, ↓UGff, ↓MGtt, ↓MGtf, ↓MGft, ↓MGff, ↓NGtt, ↓NGtf, ↓NGft, ↓NGff, ↓PGtt, ↓PGtf, ↓PGft, ↓PGff, ↓BGtt, ↓BGtf, ↓BGft, ↓BGff, ↓CGtt, ↓CGtf, ↓CGft, ↓CGff, ↓IGtt, ↓IGtf, ↓IGft, ↓IGff, ↓PKt, ↓PKf, ↓CDt, ↓CDf, ↓NOTt, ↓NOTf, ↓NK_ptr, ↓GTf k1, ↓(fP1 hb2).e]
  rw [decide_eq_true k0, decide_eq_true k1]
  simp only [Bool.true_and]
  have fin0 : ∀ (ρ : Sl), ρ 14 = .bool true → (∀ x : Bool, x = false → sx fn_ Tryd.prog 50 coll_May_R0 (blkK 0 (seqK (sx fn_ Tryd.prog 50 coll_May_R1 (retK Tryd.prog [ResultVar.tmp 4] fun y w' => y = .bool x ∧ Mod none_ w w')) (retK Tryd.prog [ResultVar.tmp 4] fun y w' => y = .bool x ∧ Mod none_ w w'))) ρ w2) := by
    rintro ρ q x rfl
    rw [coll_May_R0_eq]; unfold coll_May_R0_F
    rw [q]
    exact condT ⟨rfl, hm⟩
  by_cases r0 : 0 ≤ p.root
  case neg =>
    simp only [↓VG_u, ↓UG_u, ↓MG_u, ↓NG_u, ↓PG_u, ↓BG_u, ↓CG_u, ↓IG_u, ↓VGtt, ↓VGtf, ↓VGft, ↓VGff, ↓UGtt, ↓UGtf, ↓UGft, ↓UGff, ↓MGtt, ↓MGtf, ↓MGft, ↓MGff, ↓NGtt, ↓NGtf, ↓NGft, ↓NGff, ↓PGtt, ↓PGtf, ↓PGft, ↓PGff, ↓BGtt, ↓BGtf, ↓BGft, ↓BGff, ↓CGtt, ↓CGtf, ↓CGft, ↓CGff, ↓IGtt, ↓IGtf, ↓IGft, ↓IGff, ↓PKt, ↓PKf, ↓CDt, ↓CDf, ↓NOTt, ↓NOTf, ↓NK_ptr, ↓LTt (show p.root < 0 by omega)]
    exact fin0 _ rfl _ (by rw [decide_eq_false r0]; rfl)
  simp only [↓VG_u, ↓UG_u, ↓MG_u, ↓NG_u, ↓PG_u, ↓BG_u, ↓CG_u, ↓IG_u, ↓VGtt, ↓VGtf, ↓VGft, ↓VGff, ↓UGtt, ↓UGtf, ↓UGft, ↓UGff, ↓MGtt, ↓MGtf, ↓MGft, ↓MGff, ↓NGtt, ↓NGtf, ↓NGft, ↓NGff, ↓PGtt, ↓PGtf, ↓PGft, ↓PGff, ↓BGtt, ↓BGtf, ↓BGft, ↓BGff, ↓CGtt, ↓CGtf, ↓CGft, ↓CGff, ↓IGtt, ↓IGtf, ↓IGft, ↓IGff, ↓PKt, ↓PKf, ↓CDt, ↓CDf, ↓NOTt, ↓NOTf, ↓NK_ptr, ↓LTf r0, ↓(fP1 hb2).e, ↓(fG1 h1).e]
  obtain ⟨A, c, es, _⟩ := reads_cap h
  rw [es, len_sl vIs, ← es]
  by_cases r1 : p.root < r.length
  case neg =>
    simp only [↓VG_u, ↓UG_u, ↓MG_u, ↓NG_u, ↓PG_u, ↓BG_u, ↓CG_u, ↓IG_u, ↓VGtt, ↓VGtf, ↓VGft, ↓VGff, ↓UGtt, ↓UGtf, ↓UGft, ↓UGff, ↓MGtt, ↓MGtf, ↓MGft, ↓MGff, ↓NGtt, ↓NGtf, ↓NGft, ↓NGff, ↓PGtt, ↓PGtf, ↓PGft, ↓PGff, ↓BGtt, ↓BGtf, ↓BGft, ↓BGff, ↓CGtt, ↓CGtf, ↓CGft, ↓CGff, ↓IGtt, ↓IGtf, ↓IGft, ↓IGff, ↓PKt, ↓PKf, ↓CDt, ↓CDf, ↓NOTt, ↓NOTf, ↓NK_ptr, ↓GEt (show (r.length : Int) ≤ p.root by omega)]
    exact fin0 _ rfl _ (by rw [decide_eq_false r1]; simp)
  simp only [↓VG_u, ↓UG_u, ↓MG_u, ↓NG_u, ↓PG_u, ↓BG_u, ↓CG_u, ↓IG_u, ↓VGtt, ↓VGtf, ↓VGft, ↓VGff, ↓UGtt, ↓UGtf, ↓UGft, ↓UGff, ↓MGtt, ↓MGtf, ↓MGft, ↓MGff, ↓NGtt, ↓NGtf, ↓NGft, ↓NGff, ↓PGtt, ↓PGtf, ↓PGft, ↓PGff, ↓BGtt, ↓BGtf, ↓BGft, ↓BGff, ↓CGtt, ↓CGtf, ↓CGft, ↓CGff, ↓IGtt, ↓IGtf, ↓IGft, ↓IGff, ↓PKt, ↓PKf, ↓CDt, ↓CDf, ↓NOTt, ↓NOTf, ↓NK_ptr, ↓GEf r1, ↓(fP1 hb2).e]
  rw [decide_eq_true r0, decide_eq_true r1]
  simp only [Bool.true_and]
  have fin1 : ∀ (ρ : Sl), ρ 14 = .bool false → ρ 3 = .pointer (some ⟨w1.heap.size, 0, none⟩) → (decide (p.root = 0) || rootedK p.kind) = true → sx fn_ Tryd.prog 50 coll_May_R0 (blkK 0 (seqK (sx fn_ Tryd.prog 50 coll_May_R1 (retK Tryd.prog [ResultVar.tmp 4] fun y w' => y = .bool ((decide (p.root = 0) || rootedK p.kind) && (decide (p.op ≤ 2) && (decide (p.op = 0) || reducesK p.kind))) ∧ Mod none_ w w')) (retK Tryd.prog [ResultVar.tmp 4] fun y w' => y = .bool ((decide (p.root = 0) || rootedK p.kind) && (decide (p.op ≤ 2) && (decide (p.op = 0) || reducesK p.kind))) ∧ Mod none_ w w'))) ρ w2 := by
    rintro ρ q q3 hr
    rw [coll_May_R0_eq]; unfold coll_May_R0_F
    rw [q]
    refine condF ?_
    rw [bk_n, sq_n, hr, Bool.true_and]
    exact MayP_R1 (R := fun _ => True) hb2 q3 hm
  by_cases z : 0 < p.root
  · simp only [↓VG_u, ↓UG_u, ↓MG_u, ↓NG_u, ↓PG_u, ↓BG_u, ↓CG_u, ↓IG_u, ↓VGtt, ↓VGtf, ↓VGft, ↓VGff, ↓UGtt, ↓UGtf, ↓UGft, ↓UGff, ↓MGtt, ↓MGtf, ↓MGft, ↓MGff, ↓NGtt, ↓NGtf, ↓NGft, ↓NGff, ↓PGtt, ↓PGtf, ↓PGft, ↓PGff, ↓BGtt, ↓BGtf, ↓BGft, ↓BGff, ↓CGtt, ↓CGtf, ↓CGft, ↓CGff, ↓IGtt, ↓IGtf, ↓IGft, ↓IGff, ↓PKt, ↓PKf, ↓CDt, ↓CDf, ↓NOTt, ↓NOTf, ↓NK_ptr, ↓GTt z, ↓(fP0 hb2).e]
    refine CK_st Tryd.func48 rfl rfl (rooted_ok _ _) ?_
    rintro _ w3 ⟨rfl, rfl⟩
    cases hk : rootedK p.kind with
    | true =>
      try simp only [↓VG_u, ↓UG_u, ↓MG_u, ↓NG_u, ↓PG_u, ↓BG_u, ↓CG_u, ↓IG_u, ↓VGtt, ↓VGtf, ↓VGft, ↓VGff, ↓UGtt, ↓UGtf, ↓UGft, ↓UGff, ↓MGtt, ↓MGtf, ↓MGft, ↓MGff, ↓NGtt, ↓NGtf, ↓NGft, ↓NGff, ↓PGtt, ↓PGtf, ↓PGft, ↓PGff, ↓BGtt, ↓BGtf, ↓BGft, ↓BGff, ↓CGtt, ↓CGtf, ↓CGft, ↓CGff, ↓IGtt, ↓IGtf, ↓IGft, ↓IGff, ↓PKt, ↓PKf, ↓CDt, ↓CDf, ↓NOTt, ↓NOTf, ↓NK_ptr]
      exact hk ▸ fin1 _ rfl rfl (by rw [hk]; simp)
    | false =>
      try simp only [↓VG_u, ↓UG_u, ↓MG_u, ↓NG_u, ↓PG_u, ↓BG_u, ↓CG_u, ↓IG_u, ↓VGtt, ↓VGtf, ↓VGft, ↓VGff, ↓UGtt, ↓UGtf, ↓UGft, ↓UGff, ↓MGtt, ↓MGtf, ↓MGft, ↓MGff, ↓NGtt, ↓NGtf, ↓NGft, ↓NGff, ↓PGtt, ↓PGtf, ↓PGft, ↓PGff, ↓BGtt, ↓BGtf, ↓BGft, ↓BGff, ↓CGtt, ↓CGtf, ↓CGft, ↓CGff, ↓IGtt, ↓IGtf, ↓IGft, ↓IGff, ↓PKt, ↓PKf, ↓CDt, ↓CDf, ↓NOTt, ↓NOTf, ↓NK_ptr]
      exact fin0 _ rfl _ (by rw [decide_eq_false (show ¬ p.root = 0 by omega)]; rfl)
  · simp only [↓VG_u, ↓UG_u, ↓MG_u, ↓NG_u, ↓PG_u, ↓BG_u, ↓CG_u, ↓IG_u, ↓VGtt, ↓VGtf, ↓VGft, ↓VGff, ↓UGtt, ↓UGtf, ↓UGft, ↓UGff, ↓MGtt, ↓MGtf, ↓MGft, ↓MGff, ↓NGtt, ↓NGtf, ↓NGft, ↓NGff, ↓PGtt, ↓PGtf, ↓PGft, ↓PGff, ↓BGtt, ↓BGtf, ↓BGft, ↓BGff, ↓CGtt, ↓CGtf, ↓CGft, ↓CGff, ↓IGtt, ↓IGtf, ↓IGft, ↓IGff, ↓PKt, ↓PKf, ↓CDt, ↓CDf, ↓NOTt, ↓NOTf, ↓NK_ptr, ↓GTf (show p.root ≤ 0 by omega)]
    exact fin1 _ rfl rfl (by rw [decide_eq_true (show p.root = 0 by omega)]; rfl)
end Go.Proofs.YtandbmnhghmcgaaDoor.Col
set_option linter.unusedVariables false
set_option linter.unusedSimpArgs false
set_option maxRecDepth 8000
namespace Go.X
open Go Go.RowKit
structure Re where
  key : Ky
  b : Nat
  ro : Nat
  rv : Value
  pv : Value
  vs : List Value
  g : List Int
def Re.ent (e : Re) : Ent Ky := ⟨e.key, .pointer (some ⟨e.ro, 0, none⟩), e.b⟩
structure CV where
  mb : Nat
  clk : Nat
  es : List Re
def CF (p : Nat) (V : CV) (b : Nat) : Prop := b = p ∨ b = V.mb ∨ ∃ e ∈ V.es, b = e.ro ∨ sb e.pv b ∨ ∃ v ∈ e.vs, sb v b
theorem ent_find {es : List Re} {k : Ky} : (findE k (es.map Re.ent) 0).map (·.2) = (es.find? fun e => decide (e.key = k)).map fun e => .pointer (some ⟨e.ro, 0, none⟩) := by
  rw [findE_map, List.find?_map]
  simp only [Option.map_map]
  rfl
def isT (t : TypeId) (w : World) (b : Nat) : Prop := ∃ cs fr, w.heap[b]? = some (.cells cs t fr)
theorem isT_ne {t u : TypeId} {w : World} {b : Nat} (h : isT t w b) (k : isT u w b) (hn : t ≠ u) : False := by
  obtain ⟨cs, fr, h⟩ := h
  obtain ⟨ds, gr, k⟩ := k
  rw [h] at k
  injection k with k
  injection k with _ k
  exact hn k
theorem isT_own {w : World} {base : Nat} {e : TypeId} {s : Nat} {v : Value} {n : Nat} {xs : List Value} (h : w.ownsRow base e s v n xs) {b : Nat} (hb : sb v b) : isT e w b := by
  obtain ⟨cur, hc⟩ := owns_blk h hb
  exact ⟨cur, _, hc⟩
theorem isT_lt {t : TypeId} {w : World} {b : Nat} (h : isT t w b) : b < w.heap.size := by
  obtain ⟨_, _, h⟩ := h
  exact blk_lt h
end Go.X
namespace Go.Proofs.YtandbmnhghmcgaaDoor.Col
open Go Go.X Go.RowKit Go.Proofs.YtandbmnhghmcgaaDoor.XF Go.Proofs.YtandbmnhghmcgaaDoor.XK
abbrev tC : TypeId := 72
abbrev tRo : TypeId := 82
abbrev tPs : TypeId := 80
abbrev tMp : TypeId := 70
theorem uC : Tryd.prog.underlying 24 = some (.pointer tC) := by kernel_rfl
theorem uRo : Tryd.prog.underlying 76 = some (.pointer tRo) := by kernel_rfl
theorem uMp : Tryd.prog.underlying tMp = some (.map 9 76) := by kernel_rfl
theorem vPs : Tryd.prog.underlying tPs = some (.slice tPts) := by kernel_rfl
theorem cPs : Tryd.prog.cellsOf tPts = 1 := by kernel_rfl
theorem zRo : (Tryd.prog.info? 76).bind (·.zero) = some (.pointer none) := by kernel_rfl
theorem map_ne (x y : Operand) {w : World} {K : Value → World → Prop} (b : Nat) : BK Tryd.prog .eql tMp x y (.map (some b)) (.map none) w K = K (.bool false) w := BK_of (by kernel_rfl) (by kernel_rfl)
structure RoAt (w : World) (L : List Br) (e : Re) : Prop where
  grp : grpC L e.key = some e.g
  blk : w.heap[e.ro]? = some (.cells #[strV e.key, e.rv, e.pv] tRo (0, 0))
  rk : w.ownsRow 0 tI 1 e.rv e.g.length (ints e.g)
  len : e.vs.length = e.g.length
  row : w.ownsRow 0 tPts 1 e.pv e.g.length e.vs
  pt : ∀ (i : Nat) x v, e.g[i]? = some x → e.vs[i]? = some v → w.ownsRow 0 tPt 6 v (partsC L e.key x).length ((partsC L e.key x).flatMap Pt.enc)
  ne : ∀ (i j : Nat) v u, e.vs[i]? = some v → e.vs[j]? = some u → i ≠ j → ∀ b, sb v b → ¬ sb u b
structure CAt (w : World) (p : Nat) (loose : Bool) (L : List Br) (V : CV) : Prop where
  blk : w.heap[p]? = some (.cells #[.bool loose, .map (some V.mb)] tC (0, 0))
  map : IsMap strV w V.mb (V.es.map Re.ent) V.clk
  kd : ∀ (i j : Nat) a b, V.es[i]? = some a → V.es[j]? = some b → a.key = b.key → i = j
  bd : ∀ (i j : Nat) a b, V.es[i]? = some a → V.es[j]? = some b → a.b = b.b → i = j
  bc : ∀ e ∈ V.es, e.b < V.clk
  cov : ∀ k g, grpC L k = some g → ∃ e ∈ V.es, e.key = k
  ro : ∀ e ∈ V.es, RoAt w L e
  dist : ∀ (i j : Nat) a b, V.es[i]? = some a → V.es[j]? = some b → i ≠ j → a.ro ≠ b.ro ∧ (∀ g, sb a.pv g → ¬ sb b.pv g) ∧ ∀ v ∈ a.vs, ∀ u ∈ b.vs, ∀ g, sb v g → ¬ sb u g
  inv : CInv L
def RB (V : CV) (b : Nat) : Prop := ∃ e ∈ V.es, sb e.rv b
structure CFr (p : Nat) (w : World) (V : CV) (w' : World) (V' : CV) : Prop where
  mod : Mod (CF p V) w w'
  f : ∀ b, CF p V' b → CF p V b ∨ w.heap.size ≤ b
  r : ∀ b, RB V' b → RB V b ∨ w.heap.size ≤ b
theorem CFr.calm {p : Nat} {w w' : World} {V : CV} (h : Mod none_ w w') : CFr p w V w' V := ⟨h.mono fun _ _ q => q.elim, fun _ q => .inl q, fun _ q => .inl q⟩
theorem CFr.trans {p : Nat} {w w1 w2 : World} {V V1 V2 : CV} (h : CFr p w V w1 V1) (k : CFr p w1 V1 w2 V2) : CFr p w V w2 V2 := by
  have hs := h.mod.size
  refine ⟨h.mod.then k.mod fun i hi q => ?_, fun b q => ?_, fun b q => ?_⟩
  · rcases h.f i q with z | z
    · exact z
    · omega
  · rcases k.f b q with z | z
    · exact h.f b z
    · right; omega
  · rcases k.r b q with z | z
    · exact h.r b z
    · right; omega
section
variable {w : World} {p : Nat} {loose : Bool} {L : List Br} {V : CV}
theorem RoAt.blks {e : Re} (h : RoAt w L e) {b : Nat} (hb : b = e.ro ∨ sb e.pv b ∨ ∃ v ∈ e.vs, sb v b) : isT tRo w b ∨ isT tPts w b ∨ isT tPt w b := by
  rcases hb with rfl | hb | ⟨v, hv, hb⟩
  · exact .inl ⟨_, _, h.blk⟩
  · exact .inr (.inl (isT_own h.row hb))
  · obtain ⟨i, hi, rfl⟩ := List.mem_iff_getElem.1 hv
    have hg : e.g[i]? = some (e.g[i]'(by have := h.len; omega)) := List.getElem?_eq_getElem _
    exact .inr (.inr (isT_own (h.pt i _ _ hg (List.getElem?_eq_getElem hi)) hb))
theorem RoAt.mod {S : Nat → Prop} {w' : World} {e : Re} (h : RoAt w L e) (hm : Mod S w w') (hS : ∀ b, (b = e.ro ∨ sb e.pv b ∨ ∃ v ∈ e.vs, sb v b) → ¬ S b) (hI : ∀ b, isT tI w b → ¬ S b) : RoAt w' L e :=
  ⟨h.grp, hm.blk h.blk (hS _ (.inl rfl)), owns_mod h.rk hm fun k hk => hI k (isT_own h.rk hk), h.len, owns_mod h.row hm fun k hk => hS k (.inr (.inl hk)),
    fun i x v hx hv => owns_mod (h.pt i x v hx hv) hm fun k hk => hS k (.inr (.inr ⟨v, List.mem_of_getElem? hv, hk⟩)), h.ne⟩
theorem CAt.mod {S : Nat → Prop} {w' : World} (h : CAt w p loose L V) (hm : Mod S w w') (hS : ∀ b, CF p V b → ¬ S b) (hI : ∀ b, isT tI w b → ¬ S b) : CAt w' p loose L V :=
  ⟨hm.blk h.blk (hS _ (.inl rfl)), h.map.mod hm (hS _ (.inr (.inl rfl))), h.kd, h.bd, h.bc, h.cov, fun e he => (h.ro e he).mod hm (fun b hb => hS b (.inr (.inr ⟨e, he, hb⟩))) hI, h.dist, h.inv⟩
theorem CAt.calm {w' : World} (h : CAt w p loose L V) (hm : Mod none_ w w') : CAt w' p loose L V := h.mod hm (fun _ _ q => q) fun _ _ q => q
theorem CAt.typ (h : CAt w p loose L V) {b : Nat} (hb : CF p V b) : ¬ isT tI w b := by
  intro q
  rcases hb with rfl | rfl | ⟨e, he, hb⟩
  · exact isT_ne q ⟨_, _, h.blk⟩ (by decide)
  · obtain ⟨cs, fr, q⟩ := q
    have := h.map
    unfold IsMap at this
    rw [this] at q
    injection q with q
    cases q
  · rcases (h.ro e he).blks hb with z | z | z
    · exact isT_ne q z (by decide)
    · exact isT_ne q z (by decide)
    · exact isT_ne q z (by decide)
theorem CAt.old (h : CAt w p loose L V) {b : Nat} (hb : CF p V b) : b < w.heap.size := by
  rcases hb with rfl | rfl | ⟨e, he, hb⟩
  · exact X.blk_lt h.blk
  · exact X.blk_lt h.map
  · rcases (h.ro e he).blks hb with z | z | z <;> exact isT_lt z
theorem CAt.beside {w' : World} {p' : Nat} {loose' : Bool} {L' : List Br} {V' V'' : CV} (h : CAt w p loose L V) (h' : CAt w p' loose' L' V') (hd : ∀ b, CF p V b → ¬ CF p' V' b) (hf : CFr p' w V' w' V'') : CAt w' p loose L V :=
  h.mod hf.mod hd fun b hb q => h'.typ q hb
theorem f_loose (h : CAt w p loose L V) : FO Tryd.prog w tC 0 0 ⟨p, 0, none⟩ 4 (.bool loose) := FO.blk h.blk (by kernel_rfl) vB rfl rfl
theorem f_all (h : CAt w p loose L V) : FO Tryd.prog w tC 1 1 ⟨p, 0, none⟩ tMp (.map (some V.mb)) := FO.blk h.blk (by kernel_rfl) uMp rfl rfl
theorem none_ok (h : CAt w p loose L V) : Rt Tryd.prog 34 #[.pointer (some ⟨p, 0, none⟩)] w fun v w' => v = .bool false ∧ w' = w := by
  refine coll_Coll_none_calls ?_
  unfold coll_Coll_none_F
  rw [BK_eqlP uC]
  simp only [Option.isNone_some, ↓VG_u, ↓UG_u, ↓MG_u, ↓NG_u, ↓PG_u, ↓BG_u, ↓CG_u, ↓IG_u, ↓VGtt, ↓VGtf, ↓VGft, ↓VGff, ↓UGtt, ↓UGtf, ↓UGft, ↓UGff, ↓MGtt, ↓MGtf, ↓MGft, ↓MGff, ↓NGtt, ↓NGtf, ↓NGft, ↓NGff, ↓PGtt, ↓PGtf, ↓PGft, ↓PGff, ↓BGtt, ↓BGtf, ↓BGft, ↓BGff, ↓CGtt, ↓CGtf, ↓CGft, ↓CGff, ↓IGtt, ↓IGtf, ↓IGft, ↓IGff, ↓PKt, ↓PKf, ↓CDt, ↓CDf, ↓NOTt, ↓NOTf, ↓NK_ptr, ↓(f_all h).e]
  rw [map_ne]
  try simp only [↓VG_u, ↓UG_u, ↓MG_u, ↓NG_u, ↓PG_u, ↓BG_u, ↓CG_u, ↓IG_u, ↓VGtt, ↓VGtf, ↓VGft, ↓VGff, ↓UGtt, ↓UGtf, ↓UGft, ↓UGff, ↓MGtt, ↓MGtf, ↓MGft, ↓MGff, ↓NGtt, ↓NGtf, ↓NGft, ↓NGff, ↓PGtt, ↓PGtf, ↓PGft, ↓PGff, ↓BGtt, ↓BGtf, ↓BGft, ↓BGff, ↓CGtt, ↓CGtf, ↓CGft, ↓CGff, ↓IGtt, ↓IGtf, ↓IGft, ↓IGff, ↓PKt, ↓PKf, ↓CDt, ↓CDf, ↓NOTt, ↓NOTf, ↓NK_ptr]
  exact ⟨by first | trivial | rfl, by first | trivial | rfl⟩
theorem CAt.find (h : CAt w p loose L V) (k : Ky) : (grpC L k = none ∧ findE k (V.es.map Re.ent) 0 = none) ∨ ∃ e ∈ V.es, e.key = k ∧ ∃ i, findE k (V.es.map Re.ent) 0 = some (i, .pointer (some ⟨e.ro, 0, none⟩)) := by
  have hf := ent_find (es := V.es) (k := k)
  cases hq : V.es.find? (fun e => decide (e.key = k)) with
  | none =>
    rw [hq] at hf
    left
    refine ⟨?_, by simpa using hf⟩
    cases hg : grpC L k with
    | none => rfl
    | some g =>
      obtain ⟨e, he, hk⟩ := h.cov k g hg
      exact absurd (List.find?_eq_none.1 hq e he) (by simp [hk])
  | some e =>
    rw [hq] at hf
    right
    refine ⟨e, List.mem_of_find?_eq_some hq, by simpa using List.find?_some hq, ?_⟩
    cases hz : findE k (V.es.map Re.ent) 0 with
    | none => rw [hz] at hf; cases hf
    | some x =>
      rw [hz] at hf
      obtain ⟨i, u⟩ := x
      simp only [Option.map_some, Option.some.injEq] at hf
      exact ⟨i, by rw [hf]⟩
theorem CAt.look (h : CAt w p loose L V) (k : Ky) (w' : World) (hm : Mod none_ w w') : (grpC L k = none ∧ (Instr.lookup tMp (.map (some V.mb)) (strV k) false).run Tryd.prog w' = .ok (.pointer none) w') ∨
    ∃ e ∈ V.es, e.key = k ∧ (Instr.lookup tMp (.map (some V.mb)) (strV k) false).run Tryd.prog w' = .ok (.pointer (some ⟨e.ro, 0, none⟩)) w' := by
  have hl := run_look KT uMp (h.calm hm).map zRo k false
  rcases h.find k with ⟨h1, h2⟩ | ⟨e, he, hk, i, hi⟩
  · rw [h2] at hl
    exact .inl ⟨h1, hl⟩
  · rw [hi] at hl
    exact .inr ⟨e, he, hk, hl⟩
theorem f_key {e : Re} (h : RoAt w L e) : FO Tryd.prog w tRo 1 2 ⟨e.ro, 0, none⟩ tPs e.pv := FO.blk h.blk (by kernel_rfl) vPs rfl rfl
theorem ld_g {e : Re} (h : RoAt w L e) : ∀ w', Mod none_ w w' → (Instr.loadAt tG (.pointer (some ⟨e.ro, 0, none⟩))).run Tryd.prog w' = .ok (grpV e.key e.rv) w' := by
  intro w' hm
  have hb := hm.blk h.blk id
  refine run_ldA (cs := [strV e.key, e.rv]) Tryd.underlying32 rfl (by kernel_rfl) fun j v hj => ?_
  rw [add_pl, cell_blk hb, Nat.zero_add]
  match j, hj with
  | 0, hj => simpa using hj
  | 1, hj => simpa using hj
  | n + 2, hj => simp at hj
def OfP (L : List Br) (V : CV) (k : Ky) (rank : Int) (v : Value) : Prop :=
  (grpC L k = none ∧ v = .tuple #[.pointer none, .int .i64 0, .bool false]) ∨ ∃ e ∈ V.es, e.key = k ∧ v = .tuple #[.pointer (some ⟨e.ro, 0, none⟩), .int .i64 (numI e.g rank), .bool (decide (rank ∈ e.g))]
theorem of_ok (h : CAt w p loose L V) (hG : ∀ e ∈ V.es, e.g.length ≤ 1000000) (k : Ky) (rank : Int) : Rt Tryd.prog 47 #[.pointer (some ⟨p, 0, none⟩), strV k, .int .i64 rank] w fun v w' => OfP L V k rank v ∧ Mod none_ w w' := by
  refine coll_Coll_of_calls ?_
  unfold coll_Coll_of_F
  refine CK_st Tryd.func34 rfl rfl (none_ok h) ?_
  rintro _ w1 ⟨rfl, rfl⟩
  simp only [↓VG_u, ↓UG_u, ↓MG_u, ↓NG_u, ↓PG_u, ↓BG_u, ↓CG_u, ↓IG_u, ↓VGtt, ↓VGtf, ↓VGft, ↓VGff, ↓UGtt, ↓UGtf, ↓UGft, ↓UGff, ↓MGtt, ↓MGtf, ↓MGft, ↓MGff, ↓NGtt, ↓NGtf, ↓NGft, ↓NGff, ↓PGtt, ↓PGtf, ↓PGft, ↓PGff, ↓BGtt, ↓BGtf, ↓BGft, ↓BGff, ↓CGtt, ↓CGtf, ↓CGft, ↓CGff, ↓IGtt, ↓IGtf, ↓IGft, ↓IGff, ↓PKt, ↓PKf, ↓CDt, ↓CDf, ↓NOTt, ↓NOTf, ↓NK_ptr, ↓(f_all h).e]
  rcases h.look k w1 (Mod.refl _ _) with ⟨hg, hl⟩ | ⟨e, he, hk, hl⟩
  · refine VK_of hl ?_
    try simp only [↓VG_u, ↓UG_u, ↓MG_u, ↓NG_u, ↓PG_u, ↓BG_u, ↓CG_u, ↓IG_u, ↓VGtt, ↓VGtf, ↓VGft, ↓VGff, ↓UGtt, ↓UGtf, ↓UGft, ↓UGff, ↓MGtt, ↓MGtf, ↓MGft, ↓MGff, ↓NGtt, ↓NGtf, ↓NGft, ↓NGff, ↓PGtt, ↓PGtf, ↓PGft, ↓PGff, ↓BGtt, ↓BGtf, ↓BGft, ↓BGff, ↓CGtt, ↓CGtf, ↓CGft, ↓CGff, ↓IGtt, ↓IGtf, ↓IGft, ↓IGff, ↓PKt, ↓PKf, ↓CDt, ↓CDf, ↓NOTt, ↓NOTf, ↓NK_ptr]
    rw [BK_eqlP uRo]
    simp only [Option.isNone_none, ↓VG_u, ↓UG_u, ↓MG_u, ↓NG_u, ↓PG_u, ↓BG_u, ↓CG_u, ↓IG_u, ↓VGtt, ↓VGtf, ↓VGft, ↓VGff, ↓UGtt, ↓UGtf, ↓UGft, ↓UGff, ↓MGtt, ↓MGtf, ↓MGft, ↓MGff, ↓NGtt, ↓NGtf, ↓NGft, ↓NGff, ↓PGtt, ↓PGtf, ↓PGft, ↓PGff, ↓BGtt, ↓BGtf, ↓BGft, ↓BGff, ↓CGtt, ↓CGtf, ↓CGft, ↓CGff, ↓IGtt, ↓IGtf, ↓IGft, ↓IGff, ↓PKt, ↓PKf, ↓CDt, ↓CDf, ↓NOTt, ↓NOTf, ↓NK_ptr]
    exact ⟨.inl ⟨hg, rfl⟩, Mod.refl _ _⟩
  · refine VK_of hl ?_
    try simp only [↓VG_u, ↓UG_u, ↓MG_u, ↓NG_u, ↓PG_u, ↓BG_u, ↓CG_u, ↓IG_u, ↓VGtt, ↓VGtf, ↓VGft, ↓VGff, ↓UGtt, ↓UGtf, ↓UGft, ↓UGff, ↓MGtt, ↓MGtf, ↓MGft, ↓MGff, ↓NGtt, ↓NGtf, ↓NGft, ↓NGff, ↓PGtt, ↓PGtf, ↓PGft, ↓PGff, ↓BGtt, ↓BGtf, ↓BGft, ↓BGff, ↓CGtt, ↓CGtf, ↓CGft, ↓CGff, ↓IGtt, ↓IGtf, ↓IGft, ↓IGff, ↓PKt, ↓PKf, ↓CDt, ↓CDf, ↓NOTt, ↓NOTf, ↓NK_ptr]
    rw [BK_eqlP uRo]
    simp only [Option.isNone_some, ↓VG_u, ↓UG_u, ↓MG_u, ↓NG_u, ↓PG_u, ↓BG_u, ↓CG_u, ↓IG_u, ↓VGtt, ↓VGtf, ↓VGft, ↓VGff, ↓UGtt, ↓UGtf, ↓UGft, ↓UGff, ↓MGtt, ↓MGtf, ↓MGft, ↓MGff, ↓NGtt, ↓NGtf, ↓NGft, ↓NGff, ↓PGtt, ↓PGtf, ↓PGft, ↓PGff, ↓BGtt, ↓BGtf, ↓BGft, ↓BGff, ↓CGtt, ↓CGtf, ↓CGft, ↓CGff, ↓IGtt, ↓IGtf, ↓IGft, ↓IGff, ↓PKt, ↓PKf, ↓CDt, ↓CDf, ↓NOTt, ↓NOTf, ↓NK_ptr, ↓(f_all h).e]
    refine VK_of hl ?_
    have hr := h.ro e he
    simp only [↓VG_u, ↓UG_u, ↓MG_u, ↓NG_u, ↓PG_u, ↓BG_u, ↓CG_u, ↓IG_u, ↓VGtt, ↓VGtf, ↓VGft, ↓VGff, ↓UGtt, ↓UGtf, ↓UGft, ↓UGff, ↓MGtt, ↓MGtf, ↓MGft, ↓MGff, ↓NGtt, ↓NGtf, ↓NGft, ↓NGff, ↓PGtt, ↓PGtf, ↓PGft, ↓PGff, ↓BGtt, ↓BGtf, ↓BGft, ↓BGff, ↓CGtt, ↓CGtf, ↓CGft, ↓CGff, ↓IGtt, ↓IGtf, ↓IGft, ↓IGff, ↓PKt, ↓PKf, ↓CDt, ↓CDf, ↓NOTt, ↓NOTf, ↓NK_ptr]
    rw [fo (show fieldOff Tryd.prog tRo 0 = some 0 by kernel_rfl), add_pl]
    refine VK_of (ld_g hr _ (Mod.refl _ _)) ?_
    refine CK_st Tryd.func35 rfl rfl (Number_ok (reads_of_owns hr.rk) (hG e he) rank) ?_
    rintro _ w2 ⟨rfl, hm2⟩
    rw [extract_ok (v := .int .i64 (numI e.g rank)) rfl, extract_ok (v := .bool (decide (rank ∈ e.g))) rfl]
    rw [coll_Coll_of_R0_eq]; unfold coll_Coll_of_R0_F
    exact ⟨.inr ⟨e, he, hk, rfl⟩, hm2⟩
end
end Go.Proofs.YtandbmnhghmcgaaDoor.Col
set_option linter.unusedVariables false
set_option linter.unusedSimpArgs false
set_option maxRecDepth 8000
namespace Go.X
open Go Go.RowKit
end Go.X
namespace Go.Proofs.YtandbmnhghmcgaaDoor.Col
open Go Go.X Go.RowKit Go.Proofs.YtandbmnhghmcgaaDoor.XF Go.Proofs.YtandbmnhghmcgaaDoor.XK
section
variable {w : World} {p : Nat} {loose : Bool} {L : List Br} {V : CV} {e : Re}
theorem RoAt.calm {w' : World} (h : RoAt w L e) (hm : Mod none_ w w') : RoAt w' L e := h.mod hm (fun _ _ q => q) fun _ _ q => q
theorem RoAt.vs_at (h : RoAt w L e) {n : Nat} {x : Int} (hx : e.g[n]? = some x) : ∃ v, e.vs[n]? = some v ∧ w.ownsRow 0 tPt 6 v (partsC L e.key x).length ((partsC L e.key x).flatMap Pt.enc) := by
  have hl := h.len
  have := (List.getElem?_eq_some_iff.1 hx).1
  exact ⟨_, List.getElem?_eq_getElem (by omega), h.pt n x _ hx (List.getElem?_eq_getElem (by omega))⟩
theorem ixPs {x : Int} {n : Nat} {v : Value} (h : RoAt w L e) (hv : e.vs[n]? = some v) {K : Value → Value → World → Prop} (hK : ∀ y, K y v w) : VK Tryd.prog (Instr.indexAt tPs e.pv (.int .i64 (n : Int))) w fun y w => VK Tryd.prog (Instr.loadAt tPts y) w (K y) :=
  ixld vPs cPs vPts rfl (reads_of_owns h.row) (by omega) (by rw [Int.toNat_natCast]; exact hv) hK
theorem ldPt {v : Value} {l : List Pt} {k : Int} {q : Pt} (h : reads w 6 v l.length (l.flatMap Pt.enc)) (h0 : 0 ≤ k) (hk : l[k.toNat]? = some q) {K : Value → Value → World → Prop} (hK : ∀ y, K y q.v w) : VK Tryd.prog (Instr.indexAt tPts v (.int .i64 k)) w fun y w => VK Tryd.prog (Instr.loadAt tPt y) w (K y) := by
  have hlt := (List.getElem?_eq_some_iff.1 hk).1
  refine ixldA vPts cPt Tryd.underlying34 rfl (n := l.length) h h0 (by omega) fun y => ?_
  rw [fl_drop (k := 5 + 1) Pt.enc_len hk]
  exact hK y
theorem part_ok (h : RoAt w L e) {n : Nat} {x : Int} (hx : e.g[n]? = some x) (k : Int) : Rt Tryd.prog 58 #[.pointer (some ⟨e.ro, 0, none⟩), .int .i64 (n : Int), .int .i64 k] w fun v w' => v = .tuple #[((partC L e.key x k).getD zPt).v, .bool (partC L e.key x k).isSome] ∧ Mod none_ w w' := by
  obtain ⟨v, hv, hr⟩ := h.vs_at hx
  refine coll_rows_part_calls ?_
  unfold coll_rows_part_F
  refine al_k (cs := zPt.enc.toArray) zPt_z rfl _ fun w1 hb1 hm1 hz1 => ?_
  have h1 := h.calm hm1
  have hr1 := reads_mod (reads_of_owns hr) hm1 (fun _ _ _ => id)
  have fin0 : partC L e.key x k = none → VK Tryd.prog (Instr.build tPt [].toArray) w1 (fun x22 w' => UK Tryd.prog (Instr.storeAt tPt (.pointer (some ⟨w.heap.size, 0, none⟩)) x22) w' fun _ w'' => ∃ u, (do loadVar tPt (← asAddr (.pointer (some ⟨w.heap.size, 0, none⟩))) : Sem Value).run Tryd.prog w'' = .ok u w'' ∧
      (Value.tuple #[u, .bool false] = .tuple #[((partC L e.key x k).getD zPt).v, .bool (partC L e.key x k).isSome] ∧ Mod none_ w w'')) := by
    intro hp
    rw [build_ok zPt_b]
    refine stS (old := zPt.enc.toArray) (cs := zPt.enc.toArray) rfl rfl iPt rfl (Pt.enc_one _) hb1 fun w2 hb2 hm2 hz2 => ?_
    refine rsCell (R := fun u w'' => Value.tuple #[u, .bool false] = .tuple #[((partC L e.key x k).getD zPt).v, .bool (partC L e.key x k).isSome] ∧ Mod none_ w w'') (cs := zPt.enc.toArray) rfl Tryd.underlying34 rfl iPt hb2 ⟨?_, hm1.then hm2 fun i hi q => by omega⟩
    rw [hp]; rfl
  by_cases k0 : k < 0
  · simp only [↓VG_u, ↓UG_u, ↓MG_u, ↓NG_u, ↓PG_u, ↓BG_u, ↓CG_u, ↓IG_u, ↓VGtt, ↓VGtf, ↓VGft, ↓VGff, ↓UGtt, ↓UGtf, ↓UGft, ↓UGff, ↓MGtt, ↓MGtf, ↓MGft, ↓MGff, ↓NGtt, ↓NGtf, ↓NGft, ↓NGff, ↓PGtt, ↓PGtf, ↓PGft, ↓PGff, ↓BGtt, ↓BGtf, ↓BGft, ↓BGff, ↓CGtt, ↓CGtf, ↓CGft, ↓CGff, ↓IGtt, ↓IGtf, ↓IGft, ↓IGff, ↓PKt, ↓PKf, ↓CDt, ↓CDf, ↓NOTt, ↓NOTf, ↓NK_ptr, ↓LTt k0]
    refine fin0 ?_
    unfold partC nthC
    rw [if_neg (by omega)]
  simp only [↓VG_u, ↓UG_u, ↓MG_u, ↓NG_u, ↓PG_u, ↓BG_u, ↓CG_u, ↓IG_u, ↓VGtt, ↓VGtf, ↓VGft, ↓VGff, ↓UGtt, ↓UGtf, ↓UGft, ↓UGff, ↓MGtt, ↓MGtf, ↓MGft, ↓MGff, ↓NGtt, ↓NGtf, ↓NGft, ↓NGff, ↓PGtt, ↓PGtf, ↓PGft, ↓PGff, ↓BGtt, ↓BGtf, ↓BGft, ↓BGff, ↓CGtt, ↓CGtf, ↓CGft, ↓CGff, ↓IGtt, ↓IGtf, ↓IGft, ↓IGff, ↓PKt, ↓PKf, ↓CDt, ↓CDf, ↓NOTt, ↓NOTf, ↓NK_ptr, ↓LTf (show 0 ≤ k by omega), ↓(f_key h1).e]
  refine ixPs (x := x) h1 hv fun y => ?_
  obtain ⟨A, c, es, _⟩ := reads_cap hr1
  rw [es, len_sl vPts]
  by_cases k1 : ((partsC L e.key x).length : Int) ≤ k
  · simp only [↓VG_u, ↓UG_u, ↓MG_u, ↓NG_u, ↓PG_u, ↓BG_u, ↓CG_u, ↓IG_u, ↓VGtt, ↓VGtf, ↓VGft, ↓VGff, ↓UGtt, ↓UGtf, ↓UGft, ↓UGff, ↓MGtt, ↓MGtf, ↓MGft, ↓MGff, ↓NGtt, ↓NGtf, ↓NGft, ↓NGff, ↓PGtt, ↓PGtf, ↓PGft, ↓PGff, ↓BGtt, ↓BGtf, ↓BGft, ↓BGff, ↓CGtt, ↓CGtf, ↓CGft, ↓CGff, ↓IGtt, ↓IGtf, ↓IGft, ↓IGff, ↓PKt, ↓PKf, ↓CDt, ↓CDf, ↓NOTt, ↓NOTf, ↓NK_ptr, ↓GEt k1]
    refine fin0 ?_
    unfold partC nthC
    rw [if_pos (by omega)]
    exact List.getElem?_eq_none (by omega)
  simp only [↓VG_u, ↓UG_u, ↓MG_u, ↓NG_u, ↓PG_u, ↓BG_u, ↓CG_u, ↓IG_u, ↓VGtt, ↓VGtf, ↓VGft, ↓VGff, ↓UGtt, ↓UGtf, ↓UGft, ↓UGff, ↓MGtt, ↓MGtf, ↓MGft, ↓MGff, ↓NGtt, ↓NGtf, ↓NGft, ↓NGff, ↓PGtt, ↓PGtf, ↓PGft, ↓PGff, ↓BGtt, ↓BGtf, ↓BGft, ↓BGff, ↓CGtt, ↓CGtf, ↓CGft, ↓CGff, ↓IGtt, ↓IGtf, ↓IGft, ↓IGff, ↓PKt, ↓PKf, ↓CDt, ↓CDf, ↓NOTt, ↓NOTf, ↓NK_ptr, ↓GEf (show k < ((partsC L e.key x).length : Int) by omega), ↓(f_key h1).e]
  refine ixPs (x := x) h1 hv fun y => ?_
  have hk : (partsC L e.key x)[k.toNat]? = some (partsC L e.key x)[k.toNat] := List.getElem?_eq_getElem (by omega)
  have hpc : partC L e.key x k = some (partsC L e.key x)[k.toNat] := by
    unfold partC nthC
    rw [if_pos (by omega), hk]
  generalize (partsC L e.key x)[k.toNat] = q at *
  refine ldPt hr1 (by omega) hk fun y => ?_
  refine stS (old := zPt.enc.toArray) (cs := q.enc.toArray) rfl rfl iPt rfl (Pt.enc_one _) hb1 fun w2 hb2 hm2 hz2 => ?_
  refine rsCell (R := fun u w'' => Value.tuple #[u, .bool true] = .tuple #[((partC L e.key x k).getD zPt).v, .bool (partC L e.key x k).isSome] ∧ Mod none_ w w'') (cs := q.enc.toArray) rfl Tryd.underlying34 rfl iPt hb2 ⟨?_, hm1.then hm2 fun i hi z => by omega⟩
  rw [hpc]; rfl
theorem Many_ok (h : CAt w p loose L V) (hG : ∀ e ∈ V.es, e.g.length ≤ 1000000) (k : Ky) (rank : Int) : Rt Tryd.prog 17 #[.pointer (some ⟨p, 0, none⟩), strV k, .int .i64 rank] w fun v w' => v = .int .i64 (partsC L k rank).length ∧ Mod none_ w w' := by
  refine coll_Coll_Many_calls ?_
  unfold coll_Coll_Many_F
  refine CK_st Tryd.func47 rfl rfl (of_ok h hG k rank) ?_
  rintro _ w1 ⟨⟨hg, rfl⟩ | ⟨e, he, rfl, rfl⟩, hm⟩
  · rw [extract_ok (v := .pointer none) rfl, extract_ok (v := .int .i64 0) rfl, extract_ok (v := .bool false) rfl]
    simp only [↓VG_u, ↓UG_u, ↓MG_u, ↓NG_u, ↓PG_u, ↓BG_u, ↓CG_u, ↓IG_u, ↓VGtt, ↓VGtf, ↓VGft, ↓VGff, ↓UGtt, ↓UGtf, ↓UGft, ↓UGff, ↓MGtt, ↓MGtf, ↓MGft, ↓MGff, ↓NGtt, ↓NGtf, ↓NGft, ↓NGff, ↓PGtt, ↓PGtf, ↓PGft, ↓PGff, ↓BGtt, ↓BGtf, ↓BGft, ↓BGff, ↓CGtt, ↓CGtf, ↓CGft, ↓CGff, ↓IGtt, ↓IGtf, ↓IGft, ↓IGff, ↓PKt, ↓PKf, ↓CDt, ↓CDf, ↓NOTt, ↓NOTf, ↓NK_ptr]
    refine ⟨?_, hm⟩
    rw [h.inv.none hg]; rfl
  · rw [extract_ok (v := .pointer (some ⟨e.ro, 0, none⟩)) rfl, extract_ok (v := .int .i64 (numI e.g rank)) rfl, extract_ok (v := .bool (decide (rank ∈ e.g))) rfl]
    have hr := h.ro e he
    by_cases hx : rank ∈ e.g
    · rw [decide_eq_true hx]
      have h1 := hr.calm hm
      simp only [↓VG_u, ↓UG_u, ↓MG_u, ↓NG_u, ↓PG_u, ↓BG_u, ↓CG_u, ↓IG_u, ↓VGtt, ↓VGtf, ↓VGft, ↓VGff, ↓UGtt, ↓UGtf, ↓UGft, ↓UGff, ↓MGtt, ↓MGtf, ↓MGft, ↓MGff, ↓NGtt, ↓NGtf, ↓NGft, ↓NGff, ↓PGtt, ↓PGtf, ↓PGft, ↓PGff, ↓BGtt, ↓BGtf, ↓BGft, ↓BGff, ↓CGtt, ↓CGtf, ↓CGft, ↓CGff, ↓IGtt, ↓IGtf, ↓IGft, ↓IGff, ↓PKt, ↓PKf, ↓CDt, ↓CDf, ↓NOTt, ↓NOTf, ↓NK_ptr, ↓(f_key h1).e]
      have hix : e.g[e.g.idxOf rank]? = some rank := by
        rw [List.getElem?_eq_getElem (List.idxOf_lt_length_of_mem hx)]
        exact congrArg some (List.getElem_idxOf _)
      obtain ⟨v, hv, hrow⟩ := h1.vs_at hix
      unfold numI
      rw [if_pos hx]
      refine ixPs (x := rank) h1 hv fun y => ?_
      obtain ⟨A, c, es, _⟩ := reads_cap (reads_of_owns hrow)
      rw [es, len_sl vPts]
      exact ⟨rfl, hm⟩
    · rw [decide_eq_false hx]
      simp only [↓VG_u, ↓UG_u, ↓MG_u, ↓NG_u, ↓PG_u, ↓BG_u, ↓CG_u, ↓IG_u, ↓VGtt, ↓VGtf, ↓VGft, ↓VGff, ↓UGtt, ↓UGtf, ↓UGft, ↓UGff, ↓MGtt, ↓MGtf, ↓MGft, ↓MGff, ↓NGtt, ↓NGtf, ↓NGft, ↓NGff, ↓PGtt, ↓PGtf, ↓PGft, ↓PGff, ↓BGtt, ↓BGtf, ↓BGft, ↓BGff, ↓CGtt, ↓CGtf, ↓CGft, ↓CGff, ↓IGtt, ↓IGtf, ↓IGft, ↓IGff, ↓PKt, ↓PKf, ↓CDt, ↓CDf, ↓NOTt, ↓NOTf, ↓NK_ptr]
      refine ⟨?_, hm⟩
      rw [h.inv.other hr.grp hx]; rfl
end
end Go.Proofs.YtandbmnhghmcgaaDoor.Col
set_option linter.unusedVariables false
set_option linter.unusedSimpArgs false
set_option maxRecDepth 8000
namespace Go.Proofs.YtandbmnhghmcgaaDoor.Col
open Go Go.X Go.RowKit Go.Proofs.YtandbmnhghmcgaaDoor.XF Go.Proofs.YtandbmnhghmcgaaDoor.XK
section
variable {w : World} {p : Nat} {loose : Bool} {L : List Br} {V : CV} {e : Re}
end
end Go.Proofs.YtandbmnhghmcgaaDoor.Col
set_option linter.unusedVariables false
set_option linter.unusedSimpArgs false
set_option maxRecDepth 8000
namespace Go.X
open Go Go.RowKit
section
variable {P : Program} {C : World → Prop} {K : Value → Prop}
theorem Qmv {v : Value} (hk : K v) : QK P C (pure (Next.value v)) K := ⟨v, fun w _ => ⟨rfl, rfl⟩, hk⟩
theorem QGt {s : Sem Next} (h : QK P C s K) : QG P C (.bool true) true s K := by rw [QG_b, if_pos rfl]; exact h
theorem QGf {s : Sem Next} (h : QK P C s K) : QG P C (.bool false) false s K := by rw [QG_b, if_pos rfl]; exact h
theorem QGn {s : Sem Next} (h : K undef) : QG P C (.bool false) true s K := by rw [QG_b, if_neg (by decide)]; exact h
theorem QGm {s : Sem Next} (h : K undef) : QG P C (.bool true) false s K := by rw [QG_b, if_neg (by decide)]; exact h
theorem QGu {b : Bool} {s : Sem Next} (h : K undef) : QG P C undef b s K := by rw [QG_u]; exact h
theorem QneP {t e : TypeId} (h : P.underlying t = some (.pointer e)) {x y : Operand} {p : Option Addr} (hk : K (.bool (!p.isNone))) : QK P C (do pure (Next.value (← (do eqGuard .neq t x y (.pointer p) (.pointer none); binOp .neq t (.pointer p) (.pointer none))))) K :=
  QB_of (fun _ => rfl) (fun w => run_neq_pointer_nil w t p (by simp [Program.pointee, h])) hk
theorem Qnot {b : Bool} (hk : K (.bool (!b))) : QK P C (do pure (Next.value (← Op.unary .not (.bool b)))) K := QV_of (fun w _ => by cases b <;> rfl) hk
end
theorem presC_snoc (L : List Br) (key : Ky) (g : List Int) (x k : Int) : presC L key (g ++ [x]) k = presC L key g k ++ (partC L key x k).toList := by
  unfold presC
  rw [List.filterMap_append]
  cases h : partC L key x k <;> simp [h]
theorem fitAll_app {f : Pt} {r s : List Pt} : fitAll (f :: r ++ s) = (fitAll (f :: r) && s.all (fitPt f)) := by
  simp [fitAll, List.all_append]
theorem presC_pre (L : List Br) (key : Ky) (g : List Int) (k : Int) (n : Nat) : ∃ s, presC L key g k = presC L key (g.take n) k ++ s := by
  refine ⟨presC L key (g.drop n) k, ?_⟩
  unfold presC
  rw [← List.filterMap_append, List.take_append_drop]
end Go.X
namespace Go.Proofs.YtandbmnhghmcgaaDoor.Col
open Go Go.X Go.RowKit Go.Proofs.YtandbmnhghmcgaaDoor.XF Go.Proofs.YtandbmnhghmcgaaDoor.XK
theorem uPp : Tryd.prog.underlying 127 = some (.pointer tPt) := by kernel_rfl
section
variable {w : World} {p : Nat} {loose : Bool} {L : List Br} {V : CV} {e : Re}
def FirstP (w0 w : World) (l : List Pt) (v : Value) : Prop := (l = [] ∧ v = .pointer none) ∨ ∃ f r b, l = f :: r ∧ v = .pointer (some ⟨b, 0, none⟩) ∧ w.heap[b]? = some (.cells f.enc.toArray tPt (0, 0)) ∧ fitAll (f :: r) = true
theorem FirstP.mod {w0 w w' : World} {l : List Pt} {v : Value} (h : FirstP w0 w l v) (hm : Mod none_ w w') : FirstP w0 w' l v := by
  rcases h with ⟨h1, h2⟩ | ⟨f, r, b, h1, h2, h3, h4⟩
  · exact .inl ⟨h1, h2⟩
  · exact .inr ⟨f, r, b, h1, h2, hm.blk h3 id, h4⟩
theorem odd_ok (h : RoAt w L e) (hl : e.g.length ≤ 1000000) (k : Int) : Rt Tryd.prog 52 #[.pointer (some ⟨e.ro, 0, none⟩), .int .i64 k] w fun v w' => v = .bool (oddK L e.key k) ∧ Mod none_ w w' := by
  refine coll_rows_odd_calls ?_
  unfold coll_rows_odd_F
  simp only [↓VG_u, ↓UG_u, ↓MG_u, ↓NG_u, ↓PG_u, ↓BG_u, ↓CG_u, ↓IG_u, ↓VGtt, ↓VGtf, ↓VGft, ↓VGff, ↓UGtt, ↓UGtf, ↓UGft, ↓UGff, ↓MGtt, ↓MGtf, ↓MGft, ↓MGff, ↓NGtt, ↓NGtf, ↓NGft, ↓NGff, ↓PGtt, ↓PGtf, ↓PGft, ↓PGff, ↓BGtt, ↓BGtf, ↓BGft, ↓BGff, ↓CGtt, ↓CGtf, ↓CGft, ↓CGff, ↓IGtt, ↓IGtf, ↓IGft, ↓IGff, ↓PKt, ↓PKf, ↓CDt, ↓CDf, ↓NOTt, ↓NOTf, ↓NK_ptr, ↓(f_key h).e]
  obtain ⟨A, c, es, _⟩ := reads_cap (reads_of_owns h.row)
  rw [es, len_sl vPs]
  have hod : oddK L e.key k = !fitAll (presC L e.key e.g k) := by unfold oddK; rw [h.grp]; rfl
  refine W_loop coll_rows_odd_L0_ok (fun ρ w' => ∃ n : Nat, n ≤ e.g.length ∧ ρ 14 = .int .i64 n ∧ ρ 13 = .int .i64 e.g.length ∧ ρ 0 = .pointer (some ⟨e.ro, 0, none⟩) ∧ ρ 1 = .int .i64 k ∧ FirstP w w' (presC L e.key (e.g.take n) k) (ρ 5) ∧ Mod none_ w w') (fun ρ _ => e.g.length - (intOf (ρ 14)).toNat)
    ⟨0, Nat.zero_le _, rfl, rfl, rfl, rfl, .inl ⟨rfl, rfl⟩, Mod.refl _ _⟩ ?_
  rintro ρ w2 ⟨n, hn, h14, h13, h0, h1, hF, hm2⟩
  rw [coll_rows_odd_L0_eq]; unfold coll_rows_odd_L0_F
  rw [h14, h13, h0, h1, BK_lss]
  by_cases hlt : n < e.g.length
  · rw [decide_eq_true (by omega)]
    refine condT ?_
    have hx : e.g[n]? = some e.g[n] := List.getElem?_eq_getElem hlt
    have etk : e.g.take (n + 1) = e.g.take n ++ [e.g[n]] := by rw [List.take_add_one, hx]; rfl
    have hps := presC_snoc L e.key (e.g.take n) e.g[n] k
    rw [← etk] at hps
    generalize e.g[n] = x at *
    refine CK_st Tryd.func58 rfl rfl (part_ok (h.calm hm2) hx k) ?_
    rintro _ w3 ⟨rfl, hm3⟩
    rw [extract_ok (v := ((partC L e.key x k).getD zPt).v) rfl, extract_ok (v := .bool (partC L e.key x k).isSome) rfl]
    refine lcl_k (cs := ((partC L e.key x k).getD zPt).enc.toArray) zPt_z _ iPt rfl (Pt.enc_one _) fun w4 hb4 hm4 hz4 => ?_
    have hm04 := (hm2.trans hm3).trans hm4
    have hF4 := hF.mod (hm3.trans hm4)
    refine coll_rows_odd_R3_quiet (D := []) (fun w' => Mod none_ w4 w') ((Mod.refl _ _).drawn _) ?_
    have nx : ∀ (ρ' : Sl) (w' : World), ρ' 14 = .int .i64 n → ρ' 13 = .int .i64 e.g.length → ρ' 0 = .pointer (some ⟨e.ro, 0, none⟩) → ρ' 1 = .int .i64 k → FirstP w w' (presC L e.key (e.g.take (n + 1)) k) (ρ' 5) → Mod none_ w w' →
        sx fn_ Tryd.prog 43 coll_rows_odd_R2 (seqK (fun ρ'' w'' => (∃ n : Nat, n ≤ e.g.length ∧ ρ'' 14 = .int .i64 n ∧ ρ'' 13 = .int .i64 e.g.length ∧ ρ'' 0 = .pointer (some ⟨e.ro, 0, none⟩) ∧ ρ'' 1 = .int .i64 k ∧ FirstP w w'' (presC L e.key (e.g.take n) k) (ρ'' 5) ∧ Mod none_ w w'') ∧ e.g.length - (intOf (ρ'' 14)).toNat < e.g.length - (intOf (.int .i64 (n : Int))).toNat) (blkK 0 (seqK (sx fn_ Tryd.prog 43 coll_rows_odd_R1 (retK Tryd.prog [ResultVar.tmp 4] fun v w' => v = .bool (oddK L e.key k) ∧ Mod none_ w w')) (retK Tryd.prog [ResultVar.tmp 4] fun v w' => v = .bool (oddK L e.key k) ∧ Mod none_ w w')))) ρ' w' := by
      intro ρ' w' q14 q13 q0 q1 hF' hm'
      rw [coll_rows_odd_R2_eq]; unfold coll_rows_odd_R2_F
      rw [q14, BK_add, wrap_i (by omega) (by omega)]
      refine ⟨⟨n + 1, hlt, rfl, q13, q0, q1, hF', hm'⟩, ?_⟩
      simp only [sq_n, sq_x, sq_r, bk_n, bk_r, bk_x, rt_r, rt_n, rs_0, rs_t, pk_1, pk_2, up_at, reduceIte, Nat.reduceEqDiff, intOf]; omega
    cases hp : partC L e.key x k with
    | none =>
      rw [hp] at hps
      simp only [Option.toList_none, List.append_nil] at hps
      have key : ∀ (ρ' : Sl) (K : Exit → Sl → World → Prop), ρ' 8 = .bool false → (∀ (ρ2 : Sl) (w' : World), (∀ i, i < 24 → ρ2 i = ρ' i) → ρ2 36 = .bool false → Mod none_ w4 w' → K .normal ρ2 w') → coll_rows_odd_R3_Q (fun w' => Mod none_ w4 w') K ρ' := by
        intro ρ' K q8 hK
        unfold coll_rows_odd_R3_Q
        rw [q8]
        refine QGn (QGn (QP_of (QGn (QGn (QGn (QGn (QGn (QGn (QP_of ?_)))))))))
        intro w' hw
        refine hK _ w' (fun i hi => ?_) rfl hw
        simp only [sq_n, sq_x, sq_r, bk_n, bk_r, bk_x, rt_r, rt_n, rs_0, rs_t, pk_1, pk_2, up_at, reduceIte, Nat.reduceEqDiff, q8]
        rw [if_neg (by omega), if_neg (by omega), if_neg (by omega), if_neg (by omega), if_neg (by omega), if_neg (by omega), if_neg (by omega), if_neg (by omega), if_neg (by omega), if_neg (by omega), if_neg (by omega), if_neg (by omega), if_neg (by omega)]
      refine key _ _ rfl ?_
      intro ρ2 w5 hs q36 hm5
      have s8 : ρ2 8 = .bool false := hs 8 (by decide)
      have s14 : ρ2 14 = .int .i64 n := (hs 14 (by decide)).trans h14
      have s13 : ρ2 13 = .int .i64 e.g.length := (hs 13 (by decide)).trans h13
      have s0 : ρ2 0 = .pointer (some ⟨e.ro, 0, none⟩) := (hs 0 (by decide)).trans h0
      have s1 : ρ2 1 = .int .i64 k := (hs 1 (by decide)).trans h1
      have s5 : ρ2 5 = ρ 5 := hs 5 (by decide)
      rw [sq_n, coll_rows_odd_R4_eq]; unfold coll_rows_odd_R4_F
      rw [q36]
      refine condF ?_
      rw [sq_n, coll_rows_odd_R5_eq]; unfold coll_rows_odd_R5_F
      rw [s8]
      simp only [↓VG_u, ↓UG_u, ↓MG_u, ↓NG_u, ↓PG_u, ↓BG_u, ↓CG_u, ↓IG_u, ↓VGtt, ↓VGtf, ↓VGft, ↓VGff, ↓UGtt, ↓UGtf, ↓UGft, ↓UGff, ↓MGtt, ↓MGtf, ↓MGft, ↓MGff, ↓NGtt, ↓NGtf, ↓NGft, ↓NGff, ↓PGtt, ↓PGtf, ↓PGft, ↓PGff, ↓BGtt, ↓BGtf, ↓BGft, ↓BGff, ↓CGtt, ↓CGtf, ↓CGft, ↓CGff, ↓IGtt, ↓IGtf, ↓IGft, ↓IGff, ↓PKt, ↓PKf, ↓CDt, ↓CDf, ↓NOTt, ↓NOTf, ↓NK_ptr]
      rw [bk_n, sq_n]
      refine nx _ w5 ?_ ?_ ?_ ?_ ?_ (hm04.trans hm5)
      · exact s14
      · exact s13
      · exact s0
      · exact s1
      · rw [hps]
        show FirstP w w5 _ (ρ2 5)
        rw [s5]; exact hF4.mod hm5
    | some q =>
      rw [hp] at hps hb4
      simp only [Option.toList_some, Option.getD_some] at hps hb4
      rcases hF4 with ⟨hn0, h5⟩ | ⟨f, r, b, hl0, h5, hbf, hfit⟩
      · have key : ∀ (ρ' : Sl) (K : Exit → Sl → World → Prop), ρ' 8 = .bool true → ρ' 5 = .pointer none → (∀ (ρ2 : Sl) (w' : World), (∀ i, i < 24 → ρ2 i = ρ' i) → ρ2 36 = .bool false → Mod none_ w4 w' → K .normal ρ2 w') → coll_rows_odd_R3_Q (fun w' => Mod none_ w4 w') K ρ' := by
          intro ρ' K q8 q5 hK
          unfold coll_rows_odd_R3_Q
          rw [q8, q5]
          refine QGt (Qmv (QGt (QneP uPp (QP_of ?_))))
          rw [if_pos rfl]
          refine QGn (QGn (QGn (QGn (QGn (QGn (QP_of ?_))))))
          intro w' hw
          refine hK _ w' (fun i hi => ?_) rfl hw
          simp only [sq_n, sq_x, sq_r, bk_n, bk_r, bk_x, rt_r, rt_n, rs_0, rs_t, pk_1, pk_2, up_at, reduceIte, Nat.reduceEqDiff, q8, q5]
          rw [if_neg (by omega), if_neg (by omega), if_neg (by omega), if_neg (by omega), if_neg (by omega), if_neg (by omega), if_neg (by omega), if_neg (by omega), if_neg (by omega), if_neg (by omega), if_neg (by omega), if_neg (by omega), if_neg (by omega)]
        refine key _ _ rfl h5 ?_
        intro ρ2 w5 hs q36 hm5
        have s8 : ρ2 8 = .bool true := hs 8 (by decide)
        have s14 : ρ2 14 = .int .i64 n := (hs 14 (by decide)).trans h14
        have s13 : ρ2 13 = .int .i64 e.g.length := (hs 13 (by decide)).trans h13
        have s0 : ρ2 0 = .pointer (some ⟨e.ro, 0, none⟩) := (hs 0 (by decide)).trans h0
        have s1 : ρ2 1 = .int .i64 k := (hs 1 (by decide)).trans h1
        have s5 : ρ2 5 = .pointer none := (hs 5 (by decide)).trans h5
        have s7 : ρ2 7 = .pointer (some ⟨w3.heap.size, 0, none⟩) := hs 7 (by decide)
        rw [sq_n, coll_rows_odd_R4_eq]; unfold coll_rows_odd_R4_F
        rw [q36]
        refine condF ?_
        rw [sq_n, coll_rows_odd_R5_eq]; unfold coll_rows_odd_R5_F
        rw [s8, s5]
        simp only [↓VG_u, ↓UG_u, ↓MG_u, ↓NG_u, ↓PG_u, ↓BG_u, ↓CG_u, ↓IG_u, ↓VGtt, ↓VGtf, ↓VGft, ↓VGff, ↓UGtt, ↓UGtf, ↓UGft, ↓UGff, ↓MGtt, ↓MGtf, ↓MGft, ↓MGff, ↓NGtt, ↓NGtf, ↓NGft, ↓NGff, ↓PGtt, ↓PGtf, ↓PGft, ↓PGff, ↓BGtt, ↓BGtf, ↓BGft, ↓BGff, ↓CGtt, ↓CGtf, ↓CGft, ↓CGff, ↓IGtt, ↓IGtf, ↓IGft, ↓IGff, ↓PKt, ↓PKf, ↓CDt, ↓CDf, ↓NOTt, ↓NOTf, ↓NK_ptr]
        rw [BK_eqlP uPp]
        simp only [Option.isNone_none, ↓VG_u, ↓UG_u, ↓MG_u, ↓NG_u, ↓PG_u, ↓BG_u, ↓CG_u, ↓IG_u, ↓VGtt, ↓VGtf, ↓VGft, ↓VGff, ↓UGtt, ↓UGtf, ↓UGft, ↓UGff, ↓MGtt, ↓MGtf, ↓MGft, ↓MGff, ↓NGtt, ↓NGtf, ↓NGft, ↓NGff, ↓PGtt, ↓PGtf, ↓PGft, ↓PGff, ↓BGtt, ↓BGtf, ↓BGft, ↓BGff, ↓CGtt, ↓CGtf, ↓CGft, ↓CGff, ↓IGtt, ↓IGtf, ↓IGft, ↓IGff, ↓PKt, ↓PKf, ↓CDt, ↓CDf, ↓NOTt, ↓NOTf, ↓NK_ptr]
        rw [bk_n, sq_n]
        refine nx _ w5 ?_ ?_ ?_ ?_ ?_ (hm04.trans hm5)
        · exact s14
        · exact s13
        · exact s0
        · exact s1
        · refine .inr ⟨q, [], w3.heap.size, ?_, ?_, hm5.blk hb4 id, rfl⟩
          · rw [hps, hn0]; rfl
          · exact s7
      · have key : ∀ (ρ' : Sl) (K : Exit → Sl → World → Prop), ρ' 8 = .bool true → ρ' 5 = .pointer (some ⟨b, 0, none⟩) → ρ' 7 = .pointer (some ⟨w3.heap.size, 0, none⟩) → (∀ (ρ2 : Sl) (w' : World), (∀ i, i < 24 → ρ2 i = ρ' i) → ρ2 36 = .bool (!fitPt f q) → Mod none_ w4 w' → K .normal ρ2 w') → coll_rows_odd_R3_Q (fun w' => Mod none_ w4 w') K ρ' := by
          intro ρ' K q8 q5 q7 hK
          unfold coll_rows_odd_R3_Q
          rw [q8, q5, q7]
          refine QGt (Qmv (QGt (QneP uPp (QP_of ?_))))
          rw [if_pos rfl]
          refine QGt (Qmv (QGt (QN_ptr (QGt (QV_of (v := f.v) (fun w' hw => run_ldB Tryd.underlying34 rfl iPt (hw.blk hbf id)) (QGt (QV_of (v := q.v) (fun w' hw => run_ldB Tryd.underlying34 rfl iPt (hw.blk hb4 id)) (QGt ?_))))))))
          refine QC_rt Tryd.func21 rfl rfl (v := .bool (fitPt f q)) (fun w' hw => Fit_ok f q w') (fun w' u w'' hw z => ⟨z.1, hw.trans z.2⟩) ?_
          refine QGt (Qnot (QP_of ?_))
          intro w' hw
          refine hK _ w' (fun i hi => ?_) rfl hw
          simp only [sq_n, sq_x, sq_r, bk_n, bk_r, bk_x, rt_r, rt_n, rs_0, rs_t, pk_1, pk_2, up_at, reduceIte, Nat.reduceEqDiff, q8, q5, q7]
          rw [if_neg (by omega), if_neg (by omega), if_neg (by omega), if_neg (by omega), if_neg (by omega), if_neg (by omega), if_neg (by omega), if_neg (by omega), if_neg (by omega), if_neg (by omega), if_neg (by omega), if_neg (by omega), if_neg (by omega)]
        refine key _ _ rfl h5 rfl ?_
        intro ρ2 w5 hs q36 hm5
        have s8 : ρ2 8 = .bool true := hs 8 (by decide)
        have s14 : ρ2 14 = .int .i64 n := (hs 14 (by decide)).trans h14
        have s13 : ρ2 13 = .int .i64 e.g.length := (hs 13 (by decide)).trans h13
        have s0 : ρ2 0 = .pointer (some ⟨e.ro, 0, none⟩) := (hs 0 (by decide)).trans h0
        have s1 : ρ2 1 = .int .i64 k := (hs 1 (by decide)).trans h1
        have s5 : ρ2 5 = .pointer (some ⟨b, 0, none⟩) := (hs 5 (by decide)).trans h5
        rw [sq_n, coll_rows_odd_R4_eq]; unfold coll_rows_odd_R4_F
        rw [q36]
        rw [hl0] at hps
        cases hq : fitPt f q with
        | false =>
          refine condT ⟨?_, hm04.trans hm5⟩
          obtain ⟨s, hs'⟩ := presC_pre L e.key e.g k (n + 1)
          have : fitAll (presC L e.key e.g k) = false := by
            rw [hs', hps, show (f :: r ++ [q] ++ s) = f :: r ++ (q :: s) by simp, fitAll_app]
            simp [hq]
          rw [hod, this]; rfl
        | true =>
          refine condF ?_
          rw [sq_n, coll_rows_odd_R5_eq]; unfold coll_rows_odd_R5_F
          rw [s8, s5]
          simp only [↓VG_u, ↓UG_u, ↓MG_u, ↓NG_u, ↓PG_u, ↓BG_u, ↓CG_u, ↓IG_u, ↓VGtt, ↓VGtf, ↓VGft, ↓VGff, ↓UGtt, ↓UGtf, ↓UGft, ↓UGff, ↓MGtt, ↓MGtf, ↓MGft, ↓MGff, ↓NGtt, ↓NGtf, ↓NGft, ↓NGff, ↓PGtt, ↓PGtf, ↓PGft, ↓PGff, ↓BGtt, ↓BGtf, ↓BGft, ↓BGff, ↓CGtt, ↓CGtf, ↓CGft, ↓CGff, ↓IGtt, ↓IGtf, ↓IGft, ↓IGff, ↓PKt, ↓PKf, ↓CDt, ↓CDf, ↓NOTt, ↓NOTf, ↓NK_ptr]
          rw [BK_eqlP uPp]
          simp only [Option.isNone_some, ↓VG_u, ↓UG_u, ↓MG_u, ↓NG_u, ↓PG_u, ↓BG_u, ↓CG_u, ↓IG_u, ↓VGtt, ↓VGtf, ↓VGft, ↓VGff, ↓UGtt, ↓UGtf, ↓UGft, ↓UGff, ↓MGtt, ↓MGtf, ↓MGft, ↓MGff, ↓NGtt, ↓NGtf, ↓NGft, ↓NGff, ↓PGtt, ↓PGtf, ↓PGft, ↓PGff, ↓BGtt, ↓BGtf, ↓BGft, ↓BGff, ↓CGtt, ↓CGtf, ↓CGft, ↓CGff, ↓IGtt, ↓IGtf, ↓IGft, ↓IGff, ↓PKt, ↓PKf, ↓CDt, ↓CDf, ↓NOTt, ↓NOTf, ↓NK_ptr]
          rw [bk_n, sq_n]
          refine nx _ w5 ?_ ?_ ?_ ?_ ?_ (hm04.trans hm5)
          · exact s14
          · exact s13
          · exact s0
          · exact s1
          · refine .inr ⟨f, r ++ [q], b, ?_, ?_, hm5.blk hbf id, ?_⟩
            · rw [hps]; rfl
            · exact s5
            · rw [← List.cons_append, fitAll_app, hfit]; simp [hq]
  · obtain rfl : n = e.g.length := by omega
    rw [decide_eq_false (by omega)]
    refine condF ?_
    rw [sq_x, bk_x, sq_n, coll_rows_odd_R1_eq]; unfold coll_rows_odd_R1_F
    rw [List.take_length] at hF
    refine ⟨?_, hm2⟩
    rw [hod]
    rcases hF with ⟨h1, _⟩ | ⟨f, r, b, h1, _, _, h4⟩
    · rw [h1]; rfl
    · rw [h1, h4]; rfl
end
end Go.Proofs.YtandbmnhghmcgaaDoor.Col
namespace Go.Proofs
open Go.Shelf
def Tryd.keysA_ren : Go.Shelf.Ren := ⟨fun | 7 => 51 | 10 => 70 | n => n, fun | 23 => 70 | 26 => 9 | 3 => 76 | 28 => 95 | 0 => 0 | 27 => 94 | 33 => 126 | 4 => 4 | n => n, fun | n => n⟩
theorem Tryd.keysA : Go.Proofs.SlLaysZ.n7 Tryd.prog Tryd.keysA_ren := {
  mixed := by kernel_rfl
  f7 := ⟨Tryd.f51.name, by decide, Tryd.func51.trans (congrArg some (by kernel_rfl))⟩
  f10 := ⟨Tryd.f70.name, by decide, Tryd.func70.trans (congrArg some (by kernel_rfl))⟩
  t0 := Tryd.underlying0
  a0 := Tryd.isAgg0
  z0 := Tryd.sizeOf0
  v0 := Tryd.zeroValue0
  t4 := Tryd.underlying4
  a4 := Tryd.isAgg4
  z4 := Tryd.sizeOf4
  v4 := Tryd.zeroValue4
  t23 := Tryd.underlying70
  a23 := Tryd.isAgg70
  z23 := Tryd.sizeOf70
  v23 := Tryd.zeroValue70
  t26 := Tryd.underlying9
  a26 := Tryd.isAgg9
  z26 := Tryd.sizeOf9
  v26 := Tryd.zeroValue9
  t27 := Tryd.underlying94
  a27 := Tryd.isAgg94
  z27 := Tryd.sizeOf94
  v27 := Tryd.zeroValue94
  t28 := Tryd.underlying95
  a28 := Tryd.isAgg95
  z28 := Tryd.sizeOf95
  v28 := Tryd.zeroValue95
  t33 := Tryd.underlying126
  a33 := Tryd.isAgg126
  z33 := Tryd.sizeOf126
  v33 := Tryd.zeroValue126 }
def Tryd.sortedA_ren : Go.Shelf.Ren := ⟨fun | 6 => 50 | 8 => 68 | 9 => 69 | 11 => 83 | 13 => 85 | 12 => 84 | 23 => 98 | 24 => 99 | 14 => 89 | 15 => 90 | 16 => 91 | 17 => 92 | 18 => 93 | 19 => 94 | 20 => 95 | 21 => 96 | 22 => 97 | 25 => 108 | 26 => 109 | 27 => 110 | 28 => 111 | 29 => 112 | 30 => 113 | 31 => 120 | n => n, fun | 26 => 9 | 28 => 95 | 24 => 50 | 0 => 0 | 3 => 3 | 37 => 138 | 48 => 152 | 50 => 154 | 4 => 4 | 40 => 145 | 39 => 144 | 45 => 77 | 5 => 5 | 9 => 9 | 51 => 167 | 55 => 171 | 57 => 178 | 58 => 40 | 33 => 126 | n => n, fun | n => n⟩
theorem Tryd.sortedA : Go.Proofs.SlLaysZ.n6 Tryd.prog Tryd.sortedA_ren := {
  mixed := by kernel_rfl
  f6 := ⟨Tryd.f50.name, by decide, Tryd.func50.trans (congrArg some (by kernel_rfl))⟩
  f8 := ⟨Tryd.f68.name, by decide, Tryd.func68.trans (congrArg some (by kernel_rfl))⟩
  f11 := ⟨Tryd.f83.name, by decide, Tryd.func83.trans (congrArg some (by kernel_rfl))⟩
  t0 := Tryd.underlying0
  a0 := Tryd.isAgg0
  z0 := Tryd.sizeOf0
  v0 := Tryd.zeroValue0
  t24 := Tryd.underlying50
  a24 := Tryd.isAgg50
  z24 := Tryd.sizeOf50
  v24 := Tryd.zeroValue50
  t26 := Tryd.underlying9
  a26 := Tryd.isAgg9
  z26 := Tryd.sizeOf9
  v26 := Tryd.zeroValue9
  t28 := Tryd.underlying95
  a28 := Tryd.isAgg95
  z28 := Tryd.sizeOf95
  v28 := Tryd.zeroValue95
  i26 := by kernel_rfl }
def Tryd.sortA_ren : Go.Shelf.Ren := ⟨fun | 6 => 69 | 8 => 85 | 9 => 84 | 19 => 98 | 20 => 99 | 21 => 89 | 22 => 90 | 23 => 91 | 24 => 92 | 25 => 93 | 26 => 94 | 27 => 95 | 28 => 96 | 29 => 97 | 36 => 108 | 31 => 109 | 32 => 110 | 37 => 111 | 38 => 112 | 39 => 113 | 41 => 120 | n => n, fun | 27 => 50 | 29 => 9 | 3 => 3 | 32 => 138 | 26 => 50 | 0 => 0 | 44 => 152 | 46 => 154 | 4 => 4 | 36 => 145 | 35 => 144 | 41 => 77 | 5 => 5 | 9 => 9 | 53 => 167 | 57 => 171 | 63 => 178 | 64 => 40 | n => n, fun | n => n⟩
theorem Tryd.sortA : Go.Proofs.SlLaysM.n6 Tryd.prog Tryd.sortA_ren := {
  mixed := by kernel_rfl
  f6 := ⟨Tryd.f69.name, by decide, Tryd.func69.trans (congrArg some (by kernel_rfl))⟩
  f8 := Tryd.func85.trans (congrArg some (by kernel_rfl))
  f9 := ⟨Tryd.f84.name, by decide, Tryd.func84.trans (congrArg some (by kernel_rfl))⟩
  f19 := Tryd.func98.trans (congrArg some (by kernel_rfl))
  f20 := Tryd.func99.trans (congrArg some (by kernel_rfl))
  f21 := ⟨Tryd.f89.name, by decide, Tryd.func89.trans (congrArg some (by kernel_rfl))⟩
  f22 := ⟨Tryd.f90.name, by decide, Tryd.func90.trans (congrArg some (by kernel_rfl))⟩
  f23 := ⟨Tryd.f91.name, by decide, Tryd.func91.trans (congrArg some (by kernel_rfl))⟩
  f24 := ⟨Tryd.f92.name, by decide, Tryd.func92.trans (congrArg some (by kernel_rfl))⟩
  f25 := ⟨Tryd.f93.name, by decide, Tryd.func93.trans (congrArg some (by kernel_rfl))⟩
  f26 := ⟨Tryd.f94.name, by decide, Tryd.func94.trans (congrArg some (by kernel_rfl))⟩
  f27 := ⟨Tryd.f95.name, by decide, Tryd.func95.trans (congrArg some (by kernel_rfl))⟩
  f28 := ⟨Tryd.f96.name, by decide, Tryd.func96.trans (congrArg some (by kernel_rfl))⟩
  f29 := ⟨Tryd.f97.name, by decide, Tryd.func97.trans (congrArg some (by kernel_rfl))⟩
  f31 := Tryd.func109.trans (congrArg some (by kernel_rfl))
  f32 := Tryd.func110.trans (congrArg some (by kernel_rfl))
  f36 := ⟨Tryd.f108.name, by decide, Tryd.func108.trans (congrArg some (by kernel_rfl))⟩
  f37 := ⟨Tryd.f111.name, by decide, Tryd.func111.trans (congrArg some (by kernel_rfl))⟩
  f38 := ⟨Tryd.f112.name, by decide, Tryd.func112.trans (congrArg some (by kernel_rfl))⟩
  f39 := ⟨Tryd.f113.name, by decide, Tryd.func113.trans (congrArg some (by kernel_rfl))⟩
  f41 := ⟨Tryd.f120.name, by decide, Tryd.func120.trans (congrArg some (by kernel_rfl))⟩
  t0 := Tryd.underlying0
  a0 := Tryd.isAgg0
  z0 := Tryd.sizeOf0
  v0 := Tryd.zeroValue0
  t3 := Tryd.underlying3
  a3 := Tryd.isAgg3
  z3 := Tryd.sizeOf3
  v3 := Tryd.zeroValue3
  t4 := Tryd.underlying4
  a4 := Tryd.isAgg4
  z4 := Tryd.sizeOf4
  v4 := Tryd.zeroValue4
  t5 := Tryd.underlying5
  a5 := Tryd.isAgg5
  z5 := Tryd.sizeOf5
  v5 := Tryd.zeroValue5
  t9 := Tryd.underlying9
  a9 := Tryd.isAgg9
  z9 := Tryd.sizeOf9
  v9 := Tryd.zeroValue9
  t26 := Tryd.underlying50
  a26 := Tryd.isAgg50
  z26 := Tryd.sizeOf50
  v26 := Tryd.zeroValue50
  t27 := Tryd.underlying50
  a27 := Tryd.isAgg50
  z27 := Tryd.sizeOf50
  v27 := Tryd.zeroValue50
  t29 := Tryd.underlying9
  a29 := Tryd.isAgg9
  z29 := Tryd.sizeOf9
  v29 := Tryd.zeroValue9
  t32 := Tryd.underlying138
  a32 := Tryd.isAgg138
  z32 := Tryd.sizeOf138
  v32 := Tryd.zeroValue138
  t35 := Tryd.underlying144
  a35 := Tryd.isAgg144
  z35 := Tryd.sizeOf144
  v35 := Tryd.zeroValue144
  t36 := Tryd.underlying145
  a36 := Tryd.isAgg145
  z36 := Tryd.sizeOf145
  v36 := Tryd.zeroValue145
  t41 := Tryd.underlying77
  a41 := Tryd.isAgg77
  z41 := Tryd.sizeOf77
  v41 := Tryd.zeroValue77
  t44 := Tryd.underlying152
  a44 := Tryd.isAgg152
  z44 := Tryd.sizeOf152
  v44 := Tryd.zeroValue152
  t46 := Tryd.underlying154
  a46 := Tryd.isAgg154
  z46 := Tryd.sizeOf154
  v46 := Tryd.zeroValue154
  t53 := Tryd.underlying167
  a53 := Tryd.isAgg167
  z53 := Tryd.sizeOf167
  v53 := Tryd.zeroValue167
  t57 := Tryd.underlying171
  a57 := Tryd.isAgg171
  z57 := Tryd.sizeOf171
  v57 := Tryd.zeroValue171
  t63 := Tryd.underlying178
  a63 := Tryd.isAgg178
  z63 := Tryd.sizeOf178
  v63 := Tryd.zeroValue178
  t64 := Tryd.underlying40
  a64 := Tryd.isAgg40
  z64 := Tryd.sizeOf40
  v64 := Tryd.zeroValue40 }
def Tryd.lays171_ren : Go.Shelf.Ren := ⟨fun | 171 => 53 | 243 => 71 | 246 => 86 | 283 => 100 | 284 => 101 | 285 => 102 | 286 => 103 | 129 => 99 | 317 => 114 | 318 => 115 | 319 => 116 | 320 => 117 | 337 => 121 | 338 => 122 | n => n, fun | 3 => 3 | 9 => 9 | 2 => 2 | 4 => 4 | 171 => 155 | 0 => 0 | 53 => 154 | 37 => 66 | 5 => 5 | 173 => 157 | 212 => 175 | 51 => 152 | 20 => 20 | 213 => 176 | 46 => 138 | 232 => 182 | 233 => 183 | n => n, fun | 17 => 0 | 18 => 1 | 19 => 2 | n => n⟩
theorem Tryd.lays171 : Go.Proofs.LaysM.n171 Tryd.prog Tryd.lays171_ren := {
  mixed := by kernel_rfl
  f129 := Tryd.func99.trans (congrArg some (by kernel_rfl))
  f171 := Tryd.func53.trans (congrArg some (by kernel_rfl))
  f243 := Tryd.func71.trans (congrArg some (by kernel_rfl))
  f246 := Tryd.func86.trans (congrArg some (by kernel_rfl))
  f283 := Tryd.func100.trans (congrArg some (by kernel_rfl))
  f284 := Tryd.func101.trans (congrArg some (by kernel_rfl))
  f285 := Tryd.func102.trans (congrArg some (by kernel_rfl))
  f286 := Tryd.func103.trans (congrArg some (by kernel_rfl))
  f317 := Tryd.func114.trans (congrArg some (by kernel_rfl))
  f318 := Tryd.func115.trans (congrArg some (by kernel_rfl))
  f319 := Tryd.func116.trans (congrArg some (by kernel_rfl))
  f320 := Tryd.func117.trans (congrArg some (by kernel_rfl))
  f337 := Tryd.func121.trans (congrArg some (by kernel_rfl))
  f338 := Tryd.func122.trans (congrArg some (by kernel_rfl))
  t0 := Tryd.underlying0
  a0 := Tryd.isAgg0
  z0 := Tryd.sizeOf0
  v0 := Tryd.zeroValue0
  t2 := Tryd.underlying2
  a2 := Tryd.isAgg2
  z2 := Tryd.sizeOf2
  v2 := Tryd.zeroValue2
  t3 := Tryd.underlying3
  a3 := Tryd.isAgg3
  z3 := Tryd.sizeOf3
  v3 := Tryd.zeroValue3
  t4 := Tryd.underlying4
  a4 := Tryd.isAgg4
  z4 := Tryd.sizeOf4
  v4 := Tryd.zeroValue4
  t5 := Tryd.underlying5
  a5 := Tryd.isAgg5
  z5 := Tryd.sizeOf5
  v5 := Tryd.zeroValue5
  t9 := Tryd.underlying9
  a9 := Tryd.isAgg9
  z9 := Tryd.sizeOf9
  v9 := Tryd.zeroValue9
  t20 := Tryd.underlying20
  a20 := Tryd.isAgg20
  z20 := Tryd.sizeOf20
  v20 := Tryd.zeroValue20
  t37 := Tryd.underlying66
  a37 := Tryd.isAgg66
  z37 := Tryd.sizeOf66
  v37 := Tryd.zeroValue66
  t46 := Tryd.underlying138
  a46 := Tryd.isAgg138
  z46 := Tryd.sizeOf138
  v46 := Tryd.zeroValue138
  t51 := Tryd.underlying152
  a51 := Tryd.isAgg152
  z51 := Tryd.sizeOf152
  v51 := Tryd.zeroValue152
  t53 := Tryd.underlying154
  a53 := Tryd.isAgg154
  z53 := Tryd.sizeOf154
  v53 := Tryd.zeroValue154
  t171 := Tryd.underlying155
  a171 := Tryd.isAgg155
  z171 := Tryd.sizeOf155
  v171 := Tryd.zeroValue155
  t173 := Tryd.underlying157
  a173 := Tryd.isAgg157
  z173 := Tryd.sizeOf157
  v173 := Tryd.zeroValue157
  t212 := Tryd.underlying175
  a212 := Tryd.isAgg175
  z212 := Tryd.sizeOf175
  v212 := Tryd.zeroValue175
  t213 := Tryd.underlying176
  a213 := Tryd.isAgg176
  z213 := Tryd.sizeOf176
  t232 := Tryd.underlying182
  a232 := Tryd.isAgg182
  z232 := Tryd.sizeOf182
  v232 := Tryd.zeroValue182
  t233 := Tryd.underlying183
  a233 := Tryd.isAgg183
  z233 := Tryd.sizeOf183
  v233 := Tryd.zeroValue183
  g17 := by kernel_rfl
  g18 := by kernel_rfl
  g19 := by kernel_rfl
  i0 := by kernel_rfl
  i2 := by kernel_rfl
  i3 := by kernel_rfl
  i4 := by kernel_rfl
  i5 := by kernel_rfl
  i9 := by kernel_rfl
  i20 := by kernel_rfl
  i37 := by kernel_rfl
  i46 := by kernel_rfl
  i51 := by kernel_rfl
  i53 := by kernel_rfl
  i171 := by kernel_rfl
  i173 := by kernel_rfl
  i212 := by kernel_rfl
  i232 := by kernel_rfl
  i233 := by kernel_rfl
  m17 := by kernel_rfl
  m18 := by kernel_rfl
  m19 := by kernel_rfl }
end Go.Proofs
set_option linter.unusedVariables false
set_option linter.unusedSimpArgs false
set_option maxRecDepth 8000
namespace Go.X
open Go Go.RowKit
def ltB (a b : Ky) : Prop := Op.bytesLess a b = true
theorem sorted_extB : ∀ {s t : List Ky}, s.Pairwise ltB → t.Pairwise ltB → (∀ x, x ∈ s ↔ x ∈ t) → s = t
  | [], [], _, _, _ => rfl
  | [], b :: t, _, _, h => absurd ((h b).2 List.mem_cons_self) (by simp)
  | a :: s, [], _, _, h => absurd ((h a).1 List.mem_cons_self) (by simp)
  | a :: s, b :: t, hs, ht, h => by
    rw [List.pairwise_cons] at hs ht
    have hab : a = b := by
      have h1 := (h a).1 List.mem_cons_self
      have h2 := (h b).2 List.mem_cons_self
      rcases List.mem_cons.1 h1 with q | q
      · exact q
      · rcases List.mem_cons.1 h2 with z | z
        · exact z.symm
        · have h3 : Op.bytesLess b a = true := ht.1 a q
          have h4 : Op.bytesLess a b = true := hs.1 b z
          rw [bl_asym h4] at h3; cases h3
    subst hab
    congr 1
    refine sorted_extB hs.2 ht.2 fun x => ⟨fun q => ?_, fun q => ?_⟩
    · rcases List.mem_cons.1 ((h x).1 (List.mem_cons_of_mem _ q)) with z | z
      · have h3 : Op.bytesLess a x = true := hs.1 x q
        rw [z, bl_irr] at h3; cases h3
      · exact z
    · rcases List.mem_cons.1 ((h x).2 (List.mem_cons_of_mem _ q)) with z | z
      · have h3 : Op.bytesLess a x = true := ht.1 x q
        rw [z, bl_irr] at h3; cases h3
      · exact z
theorem leK_iff {a b : Ky} : leK a b = true ↔ Op.bytesLess b a = false := by
  unfold leK
  rw [Go.Proofs.bytesLess_eq]
  simp only [decide_eq_true_eq, decide_eq_false_iff_not]
  exact Iff.rfl
theorem merge_ltB {l : List Ky} (h : l.Nodup) : (l.mergeSort leK).Pairwise ltB := by
  have tr : ∀ a b c : Ky, leK a b = true → leK b c = true → leK a c = true := fun a b c p q => by
    rw [leK_iff] at *
    cases hc : Op.bytesLess c a with
    | false => rfl
    | true =>
      exfalso
      cases hb : Op.bytesLess c b with
      | true => rw [q] at hb; cases hb
      | false =>
        cases hd : Op.bytesLess b c with
        | true =>
          have := bl_tr hd hc
          rw [p] at this; cases this
        | false =>
          have := bl_tri hb hd
          subst this
          rw [p] at hc; cases hc
  have tot : ∀ a b : Ky, (leK a b || leK b a) = true := fun a b => by
    rw [Bool.or_eq_true, leK_iff, leK_iff]
    cases hb : Op.bytesLess b a with
    | false => exact .inl rfl
    | true => exact .inr (bl_asym hb)
  have h1 := List.pairwise_mergeSort (le := leK) tr tot l
  have h2 : (l.mergeSort leK).Nodup := (List.mergeSort_perm l _).nodup_iff.2 h
  refine List.pairwise_iff_getElem.2 fun i j hi hj hij => ?_
  have a := List.pairwise_iff_getElem.1 h1 i j hi hj hij
  have b := List.pairwise_iff_getElem.1 (List.nodup_iff_pairwise_ne.1 h2) i j hi hj hij
  rw [leK_iff] at a
  show Op.bytesLess _ _ = true
  cases hd : Op.bytesLess (l.mergeSort leK)[i] (l.mergeSort leK)[j] with
  | true => rfl
  | false => exact absurd (bl_tri hd a) b
theorem merge_permB {l m : List Ky} (h : l.Nodup) (hp : m.Perm l) : (m.mergeSort leK) = l.mergeSort leK :=
  sorted_extB (merge_ltB (hp.nodup_iff.2 h)) (merge_ltB h) fun x => by simp only [List.mem_mergeSort, hp.mem_iff]
end Go.X
namespace Go.Proofs.YtandbmnhghmcgaaDoor.Col
open Go Go.X Go.RowKit Go.Proofs.YtandbmnhghmcgaaDoor.XF Go.Proofs.YtandbmnhghmcgaaDoor.XK
def Gl (w : World) : Prop := Lib.TabIs Tryd.prog w "internal/strconv.uint64pow10" .u64 Lib.pow10Tab
theorem Gl.calm {w w' : World} (h : Gl w) (hm : Mod none_ w w') : Gl w' := Lib.tabBelow_of_tabIs h w' hm.toBelow
theorem below_gr (w : World) (q : Nat) (os : Array Obj) : Below w.heap.size w (Go.Sort.grow (w.drewN q) os) :=
  ⟨rfl, rfl, rfl, by first | (simp [Go.Sort.grow]; done) | (simp [Go.Sort.grow]; omega), fun i hi => by
    show ((w.drewN q).heap ++ os)[i]? = _
    rw [Array.getElem?_append_left (by show i < w.heap.size; omega)]
    rfl⟩
theorem Itoa_ok {w : World} (hg : Gl w) {n : Int} (h0 : -9223372036854775808 ≤ n) (h1 : n ≤ 9223372036854775807) : Rt Tryd.prog 53 #[.int .i64 n] w fun v w' => v = strV (Lib.itoa n) ∧ Mod none_ w w' := by
  refine Calls.mono (Any.strconv_Itoa Tryd.lays171 n h0 h1 w hg) ?_
  rintro e w' ⟨rfl, k, os, rfl⟩
  exact ⟨_, rfl, rfl, Mod.ofBelow (below_gr w k os)⟩
theorem BK_addS {P : Program} {w : World} {K : Value → World → Prop} {t : TypeId} {x y : Operand} {a b : List UInt8} (ha : a.length ≤ 4000000) (hb : b.length ≤ 4000000) : BK P .add t x y (strV a) (strV b) w K = K (strV (a ++ b)) w := by
  refine BK_of rfl ?_
  unfold strV
  rw [binOp_string_add]
  exact run_string_add_lists w a b (by omega) (by omega)
theorem itoa_len {n : Int} (h0 : -9223372036854775808 ≤ n) (h1 : n ≤ 9223372036854775807) : (Lib.itoa n).length ≤ 21 := by
  unfold Lib.itoa
  split
  · rw [List.length_cons, Lib.decDigits_length]
    have := Lib.nDigits_le20 n.natAbs (by omega)
    omega
  · rw [Lib.decDigits_length]
    have := Lib.nDigits_le20 n.toNat (by omega)
    omega
theorem owns_bd {w : World} {B : Nat} {e : TypeId} {s : Nat} {v : Value} {n : Nat} {xs : List Value} (h : w.ownsRow B e s v n xs) : ∀ b, sb v b → B ≤ b ∧ b < w.heap.size := by
  intro b hb
  rcases h.2 with ⟨rfl, _⟩ | ⟨g, cap, cur, rfl, hB, hg, _⟩
  · cases hb
  · have : g = b := by simpa [sb, Value.ownBlock] using hb
    subst this
    exact ⟨hB, X.blk_lt hg⟩
abbrev tS : TypeId := 9
abbrev tSs : TypeId := 50
theorem vSs : Tryd.prog.underlying tSs = some (.slice tS) := by kernel_rfl
theorem cS : Tryd.prog.cellsOf tS = 1 := by kernel_rfl
theorem eSs : elemOk Tryd.prog tSs tS 1 16 = true := by kernel_rfl
def strs (l : List Ky) : List Value := l.map strV
theorem appS {w : World} {v : Value} {xs : List Ky} {m : Ky} {B : Nat} {K : Value → Value → World → Prop} (ho : w.ownsRow B tS 1 v xs.length (strs xs)) (hB : B ≤ w.heap.size) (hl : xs.length ≤ 2000000000)
    (hk : ∀ x v' w', w'.ownsRow B tS 1 v' (xs ++ [m]).length (strs (xs ++ [m])) → Mod (fun b => B ≤ b) w w' → K x v' w') :
    VK Tryd.prog (Instr.buildSlice tSs 1 [(0, strV m)].toArray) w fun x w => IK Tryd.prog .append #[tSs, tSs] tSs [false, false] [v, x] w (K x) := by
  refine bs_k (cs := #[strV m]) (by kernel_rfl) fun w1 hb1 hm1 hz1 => ?_
  refine ap_any eSs (owns_mod ho hm1 fun _ _ => id) (reads_blk (size := 1) (n := 1) hb1 rfl) (fun u hu => by rw [List.mem_singleton.1 hu]; rfl) (by unfold maxLen; omega) (by omega) (by omega) fun v' w2 ho2 hm2 hv2 => ?_
  refine hk _ v' w2 ?_ ((hm1.mono fun _ _ z => z.elim).trans (hm2.mono fun b _ z => (owns_bd (owns_mod ho hm1 fun _ _ => id) b z.symm).1))
  rw [List.length_append]
  unfold strs at ho2 ⊢
  rw [List.map_append]
  exact ho2
theorem len_bound : ∀ (k : Nat) (r : List Int), r.Nodup → (∀ x ∈ r, 0 ≤ x ∧ x < k) → r.length ≤ k
  | 0, r, _, h => by
    cases r with
    | nil => simp
    | cons a r => have := h a (by simp); omega
  | k + 1, r, hn, h => by
    by_cases hm : (k : Int) ∈ r
    · have ih := len_bound k (r.erase (k : Int)) (hn.erase _) fun x hx => by
        have h1 := h x (List.mem_of_mem_erase hx)
        have : x ≠ (k : Int) := fun q => by rw [q] at hx; exact hn.not_mem_erase hx
        omega
      rw [List.length_erase_of_mem hm] at ih
      omega
    · have ih := len_bound k r hn fun x hx => by
        have h1 := h x hx
        have : x ≠ (k : Int) := fun q => hm (q ▸ hx)
        omega
      omega
section
variable {w : World} {p : Nat} {loose : Bool} {L : List Br} {V : CV} {e : Re}
theorem CAt.len64 (h : CAt w p loose L V) : ∀ e ∈ V.es, e.g.length ≤ 64 := fun e he => by
  obtain ⟨_, h1, h2⟩ := mayG_iff.1 (h.inv.grp (h.ro e he).grp)
  exact len_bound 64 e.g h2 fun x hx => by have := h1 x hx; omega
theorem CAt.hG (h : CAt w p loose L V) : ∀ e ∈ V.es, e.g.length ≤ 1000000 := fun e he => by have := h.len64 e he; omega
theorem CAt.keys (h : CAt w p loose L V) : (V.es.map (·.key)).Perm (keysOf L) := by
  have hnd : (V.es.map (·.key)).Nodup := by
    rw [List.nodup_iff_pairwise_ne, List.pairwise_map]
    refine List.pairwise_iff_getElem.2 fun i j hi hj hij q => ?_
    have := h.kd i j _ _ (List.getElem?_eq_getElem hi) (List.getElem?_eq_getElem hj) q
    omega
  refine (List.perm_ext_iff_of_nodup hnd (keysOf_nodup L)).2 fun x => ?_
  rw [keysOf_mem, ← grpC_isSome]
  constructor
  · intro hx
    obtain ⟨e, he, rfl⟩ := List.mem_map.1 hx
    rw [(h.ro e he).grp]; rfl
  · intro hx
    obtain ⟨g, hg⟩ := Option.isSome_iff_exists.1 hx
    obtain ⟨e, he, hk⟩ := h.cov x g hg
    exact List.mem_map.2 ⟨e, he, hk⟩
theorem keysOf_len (L : List Br) : (keysOf L).length ≤ L.length := by
  induction hn : L.length generalizing L with
  | zero => have : L = [] := List.eq_nil_of_length_eq_zero hn; subst this; simp [keysOf]
  | succ n ih =>
    obtain ⟨l, b, rfl⟩ := snoc_of (L := L) (by intro q; rw [q] at hn; simp at hn)
    have ih := ih l (by simpa using hn)
    rw [keysOf_snoc]
    split
    · omega
    · simp; omega
theorem CAt.elen (h : CAt w p loose L V) : V.es.length ≤ L.length := by
  have := h.keys.length_eq
  have := keysOf_len L
  simp only [List.length_map] at *
  omega
noncomputable def R0 : Value → Option (DataW Unit × List MemPlace) := fun _ => some (.lit (.bool false), [])
noncomputable def keyD (V : CV) : DataW Unit := .map ((((V.es.map Re.ent).map (Ent.enc strV)).map (WideElems.rg Tryd.prog tS R0)).foldr DataW.insert [])
theorem keyOf_str {k : Ky} (hk : k.length ≤ 1000000) : keyOf Tryd.prog tS (strV k) = some (.string k) := by
  unfold keyOf
  rw [vS]
  show mapKey Tryd.prog tS (strV k) = _
  unfold mapKey strV
  rw [vS]
  have : (⟨k.toArray⟩ : ByteArray).size ≤ maxLen := by simp [ByteArray.size, maxLen]; omega
  simp [this]
theorem CAt.owns (h : CAt w p loose L V) (hL : L.length ≤ 1000000) (hK : ∀ b ∈ L, b.key.length ≤ 1000000) : w.ownsMap Tryd.prog tS R0 V.mb V.es.length (keyD V) ∧ (strKeys (keyD V)).Perm (V.es.map (·.key)) ∧ Maps.size (keyD V) = V.es.length := by
  have hkey : ∀ e ∈ V.es, e.key.length ≤ 1000000 := fun e he => by
    obtain ⟨b, hb, hbk, _⟩ := grpC_some (h.ro e he).grp
    rw [← hbk]; exact hK b hb
  have hel := h.elen
  have hrd : ∀ e ∈ V.es, WideElems.rd Tryd.prog tS R0 (Ent.enc strV e.ent) = some (.string e.key, .lit (.bool false)) := fun e he => by
    unfold WideElems.rd Ent.enc Re.ent R0
    simp [keyOf_str (hkey e he)]
  refine ⟨⟨_, _, h.map, ⟨?_, ⟨?_, ?_, ?_⟩, ?_⟩, ?_, rfl⟩, ?_, ?_⟩
  · simp [maxLen]; omega
  · intro x hx
    simp only [List.toList_toArray, List.mem_map] at hx
    obtain ⟨_, ⟨e, he, rfl⟩, rfl⟩ := hx
    exact h.bc e he
  · simp only [List.toList_toArray, List.map_map]
    rw [List.nodup_iff_pairwise_ne, List.pairwise_map]
    refine List.pairwise_iff_getElem.2 fun i j hi hj hij q => ?_
    have := h.bd i j _ _ (List.getElem?_eq_getElem hi) (List.getElem?_eq_getElem hj) q
    omega
  · simp only [List.toList_toArray, List.map_map]
    rw [List.nodup_iff_pairwise_ne, List.pairwise_map]
    refine List.pairwise_iff_getElem.2 fun i j hi hj hij q => ?_
    have := h.kd i j _ _ (List.getElem?_eq_getElem hi) (List.getElem?_eq_getElem hj) (KT.inj _ _ q)
    omega
  · intro x hx
    simp only [List.toList_toArray, List.mem_map] at hx
    obtain ⟨_, ⟨e, he, rfl⟩, rfl⟩ := hx
    exact ⟨_, hrd e he⟩
  · simp
  · unfold keyD strKeys
    refine ((WideShapes.sorted_perm _).map _).trans ?_
    rw [List.map_map, List.map_map, List.map_map]
    refine List.Perm.of_eq (List.map_congr_left fun e he => ?_)
    show strOf (WideElems.rg Tryd.prog tS R0 (Ent.enc strV e.ent)).1 = _
    rw [WideElems.rg_of (hrd e he)]; rfl
  · unfold keyD
    rw [Maps.size_eq, (WideShapes.sorted_perm _).length_eq]
    simp
theorem Keys_ok (mb : Option Nat) (w : World) : Rt Tryd.prog 51 #[.map mb] w fun v w' => v = .func (.func 70) #[] #[.pointer (some ⟨w.heap.size, 0, none⟩)] ∧ w' = w.alloc (.cells #[.map mb] tMp) := by
  have cK : CallsIn Fence.wide 5 Tryd.prog 51 #[.map mb] w fun e w' => e = .returned (.func (.func 70) #[] #[.pointer (some ⟨w.heap.size, 0, none⟩)]) ∧ w' = w.alloc (.cells #[.map mb] tMp) := AnyZ.keys_in Tryd.keysA Fence.wide 5 trivial rfl mb w
  exact Calls.mono (callsIn_wide.1 cK) fun e w' ⟨h1, h2⟩ => ⟨_, h1, rfl, h2⟩
theorem sortsA (m : Nat) : AnyZ.SortsIn Tryd.prog Tryd.sortedA_ren Fence.wide m :=
  ⟨fun blk off cap ss W hH hblk hsz => callsIn_wide.2 (AnyM.slices_Sort_string Tryd.sortA blk off cap ss W hH hblk hsz),
   fun p cap W => callsIn_wide.2 (AnyM.slices_Sort_string_none Tryd.sortA p cap W)⟩
theorem Sorted_ok (h : CAt w p loose L V) (hL : L.length ≤ 1000000) (hK : ∀ b ∈ L, b.key.length ≤ 1000000) {B : Nat} (hB : w.heap[B]? = some (.cells #[.map (some V.mb)] tMp (0, 0))) :
    Rt Tryd.prog 50 #[.func (.func 70) #[] #[.pointer (some ⟨B, 0, none⟩)]] w fun v w' => w'.ownsRow w.heap.size tS 1 v (keysC L).length (strs (keysC L)) ∧ Mod none_ w w' := by
  obtain ⟨hown, hperm, hsz⟩ := h.owns hL hK
  have hel := h.elen
  have hseq : SeqGives Fence.wide 2 Tryd.prog 70 #[.pointer (some ⟨B, 0, none⟩)] Go.Proofs.encStr (fun ss => ss.Perm (strKeys (keyD V))) (Maps.size (keyD V)) w :=
    AnyZ.keys_gives (ρ := Tryd.keysA_ren) { Tryd.keysA with } Fence.wide _ trivial rfl (by omega) B V.mb V.es.length (keyD V) w (X.blk_lt hB) (by rw [cell_blk hB]; rfl) hown
  have cS := AnyZ.sorted_in Tryd.sortedA Fence.wide 5 trivial trivial trivial trivial rfl (by omega) (sortsA _) (enters_of Tryd.func69 (by kernel_rfl) rfl) 70 #[.pointer (some ⟨B, 0, none⟩)] trivial (enters_of Tryd.func70 (by kernel_rfl) rfl) _ (Maps.size (keyD V)) (by rw [hsz]; unfold maxLen; omega) (by rw [hsz]; omega) w hseq
  change CallsIn _ _ Tryd.prog 50 _ _ _ at cS
  refine Calls.mono (callsIn_wide.1 cS) ?_
  rintro e w' ⟨v, ss, rfl, hS, hrow, hnil, hb⟩
  refine ⟨v, rfl, ?_, Mod.ofBelow hb⟩
  have hp : ss.Perm (keysOf L) := (hS.trans hperm).trans h.keys
  have hm : (ss.mergeSort fun x y => decide (x ≤ y)) = keysC L := merge_permB (keysOf_nodup L) hp
  rw [hm] at hrow
  have hl : ss.length = (keysC L).length := by unfold keysC; rw [List.length_mergeSort]; exact hp.length_eq
  rw [hl] at hrow
  exact hrow
end
end Go.Proofs.YtandbmnhghmcgaaDoor.Col
set_option linter.unusedVariables false
set_option linter.unusedSimpArgs false
set_option maxRecDepth 8000
namespace Go.X
open Go Go.RowKit
def oddsOf (L : List Br) (key : Ky) : List Ky := ((List.range L.length).filter fun k : Nat => oddK L key k).map fun k : Nat => childK key k
theorem oddC_eq (L : List Br) : oddC L = (keysC L).flatMap (oddsOf L) := rfl
theorem odd_far {L : List Br} {key : Ky} {g : List Int} (hg : grpC L key = some g) {m : Nat} (hm : ∀ x ∈ g, (partsC L key x).length ≤ m) {k : Nat} (hk : m ≤ k) : oddK L key k = false := by
  unfold oddK
  have : presC L key ((grpC L key).getD []) (k : Int) = [] := by
    unfold presC
    rw [hg]
    refine List.filterMap_eq_nil_iff.2 fun x hx => ?_
    have := hm x hx
    unfold partC nthC
    rw [if_pos (by omega)]
    exact List.getElem?_eq_none (by simp; omega)
  rw [this]; rfl
theorem odd_trim {L : List Br} {key : Ky} {g : List Int} (hg : grpC L key = some g) {m : Nat} (hm : ∀ x ∈ g, (partsC L key x).length ≤ m) (hL : m ≤ L.length) : oddsOf L key = ((List.range m).filter fun k : Nat => oddK L key k).map fun k : Nat => childK key k := by
  unfold oddsOf
  congr 1
  obtain ⟨d, hd⟩ : ∃ d, L.length = m + d := ⟨L.length - m, by omega⟩
  rw [hd, List.range_add, List.filter_append]
  rw [show ((List.range d).map (m + ·)).filter (fun k : Nat => oddK L key k) = [] from List.filter_eq_nil_iff.2 fun x hx => by
    obtain ⟨y, _, rfl⟩ := List.mem_map.1 hx
    rw [odd_far hg hm (by omega)]; simp]
  simp
theorem partsC_len (L : List Br) (key : Ky) (x : Int) : (partsC L key x).length ≤ L.length := by
  unfold partsC
  rw [List.length_map]
  exact List.length_filter_le _ _
theorem strs_get {l : List Ky} {i : Nat} {x : Ky} (h : l[i]? = some x) : (l.map strV)[i]? = some (strV x) := by simp [h]
theorem filter_step {c : Nat → Bool} {f : Nat → Ky} (k : Nat) : ((List.range (k + 1)).filter c).map f = ((List.range k).filter c).map f ++ (if c k then [f k] else []) := by
  rw [List.range_succ, List.filter_append, List.map_append]
  cases h : c k <;> simp [h]
end Go.X
namespace Go.Proofs.YtandbmnhghmcgaaDoor.Col
open Go Go.X Go.RowKit Go.Proofs.YtandbmnhghmcgaaDoor.XF Go.Proofs.YtandbmnhghmcgaaDoor.XK
theorem oddC_len (L : List Br) : (oddC L).length ≤ L.length * L.length := by
  rw [oddC_eq, List.length_flatMap]
  have : ∀ l : List Ky, (l.map fun k => (oddsOf L k).length).sum ≤ l.length * L.length := by
    intro l
    induction l with
    | nil => simp
    | cons a l ih =>
      have h1 : (oddsOf L a).length ≤ L.length := by
        unfold oddsOf
        rw [List.length_map]
        have := List.length_filter_le (fun k : Nat => oddK L a k) (List.range L.length)
        simpa using this
      simp only [List.map_cons, List.sum_cons, List.length_cons, Nat.add_mul]
      omega
  have h2 := this (keysC L)
  have h3 : (keysC L).length ≤ L.length := by unfold keysC; rw [List.length_mergeSort]; exact keysOf_len L
  exact Nat.le_trans h2 (Nat.mul_le_mul_right _ h3)
section
variable {w : World} {p : Nat} {loose : Bool} {L : List Br} {V : CV} {e : Re}
theorem odd_L5 {w2 : World} {ρ : Sl} {K : Exit → Sl → World → Prop} {m B : Nat} {out : List Ky} (hr : RoAt w2 L e) (hl : e.g.length ≤ 1000000) (hgl : Gl w2) (hk : e.key.length ≤ 1000000) (hm : m ≤ 1000000) (ho : out.length ≤ 1000000000) (hB : B = w2.heap.size) (hm2 : Mod none_ w2 w) (hrow : w.ownsRow B tS 1 (ρ 3) out.length (strs out))
    (q6 : ρ 6 = .pointer (some ⟨e.ro, 0, none⟩)) (q5 : ρ 5 = strV e.key) (q44 : ρ 44 = .int .i64 m) (q45 : ρ 45 = .int .i64 (0 : Nat))
    (hK : ∀ (ρ' : Sl) (w' : World), ρ' 0 = ρ 0 → ρ' 18 = ρ 18 → ρ' 19 = ρ 19 → ρ' 20 = ρ 20 → w'.ownsRow B tS 1 (ρ' 3) (out ++ ((List.range m).filter fun k : Nat => oddK L e.key k).map fun k : Nat => childK e.key k).length (strs (out ++ ((List.range m).filter fun k : Nat => oddK L e.key k).map fun k : Nat => childK e.key k)) → Mod none_ w2 w' → K (.exit 4) ρ' w') :
    W fn_ Tryd.prog 62 (Code.loop coll_Coll_Odd_L5) K ρ w := by
  refine W_loop coll_Coll_Odd_L5_ok (fun ρ' w' => ∃ k : Nat, k ≤ m ∧ ρ' 45 = .int .i64 k ∧ ρ' 44 = .int .i64 m ∧ ρ' 6 = .pointer (some ⟨e.ro, 0, none⟩) ∧ ρ' 5 = strV e.key ∧ ρ' 0 = ρ 0 ∧ ρ' 18 = ρ 18 ∧ ρ' 19 = ρ 19 ∧ ρ' 20 = ρ 20 ∧
      w'.ownsRow B tS 1 (ρ' 3) (out ++ ((List.range k).filter fun k : Nat => oddK L e.key k).map fun k : Nat => childK e.key k).length (strs (out ++ ((List.range k).filter fun k : Nat => oddK L e.key k).map fun k : Nat => childK e.key k)) ∧ Mod none_ w2 w') (fun ρ _ => m - (intOf (ρ 45)).toNat)
    ⟨0, Nat.zero_le _, q45, q44, q6, q5, rfl, rfl, rfl, rfl, by simpa using hrow, hm2⟩ ?_
  rintro ρ1 w1 ⟨k, hkm, p45, p44, p6, p5, p0, p18, p19, p20, hrow1, hm1⟩
  rw [coll_Coll_Odd_L5_eq]; unfold coll_Coll_Odd_L5_F
  rw [p45, p44, p6, BK_lss]
  by_cases hlt : k < m
  · rw [decide_eq_true (by omega)]
    refine condT ?_
    refine CK_st Tryd.func52 rfl rfl (odd_ok (hr.calm hm1) hl k) ?_
    rintro _ w3 ⟨rfl, hm3⟩
    have hm23 := hm1.trans hm3
    have hs := filter_step (c := fun k : Nat => oddK L e.key k) (f := fun k : Nat => childK e.key k) k
    have hrow3 := owns_mod hrow1 hm3 fun _ _ => id
    have hlen : (((List.range k).filter fun k : Nat => oddK L e.key k).map fun k : Nat => childK e.key k).length ≤ k := by
      rw [List.length_map]
      have := List.length_filter_le (fun k : Nat => oddK L e.key k) (List.range k)
      simpa using this
    refine caseC (fun q => ?_) (fun q => ?_)
    · rw [if_pos q] at hs
      rw [p5, show (Value.string { data := #[46] }) = strV [46] from rfl, BK_addS (by omega) (by simp)]
      refine CK_st Tryd.func53 rfl rfl (Itoa_ok (hgl.calm hm23) (by omega) (by omega)) ?_
      rintro _ w4 ⟨rfl, hm4⟩
      have hil := itoa_len (n := (k : Int)) (by omega) (by omega)
      rw [BK_addS (by simp; omega) (by omega)]
      have hm24 := hm23.trans hm4
      refine appS (owns_mod hrow3 hm4 fun _ _ => id) (by rw [hB]; exact hm24.size) (by rw [List.length_append]; omega) fun x v' w5 ho5 hm5 => ?_
      have hm25 : Mod none_ w2 w5 := hm24.then hm5 fun i hi z => by omega
      rw [coll_Coll_Odd_R6_eq]; unfold coll_Coll_Odd_R6_F
      simp only [sq_n, sq_x, sq_r, bk_n, bk_r, bk_x, rt_r, rt_n, rs_0, rs_t, pk_1, pk_2, up_at, reduceIte, Nat.reduceEqDiff]
      rw [p45, BK_add, wrap_i (by omega) (by omega)]
      refine ⟨⟨k + 1, hlt, rfl, p44, p6, p5, p0, p18, p19, p20, ?_, hm25⟩, ?_⟩
      · rw [hs, ← List.append_assoc]
        have : childK e.key (k : Int) = e.key ++ [46] ++ Lib.itoa (k : Int) := by unfold childK; simp
        rw [this]
        exact ho5
      · simp only [sq_n, sq_x, sq_r, bk_n, bk_r, bk_x, rt_r, rt_n, rs_0, rs_t, pk_1, pk_2, up_at, reduceIte, Nat.reduceEqDiff, intOf]; omega
    · rw [if_neg (by rw [q]; simp), List.append_nil] at hs
      rw [coll_Coll_Odd_R6_eq]; unfold coll_Coll_Odd_R6_F
      simp only [sq_n, sq_x, sq_r, bk_n, bk_r, bk_x, rt_r, rt_n, rs_0, rs_t, pk_1, pk_2, up_at, reduceIte, Nat.reduceEqDiff]
      rw [p45, BK_add, wrap_i (by omega) (by omega)]
      refine ⟨⟨k + 1, hlt, rfl, p44, p6, p5, p0, p18, p19, p20, ?_, hm23⟩, ?_⟩
      · rw [hs]
        exact hrow3
      · simp only [sq_n, sq_x, sq_r, bk_n, bk_r, bk_x, rt_r, rt_n, rs_0, rs_t, pk_1, pk_2, up_at, reduceIte, Nat.reduceEqDiff, intOf]; omega
  · obtain rfl : k = m := by omega
    rw [decide_eq_false (by omega)]
    refine condF ?_
    rw [sq_x]
    exact hK _ w1 p0 p18 p19 p20 hrow1 hm1
theorem odd_L2 {ρ : Sl} {K : Exit → Sl → World → Prop} (hr : RoAt w L e) (hl : e.g.length ≤ 1000000)
    (q33 : ρ 33 = e.pv) (q34 : ρ 34 = .int .i64 e.g.length) (q35 : ρ 35 = .int .i64 (0 : Nat)) (q7 : ρ 7 = .int .i64 (0 : Nat))
    (hK : ∀ (ρ' : Sl) (m : Nat), (∀ i, i < 34 → i ≠ 7 → i ≠ 9 → ρ' i = ρ i) → ρ' 7 = .int .i64 m → (∀ x ∈ e.g, (partsC L e.key x).length ≤ m) → m ≤ L.length → K (.exit 2) ρ' w) :
    W fn_ Tryd.prog 62 (Code.loop coll_Coll_Odd_L2) K ρ w := by
  refine W_loop coll_Coll_Odd_L2_ok (fun ρ' w' => ∃ n m : Nat, n ≤ e.g.length ∧ ρ' 35 = .int .i64 n ∧ ρ' 34 = .int .i64 e.g.length ∧ ρ' 33 = e.pv ∧ ρ' 7 = .int .i64 m ∧ (∀ i, i < 34 → i ≠ 7 → i ≠ 9 → ρ' i = ρ i) ∧ (∀ x ∈ e.g.take n, (partsC L e.key x).length ≤ m) ∧ m ≤ L.length ∧ w' = w) (fun ρ _ => e.g.length - (intOf (ρ 35)).toNat)
    ⟨0, 0, Nat.zero_le _, q35, q34, q33, q7, fun _ _ _ _ => rfl, by simp, Nat.zero_le _, rfl⟩ ?_
  rintro ρ1 w1 ⟨n, m, hn, p35, p34, p33, p7, hs, hall, hmL, rfl⟩
  rw [coll_Coll_Odd_L2_eq]; unfold coll_Coll_Odd_L2_F
  rw [p35, p34, p33, p7, BK_lss]
  by_cases hlt : n < e.g.length
  · rw [decide_eq_true (by omega)]
    refine condT ?_
    have hx : e.g[n]? = some e.g[n] := List.getElem?_eq_getElem hlt
    have etk : e.g.take (n + 1) = e.g.take n ++ [e.g[n]] := by rw [List.take_add_one, hx]; rfl
    generalize e.g[n] = x at *
    obtain ⟨v, hv, hrow⟩ := hr.vs_at hx
    refine ixPs (x := x) hr hv fun y => ?_
    obtain ⟨A, c, es, _⟩ := reads_cap (reads_of_owns hrow)
    rw [es, len_sl vPts, max_i, BK_add, wrap_i (by omega) (by omega)]
    have hpl := partsC_len L e.key x
    refine ⟨⟨n + 1, if (partsC L e.key x).length > m then (partsC L e.key x).length else m, hlt, rfl, p34, p33, ?_, fun i h1 h2 h3 => ?_, ?_, ?_, rfl⟩, ?_⟩
    · simp only [sq_n, sq_x, sq_r, bk_n, bk_r, bk_x, rt_r, rt_n, rs_0, rs_t, pk_1, pk_2, up_at, reduceIte, Nat.reduceEqDiff]
      congr 1
      split <;> split <;> omega
    · simp only [sq_n, sq_x, sq_r, bk_n, bk_r, bk_x, rt_r, rt_n, rs_0, rs_t, pk_1, pk_2, up_at, reduceIte, Nat.reduceEqDiff]
      rw [if_neg (by omega), if_neg (by omega), if_neg (by omega), if_neg (by omega), if_neg (by omega), if_neg (by omega), if_neg (by omega), if_neg (by omega), if_neg (by omega), if_neg (by omega), if_neg (by omega)]
      exact hs i h1 h2 h3
    · rw [etk]
      intro a z
      rcases List.mem_append.1 z with z | z
      · have := hall a z
        split <;> omega
      · rw [List.mem_singleton.1 z]
        split <;> omega
    · split <;> omega
    · simp only [sq_n, sq_x, sq_r, bk_n, bk_r, bk_x, rt_r, rt_n, rs_0, rs_t, pk_1, pk_2, up_at, reduceIte, Nat.reduceEqDiff, intOf]; omega
  · obtain rfl : n = e.g.length := by omega
    rw [decide_eq_false (by omega)]
    refine condF ?_
    rw [sq_x]
    rw [List.take_length] at hall
    refine hK _ m (fun i h1 h2 h3 => ?_) ?_ hall hmL
    · simp only [sq_n, sq_x, sq_r, bk_n, bk_r, bk_x, rt_r, rt_n, rs_0, rs_t, pk_1, pk_2, up_at, reduceIte, Nat.reduceEqDiff]
      rw [if_neg (by omega)]
      exact hs i h1 h2 h3
    · exact p7
theorem Odd_ok (h : CAt w p loose L V) (hgl : Gl w) (hL : L.length ≤ 10000) (hK : ∀ b ∈ L, b.key.length ≤ 1000000) : Rt Tryd.prog 24 #[.pointer (some ⟨p, 0, none⟩)] w fun v w' => w'.ownsRow w.heap.size tS 1 v (oddC L).length (strs (oddC L)) ∧ Mod none_ w w' := by
  refine coll_Coll_Odd_calls ?_
  unfold coll_Coll_Odd_F
  refine CK_st Tryd.func34 rfl rfl (none_ok h) ?_
  rintro _ w0 ⟨rfl, rfl⟩
  simp only [↓VG_u, ↓UG_u, ↓MG_u, ↓NG_u, ↓PG_u, ↓BG_u, ↓CG_u, ↓IG_u, ↓VGtt, ↓VGtf, ↓VGft, ↓VGff, ↓UGtt, ↓UGtf, ↓UGft, ↓UGff, ↓MGtt, ↓MGtf, ↓MGft, ↓MGff, ↓NGtt, ↓NGtf, ↓NGft, ↓NGff, ↓PGtt, ↓PGtf, ↓PGft, ↓PGff, ↓BGtt, ↓BGtf, ↓BGft, ↓BGff, ↓CGtt, ↓CGtf, ↓CGft, ↓CGff, ↓IGtt, ↓IGtf, ↓IGft, ↓IGff, ↓PKt, ↓PKf, ↓CDt, ↓CDf, ↓NOTt, ↓NOTf, ↓NK_ptr, ↓(f_all h).e]
  refine CK_st Tryd.func51 rfl rfl (Keys_ok (some V.mb) w0) ?_
  rintro _ w1 ⟨rfl, rfl⟩
  have hb1 := alloc_new w0 (.cells #[.map (some V.mb)] tMp (0, 0))
  have hm1 : Mod none_ w0 (w0.alloc (.cells #[.map (some V.mb)] tMp (0, 0))) := (Mod.refl none_ w0).alloc _
  generalize hw1 : w0.alloc (.cells #[.map (some V.mb)] tMp (0, 0)) = w1 at *
  refine CK_st Tryd.func50 rfl rfl (Sorted_ok (h.calm hm1) (by omega) hK hb1) ?_
  rintro vk w2 ⟨hvk, hm12⟩
  have hm02 := hm1.trans hm12
  have h2 := h.calm hm02
  have hlow : ∀ b, sb vk b → b < w2.heap.size := fun b hb => (owns_bd hvk b hb).2
  obtain ⟨A, c, es, _⟩ := reads_cap (reads_of_owns hvk)
  rw [es, len_sl vSs, ← es]
  have hkl : (keysC L).length ≤ L.length := by unfold keysC; rw [List.length_mergeSort]; exact keysOf_len L
  refine W_loop coll_Coll_Odd_L0_ok (fun ρ w' => ∃ i : Nat, i ≤ (keysC L).length ∧ ρ 20 = .int .i64 i ∧ ρ 19 = .int .i64 (keysC L).length ∧ ρ 18 = vk ∧ ρ 0 = .pointer (some ⟨p, 0, none⟩) ∧ w'.ownsRow w2.heap.size tS 1 (ρ 3) (((keysC L).take i).flatMap (oddsOf L)).length (strs (((keysC L).take i).flatMap (oddsOf L))) ∧ Mod none_ w2 w') (fun ρ _ => (keysC L).length - (intOf (ρ 20)).toNat)
    ⟨0, Nat.zero_le _, rfl, rfl, rfl, rfl, World.ownsRow_nil _ _ _ _, Mod.refl _ _⟩ ?_
  rintro ρ w3 ⟨i, hi, q20, q19, q18, q0, hrow, hm23⟩
  have h3 := h2.calm hm23
  rw [coll_Coll_Odd_L0_eq]; unfold coll_Coll_Odd_L0_F
  rw [q20, q19, q18, q0, BK_lss]
  by_cases hlt : i < (keysC L).length
  · rw [decide_eq_true (by omega)]
    refine condT ?_
    have hx : (keysC L)[i]? = some (keysC L)[i] := List.getElem?_eq_getElem hlt
    have etk : (keysC L).take (i + 1) = (keysC L).take i ++ [(keysC L)[i]] := by rw [List.take_add_one, hx]; rfl
    have hmem : (keysC L)[i] ∈ keysC L := List.getElem_mem hlt
    generalize (keysC L)[i] = key at *
    refine ixld vSs cS vS rfl (reads_of_owns (owns_mod hvk hm23 fun _ _ => id)) (by omega) (by rw [Int.toNat_natCast]; exact strs_get hx) fun y => ?_
    simp only [↓VG_u, ↓UG_u, ↓MG_u, ↓NG_u, ↓PG_u, ↓BG_u, ↓CG_u, ↓IG_u, ↓VGtt, ↓VGtf, ↓VGft, ↓VGff, ↓UGtt, ↓UGtf, ↓UGft, ↓UGff, ↓MGtt, ↓MGtf, ↓MGft, ↓MGff, ↓NGtt, ↓NGtf, ↓NGft, ↓NGff, ↓PGtt, ↓PGtf, ↓PGft, ↓PGff, ↓BGtt, ↓BGtf, ↓BGft, ↓BGff, ↓CGtt, ↓CGtf, ↓CGft, ↓CGff, ↓IGtt, ↓IGtf, ↓IGft, ↓IGff, ↓PKt, ↓PKf, ↓CDt, ↓CDf, ↓NOTt, ↓NOTf, ↓NK_ptr, ↓(f_all h3).e]
    have hkm : key ∈ keysOf L := by unfold keysC at hmem; exact List.mem_mergeSort.1 hmem
    rcases h3.look key w3 (Mod.refl _ _) with ⟨hg, _⟩ | ⟨e, he, rfl, hl⟩
    · have := grpC_isSome.2 (keysOf_mem.1 hkm)
      rw [hg] at this; cases this
    refine VK_of hl ?_
    have hr := h3.ro e he
    have hel := h3.len64 e he
    simp only [↓VG_u, ↓UG_u, ↓MG_u, ↓NG_u, ↓PG_u, ↓BG_u, ↓CG_u, ↓IG_u, ↓VGtt, ↓VGtf, ↓VGft, ↓VGff, ↓UGtt, ↓UGtf, ↓UGft, ↓UGff, ↓MGtt, ↓MGtf, ↓MGft, ↓MGff, ↓NGtt, ↓NGtf, ↓NGft, ↓NGff, ↓PGtt, ↓PGtf, ↓PGft, ↓PGff, ↓BGtt, ↓BGtf, ↓BGft, ↓BGff, ↓CGtt, ↓CGtf, ↓CGft, ↓CGff, ↓IGtt, ↓IGtf, ↓IGft, ↓IGff, ↓PKt, ↓PKf, ↓CDt, ↓CDf, ↓NOTt, ↓NOTf, ↓NK_ptr, ↓(f_key hr).e]
    obtain ⟨A, c, es2, _⟩ := reads_cap (reads_of_owns hr.row)
    rw [es2, len_sl vPs, ← es2]
    refine odd_L2 hr (by omega) rfl rfl rfl rfl fun ρ' m hs q7 hmx hmL => ?_
    have s3 : ρ' 3 = ρ 3 := hs 3 (by decide) (by decide) (by decide)
    have s0 : ρ' 0 = .pointer (some ⟨p, 0, none⟩) := (hs 0 (by decide) (by decide) (by decide)).trans q0
    have s5 : ρ' 5 = strV e.key := hs 5 (by decide) (by decide) (by decide)
    have s6 : ρ' 6 = .pointer (some ⟨e.ro, 0, none⟩) := hs 6 (by decide) (by decide) (by decide)
    have s18 : ρ' 18 = vk := (hs 18 (by decide) (by decide) (by decide)).trans q18
    have s19 : ρ' 19 = .int .i64 (keysC L).length := (hs 19 (by decide) (by decide) (by decide)).trans q19
    have s20 : ρ' 20 = .int .i64 i := (hs 20 (by decide) (by decide) (by decide)).trans q20
    rw [bk_x, sq_n, coll_Coll_Odd_R3_eq]; unfold coll_Coll_Odd_R3_F
    have hkl2 : e.key.length ≤ 1000000 := by
      obtain ⟨b, hb, hbk, _⟩ := grpC_some hr.grp
      rw [← hbk]; exact hK b hb
    have hol : (((keysC L).take i).flatMap (oddsOf L)).length ≤ 100000000 := by
      have h5 := oddC_len L
      have h6 : (((keysC L).take i).flatMap (oddsOf L)).length ≤ (oddC L).length := by
        rw [oddC_eq]
        conv => rhs; rw [← List.take_append_drop i (keysC L), List.flatMap_append]
        rw [List.length_append]; omega
      have h7 : L.length * L.length ≤ 10000 * 10000 := Nat.mul_le_mul hL hL
      omega
    refine odd_L5 (out := ((keysC L).take i).flatMap (oddsOf L)) (e := e) (m := m) (B := w2.heap.size) (w2 := w2) (h2.ro e he) (by omega) (hgl.calm hm02) hkl2 (by omega) (by omega) rfl hm23 (by show w3.ownsRow _ _ _ (ρ' 3) _ _; rw [s3]; exact hrow) s6 s5 q7 rfl ?_
    intro ρ2 w4 t0 t18 t19 t20 hrow4 hm24
    rw [bk_x, bk_n, sq_n, coll_Coll_Odd_R4_eq]; unfold coll_Coll_Odd_R4_F
    rw [show ρ2 20 = .int .i64 i from t20.trans s20, BK_add, wrap_i (by omega) (by omega)]
    refine ⟨⟨i + 1, hlt, rfl, t19.trans s19, t18.trans s18, t0.trans s0, ?_, hm24⟩, ?_⟩
    · rw [etk, List.flatMap_append, List.flatMap_cons, List.flatMap_nil, List.append_nil, odd_trim hr.grp hmx hmL]
      exact hrow4
    · simp only [sq_n, sq_x, sq_r, bk_n, bk_r, bk_x, rt_r, rt_n, rs_0, rs_t, pk_1, pk_2, up_at, reduceIte, Nat.reduceEqDiff, intOf]; omega
  · obtain rfl : i = (keysC L).length := by omega
    rw [decide_eq_false (by omega)]
    refine condF ?_
    rw [sq_x, bk_x, sq_n, coll_Coll_Odd_R1_eq]; unfold coll_Coll_Odd_R1_F
    rw [List.take_length, ← oddC_eq] at hrow
    exact ⟨owns_base hrow hm02.size, hm02.trans hm23⟩
end
end Go.Proofs.YtandbmnhghmcgaaDoor.Col
set_option linter.unusedVariables false
set_option maxRecDepth 100000
namespace Go.Proofs.YtandbmnhghmcgaaDoor.XI
open Go Go.X
noncomputable def coll_Coll_Bring_b : Code := (Tryd.f12.body).getD .skip
noncomputable def coll_Coll_Bring_R0 : Code := cAt [1, 1, 0] coll_Coll_Bring_b
noncomputable def coll_Coll_Bring_R1 : Code := cAt [1, 1, 1] coll_Coll_Bring_b
noncomputable def coll_Coll_Bring_R2 : Code := cAt [1, 1, 1, 1, 0, 0] coll_Coll_Bring_b
noncomputable def coll_Coll_Bring_R3 : Code := cAt [1, 1, 1, 1, 0, 1] coll_Coll_Bring_b
noncomputable def coll_Coll_Bring_R4 : Code := cAt [1, 1, 1, 1, 1] coll_Coll_Bring_b
noncomputable def coll_Coll_Bring_R5 : Code := cAt [1, 1, 1, 1, 1, 1] coll_Coll_Bring_b
noncomputable def coll_Coll_Bring_R6 : Code := cAt [1, 1, 1, 1, 1, 0, 1, 0, 0] coll_Coll_Bring_b
noncomputable def coll_Coll_Bring_R7 : Code := cAt [1, 1, 1, 1, 1, 0, 1, 0, 1] coll_Coll_Bring_b
noncomputable def coll_Coll_Bring_R8 : Code := cAt [1, 1, 1, 1, 1, 1, 0] coll_Coll_Bring_b
noncomputable def coll_Coll_Bring_R9 : Code := cAt [1, 1, 1, 1, 1, 1, 1] coll_Coll_Bring_b
noncomputable def coll_Coll_Bring_R0_ops : Array Oper := opsOf coll_Coll_Bring_R0
def coll_Coll_Bring_R0_Q (C : World → Prop) (K : Exit → Sl → World → Prop) (ρ : Sl) : Prop :=
  QK Tryd.prog C (nilCk (ρ 0)) fun x16 => QK Tryd.prog C (do pure (Next.value (← Instr.fieldAt 72 x16 1))) fun x17 => QK Tryd.prog C (do pure (Next.value (← Instr.loadAt 70 x17))) fun x18 => QK Tryd.prog C (do pure (Next.value (← Instr.fieldAt 32 (ρ 5) 0))) fun x19 => QK Tryd.prog C (do pure (Next.value (← Instr.loadAt 9 x19))) fun x20 => QK Tryd.prog C (do pure (Next.value (← Instr.lookup 70 x18 x20 false))) fun x21 => ∀ w', C w' → K Exit.normal (up (up (up (up (up (up (up (up ρ 15 (ρ 0)) 16 x16) 17 x17) 18 x18) 19 x19) 20 x20) 21 x21) 10 x21) w'
theorem coll_Coll_Bring_R0_quiet {D : List Deferred} (C : World → Prop) {K : Exit → Sl → World → Prop} {ρ : Sl} {w : World} (hC : C { w with drawn := w.drawn + 1 }) (h : coll_Coll_Bring_R0_Q C K ρ) : W ⟨none, D⟩ Tryd.prog 100 coll_Coll_Bring_R0 K ρ w := by
  have e : coll_Coll_Bring_R0 = .region (idOf coll_Coll_Bring_R0) coll_Coll_Bring_R0_ops true := by kernel_rfl
  have q : sxq Tryd.prog C coll_Coll_Bring_R0_ops (fun ρ' => ∀ w', C w' → K .normal ρ' w') coll_Coll_Bring_R0_ops.toList ρ = coll_Coll_Bring_R0_Q C K ρ := by kernel_rfl
  rw [e]
  exact W_quiet C (by kernel_rfl) (by kernel_rfl) (by kernel_rfl) hC (Eq.mpr q h)
noncomputable def coll_Coll_Bring_R1_F (z : At) (K : Exit → Sl → World → Prop) (ρ : Sl) (w : World) : Prop :=
  VK Tryd.prog (Instr.loadAt 32 (ρ 5)) w fun x23 w => CK Tryd.prog (Value.func (Fn.func 35) #[] #[]) [x23, (ρ 2)] w fun x25 w => VK Tryd.prog (Instr.extract x25 0) w fun x26 w => VK Tryd.prog (Instr.extract x25 1) w fun x27 w => W z Tryd.prog 100 coll_Coll_Bring_R2 (seqK (sx z Tryd.prog 100 coll_Coll_Bring_R3 (seqK (sx z Tryd.prog 100 coll_Coll_Bring_R4 K) K)) (seqK (sx z Tryd.prog 100 coll_Coll_Bring_R4 K) K)) (up (up (up (up (up (up (up (up ρ 23 x23) 24 (ρ 2)) 25 x25) 22 x25) 26 x26) 27 x27) 11 x26) 12 x27) w
theorem coll_Coll_Bring_R1_eq (z : At) (K : Exit → Sl → World → Prop) (ρ : Sl) (w : World) : sx z Tryd.prog 100 coll_Coll_Bring_R1 K ρ w = coll_Coll_Bring_R1_F z K ρ w := by kernel_rfl
noncomputable def coll_Coll_Bring_R2_ops : Array Oper := opsOf coll_Coll_Bring_R2
def coll_Coll_Bring_R2_Q (C : World → Prop) (K : Exit → Sl → World → Prop) (ρ : Sl) : Prop :=
  QK Tryd.prog C (do pure (Next.value (← Instr.loadAt 32 (ρ 5)))) fun x28 => QK Tryd.prog C (do let d ← Deferred.ofValue (Value.func (Fn.func 36) #[] #[]) [x28].toArray; invoke d.target d.args) fun x29 => QK Tryd.prog C (do pure (Next.value (← Op.unary UnOp.not x29))) fun x30 => QG Tryd.prog C x30 false  (pure (Next.value (ρ 12))) fun x32 => QG Tryd.prog C x30 false  (do pure (Next.value (← Op.unary UnOp.not x32))) fun x33 => QK Tryd.prog C (do pure (Next.value (if ← asBool x30 then (Value.bool true) else x33))) fun x34 => QG Tryd.prog C x34 false  (pure (Next.value (ρ 10))) fun x36 => QG Tryd.prog C x34 false  (do pure (Next.value (← (do eqGuard BinOp.neq 76 (Operand.tmp 36) (Operand.const (Value.pointer none)) x36 (Value.pointer none); binOp BinOp.neq 76 x36 (Value.pointer none))))) fun x37 => QG Tryd.prog C x34 false  (pure (Next.value x37)) fun x38 => QG Tryd.prog C x38 true  (pure (Next.value (ρ 10))) fun x39 => QG Tryd.prog C x38 true  (nilCk x39) fun x40 => QG Tryd.prog C x38 true  (do pure (Next.value (← Instr.fieldAt 82 x40 0))) fun x41 => QG Tryd.prog C x38 true  (do pure (Next.value (← Instr.loadAt 32 x41))) fun x42 => QG Tryd.prog C x38 true  (do pure (Next.value (← Instr.loadAt 32 (ρ 5)))) fun x43 => QG Tryd.prog C x38 true  (do let d ← Deferred.ofValue (Value.func (Fn.func 37) #[] #[]) [x42, x43].toArray; invoke d.target d.args) fun x44 => QG Tryd.prog C x38 true  (do pure (Next.value (← Op.unary UnOp.not x44))) fun x45 => QG Tryd.prog C x34 false  (do pure (Next.value (if ← asBool x38 then x45 else (Value.bool false)))) fun x46 => QK Tryd.prog C (do pure (Next.value (if ← asBool x34 then (Value.bool true) else x46))) fun x47 => QG Tryd.prog C x47 false  (do pure (Next.value (← Instr.loadAt 32 (ρ 5)))) fun x49 => QG Tryd.prog C x47 false  (do pure (Next.value (← Instr.loadAt 34 (ρ 7)))) fun x50 => QG Tryd.prog C x47 false  (do let d ← Deferred.ofValue (Value.func (Fn.func 19) #[] #[]) [x49, x50].toArray; invoke d.target d.args) fun x51 => QG Tryd.prog C x47 false  (do pure (Next.value (← Op.unary UnOp.not x51))) fun x52 => QK Tryd.prog C (do pure (Next.value (if ← asBool x47 then (Value.bool true) else x52))) fun x53 => ∀ w', C w' → K Exit.normal (up (up (up (up (up (up (up (up (up (up (up (up (up (up (up (up (up (up (up (up (up (up (up (up (up (up ρ 28 x28) 29 x29) 30 x30) 31 x30) 32 x32) 33 x33) 34 x34) 35 x34) 36 x36) 37 x37) 38 x38) 39 x39) 40 x40) 41 x41) 42 x42) 43 x43) 44 x44) 45 x45) 46 x46) 47 x47) 48 x47) 49 x49) 50 x50) 51 x51) 52 x52) 53 x53) w'
theorem coll_Coll_Bring_R2_quiet {D : List Deferred} (C : World → Prop) {K : Exit → Sl → World → Prop} {ρ : Sl} {w : World} (hC : C { w with drawn := w.drawn + 1 }) (h : coll_Coll_Bring_R2_Q C K ρ) : W ⟨none, D⟩ Tryd.prog 100 coll_Coll_Bring_R2 K ρ w := by
  have e : coll_Coll_Bring_R2 = .region (idOf coll_Coll_Bring_R2) coll_Coll_Bring_R2_ops true := by kernel_rfl
  have q : sxq Tryd.prog C coll_Coll_Bring_R2_ops (fun ρ' => ∀ w', C w' → K .normal ρ' w') coll_Coll_Bring_R2_ops.toList ρ = coll_Coll_Bring_R2_Q C K ρ := by kernel_rfl
  rw [e]
  exact W_quiet C (by kernel_rfl) (by kernel_rfl) (by kernel_rfl) hC (Eq.mpr q h)
noncomputable def coll_Coll_Bring_R3_F (z : At) (K : Exit → Sl → World → Prop) (ρ : Sl) (w : World) : Prop :=
  CondK (ρ 53) (K .ret (up (up ρ 8 (Value.int .i64 0)) 9 (Value.int .i64 2)) w) (K .normal ρ w)
theorem coll_Coll_Bring_R3_eq (z : At) (K : Exit → Sl → World → Prop) (ρ : Sl) (w : World) : sx z Tryd.prog 100 coll_Coll_Bring_R3 K ρ w = coll_Coll_Bring_R3_F z K ρ w := by kernel_rfl
noncomputable def coll_Coll_Bring_R4_F (z : At) (K : Exit → Sl → World → Prop) (ρ : Sl) (w : World) : Prop :=
  BK Tryd.prog .eql 76 (.tmp 54) (.const (Value.pointer none)) (ρ 10) (Value.pointer none) w fun x55 w => CondK x55 (W z Tryd.prog 100 coll_Coll_Bring_R6 (seqK (sx z Tryd.prog 100 coll_Coll_Bring_R7 (seqK (sx z Tryd.prog 100 coll_Coll_Bring_R5 K) K)) (seqK (sx z Tryd.prog 100 coll_Coll_Bring_R5 K) K)) (up (up ρ 54 (ρ 10)) 55 x55) w) (sx z Tryd.prog 100 coll_Coll_Bring_R5 K (up (up ρ 54 (ρ 10)) 55 x55) w)
theorem coll_Coll_Bring_R4_eq (z : At) (K : Exit → Sl → World → Prop) (ρ : Sl) (w : World) : sx z Tryd.prog 100 coll_Coll_Bring_R4 K ρ w = coll_Coll_Bring_R4_F z K ρ w := by kernel_rfl
noncomputable def coll_Coll_Bring_R5_F (z : At) (K : Exit → Sl → World → Prop) (ρ : Sl) (w : World) : Prop :=
  W z Tryd.prog 100 coll_Coll_Bring_R8 (seqK (sx z Tryd.prog 100 coll_Coll_Bring_R9 K) K) ρ w
theorem coll_Coll_Bring_R5_eq (z : At) (K : Exit → Sl → World → Prop) (ρ : Sl) (w : World) : sx z Tryd.prog 100 coll_Coll_Bring_R5 K ρ w = coll_Coll_Bring_R5_F z K ρ w := by kernel_rfl
noncomputable def coll_Coll_Bring_R6_ops : Array Oper := opsOf coll_Coll_Bring_R6
def coll_Coll_Bring_R6_H (S : World → Prop) (K : Exit → Sl → World → Prop) (ρ : Sl) (w : World) : Prop :=
  HK Tryd.prog S (do pure (Next.value (← Instr.fieldAt 32 (ρ 5) 0))) fun x56 => HK Tryd.prog S (do pure (Next.value (← Instr.loadAt 9 x56))) fun x57 => HK Tryd.prog S (do pure (Next.value (← Instr.fieldAt 32 (ρ 5) 1))) fun x58 => HK Tryd.prog S (do pure (Next.value (← Instr.loadAt 30 x58))) fun x59 => HK Tryd.prog S (do pure (Next.value (← Instr.fieldAt 32 (ρ 5) 1))) fun x62 => HK Tryd.prog S (do pure (Next.value (← Instr.loadAt 30 x62))) fun x63 => HK Tryd.prog S (builtin Builtin.len #[30] 3 [false].toArray [x63].toArray) fun x64 => (CK Tryd.prog (Value.func (Fn.func 38) #[] #[]) [x59] w fun x60 w => S w ∧ (HK Tryd.prog S (do pure (Next.value (← Instr.build 32 [(0, x57), (1, x60)].toArray))) fun x61 => VK Tryd.prog (Instr.makeSlice 80 x64 x64) w fun x65 w => S w ∧ (HK Tryd.prog S (do pure (Next.value (← Instr.build 82 [(0, x61), (1, x65)].toArray))) fun x66 => VK Tryd.prog (Instr.box 82 x66) w fun x67 w => S w ∧ (K Exit.normal (up (up (up (up (up (up (up (up (up (up (up (up (up ρ 56 x56) 57 x57) 58 x58) 59 x59) 62 x62) 63 x63) 64 x64) 60 x60) 61 x61) 65 x65) 66 x66) 67 x67) 10 x67) w)))) ∧ (VK Tryd.prog (Instr.makeSlice 80 x64 x64) w fun x65_1 w => S w ∧ (CK Tryd.prog (Value.func (Fn.func 38) #[] #[]) [x59] w fun x60_1 w => S w ∧ (HK Tryd.prog S (do pure (Next.value (← Instr.build 32 [(0, x57), (1, x60_1)].toArray))) fun x61_1 => HK Tryd.prog S (do pure (Next.value (← Instr.build 82 [(0, x61_1), (1, x65_1)].toArray))) fun x66_1 => VK Tryd.prog (Instr.box 82 x66_1) w fun x67_1 w => S w ∧ (K Exit.normal (up (up (up (up (up (up (up (up (up (up (up (up (up ρ 56 x56) 57 x57) 58 x58) 59 x59) 62 x62) 63 x63) 64 x64) 65 x65_1) 60 x60_1) 61 x61_1) 66 x66_1) 67 x67_1) 10 x67_1) w))))
theorem coll_Coll_Bring_R6_held {D : List Deferred} (S : World → Prop) {K : Exit → Sl → World → Prop} {ρ : Sl} {w : World} (hS : S { w with drawn := w.drawn + 1 }) (h : coll_Coll_Bring_R6_H S K ρ { w with drawn := w.drawn + 1 }) : W ⟨none, D⟩ Tryd.prog 100 coll_Coll_Bring_R6 K ρ w := by
  have e : coll_Coll_Bring_R6 = .region (idOf coll_Coll_Bring_R6) coll_Coll_Bring_R6_ops true := by kernel_rfl
  have q : sxd Tryd.prog S coll_Coll_Bring_R6_ops (K .normal) (Pd.take 0 (Pd.take 1 (Pd.take 2 (Pd.take 3 (Pd.take 6 (Pd.take 7 (Pd.take 8 (Pd.two false false 4 9 (Pd.take 5 (Pd.only false 9 (Pd.take 10 (Pd.only false 11 (Pd.take 12 Pd.done))))) (Pd.only false 4 (Pd.take 5 (Pd.take 10 (Pd.only false 11 (Pd.take 12 Pd.done))))))))))))) ρ { w with drawn := w.drawn + 1 } = coll_Coll_Bring_R6_H S K ρ { w with drawn := w.drawn + 1 } := by kernel_rfl
  rw [e]
  exact W_pland S (Pd.take 0 (Pd.take 1 (Pd.take 2 (Pd.take 3 (Pd.take 6 (Pd.take 7 (Pd.take 8 (Pd.two false false 4 9 (Pd.take 5 (Pd.only false 9 (Pd.take 10 (Pd.only false 11 (Pd.take 12 Pd.done))))) (Pd.only false 4 (Pd.take 5 (Pd.take 10 (Pd.only false 11 (Pd.take 12 Pd.done))))))))))))) (by kernel_rfl) (by kernel_rfl) (by kernel_rfl) (by kernel_rfl) hS (Eq.mpr q h)
noncomputable def coll_Coll_Bring_R7_ops : Array Oper := opsOf coll_Coll_Bring_R7
def coll_Coll_Bring_R7_T (K : Exit → Sl → World → Prop) (ρ : Sl) (w : World) : Prop :=
  let C : World → Prop := fun w' => w' = w; QK Tryd.prog C (nilCk (ρ 0)) fun x69 => QK Tryd.prog C (do pure (Next.value (← Instr.fieldAt 72 x69 1))) fun x70 => QK Tryd.prog C (do pure (Next.value (← Instr.loadAt 70 x70))) fun x71 => QK Tryd.prog C (do pure (Next.value (← Instr.fieldAt 32 (ρ 5) 0))) fun x72 => QK Tryd.prog C (do pure (Next.value (← Instr.loadAt 9 x72))) fun x73 => UK Tryd.prog (Instr.mapUpdate 70 x71 x73 (ρ 10)) w fun _ w => K Exit.normal (up (up (up (up (up (up (up ρ 68 (ρ 0)) 69 x69) 70 x70) 71 x71) 72 x72) 73 x73) 74 (ρ 10)) w
theorem coll_Coll_Bring_R7_tail {D : List Deferred} {K : Exit → Sl → World → Prop} {ρ : Sl} {w : World} (h : coll_Coll_Bring_R7_T K ρ { w with drawn := w.drawn + 1 }) : W ⟨none, D⟩ Tryd.prog 100 coll_Coll_Bring_R7 K ρ w := by
  have e : coll_Coll_Bring_R7 = .region (idOf coll_Coll_Bring_R7) coll_Coll_Bring_R7_ops true := by kernel_rfl
  have q : sxq Tryd.prog (fun w' => w' = { w with drawn := w.drawn + 1 }) coll_Coll_Bring_R7_ops (fun ρ' => sxL Tryd.prog coll_Coll_Bring_R7_ops (K .normal) (coll_Coll_Bring_R7_ops.toList.drop 7) ρ' { w with drawn := w.drawn + 1 }) (coll_Coll_Bring_R7_ops.toList.take 7) ρ = coll_Coll_Bring_R7_T K ρ { w with drawn := w.drawn + 1 } := by kernel_rfl
  rw [e]
  exact W_tail 7 (by kernel_rfl) (by kernel_rfl) (by kernel_rfl) (by kernel_rfl) (Eq.mpr q h)
noncomputable def coll_Coll_Bring_R8_ops : Array Oper := opsOf coll_Coll_Bring_R8
def coll_Coll_Bring_R8_H (S : World → Prop) (K : Exit → Sl → World → Prop) (ρ : Sl) (w : World) : Prop :=
  HK Tryd.prog S (nilCk (ρ 10)) fun x76 => HK Tryd.prog S (do pure (Next.value (← Instr.fieldAt 82 x76 1))) fun x77 => HK Tryd.prog S (do pure (Next.value (← Instr.loadAt 80 x77))) fun x78 => HK Tryd.prog S (nilCk (ρ 10)) fun x81 => HK Tryd.prog S (do pure (Next.value (← Instr.fieldAt 82 x81 1))) fun x82 => HK Tryd.prog S (do pure (Next.value (← Instr.loadAt 80 x82))) fun x83 => HK Tryd.prog S (do pure (Next.value (← Instr.indexAt 80 x83 (ρ 11)))) fun x85 => HK Tryd.prog S (do pure (Next.value (← Instr.loadAt 34 (ρ 7)))) fun x87 => (VK Tryd.prog (Instr.loadAt 61 x85) w fun x86 w => S w ∧ (VK Tryd.prog (Instr.buildSlice 61 1 [(0, x87)].toArray) w fun x88 w => S w ∧ (IK Tryd.prog Builtin.append #[61, 61] 61 [false, false] [x86, x88] w fun x89 w => S w ∧ (HK Tryd.prog S (do pure (Next.value (← Instr.indexAt 80 x78 (ρ 11)))) fun x90 => UK Tryd.prog (Instr.storeAt 61 x90 x89) w fun _ w => S w ∧ (K Exit.normal (up (up (up (up (up (up (up (up (up (up (up (up (up (up (up (up ρ 75 (ρ 10)) 76 x76) 77 x77) 78 x78) 79 (ρ 11)) 80 (ρ 10)) 81 x81) 82 x82) 83 x83) 84 (ρ 11)) 85 x85) 87 x87) 86 x86) 88 x88) 89 x89) 90 x90) w))))) ∧ (VK Tryd.prog (Instr.buildSlice 61 1 [(0, x87)].toArray) w fun x88_1 w => S w ∧ (VK Tryd.prog (Instr.loadAt 61 x85) w fun x86_1 w => S w ∧ (IK Tryd.prog Builtin.append #[61, 61] 61 [false, false] [x86_1, x88_1] w fun x89_1 w => S w ∧ (HK Tryd.prog S (do pure (Next.value (← Instr.indexAt 80 x78 (ρ 11)))) fun x90_1 => UK Tryd.prog (Instr.storeAt 61 x90_1 x89_1) w fun _ w => S w ∧ (K Exit.normal (up (up (up (up (up (up (up (up (up (up (up (up (up (up (up (up ρ 75 (ρ 10)) 76 x76) 77 x77) 78 x78) 79 (ρ 11)) 80 (ρ 10)) 81 x81) 82 x82) 83 x83) 84 (ρ 11)) 85 x85) 87 x87) 88 x88_1) 86 x86_1) 89 x89_1) 90 x90_1) w)))))
theorem coll_Coll_Bring_R8_held {D : List Deferred} (S : World → Prop) {K : Exit → Sl → World → Prop} {ρ : Sl} {w : World} (hS : S { w with drawn := w.drawn + 1 }) (h : coll_Coll_Bring_R8_H S K ρ { w with drawn := w.drawn + 1 }) : W ⟨none, D⟩ Tryd.prog 100 coll_Coll_Bring_R8 K ρ w := by
  have e : coll_Coll_Bring_R8 = .region (idOf coll_Coll_Bring_R8) coll_Coll_Bring_R8_ops true := by kernel_rfl
  have q : sxd Tryd.prog S coll_Coll_Bring_R8_ops (K .normal) (Pd.take 0 (Pd.take 1 (Pd.take 2 (Pd.take 3 (Pd.take 4 (Pd.take 5 (Pd.take 6 (Pd.take 7 (Pd.take 8 (Pd.take 9 (Pd.take 10 (Pd.take 12 (Pd.two false false 11 13 (Pd.only false 13 (Pd.only false 14 (Pd.take 15 (Pd.only false 16 Pd.done)))) (Pd.only false 11 (Pd.only false 14 (Pd.take 15 (Pd.only false 16 Pd.done))))))))))))))))) ρ { w with drawn := w.drawn + 1 } = coll_Coll_Bring_R8_H S K ρ { w with drawn := w.drawn + 1 } := by kernel_rfl
  rw [e]
  exact W_pland S (Pd.take 0 (Pd.take 1 (Pd.take 2 (Pd.take 3 (Pd.take 4 (Pd.take 5 (Pd.take 6 (Pd.take 7 (Pd.take 8 (Pd.take 9 (Pd.take 10 (Pd.take 12 (Pd.two false false 11 13 (Pd.only false 13 (Pd.only false 14 (Pd.take 15 (Pd.only false 16 Pd.done)))) (Pd.only false 11 (Pd.only false 14 (Pd.take 15 (Pd.only false 16 Pd.done))))))))))))))))) (by kernel_rfl) (by kernel_rfl) (by kernel_rfl) (by kernel_rfl) hS (Eq.mpr q h)
noncomputable def coll_Coll_Bring_R9_F (z : At) (K : Exit → Sl → World → Prop) (ρ : Sl) (w : World) : Prop :=
  NK Tryd.prog (ρ 10) w fun x92 w => VK Tryd.prog (Instr.fieldAt 82 x92 1) w fun x93 w => VK Tryd.prog (Instr.loadAt 80 x93) w fun x94 w => VK Tryd.prog (Instr.indexAt 80 x94 (ρ 11)) w fun x96 w => VK Tryd.prog (Instr.loadAt 61 x96) w fun x97 w => IK Tryd.prog .len #[61] 3 [false] [x97] w fun x98 w => BK Tryd.prog .sub 3 (.tmp 98) (.const (Value.int .i64 1)) x98 (Value.int .i64 1) w fun x99 w => K .ret (up (up (up (up (up (up (up (up (up (up (up ρ 91 (ρ 10)) 92 x92) 93 x93) 94 x94) 95 (ρ 11)) 96 x96) 97 x97) 98 x98) 99 x99) 8 x99) 9 (Value.int .i64 0)) w
theorem coll_Coll_Bring_R9_eq (z : At) (K : Exit → Sl → World → Prop) (ρ : Sl) (w : World) : sx z Tryd.prog 100 coll_Coll_Bring_R9 K ρ w = coll_Coll_Bring_R9_F z K ρ w := by kernel_rfl
noncomputable def coll_Coll_Bring_F (a0 a1 a2 a3 : Value) (w : World) (R : Value → World → Prop) : Prop :=
  VK Tryd.prog (Instr.box 32 a1) w fun x5 w => VK Tryd.prog (Instr.box 34 a3) w fun x7 w => CK Tryd.prog (Value.func (Fn.func 34) #[] #[]) [a0] w fun x14 w => CondK x14 (R (Value.tuple #[(Value.int .i64 0), (Value.int .i64 1)]) w) (W fn_ Tryd.prog 100 coll_Coll_Bring_R0 (seqK (sx fn_ Tryd.prog 100 coll_Coll_Bring_R1 (retK Tryd.prog [ResultVar.tmp 8, ResultVar.tmp 9] R)) (retK Tryd.prog [ResultVar.tmp 8, ResultVar.tmp 9] R)) (up (up (up (up (up (up (rho0 [a0, a1, a2, a3]) 5 x5) 7 x7) 8 (Value.int .i64 0)) 9 (Value.int .i64 0)) 13 a0) 14 x14) w)
theorem coll_Coll_Bring_eq (a0 a1 a2 a3 : Value) (w : World) (R : Value → World → Prop) : sx fn_ Tryd.prog 100 coll_Coll_Bring_b (retK Tryd.prog Tryd.f12.results.toList R) (rho0 [a0, a1, a2, a3]) w = coll_Coll_Bring_F a0 a1 a2 a3 w R := by kernel_rfl
theorem coll_Coll_Bring_calls {a0 a1 a2 a3 : Value} {w : World} {R : Value → World → Prop} (h : coll_Coll_Bring_F a0 a1 a2 a3 w R) : Calls Tryd.prog 12 #[a0, a1, a2, a3] w fun e w' => ∃ v, e = .returned v ∧ R v w' :=
  Go.X.calls_of_sx (n := 100) (c := coll_Coll_Bring_b) Tryd.func12 (by kernel_rfl) (by kernel_rfl) (Nat.le_of_ble_eq_true rfl) (by kernel_rfl) (Eq.mpr (coll_Coll_Bring_eq a0 a1 a2 a3 w R) h)
end Go.Proofs.YtandbmnhghmcgaaDoor.XI
set_option linter.unusedVariables false
set_option linter.unusedSimpArgs false
set_option maxRecDepth 8000
namespace Go.X
open Go Go.RowKit
section
variable {P : Program} {w : World} {K : Value → World → Prop}
theorem mk1_k {t e : TypeId} {z : Value} {by_ : Nat} (ht : P.underlying t = some (.slice e)) (hi : (P.info? e).map (fun i => (i.zero, i.size, i.bytes)) = some (some z, 1, by_)) (hb0 : by_ ≤ 1000) (hz : z.cells = #[z]) {n : Nat} (hn : n ≤ 1048576)
    (hk : ∀ w', w'.heap[w.heap.size]? = some (.cells (Array.replicate n z) e (0, 0)) → Mod none_ w w' → w'.heap.size = w.heap.size + 1 → K (.slice (some ⟨w.heap.size, 0, none⟩) n n) w') : VK P (Instr.makeSlice t (.int .i64 (n : Int)) (.int .i64 (n : Int))) w K := by
  cases hq : P.info? e with
  | none => rw [hq] at hi; cases hi
  | some i =>
    rw [hq] at hi
    injection hi with hi
    injection hi with hz' hi
    injection hi with hs hb
    have h1 : n * by_ ≤ 1048576000 := Nat.le_trans (Nat.mul_le_mul hn hb0) (by decide)
    have h3 : ((n * by_ : Nat) : Int) ≤ 1048576000 := by omega
    rw [Int.natCast_mul] at h3
    have h4 : (by_ : Int) * (n : Int) ≤ 1048576000 := by rw [Int.mul_comm]; exact h3
    have hrun := run_make (P := P) (w := w) t e i z ht hq hz' .i64 .i64 n n (by omega) (by omega) (by rw [hb]; omega) (by omega)
    have ec : madeCells z.cells ((n : Int).toNat * i.size) = Array.replicate n z := by
      rw [hs, Nat.mul_one, Int.toNat_natCast, hz]
      apply Array.ext
      · rw [size_madeCells]; simp
      · intro j h1 h2
        simp [madeCells, Nat.mod_one]
    rw [ec, Int.toNat_natCast] at hrun
    exact VK_of hrun (hk _ (alloc_new w _) ((Mod.refl _ w).alloc _) (alloc_size w _))
end
end Go.X
namespace Go.Proofs.YtandbmnhghmcgaaDoor.Col
open Go Go.X Go.RowKit Go.Proofs.YtandbmnhghmcgaaDoor.XF Go.Proofs.YtandbmnhghmcgaaDoor.XI Go.Proofs.YtandbmnhghmcgaaDoor.XK
section
variable {w : World}
theorem ixP_run {pv : Value} {N : Nat} {vs : List Value} {g cap : Nat} (ev : pv = .slice (some ⟨g, 0, none⟩) N cap) {n : Nat} (hn : n < N) (w' : World) : (Instr.indexAt tPs pv (.int .i64 (n : Int))).run Tryd.prog w' = .ok (.pointer (some ⟨g, n, none⟩)) w' := by
  subst ev
  rw [run_ixa (sz := 0) vPs (by kernel_rfl) (by omega) (by omega) w', add_pl]
  congr 4
  omega
theorem bring_R5 {ρ : Sl} {R : Value → World → Prop} {ro b7 n N : Nat} {key : Ky} {rv pv v : Value} {vs : List Value} {l : List Pt} {q : Pt} (hblk : w.heap[ro]? = some (.cells #[strV key, rv, pv] tRo (0, 0))) (hrow : w.ownsRow 0 tPts 1 pv N vs) (hn : vs[n]? = some v) (hv : w.ownsRow 0 tPt 6 v l.length (l.flatMap Pt.enc)) (hl : l.length ≤ 1000000)
    (hb7 : w.heap[b7]? = some (.cells q.enc.toArray tPt (0, 0))) (hb7v : ¬ sb v b7) (q10 : ρ 10 = .pointer (some ⟨ro, 0, none⟩)) (q11 : ρ 11 = .int .i64 (n : Int)) (q7 : ρ 7 = .pointer (some ⟨b7, 0, none⟩))
    (hk : ∀ (w' : World) (v' : Value), w'.ownsRow 0 tPts 1 pv N (vs.set n v') → w'.ownsRow 0 tPt 6 v' (l ++ [q]).length ((l ++ [q]).flatMap Pt.enc) → Mod (fun b => sb v b ∨ sb pv b) w w' → (∀ b, sb v' b → sb v b ∨ w.heap.size ≤ b) → R (.tuple #[.int .i64 l.length, .int .i64 0]) w') :
    sx fn_ Tryd.prog 100 coll_Coll_Bring_R5 (retK Tryd.prog [ResultVar.tmp 8, ResultVar.tmp 9] R) ρ w := by
  rw [coll_Coll_Bring_R5_eq]; unfold coll_Coll_Bring_R5_F
  have hnl : n < N := by
    have h1 := (List.getElem?_eq_some_iff.1 hn).1
    have h2 := hrow.1
    omega
  have hd : Mod none_ w { w with drawn := w.drawn + 1 } := (Mod.refl _ w).drawn _
  obtain ⟨g, cap, ev, cur, hcur⟩ := owns_some hrow (by omega)
  have hgp : sb pv g := by rw [ev]; rfl
  have hgr : g ≠ ro := fun z => by rw [z, hblk] at hcur; injection hcur with hcur; injection hcur with _ hcur; exact absurd hcur (by decide)
  have hg7 : g ≠ b7 := fun z => by rw [z, hb7] at hcur; injection hcur with hcur; injection hcur with _ hcur; exact absurd hcur (by decide)
  refine coll_Coll_Bring_R8_held (D := []) (fun w' => w'.heap[ro]? = some (.cells #[strV key, rv, pv] tRo (0, 0)) ∧ w'.heap[b7]? = some (.cells q.enc.toArray tPt (0, 0))) ⟨hd.blk hblk id, hd.blk hb7 id⟩ ?_
  generalize ({ w with drawn := w.drawn + 1 } : World) = wd at *
  unfold coll_Coll_Bring_R8_H
  rw [q10, q11, q7]
  have fld : ∀ w' : World, (Instr.fieldAt tRo (.pointer (some ⟨ro, 0, none⟩)) 1).run Tryd.prog w' = .ok (.pointer (some ⟨ro, 2, none⟩)) w' := fun w' => by rw [run_fo (show fieldOff Tryd.prog tRo 1 = some 2 by kernel_rfl), add_pl]
  have ldp : ∀ w' : World, w'.heap[ro]? = some (.cells #[strV key, rv, pv] tRo (0, 0)) → (Instr.loadAt tPs (.pointer (some ⟨ro, 2, none⟩))).run Tryd.prog w' = .ok pv w' := fun w' h => run_ld1 vPs rfl (by rw [cell_blk h]; rfl)
  refine HN_ptr (HV_of (fun w' _ => fld w') (HV_of (fun w' h => ldp w' h.1) (HN_ptr (HV_of (fun w' _ => fld w') (HV_of (fun w' h => ldp w' h.1) (HV_of (fun w' _ => ixP_run (vs := vs) ev hnl w') (HV_of (v := q.v) (fun w' h => run_ldB Tryd.underlying34 rfl iPt h.2) ?_)))))))
  -- the slice, then the row of one: in either order
  have ldv : ∀ {w' : World} {K : Value → World → Prop}, Mod none_ w w' → K v w' → VK Tryd.prog (Instr.loadAt tPts (.pointer (some ⟨g, n, none⟩))) w' K := fun {w' K} hm hK => by
    refine ld1 vPts rfl ?_ hK
    obtain ⟨_, A, c, es, _, hc⟩ := reads_of_owns (owns_mod hrow hm fun _ _ => id)
    rw [ev] at es
    cases es
    obtain ⟨a, ha, hcell⟩ := hc n v hn
    cases ha
    rw [add_pl, Nat.zero_add] at hcell
    exact hcell
  have fin : ∀ (w5 : World) (x88 : Value) (K' : Value → Value → World → Prop), Mod none_ w w5 → w5.heap[ro]? = some (.cells #[strV key, rv, pv] tRo (0, 0)) → w5.heap[b7]? = some (.cells q.enc.toArray tPt (0, 0)) → reads w5 6 x88 1 q.enc →
      (∀ (w' : World) (v' x : Value), w'.ownsRow 0 tPts 1 pv N (vs.set n v') → w'.ownsRow 0 tPt 6 v' (l ++ [q]).length ((l ++ [q]).flatMap Pt.enc) → w'.heap[ro]? = some (.cells #[strV key, rv, pv] tRo (0, 0)) → Mod (fun b => sb v b ∨ sb pv b) w w' → (∀ b, sb v' b → sb v b ∨ w.heap.size ≤ b) → K' v' x w') →
      IK Tryd.prog .append #[tPts, tPts] tPts [false, false] [v, x88] w5 fun x89 w => (w.heap[ro]? = some (.cells #[strV key, rv, pv] tRo (0, 0)) ∧ w.heap[b7]? = some (.cells q.enc.toArray tPt (0, 0))) ∧
        HK Tryd.prog (fun w' => w'.heap[ro]? = some (.cells #[strV key, rv, pv] tRo (0, 0)) ∧ w'.heap[b7]? = some (.cells q.enc.toArray tPt (0, 0))) (do pure (Next.value (← Instr.indexAt tPs pv (.int .i64 (n : Int))))) fun x90 => UK Tryd.prog (Instr.storeAt tPts x90 x89) w fun _ w => (w.heap[ro]? = some (.cells #[strV key, rv, pv] tRo (0, 0)) ∧ w.heap[b7]? = some (.cells q.enc.toArray tPt (0, 0))) ∧ K' x89 x90 w := by
    intro w5 x88 K' hm5 hr5 h75 hx hK'
    have hv5 := owns_mod hv hm5 fun _ _ => id
    have hrow5 := owns_mod hrow hm5 fun _ _ => id
    refine ap_any ePts hv5 hx (fun u hu => Pt.enc_mem [q] u (by simpa using hu)) (by unfold maxLen; omega) (by omega) (Nat.zero_le _) fun v' w6 ho6 hm6 hv6 => ?_
    have hm6' : Mod (fun b => sb v b) w5 w6 := hm6.mono fun b _ z => z.symm
    have hro6 := hm6'.blk hr5 fun z => by
      exact isT_ne (isT_own hv5 z) ⟨_, _, hr5⟩ (by decide)
    have h76 := hm6'.blk h75 hb7v
    refine ⟨⟨hro6, h76⟩, HV_of (fun w' _ => ixP_run (vs := vs) ev hnl w') ?_⟩
    have hrow6 := owns_mod hrow5 hm6' fun k z y => isT_ne (isT_own hv5 y) (isT_own hrow5 z) (by decide)
    have hv'1 : v'.oneCell' = true := by
      obtain ⟨g0, cap0, ev0, _⟩ := owns_some ho6 (by omega)
      rw [ev0]; rfl
    rw [ev] at hrow6
    refine st_row (by kernel_rfl) hv'1 hrow6 (k := n) (by omega) fun w7 ho7 hm7 => ?_
    have hro7 := hm7.blk hro6 (fun z => hgr z.symm)
    refine ⟨⟨hro7, hm7.blk h76 (fun z => hg7 z.symm)⟩, hK' w7 v' _ (by rw [ev]; exact ho7) ?_ hro7 ?_ fun b z => ?_⟩
    · have := owns_mod ho6 hm7 fun k z y => by
        subst y
        exact isT_ne (isT_own ho6 z) (isT_own hrow6 (by rfl)) (by decide)
      rw [List.length_append, List.flatMap_append]
      simpa using this
    · refine (hm5.mono fun b _ z => z.elim).then ?_ (fun i hi z => z)
      refine (hm6'.mono fun b _ z => .inl z).then ?_ (fun i hi z => z)
      exact hm7.mono fun b _ z => .inr (by rw [z]; exact hgp)
    · rcases hv6 with y | y
      · exact .inl (by unfold sb at z ⊢; rw [← y]; exact z)
      · right
        unfold sb at z
        rw [y] at z
        have := hm5.size
        simp only [Option.some.injEq] at z
        omega
  have last : ∀ (w' : World) (v' : Value) (ρ2 : Sl), w'.ownsRow 0 tPts 1 pv N (vs.set n v') → w'.ownsRow 0 tPt 6 v' (l ++ [q]).length ((l ++ [q]).flatMap Pt.enc) → w'.heap[ro]? = some (.cells #[strV key, rv, pv] tRo (0, 0)) → Mod (fun b => sb v b ∨ sb pv b) w w' → (∀ b, sb v' b → sb v b ∨ w.heap.size ≤ b) →
      ρ2 10 = .pointer (some ⟨ro, 0, none⟩) → ρ2 11 = .int .i64 (n : Int) → sx fn_ Tryd.prog 100 coll_Coll_Bring_R9 (retK Tryd.prog [ResultVar.tmp 8, ResultVar.tmp 9] R) ρ2 w' := by
    intro w' v' ρ2 h1 h2 h3 h4 h5 e10 e11
    rw [coll_Coll_Bring_R9_eq]; unfold coll_Coll_Bring_R9_F
    rw [e10, e11, NK_ptr]
    refine VK_of (fld w') (VK_of (ldp w' h3) ?_)
    refine ixld vPs cPs vPts rfl (reads_of_owns h1) (by omega) (u := v') (by rw [Int.toNat_natCast]; exact List.getElem?_set_self (by have := (List.getElem?_eq_some_iff.1 hn).1; omega)) fun y => ?_
    obtain ⟨A, c, es, _⟩ := reads_cap (reads_of_owns h2)
    rw [es, len_sl vPts, BK_sub, wrap_i (by simp <;> omega) (by simp <;> omega)]
    have := hk w' v' h1 h2 h4 h5
    show R (.tuple #[.int .i64 (((l ++ [q]).length : Nat) - 1 : Int), .int .i64 0]) w'
    rw [show ((((l ++ [q]).length : Nat) : Int) - 1) = (l.length : Int) by simp <;> omega]
    exact this
  refine ⟨ldv hd ⟨⟨hd.blk hblk id, hd.blk hb7 id⟩, ?_⟩, ?_⟩
  · refine bs_k (cs := q.enc.toArray) (by kernel_rfl) fun w5 hb5 hm5 hz5 => ?_
    have hm := hd.trans hm5
    refine ⟨⟨hm.blk hblk id, hm.blk hb7 id⟩, fin w5 _ _ hm (hm.blk hblk id) (hm.blk hb7 id) (reads_blk (size := 6) (n := 1) hb5 rfl) fun w' v' x h1 h2 h3 h4 h5 => ?_⟩
    rw [sq_n]
    refine last w' v' _ h1 h2 h3 h4 h5 ?_ ?_
    · exact q10
    · exact q11
  · refine bs_k (cs := q.enc.toArray) (by kernel_rfl) fun w5 hb5 hm5 hz5 => ?_
    have hm := hd.trans hm5
    refine ⟨⟨hm.blk hblk id, hm.blk hb7 id⟩, ldv hm ⟨⟨hm.blk hblk id, hm.blk hb7 id⟩, fin w5 _ _ hm (hm.blk hblk id) (hm.blk hb7 id) (reads_blk (size := 6) (n := 1) hb5 rfl) fun w' v' x h1 h2 h3 h4 h5 => ?_⟩⟩
    rw [sq_n]
    refine last w' v' _ h1 h2 h3 h4 h5 ?_ ?_
    · exact q10
    · exact q11
end
end Go.Proofs.YtandbmnhghmcgaaDoor.Col
set_option linter.unusedVariables false
set_option linter.unusedSimpArgs false
set_option maxRecDepth 8000
namespace Go.X
open Go Go.RowKit
def Re.wth (e : Re) (n : Nat) (v : Value) : Re := { e with vs := e.vs.set n v }
theorem grpC_had {L : List Br} {b : Br} {g : List Int} (h : grpC L b.key = some g) (k : Ky) : grpC (L ++ [b]) k = grpC L k := by
  rw [grpC_snoc]
  cases hk : grpC L k with
  | some r => rfl
  | none =>
    dsimp only
    rw [if_neg]
    intro e
    rw [← e, h] at hk; cases hk
theorem partsC_far {L : List Br} {b : Br} {k : Ky} {x : Int} (h : k ≠ b.key ∨ x ≠ b.rank) : partsC (L ++ [b]) k x = partsC L k x := by
  rw [partsC_snoc, if_neg, List.append_nil]
  intro q
  simp only [atK, Bool.and_eq_true, decide_eq_true_eq] at q
  rcases h with h | h
  · exact h q.1.symm
  · exact h q.2.symm
theorem partsC_own (L : List Br) (b : Br) : partsC (L ++ [b]) b.key b.rank = partsC L b.key b.rank ++ [b.p] := by
  rw [partsC_snoc, if_pos (by simp [atK])]
theorem nodup_at {g : List Int} (h : g.Nodup) {i j : Nat} {x : Int} (hi : g[i]? = some x) (hj : g[j]? = some x) : i = j := by
  obtain ⟨a1, a2⟩ := List.getElem?_eq_some_iff.1 hi
  obtain ⟨b1, b2⟩ := List.getElem?_eq_some_iff.1 hj
  rcases Nat.lt_trichotomy i j with z | z | z
  · exact absurd (a2.trans b2.symm) (List.pairwise_iff_getElem.1 (List.nodup_iff_pairwise_ne.1 h) i j a1 b1 z)
  · exact z
  · exact absurd (b2.trans a2.symm) (List.pairwise_iff_getElem.1 (List.nodup_iff_pairwise_ne.1 h) j i b1 a1 z)
theorem set_get {α : Type} {l : List α} {n i : Nat} {x y : α} (h : (l.set n x)[i]? = some y) : (i = n ∧ y = x ∧ n < l.length) ∨ (i ≠ n ∧ l[i]? = some y) := by
  rw [List.getElem?_set] at h
  by_cases e : n = i
  · rw [if_pos e] at h
    by_cases hl : n < l.length
    · rw [if_pos (by omega)] at h
      exact .inl ⟨e.symm, (Option.some.inj h).symm, hl⟩
    · rw [if_neg (by omega)] at h; cases h
  · rw [if_neg e] at h
    exact .inr ⟨fun q => e q.symm, h⟩
theorem set_mem {α : Type} {l : List α} {n : Nat} {x y : α} (h : y ∈ l.set n x) : y = x ∨ ∃ i, i ≠ n ∧ l[i]? = some y := by
  obtain ⟨i, hi⟩ := List.getElem?_of_mem h
  rcases set_get hi with ⟨_, q, _⟩ | ⟨q, z⟩
  · exact .inl q
  · exact .inr ⟨i, q, z⟩
end Go.X
namespace Go.Proofs.YtandbmnhghmcgaaDoor.Col
open Go Go.X Go.RowKit Go.Proofs.YtandbmnhghmcgaaDoor.XF Go.Proofs.YtandbmnhghmcgaaDoor.XI Go.Proofs.YtandbmnhghmcgaaDoor.XK
section
variable {w w' : World} {p : Nat} {loose : Bool} {L : List Br} {V : CV} {b : Br}
theorem RoAt.more {e : Re} (h : RoAt w L e) (b : Br) (hg : ∀ k, k = e.key → grpC (L ++ [b]) k = grpC L k) (hp : ∀ x, partsC (L ++ [b]) e.key x = partsC L e.key x) : RoAt w (L ++ [b]) e :=
  ⟨by rw [hg _ rfl]; exact h.grp, h.blk, h.rk, h.len, h.row, fun i x v hx hv => by rw [hp]; exact h.pt i x v hx hv, h.ne⟩
theorem bring_old (h : CAt w p loose L V) {i n : Nat} {e : Re} {v v' : Value} (hi : V.es[i]? = some e) (hkey : e.key = b.key) (hn : e.g[n]? = some b.rank) (hv : e.vs[n]? = some v) (hok : okC L b = true)
    (hrow : w'.ownsRow 0 tPts 1 e.pv e.g.length (e.vs.set n v')) (hv' : w'.ownsRow 0 tPt 6 v' (partsC L b.key b.rank ++ [b.p]).length ((partsC L b.key b.rank ++ [b.p]).flatMap Pt.enc)) (hm : Mod (fun b => sb v b ∨ sb e.pv b) w w') (hnew : ∀ b, sb v' b → sb v b ∨ w.heap.size ≤ b) :
    CAt w' p loose (L ++ [b]) { V with es := V.es.set i (e.wth n v') } ∧ CFr p w V w' { V with es := V.es.set i (e.wth n v') } := by
  have hem := List.mem_of_getElem? hi
  have hr := h.ro e hem
  have hgr := grpC_had (b := b) (by rw [← hkey]; exact hr.grp)
  have hin : i < V.es.length := (List.getElem?_eq_some_iff.1 hi).1
  have hnd := (mayG_iff.1 (h.inv.grp hr.grp)).2.2
  have hvm := List.mem_of_getElem? hv
  have hCF : ∀ g, (sb v g ∨ sb e.pv g) → CF p V g := fun g z => .inr (.inr ⟨e, hem, by rcases z with z | z; exact .inr (.inr ⟨v, hvm, z⟩); exact .inr (.inl z)⟩)
  have hvt : ∀ g, sb v g → isT tPt w g := fun g z => by
    obtain ⟨x, hx⟩ : ∃ x, e.g[n]? = some x := ⟨_, hn⟩
    exact isT_own (hr.pt n x v hx hv) z
  have hpt : ∀ g, sb e.pv g → isT tPts w g := fun g z => isT_own hr.row z
  have hnp : ¬ (sb v p ∨ sb e.pv p) := fun z => by
    rcases z with z | z
    · exact isT_ne (hvt p z) ⟨_, _, h.blk⟩ (by decide)
    · exact isT_ne (hpt p z) ⟨_, _, h.blk⟩ (by decide)
  have hnm : ¬ (sb v V.mb ∨ sb e.pv V.mb) := fun z => by
    have : ∀ t, isT t w V.mb → False := fun t ⟨cs, fr, q⟩ => by
      have hmm := h.map
      unfold IsMap at hmm
      rw [hmm] at q
      injection q with q
      cases q
    rcases z with z | z
    · exact this _ (hvt _ z)
    · exact this _ (hpt _ z)
  have hnI : ∀ g, isT tI w g → ¬ (sb v g ∨ sb e.pv g) := fun g hg z => by
    rcases z with z | z
    · exact isT_ne (hvt _ z) hg (by decide)
    · exact isT_ne (hpt _ z) hg (by decide)
  have hold : ∀ g, CF p V g → g < w.heap.size := fun g z => h.old z
  -- other rows
  have other : ∀ (j : Nat) a, V.es[j]? = some a → j ≠ i → RoAt w' (L ++ [b]) a := fun j a hj hne => by
    obtain ⟨d1, d2, d3⟩ := h.dist j i a e hj hi hne
    have hra := h.ro a (List.mem_of_getElem? hj)
    have hm' := hra.mod hm (fun g z y => by
      rcases z with rfl | z | ⟨u, hu, z⟩
      · rcases y with y | y
        · exact isT_ne (hvt _ y) ⟨_, _, hra.blk⟩ (by decide)
        · exact isT_ne (hpt _ y) ⟨_, _, hra.blk⟩ (by decide)
      · rcases y with y | y
        · exact isT_ne (hvt _ y) (isT_own hra.row z) (by decide)
        · exact d2 g z y
      · rcases y with y | y
        · exact d3 u hu v hvm g z y
        · rcases hra.blks (.inr (.inr ⟨u, hu, z⟩)) with q | q | q
          · exact isT_ne (hpt _ y) q (by decide)
          · obtain ⟨m, hm1, rfl⟩ := List.mem_iff_getElem.1 hu
            have hg' : a.g[m]? = some (a.g[m]'(by have := hra.len; omega)) := List.getElem?_eq_getElem _
            exact isT_ne (isT_own (hra.pt m _ _ hg' (List.getElem?_eq_getElem hm1)) z) (hpt _ y) (by decide)
          · exact isT_ne (hpt _ y) q (by decide)) hnI
    refine hm'.more b (fun k _ => hgr k) fun x => partsC_far (.inl fun q => hne ?_)
    exact h.kd j i a e hj hi (q.trans hkey.symm)
  have own : RoAt w' (L ++ [b]) (e.wth n v') := by
    refine ⟨by show grpC _ e.key = _; rw [hgr]; exact hr.grp, hm.blk hr.blk fun z => ?_, owns_mod hr.rk hm fun k hk => hnI k (isT_own hr.rk hk), ?_, hrow, fun m x u hx hu => ?_, fun m j u t hu ht hmj g zu zt => ?_⟩
    · rcases z with z | z
      · exact isT_ne (hvt _ z) ⟨_, _, hr.blk⟩ (by decide)
      · exact isT_ne (hpt _ z) ⟨_, _, hr.blk⟩ (by decide)
    · show (e.vs.set n v').length = _; rw [List.length_set]; exact hr.len
    · show w'.ownsRow 0 tPt 6 u (partsC (L ++ [b]) e.key x).length ((partsC (L ++ [b]) e.key x).flatMap Pt.enc)
      rcases set_get hu with ⟨rfl, rfl, _⟩ | ⟨hmn, hu⟩
      · have : x = b.rank := Option.some.inj (hx.symm.trans hn)
        subst this
        rw [hkey, partsC_own]
        exact hv'
      · have hxr : x ≠ b.rank := fun q => hmn (nodup_at hnd (q ▸ hx) hn)
        rw [partsC_far (.inr hxr)]
        exact owns_mod (hr.pt m x u hx hu) hm fun k hk z => by
          rcases z with z | z
          · exact hr.ne m n u v hu hv hmn k hk z
          · exact isT_ne (isT_own (hr.pt m x u hx hu) hk) (hpt _ z) (by decide)
    · have lt : ∀ {m : Nat} {u : Value}, e.vs[m]? = some u → ∀ g, sb u g → g < w.heap.size := fun {m u} hu g z => hold g (.inr (.inr ⟨e, hem, .inr (.inr ⟨u, List.mem_of_getElem? hu, z⟩)⟩))
      rcases set_get hu with ⟨rfl, eu, _⟩ | ⟨hmn, ku⟩ <;> rcases set_get ht with ⟨rfl, et, _⟩ | ⟨hjn, kt⟩
      · exact hmj rfl
      · rw [eu] at zu
        rcases hnew g zu with y | y
        · exact hr.ne m j v t hv kt hmj g y zt
        · have := lt kt g zt; omega
      · rw [et] at zt
        rcases hnew g zt with y | y
        · exact hr.ne m j u v ku hv hmj g zu y
        · have := lt ku g zu; omega
      · exact hr.ne m j u t ku kt hmj g zu zt
  have hmap : (V.es.set i (e.wth n v')).map Re.ent = V.es.map Re.ent := by
    apply List.ext_getElem?
    intro j
    rw [List.getElem?_map, List.getElem?_map, List.getElem?_set]
    by_cases ej : i = j
    · subst ej
      rw [if_pos rfl, if_pos hin, hi]; rfl
    · rw [if_neg ej]
  have back : ∀ (j : Nat) a, (V.es.set i (e.wth n v'))[j]? = some a → ∃ a0, V.es[j]? = some a0 ∧ a0.key = a.key ∧ a0.b = a.b ∧ a0.ro = a.ro ∧ a0.pv = a.pv ∧ ((j = i ∧ a = e.wth n v') ∨ (j ≠ i ∧ a = a0)) := fun j a hj => by
    rcases set_get hj with ⟨rfl, rfl, _⟩ | ⟨hne, hj⟩
    · exact ⟨e, hi, rfl, rfl, rfl, rfl, .inl ⟨rfl, rfl⟩⟩
    · exact ⟨a, hj, rfl, rfl, rfl, rfl, .inr ⟨hne, rfl⟩⟩
  have vsb : ∀ (j : Nat) a, (V.es.set i (e.wth n v'))[j]? = some a → ∀ u ∈ a.vs, ∀ g, sb u g → w.heap.size ≤ g ∨ ∃ a0, V.es[j]? = some a0 ∧ ∃ u0 ∈ a0.vs, sb u0 g := fun j a hj u hu g z => by
    rcases set_get hj with ⟨rfl, rfl, _⟩ | ⟨hne, hj⟩
    · rcases set_mem hu with rfl | ⟨m, _, hm1⟩
      · rcases hnew g z with y | y
        · exact .inr ⟨e, hi, v, hvm, y⟩
        · exact .inl y
      · exact .inr ⟨e, hi, u, List.mem_of_getElem? hm1, z⟩
    · exact .inr ⟨a, hj, u, hu, z⟩
  refine ⟨⟨hm.blk h.blk hnp, by show IsMap strV w' V.mb ((V.es.set i (e.wth n v')).map Re.ent) V.clk; rw [hmap]; exact h.map.mod hm hnm, fun j k a c ha hc q => ?_, fun j k a c ha hc q => ?_, fun a ha => ?_, fun k g hg => ?_, fun a ha => ?_, fun j k a c ha hc hjk => ?_, h.inv.bring hok⟩, ⟨hm.mono fun g _ z => hCF g z, fun g z => ?_, fun g z => .inl ?_⟩⟩
  · obtain ⟨a0, h1, h2, _⟩ := back j a ha
    obtain ⟨c0, k1, k2, _⟩ := back k c hc
    exact h.kd j k a0 c0 h1 k1 (by rw [h2, k2]; exact q)
  · obtain ⟨a0, h1, _, h2, _⟩ := back j a ha
    obtain ⟨c0, k1, _, k2, _⟩ := back k c hc
    exact h.bd j k a0 c0 h1 k1 (by rw [h2, k2]; exact q)
  · obtain ⟨j, hj⟩ := List.getElem?_of_mem ha
    obtain ⟨a0, h1, _, h2, _⟩ := back j a hj
    rw [← h2]
    exact h.bc a0 (List.mem_of_getElem? h1)
  · rw [hgr] at hg
    obtain ⟨a, ha, hk⟩ := h.cov k g hg
    obtain ⟨j, hj⟩ := List.getElem?_of_mem ha
    by_cases ej : j = i
    · subst ej
      rw [hi] at hj
      cases hj
      exact ⟨e.wth n v', List.mem_of_getElem? (List.getElem?_set_self hin), hk⟩
    · exact ⟨a, List.mem_of_getElem? (by rw [List.getElem?_set_ne (fun q => ej q.symm)]; exact hj), hk⟩
  · obtain ⟨j, hj⟩ := List.getElem?_of_mem ha
    rcases set_get hj with ⟨rfl, rfl, _⟩ | ⟨hne, hj⟩
    · exact own
    · exact other j a hj hne
  · obtain ⟨a0, h1, _, _, h2, h3, _⟩ := back j a ha
    obtain ⟨c0, k1, _, _, k2, k3, _⟩ := back k c hc
    obtain ⟨d1, d2, d3⟩ := h.dist j k a0 c0 h1 k1 hjk
    refine ⟨by rw [← h2, ← k2]; exact d1, fun g z => by rw [← k3]; exact d2 g (by rw [h3]; exact z), fun u hu t ht g zu zt => ?_⟩
    have lt : ∀ {j : Nat} {a0 : Re} {u0 : Value}, V.es[j]? = some a0 → u0 ∈ a0.vs → sb u0 g → g < w.heap.size := fun {j a0 u0} q1 q2 q3 => hold g (.inr (.inr ⟨a0, List.mem_of_getElem? q1, .inr (.inr ⟨u0, q2, q3⟩)⟩))
    -- one of the two may be new, not both
    rcases vsb j a ha u hu g zu with y | ⟨a1, y1, u1, y2, y3⟩ <;> rcases vsb k c hc t ht g zt with x | ⟨c1, x1, t1, x2, x3⟩
    · -- both new: both would be v' of e
      rcases set_get ha with ⟨e1, rfl, _⟩ | ⟨hne, ha'⟩
      · rcases set_get hc with ⟨e2, rfl, _⟩ | ⟨hne2, hc'⟩
        · omega
        · have := lt hc' ht zt; omega
      · have := lt ha' hu zu; omega
    · have := lt x1 x2 x3; omega
    · have := lt y1 y2 y3; omega
    · rw [h1] at y1; cases y1
      rw [k1] at x1; cases x1
      exact d3 u1 y2 t1 x2 g y3 x3
  · rcases z with rfl | rfl | ⟨a, ha, z⟩
    · exact .inl (.inl rfl)
    · exact .inl (.inr (.inl rfl))
    · obtain ⟨j, hj⟩ := List.getElem?_of_mem ha
      obtain ⟨a0, h1, _, _, h2, h3, _⟩ := back j a hj
      have hm0 := List.mem_of_getElem? h1
      rcases z with rfl | z | ⟨u, hu, z⟩
      · exact .inl (.inr (.inr ⟨a0, hm0, .inl h2.symm⟩))
      · exact .inl (.inr (.inr ⟨a0, hm0, .inr (.inl (by rw [h3]; exact z))⟩))
      · rcases vsb j a hj u hu g z with y | ⟨a1, y1, u1, y2, y3⟩
        · exact .inr y
        · exact .inl (.inr (.inr ⟨a1, List.mem_of_getElem? y1, .inr (.inr ⟨u1, y2, y3⟩)⟩))
  · obtain ⟨a, ha, z⟩ := z
    rcases set_mem ha with rfl | ⟨j, _, hj⟩
    · exact ⟨e, List.mem_of_getElem? hi, z⟩
    · exact ⟨a, List.mem_of_getElem? hj, z⟩
def newRe (V : CV) (b : Br) (ro n : Nat) (rv pv v' : Value) : Re := ⟨b.key, V.clk, ro, rv, pv, (List.replicate b.ranks.length (.slice none 0 0)).set n v', b.ranks⟩
theorem bring_new (h : CAt w p loose L V) (hg : grpC L b.key = none) (hok : okC L b = true) {ro n : Nat} {rv pv v' : Value} (hn : b.ranks[n]? = some b.rank) (hblk : w'.heap[ro]? = some (.cells #[strV b.key, rv, pv] tRo (0, 0))) (hro : w.heap.size ≤ ro)
    (hrk : w'.ownsRow 0 tI 1 rv b.ranks.length (ints b.ranks)) (hrow : w'.ownsRow 0 tPts 1 pv b.ranks.length ((List.replicate b.ranks.length (.slice none 0 0)).set n v')) (hv' : w'.ownsRow 0 tPt 6 v' 1 b.p.enc) (hrf : ∀ g, sb rv g → w.heap.size ≤ g) (hpf : ∀ g, sb pv g → w.heap.size ≤ g) (hvf : ∀ g, sb v' g → w.heap.size ≤ g)
    (hmap : IsMap strV w' V.mb (V.es.map Re.ent ++ [⟨b.key, .pointer (some ⟨ro, 0, none⟩), V.clk⟩]) (V.clk + 1)) (hm : Mod (fun g => g = V.mb) w w') :
    CAt w' p loose (L ++ [b]) ⟨V.mb, V.clk + 1, V.es ++ [newRe V b ro n rv pv v']⟩ ∧ CFr p w V w' ⟨V.mb, V.clk + 1, V.es ++ [newRe V b ro n rv pv v']⟩ := by
  have hgr : ∀ k, k ≠ b.key → grpC (L ++ [b]) k = grpC L k := fun k hk => by
    rw [grpC_snoc]
    cases hz : grpC L k with
    | some r => rfl
    | none => dsimp only; rw [if_neg (fun q => hk q.symm)]
  have hgb : grpC (L ++ [b]) b.key = some b.ranks := by rw [grpC_snoc, hg]; simp
  have hne : ∀ a ∈ V.es, a.key ≠ b.key := fun a ha q => by
    have := (h.ro a ha).grp
    rw [q, hg] at this; cases this
  have hmbt : ∀ t, ¬ isT t w V.mb := fun t ⟨cs, fr, q⟩ => by
    have hmm := h.map
    unfold IsMap at hmm
    rw [hmm] at q
    injection q with q
    cases q
  have hnd : b.ranks.Nodup := by
    unfold okC at hok
    simp only [Bool.and_eq_true] at hok
    exact (mayG_iff.1 hok.1).2.2
  have hnl : n < b.ranks.length := (List.getElem?_eq_some_iff.1 hn).1
  have hpo := h.inv.none hg
  have nilb : ∀ (m : Nat) u, (List.replicate b.ranks.length (Value.slice none 0 0))[m]? = some u → u = .slice none 0 0 := fun m u hu => List.eq_of_mem_replicate (List.mem_of_getElem? hu)
  have own : RoAt w' (L ++ [b]) (newRe V b ro n rv pv v') := by
    refine ⟨hgb, hblk, hrk, by simp [newRe], hrow, fun m x u hx hu => ?_, fun m j u t hu ht hmj g zu zt => ?_⟩
    · show w'.ownsRow 0 tPt 6 u (partsC (L ++ [b]) b.key x).length ((partsC (L ++ [b]) b.key x).flatMap Pt.enc)
      have hu : ((List.replicate b.ranks.length (Value.slice none 0 0)).set n v')[m]? = some u := hu
      rcases set_get hu with ⟨rfl, rfl, _⟩ | ⟨hmn, hu⟩
      · have : x = b.rank := Option.some.inj (hx.symm.trans hn)
        subst this
        rw [partsC_own, hpo]
        simpa using hv'
      · have hxr : x ≠ b.rank := fun q => hmn (nodup_at hnd (q ▸ hx) hn)
        rw [partsC_far (.inr hxr), hpo, nilb m u hu]
        exact World.ownsRow_nil _ _ _ _
    · have hu : ((List.replicate b.ranks.length (Value.slice none 0 0)).set n v')[m]? = some u := hu
      have ht : ((List.replicate b.ranks.length (Value.slice none 0 0)).set n v')[j]? = some t := ht
      rcases set_get hu with ⟨rfl, _, _⟩ | ⟨hmn, ku⟩ <;> rcases set_get ht with ⟨rfl, _, _⟩ | ⟨hjn, kt⟩
      · exact hmj rfl
      · rw [nilb _ _ kt] at zt; cases zt
      · rw [nilb _ _ ku] at zu; cases zu
      · rw [nilb _ _ ku] at zu; cases zu
  have other : ∀ a ∈ V.es, RoAt w' (L ++ [b]) a := fun a ha => by
    have hra := h.ro a ha
    have hm' := hra.mod hm (fun g z y => by
      subst y
      rcases hra.blks z with q | q | q <;> exact hmbt _ q) (fun g q y => by subst y; exact hmbt _ q)
    exact hm'.more b (fun k hk => hgr k (by rw [hk]; exact hne a ha)) fun x => partsC_far (.inl (hne a ha))
  have newv : ∀ u ∈ (newRe V b ro n rv pv v').vs, ∀ g, sb u g → w.heap.size ≤ g := fun u hu g z => by
    have hu : u ∈ ((List.replicate b.ranks.length (Value.slice none 0 0)).set n v') := hu
    rcases set_mem hu with rfl | ⟨m, _, hm1⟩
    · exact hvf g z
    · rw [nilb _ _ hm1] at z; cases z
  have hold : ∀ a ∈ V.es, ∀ g, (g = a.ro ∨ sb a.pv g ∨ ∃ u ∈ a.vs, sb u g) → g < w.heap.size := fun a ha g z => h.old (.inr (.inr ⟨a, ha, z⟩))
  have hpm : p ≠ V.mb := fun q => hmbt tC (q ▸ ⟨_, _, h.blk⟩)
  refine ⟨⟨hm.blk h.blk hpm, by rw [List.map_append]; exact hmap, fun j k a c ha hc q => ?_, fun j k a c ha hc q => ?_, fun a ha => ?_, fun k g hk => ?_, fun a ha => ?_, fun j k a c ha hc hjk => ?_, h.inv.bring hok⟩, ⟨hm.mono fun g _ z => .inr (.inl z), fun g z => ?_, fun g z => ?_⟩⟩
  · rcases app_get ha with z | ⟨z, rfl⟩ <;> rcases app_get hc with y | ⟨y, rfl⟩
    · exact h.kd j k a c z y q
    · exact absurd q (hne a (List.mem_of_getElem? z))
    · exact absurd q.symm (hne c (List.mem_of_getElem? y))
    · omega
  · rcases app_get ha with z | ⟨z, rfl⟩ <;> rcases app_get hc with y | ⟨y, rfl⟩
    · exact h.bd j k a c z y q
    · have := h.bc a (List.mem_of_getElem? z); simp only [newRe] at q; omega
    · have := h.bc c (List.mem_of_getElem? y); simp only [newRe] at q; omega
    · omega
  · rcases List.mem_append.1 ha with z | z
    · have := h.bc a z; show a.b < V.clk + 1; omega
    · rw [List.mem_singleton.1 z]; show V.clk < V.clk + 1; omega
  · by_cases e : k = b.key
    · exact ⟨_, List.mem_append_right _ (List.mem_singleton.2 rfl), e.symm⟩
    · rw [hgr k e] at hk
      obtain ⟨a, ha, hq⟩ := h.cov k g hk
      exact ⟨a, List.mem_append_left _ ha, hq⟩
  · rcases List.mem_append.1 ha with z | z
    · exact other a z
    · rw [List.mem_singleton.1 z]; exact own
  · rcases app_get ha with z | ⟨z, rfl⟩ <;> rcases app_get hc with y | ⟨y, rfl⟩
    · exact h.dist j k a c z y hjk
    · have hma := List.mem_of_getElem? z
      refine ⟨fun q => ?_, fun g zu zt => ?_, fun u hu t ht g zu zt => ?_⟩
      · have := hold a hma a.ro (.inl rfl); simp only [newRe] at q; omega
      · have := hold a hma g (.inr (.inl zu)); have := hpf g zt; omega
      · have := hold a hma g (.inr (.inr ⟨u, hu, zu⟩)); have := newv t ht g zt; omega
    · have hma := List.mem_of_getElem? y
      refine ⟨fun q => ?_, fun g zu zt => ?_, fun u hu t ht g zu zt => ?_⟩
      · have := hold c hma c.ro (.inl rfl); simp only [newRe] at q; omega
      · have := hold c hma g (.inr (.inl zt)); have := hpf g zu; omega
      · have := hold c hma g (.inr (.inr ⟨t, ht, zt⟩)); have := newv u hu g zu; omega
    · omega
  · rcases z with rfl | rfl | ⟨a, ha, z⟩
    · exact .inl (.inl rfl)
    · exact .inl (.inr (.inl rfl))
    · rcases List.mem_append.1 ha with y | y
      · exact .inl (.inr (.inr ⟨a, y, z⟩))
      · rw [List.mem_singleton.1 y] at z
        rcases z with rfl | z | ⟨u, hu, z⟩
        · exact .inr hro
        · exact .inr (hpf g z)
        · exact .inr (newv u hu g z)
  · obtain ⟨a, ha, z⟩ := z
    rcases List.mem_append.1 ha with ha | ha
    · exact .inl ⟨a, ha, z⟩
    · rw [List.mem_singleton.1 ha] at z
      exact .inr (hrf g z)
end
end Go.Proofs.YtandbmnhghmcgaaDoor.Col
set_option linter.unusedVariables false
set_option linter.unusedSimpArgs false
set_option maxRecDepth 8000
namespace Go.X
open Go Go.RowKit
section
variable {P : Program} {C : World → Prop} {K : Value → Prop}
theorem QPt {a b : Value} (hk : K a) : QK P C (do pure (Next.value (if ← asBool (.bool true) then a else b))) K := QP_of hk
theorem QPf {a b : Value} (hk : K b) : QK P C (do pure (Next.value (if ← asBool (.bool false) then a else b))) K := QP_of hk
end
theorem okC_f {L : List Br} {b : Br} : okC L b = (mayG b.ranks && (decide (b.rank ∈ b.ranks) && (sameG L b.key b.ranks && mayPt b.ranks.length b.p))) := rfl
end Go.X
namespace Go.Proofs.YtandbmnhghmcgaaDoor.Col
open Go Go.X Go.RowKit Go.Proofs.YtandbmnhghmcgaaDoor.XF Go.Proofs.YtandbmnhghmcgaaDoor.XI Go.Proofs.YtandbmnhghmcgaaDoor.XK
section
variable {w : World} {p : Nat} {loose : Bool} {L : List Br} {V : CV} {b : Br}
theorem bring_R2 {K : Exit → Sl → World → Prop} {ρ : Sl} {b5 b7 : Nat} {rv xv : Value} (h : CAt w p loose L V) (hR : RR w rv b.ranks) (hRl : b.ranks.length ≤ 1000000) (hb5 : w.heap[b5]? = some (.cells #[strV b.key, rv] tG (0, 0))) (hb7 : w.heap[b7]? = some (.cells b.p.enc.toArray tPt (0, 0)))
    (hxv : (grpC L b.key = none ∧ xv = .pointer none) ∨ ∃ e ∈ V.es, e.key = b.key ∧ xv = .pointer (some ⟨e.ro, 0, none⟩)) (q5 : ρ 5 = .pointer (some ⟨b5, 0, none⟩)) (q7 : ρ 7 = .pointer (some ⟨b7, 0, none⟩)) (q10 : ρ 10 = xv) (q12 : ρ 12 = .bool (decide (b.rank ∈ b.ranks)))
    (hK : ∀ (ρ2 : Sl) (w' : World), (∀ i, i < 28 → ρ2 i = ρ i) → ρ2 53 = .bool (!okC L b) → Mod none_ w w' → K .normal ρ2 w') : W fn_ Tryd.prog 100 coll_Coll_Bring_R2 K ρ w := by
  refine coll_Coll_Bring_R2_quiet (D := []) (fun w' => Mod none_ w w') ((Mod.refl _ _).drawn _) ?_
  unfold coll_Coll_Bring_R2_Q
  rw [q5, q7, q10, q12]
  have ldg : ∀ w', Mod none_ w w' → (Instr.loadAt tG (.pointer (some ⟨b5, 0, none⟩))).run Tryd.prog w' = .ok (grpV b.key rv) w' := fun w' hw => run_ldB (cs := #[strV b.key, rv]) Tryd.underlying32 rfl (by kernel_rfl) (hw.blk hb5 id)
  have ldp : ∀ w', Mod none_ w w' → (Instr.loadAt tPt (.pointer (some ⟨b7, 0, none⟩))).run Tryd.prog w' = .ok b.p.v w' := fun w' hw => run_ldB Tryd.underlying34 rfl iPt (hw.blk hb7 id)
  have frame : ∀ {x28 x29 x30 x31 x32 x33 x34 x35 x36 x37 x38 x39 x40 x41 x42 x43 x44 x45 x46 x47 x48 x49 x50 x51 x52 x53 : Value} (i : Nat), i < 28 →
      (up (up (up (up (up (up (up (up (up (up (up (up (up (up (up (up (up (up (up (up (up (up (up (up (up (up ρ 28 x28) 29 x29) 30 x30) 31 x31) 32 x32) 33 x33) 34 x34) 35 x35) 36 x36) 37 x37) 38 x38) 39 x39) 40 x40) 41 x41) 42 x42) 43 x43) 44 x44) 45 x45) 46 x46) 47 x47) 48 x48) 49 x49) 50 x50) 51 x51) 52 x52) 53 x53) i = ρ i := by
    intros; repeat rw [up_at, if_neg (by omega)]
  refine QV_of ldg (QC_rt Tryd.func36 rfl rfl (v := .bool (mayG b.ranks)) (fun w' hw => May_ok (hR.calm hw) hRl) (fun w' u w'' hw z => ⟨z.1, hw.trans z.2⟩) (Qnot ?_))
  -- what is left of the asks once one has said no
  rw [okC_f] at hK
  cases hmay : mayG b.ranks with
  | false =>
    rw [hmay] at hK
    refine QGm (QGm (QPt (QGm (QGm (QGm (QGu (QGu (QGu (QGu (QGu (QGu (QGu (QGm (QPt (QGm (QGm (QGm (QGm (QPt ?_)))))))))))))))))))
    intro w' hw
    exact hK _ w' frame rfl hw
  | true =>
    rw [hmay] at hK
    refine QGf (Qmv (QGf (Qnot (QPf ?_))))
    by_cases hmem : b.rank ∈ b.ranks
    case neg =>
      rw [decide_eq_false hmem] at hK ⊢
      refine QGm (QGm (QGm (QGu (QGu (QGu (QGu (QGu (QGu (QGu (QGm (QPt (QGm (QGm (QGm (QGm (QPt ?_))))))))))))))))
      intro w' hw
      exact hK _ w' frame rfl hw
    rw [decide_eq_true hmem] at hK ⊢
    -- the last ask: whether the part may be
    have lastly : ∀ {K' : Value → Value → Value → Value → Value → Value → Prop} , sameG L b.key b.ranks = true → (∀ x49 x50 x51 x52 x53, x53 = .bool (!mayPt b.ranks.length b.p) → K' (.bool false) x49 x50 x51 x52 x53) →
        QK Tryd.prog (fun w' => Mod none_ w w') (do pure (Next.value (if ← asBool (.bool false) then Value.bool true else .bool false))) fun x47 => QG Tryd.prog (fun w' => Mod none_ w w') x47 false (do pure (Next.value (← Instr.loadAt tG (.pointer (some ⟨b5, 0, none⟩))))) fun x49 => QG Tryd.prog (fun w' => Mod none_ w w') x47 false (do pure (Next.value (← Instr.loadAt tPt (.pointer (some ⟨b7, 0, none⟩))))) fun x50 =>
          QG Tryd.prog (fun w' => Mod none_ w w') x47 false (do let d ← Deferred.ofValue (Value.func (Fn.func 19) #[] #[]) [x49, x50].toArray; invoke d.target d.args) fun x51 => QG Tryd.prog (fun w' => Mod none_ w w') x47 false (do pure (Next.value (← Op.unary UnOp.not x51))) fun x52 => QK Tryd.prog (fun w' => Mod none_ w w') (do pure (Next.value (if ← asBool x47 then Value.bool true else x52))) fun x53 => K' x47 x49 x50 x51 x52 x53 := by
      intro K' hs hK'
      refine QPf (QGf (QV_of ldg (QGf (QV_of ldp (QGf ?_)))))
      refine QC_rt Tryd.func19 rfl rfl (v := .bool (mayPt b.ranks.length b.p)) (fun w' hw => MayP_ok (hR.calm hw) hRl b.p) (fun w' u w'' hw z => ⟨z.1, hw.trans z.2⟩) ?_
      exact QGf (Qnot (QPf (hK' _ _ _ _ _ rfl)))
    rcases hxv with ⟨hg, rfl⟩ | ⟨e, he, hek, rfl⟩
    · have hs : sameG L b.key b.ranks = true := by unfold sameG; rw [hg]
      rw [hs] at hK
      refine QGf (Qmv (QGf (QneP uRo (QGf (Qmv ?_)))))
      refine QGn (QGn (QGn (QGn (QGn (QGn (QGn (QGf (QPf ?_))))))))
      refine lastly hs fun x49 x50 x51 x52 x53 h53 w' hw => ?_
      subst h53
      refine hK _ w' frame ?_ hw
      simp only [Bool.true_and]
      rfl
    · have hr := h.ro e he
      have hs : sameG L b.key b.ranks = decide (e.g = b.ranks) := by
        unfold sameG
        rw [← hek, hr.grp]
      refine QGf (Qmv (QGf (QneP uRo (QGf (Qmv ?_)))))
      refine QGt (Qmv (QGt (QN_ptr (QGt (QV_of (v := .pointer (some ⟨e.ro, 0, none⟩)) (fun w' _ => by rw [run_fo (show fieldOff Tryd.prog tRo 0 = some 0 by kernel_rfl), add_pl]) (QGt (QV_of (v := grpV e.key e.rv) (fun w' hw => ld_g hr w' hw) (QGt (QV_of ldg (QGt ?_))))))))))
      refine QC_rt Tryd.func37 rfl rfl (v := .bool (decide (e.g = b.ranks))) (fun w' hw => Same_ok (RR.calm (r := e.g) (reads_of_owns hr.rk) hw) (hR.calm hw) (by have := h.len64 e he; omega)) (fun w' u w'' hw z => ⟨by rw [z.1, decide_eq_true hek, Bool.true_and], hw.trans z.2⟩) ?_
      refine QGt (Qnot (QGf (QPt ?_)))
      rw [← hs]
      cases hss : sameG L b.key b.ranks with
      | false =>
        rw [hss] at hK
        refine QPf (QGm (QGm (QGm (QGm (QPt ?_)))))
        intro w' hw
        exact hK _ w' frame rfl hw
      | true =>
        rw [hss] at hK
        refine lastly hss fun x49 x50 x51 x52 x53 h53 w' hw => ?_
        subst h53
        refine hK _ w' frame ?_ hw
        simp only [Bool.true_and]
        rfl
end
end Go.Proofs.YtandbmnhghmcgaaDoor.Col
set_option linter.unusedVariables false
set_option linter.unusedSimpArgs false
set_option maxRecDepth 8000
namespace Go.Proofs.YtandbmnhghmcgaaDoor.Col
open Go Go.X Go.RowKit Go.Proofs.YtandbmnhghmcgaaDoor.XF Go.Proofs.YtandbmnhghmcgaaDoor.XI Go.Proofs.YtandbmnhghmcgaaDoor.XK
theorem iPs : (Tryd.prog.info? tPts).map (fun i => (i.zero, i.size, i.bytes)) = some (some (.slice none 0 0), 1, 24) := by kernel_rfl
theorem bG (key : Ky) (A : Option Addr) (n c : Nat) : Tryd.prog.built tG [(0, strV key), (1, .slice A n c)] = some #[strV key, .slice A n c] := by kernel_rfl
theorem bRo (key : Ky) (A : Option Addr) (n c : Nat) (g m k : Nat) : Tryd.prog.built tRo [(0, .agg #[strV key, .slice A n c]), (1, .slice (some ⟨g, 0, none⟩) m k)] = some #[strV key, .slice A n c, .slice (some ⟨g, 0, none⟩) m k] := by kernel_rfl
section
variable {w : World} {p : Nat} {loose : Bool} {L : List Br} {V : CV} {b : Br}
abbrev BringP (w0 : World) (p : Nat) (loose : Bool) (L : List Br) (V : CV) (b : Br) : Value → World → Prop := fun v w' => v = .tuple #[.int .i64 (bringC L b).2.1, .int .i64 (bringC L b).2.2] ∧ ∃ V', CAt w' p loose (bringC L b).1 V' ∧ CFr p w0 V w' V'
theorem bring_R4o {w0 : World} {ρ : Sl} {b7 : Nat} {e : Re} (h : CAt w p loose L V) (hm : Mod none_ w0 w) (hL : L.length ≤ 1000000) (hb7 : w.heap[b7]? = some (.cells b.p.enc.toArray tPt (0, 0))) (hb70 : w0.heap.size ≤ b7) (h0 : CAt w0 p loose L V) (he : e ∈ V.es) (hek : e.key = b.key) (hok : okC L b = true)
    (q7 : ρ 7 = .pointer (some ⟨b7, 0, none⟩)) (q10 : ρ 10 = .pointer (some ⟨e.ro, 0, none⟩)) (q11 : ρ 11 = .int .i64 (numI b.ranks b.rank)) : sx fn_ Tryd.prog 100 coll_Coll_Bring_R4 (retK Tryd.prog [ResultVar.tmp 8, ResultVar.tmp 9] (BringP w0 p loose L V b)) ρ w := by
  rw [coll_Coll_Bring_R4_eq]; unfold coll_Coll_Bring_R4_F
  rw [q10, BK_eqlP uRo]
  simp only [Option.isNone_some, ↓VG_u, ↓UG_u, ↓MG_u, ↓NG_u, ↓PG_u, ↓BG_u, ↓CG_u, ↓IG_u, ↓VGtt, ↓VGtf, ↓VGft, ↓VGff, ↓UGtt, ↓UGtf, ↓UGft, ↓UGff, ↓MGtt, ↓MGtf, ↓MGft, ↓MGff, ↓NGtt, ↓NGtf, ↓NGft, ↓NGff, ↓PGtt, ↓PGtf, ↓PGft, ↓PGff, ↓BGtt, ↓BGtf, ↓BGft, ↓BGff, ↓CGtt, ↓CGtf, ↓CGft, ↓CGff, ↓IGtt, ↓IGtf, ↓IGft, ↓IGff, ↓PKt, ↓PKf, ↓CDt, ↓CDf, ↓NOTt, ↓NOTf, ↓NK_ptr]
  have hr := h.ro e he
  have hok' := hok
  rw [okC_f] at hok'
  simp only [Bool.and_eq_true, decide_eq_true_eq] at hok'
  obtain ⟨_, hmem, hs, _⟩ := hok'
  have heg : e.g = b.ranks := by
    unfold sameG at hs
    rw [← hek, hr.grp] at hs
    simpa using hs
  have hix : e.g[b.ranks.idxOf b.rank]? = some b.rank := by
    rw [heg, List.getElem?_eq_getElem (List.idxOf_lt_length_of_mem hmem)]
    exact congrArg some (List.getElem_idxOf _)
  obtain ⟨v, hv, hrow⟩ := hr.vs_at hix
  have hpl := partsC_len L b.key b.rank
  rw [hek] at hrow
  have hvl : ∀ g, sb v g → g < w0.heap.size := fun g z => h0.old (.inr (.inr ⟨e, he, .inr (.inr ⟨v, List.mem_of_getElem? hv, z⟩)⟩))
  obtain ⟨i, hi⟩ := List.getElem?_of_mem he
  refine bring_R5 (n := b.ranks.idxOf b.rank) (q := b.p) hr.blk hr.row hv hrow (by omega) hb7 (fun z => by have := hvl _ z; omega) ?_ ?_ ?_ fun w' v' h1 h2 h3 h4 => ?_
  · exact q10
  · show ρ 11 = _
    rw [q11]; unfold numI; rw [if_pos hmem]
  · exact q7
  · obtain ⟨a1, a2⟩ := bring_old h hi hek hix hv hok h1 h2 h3 h4
    have hbr : bringC L b = (L ++ [b], ((partsC L b.key b.rank).length : Int), 0) := by unfold bringC; rw [if_pos hok]
    unfold BringP
    rw [hbr]
    exact ⟨rfl, _, a1, (CFr.calm hm).trans a2⟩
theorem bring_R4n {w0 : World} {ρ : Sl} {b5 b7 : Nat} {rv : Value} (h : CAt w p loose L V) (hm : Mod none_ w0 w) (hb5 : w.heap[b5]? = some (.cells #[strV b.key, rv] tG (0, 0))) (hb7 : w.heap[b7]? = some (.cells b.p.enc.toArray tPt (0, 0))) (hb70 : w0.heap.size ≤ b7) (h0 : CAt w0 p loose L V) (hR : RR w rv b.ranks) (hRl : b.ranks.length ≤ 1000) (hg : grpC L b.key = none) (hok : okC L b = true)
    (q0 : ρ 0 = .pointer (some ⟨p, 0, none⟩)) (q5 : ρ 5 = .pointer (some ⟨b5, 0, none⟩)) (q7 : ρ 7 = .pointer (some ⟨b7, 0, none⟩)) (q10 : ρ 10 = .pointer none) (q11 : ρ 11 = .int .i64 (numI b.ranks b.rank)) : sx fn_ Tryd.prog 100 coll_Coll_Bring_R4 (retK Tryd.prog [ResultVar.tmp 8, ResultVar.tmp 9] (BringP w0 p loose L V b)) ρ w := by
  rw [coll_Coll_Bring_R4_eq]; unfold coll_Coll_Bring_R4_F
  rw [q10, BK_eqlP uRo]
  simp only [Option.isNone_none, ↓VG_u, ↓UG_u, ↓MG_u, ↓NG_u, ↓PG_u, ↓BG_u, ↓CG_u, ↓IG_u, ↓VGtt, ↓VGtf, ↓VGft, ↓VGff, ↓UGtt, ↓UGtf, ↓UGft, ↓UGff, ↓MGtt, ↓MGtf, ↓MGft, ↓MGff, ↓NGtt, ↓NGtf, ↓NGft, ↓NGff, ↓PGtt, ↓PGtf, ↓PGft, ↓PGff, ↓BGtt, ↓BGtf, ↓BGft, ↓BGff, ↓CGtt, ↓CGtf, ↓CGft, ↓CGff, ↓IGtt, ↓IGtf, ↓IGft, ↓IGff, ↓PKt, ↓PKf, ↓CDt, ↓CDf, ↓NOTt, ↓NOTf, ↓NK_ptr]
  have hok' := hok
  rw [okC_f] at hok'
  simp only [Bool.and_eq_true, decide_eq_true_eq] at hok'
  obtain ⟨_, hmem, hs, _⟩ := hok'
  have hix : b.ranks[b.ranks.idxOf b.rank]? = some b.rank := by
    rw [List.getElem?_eq_getElem (List.idxOf_lt_length_of_mem hmem)]
    exact congrArg some (List.getElem_idxOf _)
  have hil : b.ranks.idxOf b.rank < b.ranks.length := List.idxOf_lt_length_of_mem hmem
  have hd : Mod none_ w { w with drawn := w.drawn + 1 } := (Mod.refl _ w).drawn _
  refine coll_Coll_Bring_R6_held (D := []) (fun w' => Mod none_ w w') hd ?_
  generalize ({ w with drawn := w.drawn + 1 } : World) = wd at *
  unfold coll_Coll_Bring_R6_H
  simp only [sq_n, sq_x, sq_r, bk_n, bk_r, bk_x, rt_r, rt_n, rs_0, rs_t, pk_1, pk_2, up_at, reduceIte, Nat.reduceEqDiff]
  rw [q5]
  obtain ⟨A, c, ev, _⟩ := reads_cap hR
  have fl0 : ∀ w', Mod none_ w w' → (Instr.fieldAt tG (.pointer (some ⟨b5, 0, none⟩)) 0).run Tryd.prog w' = .ok (.pointer (some ⟨b5, 0, none⟩)) w' := fun w' _ => by rw [run_fo (show fieldOff Tryd.prog tG 0 = some 0 by kernel_rfl), add_pl]
  have fl1 : ∀ w', Mod none_ w w' → (Instr.fieldAt tG (.pointer (some ⟨b5, 0, none⟩)) 1).run Tryd.prog w' = .ok (.pointer (some ⟨b5, 1, none⟩)) w' := fun w' _ => by rw [run_fo (show fieldOff Tryd.prog tG 1 = some 1 by kernel_rfl), add_pl]
  have ld0 : ∀ w', Mod none_ w w' → (Instr.loadAt tS (.pointer (some ⟨b5, 0, none⟩))).run Tryd.prog w' = .ok (strV b.key) w' := fun w' hw => run_ld1 vS rfl (by rw [cell_blk (hw.blk hb5 id)]; rfl)
  have ld1' : ∀ w', Mod none_ w w' → (Instr.loadAt tIs (.pointer (some ⟨b5, 1, none⟩))).run Tryd.prog w' = .ok rv w' := fun w' hw => run_ld1 vIs rfl (by rw [cell_blk (hw.blk hb5 id)]; rfl)
  refine HV_of fl0 (HV_of ld0 (HV_of fl1 (HV_of ld1' (HV_of fl1 (HV_of ld1' ?_)))))
  have hlen : ∀ {K : Value → Prop}, K (.int .i64 (b.ranks.length : Int)) → HK Tryd.prog (fun w' => Mod none_ w w') (builtin .len #[tIs] tI [false].toArray [rv].toArray) K := fun {K} hk => by
    rw [ev]
    exact HI_len vIs _ _ _ _ hk
  refine hlen ?_
  -- behind both: the rows boxed, the map told, the part added
  have fin : ∀ (ρ2 : Sl) (w6 : World) (ro : Nat) (rv' : Value) (pg : Nat), Mod none_ w w6 → w6.heap[ro]? = some (.cells #[strV b.key, rv', .slice (some ⟨pg, 0, none⟩) b.ranks.length b.ranks.length] tRo (0, 0)) → w.heap.size ≤ ro → w6.ownsRow w.heap.size tI 1 rv' b.ranks.length (ints b.ranks) → w6.heap[pg]? = some (.cells (Array.replicate b.ranks.length (.slice none 0 0)) tPts (0, 0)) → w.heap.size ≤ pg →
      ρ2 0 = .pointer (some ⟨p, 0, none⟩) → ρ2 5 = .pointer (some ⟨b5, 0, none⟩) → ρ2 7 = .pointer (some ⟨b7, 0, none⟩) → ρ2 10 = .pointer (some ⟨ro, 0, none⟩) → ρ2 11 = .int .i64 (numI b.ranks b.rank) →
      W fn_ Tryd.prog 100 coll_Coll_Bring_R7 (seqK (sx fn_ Tryd.prog 100 coll_Coll_Bring_R5 (retK Tryd.prog [ResultVar.tmp 8, ResultVar.tmp 9] (BringP w0 p loose L V b))) (retK Tryd.prog [ResultVar.tmp 8, ResultVar.tmp 9] (BringP w0 p loose L V b))) ρ2 w6 := by
    intro ρ2 w6 ro rv' pg hm6 hro hrol hrk hpg hpgl e0 e5 e7 e10 e11
    refine coll_Coll_Bring_R7_tail (D := []) ?_
    have hd6 : Mod none_ w6 { w6 with drawn := w6.drawn + 1 } := (Mod.refl _ w6).drawn _
    generalize ({ w6 with drawn := w6.drawn + 1 } : World) = w7 at *
    have hm7 := hm6.trans hd6
    have h7 := h.calm hm7
    unfold coll_Coll_Bring_R7_T
    rw [e0, e5, e10]
    refine QN_ptr (QV_of (v := .pointer (some ⟨p, 1, none⟩)) (fun w' _ => by rw [run_fo (show fieldOff Tryd.prog tC 1 = some 1 by kernel_rfl), add_pl]) (QV_of (v := .map (some V.mb)) (fun w' hw => by rw [hw]; exact run_ld1 uMp rfl (by rw [cell_blk h7.blk]; rfl)) ?_))
    refine QV_of (fun w' hw => by rw [hw]; exact fl0 w7 hm7) (QV_of (fun w' hw => by rw [hw]; exact ld0 w7 hm7) ?_)
    obtain ⟨w8, hrun, hmap, hm8⟩ := run_put KT uMp h7.map b.key (.pointer (some ⟨ro, 0, none⟩))
    refine UK_of hrun ?_
    have hfn : findE b.key (V.es.map Re.ent) 0 = none := by
      rcases h7.find b.key with ⟨_, q⟩ | ⟨e, he, hek, _⟩
      · exact q
      · have := (h7.ro e he).grp
        rw [hek, hg] at this; cases this
    unfold putE clkE at hmap
    rw [hfn] at hmap
    have hmbt : ∀ {t : TypeId} {g : Nat}, isT t w7 g → g ≠ V.mb := fun {t g} ⟨cs, fr, q⟩ z => by
      have hmm := h7.map
      unfold IsMap at hmm
      rw [z, hmm] at q
      injection q with q
      cases q
    have hro8 := hm8.blk (hd6.blk hro id) (hmbt ⟨_, _, hd6.blk hro id⟩)
    have hb78 := hm8.blk (hm7.blk hb7 id) (hmbt ⟨_, _, hm7.blk hb7 id⟩)
    have hpg8 := hm8.blk (hd6.blk hpg id) (hmbt ⟨_, _, hd6.blk hpg id⟩)
    have hrk7 := owns_mod hrk hd6 fun _ _ => id
    have hrk8 := owns_mod hrk7 hm8 fun k hk => hmbt (isT_own hrk7 hk)
    have hrow8 : w8.ownsRow 0 tPts 1 (.slice (some ⟨pg, 0, none⟩) b.ranks.length b.ranks.length) b.ranks.length (List.replicate b.ranks.length (.slice none 0 0)) := ⟨by simp, .inr ⟨pg, _, _, rfl, Nat.zero_le _, hpg8, Nat.le_refl _, by unfold maxLen; omega, by simp, by simp⟩⟩
    have hs7 := hm7.size
    have hs8 := hm8.size
    rw [sq_n]
    refine bring_R5 (n := b.ranks.idxOf b.rank) (q := b.p) (l := []) (v := .slice none 0 0) hro8 hrow8 (by rw [List.getElem?_replicate, if_pos hil]) (World.ownsRow_nil _ _ _ _) (Nat.zero_le _) hb78 (fun z => by cases z) ?_ ?_ ?_ fun w9 v' h1 h2 h3 h4 => ?_
    · exact e10
    · show ρ2 11 = _
      rw [e11]; unfold numI; rw [if_pos hmem]
    · exact e7
    · have hbr : bringC L b = (L ++ [b], ((partsC L b.key b.rank).length : Int), 0) := by unfold bringC; rw [if_pos hok]
      have hpo := h.inv.none hg b.rank
      have hmbs : V.mb < w.heap.size := X.blk_lt h.map
      have hv'f : ∀ g, sb v' g → w.heap.size ≤ g := fun g z => by
        rcases h4 g z with y | y
        · cases y
        · omega
      have hpb : ∀ g, (sb (Value.slice none 0 0) g ∨ sb (.slice (some ⟨pg, 0, none⟩) b.ranks.length b.ranks.length) g) → g = pg := fun g z => by
        rcases z with z | z
        · cases z
        · unfold sb Value.ownBlock at z; simpa using z.symm
      have hm3 : Mod (fun g => g = pg) w8 w9 := h3.mono fun g _ z => hpb g z
      have hro9 := hm3.blk hro8 (fun z => by subst z; exact isT_ne ⟨_, _, hro8⟩ ⟨_, _, hpg8⟩ (by decide))
      have hmap9 := hmap.mod hm3 (show ¬ V.mb = pg by omega)
      have hrk9 := owns_mod hrk8 hm3 fun k hk z => by subst z; exact isT_ne (isT_own hrk8 hk) ⟨_, _, hpg8⟩ (by decide)
      have hmw : Mod (fun g => g = V.mb) w w9 := ((hm7.mono fun _ _ z => z.elim).trans hm8).then hm3 fun i hi z => by omega
      obtain ⟨a1, a2⟩ := bring_new (w' := w9) (v' := v') h hg hok hix hro9 hrol (owns_base hrk9 (Nat.zero_le _)) h1 (by simpa using h2) (fun g z => by have := (owns_bd hrk9 g z).1; omega) (fun g z => by have := hpb g (.inr z); omega) hv'f (by simpa using hmap9) hmw
      unfold BringP
      rw [hbr, hpo]
      exact ⟨rfl, _, a1, (CFr.calm hm).trans a2⟩
  refine ⟨?_, ?_⟩
  · refine CK_st Tryd.func38 rfl rfl (CloneI_ok (hR.calm hd) (by omega)) ?_
    rintro rv' w5 ⟨hrk, hm5⟩
    have hmw5 := hd.trans hm5
    obtain ⟨A', c', ev', _⟩ := reads_cap (reads_of_owns hrk)
    refine ⟨hmw5, HV_of (v := grpV b.key rv') (fun w' _ => by rw [ev']; exact run_build (P := Tryd.prog) w' _ _ _ (bG _ _ _ _)) ?_⟩
    refine mk1_k vPs iPs (by omega) rfl (by omega) fun w6 hb6 hm6 hz6 => ?_
    have hmw6 := hmw5.trans hm6
    refine ⟨hmw6, HV_of (v := .agg #[strV b.key, rv', .slice (some ⟨w5.heap.size, 0, none⟩) b.ranks.length b.ranks.length]) (fun w' _ => by rw [ev']; exact run_build (P := Tryd.prog) w' _ _ _ (bRo _ _ _ _ _ _ _)) ?_⟩
    refine box_k (cs := #[strV b.key, rv', .slice (some ⟨w5.heap.size, 0, none⟩) b.ranks.length b.ranks.length]) rfl fun w7 hb7' hm7 hz7 => ?_
    refine ⟨hmw6.trans hm7, ?_⟩
    have s5 := hmw5.size
    have s6 := hmw6.size
    have sd := hd.size
    refine fin _ w7 w6.heap.size rv' w5.heap.size (hmw6.trans hm7) hb7' s6 (owns_base (owns_mod (owns_mod hrk hm6 fun _ _ => id) hm7 fun _ _ => id) sd) (hm7.blk hb6 id) s5 ?_ ?_ ?_ ?_ ?_
    · exact q0
    · exact q5
    · exact q7
    · rfl
    · exact q11
  · refine mk1_k vPs iPs (by omega) rfl (by omega) fun w5 hb5' hm5 hz5 => ?_
    have hmw5 := hd.trans hm5
    refine ⟨hmw5, ?_⟩
    refine CK_st Tryd.func38 rfl rfl (CloneI_ok (hR.calm hmw5) (by omega)) ?_
    rintro rv' w6 ⟨hrk, hm6⟩
    have hmw6 := hmw5.trans hm6
    obtain ⟨A', c', ev', _⟩ := reads_cap (reads_of_owns hrk)
    refine ⟨hmw6, HV_of (v := grpV b.key rv') (fun w' _ => by rw [ev']; exact run_build (P := Tryd.prog) w' _ _ _ (bG _ _ _ _)) ?_⟩
    refine HV_of (v := .agg #[strV b.key, rv', .slice (some ⟨wd.heap.size, 0, none⟩) b.ranks.length b.ranks.length]) (fun w' _ => by rw [ev']; exact run_build (P := Tryd.prog) w' _ _ _ (bRo _ _ _ _ _ _ _)) ?_
    refine box_k (cs := #[strV b.key, rv', .slice (some ⟨wd.heap.size, 0, none⟩) b.ranks.length b.ranks.length]) rfl fun w7 hb7' hm7 hz7 => ?_
    refine ⟨hmw6.trans hm7, ?_⟩
    have s6 := hmw6.size
    have s5 := hmw5.size
    have sd := hd.size
    refine fin _ w7 w6.heap.size rv' wd.heap.size (hmw6.trans hm7) hb7' s6 (owns_base (owns_mod hrk hm7 fun _ _ => id) s5) (hm7.blk (hm6.blk hb5' id) id) sd ?_ ?_ ?_ ?_ ?_
    · exact q0
    · exact q5
    · exact q7
    · rfl
    · exact q11
theorem Bring_ok (h : CAt w p loose L V) (hL : L.length ≤ 1000000) {rv : Value} (hR : RR w rv b.ranks) (hRl : b.ranks.length ≤ 1000) : Rt Tryd.prog 12 #[.pointer (some ⟨p, 0, none⟩), grpV b.key rv, .int .i64 b.rank, b.p.v] w (BringP w p loose L V b) := by
  refine coll_Coll_Bring_calls ?_
  unfold coll_Coll_Bring_F
  refine box_k (cs := #[strV b.key, rv]) rfl fun w1 hb1 hm1 hz1 => ?_
  refine box_k (cs := b.p.enc.toArray) rfl fun w2 hb2 hm2 hz2 => ?_
  have hm02 := hm1.trans hm2
  have hb12 := hm2.blk hb1 id
  have h2 := h.calm hm02
  refine CK_st Tryd.func34 rfl rfl (none_ok h2) ?_
  rintro _ w3 ⟨rfl, rfl⟩
  refine condF ?_
  refine coll_Coll_Bring_R0_quiet (D := []) (fun w' => Mod none_ w3 w') ((Mod.refl _ _).drawn _) ?_
  have nx : ∀ (xv : Value) (ρ2 : Sl) (w4 : World), ((grpC L b.key = none ∧ xv = .pointer none) ∨ ∃ e ∈ V.es, e.key = b.key ∧ xv = .pointer (some ⟨e.ro, 0, none⟩)) → Mod none_ w3 w4 → ρ2 0 = .pointer (some ⟨p, 0, none⟩) → ρ2 2 = .int .i64 b.rank → ρ2 5 = .pointer (some ⟨w.heap.size, 0, none⟩) → ρ2 7 = .pointer (some ⟨w1.heap.size, 0, none⟩) → ρ2 10 = xv →
      sx fn_ Tryd.prog 100 coll_Coll_Bring_R1 (retK Tryd.prog [ResultVar.tmp 8, ResultVar.tmp 9] (BringP w p loose L V b)) ρ2 w4 := by
    intro xv ρ2 w4 hxv hm34 e0 e2 e5 e7 e10
    rw [coll_Coll_Bring_R1_eq]; unfold coll_Coll_Bring_R1_F
    rw [e5, e2]
    have hb14 := hm34.blk hb12 id
    have hb24 := hm34.blk hb2 id
    refine ldS (cs := #[strV b.key, rv]) rfl Tryd.underlying32 rfl (by kernel_rfl) hb14 ?_
    have hm04 := hm02.trans hm34
    refine CK_st Tryd.func35 rfl rfl (Number_ok (key := b.key) (hR.calm hm04) (by omega) b.rank) ?_
    rintro _ w5 ⟨rfl, hm5⟩
    have hm05 := hm04.trans hm5
    rw [extract_ok (v := .int .i64 (numI b.ranks b.rank)) rfl, extract_ok (v := .bool (decide (b.rank ∈ b.ranks))) rfl]
    refine bring_R2 (h.calm hm05) (hR.calm hm05) (by omega) (hm5.blk hb14 id) (hm5.blk hb24 id) hxv ?_ ?_ ?_ ?_ ?_
    · exact e5
    · exact e7
    · exact e10
    · rfl
    intro ρ3 w6 hs q53 hm6
    have hm06 := hm05.trans hm6
    have s0 : ρ3 0 = .pointer (some ⟨p, 0, none⟩) := (hs 0 (by decide)).trans e0
    have s5 : ρ3 5 = .pointer (some ⟨w.heap.size, 0, none⟩) := (hs 5 (by decide)).trans e5
    have s7 : ρ3 7 = .pointer (some ⟨w1.heap.size, 0, none⟩) := (hs 7 (by decide)).trans e7
    have s10 : ρ3 10 = xv := (hs 10 (by decide)).trans e10
    have s11 : ρ3 11 = .int .i64 (numI b.ranks b.rank) := hs 11 (by decide)
    rw [sq_n, coll_Coll_Bring_R3_eq]; unfold coll_Coll_Bring_R3_F
    rw [q53]
    cases hok : okC L b with
    | false =>
      refine condT ?_
      have hbr : bringC L b = (L, 0, 2) := by unfold bringC; rw [if_neg (by rw [hok]; simp)]
      show BringP w p loose L V b _ w6
      unfold BringP
      rw [hbr]
      exact ⟨rfl, V, h.calm hm06, CFr.calm hm06⟩
    | true =>
      refine condF ?_
      rw [sq_n]
      have hb16 := hm6.blk (hm5.blk hb14 id) id
      have hb26 := hm6.blk (hm5.blk hb24 id) id
      have hs1 := hm1.size
      rcases hxv with ⟨hg, rfl⟩ | ⟨e, he, hek, rfl⟩
      · exact bring_R4n (h.calm hm06) hm06 hb16 hb26 hs1 h (hR.calm hm06) hRl hg hok s0 s5 s7 s10 s11
      · exact bring_R4o (h.calm hm06) hm06 hL hb26 hs1 h he hek hok s7 s10 s11
  have key : ∀ (xv : Value), ((grpC L b.key = none ∧ xv = .pointer none) ∨ ∃ e ∈ V.es, e.key = b.key ∧ xv = .pointer (some ⟨e.ro, 0, none⟩)) → (∀ w', Mod none_ w3 w' → (Instr.lookup tMp (.map (some V.mb)) (strV b.key) false).run Tryd.prog w' = .ok xv w') → ∀ (ρ' : Sl) (K : Exit → Sl → World → Prop), ρ' 0 = .pointer (some ⟨p, 0, none⟩) → ρ' 5 = .pointer (some ⟨w.heap.size, 0, none⟩) →
      (∀ (ρ2 : Sl) (w' : World), (∀ i, i < 10 → ρ2 i = ρ' i) → ρ2 10 = xv → Mod none_ w3 w' → K .normal ρ2 w') → coll_Coll_Bring_R0_Q (fun w' => Mod none_ w3 w') K ρ' := by
    intro xv _ hl ρ' K q0 q5 hK
    unfold coll_Coll_Bring_R0_Q
    rw [q0, q5]
    refine QN_ptr (QV_of (v := .pointer (some ⟨p, 1, none⟩)) (fun w' _ => by rw [run_fo (show fieldOff Tryd.prog tC 1 = some 1 by kernel_rfl), add_pl]) (QV_of (v := .map (some V.mb)) (fun w' hw => run_ld1 uMp rfl (by rw [cell_blk (h2.calm hw).blk]; rfl)) ?_))
    refine QV_of (v := .pointer (some ⟨w.heap.size, 0, none⟩)) (fun w' _ => by rw [run_fo (show fieldOff Tryd.prog tG 0 = some 0 by kernel_rfl), add_pl]) (QV_of (v := strV b.key) (fun w' hw => run_ld1 vS rfl (by rw [cell_blk (hw.blk hb12 id)]; rfl)) (QV_of hl ?_))
    intro w' hw
    refine hK _ w' (fun i hi => ?_) rfl hw
    repeat rw [up_at, if_neg (by omega)]
  have go : ∀ (xv : Value), ((grpC L b.key = none ∧ xv = .pointer none) ∨ ∃ e ∈ V.es, e.key = b.key ∧ xv = .pointer (some ⟨e.ro, 0, none⟩)) → (∀ w', Mod none_ w3 w' → (Instr.lookup tMp (.map (some V.mb)) (strV b.key) false).run Tryd.prog w' = .ok xv w') → _ := fun xv hxv hl =>
    key xv hxv hl (up (up (up (up (up (up (rho0 [.pointer (some ⟨p, 0, none⟩), grpV b.key rv, .int .i64 b.rank, b.p.v]) 5 (.pointer (some ⟨w.heap.size, 0, none⟩))) 7 (.pointer (some ⟨w1.heap.size, 0, none⟩))) 8 (.int .i64 0)) 9 (.int .i64 0)) 13 (.pointer (some ⟨p, 0, none⟩))) 14 (.bool false)) (seqK (sx fn_ Tryd.prog 100 coll_Coll_Bring_R1 (retK Tryd.prog [ResultVar.tmp 8, ResultVar.tmp 9] (BringP w p loose L V b))) (retK Tryd.prog [ResultVar.tmp 8, ResultVar.tmp 9] (BringP w p loose L V b))) rfl rfl fun ρ2 w4 hs e10 hm34 => by
      rw [sq_n]
      refine nx xv ρ2 w4 hxv hm34 ?_ ?_ ?_ ?_ e10
      · exact hs 0 (by decide)
      · exact hs 2 (by decide)
      · exact hs 5 (by decide)
      · exact hs 7 (by decide)
  rcases h2.find b.key with ⟨hg, hf⟩ | ⟨e, he, hek, i, hf⟩
  · exact go (.pointer none) (.inl ⟨hg, rfl⟩) fun w' hw => by
      have := run_look KT uMp (h2.calm hw).map zRo b.key false
      rw [hf] at this
      exact this
  · exact go _ (.inr ⟨e, he, hek, rfl⟩) fun w' hw => by
      have := run_look KT uMp (h2.calm hw).map zRo b.key false
      rw [hf] at this
      exact this
end
end Go.Proofs.YtandbmnhghmcgaaDoor.Col
set_option linter.unusedVariables false
set_option linter.unusedSimpArgs false
namespace Go.X
open Go Go.RowKit
section
variable {κ : Type} [DecidableEq κ] {P : Program} {enc : κ → Value}
def IterAt (w : World) (r bm since : Nat) (seen : List Nat) (c : Nat) : Prop := w.heap[r]? = some (.mapIter (some bm) since seen.toArray c)
omit [DecidableEq κ] in
theorem IterAt.mod {S : Nat → Prop} {w w' : World} {r bm since c : Nat} {seen : List Nat} (h : IterAt w r bm since seen c) (hm : Mod S w w') (hS : ¬ S r) : IterAt w' r bm since seen c := hm.blk h hS
omit [DecidableEq κ] in
theorem range_k {w : World} {t k e : TypeId} (ht : P.underlying t = some (.map k e)) {b : Nat} {l : List (Ent κ)} {c : Nat} (h : IsMap enc w b l c) {K : Value → World → Prop}
    (hk : ∀ w', IterAt w' w.heap.size b c [] c → Mod none_ w w' → w'.heap.size = w.heap.size + 1 → K (.pointer (some ⟨w.heap.size, 0, none⟩)) w') : VK P (Instr.range t (.map (some b))) w K :=
  VK_of (run_range_map w t k e b _ c ht h) (new_k w _ hk)
omit [DecidableEq κ] in
theorem next_k {w : World} {r b since c : Nat} {seen : List Nat} {l : List (Ent κ)} {ty : TypeId} (h : IsMap enc w b l c) (hr : IterAt w r b since seen c) (hb : ∀ e ∈ l, e.b < since) (hsc : since ≤ c) {K : Value → World → Prop}
    (h0 : (∀ e ∈ l, e.b ∈ seen) → K (.tuple #[.bool false]) w)
    (h1 : ∀ e ∈ l, e.b ∉ seen → ∀ w', IterAt w' r b since (seen ++ [e.b]) c → Mod (fun i => i = r) w w' → w'.heap.size = w.heap.size → K (.tuple #[.bool true, enc e.k, e.v]) w') : VK P (Instr.next (.pointer (some ⟨r, 0, none⟩)) false ty) w K := by
  rcases run_next_at (P := P) w ty r b since c seen.toArray (l.map (Ent.enc enc)).toArray c hr h (fun x hx => by
      simp only [List.mem_map] at hx
      obtain ⟨e, he, rfl⟩ := hx
      exact hb e he) hsc with ⟨hz, hrun⟩ | ⟨e', he', w1, hw1, hrun⟩
  · refine VK_of hrun (h0 fun e he => ?_)
    have hl : leftOf (l.map (Ent.enc enc)).toArray seen.toArray = #[] := Array.eq_empty_of_size_eq_zero hz
    unfold leftOf at hl
    rw [Array.filter_eq_empty_iff] at hl
    have := hl (e.enc enc) (by simp; exact ⟨e, he, rfl⟩)
    simpa [Ent.enc] using this
  · obtain ⟨hm, hs⟩ := mem_left he'
    simp only [List.mem_map] at hm
    obtain ⟨e, he, rfl⟩ := hm
    have hns : e.b ∉ seen := by simpa [Ent.enc] using hs
    have hb1 : w1.heap = w.heap := by rcases hw1 with rfl | rfl <;> rfl
    have hm1 : Mod none_ w w1 := by
      rcases hw1 with rfl | rfl
      · exact Mod.refl _ _
      · exact (Mod.refl _ w).drawn _
    have hlt : r < w1.heap.size := by rw [hb1]; exact X.blk_lt hr
    refine VK_of hrun (h1 e he hns _ ?_ ((hm1.mono fun _ _ z => z.elim).trans ((Mod.refl _ w1).set _ fun _ => rfl)) (by show (w1.heap.setIfInBounds _ _).size = _; simp [hb1]))
    show (setB w1 r (.mapIter (some b) since (seen.toArray.push e.b) c)).heap[r]? = _
    rw [setB_new _ _ _ hlt, List.push_toArray]
omit [DecidableEq κ] in
theorem entry_k {w : World} {r b since c : Nat} {seen : List Nat} {l : List (Ent κ)} {e : Ent κ} (h : IsMap enc w b l c) (hr : IterAt w r b since (seen ++ [e.b]) c) (he : e ∈ l) (hn : ∀ (i j : Nat) (x y : Ent κ), l[i]? = some x → l[j]? = some y → x.b = y.b → i = j) {K : Value → World → Prop}
    (hk : K (.tuple #[enc e.k, e.v]) w) : VK P (Instr.entry (.pointer (some ⟨r, 0, none⟩))) w K := by
  have hnd : (((l.map (Ent.enc enc)).toArray.toList).map (·.born)).Nodup := by
    simp only [List.map_map, List.Nodup]
    rw [List.pairwise_map, List.pairwise_iff_getElem]
    intro i j hi hj hij q
    have := hn i j _ _ (List.getElem?_eq_getElem hi) (List.getElem?_eq_getElem hj) q
    omega
  have hr' : w.heap[r]? = some (.mapIter (some b) since (seen.toArray.push (e.enc enc).born) c) := by
    have := hr
    unfold IterAt at this
    rw [List.push_toArray]
    exact this
  exact VK_of (run_entry_at (P := P) w r b since seen.toArray _ c (e.enc enc) hr' h (by simp; exact ⟨e, he, rfl⟩) hnd) hk
def togo (l : List (Ent κ)) (seen : List Nat) : Nat := (l.filter fun e => decide (e.b ∉ seen)).length
theorem filt_lt {α : Type} {p q : α → Bool} {e : α} (hpq : ∀ x, q x = true → p x = true) (hp : p e = true) (hq : q e = false) : ∀ {l : List α}, e ∈ l → (l.filter q).length < (l.filter p).length
  | a :: l, he => by
    have le : ∀ l : List α, (l.filter q).length ≤ (l.filter p).length := fun l => by
      induction l with
      | nil => exact Nat.le_refl _
      | cons a l ih =>
        by_cases c : q a = true
        · simp [c, hpq a c, ih]
        · by_cases d : p a = true <;> simp [c, d] <;> omega
    rcases List.mem_cons.1 he with rfl | he
    · simp only [List.filter_cons, hp, hq, if_true, Bool.false_eq_true, if_false, List.length_cons]
      have := le l; omega
    · have ih := filt_lt hpq hp hq he
      by_cases c : q a = true
      · simp [c, hpq a c, ih]
      · by_cases d : p a = true <;> simp [c, d] <;> omega
omit [DecidableEq κ] in
theorem togo_lt {l : List (Ent κ)} {seen : List Nat} {e : Ent κ} (he : e ∈ l) (hn : e.b ∉ seen) : togo l (seen ++ [e.b]) < togo l seen := by
  unfold togo
  exact filt_lt (fun x hx => by simp at hx ⊢; exact hx.1) (by simpa using hn) (by simp) he
end
end Go.X
set_option linter.unusedVariables false
set_option linter.unusedSimpArgs false
set_option maxRecDepth 8000
namespace Go.Proofs.YtandbmnhghmcgaaDoor.Col
open Go Go.X Go.RowKit Go.Proofs.YtandbmnhghmcgaaDoor.XF Go.Proofs.YtandbmnhghmcgaaDoor.XK
theorem bC (l : Bool) (m : Nat) : Tryd.prog.built tC [(0, .bool l), (1, .map (some m))] = some #[.bool l, .map (some m)] := by kernel_rfl
section
variable {w : World} {p : Nat} {loose : Bool} {L : List Br} {V : CV}
theorem New_ok (w : World) (loose : Bool) : Rt Tryd.prog 11 #[.bool loose] w fun v w' => ∃ p V, v = .pointer (some ⟨p, 0, none⟩) ∧ CAt w' p loose [] V ∧ V.es = [] ∧ V.clk = 0 ∧ (∀ b, CF p V b → w.heap.size ≤ b) ∧ Mod none_ w w' := by
  refine coll_New_calls ?_
  unfold coll_New_F
  refine make_ok (κ := Ky) (enc := strV) tMp fun w1 hmap hm1 hz1 => ?_
  rw [build_ok (bC _ _)]
  refine box_k (cs := #[.bool loose, .map (some w.heap.size)]) rfl fun w2 hb2 hm2 hz2 => ?_
  refine ⟨w1.heap.size, ⟨w.heap.size, 0, []⟩, rfl, ⟨hb2, hmap.mod hm2 id, fun i j a b h => (by simp at h), fun i j a b h => (by simp at h), fun e he => (by cases he), fun k g hg => (by cases hg), fun e he => (by cases he), fun i j a b h => (by simp at h), CInv.nil⟩, rfl, rfl, fun b z => ?_, hm1.trans hm2⟩
  rcases z with rfl | rfl | ⟨e, he, _⟩
  · omega
  · exact Nat.le_refl _
  · cases he
theorem CloneP_ok {w : World} {v : Value} {l : List Pt} (h : reads w 6 v l.length (l.flatMap Pt.enc)) (hn : l.length ≤ 1000000) : Rt Tryd.prog 46 #[v] w fun v' w' => w'.ownsRow w.heap.size tPt 6 v' l.length (l.flatMap Pt.enc) ∧ Mod none_ w w' := by
  refine slices_Clone_coll_Part_coll_Part_calls ?_
  unfold slices_Clone_coll_Part_coll_Part_F
  have h' := h
  obtain ⟨hl, A, c, rfl, hnc, hr⟩ := h
  rw [BK_sln vPts]
  cases A with
  | none =>
    refine condT ⟨?_, Mod.refl _ _⟩
    have h0 : l = [] := by
      cases l with
      | nil => rfl
      | cons a l =>
        obtain ⟨b, hb, _⟩ := hr 0 (.int .u8 a.kind) rfl
        cases hb
    subst h0
    exact World.ownsRow_nil _ _ _ _
  | some a =>
    refine condF ?_
    refine bs0_k vPts iPt fun w1 hb1 hm1 hz1 => ?_
    have hown : w1.ownsRow w.heap.size tPt 6 (.slice (some ⟨w.heap.size, 0, none⟩) 0 0) 0 [] := owns_zero hb1 (Nat.le_refl _)
    refine ap_any ePts hown (reads_mod h' hm1 fun _ _ _ => id) (Pt.enc_mem l) (by unfold maxLen; omega) (by omega) (by omega) fun v' w' h2 hm2 _ => ?_
    refine ⟨by simpa using h2, hm1.then hm2 fun i hi q => ?_⟩
    have : i = w.heap.size := by simpa [Value.ownBlock] using q
    omega
abbrev nilS : Value := .slice none 0 0
structure CpF (w' : World) (B pg : Nat) (L : List Br) (e : Re) (n : Nat) (F : List Value) : Prop where
  len : F.length = n
  row : w'.ownsRow 0 tPts 1 (.slice (some ⟨pg, 0, none⟩) e.g.length e.g.length) e.g.length (F ++ List.replicate (e.g.length - n) nilS)
  pt : ∀ (i : Nat) x v, e.g[i]? = some x → F[i]? = some v → w'.ownsRow B tPt 6 v (partsC L e.key x).length ((partsC L e.key x).flatMap Pt.enc)
  ne : ∀ (i j : Nat) v u, F[i]? = some v → F[j]? = some u → i ≠ j → ∀ b, sb v b → ¬ sb u b
theorem copy_L4 {w1 : World} {ρ : Sl} {K : Exit → Sl → World → Prop} {e : Re} {ro pg : Nat} {x0 : Value} (hr : RoAt w1 L e) (hl : e.g.length ≤ 1000) (hLl : L.length ≤ 1000000) (hro : w1.heap[ro]? = some (.cells #[strV e.key, e.rv, .slice (some ⟨pg, 0, none⟩) e.g.length e.g.length] tRo (0, 0)))
    (hpg : w1.heap[pg]? = some (.cells (Array.replicate e.g.length nilS) tPts (0, 0))) (hpn : ¬ sb e.pv pg)
    (q46 : ρ 46 = .int .i64 e.g.length) (q47 : ρ 47 = .int .i64 (0 : Nat)) (q45 : ρ 45 = e.pv) (q6 : ρ 6 = .pointer (some ⟨ro, 0, none⟩))
    (hK : ∀ (ρ' : Sl) (w' : World) F, (∀ i, i < 7 → ρ' i = ρ i) → ρ' 24 = ρ 24 → CpF w' w1.heap.size pg L e e.g.length F → Mod (fun b => b = pg) w1 w' → K (.exit 2) ρ' w') :
    W fn_ Tryd.prog 68 (Code.loop coll_Coll_Copy_L4) K ρ w1 := by
  have hgr : pg ≠ ro := fun z => by rw [z, hro] at hpg; injection hpg with hpg; injection hpg with _ hpg; exact absurd hpg (by decide)
  refine W_loop coll_Coll_Copy_L4_ok (fun ρ' w' => ∃ (n : Nat) (F : List Value), n ≤ e.g.length ∧ ρ' 47 = .int .i64 n ∧ ρ' 46 = .int .i64 e.g.length ∧ ρ' 45 = e.pv ∧ ρ' 6 = .pointer (some ⟨ro, 0, none⟩) ∧ (∀ i, i < 7 → ρ' i = ρ i) ∧ ρ' 24 = ρ 24 ∧ CpF w' w1.heap.size pg L e n F ∧ Mod (fun b => b = pg) w1 w') (fun ρ _ => e.g.length - (intOf (ρ 47)).toNat)
    ⟨0, [], Nat.zero_le _, q47, q46, q45, q6, fun _ _ => rfl, rfl, ⟨rfl, ⟨by simp, .inr ⟨pg, _, _, rfl, Nat.zero_le _, hpg, Nat.le_refl _, by unfold maxLen; omega, by simp, by simp⟩⟩, fun i x v _ h => by simp at h, fun i j v u h => by simp at h⟩, Mod.refl _ _⟩ ?_
  rintro ρ1 w2 ⟨n, F, hn, p47, p46, p45, p6, hs, p24, hF, hm⟩
  rw [coll_Coll_Copy_L4_eq]; unfold coll_Coll_Copy_L4_F
  rw [p47, p46, p45, BK_lss]
  have hr2 : RoAt w2 L e := hr.mod hm (fun b hb z => by
    subst z
    rcases hb with hb | hb | ⟨v, hv, hb⟩
    · subst hb
      exact isT_ne (⟨_, _, hr.blk⟩ : isT tRo w1 _) (⟨_, _, hpg⟩ : isT tPts w1 _) (by decide)
    · exact hpn hb
    · obtain ⟨i, hi, rfl⟩ := List.mem_iff_getElem.1 hv
      have hg : e.g[i]? = some (e.g[i]'(by have := hr.len; omega)) := List.getElem?_eq_getElem _
      exact isT_ne (isT_own (hr.pt i _ _ hg (List.getElem?_eq_getElem hi)) hb) ⟨_, _, hpg⟩ (by decide)) (fun b hb z => by subst z; exact isT_ne hb ⟨_, _, hpg⟩ (by decide))
  by_cases hlt : n < e.g.length
  · rw [decide_eq_true (by omega)]
    refine condT ?_
    have hx : e.g[n]? = some e.g[n] := List.getElem?_eq_getElem hlt
    generalize e.g[n] = x at *
    obtain ⟨v, hv, hrow⟩ := hr2.vs_at hx
    refine ixPs (x := x) hr2 hv fun y => ?_
    refine coll_Coll_Copy_R6_held (D := []) (fun w' => w'.heap[ro]? = some (.cells #[strV e.key, e.rv, .slice (some ⟨pg, 0, none⟩) e.g.length e.g.length] tRo (0, 0))) ?_ ?_
    · exact hm.blk hro (fun z => hgr z.symm)
    have hd : Mod none_ w2 { w2 with drawn := w2.drawn + 1 } := (Mod.refl _ w2).drawn _
    have hro2 := hd.blk (hm.blk hro (fun z => hgr z.symm)) id
    generalize ({ w2 with drawn := w2.drawn + 1 } : World) = wd at *
    unfold coll_Coll_Copy_R6_H
    simp only [sq_n, sq_x, sq_r, bk_n, bk_r, bk_x, rt_r, rt_n, rs_0, rs_t, pk_1, pk_2, up_at, reduceIte, Nat.reduceEqDiff, p6]
    refine HN_ptr (HV_of (v := .pointer (some ⟨ro, 2, none⟩)) (fun w' _ => by rw [run_fo (show fieldOff Tryd.prog tRo 1 = some 2 by kernel_rfl), add_pl]) (HV_of (v := .slice (some ⟨pg, 0, none⟩) e.g.length e.g.length) (fun w' hw => run_ld1 vPs rfl (by rw [cell_blk hw]; rfl)) ?_))
    have hpl := partsC_len L e.key x
    refine CK_st Tryd.func46 rfl rfl (CloneP_ok (reads_mod (reads_of_owns hrow) hd fun _ _ _ => id) (by omega)) ?_
    rintro v' w3 ⟨hv', hm3⟩
    have hm23 := hd.trans hm3
    refine ⟨hm3.blk hro2 id, HV_of (fun w' _ => ixP_run (vs := F) (pv := .slice (some ⟨pg, 0, none⟩) e.g.length e.g.length) rfl hlt w') ?_⟩
    have hrow3 := owns_mod hF.row hm23 fun _ _ => id
    have hv1 : v'.oneCell' = true := by
      obtain ⟨A', c', ev', _⟩ := reads_cap (reads_of_owns hv')
      rw [ev']; rfl
    refine st_row (by kernel_rfl) hv1 hrow3 (k := n) (by omega) fun w4 ho4 hm4 => ?_
    have hset : (F ++ List.replicate (e.g.length - n) nilS).set n v' = (F ++ [v']) ++ List.replicate (e.g.length - (n + 1)) nilS := by
      rw [List.set_append_right _ _ (by rw [hF.len]; omega), hF.len, Nat.sub_self, show e.g.length - n = (e.g.length - (n + 1)) + 1 by omega, List.replicate_succ, List.set_cons_zero]
      simp
    rw [hset] at ho4
    have hs1 := hm.size
    have hs2 := hd.size
    have hm24 : Mod (fun b => b = pg) w2 w4 := (hm23.mono fun _ _ z => z.elim).trans hm4
    have hvn : ∀ {u : Value} {B s : Nat} {xs : List Value} {N : Nat}, w3.ownsRow B tPt s u N xs → ∀ k, sb u k → k ≠ pg := fun ho k hk z => by
      subst z
      exact isT_ne (isT_own ho hk) (isT_own hrow3 (by rfl)) (by decide)
    refine ⟨hm4.blk (hm3.blk hro2 id) (fun z => hgr z.symm), ?_⟩
    try rw [bk_n]
    try rw [sq_n]
    rw [coll_Coll_Copy_R7_eq]; unfold coll_Coll_Copy_R7_F
    simp only [sq_n, sq_x, sq_r, bk_n, bk_r, bk_x, rt_r, rt_n, rs_0, rs_t, pk_1, pk_2, up_at, reduceIte, Nat.reduceEqDiff]
    rw [p47, BK_add, wrap_i (by omega) (by omega)]
    refine ⟨⟨n + 1, F ++ [v'], hlt, rfl, p46, p45, p6, fun i hi => ?_, p24, ⟨by simp [hF.len], ho4, fun i z u hz hu => ?_, fun i j a b ha hb hij g za zb => ?_⟩, hm.trans hm24⟩, ?_⟩
    · repeat rw [if_neg (by omega)]
      exact hs i hi
    · rcases app_get hu with q | ⟨q, rfl⟩
      · have h3 := owns_mod (hF.pt i z u hz q) hm23 fun _ _ => id
        exact owns_mod h3 hm4 fun k hk z => hvn h3 k hk z
      · rw [hF.len] at q
        subst q
        have hz' : z = x := Option.some.inj (hz.symm.trans hx)
        rw [hz']
        exact owns_base (owns_mod hv' hm4 fun k hk z => hvn hv' k hk z) (by omega)
    · have lt : ∀ {i : Nat} {a : Value}, F[i]? = some a → ∀ g, sb a g → g < wd.heap.size := fun {i a} ha g z => by
        have hi : i < e.g.length := by have := (List.getElem?_eq_some_iff.1 ha).1; rw [hF.len] at this; omega
        have := (owns_bd (owns_mod (hF.pt i _ a (List.getElem?_eq_getElem hi) ha) hd fun _ _ => id) g z).2
        exact this
      rcases app_get ha with q | ⟨q, rfl⟩ <;> rcases app_get hb with y | ⟨y, rfl⟩
      · exact hF.ne i j a b q y hij g za zb
      · have := lt q g za; have := (owns_bd hv' g zb).1; omega
      · have := lt y g zb; have := (owns_bd hv' g za).1; omega
      · omega
    · simp only [sq_n, sq_x, sq_r, bk_n, bk_r, bk_x, rt_r, rt_n, rs_0, rs_t, pk_1, pk_2, up_at, reduceIte, Nat.reduceEqDiff, intOf]; omega
  · obtain rfl : n = e.g.length := by omega
    rw [decide_eq_false (by omega)]
    refine condF ?_
    rw [sq_x]
    refine hK _ w2 F (fun i hi => ?_) ?_ hF hm
    · rw [up_at, if_neg (by omega)]; exact hs i hi
    · exact p24
end
end Go.Proofs.YtandbmnhghmcgaaDoor.Col
set_option linter.unusedVariables false
set_option linter.unusedSimpArgs false
set_option maxRecDepth 8000
namespace Go.Proofs.YtandbmnhghmcgaaDoor.Col
open Go Go.X Go.RowKit Go.Proofs.YtandbmnhghmcgaaDoor.XF Go.Proofs.YtandbmnhghmcgaaDoor.XK
section
variable {w : World} {p : Nat} {loose : Bool} {L : List Br} {V : CV}
structure CpS (w' : World) (B mb : Nat) (L : List Br) (ve us : List Re) : Prop where
  map : IsMap strV w' mb (us.map Re.ent) us.length
  keys : us.map (·.key) = ve.map (·.key)
  born : ∀ (i : Nat) e, us[i]? = some e → e.b = i
  ro : ∀ e ∈ us, RoAt w' L e
  new : ∀ e ∈ us, ∀ b, (b = e.ro ∨ sb e.pv b ∨ ∃ v ∈ e.vs, sb v b) → B ≤ b
  dist : ∀ (i j : Nat) a b, us[i]? = some a → us[j]? = some b → i ≠ j → a.ro ≠ b.ro ∧ (∀ g, sb a.pv g → ¬ sb b.pv g) ∧ ∀ v ∈ a.vs, ∀ u ∈ b.vs, ∀ g, sb v g → ¬ sb u g
def notC (w : World) (b : Nat) : Prop := ∀ t, ¬ isT t w b
theorem notC_map {w : World} {b : Nat} {l : List (Ent Ky)} {c : Nat} (h : IsMap strV w b l c) : notC w b := fun t ⟨cs, fr, q⟩ => by
  unfold IsMap at h
  rw [h] at q
  injection q with q
  cases q
theorem notC_iter {w : World} {r b s c : Nat} {l : List Nat} (h : IterAt w r b s l c) : notC w r := fun t ⟨cs, fr, q⟩ => by
  unfold IterAt at h
  rw [h] at q
  injection q with q
  cases q
theorem RoAt.notC {w' : World} {S : Nat → Prop} {e : Re} (h : RoAt w L e) (hm : Mod S w w') (hS : ∀ b, S b → notC w b) : RoAt w' L e :=
  h.mod hm (fun b hb z => by rcases h.blks hb with q | q | q <;> exact hS b z _ q) fun b hb z => hS b z _ hb
theorem CpS.mod {w' : World} {S : Nat → Prop} {B mb : Nat} {ve us : List Re} (h : CpS w B mb L ve us) (hm : Mod S w w') (h1 : ¬ S mb) (hS : ∀ b, b < w.heap.size → S b → notC w b) : CpS w' B mb L ve us := by
  have hm' : Mod (fun b => S b ∧ b < w.heap.size) w w' := hm.mono fun b hb z => ⟨z, hb⟩
  exact ⟨h.map.mod hm h1, h.keys, h.born, fun e he => (h.ro e he).notC hm' fun b hb => hS b hb.2 hb.1, h.new, h.dist⟩
theorem CpS.key_new {B mb : Nat} {ve us : List Re} {k : Ky} (h : CpS w B mb L ve us) (hk : ∀ x ∈ ve, x.key ≠ k) : findE k (us.map Re.ent) 0 = none := by
  refine findE_none.2 fun x hx q => ?_
  obtain ⟨u, hu, rfl⟩ := List.mem_map.1 hx
  have : u.key ∈ ve.map (·.key) := by rw [← h.keys]; exact List.mem_map_of_mem hu
  obtain ⟨y, hy, hyk⟩ := List.mem_map.1 this
  exact hk y hy (hyk.trans q)
theorem CpS.snoc {w' : World} {B mb : Nat} {ve us : List Re} {e u : Re} (h : CpS w B mb L ve us) (hk : ∀ x ∈ ve, x.key ≠ e.key) (hu : RoAt w L u) (huk : u.key = e.key) (hub : u.b = us.length) (hB : ∀ b, (b = u.ro ∨ sb u.pv b ∨ ∃ v ∈ u.vs, sb v b) → B ≤ b)
    (hd : ∀ a ∈ us, ∀ b, (b = u.ro ∨ sb u.pv b ∨ ∃ v ∈ u.vs, sb v b) → ¬ (b = a.ro ∨ sb a.pv b ∨ ∃ v ∈ a.vs, sb v b)) (hm : Mod (fun b => b = mb) w w')
    (hmap : IsMap strV w' mb (putE e.key (.pointer (some ⟨u.ro, 0, none⟩)) us.length (us.map Re.ent)) (clkE e.key us.length (us.map Re.ent))) : CpS w' B mb L (ve ++ [e]) (us ++ [u]) := by
  have hf := h.key_new hk
  unfold putE clkE at hmap
  rw [hf] at hmap
  have hnm : ∀ b, (fun b => b = mb) b → notC w b := fun b z => by
    have z : b = mb := z
    subst z; exact notC_map h.map
  refine ⟨?_, by rw [List.map_append, List.map_append, h.keys]; simp [huk], fun i x hx => ?_, fun x hx => ?_, fun x hx => ?_, fun i j a b hi hj hij => ?_⟩
  · rw [List.map_append, List.length_append]
    have : u.ent = ⟨e.key, .pointer (some ⟨u.ro, 0, none⟩), us.length⟩ := by unfold Re.ent; rw [huk, hub]
    simp only [List.map_cons, List.map_nil, this, List.length_cons, List.length_nil]
    exact hmap
  · rcases app_get hx with z | ⟨z, rfl⟩
    · exact h.born i x z
    · rw [hub]; exact z.symm
  · rcases List.mem_append.1 hx with z | z
    · exact (h.ro x z).notC hm hnm
    · rw [List.mem_singleton.1 z]; exact hu.notC hm hnm
  · rcases List.mem_append.1 hx with z | z
    · exact h.new x z
    · rw [List.mem_singleton.1 z]; exact hB
  · rcases app_get hi with z | ⟨z, rfl⟩ <;> rcases app_get hj with y | ⟨y, rfl⟩
    · exact h.dist i j a b z y hij
    · have d := hd a (List.mem_of_getElem? z)
      refine ⟨fun q => d _ (.inl rfl) (.inl q.symm), fun g z1 z2 => d g (.inr (.inl z2)) (.inr (.inl z1)), fun v hv t ht g z1 z2 => d g (.inr (.inr ⟨t, ht, z2⟩)) (.inr (.inr ⟨v, hv, z1⟩))⟩
    · have d := hd b (List.mem_of_getElem? y)
      refine ⟨fun q => d _ (.inl rfl) (.inl q), fun g z1 z2 => d g (.inr (.inl z1)) (.inr (.inl z2)), fun v hv t ht g z1 z2 => d g (.inr (.inr ⟨v, hv, z1⟩)) (.inr (.inr ⟨t, ht, z2⟩))⟩
    · omega
abbrev CopyP (w0 : World) (loose : Bool) (L : List Br) : Value → World → Prop := fun v w' => ∃ q V', v = .pointer (some ⟨q, 0, none⟩) ∧ CAt w' q loose L V' ∧ (∀ b, CF q V' b → w0.heap.size ≤ b) ∧ Mod none_ w0 w'
theorem copied {w' : World} {q mb B : Nat} {ve us : List Re} (h : CAt w p loose L V) (hb : w'.heap[q]? = some (.cells #[.bool loose, .map (some mb)] tC (0, 0))) (hq : B ≤ q) (hmb : B ≤ mb) (hS : CpS w' B mb L ve us) (hve : ∀ e ∈ ve, e ∈ V.es) (hvd : ve.Pairwise fun a b => a.key ≠ b.key) (hall : ∀ e ∈ V.es, e ∈ ve) : CAt w' q loose L ⟨mb, us.length, us⟩ ∧ ∀ b, CF q ⟨mb, us.length, us⟩ b → B ≤ b := by
  refine ⟨⟨hb, hS.map, fun i j a b hi hj hk => ?_, fun i j a b hi hj hk => ?_, fun e he => ?_, fun k g hg => ?_, hS.ro, hS.dist, h.inv⟩, fun b z => ?_⟩
  · have gi : (us.map (·.key))[i]? = some a.key := by rw [List.getElem?_map, hi]; rfl
    have gj : (us.map (·.key))[j]? = some b.key := by rw [List.getElem?_map, hj]; rfl
    rw [hS.keys, List.getElem?_map] at gi gj
    obtain ⟨x, hx, hxk⟩ := Option.map_eq_some_iff.1 gi
    obtain ⟨y, hy, hyk⟩ := Option.map_eq_some_iff.1 gj
    obtain ⟨hi1, hi2⟩ := List.getElem?_eq_some_iff.1 hx
    obtain ⟨hj1, hj2⟩ := List.getElem?_eq_some_iff.1 hy
    rcases Nat.lt_trichotomy i j with z | z | z
    · exact absurd (by rw [hi2, hj2, hxk, hyk, hk]) (List.pairwise_iff_getElem.1 hvd i j hi1 hj1 z)
    · exact z
    · exact absurd (by rw [hi2, hj2, hxk, hyk, hk]) (List.pairwise_iff_getElem.1 hvd j i hj1 hi1 z)
  · rw [hS.born i a hi, hS.born j b hj] at hk
    exact hk
  · obtain ⟨i, hi⟩ := List.getElem?_of_mem he
    rw [hS.born i e hi]
    exact (List.getElem?_eq_some_iff.1 hi).1
  · obtain ⟨e, he, hk⟩ := h.cov k g hg
    have : e.key ∈ us.map (·.key) := by rw [hS.keys]; exact List.mem_map_of_mem (hall e he)
    obtain ⟨u, hu, huk⟩ := List.mem_map.1 this
    exact ⟨u, hu, huk.trans hk⟩
  · rcases z with rfl | rfl | ⟨e, he, z⟩
    · exact hq
    · exact hmb
    · exact hS.new e he b z
theorem Copy_ok (h : CAt w p loose L V) (hL : L.length ≤ 1000000) : Rt Tryd.prog 15 #[.pointer (some ⟨p, 0, none⟩)] w (CopyP w loose L) := by
  refine coll_Coll_Copy_calls ?_
  unfold coll_Coll_Copy_F
  rw [BK_eqlP uC]
  simp only [Option.isNone_some, ↓VG_u, ↓UG_u, ↓MG_u, ↓NG_u, ↓PG_u, ↓BG_u, ↓CG_u, ↓IG_u, ↓VGtt, ↓VGtf, ↓VGft, ↓VGff, ↓UGtt, ↓UGtf, ↓UGft, ↓UGff, ↓MGtt, ↓MGtf, ↓MGft, ↓MGff, ↓NGtt, ↓NGtf, ↓NGft, ↓NGff, ↓PGtt, ↓PGtf, ↓PGft, ↓PGff, ↓BGtt, ↓BGtf, ↓BGft, ↓BGff, ↓CGtt, ↓CGtf, ↓CGft, ↓CGff, ↓IGtt, ↓IGtf, ↓IGft, ↓IGff, ↓PKt, ↓PKf, ↓CDt, ↓CDf, ↓NOTt, ↓NOTf, ↓NK_ptr]
  refine CK_st Tryd.func34 rfl rfl (none_ok h) ?_
  rintro _ w0 ⟨rfl, rfl⟩
  simp only [↓VG_u, ↓UG_u, ↓MG_u, ↓NG_u, ↓PG_u, ↓BG_u, ↓CG_u, ↓IG_u, ↓VGtt, ↓VGtf, ↓VGft, ↓VGff, ↓UGtt, ↓UGtf, ↓UGft, ↓UGff, ↓MGtt, ↓MGtf, ↓MGft, ↓MGff, ↓NGtt, ↓NGtf, ↓NGft, ↓NGff, ↓PGtt, ↓PGtf, ↓PGft, ↓PGff, ↓BGtt, ↓BGtf, ↓BGft, ↓BGff, ↓CGtt, ↓CGtf, ↓CGft, ↓CGff, ↓IGtt, ↓IGtf, ↓IGft, ↓IGff, ↓PKt, ↓PKf, ↓CDt, ↓CDf, ↓NOTt, ↓NOTf, ↓NK_ptr, ↓(f_loose h).e]
  refine CK_st Tryd.func11 rfl rfl (New_ok w0 loose) ?_
  rintro _ w1 ⟨q, V1, rfl, hA1, hes, hclk, hF1, hm1⟩
  have h1 := h.calm hm1
  simp only [↓VG_u, ↓UG_u, ↓MG_u, ↓NG_u, ↓PG_u, ↓BG_u, ↓CG_u, ↓IG_u, ↓VGtt, ↓VGtf, ↓VGft, ↓VGff, ↓UGtt, ↓UGtf, ↓UGft, ↓UGff, ↓MGtt, ↓MGtf, ↓MGft, ↓MGff, ↓NGtt, ↓NGtf, ↓NGft, ↓NGff, ↓PGtt, ↓PGtf, ↓PGft, ↓PGff, ↓BGtt, ↓BGtf, ↓BGft, ↓BGff, ↓CGtt, ↓CGtf, ↓CGft, ↓CGff, ↓IGtt, ↓IGtf, ↓IGft, ↓IGff, ↓PKt, ↓PKf, ↓CDt, ↓CDf, ↓NOTt, ↓NOTf, ↓NK_ptr, ↓(f_all h1).e]
  refine range_k uMp h1.map fun w2 hit hm2 hz2 => ?_
  have hm02 := hm1.trans hm2
  have hqb := hA1.blk
  have hmap1 : IsMap strV w1 V1.mb [] 0 := by have := hA1.map; rw [hes, hclk] at this; exact this
  have hql := hF1 q (.inl rfl)
  have hml := hF1 V1.mb (.inr (.inl rfl))
  have hs1 := hm1.size
  have hmbs : V1.mb < w1.heap.size := X.blk_lt hmap1
  have hqs : q < w1.heap.size := X.blk_lt hqb
  have hmq : q ≠ V1.mb := fun z => by rw [z] at hqb; unfold IsMap at hmap1; rw [hmap1] at hqb; injection hqb with hqb; cases hqb
  have entb : ∀ (i j : Nat) (x y : Ent Ky), (V.es.map Re.ent)[i]? = some x → (V.es.map Re.ent)[j]? = some y → x.b = y.b → i = j := fun i j x y hx hy q => by
    rw [List.getElem?_map] at hx hy
    obtain ⟨a, ha, rfl⟩ := Option.map_eq_some_iff.1 hx
    obtain ⟨b, hb, rfl⟩ := Option.map_eq_some_iff.1 hy
    exact h.bd i j a b ha hb q
  refine W_loopG coll_Coll_Copy_L0_ok (fun m ρ' w' => ∃ (ve us : List Re), m = togo (V.es.map Re.ent) (ve.map (·.b)) ∧ (∀ e ∈ ve, e ∈ V.es) ∧ ve.Pairwise (fun a b => a.key ≠ b.key) ∧ ρ' 24 = .pointer (some ⟨w1.heap.size, 0, none⟩) ∧ ρ' 3 = .pointer (some ⟨q, 0, none⟩) ∧ IterAt w' w1.heap.size V.mb V.clk (ve.map (·.b)) V.clk ∧ CpS w' w0.heap.size V1.mb L ve us ∧ w'.heap[q]? = some (.cells #[.bool loose, .map (some V1.mb)] tC (0, 0)) ∧ Mod none_ w0 w') (togo (V.es.map Re.ent) [])
    ⟨[], [], rfl, by simp, by simp, rfl, rfl, hit, ⟨hmap1.mod hm2 id, rfl, by simp, by simp, by simp, by simp⟩, hm2.blk hqb id, hm02⟩ ?_
  rintro m ρ w3 ⟨ve, us, hmv, hve, hvd, q24, q3, hit3, hS3, hq3, hm03⟩
  have h3 := h.calm hm03
  rw [coll_Coll_Copy_L0_eq]; unfold coll_Coll_Copy_L0_F
  rw [q24]
  refine next_k h3.map hit3 (fun e he => by obtain ⟨x, hx, rfl⟩ := List.mem_map.1 he; exact h.bc x hx) (Nat.le_refl _) (fun hall => ?_) (fun en hen hne4 w4 hit4 hm4 hz4 => ?_)
  · rw [extract_ok (v := .bool false) rfl]
    refine condF ?_
    rw [sq_x, bk_x, sq_n, coll_Coll_Copy_R1_eq]; unfold coll_Coll_Copy_R1_F
    have hcov : ∀ e ∈ V.es, e ∈ ve := fun e he => by
      have := hall e.ent (List.mem_map_of_mem he)
      obtain ⟨x, hx, hxb⟩ := List.mem_map.1 this
      obtain ⟨i, hi⟩ := List.getElem?_of_mem he
      obtain ⟨j, hj⟩ := List.getElem?_of_mem (hve x hx)
      have := h.bd j i x e hj hi hxb
      subst this
      rw [hi] at hj
      cases hj
      exact hx
    obtain ⟨c1, c2⟩ := copied h3 hq3 hql hml hS3 hve hvd hcov
    exact ⟨q, _, q3, c1, c2, hm03⟩
  · rw [extract_ok (v := .bool true) rfl]
    refine condT ?_
    have hit3s : w1.heap.size < w3.heap.size := X.blk_lt hit3
    have hm04 : Mod none_ w0 w4 := hm03.then hm4 fun i hi z => by omega
    have h4 := h.calm hm04
    obtain ⟨e, he, rfl⟩ := List.mem_map.1 hen
    refine entry_k (e := e.ent) h4.map hit4 (List.mem_map_of_mem he) entb ?_
    have hr4 := h4.ro e he
    have hkn : ∀ x ∈ ve, x.key ≠ e.key := fun x hx q => by
      obtain ⟨i, hi⟩ := List.getElem?_of_mem (hve x hx)
      obtain ⟨j, hj⟩ := List.getElem?_of_mem he
      have := h.kd i j x e hi hj q
      subst this
      rw [hi] at hj
      cases hj
      exact hne4 (List.mem_map_of_mem (f := fun x : Re => x.b) hx)
    rw [extract_ok (v := strV e.key) rfl, extract_ok (v := .pointer (some ⟨e.ro, 0, none⟩)) rfl]
    have hel := h.len64 e he
    have hd : Mod none_ w4 { w4 with drawn := w4.drawn + 1 } := (Mod.refl _ w4).drawn _
    refine coll_Coll_Copy_R2_held (D := []) (fun w' => Mod none_ w4 w') hd ?_
    generalize ({ w4 with drawn := w4.drawn + 1 } : World) = wd at *
    unfold coll_Coll_Copy_R2_H
    simp only [sq_n, sq_x, sq_r, bk_n, bk_r, bk_x, rt_r, rt_n, rs_0, rs_t, pk_1, pk_2, up_at, reduceIte, Nat.reduceEqDiff]
    refine HN_ptr (HV_of (v := .pointer (some ⟨e.ro, 0, none⟩)) (fun w' _ => by rw [run_fo (show fieldOff Tryd.prog tRo 0 = some 0 by kernel_rfl), add_pl]) (HV_of (v := grpV e.key e.rv) (fun w' hw => ld_g hr4 w' hw) ?_))
    refine HN_ptr (HV_of (v := .pointer (some ⟨e.ro, 2, none⟩)) (fun w' _ => by rw [run_fo (show fieldOff Tryd.prog tRo 1 = some 2 by kernel_rfl), add_pl]) (HV_of (v := e.pv) (fun w' hw => run_ld1 vPs rfl (by rw [cell_blk (hr4.calm hw).blk]; rfl)) ?_))
    obtain ⟨A, c, ep, _⟩ := reads_cap (reads_of_owns hr4.row)
    have hlen : ∀ {K : Value → Prop}, K (.int .i64 (e.g.length : Int)) → HK Tryd.prog (fun w' => Mod none_ w4 w') (builtin .len #[tPs] tI [false].toArray [e.pv].toArray) K := fun {K} hk => by
      rw [ep]
      exact HI_len vPs _ _ _ _ hk
    refine hlen ?_
    refine mk1_k vPs iPs (by omega) rfl (by omega) fun w5 hb5 hm5 hz5 => ?_
    have hm45 := hd.trans hm5
    obtain ⟨A', c', er, _⟩ := reads_cap (reads_of_owns hr4.rk)
    refine ⟨hm45, HV_of (v := .agg #[strV e.key, e.rv, .slice (some ⟨wd.heap.size, 0, none⟩) e.g.length e.g.length]) (fun w' _ => by rw [er]; exact run_build (P := Tryd.prog) w' _ _ _ (bRo _ _ _ _ _ _ _)) ?_⟩
    refine box_k (cs := #[strV e.key, e.rv, .slice (some ⟨wd.heap.size, 0, none⟩) e.g.length e.g.length]) rfl fun w6 hb6 hm6 hz6 => ?_
    have hm46 := hm45.trans hm6
    refine ⟨hm46, ?_⟩
    unfold coll_Coll_Copy_R2_H1
    try rw [sq_n]
    rw [coll_Coll_Copy_R3_eq]; unfold coll_Coll_Copy_R3_F
    simp only [sq_n, sq_x, sq_r, bk_n, bk_r, bk_x, rt_r, rt_n, rs_0, rs_t, pk_1, pk_2, up_at, reduceIte, Nat.reduceEqDiff]
    have hr6 := hr4.calm hm46
    simp only [↓VG_u, ↓UG_u, ↓MG_u, ↓NG_u, ↓PG_u, ↓BG_u, ↓CG_u, ↓IG_u, ↓VGtt, ↓VGtf, ↓VGft, ↓VGff, ↓UGtt, ↓UGtf, ↓UGft, ↓UGff, ↓MGtt, ↓MGtf, ↓MGft, ↓MGff, ↓NGtt, ↓NGtf, ↓NGft, ↓NGff, ↓PGtt, ↓PGtf, ↓PGft, ↓PGff, ↓BGtt, ↓BGtf, ↓BGft, ↓BGff, ↓CGtt, ↓CGtf, ↓CGft, ↓CGff, ↓IGtt, ↓IGtf, ↓IGft, ↓IGff, ↓PKt, ↓PKf, ↓CDt, ↓CDf, ↓NOTt, ↓NOTf, ↓NK_ptr, ↓(f_key hr6).e]
    rw [ep, len_sl vPs, ← ep]
    have sd := hd.size
    have s5 := hm45.size
    refine copy_L4 (ro := w5.heap.size) (pg := wd.heap.size) (x0 := nilS) hr6 (by omega) hL hb6 (hm6.blk hb5 id) (fun z => ?_) rfl rfl rfl rfl ?_
    · have : wd.heap.size < w4.heap.size := isT_lt (isT_own hr4.row z)
      omega
    intro ρ2 w7 F hs p24 hF hm7
    rw [bk_x, sq_n, coll_Coll_Copy_R5_eq]; unfold coll_Coll_Copy_R5_F
    have t3 : ρ2 3 = .pointer (some ⟨q, 0, none⟩) := (hs 3 (by decide)).trans q3
    have t4 : ρ2 4 = strV e.key := hs 4 (by decide)
    have t6 : ρ2 6 = .pointer (some ⟨w5.heap.size, 0, none⟩) := hs 6 (by decide)
    have hm47 : Mod none_ w4 w7 := hm46.then hm7 fun i hi z => by omega
    have hm07 := hm04.trans hm47
    have hq7 : w7.heap[q]? = some (.cells #[.bool loose, .map (some V1.mb)] tC (0, 0)) := hm47.blk (hm4.blk hq3 (by omega)) id
    have fq : FO Tryd.prog w7 tC 1 1 ⟨q, 0, none⟩ tMp (.map (some V1.mb)) := FO.blk hq7 (by kernel_rfl) uMp rfl rfl
    rw [t3, t4, t6]
    simp only [↓VG_u, ↓UG_u, ↓MG_u, ↓NG_u, ↓PG_u, ↓BG_u, ↓CG_u, ↓IG_u, ↓VGtt, ↓VGtf, ↓VGft, ↓VGff, ↓UGtt, ↓UGtf, ↓UGft, ↓UGff, ↓MGtt, ↓MGtf, ↓MGft, ↓MGff, ↓NGtt, ↓NGtf, ↓NGft, ↓NGff, ↓PGtt, ↓PGtf, ↓PGft, ↓PGff, ↓BGtt, ↓BGtf, ↓BGft, ↓BGff, ↓CGtt, ↓CGtf, ↓CGft, ↓CGff, ↓IGtt, ↓IGtf, ↓IGft, ↓IGff, ↓PKt, ↓PKf, ↓CDt, ↓CDf, ↓NOTt, ↓NOTf, ↓NK_ptr, ↓fq.e]
    have hS4 := hS3.mod hm4 (by omega) fun b hb z => by
      have z : b = w1.heap.size := z
      subst z; exact notC_iter hit3
    have hS7 := hS4.mod hm47 id fun b hb z => z.elim
    obtain ⟨w8, hrun, hmap8, hm8⟩ := run_put KT uMp hS7.map e.key (.pointer (some ⟨w5.heap.size, 0, none⟩))
    refine UK_of hrun ?_
    -- the new row
    have hhb : hb6 = hb6 := rfl
    have hro7 : w7.heap[w5.heap.size]? = some (.cells #[strV e.key, e.rv, .slice (some ⟨wd.heap.size, 0, none⟩) e.g.length e.g.length] tRo (0, 0)) := hm7.blk hb6 (by omega)
    have hu : RoAt w7 L ⟨e.key, us.length, w5.heap.size, e.rv, .slice (some ⟨wd.heap.size, 0, none⟩) e.g.length e.g.length, F, e.g⟩ := by
      refine ⟨hr4.grp, hro7, ?_, hF.len, ?_, fun i x v hx hv => owns_base (hF.pt i x v hx hv) (Nat.zero_le _), hF.ne⟩
      · exact owns_mod hr4.rk hm47 fun _ _ => id
      · have := hF.row
        rw [Nat.sub_self, List.replicate_zero, List.append_nil] at this
        exact this
    have s4 := hm4.size
    have s6 := hm6.size
    have fresh : ∀ b, (b = w5.heap.size ∨ sb (Value.slice (some ⟨wd.heap.size, 0, none⟩) e.g.length e.g.length) b ∨ ∃ v ∈ F, sb v b) → w4.heap.size ≤ b := fun b z => by
      rcases z with rfl | z | ⟨v, hv, z⟩
      · exact s5
      · unfold sb Value.ownBlock at z
        simp only [Option.some.injEq] at z
        omega
      · obtain ⟨i, hi⟩ := List.getElem?_of_mem hv
        have hil : i < e.g.length := by have := (List.getElem?_eq_some_iff.1 hi).1; rw [hF.len] at this; exact this
        have := (owns_bd (hF.pt i _ v (List.getElem?_eq_getElem hil) hi) b z).1
        omega
    have hs03 := hm03.size
    have hS8 := hS7.snoc (e := e) (u := ⟨e.key, us.length, w5.heap.size, e.rv, .slice (some ⟨wd.heap.size, 0, none⟩) e.g.length e.g.length, F, e.g⟩) hkn hu rfl rfl (fun b z => by have := fresh b z; omega) (fun a ha b z y => by
      have h1 := fresh b z
      have : b < w4.heap.size := by
        rcases (hS4.ro a ha).blks y with q | q | q <;> exact isT_lt q
      omega) hm8 hmap8
    have hm08 : Mod none_ w0 w8 := hm07.then hm8 fun i hi z => by
      have z : i = V1.mb := z
      omega
    have hmapb : (ve ++ [e]).map (·.b) = ve.map (·.b) ++ [e.b] := by simp
    have hit8 : IterAt w8 w1.heap.size V.mb V.clk ((ve ++ [e]).map (·.b)) V.clk := by
      rw [hmapb]
      exact (hit4.mod hm47 id).mod hm8 (by show ¬ w1.heap.size = V1.mb; omega)
    try rw [bk_n]
    refine ⟨togo (V.es.map Re.ent) ((ve ++ [e]).map (·.b)), by rw [hmv, hmapb]; exact togo_lt (e := e.ent) hen hne4, ve ++ [e], us ++ [_], rfl, fun x hx => ?_, ?_, ?_, ?_, hit8, hS8, hm8.blk hq7 hmq, hm08⟩
    · rcases List.mem_append.1 hx with z | z
      · exact hve x z
      · rw [List.mem_singleton.1 z]; exact he
    · rw [List.pairwise_append]
      exact ⟨hvd, by simp, fun a ha b hb => by rw [List.mem_singleton.1 hb]; exact hkn a ha⟩
    · exact p24.trans q24
    · exact t3
end
end Go.Proofs.YtandbmnhghmcgaaDoor.Col
set_option linter.unusedVariables false
set_option linter.unusedSimpArgs false
set_option maxRecDepth 8000
namespace Go.X
open Go Go.RowKit
def Ak.enc (a : Ak) : List Value := [.int .i64 a.color, .int .i64 a.key, .int .i64 a.rank]
theorem Ak.enc_len (m : Ak) : m.enc.length = 3 := rfl
theorem Ak.enc_one (m : Ak) : m.enc.toArray.all (·.oneCell') = true := by simp [Ak.enc, Value.oneCell']
theorem Ak.enc_mem (l : List Ak) : ∀ u ∈ l.flatMap Ak.enc, u.oneCell' = true := by
  intro u hu
  obtain ⟨m, _, hm⟩ := List.mem_flatMap.1 hu
  have := Ak.enc_one m
  rw [List.all_toArray, List.all_eq_true] at this
  exact this u hm
end Go.X
namespace Go.Proofs.YtandbmnhghmcgaaDoor.Col
open Go Go.X Go.RowKit Go.Proofs.YtandbmnhghmcgaaDoor.XF Go.Proofs.YtandbmnhghmcgaaDoor.XK
abbrev tAk : TypeId := 161
theorem iAk : (Tryd.prog.info? tAk).map (·.size) = some 3 := by kernel_rfl
end Go.Proofs.YtandbmnhghmcgaaDoor.Col
set_option linter.unusedVariables false
set_option linter.unusedSimpArgs false
set_option maxRecDepth 4000
namespace Go.X
open Go Go.RowKit
theorem fl_put {α : Type} {enc : α → List Value} {k : Nat} (hk : ∀ a, (enc a).length = k) : ∀ {xs : List α} {i : Nat} {r : α}, i < xs.length → (xs.flatMap enc).take (i * k) ++ enc r ++ (xs.flatMap enc).drop (i * k + k) = (xs.set i r).flatMap enc
  | [], i, r, h => by simp at h
  | x :: xs, 0, r, h => by
    simp only [List.flatMap_cons, Nat.zero_mul, List.take_zero, List.nil_append, Nat.zero_add, List.set_cons_zero]
    rw [List.drop_append_of_le_length (by rw [hk]; exact Nat.le_refl _), List.drop_of_length_le (by rw [hk]; exact Nat.le_refl _), List.nil_append]
  | x :: xs, i + 1, r, h => by
    have ih := fl_put hk (xs := xs) (i := i) (r := r) (by simpa using h)
    have e1 : (i + 1) * k = (enc x).length + i * k := by rw [hk, Nat.succ_mul]; omega
    have e2 : (i + 1) * k + k = (enc x).length + (i * k + k) := by omega
    simp only [List.flatMap_cons, List.set_cons_succ]
    rw [e2, e1, List.take_length_add_append, List.drop_length_add_append, ← ih]
    simp
def dv (g cap n : Nat) : Value := .slice (some ⟨g, 0, none⟩) n cap
end Go.X
namespace Go.Proofs.YtandbmnhghmcgaaDoor.Col
open Go Go.X Go.RowKit Go.Proofs.YtandbmnhghmcgaaDoor.XF Go.Proofs.YtandbmnhghmcgaaDoor.XK
def Dat (w : World) (g cap : Nat) (l : List Ak) : Prop := w.ownsRow 0 tAk 3 (dv g cap l.length) l.length (l.flatMap Ak.enc)
theorem stO {P : Program} {w : World} {K : Value → World → Prop} {t ty : TypeId} {b o : Nat} {old : Array Value} {cs : List Value} (hi : (P.info? t).map (·.size) = some cs.length) (hfit : o + cs.length ≤ old.size) (h1 : ∀ v ∈ cs, v.oneCell' = true) (hb : w.heap[b]? = some (.cells old ty (0, 0)))
    (hk : ∀ w', w'.heap[b]? = some (.cells (old.toList.take o ++ cs ++ old.toList.drop (o + cs.length)).toArray ty (0, 0)) → Mod (fun k => k = b) w w' → w'.heap.size = w.heap.size → K undef w') : UK P (Instr.storeAt t (.pointer (some ⟨b, o, none⟩)) (.agg cs.toArray)) w K := by
  have hst := run_storeCells_at P b o ty cs 0 old w hb (by simpa using hfit) h1
  have hrun : (Instr.storeAt t (.pointer (some ⟨b, o, none⟩)) (.agg cs.toArray)).run P w = .ok () (w.setRow b (old.toList.take o ++ cs ++ old.toList.drop (o + cs.length)).toArray) := by
    cases hq : P.info? t with
    | none => rw [hq] at hi; cases hi
    | some i =>
      rw [hq] at hi
      have hs : i.size = cs.length := by injection hi
      simp only [Nat.add_zero] at hst
      simp [Instr.storeAt, Instr.sureAddr, storeVar, sizeOf, typeInfo, hq, hs, Value.cells, hst]
  refine UK_of hrun (hk _ (setRow_heap w b old _ ty _ hb) ⟨rfl, rfl, rfl, Nat.le_of_eq (size_setRow w b _).symm, fun k _ hkb => setRow_other w b k _ hkb⟩ (size_setRow w b _))
section
variable {w : World} {g cap : Nat} {l : List Ak}
theorem Dat.mod {S : Nat → Prop} {w' : World} (h : Dat w g cap l) (hm : Mod S w w') (hS : ¬ S g) : Dat w' g cap l := owns_mod h hm fun k z y => by
  have : k = g := by unfold dv at z; exact (Option.some.inj z).symm
  subst this; exact hS y
theorem Dat.calm {w' : World} (h : Dat w g cap l) (hm : Mod none_ w w') : Dat w' g cap l := h.mod hm id
theorem Dat.lt (h : Dat w g cap l) : g < w.heap.size := by
  obtain ⟨c, hc⟩ := owns_blk h (g := g) rfl
  exact X.blk_lt hc
theorem Dat.st {i : Nat} {m : Ak} {K : Value → World → Prop} (h : Dat w g cap l) (hi : i < l.length) (hK : ∀ w', Dat w' g cap (l.set i m) → Mod (fun b => b = g) w w' → w'.heap.size = w.heap.size → K undef w') : UK Tryd.prog (Instr.storeAt tAk (.pointer (some ⟨g, i * 3, none⟩)) (.agg m.enc.toArray)) w K := by
  have h' := h
  obtain ⟨hl, ⟨q, _⟩ | ⟨g', cap', cur, q, hb, hg, hn, hm, hs, ht⟩⟩ := h
  · cases q
  · cases q
    have hfit : i * 3 + m.enc.length ≤ cur.size := by
      rw [hs, Ak.enc_len]
      have : (i + 1) * 3 ≤ cap * 3 := Nat.mul_le_mul_right _ (by omega)
      omega
    refine stO (cs := m.enc) (by rw [iAk]; rfl) hfit (fun v hv => Ak.enc_mem [m] v (by simpa using hv)) hg fun w' hb' hm' hz' => ?_
    refine hK w' ⟨by rw [fl_len (k := 3) Ak.enc_len], .inr ⟨g, cap, _, by rw [List.length_set]; rfl, hb, hb', by rw [List.length_set]; exact hn, hm, ?_, ?_⟩⟩ hm' hz'
    · have hc : cur.toList.length = cur.size := Array.length_toList
      rw [Ak.enc_len] at hfit
      rw [List.size_toArray, List.length_append, List.length_append, List.length_take, List.length_drop, Ak.enc_len, hc]
      omega
    · rw [List.length_set, ← fl_put (k := 3) Ak.enc_len hi, ← ht]
      have e8 : m.enc.length = 3 := rfl
      have hlc : l.length * 3 ≤ cur.toList.length := by
        have hc : cur.toList.length = cur.size := Array.length_toList
        rw [hc, hs]
        exact Nat.mul_le_mul_right _ hn
      have hi8 : i * 3 + 3 ≤ l.length * 3 := by omega
      rw [List.toList_toArray, e8, List.take_take, Nat.min_eq_left (by omega), List.append_assoc, List.append_assoc]
      rw [List.take_append, List.length_take, Nat.min_eq_left (by omega), List.take_of_length_le (l := List.take (i * 3) cur.toList) (by rw [List.length_take]; omega)]
      congr 1
      rw [List.take_append, e8, List.take_of_length_le (l := m.enc) (by rw [e8]; omega)]
      congr 1
      rw [List.drop_take]
      congr 1
end
end Go.Proofs.YtandbmnhghmcgaaDoor.Col
set_option linter.unusedVariables false
set_option linter.unusedSimpArgs false
set_option maxRecDepth 4000
namespace Go.Proofs.YtandbmnhghmcgaaDoor.Col
open Go Go.X Go.RowKit Go.Proofs.YtandbmnhghmcgaaDoor.XF Go.Proofs.YtandbmnhghmcgaaDoor.XK
section
variable {w : World} {g cap : Nat} {K : Exit → Sl → World → Prop} {ρ : Sl}
end
end Go.Proofs.YtandbmnhghmcgaaDoor.Col
set_option linter.unusedVariables false
set_option linter.unusedSimpArgs false
set_option maxRecDepth 4000
namespace Go.Proofs.YtandbmnhghmcgaaDoor.Col
open Go Go.X Go.RowKit Go.Proofs.YtandbmnhghmcgaaDoor.XF Go.Proofs.YtandbmnhghmcgaaDoor.XK
section
variable {w : World} {g cap : Nat} {K : Exit → Sl → World → Prop} {ρ : Sl}
end
end Go.Proofs.YtandbmnhghmcgaaDoor.Col
set_option linter.unusedVariables false
set_option linter.unusedSimpArgs false
set_option maxRecDepth 4000
namespace Go.X
end Go.X
namespace Go.Proofs.YtandbmnhghmcgaaDoor.Col
open Go Go.X Go.RowKit Go.Proofs.YtandbmnhghmcgaaDoor.XF Go.Proofs.YtandbmnhghmcgaaDoor.XK
section
variable {w : World} {g cap : Nat} {K : Exit → Sl → World → Prop} {ρ : Sl}
end
end Go.Proofs.YtandbmnhghmcgaaDoor.Col
set_option linter.unusedVariables false
set_option linter.unusedSimpArgs false
set_option maxRecDepth 4000
namespace Go.X
end Go.X
namespace Go.Proofs.YtandbmnhghmcgaaDoor.Col
open Go Go.X Go.RowKit Go.Proofs.YtandbmnhghmcgaaDoor.XF Go.Proofs.YtandbmnhghmcgaaDoor.XK
theorem conv_k {w : World} {K : Value → World → Prop} {src dst : TypeId} {q k : IntKind} {n : Int} (hs : (Tryd.prog.underlying src).isSome = true) (hd : Tryd.prog.underlying dst = some (.int k)) : VK Tryd.prog (convert src dst (.int q n)) w K = K (.int k (k.wrap n)) w := by
  have ek : Tryd.prog.intKind dst = k := by simp [Program.intKind, hd]
  have := run_convert_int (P := Tryd.prog) w src dst q n hs (by rw [ek]; exact hd)
  rw [ek] at this
  exact VK_eq_of this
structure SG (ρ ρ' : Sl) : Prop where
  e0 : ρ' 0 = ρ 0
  e1 : ρ' 1 = ρ 1
  e2 : ρ' 2 = ρ 2
  e3 : ρ' 3 = ρ 3
  e4 : ρ' 4 = ρ 4
theorem SG.trans {a b c : Sl} (h : SG a b) (k : SG b c) : SG a c := ⟨k.e0.trans h.e0, k.e1.trans h.e1, k.e2.trans h.e2, k.e3.trans h.e3, k.e4.trans h.e4⟩
section
variable {w : World} {g cap n : Nat} {K : Exit → Sl → World → Prop} {ρ : Sl} {P X Y R : List Ak} {x y : Ak}
end
end Go.Proofs.YtandbmnhghmcgaaDoor.Col
set_option linter.unusedVariables false
set_option linter.unusedSimpArgs false
set_option maxRecDepth 4000
namespace Go.Proofs.YtandbmnhghmcgaaDoor.Col
open Go Go.X Go.RowKit Go.Proofs.YtandbmnhghmcgaaDoor.XF Go.Proofs.YtandbmnhghmcgaaDoor.XK
section
variable {w : World} {g cap n : Nat} {K : Exit → Sl → World → Prop} {ρ : Sl} {P X Y R : List Ak} {x y : Ak}
end
end Go.Proofs.YtandbmnhghmcgaaDoor.Col
set_option linter.unusedVariables false
set_option linter.unusedSimpArgs false
set_option maxRecDepth 4000
namespace Go.Proofs.YtandbmnhghmcgaaDoor.Col
open Go Go.X Go.RowKit Go.Proofs.YtandbmnhghmcgaaDoor.XF Go.Proofs.YtandbmnhghmcgaaDoor.XK
section
variable {w : World} {g cap n N : Nat} {K : Exit → Sl → World → Prop} {ρ : Sl} {P X Y R : List Ak}
end
end Go.Proofs.YtandbmnhghmcgaaDoor.Col
set_option linter.unusedVariables false
set_option linter.unusedSimpArgs false
set_option maxRecDepth 4000
namespace Go.Proofs.YtandbmnhghmcgaaDoor.Col
open Go Go.X Go.RowKit Go.Proofs.YtandbmnhghmcgaaDoor.XF Go.Proofs.YtandbmnhghmcgaaDoor.XK
section
variable {w : World} {g cap n N : Nat} {ρ : Sl} {P X Y R : List Ak}
end
end Go.Proofs.YtandbmnhghmcgaaDoor.Col
set_option linter.unusedVariables false
set_option linter.unusedSimpArgs false
set_option maxRecDepth 4000
namespace Go.Proofs.YtandbmnhghmcgaaDoor.Col
open Go Go.X Go.RowKit Go.Proofs.YtandbmnhghmcgaaDoor.XF Go.Proofs.YtandbmnhghmcgaaDoor.XK
def Fq (l l' : List Ak) : Prop := ∀ x, l'.filter (eqv ltA x) = l.filter (eqv ltA x)
theorem Fq.len {l l' : List Ak} (h : Fq l l') : l'.length = l.length := Stab.len ltA_wo h
section
variable {w : World} {g cap n : Nat} {l : List Ak}
structure Bl (bs : Nat) (Bs : List (List Ak)) (C : List Ak) : Prop where
  so : ∀ B ∈ Bs, SortedL ltA B ∧ B.length = bs
  last : SortedL ltA C
theorem Bl.len {bs : Nat} {Bs : List (List Ak)} (h : ∀ B ∈ Bs, SortedL ltA B ∧ B.length = bs) : Bs.flatten.length = Bs.length * bs := by
  induction Bs with
  | nil => simp
  | cons B Bs ih =>
    rw [List.flatten_cons, List.length_append, ih fun x hx => h x (List.mem_cons_of_mem _ hx), (h B List.mem_cons_self).2, List.length_cons, Nat.succ_mul]
    omega
end
end Go.Proofs.YtandbmnhghmcgaaDoor.Col
set_option linter.unusedVariables false
set_option linter.unusedSimpArgs false
set_option maxRecDepth 8000
namespace Go.X
open Go Go.RowKit
theorem HaddS {P : Program} {S : World → Prop} {K : Value → Prop} {t : TypeId} {x y : Operand} {a b : List UInt8} (ha : a.length ≤ 4000000) (hb : b.length ≤ 4000000) (hk : K (strV (a ++ b))) : HK P S (do pure (Next.value (← (do eqGuard .add t x y (strV a) (strV b); binOp .add t (strV a) (strV b))))) K :=
  HB_of (fun _ => rfl) (fun w => by unfold strV; rw [binOp_string_add]; exact run_string_add_lists w a b (by omega) (by omega)) hk
theorem rtCT {P : Program} {w : World} {t ty : TypeId} {d : TypeDesc} {b i j : Nat} {cs : Array Value} {R : Value → World → Prop} {ρ : Sl} (hx : ρ i = .pointer (some ⟨b, 0, none⟩)) (hu : P.underlying t = some d) (hd : (match d with | .struct _ | .array _ _ => true | _ => false) = true) (hi : (P.info? t).map (·.size) = some cs.size) (hb : w.heap[b]? = some (.cells cs ty (0, 0))) (hk : R (.tuple #[.agg cs, ρ j]) w) :
    retK P [ResultVar.cell i t, ResultVar.tmp j] R .ret ρ w := by
  refine rsCell hx hu hd hi hb ?_
  exact hk
end Go.X
namespace Go.Proofs.YtandbmnhghmcgaaDoor.Col
open Go Go.X Go.RowKit Go.Proofs.YtandbmnhghmcgaaDoor.XF Go.Proofs.YtandbmnhghmcgaaDoor.XK
section
variable {w : World}
theorem childK_eq (key : Ky) (k : Int) : childK key k = key ++ [46] ++ Lib.itoa k := by unfold childK; simp
theorem zG : (Tryd.prog.info? tG).bind (·.zero) = some (.agg #[strV [], nilS]) := by kernel_rfl
theorem iG : (Tryd.prog.info? tG).map (·.size) = some 2 := by kernel_rfl
theorem grp_one (key : Ky) (A : Option Addr) (n c : Nat) : (#[strV key, .slice A n c] : Array Value).all (·.oneCell') = true := by simp [Value.oneCell', strV]
end
end Go.Proofs.YtandbmnhghmcgaaDoor.Col
set_option linter.unusedVariables false
set_option linter.unusedSimpArgs false
set_option maxRecDepth 8000
namespace Go.X
open Go Go.RowKit
end Go.X
namespace Go.Proofs.YtandbmnhghmcgaaDoor.Col
open Go Go.X Go.RowKit Go.Proofs.YtandbmnhghmcgaaDoor.XF Go.Proofs.YtandbmnhghmcgaaDoor.XK
section
variable {w : World}
end
end Go.Proofs.YtandbmnhghmcgaaDoor.Col
set_option linter.unusedVariables false
set_option linter.unusedSimpArgs false
set_option maxRecDepth 8000
namespace Go.X
open Go Go.RowKit
abbrev GrE := (Int × List Int) × Value
def encG (key : Ky) (k : Int) (x : GrE) : List Value := [strV (subK key k x.1.1), x.2]
theorem zip_snoc {α β : Type} {l : List α} {r : List β} (h : l.length = r.length) (a : α) (b : β) : (l ++ [a]).zip (r ++ [b]) = l.zip r ++ [(a, b)] := by
  rw [List.zip_append h]; rfl
theorem snoc_get {α : Type} {l : List α} {x : α} : (l ++ [x])[l.length]? = some x := by simp
end Go.X
namespace Go.Proofs.YtandbmnhghmcgaaDoor.Col
open Go Go.X Go.RowKit Go.Proofs.YtandbmnhghmcgaaDoor.XF Go.Proofs.YtandbmnhghmcgaaDoor.XK
abbrev tGs : TypeId := 122
theorem eGs : elemOk Tryd.prog tGs tG 2 40 = true := by kernel_rfl
structure GrpsAt (w : World) (B : Nat) (v : Value) (key : Ky) (k : Int) (l : List (Int × List Int)) (rvs : List Value) : Prop where
  len : rvs.length = l.length
  row : w.ownsRow B tG 2 v l.length ((l.zip rvs).flatMap (encG key k))
  own : ∀ (i : Nat) x u, l[i]? = some x → rvs[i]? = some u → w.ownsRow B tI 1 u x.2.length (ints x.2)
  ne : ∀ (i j : Nat) u t, rvs[i]? = some u → rvs[j]? = some t → i ≠ j → ∀ b, sb u b → ¬ sb t b
section
variable {w : World} {B : Nat} {v : Value} {key : Ky} {k : Int} {l : List (Int × List Int)} {rvs : List Value}
theorem GrpsAt.nil (w : World) (B : Nat) (key : Ky) (k : Int) : GrpsAt w B nilS key k [] [] := ⟨rfl, World.ownsRow_nil _ _ _ _, fun i x u h => by simp at h, fun i j u t h => by simp at h⟩
theorem GrpsAt.calm {w' : World} (h : GrpsAt w B v key k l rvs) (hm : Mod none_ w w') : GrpsAt w' B v key k l rvs := ⟨h.len, owns_mod h.row hm fun _ _ => id, fun i x u hx hu => owns_mod (h.own i x u hx hu) hm fun _ _ => id, h.ne⟩
theorem GrpsAt.typ (h : GrpsAt w B v key k l rvs) {i : Nat} {u : Value} (hu : rvs[i]? = some u) {b : Nat} (hb : sb u b) : isT tI w b := by
  have hi := (List.getElem?_eq_some_iff.1 hu).1
  rw [h.len] at hi
  exact isT_own (h.own i _ u (List.getElem?_eq_getElem hi) hu) hb
theorem GrpsAt.more {x : Value} {c : Int} {K : Value → World → Prop} (h : GrpsAt w B v key k l rvs) (hB : B ≤ w.heap.size) (hl : l.length ≤ 1000000) (hx : reads w 2 x 1 [strV (subK key k c), nilS])
    (hk : ∀ v' w', GrpsAt w' B v' key k (l ++ [(c, [])]) (rvs ++ [nilS]) → Mod (fun b => B ≤ b ∧ (isT tG w b ∨ w.heap.size ≤ b)) w w' → K v' w') : IK Tryd.prog .append #[tGs, tGs] tGs [false, false] [v, x] w K := by
  refine ap_any eGs h.row hx (fun u hu => ?_) (by unfold maxLen; omega) (by omega) hB fun v' w' ho hm hv => ?_
  · simp only [List.mem_cons, List.not_mem_nil, or_false] at hu
    rcases hu with rfl | rfl
    · rfl
    · rfl
  · have hne : ∀ {u : Value} {i : Nat}, rvs[i]? = some u → ∀ b, sb u b → ¬ some b = v.ownBlock := fun hu b hb z => isT_ne (h.typ hu hb) (isT_own h.row z.symm) (by decide)
    refine hk v' w' ⟨by simp [h.len], ?_, fun i y u hy hu => ?_, fun i j u t hu ht hij b zu zt => ?_⟩ (hm.mono fun b _ z => ⟨(owns_bd h.row b z.symm).1, .inl (isT_own h.row z.symm)⟩)
    · rw [zip_snoc h.len.symm, List.flatMap_append, List.length_append]
      simpa [encG] using ho
    · rcases app_get hy with y1 | ⟨y1, rfl⟩
      · rw [List.getElem?_append_left (by rw [h.len]; exact (List.getElem?_eq_some_iff.1 y1).1)] at hu
        exact owns_mod (h.own i y u y1 hu) hm (hne hu)
      · have : u = nilS := by
          rw [y1, ← h.len] at hu
          rw [snoc_get] at hu
          exact (Option.some.inj hu).symm
        rw [this]
        exact World.ownsRow_nil _ _ _ _
    · rcases app_get hu with z | ⟨z, rfl⟩ <;> rcases app_get ht with y | ⟨y, rfl⟩
      · exact h.ne i j u t z y hij b zu zt
      · cases zt
      · cases zu
      · omega
end
end Go.Proofs.YtandbmnhghmcgaaDoor.Col
set_option linter.unusedVariables false
set_option linter.unusedSimpArgs false
set_option maxRecDepth 8000
namespace Go.Proofs.YtandbmnhghmcgaaDoor.Col
open Go Go.X Go.RowKit Go.Proofs.YtandbmnhghmcgaaDoor.XF Go.Proofs.YtandbmnhghmcgaaDoor.XK
section
variable {w : World} {B : Nat} {v : Value} {key : Ky} {k : Int}
end
end Go.Proofs.YtandbmnhghmcgaaDoor.Col
set_option linter.unusedVariables false
set_option linter.unusedSimpArgs false
set_option maxRecDepth 8000
namespace Go.X
open Go Go.RowKit
end Go.X
namespace Go.Proofs.YtandbmnhghmcgaaDoor.Col
open Go Go.X Go.RowKit Go.Proofs.YtandbmnhghmcgaaDoor.XF Go.Proofs.YtandbmnhghmcgaaDoor.XK
section
variable {w : World} {key : Ky} {k : Int}
structure SpG (vs : Value) (k : Int) (b3 n m : Nat) (ρ : Sl) : Prop where
  h55 : ρ 55 = .int .i64 n
  h54 : ρ 54 = .int .i64 m
  h53 : ρ 53 = vs
  h8 : ρ 8 = vs
  h1 : ρ 1 = .int .i64 k
  h3 : ρ 3 = .pointer (some ⟨b3, 0, none⟩)
theorem SpG.of {vs : Value} {b3 n m : Nat} {ρ ρ' : Sl} (h : SpG vs k b3 n m ρ) (hs : ∀ i, i < 60 → i ≠ 11 → i ≠ 12 → i ≠ 13 → i ≠ 14 → i ≠ 56 → i ≠ 57 → i ≠ 58 → i ≠ 59 → ρ' i = ρ i) : SpG vs k b3 n m ρ' :=
  ⟨(hs 55 (by decide) (by decide) (by decide) (by decide) (by decide) (by decide) (by decide) (by decide) (by decide)).trans h.h55, (hs 54 (by decide) (by decide) (by decide) (by decide) (by decide) (by decide) (by decide) (by decide) (by decide)).trans h.h54, (hs 53 (by decide) (by decide) (by decide) (by decide) (by decide) (by decide) (by decide) (by decide) (by decide)).trans h.h53, (hs 8 (by decide) (by decide) (by decide) (by decide) (by decide) (by decide) (by decide) (by decide) (by decide)).trans h.h8, (hs 1 (by decide) (by decide) (by decide) (by decide) (by decide) (by decide) (by decide) (by decide) (by decide)).trans h.h1, (hs 3 (by decide) (by decide) (by decide) (by decide) (by decide) (by decide) (by decide) (by decide) (by decide)).trans h.h3⟩
end
end Go.Proofs.YtandbmnhghmcgaaDoor.Col
set_option linter.unusedVariables false
set_option linter.unusedSimpArgs false
set_option maxRecDepth 8000
namespace Go.Proofs.YtandbmnhghmcgaaDoor.Col
open Go Go.X Go.RowKit Go.Proofs.YtandbmnhghmcgaaDoor.XF Go.Proofs.YtandbmnhghmcgaaDoor.XK
section
variable {w : World} {key : Ky} {k : Int}
theorem GrpsAt.base {B B' : Nat} {v : Value} {l : List (Int × List Int)} {rvs : List Value} (h : GrpsAt w B v key k l rvs) (hB : B' ≤ B) : GrpsAt w B' v key k l rvs :=
  ⟨h.len, owns_base h.row hB, fun i x u hx hu => owns_base (h.own i x u hx hu) hB, h.ne⟩
end
end Go.Proofs.YtandbmnhghmcgaaDoor.Col
set_option linter.unusedVariables false
set_option linter.unusedSimpArgs false
set_option maxRecDepth 8000
namespace Go.X
open Go Go.RowKit
theorem cut_lo {P : Program} {w : World} {K : Value → World → Prop} {t e : TypeId} {sz : Nat} (hu : P.underlying t = some (.slice e)) (hc : P.cellsOf e = sz + 1) {v : Value} {n i : Nat} {xs : List Value} (h : reads w (sz + 1) v n xs) (hij : i ≤ n)
    (hk : ∀ v', reads w (sz + 1) v' (n - i) (xs.drop (i * (sz + 1))) → K v' w) : VK P (Instr.sliceAt t v (some (.int .i64 (i : Int))) none none) w K := by
  obtain ⟨hl, A, c, rfl, hnc, hr⟩ := h
  obtain ⟨z, hz, hzs⟩ := info_of hc
  have he : P.elem t = e := by simp [Program.elem, hu]
  have hrun : (Instr.sliceAt t (.slice A n c) (some (.int .i64 (i : Int))) none none).run P w = .ok (sliced A i n c (sz + 1)) w := by
    rw [run_sliceAt_slice (h := elem_of hu), run_slice_l w t A n c (elem_of hu) .i64 _ (by omega) (by omega), he]
    simp [sizeOf, typeInfo, hz, hzs]
  refine VK_of hrun (hk _ ⟨?_, ?_⟩)
  · rw [List.length_drop, hl, ← Nat.sub_mul]
  · refine ⟨_, _, rfl, by omega, fun k u hku => ?_⟩
    rw [List.getElem?_drop] at hku
    have hlt : i * (sz + 1) + k < n * (sz + 1) := by
      have := (List.getElem?_eq_some_iff.1 hku).1
      omega
    obtain ⟨a, rfl, hcell⟩ := hr _ u hku
    by_cases hci : c = i
    · have : i < n := Nat.lt_of_mul_lt_mul_right (a := sz + 1) (by omega)
      omega
    · refine ⟨a.add (i * (sz + 1)), by simp [sliced, hci], ?_⟩
      rw [add_add]
      exact hcell
structure Aq where
  ro : Nat
  n : Int
  k : Int
  own : Pt
  rank : Int
def Aq.enc (a : Aq) : List Value := [.pointer (some ⟨a.ro, 0, none⟩), .int .i64 a.n, .int .i64 a.k] ++ a.own.enc ++ [.int .i64 a.rank]
def Aq.v (a : Aq) : Value := .agg a.enc.toArray
end Go.X
namespace Go.Proofs.YtandbmnhghmcgaaDoor.Col
open Go Go.X Go.RowKit Go.Proofs.YtandbmnhghmcgaaDoor.XF Go.Proofs.YtandbmnhghmcgaaDoor.XK
abbrev tL : TypeId := 2
section
variable {w : World} {L : List Br} {e : Re} {a : Aq} {b : Nat}
end
end Go.Proofs.YtandbmnhghmcgaaDoor.Col
set_option linter.unusedVariables false
set_option linter.unusedSimpArgs false
set_option maxRecDepth 8000
namespace Go.X
open Go Go.RowKit
def tdCells (t : Td) (row rks : Value) : Array Value := #[.int .i64 t.val, row, strV t.gkey, rks, .bool t.has]
end Go.X
namespace Go.Proofs.YtandbmnhghmcgaaDoor.Col
open Go Go.X Go.RowKit Go.Proofs.YtandbmnhghmcgaaDoor.XF Go.Proofs.YtandbmnhghmcgaaDoor.XK
abbrev tTd : TypeId := 57
theorem td_one (t : Td) (A A2 : Option Addr) (n c n2 c2 : Nat) : (tdCells t (.slice A n c) (.slice A2 n2 c2)).all (·.oneCell') = true := by simp [tdCells, Value.oneCell', strV]
def TdAt (w : World) (B : Nat) (v : Value) (t : Td) : Prop := ∃ row rks, v = .agg (tdCells t row rks) ∧ w.ownsRow B tL 1 row t.row.length (ints t.row) ∧ w.ownsRow B tI 1 rks t.ranks.length (ints t.ranks)
theorem TdAt.mod {S : Nat → Prop} {w w' : World} {B : Nat} {v : Value} {t : Td} (h : TdAt w B v t) (hm : Mod S w w') (h1 : ∀ b, isT tL w b → ¬ S b) (h2 : ∀ b, isT tI w b → ¬ S b) : TdAt w' B v t := by
  obtain ⟨row, rks, e, a1, a2⟩ := h
  exact ⟨row, rks, e, owns_mod a1 hm fun k hk => h1 k (isT_own a1 hk), owns_mod a2 hm fun k hk => h2 k (isT_own a2 hk)⟩
theorem TdAt.calm {w w' : World} {B : Nat} {v : Value} {t : Td} (h : TdAt w B v t) (hm : Mod none_ w w') : TdAt w' B v t := h.mod hm (fun _ _ => id) fun _ _ => id
theorem TdAt.base {w : World} {B B' : Nat} {v : Value} {t : Td} (h : TdAt w B v t) (hB : B' ≤ B) : TdAt w B' v t := by
  obtain ⟨row, rks, e, a1, a2⟩ := h
  exact ⟨row, rks, e, owns_base a1 hB, owns_base a2 hB⟩
theorem TdAt.z (w : World) (B : Nat) : TdAt w B (.agg (tdCells zTd nilS nilS)) zTd := ⟨nilS, nilS, rfl, World.ownsRow_nil _ _ _ _, World.ownsRow_nil _ _ _ _⟩
section
variable {w : World} {L : List Br} {e : Re} {a : Aq} {b : Nat}
end
end Go.Proofs.YtandbmnhghmcgaaDoor.Col
set_option linter.unusedVariables false
set_option linter.unusedSimpArgs false
set_option maxRecDepth 8000
namespace Go.Proofs.YtandbmnhghmcgaaDoor.Col
open Go Go.X Go.RowKit Go.Proofs.YtandbmnhghmcgaaDoor.XF Go.Proofs.YtandbmnhghmcgaaDoor.XK
end Go.Proofs.YtandbmnhghmcgaaDoor.Col
set_option linter.unusedVariables false
set_option linter.unusedSimpArgs false
set_option maxRecDepth 8000
namespace Go.Proofs.YtandbmnhghmcgaaDoor.Col
open Go Go.X Go.RowKit Go.Proofs.YtandbmnhghmcgaaDoor.XF Go.Proofs.YtandbmnhghmcgaaDoor.XK
section
variable {w : World} {L : List Br} {e : Re} {a : Aq} {b : Nat}
end
end Go.Proofs.YtandbmnhghmcgaaDoor.Col
set_option linter.unusedVariables false
set_option linter.unusedSimpArgs false
set_option maxRecDepth 8000
namespace Go.X
open Go Go.RowKit
end Go.X
namespace Go.Proofs.YtandbmnhghmcgaaDoor.Col
open Go Go.X Go.RowKit Go.Proofs.YtandbmnhghmcgaaDoor.XF Go.Proofs.YtandbmnhghmcgaaDoor.XK
section
variable {w : World} {p : Nat} {loose : Bool} {L : List Br} {V : CV} {e : Re}
end
end Go.Proofs.YtandbmnhghmcgaaDoor.Col
