/- The framework X, part 4 (b): a law's row out of a contract of its Go function: rows that list package-level variables ('laid'), rows with a condition (the second form). -/
import Derived.Test.YtbnbcimjapiicaaDoorXLaw
import Derived.Test.YtbnbcimjapiicaaDoorXSh
import Derived.ChangeArms
import Derived.Deep.DeepHandedRow
import Derived.Handy
import Derived.Lay
import Derived.LaidMore
import Derived.Stop.Joined
set_option linter.unusedVariables false
namespace Go.X
open Go Go.ChangeShapes Go.WideShapes Go.ChangeAt Go.RowKit

theorem law_row {H : Type} {enc : TypeId × Value → H} {C : Checked} {os : Os} {f : FuncId} {fn : Func} {s : ChangeSpec} {cond : Option ((H : Type) → List (DataW H) → Bool)} {tb : TypeId} {laid : List (String × DataW Unit)} {dom : List PathCond} {F : Stop.Interp}
    (own : ownKnob C.prog.godebug = none) (started : os.Started) (noInit : C.prog.inits.idxOf? f = none) (hfn : C.prog.funcs[f]? = some fn) (hvars : s.vars = []) (hlaid : laidOutB C.prog = true)
    (hr : (fn.params.toList.all fun t => C.prog.readableRec t && decide (t < C.prog.types.size)) = true) (hres : fn.resultTypes = #[tb]) (hb : C.prog.underlying tb = some .bool)
    (hspec : ∀ ds : List (DataW H), ds.length = fn.params.toList.length → s.fn H ds = { results := [.lit (.bool true)], args := ds })
    (witness : ∃ (w : World) (tape : Tape) (i : Input), w.os = os ∧ (w.forCall tape i).Shaped C.prog ∧ i.vars = [] ∧ Input.okWide C.prog (w.forCall tape i) .any w.heap.size f i ∧
      ({ OpenSpec.ofChange s with cond := cond } : OpenSpec).preRow enc C.prog fn dom false laid (w.forCall tape i).memory i.args ∧ ({} : Assume).holds C.prog (lone (Frame.enter C.prog f i.args .normal) [] (w.forCall tape i)))
    (contract : ∀ (W : World) (base : Nat) (args : Array Value) (ds : List (DataW H)) (p : List MemPlace),
      (∀ (j : Nat) t v, fn.params[j]? = some t → args[j]? = some v → Value.okWide C.prog W .any base t v) →
      DataW.TrodAll enc C.prog W 0 (fun _ => true) true fn.params.toList args.toList ds p →
      (DataW.weightsEach C.prog fn.params.toList ds).all (· ≤ reachBytes) = true → (∀ k, cond = some k → k H ds = true) → laidMetH C.prog laid W →
      Calls C.prog f args W fun e W' => e = .returned (.bool true) ∧ Below W.heap.size W W') :
    ReturnsInHanded {} C os f .any (({ OpenSpec.ofChange s with cond := cond } : OpenSpec).preRow enc C.prog fn dom false laid) ((({ OpenSpec.ofChange s with cond := cond } : OpenSpec).at F).post enc C.prog fn false true false false) := by
  refine returnsInHanded_of_row (C := C) (s := { OpenSpec.ofChange s with cond := cond }) own started noInit hfn witness ?_
  intro W base args ds gs before hval hW hcnd hcond hsz hX _ _
  have hW' := hW
  obtain ⟨p, q, hA, hV, rfl, hfz, hnd⟩ := hW
  have hV : DataW.TrodVars enc C.prog W (fun _ => true) s.vars gs q := hV
  have hpv : ({ OpenSpec.ofChange s with cond := cond } : OpenSpec).bare.plain.varTypes C.prog = [] := by
    show s.plain.varTypes C.prog = []
    simp [ChangeSpec.plain, DataSpec.varTypes, hvars]
  rw [hvars] at hV
  obtain ⟨rfl, rfl⟩ := trodVars_none hV
  rw [hpv] at hsz
  simp only [List.append_nil] at hsz hcond
  refine (contract W base args ds p hval hA hsz hcond hX).mono fun e W' ⟨he, bel⟩ => ?_
  subst he
  have hlen := trodAll_length hA
  have hs := hspec ds hlen
  refine ⟨_, rfl, ds, [], _, [], p, [], hW', ?_, ?_, ?_, bel.frame _, fun h => by cases h⟩
  · show DataW.TrodAll enc C.prog W' _ _ _ _ _ (s.fn H (ds ++ [])).results _
    simp only [List.append_nil, hs, hres]
    exact trodAll_mk1 (shut_bool hb _)
  · show DataW.TrodAll enc C.prog W' _ _ _ _ _ (s.fn H (ds ++ [])).args _
    simp only [List.append_nil, hs]
    exact below_trodAll hlaid bel hr hA
  · show DataW.TrodVars enc C.prog W' _ s.vars (s.fn H (ds ++ [])).vars _
    simp only [List.append_nil, hs, hvars]
    exact rfl
/-- What a listed table's cells hold. -/
theorem laid_arr {P : Program} {w : World} {g n fuel : Nat} {t e : TypeId} {cs : Array Value} {nm : String} {α : Type} {xs : List α} {val : α → Value} {dat : α → DataW Unit} {p : List MemPlace} (hg : P.globalNamed nm = some g) (hv : w.var? P nm = some cs) (hu : P.underlying t = some (.array n e)) (hc : P.cellsOf e = 1) (hn : xs.length = n)
    (hd : DataW.trod (fun _ => ()) P w 0 (fun _ => true) false fuel t cs.toList = some (.agg (xs.map dat), p))
    (hel : ∀ (m : Nat) (l : List Value) (x : DataW Unit × List MemPlace) (a : α), DataW.trod (fun _ => ()) P w 0 (fun _ => true) false m e l = some x → x.1 = dat a → l = [val a]) : ∀ j u, (xs.map val)[j]? = some u → w.cell? ⟨g, j, none⟩ = some u := by
  intro j u hu'
  obtain ⟨ys, m, _, ex, hcl, hl, hE⟩ := DataW.trod_array hu hd
  rw [List.getElem?_map] at hu'
  obtain ⟨a, ha, rfl⟩ := Option.map_eq_some_iff.1 hu'
  have hj : j < xs.length := (List.getElem?_eq_some_iff.1 ha).1
  have h1 := hE j (by omega)
  rw [List.getElem?_eq_getElem (by omega : j < ys.length), hc, Nat.mul_one] at h1
  have h2 : ys.map (·.1) = xs.map dat := (DataW.agg.inj (Prod.mk.inj ex).1).symm
  have h3 : (ys.map (·.1))[j]? = (xs.map dat)[j]? := by rw [h2]
  rw [List.getElem?_map, List.getElem?_map, List.getElem?_eq_getElem (by omega : j < ys.length), ha] at h3
  have h4 := hel m _ _ a h1 (by simpa using h3)
  rw [World.var?_cell hg hv j]
  have h5 : ((cs.toList.drop j).take 1)[0]? = some (val a) := by rw [h4]; rfl
  simpa using h5
theorem laid_str {P : Program} {w : World} {t : TypeId} (hu : P.underlying t = some .string) (m : Nat) (l : List Value) (x : DataW Unit × List MemPlace) (b : List UInt8) (h : DataW.trod (fun _ => ()) P w 0 (fun _ => true) false m t l = some x) (hx : x.1 = .lit (.string b)) : l = [.string ⟨b.toArray⟩] := by
  obtain ⟨s, rfl, rfl, _⟩ := DataW.trod_string hu h
  simp only [DataW.lit.injEq, Lit.string.injEq] at hx
  subst hx
  rfl
theorem laid_int {P : Program} {w : World} {t : TypeId} {k : IntKind} (hu : P.underlying t = some (.int k)) (m : Nat) (l : List Value) (x : DataW Unit × List MemPlace) (n : Int) (h : DataW.trod (fun _ => ()) P w 0 (fun _ => true) false m t l = some x) (hx : x.1 = .lit (.int k n)) : l = [.int k n] := by
  obtain ⟨v, rfl, rfl, _⟩ := DataW.trod_int hu h
  simp only [DataW.lit.injEq, Lit.int.injEq, true_and] at hx
  rw [hx]
/-- 'There is an input that fits', at a world that is written out. -/
theorem witness_row_shaped {H : Type} {enc : TypeId × Value → H} {C : Checked} {os : Os} {f : FuncId} {fn : Func} {s : OpenSpec} {conds : List PathCond} {apart : Bool} {laid : List (String × DataW Unit)} (w0 : World) (args : Array Value) (hos : w0.os = os)
    (hsh : (w0.forCall (fun _ _ => 0) ⟨#[], args, []⟩).Shaped C.prog)
    (hok : Input.okWideB C.prog (w0.forCall (fun _ _ => 0) ⟨#[], args, []⟩) f ⟨#[], args, []⟩ = true)
    (hrow : s.preRow enc C.prog fn conds apart laid (w0.forCall (fun _ _ => 0) ⟨#[], args, []⟩).memory args) :
    ∃ (w : World) (tape : Tape) (i : Input), w.os = os ∧ (w.forCall tape i).Shaped C.prog ∧ i.vars = [] ∧ Input.okWide C.prog (w.forCall tape i) .any w.heap.size f i ∧
      s.preRow enc C.prog fn conds apart laid (w.forCall tape i).memory i.args ∧ ({} : Assume).holds C.prog (lone (Frame.enter C.prog f i.args .normal) [] (w.forCall tape i)) :=
  ⟨w0, fun _ _ => 0, ⟨#[], args, []⟩, hos, hsh, (Input.okWide_of_okWideB (base := 0) hok).1, (Input.okWide_of_okWideB hok).2, hrow, by
    simp only [Assume.holds]
    exact ⟨by simp, by simp, by simp, by simp, by simp⟩⟩
end Go.X
