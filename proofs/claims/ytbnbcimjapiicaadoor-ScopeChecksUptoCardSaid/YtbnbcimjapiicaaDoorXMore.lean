/- The framework X, part 5: rows in memory: read, built, appended to, cut. -/
import Derived.Test.YtbnbcimjapiicaaDoorXRules
import Derived.Maps.AppendAt
import Derived.Great.BuildSlice
set_option linter.unusedVariables false
set_option linter.unusedSimpArgs false
namespace Go.X
open Go Go.RowKit

/-- A slice whose n elements, of so many cells each, read so. -/
def reads (w : World) (size : Nat) (v : Value) (n : Nat) (xs : List Value) : Prop :=
  xs.length = n * size ∧ ∃ A c, v = .slice A n c ∧ n ≤ c ∧ ∀ j u, xs[j]? = some u → ∃ a, A = some a ∧ w.cell? (a.add j) = some u
theorem reads_nil (w : World) (size : Nat) : reads w size (.slice none 0 0) 0 [] := ⟨by simp, none, 0, rfl, Nat.le_refl _, by simp⟩
theorem add_block (a : Addr) (j : Nat) : (a.add j).block = a.block := by unfold Addr.add; split <;> rfl
theorem reads_mod {S : Nat → Prop} {w w' : World} {size : Nat} {v : Value} {n : Nat} {xs : List Value} (h : reads w size v n xs) (hm : Mod S w w') (hS : ∀ k, k < w.heap.size → v.ownBlock = some k → ¬ S k) : reads w' size v n xs := by
  obtain ⟨hl, A, c, rfl, hc, hr⟩ := h
  refine ⟨hl, A, c, rfl, hc, fun j u hu => ?_⟩
  obtain ⟨a, rfl, hcell⟩ := hr j u hu
  have hlt := World.block_lt_of_cell? _ _ hcell
  rw [add_block] at hlt
  refine ⟨a, rfl, (World.cell?_of_block ?_).trans hcell⟩
  rw [add_block]
  exact hm.block _ hlt (hS _ hlt rfl)
theorem reads_of_owns {w : World} {base : Nat} {e : TypeId} {size : Nat} {v : Value} {n : Nat} {xs : List Value} (h : w.ownsRow base e size v n xs) : reads w size v n xs := by
  refine ⟨h.1, ?_⟩
  have hc := fun g hg => h.cells (g := g) hg
  rcases h.2 with ⟨rfl, rfl⟩ | ⟨g, cap, cur, rfl, _, _, hn, _⟩
  · have : xs = [] := List.length_eq_zero_iff.1 (by simpa using h.1)
    subst this
    exact ⟨none, 0, rfl, Nat.le_refl _, by simp⟩
  · exact ⟨_, cap, rfl, hn, fun j u hu => ⟨_, rfl, hc g rfl j u hu⟩⟩
theorem owns_mod {S : Nat → Prop} {w w' : World} {base : Nat} {e : TypeId} {size : Nat} {v : Value} {n : Nat} {xs : List Value} (h : w.ownsRow base e size v n xs) (hm : Mod S w w') (hS : ∀ k, v.ownBlock = some k → ¬ S k) : w'.ownsRow base e size v n xs := by
  refine ⟨h.1, ?_⟩
  rcases h.2 with hn | ⟨g, cap, cur, rfl, hb, hgg, rest⟩
  · exact .inl hn
  · exact .inr ⟨g, cap, cur, rfl, hb, hm.blk hgg (hS g rfl), rest⟩

theorem add_add (a : Addr) (i j : Nat) : (a.add i).add j = a.add (i + j) := by
  unfold Addr.add
  by_cases e1 : i = 0
  · by_cases e2 : j = 0
    · simp [e1, e2]
    · simp [e1, e2]
  · by_cases e2 : j = 0
    · simp [e1, e2]
    · rw [if_neg e2, if_neg e1, if_neg (by omega)]
      simp [Nat.add_assoc]

section
variable {P : Program} {w w' : World} {K : Value → World → Prop}
/-- An element of one cell is read. -/
theorem ixld {t e : TypeId} {d : TypeDesc} (hu : P.underlying t = some (.slice e)) (hc : P.cellsOf e = 1) (hue : P.underlying e = some d) (hd : (match d with | .struct _ | .array _ _ => true | _ => false) = false) {v : Value} {n : Nat} {xs : List Value} (h : reads w 1 v n xs) {k : IntKind} {i : Int}
    (h0 : 0 ≤ i) {u : Value} (hi : xs[i.toNat]? = some u) {K : Value → Value → World → Prop} (hk : ∀ x, K x u w) : VK P (Instr.indexAt t v (.int k i)) w fun x w => VK P (Instr.loadAt e x) w (K x) := by
  obtain ⟨hl, A, c, rfl, _, hr⟩ := h
  obtain ⟨a, rfl, hcell⟩ := hr _ _ hi
  have hlt : i.toNat < xs.length := by
    rcases Nat.lt_or_ge i.toNat xs.length with q | q
    · exact q
    · rw [List.getElem?_eq_none q] at hi; cases hi
  rw [ixa (sz := 0) hu hc h0 (by omega)]
  exact ld1 hue hd (by simpa using hcell) (hk _)
/-- An element's field of one cell is found and read. -/
theorem rd_cell {size : Nat} {n : Nat} {xs : List Value} {A : Option Addr} {c : Nat} (h : reads w size (.slice A n c) n xs) {i : Nat} (hi : i < n) : ∃ a, A = some a ∨ size = 0 := by
  by_cases hs : size = 0
  · exact ⟨⟨0, 0, none⟩, .inr hs⟩
  · obtain ⟨hl, A', c', he, _, hr⟩ := h
    have hlt : 0 < xs.length := by rw [hl]; exact Nat.mul_pos (by omega) (by omega)
    obtain ⟨a, rfl, _⟩ := hr 0 _ (List.getElem?_eq_getElem hlt)
    cases he
    exact ⟨a, .inl rfl⟩
/-- A place of an element, in a row whose elements have cells. -/
theorem ixat {t e : TypeId} {sz : Nat} (hu : P.underlying t = some (.slice e)) (hc : P.cellsOf e = sz + 1) {v : Value} {n : Nat} {xs : List Value} (h : reads w (sz + 1) v n xs) {k : IntKind} {i : Int} (h0 : 0 ≤ i) (h1 : i < n)
    (hk : ∀ a, (∀ j u, j < sz + 1 → xs[i.toNat * (sz + 1) + j]? = some u → w.cell? (a.add j) = some u) → v.ownBlock = some a.block → K (.pointer (some a)) w) : VK P (Instr.indexAt t v (.int k i)) w K := by
  obtain ⟨hl, A, c, rfl, hnc, hr⟩ := h
  obtain ⟨a, ha | q⟩ := rd_cell ⟨hl, A, c, rfl, hnc, hr⟩ (i := i.toNat) (by omega)
  · subst ha
    rw [ixa hu hc h0 h1]
    refine hk _ (fun j u hj hx => ?_) (by rw [add_block]; rfl)
    obtain ⟨a', ha', hcell⟩ := hr _ _ hx
    cases ha'
    rw [add_add]
    exact hcell
  · omega
/-- An element that is a struct is read. -/
theorem ixldA {t e : TypeId} {d : TypeDesc} {sz : Nat} (hu : P.underlying t = some (.slice e)) (hc : P.cellsOf e = sz + 1) (hue : P.underlying e = some d) (hd : (match d with | .struct _ | .array _ _ => true | _ => false) = true) {v : Value} {n : Nat} {xs : List Value} (h : reads w (sz + 1) v n xs) {k : IntKind} {i : Int}
    (h0 : 0 ≤ i) (h1 : i < n) {K : Value → Value → World → Prop} (hk : ∀ x, K x (.agg ((xs.drop (i.toNat * (sz + 1))).take (sz + 1)).toArray) w) : VK P (Instr.indexAt t v (.int k i)) w fun x w => VK P (Instr.loadAt e x) w (K x) := by
  refine ixat hu hc h h0 h1 fun a ha _ => ?_
  have hlen : ((xs.drop (i.toNat * (sz + 1))).take (sz + 1)).length = sz + 1 := by
    have hm : (i.toNat + 1) * (sz + 1) ≤ n * (sz + 1) := Nat.mul_le_mul_right _ (by omega)
    rw [Nat.succ_mul] at hm
    rw [List.length_take, List.length_drop, h.1]
    omega
  obtain ⟨z, hz, hzs⟩ := info_of hc
  refine ldA hue hd (by rw [hz, hlen]; simp [hzs]) (fun j u hj => ?_) (hk _)
  rw [List.getElem?_take] at hj
  split at hj
  · rw [List.getElem?_drop] at hj
    exact ha j u (by omega) hj
  · cases hj

/-- A literal's cells. -/
def builtRow (P : Program) (t : TypeId) (len : Nat) (parts : List (Nat × Value)) : Option (Array Value) :=
  match P.underlying t with
  | some (.slice e) =>
    match P.info? e with
    | some ie =>
      match ie.zero with
      | some z => if decide (len * ie.size > 2 ^ 24) || decide (len * ie.size = 0) then none else Instr.fill (fun i => some (i * ie.size, ie.size)) ((Array.range (len * ie.size)).map (z.cells[· % z.cells.size]!)) parts
      | none => none
    | none => none
  | _ => none
theorem bs_ok {t : TypeId} {len : Nat} {parts : List (Nat × Value)} {cs : Array Value} (h : builtRow P t len parts = some cs) : VK P (Instr.buildSlice t len parts.toArray) w K = K (.slice (some ⟨w.heap.size, 0, none⟩) len len) (w.alloc (.cells cs (P.elem t))) := by
  unfold builtRow at h
  split at h
  · rename_i e hu
    split at h
    · rename_i ie hie
      split at h
      · rename_i z hz
        split at h
        · cases h
        · rename_i hn
          simp only [Bool.or_eq_true, decide_eq_true_eq, not_or] at hn
          have := run_buildSlice (P := P) w t e len parts.toArray cs ie z hu hie hz hn.1 hn.2 h
          unfold VK OpK
          simp only [Sem.run_bind, this, Result.andThen_ok]
          have he : P.elem t = e := by simp [Program.elem, hu]
          rw [he]
          rfl
      · cases h
    · cases h
  · cases h
theorem reads_new {w : World} {cs : Array Value} {e : TypeId} {size n : Nat} (hs : cs.size = n * size) : reads (w.alloc (.cells cs e)) size (.slice (some ⟨w.heap.size, 0, none⟩) n n) n cs.toList :=
  ⟨by simpa using hs, _, _, rfl, Nat.le_refl _, fun j u hu => ⟨_, rfl, by rw [add_pl, cell_blk (alloc_new w _)]; simpa using hu⟩⟩
theorem owns_new {w : World} {cs : Array Value} {e : TypeId} {size n base : Nat} (hs : cs.size = n * size) (hb : base ≤ w.heap.size) (hm : n ≤ maxLen) : (w.alloc (.cells cs e)).ownsRow base e size (.slice (some ⟨w.heap.size, 0, none⟩) n n) n cs.toList :=
  ⟨by simpa using hs, .inr ⟨w.heap.size, n, cs, rfl, hb, alloc_new w _, Nat.le_refl _, hm, hs, List.take_of_length_le (by simp [hs])⟩⟩

/-- What a slice's element type must be for it to be appended to. -/
def elemOk (P : Program) (t e : TypeId) (size bytes : Nat) : Bool :=
  match P.underlying t, P.info? e with
  | some (.slice e'), some i => e' == e && (match i.zero with | some z => z.cells.size == size | none => false) && i.size == size && i.bytes == bytes && Nat.blt 0 size
  | _, _ => false
theorem ap_own {t ty e : TypeId} {size bytes base : Nat} (hE : elemOk P t e size bytes = true) {v : Value} {n : Nat} {xs : List Value} (hown : w.ownsRow base e size v n xs) {v2 : Value} {m : Nat} {news : List Value} (hr : reads w size v2 m news) (hm : 0 < m) (h1 : ∀ u ∈ news, u.oneCell' = true)
    (h63 : n + m ≤ maxLen) (hbytes : (n + m) * bytes ≤ 140737488355328) (hbase : base ≤ w.heap.size)
    (hk : ∀ v' w', w'.ownsRow base e size v' (n + m) (xs ++ news) → Mod (fun k => some k = v.ownBlock) w w' → (v'.ownBlock = v.ownBlock ∨ v'.ownBlock = some w.heap.size) → K v' w') : IK P .append #[t, t] ty [false, false] [v, v2] w K := by
  unfold elemOk at hE
  split at hE
  · rename_i e' i hu hi
    simp only [Bool.and_eq_true, beq_iff_eq] at hE
    obtain ⟨⟨⟨⟨rfl, hz⟩, hs⟩, hb⟩, hp⟩ := hE
    split at hz
    · rename_i z hzz
      have hz : z.cells.size = size := by simpa using hz
      have hpos : 0 < size := Nat.le_of_ble_eq_true hp
      obtain ⟨hl, A, c, rfl, _, hrd⟩ := hr
      have hlt : 0 < news.length := by rw [hl]; exact Nat.mul_pos hm hpos
      obtain ⟨a, rfl, _⟩ := hrd 0 _ (List.getElem?_eq_getElem hlt)
      obtain ⟨v', w', hrun, h2, h3, h4, h5⟩ := run_append_own_at (P := P) w base t ty _ i z size bytes hu hi hzz hs hb hz hpos v n xs hown a m c news hl (fun j u hj => by obtain ⟨a', ha, hc⟩ := hrd j u hj; cases ha; exact hc) h1 h63 hbytes hbase
      exact IK_of (s := Builtin.append_ #[t, t] ty #[v, .slice (some a) m c]) rfl hrun (hk v' w' h2 (Mod.ofGrown h3) h5)
    · cases hz
  · cases hE
/-- One element more. -/
theorem snoc {t ty e : TypeId} {size bytes base : Nat} (hE : elemOk P t e size bytes = true) {v : Value} {n : Nat} {xs : List Value} (hown : w.ownsRow base e size v n xs) {x : Value} {cs : Array Value} (hb : builtRow P t 1 [(0, x)] = some cs) (hcs : cs.size = size) (h1 : ∀ u ∈ cs.toList, u.oneCell' = true)
    (h63 : n + 1 ≤ maxLen) (hbytes : (n + 1) * bytes ≤ 140737488355328) (hbase : base ≤ w.heap.size) {K : Value → Value → World → Prop}
    (hk : ∀ y v' w', w'.ownsRow base e size v' (n + 1) (xs ++ cs.toList) → Mod (fun k => some k = v.ownBlock) w w' → (v'.ownBlock = v.ownBlock ∨ ∃ g, v'.ownBlock = some g ∧ w.heap.size ≤ g) → K y v' w') :
    VK P (Instr.buildSlice t 1 [(0, x)].toArray) w fun y w => IK P .append #[t, t] ty [false, false] [v, y] w (K y) := by
  rw [bs_ok hb]
  have hown' := owns_mod (w' := w.alloc (.cells cs (P.elem t))) hown ((Mod.refl none_ w).alloc _) (fun _ _ => id)
  refine ap_own hE hown' (reads_new (n := 1) (by omega)) (by decide) h1 h63 hbytes (by simp; omega) fun v' w' h2 h3 h4 => hk _ _ _ h2 (((Mod.refl _ w).alloc _).trans h3) ?_
  rcases h4 with h4 | h4
  · exact .inl h4
  · exact .inr ⟨_, h4, by simp⟩
/-- A slice's first k elements. -/
theorem cut_hi {t e : TypeId} {sz : Nat} (hu : P.underlying t = some (.slice e)) (hc : P.cellsOf e = sz + 1) {v : Value} {n : Nat} {xs : List Value} {size : Nat} (h : reads w size v n xs) {k : IntKind} {i : Int} (h0 : 0 ≤ i) (h1 : i ≤ n)
    (hk : ∀ v', reads w size v' i.toNat (xs.take (i.toNat * size)) → K v' w) : VK P (Instr.sliceAt t v none (some (.int k i)) none) w K := by
  obtain ⟨hl, A, c, rfl, hnc, hr⟩ := h
  obtain ⟨z, hz, hzs⟩ := info_of hc
  have he : P.elem t = e := by simp [Program.elem, hu]
  have hrun : (Instr.sliceAt t (.slice A n c) none (some (.int k i)) none).run P w = .ok (sliced A 0 i.toNat c (sz + 1)) w := by
    rw [run_sliceAt_slice (h := elem_of hu), run_slice_h w t A n c (elem_of hu) k i h0 (by omega), he]
    simp [sizeOf, typeInfo, hz, hzs]
  refine VK_of hrun (hk _ ⟨?_, ?_⟩)
  · rw [List.length_take, hl]
    exact Nat.min_eq_left (Nat.mul_le_mul_right _ (by omega))
  · refine ⟨_, _, rfl, by omega, fun j u hu => ?_⟩
    rw [List.getElem?_take] at hu
    split at hu
    · obtain ⟨a, rfl, hcell⟩ := hr j u hu
      refine ⟨a, ?_, hcell⟩
      by_cases hq : c = 0 <;> simp [hq, Addr.add]
    · cases hu
end
theorem wrap_i {n : Int} (h0 : -9223372036854775808 ≤ n) (h1 : n < 9223372036854775808) : IntKind.i64.wrap n = n := by rw [IntKind.wrap_i64]; omega
/-- A result that lies in memory. -/
theorem res_ld {P : Program} {t : TypeId} {a : Addr} {v : Value} {w : World} (h : (Instr.loadAt t (.pointer (some a))).run P w = .ok v w) : (do loadVar t (← asAddr (.pointer (some a))) : Sem Value).run P w = .ok v w := h
/-- A contract: what is returned, and the world then. -/
def Rt (P : Program) (f : FuncId) (args : Array Value) (w : World) (R : Value → World → Prop) : Prop := Calls P f args w fun e w' => ∃ v, e = .returned v ∧ R v w'
theorem Rt.mono {P : Program} {f : FuncId} {args : Array Value} {w : World} {R R' : Value → World → Prop} (h : Rt P f args w R) (hk : ∀ v w', R v w' → R' v w') : Rt P f args w R' := Calls.mono h fun e w' ⟨v, he, hv⟩ => ⟨v, he, hk v w' hv⟩
section
variable {P : Program} {N : Sl → World → Prop} {K : Exit → Sl → World → Prop} {ρ : Sl} {w : World} {rs : List ResultVar} {R : Value → World → Prop}
theorem sq_n : seqK N K .normal = N := rfl
theorem sq_x (i : Nat) : seqK N K (.exit i) = K (.exit i) := rfl
theorem sq_r : seqK N K .ret = K .ret := rfl
theorem bk_n (i : Nat) : blkK i K .normal = K .normal := rfl
theorem bk_r (i : Nat) : blkK i K .ret = K .ret := rfl
theorem bk_x (i : Nat) : blkK i K (.exit i) = K .normal := by
  show (if Nat.beq i i then K .normal else K (.exit i)) = _
  rw [if_pos (Nat.beq_refl i)]
theorem bk_y (i j : Nat) (h : Nat.beq i j = false) : blkK j K (.exit i) = K (.exit i) := by
  show (if Nat.beq i j then K .normal else K (.exit i)) = _
  rw [h]
  rfl
theorem rt_r : retK P rs R .ret ρ w = resK P ρ (fun vs w => R (packV vs) w) rs w := rfl
theorem rt_n : retK P rs R .normal ρ w = resK P ρ (fun vs w => R (packV vs) w) rs w := rfl
theorem rs_0 {k : List Value → World → Prop} : resK P ρ k [] w = k [] w := rfl
theorem rs_t {k : List Value → World → Prop} (t : Nat) : resK P ρ k (.tmp t :: rs) w = resK P ρ (fun vs w => k (ρ t :: vs) w) rs w := rfl
theorem pk_1 (v : Value) : packV [v] = v := rfl
theorem pk_2 (v u : Value) : packV [v, u] = .tuple #[v, u] := rfl
end
/-- A yield's call, out of its round. -/
theorem CK_yield {P : Program} {w : World} {K : Value → World → Prop} {l : Nat} {L : Loop} {args : List Value} (h : w.heap[l]? = some (.loop L)) (hs : args.toArray.size = L.params.size)
    (hr : RoundIn Fence.wide 0 P l L.fn ((L.params.zip args.toArray).foldl (fun tmps (t, a) => tmps.setIfInBounds t a) L.tmps) L.assign L.body w fun e w'' => ∃ v, e = .returned v ∧ K v w'') : CK P (.func (.yield l) #[] #[]) args w K := by
  unfold CK OpK
  have hq : (do let d ← Deferred.ofValue (.func (.yield l) #[] #[]) args.toArray; invoke d.target d.args : Sem Next).run P w = (Instr.yield l args.toArray).run P w := by
    simp [Deferred.ofValue, invoke, Sem.run_bind]
  rw [hq, run_yield h hs]
  exact hr
theorem Mod.put {S : Nat → Prop} {a b : World} (h : Mod S a b) {i : Nat} (o : Obj) (hi : i < a.heap.size → S i) : Mod S a (b.putObj i o) := Mod.set h o hi
theorem putB (w : World) (b : Nat) (o : Obj) : w.putObj b o = setB w b o := rfl
/-! Elements of a fixed number of cells, one behind the other. -/
section
variable {α : Type} {enc : α → List Value} {k : Nat} (hk : ∀ a, (enc a).length = k)
include hk
theorem fl_len (xs : List α) : (xs.flatMap enc).length = xs.length * k := by
  induction xs with
  | nil => simp
  | cons r xs ih => simp only [List.flatMap_cons, List.length_append, List.length_cons, hk, ih, Nat.add_mul]; omega
theorem fl_drop {xs : List α} {n : Nat} {r : α} (h : xs[n]? = some r) : ((xs.flatMap enc).drop (n * k)).take k = enc r := by
  induction xs generalizing n with
  | nil => simp at h
  | cons q xs ih =>
    cases n with
    | zero =>
      simp at h
      subst h
      rw [List.flatMap_cons, Nat.zero_mul, List.drop_zero, List.take_append_of_le_length (by rw [hk]; exact Nat.le_refl _), List.take_of_length_le (by rw [hk]; exact Nat.le_refl _)]
    | succ n =>
      have := ih (n := n) (by simpa using h)
      rw [List.flatMap_cons, List.drop_append, List.drop_of_length_le (by rw [hk, Nat.add_mul]; omega), List.nil_append, hk, show (n + 1) * k - k = n * k by rw [Nat.add_mul]; omega]
      exact this
theorem fl_get {xs : List α} {n j : Nat} {r : α} (h : xs[n]? = some r) (hj : j < k) : (xs.flatMap enc)[n * k + j]? = (enc r)[j]? := by
  have := fl_drop hk h
  rw [← this, List.getElem?_take, if_pos hj, List.getElem?_drop]
end
/-! New blocks, the world then by what is known of it. -/
section
variable {P : Program} {w : World} {K : Value → World → Prop}
theorem new_k (w : World) (o : Obj) {M : World → Prop} (hk : ∀ w', w'.heap[w.heap.size]? = some o → Mod none_ w w' → w'.heap.size = w.heap.size + 1 → M w') : M (w.alloc o) := hk _ (alloc_new w o) ((Mod.refl _ w).alloc _) (alloc_size w o)
theorem bs_k {t : TypeId} {len : Nat} {parts : List (Nat × Value)} {cs : Array Value} (h : builtRow P t len parts = some cs)
    (hk : ∀ w', w'.heap[w.heap.size]? = some (.cells cs (P.elem t) (0, 0)) → Mod none_ w w' → w'.heap.size = w.heap.size + 1 → K (.slice (some ⟨w.heap.size, 0, none⟩) len len) w') : VK P (Instr.buildSlice t len parts.toArray) w K := by
  rw [bs_ok h]
  exact new_k w _ hk
theorem box_k {t : TypeId} {v : Value} {cs : Array Value} (hc : v.cells = cs) (hk : ∀ w', w'.heap[w.heap.size]? = some (.cells cs t (0, 0)) → Mod none_ w w' → w'.heap.size = w.heap.size + 1 → K (.pointer (some ⟨w.heap.size, 0, none⟩)) w') : VK P (Instr.box t v) w K := by
  rw [box_ok, hc]
  exact new_k w _ hk
theorem al_k {t : TypeId} {z : Value} {cs : Array Value} (hz0 : (P.info? t).bind (·.zero) = some z) (hc : z.cells = cs) (v : Value) (hk : ∀ w', w'.heap[w.heap.size]? = some (.cells cs t (0, 0)) → Mod none_ w w' → w'.heap.size = w.heap.size + 1 → K (.pointer (some ⟨w.heap.size, 0, none⟩)) w') : VK P (Instr.alloc t true v) w K := by
  rw [alloc_ok hz0, hc]
  exact new_k w _ hk
/-- A struct's own variable, at once stored. -/
theorem lcl_k {t : TypeId} {z : Value} {cs : Array Value} (hz0 : (P.info? t).bind (·.zero) = some z) (v : Value) (hi : (P.info? t).map (·.size) = some cs.size) (hsz : z.cells.size = cs.size) (h1 : cs.all (·.oneCell') = true) {K : Value → Value → World → Prop}
    (hk : ∀ w', w'.heap[w.heap.size]? = some (.cells cs t (0, 0)) → Mod none_ w w' → w'.heap.size = w.heap.size + 1 → K (.pointer (some ⟨w.heap.size, 0, none⟩)) undef w') : VK P (Instr.alloc t true v) w fun x w => UK P (Instr.storeAt t x (.agg cs)) w (K x) := by
  rw [alloc_ok hz0]
  refine stB hi hsz h1 (alloc_new w _) (hk _ (setB_new _ _ _ (by simp)) (((Mod.refl _ w).alloc _).set _ (fun q => absurd q (by omega))) (by rw [setB_size, alloc_size]))
theorem reads_blk {w : World} {b : Nat} {cs : Array Value} {e : TypeId} {fr : Nat × Nat} {size n : Nat} (h : w.heap[b]? = some (.cells cs e fr)) (hs : cs.size = n * size) : reads w size (.slice (some ⟨b, 0, none⟩) n n) n cs.toList :=
  ⟨by simpa using hs, _, _, rfl, Nat.le_refl _, fun j u hu => ⟨_, rfl, by rw [add_pl, cell_blk h]; simpa using hu⟩⟩
end
/-! Rows of the call's own, written into. -/
theorem run_fo {P : Program} {s : TypeId} {i off : Nat} (h : fieldOff P s i = some off) (a : Addr) (w : World) : (Instr.fieldAt s (.pointer (some a)) i).run P w = .ok (.pointer (some (a.add off))) w := by
  unfold fieldOff at h
  split at h
  · rename_i fs hu
    split at h
    · rename_i f hf
      split at h
      · cases h
      · rename_i n hc
        cases h
        obtain ⟨z, hz, hzs⟩ := info_of hc
        have h0 : z.size ≠ 0 := by omega
        simp [Instr.fieldAt, run_underlying hu, Sem.run_bind, hf, Instr.sureAddr, fieldPlace, sizeOf, typeInfo, hz, h0]
    · cases h
  · cases h
theorem run_ixa {P : Program} {t e : TypeId} {sz : Nat} (hu : P.underlying t = some (.slice e)) (hc : P.cellsOf e = sz + 1) {a : Addr} {n c : Nat} {k : IntKind} {i : Int} (h0 : 0 ≤ i) (h1 : i < n) (w : World) :
    (Instr.indexAt t (.slice (some a) n c) (.int k i)).run P w = .ok (.pointer (some (a.add (i.toNat * (sz + 1))))) w := by
  obtain ⟨z, hz, hzs⟩ := info_of hc
  simp [Instr.indexAt, run_underlying hu, Sem.run_bind, asIntOf, h0, h1, sizeOf, typeInfo, hz, hzs]
theorem owns_some {w : World} {base : Nat} {e : TypeId} {size : Nat} {v : Value} {n : Nat} {xs : List Value} (h : w.ownsRow base e size v n xs) (hn : 0 < n) : ∃ g cap, v = .slice (some ⟨g, 0, none⟩) n cap ∧ ∃ cur, w.heap[g]? = some (.cells cur e (0, 0)) := by
  rcases h.2 with ⟨_, rfl⟩ | ⟨g, cap, cur, rfl, _, hg, _⟩
  · omega
  · exact ⟨g, cap, rfl, cur, hg⟩
theorem owns_blk {w : World} {base : Nat} {e : TypeId} {size : Nat} {v : Value} {n : Nat} {xs : List Value} (h : w.ownsRow base e size v n xs) {g : Nat} (hg : v.ownBlock = some g) : ∃ cur, w.heap[g]? = some (.cells cur e (0, 0)) := by
  rcases h.2 with ⟨rfl, rfl⟩ | ⟨g', cap, cur, rfl, _, hg', _⟩
  · simp [Value.ownBlock] at hg
  · simp [Value.ownBlock] at hg
    subst hg
    exact ⟨cur, hg'⟩
/-- Rows of unlike elements lie in unlike blocks. -/
theorem owns_ne {w : World} {b1 b2 : Nat} {e1 e2 : TypeId} {s1 s2 : Nat} {v1 v2 : Value} {n1 n2 : Nat} {x1 x2 : List Value} (h1 : w.ownsRow b1 e1 s1 v1 n1 x1) (h2 : w.ownsRow b2 e2 s2 v2 n2 x2) (he : e1 ≠ e2) : ∀ k, v1.ownBlock = some k → ¬ some k = v2.ownBlock := by
  intro k hk q
  obtain ⟨c1, hc1⟩ := owns_blk h1 hk
  obtain ⟨c2, hc2⟩ := owns_blk h2 q.symm
  rw [hc1] at hc2
  simp at hc2
  exact he hc2.2
theorem owns_ne_blk {w : World} {b1 : Nat} {e1 e2 : TypeId} {s1 : Nat} {v1 : Value} {n1 : Nat} {x1 : List Value} {t : Nat} {cs : Array Value} {fr : Nat × Nat} (h1 : w.ownsRow b1 e1 s1 v1 n1 x1) (h2 : w.heap[t]? = some (.cells cs e2 fr)) (he : e1 ≠ e2) : v1.ownBlock ≠ some t := by
  intro hk
  obtain ⟨c1, hc1⟩ := owns_blk h1 hk
  rw [hc1] at h2
  simp at h2
  exact he h2.2.1
theorem owns_base {w : World} {b b' : Nat} {e : TypeId} {s : Nat} {v : Value} {n : Nat} {xs : List Value} (h : w.ownsRow b e s v n xs) (hb : b' ≤ b) : w.ownsRow b' e s v n xs :=
  ⟨h.1, h.2.imp id fun ⟨g, cap, cur, e1, e2, e3⟩ => ⟨g, cap, cur, e1, by omega, e3⟩⟩
theorem st_row {P : Program} {w : World} {K : Value → World → Prop} {t e : TypeId} {base size n cap g : Nat} {u : Value} {xs : List Value} (hc1 : P.cellsOf t = 1) (hv : u.oneCell' = true) (hown : w.ownsRow base e size (.slice (some ⟨g, 0, none⟩) n cap) n xs) {k : Nat} (hk : k < n * size)
    (hK : ∀ w', w'.ownsRow base e size (.slice (some ⟨g, 0, none⟩) n cap) n (xs.set k u) → Mod (fun b => b = g) w w' → K undef w') : UK P (Instr.storeAt t (.pointer (some ⟨g, k, none⟩)) u) w K := by
  obtain ⟨hl, h⟩ := hown
  rcases h with ⟨q, _⟩ | ⟨g', cap', cur, q, hb, hg, hn, hm, hs, ht⟩
  · cases q
  · cases q
    have hcap : n * size ≤ cap * size := Nat.mul_le_mul_right _ hn
    refine st1 hc1 hv hg (by omega) (hK _ ⟨by rw [List.length_set]; exact hl, .inr ⟨g, cap, _, rfl, hb, setB_new _ _ _ (X.blk_lt hg), hn, hm, by simpa using hs, ?_⟩⟩ ((Mod.refl _ w).set _ (fun _ => rfl)))
    rw [← ht, Array.toList_setIfInBounds, List.take_set]
theorem fl_set {α : Type} {enc : α → List Value} {k : Nat} (hk : ∀ a, (enc a).length = k) {xs : List α} {i j : Nat} {r r' : α} {u : Value} (h : xs[i]? = some r) (hj : j < k) (he : enc r' = (enc r).set j u) : (xs.flatMap enc).set (i * k + j) u = (xs.set i r').flatMap enc := by
  induction xs generalizing i with
  | nil => simp at h
  | cons q xs ih =>
    cases i with
    | zero =>
      simp at h
      subst h
      rw [List.flatMap_cons, Nat.zero_mul, Nat.zero_add, List.set_append_left _ _ (by rw [hk]; exact hj), ← he, List.set_cons_zero, List.flatMap_cons]
    | succ i =>
      have := ih (i := i) (by simpa using h)
      rw [List.flatMap_cons, List.set_append_right _ _ (by rw [hk, Nat.add_mul]; omega), hk, show (i + 1) * k + j - k = i * k + j by rw [Nat.add_mul]; omega, this, List.set_cons_succ, List.flatMap_cons]
/-! In regions that draw: elements read, slices cut. -/
theorem run_cut {P : Program} {t e : TypeId} {sz : Nat} (hu : P.underlying t = some (.slice e)) (hc : P.cellsOf e = sz + 1) {A : Option Addr} {n c : Nat} (hnc : n ≤ c) {k : IntKind} {i : Int} (h0 : 0 ≤ i) (h1 : i ≤ n) (w : World) :
    (Instr.sliceAt t (.slice A n c) none (some (.int k i)) none).run P w = .ok (sliced A 0 i.toNat c (sz + 1)) w := by
  obtain ⟨z, hz, hzs⟩ := info_of hc
  have he : P.elem t = e := by simp [Program.elem, hu]
  rw [run_sliceAt_slice (h := elem_of hu), run_slice_h w t A n c (elem_of hu) k i h0 (by omega), he]
  simp [sizeOf, typeInfo, hz, hzs]
theorem reads_cut {w : World} {size : Nat} {A : Option Addr} {n c : Nat} {xs : List Value} (h : reads w size (.slice A n c) n xs) {m : Nat} (hm : m ≤ n) (s : Nat) : reads w size (sliced A 0 m c s) m (xs.take (m * size)) := by
  obtain ⟨hl, A', c', q, hnc, hr⟩ := h
  cases q
  refine ⟨?_, _, _, rfl, by omega, fun j u hu => ?_⟩
  · rw [List.length_take, hl]
    exact Nat.min_eq_left (Nat.mul_le_mul_right _ hm)
  · rw [List.getElem?_take] at hu
    split at hu
    · obtain ⟨a, rfl, hcell⟩ := hr j u hu
      refine ⟨a, ?_, hcell⟩
      by_cases hq : c = 0 <;> simp [hq, Addr.add]
    · cases hu
theorem reads_cap {w : World} {size : Nat} {v : Value} {n : Nat} {xs : List Value} (h : reads w size v n xs) : ∃ A c, v = .slice A n c ∧ n ≤ c := by
  obtain ⟨_, A, c, rfl, hnc, _⟩ := h
  exact ⟨A, c, rfl, hnc⟩
section
variable {P : Program} {C : World → Prop}
theorem QM {v : Value} {K : Value → Prop} (hk : K v) : QK P C (pure (Next.value v)) K := ⟨v, fun _ _ => ⟨rfl, rfl⟩, hk⟩
theorem q_ixld {t e : TypeId} {d : TypeDesc} (hu : P.underlying t = some (.slice e)) (hc : P.cellsOf e = 1) (hue : P.underlying e = some d) (hd : (match d with | .struct _ | .array _ _ => true | _ => false) = false) {w : World} (hw : C w) {v : Value} {n : Nat} {xs : List Value} (h : ∀ w, C w → reads w 1 v n xs) {k : IntKind} {i : Int}
    (h0 : 0 ≤ i) {u : Value} (hi : xs[i.toNat]? = some u) {K : Value → Value → Prop} (hk : ∀ x, K x u) : QK P C (do pure (Next.value (← Instr.indexAt t v (.int k i)))) fun x => QK P C (do pure (Next.value (← Instr.loadAt e x))) (K x) := by
  obtain ⟨hl, A, c, rfl, _, hr⟩ := h w hw
  obtain ⟨a, rfl, hcell⟩ := hr _ _ hi
  have hlt : i.toNat < xs.length := by
    rcases Nat.lt_or_ge i.toNat xs.length with q | q
    · exact q
    · rw [List.getElem?_eq_none q] at hi; cases hi
  refine QV_of (fun w _ => run_ixa (sz := 0) hu hc h0 (by omega) w) (QV_of (fun w hw => run_ld1 hue hd ?_) (hk _))
  obtain ⟨_, A', c', q, _, hr'⟩ := h w hw
  cases q
  obtain ⟨a', q, hcell'⟩ := hr' _ _ hi
  cases q
  simpa using hcell'
end
theorem BK_rem {P : Program} {w : World} {K : Value → World → Prop} {t : TypeId} {x y : Operand} {k : IntKind} {a b : Int} (hb : b ≠ 0) : BK P .rem t x y (.int k a) (.int k b) w K = K (.int k (a.tmod b)) w := by
  refine BK_of rfl ?_
  rw [binOp_rem]
  simp [Op.intDiv, hb]
theorem QI_len {P : Program} {C : World → Prop} {K : Value → Prop} {t e ty : TypeId} (h : P.underlying t = some (.slice e)) (cs : Array Bool) (A : Option Addr) (n c : Nat) (hk : K (.int .i64 n)) : QK P C (builtin .len #[t] ty cs [Value.slice A n c].toArray) K := by
  refine ⟨_, fun w _ => ?_, hk⟩
  have : (builtin .len #[t] ty cs [Value.slice A n c].toArray).run P w = .ok (.value (.int .i64 n)) w := by simp [builtin, run_len_slice w t ty A n c (elem_of h), goInt]
  rw [this]
  exact ⟨rfl, rfl⟩
/-! Loads told by what stands there. -/
def ldStuck (P : Program) (t : TypeId) (a : Addr) (K : Value → World → Prop) (w : World) : Prop := VK P (Instr.loadAt t (.pointer (some a))) w K
def ldK (o : Option Value) (s : Prop) (K : Value → World → Prop) (w : World) : Prop := match o with | some v => K v w | none => s
theorem ldK_some (v : Value) (s : Prop) (K : Value → World → Prop) (w : World) : ldK (some v) s K w = K v w := rfl
theorem ldE {P : Program} {w : World} {K : Value → World → Prop} {t : TypeId} {d : TypeDesc} (hu : P.underlying t = some d) (hd : (match d with | .struct _ | .array _ _ => true | _ => false) = false) (a : Addr) : VK P (Instr.loadAt t (.pointer (some a))) w K = ldK (w.cell? a) (ldStuck P t a K w) K w := by
  cases hc : w.cell? a with
  | some v =>
    have := run_ld1 hu hd hc
    unfold VK OpK
    simp only [Sem.run_bind, this, Result.andThen_ok]
    rfl
  | none => rfl
def blkC (o : Option Obj) (j : Nat) : Option Value := match o with | some (.cells cs _ _) => cs[j]? | _ => none
theorem blkC_c (cs : Array Value) (t : TypeId) (fr : Nat × Nat) (j : Nat) : blkC (some (.cells cs t fr)) j = cs[j]? := rfl
theorem cellE (w : World) (b j : Nat) : w.cell? ⟨b, j, none⟩ = blkC (w.heap[b]?) j := by
  unfold World.cell? blkC
  cases h : w.heap[b]? with
  | none => simp [h]
  | some o => cases o <;> simp [h]
/-! Tests, either way. -/
theorem caseI {P : Program} {w : World} {K : Value → World → Prop} {t : TypeId} {x y : Operand} {k : IntKind} {a b : Int} (h1 : a = b → K (.bool true) w) (h2 : a ≠ b → K (.bool false) w) : BK P .eql t x y (.int k a) (.int k b) w K := by
  rw [BK_eql]
  by_cases h : a = b
  · rw [beq_iff_eq.2 h]; exact h1 h
  · rw [beq_eq_false_iff_ne.2 h]; exact h2 h
theorem caseS {P : Program} {w : World} {K : Value → World → Prop} {t : TypeId} {x y : Operand} {a b : ByteArray} (h1 : a.data.toList = b.data.toList → K (.bool true) w) (h2 : a.data.toList ≠ b.data.toList → K (.bool false) w) : BK P .eql t x y (.string a) (.string b) w K := by
  rw [BK_eqlS, ByteArray.toList_eq, ByteArray.toList_eq]
  by_cases h : a.data.toList = b.data.toList
  · rw [beq_iff_eq.2 h]; exact h1 h
  · rw [beq_eq_false_iff_ne.2 h]; exact h2 h
theorem caseC {A B : Prop} {b : Bool} (h1 : b = true → A) (h2 : b = false → B) : CondK (.bool b) A B := ⟨b, rfl, h1, h2⟩
theorem condT {A B : Prop} (h : A) : CondK (.bool true) A B := ⟨true, rfl, fun _ => h, fun q => by cases q⟩
theorem condF {A B : Prop} (h : B) : CondK (.bool false) A B := ⟨false, rfl, (fun q => by cases q), fun _ => h⟩
section
variable {P : Program} {C : World → Prop} {K : Value → Prop}
theorem Qfo {s : TypeId} {i off : Nat} (h : fieldOff P s i = some off) {a : Addr} (hk : K (.pointer (some (a.add off)))) : QK P C (do pure (Next.value (← Instr.fieldAt s (.pointer (some a)) i))) K := QV_of (fun w _ => run_fo h a w) hk
theorem Qld {t : TypeId} {d : TypeDesc} {a : Addr} {v : Value} (hu : P.underlying t = some d) (hd : (match d with | .struct _ | .array _ _ => true | _ => false) = false) (hc : ∀ w, C w → w.cell? a = some v) (hk : K v) : QK P C (do pure (Next.value (← Instr.loadAt t (.pointer (some a))))) K := QV_of (fun w hw => run_ld1 hu hd (hc w hw)) hk
section
variable (t : TypeId) (x y : Operand) (k : IntKind) (a b : Int)
theorem Qlss {t : TypeId} {x y : Operand} {k : IntKind} {a b : Int} (hk : K (.bool (decide (a < b)))) : QK P C (do pure (Next.value (← (do eqGuard .lss t x y (.int k a) (.int k b); binOp .lss t (.int k a) (.int k b))))) K := QB_of (fun _ => rfl) (fun w => by simp [go_sem]) hk
theorem Qleq {t : TypeId} {x y : Operand} {k : IntKind} {a b : Int} (hk : K (.bool (decide (a ≤ b)))) : QK P C (do pure (Next.value (← (do eqGuard .leq t x y (.int k a) (.int k b); binOp .leq t (.int k a) (.int k b))))) K := QB_of (fun _ => rfl) (fun w => by simp [go_sem]) hk
theorem Qgtr {t : TypeId} {x y : Operand} {k : IntKind} {a b : Int} (hk : K (.bool (decide (b < a)))) : QK P C (do pure (Next.value (← (do eqGuard .gtr t x y (.int k a) (.int k b); binOp .gtr t (.int k a) (.int k b))))) K := QB_of (fun _ => rfl) (fun w => by simp [go_sem]) hk
theorem Qgeq {t : TypeId} {x y : Operand} {k : IntKind} {a b : Int} (hk : K (.bool (decide (b ≤ a)))) : QK P C (do pure (Next.value (← (do eqGuard .geq t x y (.int k a) (.int k b); binOp .geq t (.int k a) (.int k b))))) K := QB_of (fun _ => rfl) (fun w => by simp [go_sem]) hk
theorem Qeql {t : TypeId} {x y : Operand} {k : IntKind} {a b : Int} (hk : K (.bool (a == b))) : QK P C (do pure (Next.value (← (do eqGuard .eql t x y (.int k a) (.int k b); binOp .eql t (.int k a) (.int k b))))) K := QB_of (fun _ => rfl) (fun w => by simp [go_sem]) hk
theorem Qneq {t : TypeId} {x y : Operand} {k : IntKind} {a b : Int} (hk : K (.bool (a != b))) : QK P C (do pure (Next.value (← (do eqGuard .neq t x y (.int k a) (.int k b); binOp .neq t (.int k a) (.int k b))))) K := QB_of (fun _ => rfl) (fun w => by simp [go_sem]) hk
theorem Qadd {t : TypeId} {x y : Operand} {k : IntKind} {a b : Int} (hk : K (.int k (k.wrap (a + b)))) : QK P C (do pure (Next.value (← (do eqGuard .add t x y (.int k a) (.int k b); binOp .add t (.int k a) (.int k b))))) K := QB_of (fun _ => rfl) (fun w => by simp [go_sem]) hk
end
theorem Qlen_s {t ty : TypeId} (h : P.underlying t = some .string) (cs : Array Bool) (s : ByteArray) (hk : K (.int .i64 s.size)) : QK P C (builtin .len #[t] ty cs [Value.string s].toArray) K := by
  refine ⟨_, fun w _ => ?_, hk⟩
  have : (builtin .len #[t] ty cs [Value.string s].toArray).run P w = .ok (.value (.int .i64 s.size)) w := by simp [builtin, run_len_string w t ty s h, goInt]
  rw [this]
  exact ⟨rfl, rfl⟩
theorem Qmin {ts : Array TypeId} {ty : TypeId} {cs : Array Bool} {k k' : IntKind} {a b : Int} (hk : K (.int k (if b < a then b else a))) : QK P C (builtin .min ts ty cs [Value.int k a, Value.int k' b].toArray) K := by
  refine ⟨_, fun w _ => ?_, hk⟩
  have : (builtin .min ts ty cs [Value.int k a, Value.int k' b].toArray).run P w = .ok (.value (.int k (if b < a then b else a))) w := by simp [builtin, run_min_int2]
  rw [this]
  exact ⟨rfl, rfl⟩
/-- A call, by its contract, in every world of the class. -/
theorem QC_rt {f : FuncId} {fn : Func} {args : Array Value} {R : World → Value → World → Prop} {v : Value} (hf : P.funcs[f]? = some fn) (hb : fn.body.isNone = false) (hn : (fn.name == "runtime.NumGoroutine") = false)
    (h : ∀ w, C w → Rt P f args w (R w)) (hR : ∀ w u w', C w → R w u w' → u = v ∧ C w') (hk : K v) : QK P C (do let d ← Deferred.ofValue (.func (.func f) #[] #[]) args; invoke d.target d.args) K :=
  QC_st hf hb hn (fun w hw => Calls.mono (h w hw) fun e w' ⟨u, he, hu⟩ => by obtain ⟨rfl, hc⟩ := hR w u w' hw hu; exact ⟨he, hc⟩) hk
end
/-- A store into a block's cell. -/
theorem st_k {P : Program} {w : World} {K : Value → World → Prop} {t ty : TypeId} {b o : Nat} {cs : Array Value} {v : Value} (hc1 : P.cellsOf t = 1) (hv : v.oneCell' = true) (hb : w.heap[b]? = some (.cells cs ty (0, 0))) (ho : o < cs.size)
    (hk : ∀ w', w'.heap[b]? = some (.cells (cs.setIfInBounds o v) ty (0, 0)) → (∀ i, i ≠ b → w'.heap[i]? = w.heap[i]?) → w'.heap.size = w.heap.size → Mod (fun k => k = b) w w' → K undef w') : UK P (Instr.storeAt t (.pointer (some ⟨b, o, none⟩)) v) w K :=
  st1 hc1 hv hb ho (hk _ (setB_new _ _ _ (X.blk_lt hb)) (fun i hi => setB_old _ _ _ _ hi) (setB_size _ _ _) ((Mod.refl _ w).set _ (fun _ => rfl)))
end Go.X
