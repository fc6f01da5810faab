/-
  The machine of plain values, 5: structs put together; each operation that looks at no memory.
-/
import Derived.Test.YtabenkmiojjiiaaPvD
namespace Go.Pv
section
variable {P : Program} {w : World} {γ : Gh} {fr : Fr} {a : Act}
theorem one_val {x : AV} {v : Value} (h : Sim w γ x v) (ho : x.one = true) : v.oneCell' = true ∧ v.cells = #[v] := by
  cases h <;> simp_all [AV.one, Value.oneCell', Value.cells]
  split at ho <;> simp_all
theorem ones_cells {x : AV} {v : Value} (h : Sim w γ x v) (ho : x.ones = true) : v.cells.size = x.flat.length ∧
    ∀ (j : Nat) (y : AV), x.flat[j]? = some y → ∃ u, v.cells[j]? = some u ∧ Sim w γ y u ∧ u.oneCell' = true := by
  unfold AV.ones at ho
  by_cases hx : ∃ xs, x = .agg xs
  · obtain ⟨xs, rfl⟩ := hx
    obtain ⟨cs, rfl, hz, hs⟩ := agg_inv h
    simp only [AV.flat] at ho ⊢
    refine ⟨by simp [Value.cells, hz], fun j y hj => ?_⟩
    have hlt := (List.getElem?_eq_some_iff.1 hj).1
    have hc : cs[j]? = some (cs[j]'(by omega)) := Array.getElem?_eq_getElem (by omega)
    have hsj := hs j y _ hj hc
    exact ⟨_, hc, hsj, (one_val hsj (List.all_eq_true.1 ho y (List.mem_of_getElem? hj))).1⟩
  · have hf : x.flat = [x] := by
      cases x <;> first | rfl | exact absurd ⟨_, rfl⟩ hx
    rw [hf] at ho ⊢
    simp only [List.all_cons, List.all_nil, Bool.and_true] at ho
    obtain ⟨h1, h2⟩ := one_val h ho
    refine ⟨by rw [h2]; rfl, fun j y hj => ?_⟩
    match j with
    | 0 => simp at hj; subst hj; exact ⟨v, by rw [h2]; rfl, h, h1⟩
    | j + 1 => simp at hj
/-- A list of cells and the values that they hold. -/
def CellsR (w : World) (γ : Gh) (xs : List AV) (cs : Array Value) : Prop := cs.size = xs.length ∧ ∀ (i : Nat) (x : AV), xs[i]? = some x → ∃ u, cs[i]? = some u ∧ Sim w γ x u ∧ u.oneCell' = true
theorem foldl_set_get (off : Nat) : ∀ (l : List Value) (s : Nat) (cs : Array Value), off + s + l.length ≤ cs.size →
    ((l.zipIdx s).foldl (fun cs p => cs.setIfInBounds (off + p.2) p.1) cs).size = cs.size ∧
    ∀ i, ((l.zipIdx s).foldl (fun cs p => cs.setIfInBounds (off + p.2) p.1) cs)[i]? = if off + s ≤ i ∧ i < off + s + l.length then l[i - (off + s)]? else cs[i]?
  | [], s, cs, _ => ⟨rfl, fun i => by simp; omega⟩
  | x :: l, s, cs, h => by
    simp only [List.zipIdx_cons, List.foldl_cons, List.length_cons] at h ⊢
    obtain ⟨h1, h2⟩ := foldl_set_get off l (s + 1) (cs.setIfInBounds (off + s) x) (by simp; omega)
    refine ⟨by rw [h1]; simp, fun i => ?_⟩
    rw [h2 i]
    by_cases hi : i = off + s
    · subst hi
      rw [if_neg (by omega), if_pos (by omega)]
      simp [Array.getElem?_setIfInBounds]
      omega
    · by_cases hr : off + (s + 1) ≤ i ∧ i < off + (s + 1) + l.length
      · rw [if_pos hr, if_pos (by omega)]
        rw [show i - (off + s) = (i - (off + (s + 1))) + 1 by omega, List.getElem?_cons_succ]
      · rw [if_neg hr, if_neg (by omega), Array.getElem?_setIfInBounds_ne (by omega)]
theorem foldl_set_arr (off : Nat) (v cs : Array Value) (h : off + v.size ≤ cs.size) :
    (v.zipIdx.foldl (fun cs p => cs.setIfInBounds (off + p.2) p.1) cs).size = cs.size ∧
    ∀ i, (v.zipIdx.foldl (fun cs p => cs.setIfInBounds (off + p.2) p.1) cs)[i]? = if off ≤ i ∧ i < off + v.size then v[i - off]? else cs[i]? := by
  have := foldl_set_get off v.toList 0 cs (by simpa using h)
  rw [← Array.foldl_toList, Array.toList_zipIdx]
  simpa using this
theorem fill_run (place : Nat → Option (Nat × Nat)) : ∀ (ps : List (Nat × Value)) (qs : List (Nat × Nat × AV)) (xs : List AV) (cs : Array Value) (zs : List AV),
    ps.length = qs.length → (∀ (i : Nat) (p : Nat × Value) (q : Nat × Nat × AV), ps[i]? = some p → qs[i]? = some q → place p.1 = some (q.1, q.2.1) ∧ Sim w γ q.2.2 p.2) →
    CellsR w γ xs cs → buildC xs qs = some zs → ∃ ds, Instr.fill place cs ps = some ds ∧ CellsR w γ zs ds
  | [], [], xs, cs, zs, _, _, hr, h => by cases h; exact ⟨cs, rfl, hr⟩
  | (i, v) :: ps, (off, n, V) :: qs, xs, cs, zs, hl, hp, hr, h => by
    obtain ⟨hp0, hs⟩ := hp 0 _ _ rfl rfl
    dsimp only at hp0 hs
    simp only [buildC] at h
    split at h
    case isFalse => cases h
    rename_i hc
    obtain ⟨ho, hn, hle⟩ := hc
    obtain ⟨hsz, hcell⟩ := ones_cells hs ho
    simp only [Instr.fill, hp0]
    have hcs0 := hr.1
    rw [if_neg (by simp only [Bool.or_eq_true, decide_eq_true_eq, not_or]; omega)]
    have hcs := hr.1
    obtain ⟨f1, f2⟩ := foldl_set_arr off v.cells cs (by omega)
    refine fill_run place ps qs _ _ zs (by simpa using hl) (fun j p q h1 h2 => hp (j + 1) p q (by simpa using h1) (by simpa using h2)) ⟨?_, ?_⟩ h
    · rw [f1, hr.1]; simp; omega
    · intro j x hx
      rw [f2 j]
      have htk : (xs.take off).length = off := by simp; omega
      by_cases h1 : j < off
      · rw [List.getElem?_append_left (by omega), List.getElem?_take, if_pos h1] at hx
        rw [if_neg (by omega)]
        exact hr.2 j x hx
      · rw [List.getElem?_append_right (by omega), htk] at hx
        by_cases h2 : j - off < V.flat.length
        · rw [List.getElem?_append_left h2] at hx
          rw [if_pos (by omega)]
          exact hcell _ _ hx
        · rw [List.getElem?_append_right (by omega), List.getElem?_drop] at hx
          rw [if_neg (by omega)]
          have := hr.2 _ _ hx
          rwa [show off + n + (j - off - V.flat.length) = j by omega] at this
  | [], _ :: _, _, _, _, hl, _, _, _ => by simp at hl
  | _ :: _, [], _, _, _, hl, _, _, _ => by simp at hl
theorem places_run : ∀ (fs : List Field), (fs.all fun f => tyOk P f.type) = true → (fs.mapM fun f => Prod.mk f.offset <$> sizeOf f.type).run P w = .ok (fs.map fun f => (f.offset, P.cellsOf f.type)) w
  | [], _ => rfl
  | f :: fs, h => by
    simp only [List.all_cons, Bool.and_eq_true] at h
    simp [List.mapM_cons, run_sizeOf h.1, places_run fs h.2]
theorem ofVals (zs : List Value) (h : zs.all Value.oneCell' = true) : CellsR w γ (zs.map ofVal) zs.toArray :=
  ⟨by simp, fun i x hx => by
    rw [List.getElem?_map] at hx
    obtain ⟨v, hv, rfl⟩ := Option.map_eq_some_iff.1 hx
    exact ⟨v, by simpa using hv, ofVal_sim w γ v, List.all_eq_true.1 h v (List.mem_of_getElem? hv)⟩⟩
theorem CellsR.agg {xs : List AV} {cs : Array Value} (h : CellsR w γ xs cs) : Sim w γ (.agg xs) (.agg cs) :=
  .agg xs cs h.1.symm fun i x v hx hv => by
    obtain ⟨u, hu, hs, _⟩ := h.2 i x hx
    rw [hv] at hu; cases hu; exact hs
theorem zero_run {t : TypeId} {z : Value} (h : zeroOf P t = some z) : (zeroValue t).run P w = .ok z w := by
  unfold zeroOf at h
  obtain ⟨i, hi, hz⟩ := Option.bind_eq_some_iff.1 h
  simp [zeroValue, typeInfo, hi, hz]
theorem oneV_eq (v : Value) : oneV v = v.oneCell' := by cases v <;> rfl
theorem buildS_run {t : TypeId} {fs : Array Field} {z : Array Value} (ht : P.underlying t = some (.struct fs)) (hz : zeroOf P t = some (.agg z)) (hone : z.all oneV = true) (hok : (fs.all fun f => tyOk P f.type) = true)
    (hf : FrR w γ fr a.tmps) {parts : Array (Nat × Operand)} (hin : (parts.all fun p => decide (p.1 < fs.size)) = true) {y : AV}
    (h : evP fr (.build (z.toList.map ofVal) (parts.toList.map fun p => ((fs.getD p.1 default).offset, P.cellsOf (fs.getD p.1 default).type, cx p.2))) = some y) :
    ∃ v, (Instr.build t (parts.map fun p => (p.1, a.eval p.2))).run P w = .ok v w ∧ Sim w γ y v := by
  simp only [evP] at h
  obtain ⟨zs, hzs, h⟩ := Option.map_eq_some_iff.1 h
  subst h
  rw [List.map_map] at hzs
  have hpl := places_run (P := P) (w := w) fs.toList (by simpa using hok)
  have hone' : z.toList.all Value.oneCell' = true := by
    rw [List.all_eq_true]
    intro x hx
    rw [← oneV_eq]
    exact (Array.all_eq_true_iff_forall_mem.1 hone) x (by simpa using hx)
  obtain ⟨ds, hds, hr⟩ := fill_run (w := w) (γ := γ) (fun i => (fs.map fun f => (f.offset, P.cellsOf f.type))[i]?) (parts.toList.map fun p => (p.1, a.eval p.2)) _ (z.toList.map ofVal) z zs (by simp) (by
    intro i p q h1 h2
    rw [List.getElem?_map] at h1 h2
    obtain ⟨p0, hp0, rfl⟩ := Option.map_eq_some_iff.1 h1
    rw [hp0] at h2
    simp only [Option.map_some, Option.some.injEq] at h2
    subst h2
    have hlt : p0.1 < fs.size := by
      have := (Array.all_eq_true_iff_forall_mem.1 hin) p0 (by simpa using List.mem_of_getElem? hp0)
      simpa using this
    refine ⟨?_, cx_sim hf _⟩
    simp [Function.comp, hlt]) (by simpa using ofVals (w := w) (γ := γ) z.toList hone') hzs
  refine ⟨.agg ds, ?_, hr.agg⟩
  simp only [Instr.build, Sem.run_bind, zero_run hz, Result.andThen_ok, run_underlying ht, Value.cells]
  simp only [Array.mapM_eq_mapM_toList, bind_pure_comp, Sem.run_map, hpl, Result.andThen_ok]
  have e : (fun (x : Nat) => (List.map (fun f => (f.offset, P.cellsOf f.type)) fs.toList).toArray[x]?) = (fun (i : Nat) => (fs.map fun f => (f.offset, P.cellsOf f.type))[i]?) := by
    funext i; simp
  rw [e, Array.toList_map, hds]
  rfl
theorem buildA_run {t e : TypeId} {n : Nat} {z : Array Value} (ht : P.underlying t = some (.array n e)) (hz : zeroOf P t = some (.agg z)) (hone : z.all oneV = true) (hok : tyOk P e = true)
    (hf : FrR w γ fr a.tmps) {parts : Array (Nat × Operand)} {y : AV}
    (h : evP fr (.build (z.toList.map ofVal) (parts.toList.map fun p => (p.1 * P.cellsOf e, P.cellsOf e, cx p.2))) = some y) :
    ∃ v, (Instr.build t (parts.map fun p => (p.1, a.eval p.2))).run P w = .ok v w ∧ Sim w γ y v := by
  simp only [evP] at h
  obtain ⟨zs, hzs, h⟩ := Option.map_eq_some_iff.1 h
  subst h
  rw [List.map_map] at hzs
  have hone' : z.toList.all Value.oneCell' = true := by
    rw [List.all_eq_true]
    intro x hx
    rw [← oneV_eq]
    exact (Array.all_eq_true_iff_forall_mem.1 hone) x (by simpa using hx)
  obtain ⟨ds, hds, hr⟩ := fill_run (w := w) (γ := γ) (fun i => some (i * P.cellsOf e, P.cellsOf e)) (parts.toList.map fun p => (p.1, a.eval p.2)) _ (z.toList.map ofVal) z zs (by simp) (by
    intro i p q h1 h2
    rw [List.getElem?_map] at h1 h2
    obtain ⟨p0, hp0, rfl⟩ := Option.map_eq_some_iff.1 h1
    rw [hp0] at h2
    simp only [Option.map_some, Option.some.injEq] at h2
    subst h2
    exact ⟨rfl, cx_sim hf _⟩) (by simpa using ofVals (w := w) (γ := γ) z.toList hone') hzs
  refine ⟨.agg ds, ?_, hr.agg⟩
  simp only [Instr.build, Sem.run_bind, zero_run hz, Result.andThen_ok, run_underlying ht, Value.cells, run_sizeOf hok]
  rw [Array.toList_map, hds]
  rfl
theorem mkfn_sim {f : FuncId} {caps : Array Operand} (hf : FrR w γ fr a.tmps) : Sim w γ (.fn f ((caps.toList.map cx).map (·.ev fr))) (.func (.func f) #[] (caps.map a.eval)) := by
  refine .fn _ _ _ (by simp) fun i x v hx hv => ?_
  rw [List.map_map, List.getElem?_map] at hx
  obtain ⟨o, ho, rfl⟩ := Option.map_eq_some_iff.1 hx
  rw [Array.getElem?_map] at hv
  have : caps[i]? = some o := by simpa using ho
  rw [this] at hv
  cases hv
  exact cx_sim hf o
end
end Go.Pv
