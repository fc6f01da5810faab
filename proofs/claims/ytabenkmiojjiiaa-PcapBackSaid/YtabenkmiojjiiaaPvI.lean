/-
  The machine of plain values, 9: variables and rows that are made.
-/
import Derived.Test.YtabenkmiojjiiaaPvH
namespace Go.Pv
section
variable {P : Program} {w w' : World} {γ γ' : Gh} {fr : Fr} {a : Act} {H H' : Hp}
theorem info_of_zero {t : TypeId} {z : Value} (h : zeroOf P t = some z) : ∃ i, P.info? t = some i ∧ i.zero = some z ∧ P.cellsOf t = i.size ∧ P.bytesOf t = i.bytes := by
  unfold zeroOf at h
  obtain ⟨i, hi, hz⟩ := Option.bind_eq_some_iff.1 h
  exact ⟨i, hi, hz, by simp [Program.cellsOf, hi], by simp [Program.bytesOf, hi]⟩
theorem EffV.of {s : Sem Value} {v : Value} {x : AV} (hr : s.run P w = .ok v w') (hs : Sim w' γ' x v) (h : HRel γ' H' w' ∧ Step γ γ' w w' ∧ Ids γ γ') : EffV P γ w s x H' := ⟨v, w', γ', hr, hs, h.1, h.2.1, h.2.2⟩
theorem EffV.same {s : Sem Value} {v : Value} {x : AV} (hh : HRel γ H w) (hr : s.run P w = .ok v w) (hs : Sim w γ x v) : EffV P γ w s x H := ⟨v, w, γ, hr, hs, hh, Step.refl _ _, Ids.refl _⟩
/-- A new variable. -/
theorem var_new (hh : HRel γ H w) {base : Nat} {r : Option Nat} {ty : TypeId} {X x : AV} (hn : newVar base r H ty X = some (x, H')) {s : Sem Value} {cs : Array Value} (hr : s.run P w = .ok (.pointer (some ⟨w.heap.size, 0, none⟩)) (w.alloc (.cells cs ty)))
    (hc : CellsR w γ X.flat cs) : EffV P γ w s x H' := by
  unfold newVar at hn
  obtain ⟨⟨id, H1⟩, hn1, he⟩ := Option.map_eq_some_iff.1 hn
  simp only [Prod.mk.injEq] at he
  obtain ⟨rfl, rfl⟩ := he
  have hnew := heap_alloc_new w (.cells cs ty)
  have key := hrel_new hh hn1 (ge := ⟨some w.heap.size, cs.size, 1, 2⟩) rfl (old_alloc γ w (.cells cs ty)) (fun b hb => heap_alloc_old w _ hb) (fun g hg => by cases hg; exact Nat.le_refl _) (fun ad => by
    refine RowC.ok (cs := cs) (fz := (0, 0)) ?_ hnew (by simp) (.inl rfl) (by simp)
    intro i y hy
    cases i with
    | succ i => simp at hy
    | zero =>
      simp only [List.getElem?_cons_zero, Option.some.injEq] at hy
      subst hy
      refine ⟨hc.1.symm, fun j y hy => ?_⟩
      obtain ⟨u, h1, h2, h3⟩ := hc.2 j y hy
      exact ⟨u, by simpa using h1, h3, h2.adv ad⟩)
  refine EffV.of hr ?_ key
  have := Sim.eptr (w := w.alloc (.cells cs ty)) (γ := γ.add id ⟨some w.heap.size, cs.size, 1, 2⟩) id 0 0 w.heap.size _ (Gh.add_same _ _ _) rfl
  simpa using this
theorem ofVal_not_agg (v : Value) (cs : List AV) : ofVal v ≠ .agg cs := by
  intro h
  cases v <;> simp only [ofVal] at h <;> try (cases h; done)
  · split at h <;> cases h
  · split at h
    · rename_i g _ _ _; cases g <;> cases h
    · cases h
theorem flat_one {x : AV} (h : ∀ cs, x ≠ .agg cs) : x.flat = [x] := by cases x <;> first | rfl | exact absurd rfl (h _)
theorem flat_ofZero (z : Value) : (ofZero z).flat = z.cells.toList.map ofVal := by
  cases z <;> try rfl
  · rename_i a n c; exact flat_one (x := ofVal (.slice a n c)) (ofVal_not_agg _)
  · rename_i f a c; exact flat_one (x := ofVal (.func f a c)) (ofVal_not_agg _)
theorem ofZero_cells {z : Value} (h : z.cells.all oneV = true) : CellsR w γ (ofZero z).flat z.cells := by
  rw [flat_ofZero]
  have h' : z.cells.toList.all Value.oneCell' = true := by
    rw [List.all_eq_true]
    intro x hx
    rw [← oneV_eq]
    exact (Array.all_eq_true_iff_forall_mem.1 h) x (by simpa using hx)
  simpa using ofVals (w := w) (γ := γ) z.cells.toList h'
theorem alloc_eff (hh : HRel γ H w) {base : Nat} {r : Option Nat} {t : TypeId} {z : Value} {x : AV} (hz : zeroOf P t = some z) (ho : z.cells.all oneV = true) (h : newVar base r H t (ofZero z) = some (x, H')) :
    EffV P γ w (Instr.alloc t true (.tuple #[])) x H' :=
  var_new hh h (cs := z.cells) (by simp [Instr.alloc, zero_run hz, _root_.Go.newVar, newRow]) (ofZero_cells ho)
theorem box_eff (hh : HRel γ H w) {base : Nat} {r : Option Nat} {t : TypeId} {X x : AV} {v : Value} (hs : Sim w γ X v) (ho : X.ones = true) (h : newVar base r H t X = some (x, H')) : EffV P γ w (Instr.box t v) x H' :=
  var_new hh h (cs := v.cells) (by simp [Instr.box, _root_.Go.newVar, newRow]) ⟨(ones_cells hs ho).1, fun i y hy => (ones_cells hs ho).2 i y hy⟩
/-- A new row. -/
theorem row_new (hh : HRel γ H w) {base : Nat} {r : Option Nat} {ty : TypeId} {sz C : Nat} {es : List AV} {x : AV} (hn : newVec base r H sz ty es = some (x, H')) {s : Sem Value} {cs : Array Value} {fz : Nat × Nat}
    (hr : s.run P w = .ok (.slice (some ⟨w.heap.size, 0, none⟩) es.length C) w') (ho : Old γ w w') (hk : ∀ b, b < w.heap.size → w'.heap[b]? = w.heap[b]?) (hw : w'.heap[w.heap.size]? = some (.cells cs ty fz))
    (hs : cs.size = C * sz) (hfz : fz.1 = fz.2 ∨ cs.size ≤ fz.1) (hle : es.length ≤ C) (hc : RowC w γ sz es cs.toList) : EffV P γ w s x H' := by
  unfold newVec at hn
  obtain ⟨⟨id, H1⟩, hn1, he⟩ := Option.map_eq_some_iff.1 hn
  simp only [Prod.mk.injEq] at he
  obtain ⟨rfl, rfl⟩ := he
  have key := hrel_new hh hn1 (ge := ⟨some w.heap.size, sz, C, 2⟩) rfl ho hk (fun g hg => by cases hg; exact Nat.le_refl _) (fun ad => (hc.adv ad).ok hw hs hfz hle)
  refine EffV.of hr ?_ key
  exact .vec id sz 0 es.length _ C _ (Gh.add_same _ _ _) rfl (by simpa using hle) rfl (fun h => by cases h) (fun g hg _ => by cases hg; simp)
/-- A row without room. -/
theorem row_none (hh : HRel γ H w) {base : Nat} {r : Option Nat} {ty : TypeId} {sz : Nat} {x : AV} (hn : newVec base r H sz ty [] = some (x, H')) {s : Sem Value} {A : Option Addr}
    (hr : s.run P w = .ok (.slice A 0 0) w) : EffV P γ w s x H' := by
  unfold newVec at hn
  obtain ⟨⟨id, H1⟩, hn1, he⟩ := Option.map_eq_some_iff.1 hn
  simp only [Prod.mk.injEq] at he
  obtain ⟨rfl, rfl⟩ := he
  have key := hrel_new hh hn1 (ge := ⟨none, sz, 0, 2⟩) rfl (w' := w) ⟨rfl, rfl, rfl, Nat.le_refl _, fun _ _ _ => rfl⟩ (fun _ _ => rfl) (fun g hg => by cases hg) (fun ad => .inr ⟨rfl, .inl ⟨rfl, rfl, rfl⟩⟩)
  refine EffV.of hr ?_ key
  exact .vec id sz 0 0 _ 0 _ (Gh.add_same _ _ _) rfl (Nat.le_refl _) rfl (fun _ => rfl) (fun g hg _ => by cases hg)
theorem zero_row {z : Value} (ho : z.cells.all oneV = true) {n m : Nat} (hm : n * z.cells.size ≤ m) : RowC w γ z.cells.size (List.replicate n (ofZero z)) (madeCells z.cells m).toList := by
  intro i x hx
  rw [List.getElem?_replicate] at hx
  split at hx
  case isFalse => cases hx
  rename_i hi
  cases hx
  have hc := ofZero_cells (w := w) (γ := γ) ho
  refine ⟨hc.1.symm, fun j y hy => ?_⟩
  obtain ⟨u, h1, h2, h3⟩ := hc.2 j y hy
  have hj : j < z.cells.size := (Array.getElem?_eq_some_iff.1 h1).1
  refine ⟨u, ?_, h3, h2⟩
  have hlt : i * z.cells.size + j < m := by
    have : (i + 1) * z.cells.size ≤ n * z.cells.size := Nat.mul_le_mul_right _ hi
    rw [Nat.add_mul, Nat.one_mul] at this
    omega
  have hmod : (i * z.cells.size + j) % z.cells.size = j := by
    rw [Nat.add_comm, Nat.add_mul_mod_self_right, Nat.mod_eq_of_lt hj]
  obtain ⟨_, hget⟩ := Array.getElem?_eq_some_iff.1 h1
  simp [madeCells, hlt, hmod, hj, hget]
theorem parts_run {sz : Nat} : ∀ (ps : List (Nat × Value)) (qs : List (Nat × AV)) (es : List AV) (cs : Array Value) (zs : List AV),
    ps.length = qs.length → (∀ (i : Nat) (p : Nat × Value) (q : Nat × AV), ps[i]? = some p → qs[i]? = some q → p.1 = q.1 ∧ Sim w γ q.2 p.2) →
    RowC w γ sz es cs.toList → cs.size = es.length * sz → setParts sz es qs = some zs →
    ∃ ds, Instr.fill (fun i => some (i * sz, sz)) cs ps = some ds ∧ RowC w γ sz zs ds.toList ∧ ds.size = zs.length * sz ∧ zs.length = es.length
  | [], [], es, cs, zs, _, _, hr, hs, h => by cases h; exact ⟨cs, rfl, hr, hs, rfl⟩
  | (i, v) :: ps, (k, V) :: qs, es, cs, zs, hl, hp, hr, hsz, h => by
    obtain ⟨hp0, hs⟩ := hp 0 _ _ rfl rfl
    dsimp only at hp0 hs
    subst hp0
    simp only [setParts] at h
    split at h
    case isFalse => cases h
    rename_i hc
    obtain ⟨ho, hn, hle⟩ := hc
    obtain ⟨hvs, hcell⟩ := ones_cells hs ho
    have hlt : i * sz + sz ≤ cs.size := by
      have : (i + 1) * sz ≤ es.length * sz := Nat.mul_le_mul_right _ hle
      rw [Nat.add_mul, Nat.one_mul] at this
      omega
    simp only [Instr.fill]
    rw [if_neg (by simp only [Bool.or_eq_true, decide_eq_true_eq, not_or]; omega)]
    obtain ⟨f1, f2⟩ := foldl_set_arr (i * sz) v.cells cs (by omega)
    obtain ⟨ds, hd1, hd2, hd3, hd4⟩ := parts_run (sz := sz) ps qs (es.set i V) _ zs (by simpa using hl) (fun j p q h1 h2 => hp (j + 1) p q (by simpa using h1) (by simpa using h2)) (by
      intro j x hx
      by_cases hj : j = i
      · subst hj
        rw [List.getElem?_set_self hle] at hx
        cases hx
        refine ⟨hn, fun k y hy => ?_⟩
        obtain ⟨u, h1, h2, h3⟩ := hcell k y hy
        have hk : k < v.cells.size := (Array.getElem?_eq_some_iff.1 h1).1
        refine ⟨u, ?_, h3, h2⟩
        rw [Array.getElem?_toList, f2, if_pos (by omega), Nat.add_sub_cancel_left]
        exact h1
      · rw [List.getElem?_set_ne (fun e => hj e.symm)] at hx
        refine ⟨(hr j x hx).1, fun k y hy => ?_⟩
        obtain ⟨u, h1, h2, h3⟩ := (hr j x hx).2 k y hy
        refine ⟨u, ?_, h2, h3⟩
        have hk : k < sz := by
          have := (List.getElem?_eq_some_iff.1 hy).1
          rw [(hr j x hx).1] at this; exact this
        rw [Array.getElem?_toList] at h1 ⊢
        rw [f2, if_neg ?_]
        · exact h1
        · rcases Nat.lt_or_ge j i with hji | hji
          · have : (j + 1) * sz ≤ i * sz := Nat.mul_le_mul_right _ hji
            rw [Nat.add_mul, Nat.one_mul] at this
            omega
          · have : (i + 1) * sz ≤ j * sz := Nat.mul_le_mul_right _ (by omega)
            rw [Nat.add_mul, Nat.one_mul] at this
            omega) (by rw [f1, hsz]; simp) h
    exact ⟨ds, hd1, hd2, hd3, by rw [hd4]; simp⟩
  | [], _ :: _, _, _, _, hl, _, _, _, _ => by simp at hl
  | _ :: _, [], _, _, _, hl, _, _, _, _ => by simp at hl
theorem mks_eff (hh : HRel γ H w) (hf : FrR w γ fr a.tmps) {base : Nat} {r : Option Nat} {t e : TypeId} {len : Nat} {z : Value} {parts : Array (Nat × Operand)} {x : AV} (ht : P.underlying t = some (.slice e)) (hz : zeroOf P e = some z)
    (hsz : z.cells.size = P.cellsOf e) (ho : z.cells.all oneV = true) (hle : len * P.cellsOf e ≤ 16777216)
    (h : evE base r fr H (.mks e (P.cellsOf e) (ofZero z) len (parts.toList.map fun p => (p.1, cx p.2))) = some (x, H')) :
    EffV P γ w (Instr.buildSlice t len (parts.map fun p => (p.1, a.eval p.2))) x H' := by
  simp only [evE] at h
  obtain ⟨es, hes, h⟩ := Option.bind_eq_some_iff.1 h
  rw [List.map_map] at hes
  obtain ⟨i, hi, hzz, hci, _⟩ := info_of_zero hz
  have hrow := zero_row (w := w) (γ := γ) ho (n := len) (m := len * z.cells.size) (Nat.le_refl _)
  obtain ⟨ds, hd1, hd2, hd3, hd4⟩ := parts_run (w := w) (γ := γ) (parts.toList.map fun p => (p.1, a.eval p.2)) _ _ _ es (by simp) (by
    intro i p q h1 h2
    rw [List.getElem?_map] at h1 h2
    obtain ⟨p0, hp0, rfl⟩ := Option.map_eq_some_iff.1 h1
    rw [hp0] at h2
    simp only [Option.map_some, Option.some.injEq] at h2
    subst h2
    exact ⟨rfl, cx_sim hf p0.2⟩) (hsz ▸ hrow) (by rw [size_madeCells, List.length_replicate, ← hsz]) hes
  have hlen : es.length = len := by rw [hd4, List.length_replicate]
  have hnot : ¬ 2 ^ 24 < len * i.size := by rw [← hci]; omega
  refine row_new hh h (cs := ds) (fz := (0, 0)) (C := len) (w' := w.alloc (.cells ds e)) ?_ (old_alloc _ _ _) (fun b hb => heap_alloc_old w _ hb) (heap_alloc_new w _) (by rw [hd3, hlen]) (.inl rfl) (by omega) hd2
  rw [hlen]
  have hparts : (parts.map fun p => (p.1, a.eval p.2)).toList = parts.toList.map fun p => (p.1, a.eval p.2) := by simp
  by_cases h0 : len * i.size = 0
  · have hmade : madeCells z.cells (len * z.cells.size) = #[] := by
      rw [hsz, hci, h0]; simp [madeCells, Array.range_zero']
    rw [← hsz, hmade, hsz, hci] at hd1
    simp [Instr.buildSlice, run_underlying ht, sizeOf, typeInfo, hi, h0, newRow, Array.range_zero', hd1]
  · rw [hci] at hd1
    unfold madeCells at hd1
    simp [Instr.buildSlice, run_underlying ht, sizeOf, typeInfo, zeroValue, hi, hzz, hnot, h0, newRow, hd1]
theorem bound_inv {hi n : Nat} {X : AV} (h : bound hi X = some n) : ∃ k z, X = .int k z ∧ 0 ≤ z ∧ z ≤ hi ∧ n = z.toNat := by
  cases X <;> simp only [bound] at h <;> try (cases h; done)
  rename_i k z
  split at h
  · rename_i hz
    cases h
    exact ⟨k, z, rfl, hz.1, hz.2, rfl⟩
  · cases h
theorem make_eff (hh : HRel γ H w) (hf : FrR w γ fr a.tmps) {base : Nat} {r : Option Nat} {t e : TypeId} {l c : Operand} {z : Value} {x : AV} (ht : P.underlying t = some (.slice e)) (hz : zeroOf P e = some z)
    (hsz : z.cells.size = P.cellsOf e) (ho : z.cells.all oneV = true) (hby : P.bytesOf e ≤ 1000)
    (h : evE base r fr H (.make e (P.cellsOf e) (ofZero z) (cx l) (cx c)) = some (x, H')) : EffV P γ w (Instr.makeSlice t (a.eval l) (a.eval c)) x H' := by
  simp only [evE] at h
  obtain ⟨C, hC, h⟩ := Option.bind_eq_some_iff.1 h
  obtain ⟨n, hn, h⟩ := Option.bind_eq_some_iff.1 h
  obtain ⟨i, hi, hzz, hci, hbi⟩ := info_of_zero hz
  have sl := cx_sim hf l
  have sc := cx_sim hf c
  obtain ⟨kc, cn, ec, hc0, hcl, rfl⟩ := bound_inv hC
  obtain ⟨kl, ln, el, hl0, hll, rfl⟩ := bound_inv hn
  rw [ec] at sc
  rw [el] at sl
  rw [int_inv sl, int_inv sc]
  have hlim : (lim : Int) = 1000000000 := rfl
  have hb : (i.bytes : Int) * cn ≤ 281474976710656 := by
    have h1 : (i.bytes : Int) ≤ 1000 := by rw [← hbi]; omega
    have h2 : (i.bytes : Int) * cn ≤ 1000 * cn := Int.mul_le_mul_of_nonneg_right h1 hc0
    omega
  have hr := run_make (P := P) w t e i z ht hi hzz kl kc ln cn hl0 (by omega) hb (by omega)
  refine row_new hh h (cs := madeCells z.cells (cn.toNat * i.size)) (fz := (0, 0)) (C := cn.toNat) (by rw [List.length_replicate]; exact hr) (old_alloc _ _ _) (fun b hb => heap_alloc_old w _ hb) (heap_alloc_new w _) (by rw [size_madeCells, hci]) (.inl rfl) (by simp; omega) ?_
  rw [← hsz]
  exact zero_row ho (by rw [hsz, hci]; exact Nat.mul_le_mul_right _ (by omega))
theorem s2b_eff (hh : HRel γ H w) {base : Nat} {r : Option Nat} {s d e : TypeId} (hs : P.underlying s = some .string) (hd : P.underlying d = some (.slice e)) (he : P.underlying e = some (.int .u8)) {X : AX} {v : Value} {x : AV} (hx : Sim w γ (X.ev fr) v)
    (h : evE base r fr H (.s2b e X) = some (x, H')) : EffV P γ w (convert s d v) x H' := by
  simp only [evE] at h
  generalize X.ev fr = XX at *
  cases XX <;> try (cases h; done)
  rename_i s'
  dsimp only at h
  split at h
  case isFalse => cases h
  rename_i hl
  rw [str_inv hx]
  have hr := Lib.run_convert_string_bytes (P := P) w s d e ⟨s'.toArray⟩ hs hd he
  have hsize : (⟨s'.toArray⟩ : ByteArray).size = s'.length := size_mk s'
  have hge := grownCap_ge w s'.length 0 e
  have hcs : (Lib.bytesCells w e ⟨s'.toArray⟩).size = grownCap w s'.length 0 e := by
    simp [Lib.bytesCells, hsize]; omega
  refine row_new hh h (w' := Lib.bytesWorld w e ⟨s'.toArray⟩) (cs := Lib.bytesCells w e ⟨s'.toArray⟩) (fz := ((Lib.bytesCells w e ⟨s'.toArray⟩).size, (Lib.bytesCells w e ⟨s'.toArray⟩).size + 1)) (C := grownCap w s'.length 0 e) (by rw [List.length_map]; rw [hsize] at hr; exact hr) ⟨rfl, rfl, rfl, by rw [Lib.bytesWorld_size]; omega, fun b hb _ => Lib.bytesWorld_at_old w e _ b hb⟩
    (fun b hb => Lib.bytesWorld_at_old w e _ b hb) (Lib.bytesWorld_at_new w e _) (by rw [hcs, Nat.mul_one]) (.inr (Nat.le_refl _)) (by rw [List.length_map]; exact hge) ?_
  intro i y hy
  rw [List.getElem?_map] at hy
  obtain ⟨b, hb, rfl⟩ := Option.map_eq_some_iff.1 hy
  refine ⟨rfl, fun j y hj => ?_⟩
  cases j with
  | succ j => simp [bv, AV.flat] at hj
  | zero =>
    simp only [bv, AV.flat, List.getElem?_cons_zero, Option.some.injEq] at hj
    subst hj
    refine ⟨.int .u8 b.toNat, ?_, rfl, .int _ _⟩
    have hi : i < s'.length := (List.getElem?_eq_some_iff.1 hb).1
    simp [Lib.bytesCells]
    rw [List.getElem?_append_left (by simpa using hi)]
    simp [hb]
end
end Go.Pv
