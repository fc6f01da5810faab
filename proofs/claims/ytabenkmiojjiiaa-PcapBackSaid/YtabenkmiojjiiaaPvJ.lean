/-
  The machine of plain values, 10: rows that are written, and grown.
-/
import Derived.Test.YtabenkmiojjiiaaPvI
namespace Go.Pv
section
variable {P : Program} {w w' : World} {γ γ' : Gh} {fr : Fr} {a : Act} {H H' : Hp}
theorem setCells_same (g : Nat) : ∀ (vs : List Value) (o : Nat) (w : World), (w.setCells g o vs).os = w.os ∧ (w.setCells g o vs).tape = w.tape ∧ (w.setCells g o vs).output = w.output ∧ (w.setCells g o vs).heap.size = w.heap.size ∧ ∀ b, b ≠ g → (w.setCells g o vs).heap[b]? = w.heap[b]?
  | [], o, w => ⟨rfl, rfl, rfl, rfl, fun _ _ => rfl⟩
  | v :: r, o, w => by
    obtain ⟨h1, h2, h3, h4, h5⟩ := setCells_same g r (o + 1) (w.setCell ⟨g, o, none⟩ v)
    refine ⟨h1, h2, h3, by rw [World.setCells, h4]; simp [World.setCell], fun b hb => ?_⟩
    rw [World.setCells, h5 b hb]
    exact heap_setCell_other w _ b v hb
theorem setCell_blk {g o : Nat} {cs : Array Value} {t : TypeId} {fz : Nat × Nat} (hw : w.heap[g]? = some (.cells cs t fz)) (v : Value) : (w.setCell ⟨g, o, none⟩ v).heap[g]? = some (.cells (cs.setIfInBounds o v) t fz) := by
  rw [setCell_eq_setRow w g o cs t fz v hw]
  exact setRow_heap w g cs _ t _ hw
theorem setCells_blk {g : Nat} {t : TypeId} {fz : Nat × Nat} : ∀ (vs : List Value) (o : Nat) (w : World) (cs : Array Value), w.heap[g]? = some (.cells cs t fz) → o + vs.length ≤ cs.size →
    ∃ ds : Array Value, (w.setCells g o vs).heap[g]? = some (.cells ds t fz) ∧ ds.size = cs.size ∧ ∀ i, ds[i]? = if o ≤ i ∧ i < o + vs.length then vs[i - o]? else cs[i]?
  | [], o, w, cs, hw, _ => ⟨cs, hw, rfl, fun i => by rw [if_neg (by simp only [List.length_nil]; omega)]⟩
  | v :: r, o, w, cs, hw, hl => by
    have hlo : o < cs.size := by simp at hl; omega
    obtain ⟨ds, h1, h2, h3⟩ := setCells_blk r (o + 1) (w.setCell ⟨g, o, none⟩ v) (cs.setIfInBounds o v) (setCell_blk hw v) (by simp at hl ⊢; omega)
    refine ⟨ds, h1, by rw [h2]; simp, fun i => ?_⟩
    rw [h3]
    by_cases hi : i = o
    · subst hi
      rw [if_neg (by omega), if_pos (by simp), Nat.sub_self]
      simp [hlo]
    · by_cases h4 : o + 1 ≤ i ∧ i < o + 1 + r.length
      · rw [if_pos h4, if_pos (by simp; omega), show i - o = (i - (o + 1)) + 1 by omega]
        rfl
      · rw [if_neg h4, if_neg (by simp; omega), Array.getElem?_setIfInBounds_ne (by omega)]
theorem old_set {id g : Nat} {ge : GE} (hm : γ.m id = some ge) (hst : ge.st = 2) (hg : ge.blk = some g) (o : Nat) (vs : List Value) : Old γ w (w.setCells g o vs) := by
  obtain ⟨h1, h2, h3, h4, h5⟩ := setCells_same g vs o w
  refine ⟨h1, h2, h3, by rw [h4]; exact Nat.le_refl _, fun b _ hb => h5 b fun e => hb ?_⟩
  subst e
  exact ⟨id, ge, hm, hst, hg⟩
theorem wr_live {e : Ent} {ge : GE} (h : EntOk w γ e ge) (hw : e.wr = true) : ge.st = 2 := by
  have := (h.live (.inl hw)).1
  rw [hw] at this; exact this
/-- What a live, placed row is. -/
theorem placed {e : Ent} {ge : GE} {g : Nat} (h : EntOk w γ e ge) (hw : e.wr = true) (hg : ge.blk = some g) : ∃ cs fz, w.heap[g]? = some (.cells cs e.ty fz) ∧ cs.size = ge.C * ge.sz ∧ (fz.1 = fz.2 ∨ cs.size ≤ fz.1) ∧ e.es.length ≤ ge.C ∧ RowC w γ ge.sz e.es cs.toList := by
  rcases (h.live (.inl hw)).2 with ⟨h1, _⟩ | ⟨g', cs, fr, h1, h2, h3, h4, h5, h6⟩
  · rw [h1] at hg; cases hg
  · rw [h1] at hg; cases hg
    exact ⟨cs, fr, h2, h3, h4, h5, fun i x hx => ⟨(h6 i x hx).1, fun j y hy => by
      obtain ⟨u, hu⟩ := (h6 i x hx).2 j y hy
      exact ⟨u, by simpa using hu⟩⟩⟩
theorem blk_cell {g o : Nat} {cs : Array Value} {t : TypeId} {fz : Nat × Nat} (hw : w.heap[g]? = some (.cells cs t fz)) (ho : o < cs.size) : (w.cell? ⟨g, o, none⟩).isSome = true := by simp [World.cell?, hw, ho]
theorem blk_froz {g o : Nat} {cs : Array Value} {t : TypeId} {fz : Nat × Nat} (hw : w.heap[g]? = some (.cells cs t fz)) (hf : fz.1 = fz.2 ∨ cs.size ≤ fz.1) (ho : o < cs.size) : w.frozen? ⟨g, o, none⟩ = false := by
  obtain ⟨lo, hi⟩ := fz
  simp only [World.frozen?, hw, Bool.and_eq_false_iff, decide_eq_false_iff_not]
  simp only at hf
  omega
/-- es with fs laid over it from k on. -/
theorem RowC.lay {sz k : Nat} {es fs : List AV} {cs ds vs : List Value} (h : RowC w γ sz es cs) (hf : RowC w γ sz fs vs) (hvs : vs.length = fs.length * sz) (hk : k ≤ es.length)
    (hd : ∀ i, ds[i]? = if k * sz ≤ i ∧ i < k * sz + vs.length then vs[i - k * sz]? else cs[i]?) : RowC w γ sz (es.take k ++ (fs ++ es.drop (k + fs.length))) ds := by
  intro i x hx
  have htk : (es.take k).length = k := by simp; omega
  by_cases h1 : i < k
  · rw [List.getElem?_append_left (by omega), List.getElem?_take, if_pos h1] at hx
    refine ⟨(h i x hx).1, fun j y hy => ?_⟩
    obtain ⟨u, h2, h3⟩ := (h i x hx).2 j y hy
    refine ⟨u, ?_, h3⟩
    have hj : j < sz := by
      have := (List.getElem?_eq_some_iff.1 hy).1
      rw [(h i x hx).1] at this; exact this
    have : (i + 1) * sz ≤ k * sz := Nat.mul_le_mul_right _ h1
    rw [Nat.add_mul, Nat.one_mul] at this
    rw [hd, if_neg (by omega)]; exact h2
  · rw [List.getElem?_append_right (by omega), htk] at hx
    by_cases h2 : i - k < fs.length
    · rw [List.getElem?_append_left h2] at hx
      refine ⟨(hf _ x hx).1, fun j y hy => ?_⟩
      obtain ⟨u, h3, h4⟩ := (hf _ x hx).2 j y hy
      refine ⟨u, ?_, h4⟩
      have e : i * sz + j = k * sz + ((i - k) * sz + j) := by
        rw [← Nat.add_assoc, ← Nat.add_mul]; congr 2; omega
      have hlt := (List.getElem?_eq_some_iff.1 h3).1
      rw [hd, e, if_pos (by omega), Nat.add_sub_cancel_left]; exact h3
    · rw [List.getElem?_append_right (by omega), List.getElem?_drop] at hx
      rw [show k + fs.length + (i - k - fs.length) = i by omega] at hx
      refine ⟨(h i x hx).1, fun j y hy => ?_⟩
      obtain ⟨u, h3, h4⟩ := (h i x hx).2 j y hy
      refine ⟨u, ?_, h4⟩
      have : (k + fs.length) * sz ≤ i * sz := Nat.mul_le_mul_right _ (by omega)
      rw [Nat.add_mul] at this
      rw [hd, if_neg (by omega)]; exact h3
theorem store_eff (hh : HRel γ H w) (hf : FrR w γ fr a.tmps) {base : Nat} {r : Option Nat} {t : TypeId} {X V : Operand} {x : AV} (ht : tyOk P t = true)
    (h : evE base r fr H (.store (P.cellsOf t) (cx X) (cx V)) = some (x, H')) : ∃ w' γ', (Instr.storeAt t (a.eval X) (a.eval V)).run P w = .ok () w' ∧ x = .undef ∧ HRel γ' H' w' ∧ Step γ γ' w w' ∧ Ids γ γ' := by
  simp only [evE] at h
  have sx := cx_sim hf X
  have sv := cx_sim hf V
  generalize (cx X).ev fr = XX at *
  cases XX <;> try (cases h; done)
  rename_i id i off
  obtain ⟨e, he, h⟩ := Option.bind_eq_some_iff.1 h
  split at h
  case isFalse => cases h
  rename_i hwr
  obtain ⟨y, hy, h⟩ := Option.bind_eq_some_iff.1 h
  obtain ⟨y', hy', h⟩ := Option.map_eq_some_iff.1 h
  simp only [Prod.mk.injEq] at h
  obtain ⟨rfl, rfl⟩ := h
  generalize hA : a.eval X = ax at sx
  cases sx with
  | eptr _ _ _ g ge hm hg =>
  obtain ⟨ge', hm', hok⟩ := hh.ok id e he
  rw [hm] at hm'; cases hm'
  have hst := wr_live hok hwr
  obtain ⟨cs, fz, hw, hs, hfz, hle, hrow⟩ := placed hok hwr hg
  unfold setCells at hy'
  split at hy'
  case isFalse => cases hy'
  rename_i hc
  simp only [Bool.and_eq_true, beq_iff_eq] at hc
  obtain ⟨hones, hlen⟩ := hc
  obtain ⟨hvs, hcell⟩ := ones_cells sv hones
  have hilt : i < e.es.length := (List.getElem?_eq_some_iff.1 hy).1
  have hyl := (hrow i y hy).1
  have hbound : off + P.cellsOf t ≤ ge.sz ∧ y'.flat = y.flat.take off ++ ((cx V).ev fr).flat ++ y.flat.drop (off + P.cellsOf t) := by
    split at hy'
    · rename_i cs'
      split at hy'
      case isFalse => cases hy'
      cases hy'
      exact ⟨by simpa [← hyl, AV.flat] using ‹_›, by simp [AV.flat]⟩
    · rename_i hnot
      split at hy'
      case isFalse => cases hy'
      rename_i h0
      subst h0
      split at hy'
      · cases hy'
      · rename_i hnv
        cases hy'
        have f1 : y.flat = [y] := flat_one fun cs e => hnot cs e
        have f2 : ((cx V).ev fr).flat = [(cx V).ev fr] := flat_one fun cs e => hnv cs e
        rw [f2] at hlen
        simp only [List.length_cons, List.length_nil] at hlen
        rw [f1] at hyl
        simp only [List.length_cons, List.length_nil] at hyl
        refine ⟨by omega, ?_⟩
        rw [← hlen, f1, f2]; rfl
  obtain ⟨hoff, hflat⟩ := hbound
  have hin : (i + 1) * ge.sz ≤ ge.C * ge.sz := Nat.mul_le_mul_right _ (by omega)
  rw [Nat.add_mul, Nat.one_mul] at hin
  have hvl : (a.eval V).cells.toList.length = P.cellsOf t := by simp [hvs, hlen]
  have hrun := run_storeCells_cells (P := P) g (i * ge.sz + off) (a.eval V).cells.toList 0 w (fun j hj => blk_cell hw (by omega)) (fun j hj => blk_froz hw hfz (by omega)) (fun v hv => by
    obtain ⟨k, hk⟩ := List.mem_iff_getElem?.1 hv
    have hk' : k < ((cx V).ev fr).flat.length := by
      have := (List.getElem?_eq_some_iff.1 hk).1; omega
    obtain ⟨u, h1, _, h3⟩ := hcell k _ (List.getElem?_eq_getElem hk')
    rw [Array.getElem?_toList] at hk
    rw [h1] at hk; cases hk; exact h3)
  obtain ⟨ds, hd1, hd2, hd3⟩ := setCells_blk (a.eval V).cells.toList (i * ge.sz + off) w cs hw (by omega)
  have key := hrel_upd (e' := { e with es := e.es.set i y' }) hh he hm hst hg (old_set hm hst hg _ _) (setCells_same g (a.eval V).cells.toList (i * ge.sz + off) w).2.2.2.2 (fun ad => by
    have := RowC.ok (w := w.setCells g (i * ge.sz + off) (a.eval V).cells.toList) (γ := γ) (sz := ge.sz) (C := ge.C) (ty := e.ty) (es := e.es.set i y') (cs := ds) ?_ hd1 (by rw [hd2, hs]) (by rw [hd2]; exact hfz) (by simpa using hle)
    · obtain ⟨blk, sz, C, st⟩ := ge
      simp only at hg hst
      subst hg hst
      obtain ⟨ety, ees, ewr⟩ := e
      simp only at hwr
      subst hwr
      exact this
    · intro j x hx
      by_cases hj : j = i
      · subst hj
        rw [List.getElem?_set_self hilt] at hx
        cases hx
        refine ⟨by rw [hflat]; simp; omega, fun k z hz => ?_⟩
        rw [hflat, List.append_assoc] at hz
        have htk : (y.flat.take off).length = off := by simp; omega
        rw [Array.getElem?_toList, hd3]
        by_cases h1 : k < off
        · rw [List.getElem?_append_left (by omega), List.getElem?_take, if_pos h1] at hz
          obtain ⟨u, h2, h3, h4⟩ := (hrow j y hy).2 k z hz
          refine ⟨u, ?_, h3, h4.adv ad⟩
          rw [if_neg (by omega)]; simpa using h2
        · rw [List.getElem?_append_right (by omega), htk] at hz
          by_cases h2 : k - off < ((cx V).ev fr).flat.length
          · rw [List.getElem?_append_left h2] at hz
            obtain ⟨u, h3, h4, h5⟩ := hcell _ z hz
            refine ⟨u, ?_, h5, h4.adv ad⟩
            rw [if_pos (by omega), show j * ge.sz + k - (j * ge.sz + off) = k - off by omega]; simpa using h3
          · rw [List.getElem?_append_right (by omega), List.getElem?_drop] at hz
            rw [show off + P.cellsOf t + (k - off - ((cx V).ev fr).flat.length) = k by omega] at hz
            obtain ⟨u, h2, h3, h4⟩ := (hrow j y hy).2 k z hz
            refine ⟨u, ?_, h3, h4.adv ad⟩
            rw [if_neg (by omega)]; simpa using h2
      · rw [List.getElem?_set_ne (fun e => hj e.symm)] at hx
        refine ⟨(hrow j x hx).1, fun k z hz => ?_⟩
        obtain ⟨u, h2, h3, h4⟩ := (hrow j x hx).2 k z hz
        refine ⟨u, ?_, h3, h4.adv ad⟩
        have hk : k < ge.sz := by
          have := (List.getElem?_eq_some_iff.1 hz).1
          rw [(hrow j x hx).1] at this; exact this
        rw [Array.getElem?_toList] at h2 ⊢
        rw [hd3, if_neg ?_]
        · exact h2
        · rcases Nat.lt_or_ge j i with hji | hji
          · have : (j + 1) * ge.sz ≤ i * ge.sz := Nat.mul_le_mul_right _ hji
            rw [Nat.add_mul, Nat.one_mul] at this
            omega
          · have : (i + 1) * ge.sz ≤ j * ge.sz := Nat.mul_le_mul_right _ (by omega)
            rw [Nat.add_mul, Nat.one_mul] at this
            omega)
  refine ⟨_, γ, ?_, rfl, key.1, key.2, Ids.refl _⟩
  have hsz : ¬ (a.eval V).cells.size ≠ P.cellsOf t := by rw [hvs, hlen]; simp
  simp only [Nat.add_zero] at hrun
  simp [Instr.storeAt, Instr.sureAddr, storeVar, run_sizeOf ht, hvs, hlen, hrun]
end
end Go.Pv
