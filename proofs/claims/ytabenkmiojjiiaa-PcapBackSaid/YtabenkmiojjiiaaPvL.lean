/-
  The machine of plain values, 12: clear, the mark of bytes, and all that makes or writes memory.
-/
import Derived.Test.YtabenkmiojjiiaaPvK
namespace Go.Pv
section
variable {P : Program} {w w' : World} {γ γ' : Gh} {fr : Fr} {a : Act} {H H' : Hp}
theorem set_self {id : Nat} {e : Ent} (he : ent H id = some e) : H.set id (some e) = H := by
  apply List.ext_getElem?
  intro j
  by_cases hj : j = id
  · subst hj
    have hlt := ent_lt he
    rw [List.getElem?_set_self hlt]
    unfold ent at he
    rw [List.getElem?_eq_getElem hlt] at he ⊢
    simpa using he.symm
  · rw [List.getElem?_set_ne (fun e => hj e.symm)]
theorem zero_row' {z : Value} (ho : z.cells.all oneV = true) (n : Nat) : RowC w γ z.cells.size (List.replicate n (ofZero z)) (Builtin.zeroCells z.cells n).toList ∧ ∀ u ∈ (Builtin.zeroCells z.cells n).toList, u.oneCell' = true := by
  have e : (Builtin.zeroCells z.cells n).toList = (madeCells z.cells (n * z.cells.size)).toList := rfl
  rw [e]
  refine ⟨zero_row ho (Nat.le_refl _), fun u hu => ?_⟩
  obtain ⟨k, hk⟩ := List.mem_iff_getElem?.1 hu
  simp only [madeCells, Array.getElem?_toList, Array.getElem?_map, Option.map_eq_some_iff] at hk
  obtain ⟨j, hj, rfl⟩ := hk
  have hlt : j < n * z.cells.size := by
    have h1 := (Array.getElem?_eq_some_iff.1 hj)
    obtain ⟨h1, h2⟩ := h1
    simp at h1 h2; omega
  have hpos : 0 < z.cells.size := by
    rcases Nat.eq_zero_or_pos z.cells.size with h0 | h0
    · rw [h0] at hlt; omega
    · exact h0
  have hm := Nat.mod_lt j hpos
  rw [getElem!_pos z.cells _ hm, ← oneV_eq]
  exact (Array.all_eq_true_iff_forall_mem.1 ho) _ (Array.getElem_mem hm)
theorem clear_eff (hh : HRel γ H w) {base : Nat} {r : Option Nat} {t e ty : TypeId} {z : Value} {X : AX} {vx : Value} {x : AV} (hx : Sim w γ (X.ev fr) vx)
    (ht : P.underlying t = some (.slice e)) (hz : zeroOf P e = some z) (hsz : z.cells.size = P.cellsOf e) (ho : z.cells.all oneV = true)
    (h : evE base r fr H (.clear (P.cellsOf e) (ofZero z) X) = some (x, H')) : EffV P γ w (Builtin.clear_ #[t] ty #[vx]) x H' := by
  simp only [evE] at h
  have none0 : ∀ (A : Option Addr) (len cap : Nat), A = none ∨ len = 0 → (Builtin.clear_ #[t] ty #[.slice A len cap]).run P w = .ok (.tuple #[]) w := by
    intro A len cap h
    rcases h with rfl | rfl
    · simp [Builtin.clear_, run_underlying ht]
    · cases A <;> simp [Builtin.clear_, run_underlying ht]
  cases hXX : X.ev fr with
  | sl sz' es full =>
    rw [hXX] at h hx
    cases es with
    | cons _ _ => cases h
    | nil =>
      cases h
      cases hx with
      | sl _ _ _ _ _ _ _ hp => simp at hp
      | sl0 _ _ B cap hcap => exact EffV.same hh (none0 _ _ _ (.inr rfl)) (.undef _)
  | vec id sz' off len =>
    rw [hXX] at h hx
    dsimp only at h
    obtain ⟨en, he, hq⟩ := Option.bind_eq_some_iff.1 h
    clear h
    split at hq
    case isFalse => cases hq
    rename_i hc
    obtain ⟨hwr, hs1, hle⟩ := hc
    simp only [Option.some.injEq, Prod.mk.injEq] at hq
    obtain ⟨rfl, rfl⟩ := hq
    cases hx with
    | vec _ _ _ _ B cap ge hm hzs hlC hcC hN hB =>
    obtain ⟨ge', hm', hok⟩ := hh.ok id en he
    rw [hm] at hm'; cases hm'
    have hst := wr_live hok hwr
    by_cases h0 : len = 0
    · subst h0
      have hes : en.es.take off ++ (List.replicate 0 (ofZero z) ++ en.es.drop (off + 0)) = en.es := by simp
      rw [hes, show ({ ty := en.ty, es := en.es, wr := en.wr } : Ent) = en from rfl, set_self he]
      exact EffV.same hh (none0 _ _ _ (.inr rfl)) (.undef _)
    · cases hg : ge.blk with
      | none => have := hN hg; omega
      | some g =>
        have hBg := hB g hg (.inl (by omega))
        subst hBg
        obtain ⟨cs, fz, hw, hs, hfz, hle', hro⟩ := placed hok hwr hg
        obtain ⟨hz1, hz2⟩ := zero_row' (w := w) (γ := γ) ho len
        rw [hzs, ← hs1] at hs hro
        rw [hsz] at hz1
        have hlen : (Builtin.zeroCells z.cells len).toList.length = len * P.cellsOf e := by rw [Array.length_toList, size_zeroCells, hsz]
        have hfit : off * P.cellsOf e + (Builtin.zeroCells z.cells len).toList.length ≤ cs.size := by
          rw [hlen, hs, ← Nat.add_mul]; exact Nat.mul_le_mul_right _ (by omega)
        have hst0 := run_storeCells_cells (P := P) g (off * P.cellsOf e) (Builtin.zeroCells z.cells len).toList 0 w (fun j hj => blk_cell hw (by omega)) (fun j hj => blk_froz hw hfz (by omega)) hz2
        simp only [Nat.add_zero] at hst0
        obtain ⟨m, rfl⟩ : ∃ m, len = m + 1 := ⟨len - 1, by omega⟩
        have hrun : (Builtin.clear_ #[t] ty #[.slice (some ⟨g, off * sz', none⟩) (m + 1) cap]).run P w = .ok (.tuple #[]) (w.setCells g (off * P.cellsOf e) (Builtin.zeroCells z.cells (m + 1)).toList) := by
          rw [← hs1]
          simp [Builtin.clear_, run_underlying ht, zero_run hz, hst0]
        obtain ⟨ds, hd1, hd2, hd3⟩ := setCells_blk _ (off * P.cellsOf e) w cs hw hfit
        have hlay := RowC.lay (k := off) (ds := ds.toList) hro hz1 (by rw [hlen]; simp) (by omega) (fun k => by
          rw [Array.getElem?_toList, hd3, Array.getElem?_toList]; simp)
        rw [List.length_replicate] at hlay
        have key := hrel_upd (w' := w.setCells g (off * P.cellsOf e) _) (e' := { en with es := en.es.take off ++ (List.replicate (m + 1) (ofZero z) ++ en.es.drop (off + (m + 1))) }) hh he hm hst hg (old_set hm hst hg _ _) (setCells_same g _ _ w).2.2.2.2 (fun ad => by
          have := RowC.ok (hlay.adv ad) hd1 (C := ge.C) (by rw [hd2, hs]) (by rw [hd2]; exact hfz) (by simp; omega)
          obtain ⟨blk, sz, C, st⟩ := ge
          simp only at hg hst hzs
          rw [← hs1] at hzs
          subst hg hst hzs
          obtain ⟨ety, ees, ewr⟩ := en
          simp only at hwr
          subst hwr
          exact this)
        exact EffV.of hrun (.undef _) ⟨key.1, key.2, Ids.refl _⟩
  | _ => rw [hXX] at h; cases h
theorem freeze_blk {g n : Nat} {cs : Array Value} {t : TypeId} {fz : Nat × Nat} (hw : w.heap[g]? = some (.cells cs t fz)) :
    (w.freeze ⟨g, n, none⟩ 1).heap[g]? = some (.cells cs t (if fz.1 == fz.2 then (n, n + 1) else (min fz.1 n, max fz.2 (n + 1)))) := by
  obtain ⟨lo, hi⟩ := fz
  unfold World.freeze
  rw [if_neg (by decide)]
  simp only [Array.getElem?_modify, if_true, hw, Option.map_some]
theorem freeze_same (g n : Nat) : (w.freeze ⟨g, n, none⟩ 1).os = w.os ∧ (w.freeze ⟨g, n, none⟩ 1).tape = w.tape ∧ (w.freeze ⟨g, n, none⟩ 1).output = w.output ∧ (w.freeze ⟨g, n, none⟩ 1).heap.size = w.heap.size ∧ ∀ b, b ≠ g → (w.freeze ⟨g, n, none⟩ 1).heap[b]? = w.heap[b]? := by
  unfold World.freeze
  rw [if_neg (by decide)]
  exact ⟨rfl, rfl, rfl, by simp, fun b hb => by simp only [Array.getElem?_modify]; rw [if_neg (fun e => hb e.symm)]⟩
theorem mark_eff (hh : HRel γ H w) {base : Nat} {r : Option Nat} {t e : TypeId} {X : AX} {vx : Value} {x : AV} (hx : Sim w γ (X.ev fr) vx)
    (ht : P.underlying t = some (.slice e)) (hu : P.underlying e = some (.int .u8))
    (h : evE base r fr H (.mark X) = some (x, H')) : EffV P γ w (convert t t vx) x H' := by
  simp only [evE] at h
  cases hXX : X.ev fr with
  | vec id sz' off len =>
    rw [hXX] at h hx
    dsimp only at h
    obtain ⟨en, he, hq⟩ := Option.bind_eq_some_iff.1 h
    clear h
    split at hq
    case isFalse => cases hq
    rename_i hc
    obtain ⟨hwr, rfl, hne⟩ := hc
    simp only [Option.some.injEq, Prod.mk.injEq] at hq
    obtain ⟨rfl, rfl⟩ := hq
    have hx' := hx
    cases hx with
    | vec _ _ _ _ B cap ge hm hzs hlC hcC hN hB =>
    obtain ⟨ge', hm', hok⟩ := hh.ok id en he
    rw [hm] at hm'; cases hm'
    have hst := wr_live hok hwr
    have hpos : 0 < en.es.length := List.length_pos_iff.2 hne
    cases hg : ge.blk with
    | none =>
      rcases (hok.live (.inl hwr)).2 with ⟨_, h1, _⟩ | ⟨g, cs, fr, h1, _⟩
      · exact absurd h1 hne
      · rw [h1] at hg; cases hg
    | some g =>
      have hBg := hB g hg (.inr rfl)
      subst hBg
      obtain ⟨cs, fz, hw, hs, hfz, hle', hro⟩ := placed hok hwr hg
      obtain ⟨f1, f2, f3, f4, f5⟩ := freeze_same (w := w) g cs.size
      have hrun : (convert t t (.slice (some ⟨g, 0 * sz', none⟩) len cap)).run P w = .ok (.slice (some ⟨g, 0 * sz', none⟩) len cap) (w.freeze ⟨g, cs.size, none⟩ 1) := by
        have hsh : w.shape? g = some (en.ty, cs.size) := by simp [World.shape?, hw]
        simp [convert, run_underlying ht, run_underlying hu, markStringish, hsh]
      have key := hrel_upd (w' := w.freeze ⟨g, cs.size, none⟩ 1) (e' := en) hh he hm hst hg ⟨f1, f2, f3, by omega, fun b _ hb => f5 b fun e => hb (by subst e; exact ⟨id, ge, hm, hst, hg⟩)⟩ f5 (fun ad => by
        have := RowC.ok (hro.adv ad) (freeze_blk (n := cs.size) hw) hs (by split <;> simp_all <;> omega) hle'
        obtain ⟨blk, sz, C, st⟩ := ge
        simp only at hg hst hzs
        subst hg hst hzs
        obtain ⟨ety, ees, ewr⟩ := en
        simp only at hwr
        subst hwr
        exact this)
      rw [set_self he] at key
      exact EffV.of hrun (hx'.adv (key.2.adv (Ids.refl _) hh.imm)) ⟨key.1, key.2, Ids.refl _⟩
  | _ => rw [hXX] at h; cases h
/-- An operation that calls nothing: the value that it yields, or none. -/
def EffN (P : Program) (γ : Gh) (w : World) (s : Sem Next) (x : AV) (H' : Hp) : Prop :=
  ∃ nx w' γ', s.run P w = .ok nx w' ∧ ((∃ v, nx = .value v ∧ Sim w' γ' x v) ∨ nx = .skip ∧ x = .undef) ∧ HRel γ' H' w' ∧ Step γ γ' w w' ∧ Ids γ γ'
theorem EffV.next {s : Sem Value} {x : AV} (h : EffV P γ w s x H') : EffN P γ w (do pure (.value (← s)) : Sem Next) x H' := by
  obtain ⟨v, w', γ', hr, hs, h⟩ := h
  exact ⟨.value v, w', γ', by simp [hr], .inl ⟨v, rfl, hs⟩, h⟩
theorem EffN.congr {s s' : Sem Next} {x : AV} (e : s'.run P w = s.run P w) (h : EffN P γ w s x H') : EffN P γ w s' x H' := by
  unfold EffN at h ⊢
  rw [e]; exact h
theorem u8_of {e : TypeId} (hu : isU8 P e = true) : P.underlying e = some (.int .u8) := by
  unfold isU8 at hu
  split at hu
  · assumption
  · cases hu
theorem evE_sound (hf : FrR w γ fr a.tmps) (hh : HRel γ H w) {o : Oper} {d : Bool} {base : Nat} {r r' : Option Nat} {q : OpE} (hc : compOp P d r o = .e q r') {x : AV} (hx : evE base r' fr H q = some (x, H')) :
    EffN P γ w (execOp a.eval o) x H' := by
  obtain ⟨dst, op, ty, pos, after, guard⟩ := o
  have S := fun y => cx_sim hf y (γ := γ)
  cases op with
  | alloc t =>
    simp only [compOp] at hc
    split at hc
    · rename_i z hz
      split at hc
      · rename_i ho
        cases hc
        exact (alloc_eff hh hz ho hx).next
      · cases hc
    · cases hc
  | box t y =>
    cases hc
    simp only [evE] at hx
    split at hx
    · rename_i ho
      exact (box_eff hh (S y) ho hx).next
    · cases hx
  | buildSlice t n parts =>
    simp only [compOp] at hc
    split at hc
    · rename_i e ht
      split at hc
      · rename_i z hz
        split at hc
        · rename_i hok
          cases hc
          exact (mks_eff hh hf ht hz hok.1 hok.2.1 hok.2.2 hx).next
        · cases hc
      · cases hc
    · cases hc
  | store t y v =>
    simp only [compOp] at hc
    split at hc
    · rename_i hok
      cases hc
      obtain ⟨w', γ', hr, hu, h⟩ := store_eff hh hf hok hx
      exact ⟨.skip, w', γ', by simp [execOp, hr], .inr ⟨rfl, hu⟩, h⟩
    · cases hc
  | makeSlice t l c =>
    simp only [compOp] at hc
    split at hc
    · rename_i e ht
      split at hc
      · rename_i z hz
        split at hc
        · rename_i hok
          cases hc
          exact (make_eff hh hf ht hz hok.1 hok.2.1 hok.2.2 hx).next
        · cases hc
      · cases hc
    · cases hc
  | convert s d y =>
    simp only [compOp] at hc
    split at hc
    · cases hc
    · cases hc
    · split at hc <;> cases hc
    · rename_i e hs hd
      split at hc
      · rename_i hu
        cases hc
        exact (s2b_eff hh hs hd (u8_of hu) (S y) hx).next
      · cases hc
    · rename_i e' e hs hd
      split at hc
      · rename_i hu
        cases hc
        simp only [Bool.and_eq_true, beq_iff_eq] at hu
        obtain ⟨hu, rfl⟩ := hu
        exact (mark_eff hh (S y) hd (u8_of hu) hx).next
      · cases hc
    · cases hc
  | call c =>
    obtain ⟨callee, args, ts⟩ := c
    cases callee with
    | value f => cases f <;> simp only [compOp] at hc <;> repeat' (first | (cases hc; done) | split at hc)
    | invoke => cases hc
    | builtin b =>
      have hargs : args = ⟨args.toList⟩ := rfl
      have hts : ts = ⟨ts.toList⟩ := rfl
      simp only [compOp] at hc
      split at hc
      · repeat' (first | (cases hc; done) | split at hc)
      · rename_i y z t t' h1 h2
        rw [h1] at hargs
        rw [h2] at hts
        subst hargs hts
        split at hc
        · rename_i e e' ht ht'
          split at hc
          · rename_i hok
            cases hc
            refine EffN.congr ?_ (append_eff (ty := ty) hh (S y) (S z) ht (.inl ⟨e', ht'⟩) hok.1 hok.2 hx).next; simp [execOp, resolve, invoke, builtin]
          · cases hc
        · rename_i e ht ht'
          split at hc
          · rename_i hok
            cases hc
            refine EffN.congr ?_ (append_eff (ty := ty) hh (S y) (S z) ht (.inr ht') hok.1 hok.2 hx).next; simp [execOp, resolve, invoke, builtin]
          · cases hc
        · cases hc
      · rename_i y z t t' h1 h2
        rw [h1] at hargs
        rw [h2] at hts
        subst hargs hts
        split at hc
        · rename_i e e' ht ht'
          split at hc
          · rename_i hok
            cases hc
            refine EffN.congr ?_ (copy_eff (ty := ty) hh (S y) (S z) ht ⟨e', ht'⟩ hok hx).next; simp [execOp, resolve, invoke, builtin]
          · cases hc
        · cases hc
      · rename_i y t h1 h2
        rw [h1] at hargs
        rw [h2] at hts
        subst hargs hts
        split at hc
        · rename_i e ht
          split at hc
          · rename_i z hz
            split at hc
            · rename_i hok
              cases hc
              refine EffN.congr ?_ (clear_eff (ty := ty) hh (S y) ht hz hok.1 hok.2 hx).next; simp [execOp, resolve, invoke, builtin]
            · cases hc
          · cases hc
        · cases hc
      · cases hc
      · cases hc
      · cases hc
  | makeFunc fn first caps => cases fn <;> simp only [compOp] at hc <;> repeat' (first | (cases hc; done) | split at hc)
  | _ => first | (cases hc; done) | (simp only [compOp] at hc; repeat' (first | (cases hc; done) | split at hc))
end
end Go.Pv
