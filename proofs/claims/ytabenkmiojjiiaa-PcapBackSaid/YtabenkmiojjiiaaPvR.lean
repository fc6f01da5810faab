/-
  The machine of plain values, 18: code is sound; how a function is entered and left.
-/
import Derived.Test.YtabenkmiojjiiaaPvQ
import Derived.Deep.LoopGhost
namespace Go.Pv
/-- A statement whose order is open is sound (PvS). -/
def DrawOk (P : Program) (n : Nat) (k : Bool) (γ0 : Gh) (w0 : World) : Prop :=
  ∀ (id : Nat) (ops : Array Oper) (l : List Nat) (γ : Gh) (σ : St) (a : Act) (w : World) (K : St → Prop) (Q : Exit → Act → World → Prop), fullB ops l = true → closedB ops (anc ops) = true → linB ops (compL P ops true).toArray (anc ops) l 0 = true →
    (pick (compL P ops true).toArray l).all (dstOk n) = true → SR n k γ0 w0 γ σ a w → awOps P σ.hp.length (pick (compL P ops true).toArray l) ⟨σ.fr, σ.hp ++ List.replicate ops.size none⟩ K →
    (∀ a w, Up n k γ0 w0 K a w → Q .normal a w) → (Code.region id ops true).wp P Q a w
section
variable {P : Program} {n : Nat} {k : Bool} {γ0 γ γ' : Gh} {w0 w : World} {σ : St} {a : Act} {H H' : Hp}
theorem aw_sound (hD : DrawOk P n k γ0 w0) : ∀ (c : Code) (c' : AC) (K : AE → St → Prop) (γ : Gh) (σ : St) (a : Act) (w : World), bareC c' = comp P c → okC n k c' = true → aw P c' K σ → SR n k γ0 w0 γ σ a w → c.wp P (LiftK n k γ0 w0 K) a w := by
  intro c
  induction c with
  | skip =>
    intro c' K γ σ a w hc ho hx h
    cases c' <;> simp only [comp, bareC] at hc <;> try (cases hc; done)
    exact wp_skip ⟨γ, σ, h, hx⟩
  | label l =>
    intro c' K γ σ a w hc ho hx h
    cases c' <;> simp only [comp, bareC] at hc <;> try (cases hc; done)
    exact wp_label ⟨γ, σ, h, hx⟩
  | exit id =>
    intro c' K γ σ a w hc ho hx h
    cases c' <;> simp only [comp, bareC] at hc <;> try (cases hc; done)
    cases hc
    exact wp_exit ⟨γ, σ, h, hx⟩
  | ret =>
    intro c' K γ σ a w hc ho hx h
    cases c' <;> simp only [comp, bareC] at hc <;> try (cases hc; done)
    exact wp_ret ⟨γ, σ, h, hx⟩
  | seq x y ihx ihy =>
    intro c' K γ σ a w hc ho hx h
    cases c' <;> simp only [comp, bareC] at hc <;> try (cases hc; done)
    rename_i x' y'
    simp only [AC.seq.injEq] at hc
    simp only [okC, Bool.and_eq_true] at ho
    refine wp_seq (wp_mono (ihx x' _ γ σ a w hc.1 ho.1 hx h) ?_)
    intro e a' w' he
    cases e with
    | normal =>
      obtain ⟨γ', σ', h', hx'⟩ := he
      exact ihy y' K γ' σ' a' w' hc.2 ho.2 hx' h'
    | exit id => exact he
    | ret => exact he
    | goto _ => exact he
    | panic _ => exact he
    | outgrown => exact he
  | cond t x y ihx ihy =>
    intro c' K γ σ a w hc ho hx h
    cases c' <;> simp only [comp, bareC] at hc <;> try (cases hc; done)
    rename_i t' x' y'
    simp only [AC.cond.injEq] at hc
    obtain ⟨rfl, hc1, hc2⟩ := hc
    simp only [okC, Bool.and_eq_true] at ho
    simp only [aw] at hx
    have hs := cx_sim h.fr t (γ := γ)
    split at hx
    · rename_i b hb
      rw [hb] at hs
      exact wp_cond_split (bool_inv hs) (fun hb => ihx x' K γ σ a w hc1 ho.1 (hx.1 hb) h) (fun hb => ihy y' K γ σ a w hc2 ho.2 (hx.2 hb) h)
    · rename_i hb
      rw [hb] at hs
      generalize hv : a.eval t = v at hs
      cases hs with
      | anyb b => exact wp_cond_split hv (fun _ => ihx x' K γ σ a w hc1 ho.1 hx.1 h) (fun _ => ihy y' K γ σ a w hc2 ho.2 hx.2 h)
    · exact hx.elim
  | block id x ih =>
    intro c' K γ σ a w hc ho hx h
    cases c' <;> simp only [comp, bareC] at hc <;> try (cases hc; done)
    rename_i id' x'
    simp only [AC.block.injEq] at hc
    obtain ⟨rfl, hc⟩ := hc
    refine wp_block (wp_mono (ih x' _ γ σ a w hc ho hx h) ?_)
    intro e a' w' he
    cases e with
    | normal => exact he
    | exit j =>
      obtain ⟨γ', σ', h', hx'⟩ := he
      simp only [inBlk] at hx'
      simp only [Exit.inBlock]
      split
      · rename_i hj; rw [if_pos hj] at hx'; exact ⟨γ', σ', h', hx'⟩
      · rename_i hj; rw [if_neg hj] at hx'; exact ⟨γ', σ', h', hx'⟩
    | ret => exact he
    | goto _ => exact he
    | panic _ => exact he
    | outgrown => exact he
  | scope x ih =>
    intro c' K γ σ a w hc ho hx h
    cases c' <;> simp only [comp, bareC] at hc <;> try (cases hc; done)
    rename_i x'
    simp only [AC.scope.injEq] at hc
    refine wp_scope_straight (wp_mono (ih x' K γ σ a w hc ho hx h) ?_)
    intro e a' w' he
    cases e <;> exact he
  | loop x ih =>
    intro c' K γ σ a w hc ho hx h
    cases c' <;> simp only [comp, bareC] at hc <;> try (cases hc; done)
    rename_i tr x'
    simp only [AC.loop.injEq] at hc
    obtain ⟨_, hc⟩ := hc
    simp only [aw] at hx
    obtain ⟨I, ⟨m, hI⟩, hr⟩ := hx
    simp only [okC, Bool.and_eq_true] at ho
    obtain ⟨γ1, h1⟩ := trim_sound h tr ho.2
    refine wp_loop_ghost (fun m a w => ∃ γ σ, SR n k γ0 w0 γ σ a w ∧ I m σ) m ⟨γ1, _, h1, hI⟩ ?_
    rintro q a w ⟨γ', σ', hsr, hI'⟩
    refine wp_mono (ih x' _ γ' σ' a w hc ho.1 (hr _ σ' hI') hsr) ?_
    intro e a' w' he
    cases e with
    | normal =>
      obtain ⟨γ2, σ2, h2, q', hq, hIq⟩ := he
      obtain ⟨γ3, h3⟩ := trim_sound h2 tr ho.2
      exact ⟨q', hq, γ3, _, h3, hIq⟩
    | exit id => exact he
    | ret => exact he
    | goto _ => exact he
    | panic _ => exact he
    | outgrown => exact he
  | region id ops dr =>
    intro c' K γ σ a w hc ho hx h
    cases dr with
    | false =>
      cases c' <;> simp only [comp, bareC] at hc <;> try (cases hc; done)
      rename_i n' ops' tr
      simp only [AC.region.injEq] at hc
      obtain ⟨rfl, rfl, _⟩ := hc
      simp only [aw, List.replicate_zero, List.append_nil] at hx
      simp only [okC, Bool.and_eq_true] at ho
      refine wp_region ?_
      rw [List.range_eq_range', ← Array.length_toList]
      refine awOps_sound (K := fun σ => K .normal (trim tr σ)) ?_ ops.toList 0 γ σ a w (by simp) ?_ h hx
      · rintro a' w' ⟨γ', σ', h', hx'⟩
        obtain ⟨γ2, h2⟩ := trim_sound h' tr ho.2
        exact ⟨γ2, _, h2, hx'⟩
      · intro o ho' t ht
        obtain ⟨i, hi⟩ := List.mem_iff_getElem?.1 ho'
        have hm : comp2 P ops false i o ∈ compL P ops false := by
          refine List.mem_map.2 ⟨(o, i), ?_, rfl⟩
          rw [List.mem_zipIdx_iff_getElem?]; exact hi
        have := List.all_eq_true.1 ho.1 _ hm
        simp only [dstOk, comp2_dst, ht, decide_eq_true_eq] at this
        exact this
    | true =>
      simp only [comp] at hc
      split at hc
      · rename_i hcond
        cases c' <;> simp only [bareC] at hc <;> try (cases hc; done)
        rename_i n' ops' tr
        simp only [AC.region.injEq] at hc
        obtain ⟨rfl, rfl, _⟩ := hc
        simp only [aw] at hx
        simp only [okC, Bool.and_eq_true] at ho
        refine hD id ops _ γ σ a w _ _ hcond.1 hcond.2.1 hcond.2.2 ho.1 h hx ?_
        rintro a' w' ⟨γ', σ', h', hx'⟩
        obtain ⟨γ2, h2⟩ := trim_sound h' tr ho.2
        exact ⟨γ2, _, h2, hx'⟩
      · cases c' <;> simp only [bareC] at hc <;> try (cases hc; done)
        exact hx.elim
  | _ =>
    intro c' K γ σ a w hc ho hx h
    cases c' <;> simp only [comp, bareC] at hc <;> try (cases hc; done)
    exact hx.elim

/-! ### A function -/
def resX (fr : Fr) : List Nat → AV
  | [t] => get fr t
  | ts => .tup (ts.map (get fr))
def entry (xs : List AV) : St := ⟨(layL layC [] xs).1.zipIdx.map fun p => (p.2, p.1), (layL layC [] xs).2⟩
/-- The end of a function: r is handed back. -/
def Ends (ts : List Nat) (r : AV) : AE → St → Prop
  | .exit _, _ => False
  | _, σ => ∃ ms H1 l, hand σ.hp ms (resX σ.fr ts) = some (r, H1, l) ∧ liveB H1 l = true
theorem get_zip : ∀ (l : List AV) (k t : Nat), get ((l.zipIdx k).map fun p => (p.2, p.1)) t = if k ≤ t then (l[t - k]?).getD .undef else .undef
  | [], k, t => by simp [get]
  | x :: l, k, t => by
    simp only [List.zipIdx_cons, List.map_cons, get]
    by_cases h : k = t
    · subst h; simp
    · rw [if_neg h, get_zip l (k + 1) t]
      by_cases h1 : k ≤ t
      · rw [if_pos h1, if_pos (by omega), show t - k = (t - (k + 1)) + 1 by omega]; simp
      · rw [if_neg h1, if_neg (by omega)]
def resW (tmps : Array Value) : List Nat → Value
  | [t] => tmps.getD t Go.undef
  | ts => .tuple (ts.map fun t => tmps.getD t Go.undef).toArray
theorem res_run {fn : Func} {ts : List Nat} (hr : fn.results = (ts.map ResultVar.tmp).toArray) (tmps : Array Value) : (results fn tmps).run P w = .ok (resW tmps ts) w := by
  have hm : ∀ (g : ResultVar → Sem Value), (∀ t, g (.tmp t) = pure (tmps.getD t Go.undef)) → ∀ ts : List Nat, ((ts.map ResultVar.tmp).mapM (m := Sem) g).run P w = .ok (ts.map fun t => tmps.getD t Go.undef) w := by
    intro g hg ts
    induction ts with
    | nil => rfl
    | cons t ts ih => rw [List.map_cons, List.mapM_cons, hg]; simp only [Sem.run_bind, Sem.run_pure, Result.andThen_ok, ih, List.map_cons]
  unfold results
  rw [hr]
  simp only [List.mapM_toArray, Sem.run_bind, Sem.run_map]
  rw [hm _ (fun t => rfl) ts]
  simp only [Result.andThen_ok, Sem.run_pure]
  cases ts with
  | nil => rfl
  | cons t ts =>
    cases ts with
    | nil => rfl
    | cons t' ts => simp [resW]
end
end Go.Pv
