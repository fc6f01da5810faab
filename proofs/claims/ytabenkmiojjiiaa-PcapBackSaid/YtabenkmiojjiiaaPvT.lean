/-
  The machine of plain values, 19: how a function is entered and left.
-/
import Derived.Test.YtabenkmiojjiiaaPvR
namespace Go.Pv
section
variable {P : Program} {w : World} {γ : Gh} {H : Hp}
theorem resX_sim {fr : Fr} {tmps : Array Value} (h : FrR w γ fr tmps) (ts : List Nat) : Sim w γ (resX fr ts) (resW tmps ts) := by
  have tup : ∀ ts : List Nat, Sim w γ (.tup (ts.map (get fr))) (.tuple (ts.map fun t => tmps.getD t Go.undef).toArray) := fun ts =>
    .tup _ _ (by simp) fun i x v hx hv => by
      rw [List.getElem?_map] at hx
      rw [List.getElem?_toArray, List.getElem?_map] at hv
      cases hi : ts[i]? with
      | none => rw [hi] at hx; cases hx
      | some t =>
        rw [hi] at hx hv
        simp only [Option.map_some, Option.some.injEq] at hx hv
        subst hx hv
        exact h t
  cases ts with
  | nil => exact tup []
  | cons t ts =>
    cases ts with
    | nil => exact h t
    | cons t' ts => exact tup (t :: t' :: ts)
theorem zip_frame {xs : List AV} {args : Array Value} (hl : xs.length = args.size) (hs : ∀ (i : Nat) (x : AV) (v : Value), xs[i]? = some x → args[i]? = some v → Sim w γ x v) (m : Nat) :
    FrR w γ (xs.zipIdx.map fun p => (p.2, p.1)) (args ++ Array.replicate m Go.undef) := by
  intro t
  rw [get_zip, if_pos (Nat.zero_le t), Nat.sub_zero]
  rcases Nat.lt_or_ge t xs.length with ht | ht
  · rw [List.getElem?_eq_getElem ht, Option.getD_some]
    refine hs t _ _ (List.getElem?_eq_getElem ht) ?_
    rw [Array.getD_eq_getD_getElem?, Array.getElem?_append_left (by omega), Array.getElem?_eq_getElem (by omega)]; rfl
  · rw [List.getElem?_eq_none ht]; exact .undef _
theorem ownL_len {R : List GE → AV → Value → Prop} {os : List GE} {xs : List AV} {vs : List Value} (h : OwnL R os xs vs) : xs.length = vs.length := by
  induction h with
  | nil => rfl
  | cons _ _ ih => simp [ih]
/-- A function, from its code. -/
theorem run_of {f : FuncId} {fn : Func} {c : Code} (hD : ∀ γ0 w0, DrawOk P fn.ntmps false γ0 w0) {c' : AC} {ts : List Nat} {xs : List AV} {r : AV} (hf : P.funcs[f]? = some fn) (hb : fn.body = some c) (hn : (fn.name == "runtime.NumGoroutine") = false)
    (hr : fn.results = (ts.map ResultVar.tmp).toArray) (hc : bareC c' = comp P c) (ho : okC fn.ntmps false c' = true) (hlen : xs.length ≤ fn.ntmps) (hx : aw P c' (Ends ts r) (entry xs)) : Run P f xs r := by
  refine ⟨can_of hf (by rw [hb]; rfl) hn, fun w I os args hos hown => ?_⟩
  have h0 : HRel (bareG I) [] w := ⟨fun id _ => rfl, fun id e he => by simp [ent] at he, fun i j x y b hi => (by cases hi), fun b hb => ⟨(hos.imm b hb).1, fun ⟨i, x, hi, _⟩ => by cases hi⟩, fun i x b hi => by cases hi⟩
  obtain ⟨γ0, m0, r0, l0, s0⟩ := layL_sim (I := I) layC_p hown (bareG I) [] rfl h0 ⟨fun b hb hI => (hos.imm b hI).2 hb, fun b _ i x hi => (by cases hi), hos.ap⟩
  have hlx : (layL layC [] xs).1.length = args.size := by simpa using l0
  have hxa : xs.length = args.size := by have := ownL_len hown; simpa using this
  refine calls_of_wp hf hb ?_
  refine wp_mono (aw_sound (hD γ0 w) c c' (Ends ts r) γ0 (entry xs) _ w hc ho hx ⟨zip_frame hlx (fun i x v hx hv => s0 i x v hx (by simpa using hv)) _, r0, Step.refl _ _, rfl, by simp; omega, fun h => by cases h⟩) ?_
  have hown0 : ∀ b, γ0.owns b ↔ blks os b := fun b => by
    rw [m0.own]
    exact ⟨fun h => h.elim (fun ⟨i, x, hi, _⟩ => by cases hi) (fun h => h), .inr⟩
  -- the end
  have fin : ∀ (γ : Gh) (σ : St) (a : Act) (W : World), SR fn.ntmps false γ0 w γ σ a W → (∃ ms H1 l, hand σ.hp ms (resX σ.fr ts) = some (r, H1, l) ∧ liveB H1 l = true) →
      a.defers = [] ∧ ∃ v, (results fn a.tmps).run P W = .ok v W ∧ ∃ v' I' os', Ending.returned v = .returned v' ∧ OwnT W I' os' r v' ∧ OsOk W I' os' ∧ StepB I os I' os' w W := by
    rintro γ σ a W h ⟨ms, H1, l, hh, hlive⟩
    refine ⟨h.df, _, res_run hr a.tmps, ?_⟩
    obtain ⟨γ1, os', g1, r1, n1, k1⟩ := hand_p γ σ.hp H1 ms _ r _ l h.hp (resX_sim h.fr ts) hh
    have hliv : ∀ id ∈ l, ∀ ge, γ.m id = some ge → ge.st ≠ 0 → γ1.m id = some ge := by
      intro id hid ge hm hst
      rcases g1.ids id ge hm with h | h
      · exact h
      · exfalso
        have := List.all_eq_true.1 hlive id hid
        split at this
        · rename_i e he
          obtain ⟨ge', hm', hok⟩ := r1.ok id e he
          rw [h] at hm'; cases hm'
          have hl := hok.live (by
            simp only [Bool.or_eq_true, Bool.not_eq_true', List.isEmpty_eq_false_iff] at this
            exact this)
          have := hl.1
          simp only at this
          split at this <;> cases this
        · cases this
    have hosb : ∀ b, blks os' b → γ.owns b ∧ ∀ id ge, γ1.m id = some ge → ge.st ≠ 0 → ge.blk ≠ some b := by
      rintro b ⟨ge, hge, hb⟩
      obtain ⟨id, h1, h2, h3⟩ := g1.src ge hge b hb
      refine ⟨⟨id, ge, h1, h2, hb⟩, fun id' ge' hm hst hb' => ?_⟩
      have e := h.hp.inj id id' ge ge' b h1 (g1.rev id' ge' hm hst) (by rw [h2]; decide) hst hb hb'
      subst e
      rw [h3] at hm; cases hm
      exact hst rfl
    refine ⟨_, fun b => γ.imm b ∨ ∃ id ∈ l, ∃ ge, γ.m id = some ge ∧ ge.st ≠ 0 ∧ ge.blk = some b, os', rfl, k1 _ (fun b hb => .inl hb) (fun id hid ge b hm hst hb => .inr ⟨id, hid, ge, hm, hst, hb⟩), ⟨?_, ?_, g1.ap⟩, ?_⟩
    · rintro b (hb | ⟨id, hid, ge, hm, hst, hb⟩)
      · exact ⟨(h.hp.imm b hb).1, fun h' => (h.hp.imm b hb).2 (hosb b h').1⟩
      · exact ⟨h.hp.blkLt hm hst hb, fun h' => (hosb b h').2 id ge (hliv id hid ge hm hst) hst hb⟩
    · intro b hb
      obtain ⟨id, ge, h1, h2, h3⟩ := (hosb b hb).1
      exact h.hp.blkLt h1 (by rw [h2]; decide) h3
    · have own' : ∀ b, γ.owns b → blks os b ∨ w.heap.size ≤ b := fun b hb => (h.st.own b hb).imp (fun h => (hown0 b).1 h) id
      have imm' : ∀ b, γ.imm b → I b ∨ blks os b ∨ w.heap.size ≤ b := fun b hb => by
        rcases h.st.immn b hb with h1 | h1 | h1
        · rw [m0.imm] at h1; exact .inl h1
        · exact .inr (.inl ((hown0 b).1 h1))
        · exact .inr (.inr h1)
      refine ⟨h.st.os, h.st.tape, h.st.output, h.st.size, fun b hb hn => h.st.keep b hb fun h' => hn ((hown0 b).1 h'), fun b hb => own' b (hosb b hb).1, fun b hb => .inl (h.st.immk b (by rw [m0.imm]; exact hb)), ?_⟩
      rintro b (hb | ⟨id, hid, ge, hm, hst, hb⟩)
      · exact imm' b hb
      · rcases st_cases h.hp hm with h1 | h1 | h1
        · exact absurd h1 hst
        · exact imm' b (h.hp.stl id ge b hm h1 hb)
        · exact .inr (own' b ⟨id, ge, hm, h1, hb⟩)
  intro e a W he
  cases e with
  | normal => obtain ⟨γ, σ, h1, h2⟩ := he; exact fin γ σ a W h1 h2
  | ret => obtain ⟨γ, σ, h1, h2⟩ := he; exact fin γ σ a W h1 h2
  | exit id => obtain ⟨_, _, _, h2⟩ := he; exact h2.elim
  | goto _ => exact he.elim
  | panic _ => exact he.elim
  | outgrown => exact he.elim
/-- A function among its caller's rows, from its code. -/
def EndsG (ts : List Nat) (r : AV) (H' : Hp) : AE → St → Prop
  | .exit _, _ => False
  | _, σ => resX σ.fr ts = r ∧ σ.hp = H'
theorem gen_of {f : FuncId} {fn : Func} {c : Code} (hD : ∀ γ0 w0, DrawOk P fn.ntmps true γ0 w0) {c' : AC} {ts : List Nat} {xs : List AV} {r : AV} {H H' : Hp} (hf : P.funcs[f]? = some fn) (hb : fn.body = some c) (hn : (fn.name == "runtime.NumGoroutine") = false)
    (hr : fn.results = (ts.map ResultVar.tmp).toArray) (hc : bareC c' = comp P c) (ho : okC fn.ntmps true c' = true) (hlen : xs.length ≤ fn.ntmps) (hx : aw P c' (EndsG ts r H') ⟨xs.zipIdx.map fun p => (p.2, p.1), H⟩) : Gen P f xs H r H' := by
  refine ⟨can_of hf (by rw [hb]; rfl) hn, fun w γ0 args hh hl hs => ?_⟩
  refine calls_of_wp hf hb ?_
  refine wp_mono (aw_sound (hD γ0 w) c c' (EndsG ts r H') γ0 ⟨xs.zipIdx.map fun p => (p.2, p.1), H⟩ _ w hc ho hx ⟨zip_frame hl hs _, hh, Step.refl _ _, rfl, by simp; omega, fun _ => Ids.refl _⟩) ?_
  have fin : ∀ (γ : Gh) (σ : St) (a : Act) (W : World), SR fn.ntmps true γ0 w γ σ a W → resX σ.fr ts = r ∧ σ.hp = H' →
      a.defers = [] ∧ ∃ v, (results fn a.tmps).run P W = .ok v W ∧ ∃ v' γ', Ending.returned v = .returned v' ∧ Sim W γ' r v' ∧ HRel γ' H' W ∧ Step γ0 γ' w W ∧ Ids γ0 γ' := by
    rintro γ σ a W h ⟨h1, h2⟩
    refine ⟨h.df, _, res_run hr a.tmps, _, γ, rfl, ?_, h2 ▸ h.hp, h.st, h.ids rfl⟩
    rw [← h1]; exact resX_sim h.fr ts
  intro e a W he
  cases e with
  | normal => obtain ⟨γ, σ, h1, h2⟩ := he; exact fin γ σ a W h1 h2
  | ret => obtain ⟨γ, σ, h1, h2⟩ := he; exact fin γ σ a W h1 h2
  | exit id => obtain ⟨_, _, _, h2⟩ := he; exact h2.elim
  | goto _ => exact he.elim
  | panic _ => exact he.elim
  | outgrown => exact he.elim
end
end Go.Pv
