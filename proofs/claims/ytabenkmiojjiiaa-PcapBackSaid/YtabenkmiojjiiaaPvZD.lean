/-
  The machine of plain values, 28: functions whose results lie in memory.
-/
import Derived.Test.YtabenkmiojjiiaaPvZC
namespace Go.Pv
/-- The end of a function: r is handed back, which is had of X. -/
def EndsX (X : St → Option AV) (r : AV) : AE → St → Prop
  | .exit _, _ => False
  | _, σ => ∃ x, X σ = some x ∧ ∃ ms H1 l, hand σ.hp ms x = some (r, H1, l) ∧ liveB H1 l = true
section
variable {P : Program} {w : World} {γ : Gh} {H : Hp}
/-- A function, from its code, however its results lie. -/
theorem run_ofX {X : St → Option AV} {f : FuncId} {fn : Func} {c : Code} (hD : ∀ γ0 w0, DrawOk P fn.ntmps false γ0 w0) {c' : AC} {xs : List AV} {r : AV} (hf : P.funcs[f]? = some fn) (hb : fn.body = some c) (hn : (fn.name == "runtime.NumGoroutine") = false)
    (hX : ∀ (γ : Gh) (σ : St) (a : Act) (W : World) (x : AV) (γ0 : Gh) (w : World), SR fn.ntmps false γ0 w γ σ a W → X σ = some x → ∃ v, (results fn a.tmps).run P W = .ok v W ∧ Sim W γ x v) (hc : bareC c' = comp P c) (ho : okC fn.ntmps false c' = true) (hlen : xs.length ≤ fn.ntmps) (hx : aw P c' (EndsX X r) (entry xs)) : Run P f xs r := by
  refine ⟨can_of hf (by rw [hb]; rfl) hn, fun w I os args hos hown => ?_⟩
  have h0 : HRel (bareG I) [] w := ⟨fun id _ => rfl, fun id e he => by simp [ent] at he, fun i j x y b hi => (by cases hi), fun b hb => ⟨(hos.imm b hb).1, fun ⟨i, x, hi, _⟩ => by cases hi⟩, fun i x b hi => by cases hi⟩
  obtain ⟨γ0, m0, r0, l0, s0⟩ := layL_sim (I := I) layC_p hown (bareG I) [] rfl h0 ⟨fun b hb hI => (hos.imm b hI).2 hb, fun b _ i x hi => (by cases hi), hos.ap⟩
  have hlx : (layL layC [] xs).1.length = args.size := by simpa using l0
  have hxa : xs.length = args.size := by have := ownL_len hown; simpa using this
  refine calls_of_wp hf hb ?_
  refine wp_mono (aw_sound (hD γ0 w) c c' (EndsX X r) γ0 (entry xs) _ w hc ho hx ⟨zip_frame hlx (fun i x v hx hv => s0 i x v hx (by simpa using hv)) _, r0, Step.refl _ _, rfl, by simp; omega, fun h => by cases h⟩) ?_
  have hown0 : ∀ b, γ0.owns b ↔ blks os b := fun b => by
    rw [m0.own]
    exact ⟨fun h => h.elim (fun ⟨i, x, hi, _⟩ => by cases hi) (fun h => h), .inr⟩
  -- the end
  have fin : ∀ (γ : Gh) (σ : St) (a : Act) (W : World), SR fn.ntmps false γ0 w γ σ a W → (∃ x, X σ = some x ∧ ∃ ms H1 l, hand σ.hp ms x = some (r, H1, l) ∧ liveB H1 l = true) →
      a.defers = [] ∧ ∃ v, (results fn a.tmps).run P W = .ok v W ∧ ∃ v' I' os', Ending.returned v = .returned v' ∧ OwnT W I' os' r v' ∧ OsOk W I' os' ∧ StepB I os I' os' w W := by
    rintro γ σ a W h ⟨x, hx, ms, H1, l, hh, hlive⟩
    obtain ⟨vv, hres, hsim⟩ := hX γ σ a W x _ _ h hx
    refine ⟨h.df, _, hres, ?_⟩
    obtain ⟨γ1, os', g1, r1, n1, k1⟩ := hand_p γ σ.hp H1 ms _ r _ l h.hp hsim hh
    have hliv : ∀ id ∈ l, ∀ ge, γ.m id = some ge → ge.st ≠ 0 → γ1.m id = some ge := by
      intro id hid ge hm hst
      rcases g1.ids id ge hm with h | h
      · exact h
      · exfalso
        have := List.all_eq_true.1 hlive id hid
        split at this
        · rename_i e he
          obtain ⟨ge', hm', hok⟩ := r1.ok id e he
          rw [h] at hm'; cases hm'
          have hl := hok.live (by
            simp only [Bool.or_eq_true, Bool.not_eq_true', List.isEmpty_eq_false_iff] at this
            exact this)
          have := hl.1
          simp only at this
          split at this <;> cases this
        · cases this
    have hosb : ∀ b, blks os' b → γ.owns b ∧ ∀ id ge, γ1.m id = some ge → ge.st ≠ 0 → ge.blk ≠ some b := by
      rintro b ⟨ge, hge, hb⟩
      obtain ⟨id, h1, h2, h3⟩ := g1.src ge hge b hb
      refine ⟨⟨id, ge, h1, h2, hb⟩, fun id' ge' hm hst hb' => ?_⟩
      have e := h.hp.inj id id' ge ge' b h1 (g1.rev id' ge' hm hst) (by rw [h2]; decide) hst hb hb'
      subst e
      rw [h3] at hm; cases hm
      exact hst rfl
    refine ⟨_, fun b => γ.imm b ∨ ∃ id ∈ l, ∃ ge, γ.m id = some ge ∧ ge.st ≠ 0 ∧ ge.blk = some b, os', rfl, k1 _ (fun b hb => .inl hb) (fun id hid ge b hm hst hb => .inr ⟨id, hid, ge, hm, hst, hb⟩), ⟨?_, ?_, g1.ap⟩, ?_⟩
    · rintro b (hb | ⟨id, hid, ge, hm, hst, hb⟩)
      · exact ⟨(h.hp.imm b hb).1, fun h' => (h.hp.imm b hb).2 (hosb b h').1⟩
      · exact ⟨h.hp.blkLt hm hst hb, fun h' => (hosb b h').2 id ge (hliv id hid ge hm hst) hst hb⟩
    · intro b hb
      obtain ⟨id, ge, h1, h2, h3⟩ := (hosb b hb).1
      exact h.hp.blkLt h1 (by rw [h2]; decide) h3
    · have own' : ∀ b, γ.owns b → blks os b ∨ w.heap.size ≤ b := fun b hb => (h.st.own b hb).imp (fun h => (hown0 b).1 h) id
      have imm' : ∀ b, γ.imm b → I b ∨ blks os b ∨ w.heap.size ≤ b := fun b hb => by
        rcases h.st.immn b hb with h1 | h1 | h1
        · rw [m0.imm] at h1; exact .inl h1
        · exact .inr (.inl ((hown0 b).1 h1))
        · exact .inr (.inr h1)
      refine ⟨h.st.os, h.st.tape, h.st.output, h.st.size, fun b hb hn => h.st.keep b hb fun h' => hn ((hown0 b).1 h'), fun b hb => own' b (hosb b hb).1, fun b hb => .inl (h.st.immk b (by rw [m0.imm]; exact hb)), ?_⟩
      rintro b (hb | ⟨id, hid, ge, hm, hst, hb⟩)
      · exact imm' b hb
      · rcases st_cases h.hp hm with h1 | h1 | h1
        · exact absurd h1 hst
        · exact imm' b (h.hp.stl id ge b hm h1 hb)
        · exact .inr (own' b ⟨id, ge, hm, h1, hb⟩)
  intro e a W he
  cases e with
  | normal => obtain ⟨γ, σ, h1, h2⟩ := he; exact fin γ σ a W h1 h2
  | ret => obtain ⟨γ, σ, h1, h2⟩ := he; exact fin γ σ a W h1 h2
  | exit id => obtain ⟨_, _, _, h2⟩ := he; exact h2.elim
  | goto _ => exact he.elim
  | panic _ => exact he.elim
  | outgrown => exact he.elim
/-- Where a result lies: in a slot; in memory (so many cells, an aggregate). -/
inductive RV where
  | t (n : Nat)
  | c (n sz : Nat) (ag : Bool)
def rvX (fr : Fr) (hp : Hp) : RV → Option AV
  | .t n => some (get fr n)
  | .c n sz ag => evR fr hp (.load sz ag (.t n))
def rvL (fr : Fr) (hp : Hp) : List RV → Option (List AV)
  | [] => some []
  | r :: rs => (rvX fr hp r).bind fun x => (rvL fr hp rs).map fun xs => x :: xs
def rvs (rs : List RV) (σ : St) : Option AV := match rs with
  | [r] => rvX σ.fr σ.hp r
  | rs => (rvL σ.fr σ.hp rs).map .tup
def rvOk (P : Program) : RV → ResultVar → Bool
  | .t n, .tmp m => n == m
  | .c n sz ag, .cell m t => n == m && (tyOk P t && (P.cellsOf t == sz && isAg P t == ag))
  | _, _ => false
def rvsOk (P : Program) : List RV → List ResultVar → Bool
  | [], [] => true
  | r :: rs, q :: qs => rvOk P r q && rvsOk P rs qs
  | _, _ => false
theorem rv_run {σ : St} {tmps : Array Value} {r : RV} {q : ResultVar} {x : AV} (hh : HRel γ σ.hp w) (hf : FrR w γ σ.fr tmps) (hq : rvOk P r q = true) (hx : rvX σ.fr σ.hp r = some x)
    (g : ResultVar → Sem Value) (g1 : ∀ t, g (.tmp t) = pure (tmps.getD t Go.undef)) (g2 : ∀ a t, g (.cell a t) = do loadVar t (← asAddr (tmps.getD a Go.undef))) :
    ∃ v, (g q).run P w = .ok v w ∧ Sim w γ x v := by
  cases r with
  | t n =>
    cases q with
    | tmp m =>
      simp only [rvOk, beq_iff_eq] at hq
      subst hq
      simp only [rvX, Option.some.injEq] at hx
      subst hx
      rw [g1]
      exact ⟨_, rfl, hf n⟩
    | cell m t => cases hq
  | c n sz ag =>
    cases q with
    | tmp m => cases hq
    | cell m t =>
      simp only [rvOk, Bool.and_eq_true, beq_iff_eq] at hq
      obtain ⟨rfl, ht, rfl, rfl⟩ := hq
      have hs : Sim w γ (AX.ev σ.fr (.t n)) (tmps.getD n Go.undef) := hf n
      obtain ⟨v, hv, hsim⟩ := load_run hh ht hs hx
      obtain ⟨a, ha⟩ : ∃ a, tmps.getD n Go.undef = .pointer (some a) := by
        simp only [rvX, evR] at hx
        generalize AX.ev σ.fr (.t n) = X at hs hx
        generalize tmps.getD n Go.undef = u at hs
        cases hs <;> first | exact ⟨_, rfl⟩ | cases hx
      refine ⟨v, ?_, hsim⟩
      rw [g2]
      rw [ha] at hv ⊢
      exact hv
theorem rvL_run {σ : St} {tmps : Array Value} (hh : HRel γ σ.hp w) (hf : FrR w γ σ.fr tmps) (g : ResultVar → Sem Value) (g1 : ∀ t, g (.tmp t) = pure (tmps.getD t Go.undef)) (g2 : ∀ a t, g (.cell a t) = do loadVar t (← asAddr (tmps.getD a Go.undef))) :
    ∀ (rs : List RV) (qs : List ResultVar) (xs : List AV), rvsOk P rs qs = true → rvL σ.fr σ.hp rs = some xs →
    ∃ vs, (qs.mapM (m := Sem) g).run P w = .ok vs w ∧ xs.length = vs.length ∧ ∀ (i : Nat) (x : AV) (v : Value), xs[i]? = some x → vs[i]? = some v → Sim w γ x v
  | [], [], xs, _, h => by
    simp only [rvL, Option.some.injEq] at h
    subst h
    exact ⟨[], rfl, rfl, fun i x v hx => by simp at hx⟩
  | [], _ :: _, _, h, _ => by cases h
  | _ :: _, [], _, h, _ => by cases h
  | r :: rs, q :: qs, xs, hq, h => by
    simp only [rvsOk, Bool.and_eq_true] at hq
    simp only [rvL] at h
    obtain ⟨x, hx, h⟩ := Option.bind_eq_some_iff.1 h
    obtain ⟨ys, hys, rfl⟩ := Option.map_eq_some_iff.1 h
    obtain ⟨v, hv, hs⟩ := rv_run hh hf hq.1 hx g g1 g2
    obtain ⟨vs, hvs, hl, hss⟩ := rvL_run hh hf g g1 g2 rs qs ys hq.2 hys
    refine ⟨v :: vs, ?_, by simp [hl], fun i y u hy hu => ?_⟩
    · rw [List.mapM_cons]
      simp only [Sem.run_bind]
      rw [hv]
      simp only [Result.andThen_ok, hvs, Sem.run_pure]
    · cases i with
      | zero => simp at hy hu; subst hy hu; exact hs
      | succ i => exact hss i y u (by simpa using hy) (by simpa using hu)
theorem rvs_run {fn : Func} {rs : List RV} {n : Nat} {k : Bool} (hr : rvsOk P rs fn.results.toList = true) (γ : Gh) (σ : St) (a : Act) (W : World) (x : AV) (γ0 : Gh) (w : World) (h : SR n k γ0 w γ σ a W) (hx : rvs rs σ = some x) : ∃ v, (results fn a.tmps).run P W = .ok v W ∧ Sim W γ x v := by
  have key : ∀ xs, rvL σ.fr σ.hp rs = some xs → ∃ vs : Array Value, (results fn a.tmps).run P W = .ok (if h : vs.size = 1 then vs[0] else .tuple vs) W ∧ xs.length = vs.size ∧ ∀ (i : Nat) (x : AV) (v : Value), xs[i]? = some x → vs[i]? = some v → Sim W γ x v := by
    intro xs hxs
    unfold results
    have e : fn.results = fn.results.toList.toArray := by simp
    rw [e]
    simp only [List.mapM_toArray, Sem.run_bind, Sem.run_map]
    have gen : ∀ g : ResultVar → Sem Value, (∀ t, g (.tmp t) = pure (a.tmps.getD t Go.undef)) → (∀ c t, g (.cell c t) = do loadVar t (← asAddr (a.tmps.getD c Go.undef))) →
        ∃ vs : Array Value, ((((fn.results.toList.mapM (m := Sem) g).run P W).andThen fun a w' => Result.ok a.toArray w').andThen fun a w' => Sem.run P (pure (if h : a.size = 1 then a[0] else Value.tuple a)) w') = .ok (if h : vs.size = 1 then vs[0] else .tuple vs) W ∧ xs.length = vs.size ∧ ∀ (i : Nat) (x : AV) (v : Value), xs[i]? = some x → vs[i]? = some v → Sim W γ x v := by
      intro g g1 g2
      obtain ⟨vs, hvs, hl, hs⟩ := rvL_run h.hp h.fr (P := P) g g1 g2 rs _ xs hr hxs
      refine ⟨vs.toArray, ?_, by simpa using hl, fun i x v hx hv => hs i x v hx (by simpa using hv)⟩
      rw [hvs]
      simp only [Result.andThen_ok, Sem.run_pure]
    exact gen _ (fun t => rfl) (fun c t => rfl)
  have two : ∀ xs, rs.length ≠ 1 → rvL σ.fr σ.hp rs = some xs → ∃ v, (results fn a.tmps).run P W = .ok v W ∧ Sim W γ (.tup xs) v := by
    intro xs hl hxs
    have hlen : ∀ (rs : List RV) (xs : List AV), rvL σ.fr σ.hp rs = some xs → xs.length = rs.length := by
      intro rs
      induction rs with
      | nil => intro xs h; simp only [rvL, Option.some.injEq] at h; subst h; rfl
      | cons r rs ih =>
        intro xs h
        simp only [rvL] at h
        obtain ⟨x, hx, h⟩ := Option.bind_eq_some_iff.1 h
        obtain ⟨ys, hys, rfl⟩ := Option.map_eq_some_iff.1 h
        simp [ih _ hys]
    obtain ⟨vs, h1, h2, h3⟩ := key xs hxs
    have := hlen _ _ hxs
    rw [dif_neg (by omega)] at h1
    exact ⟨_, h1, .tup _ _ h2 h3⟩
  match rs, hx, two, key with
  | [], hx, two, _ =>
    simp only [rvs, rvL, Option.map_some, Option.some.injEq] at hx
    subst hx
    exact two [] (by simp) rfl
  | [r], hx, _, key =>
    simp only [rvs] at hx
    obtain ⟨vs, h1, h2, h3⟩ := key [x] (by simp [rvL, hx])
    have h0 : vs.size = 1 := by simpa using h2.symm
    rw [dif_pos h0] at h1
    exact ⟨_, h1, h3 0 x _ rfl (Array.getElem?_eq_getElem (by omega))⟩
  | r :: r' :: rs, hx, two, _ =>
    simp only [rvs] at hx
    obtain ⟨xs, hxs, rfl⟩ := Option.map_eq_some_iff.1 hx
    exact two xs (by simp) hxs
/-- A function, from its code, some of whose results lie in memory. -/
theorem run_ofC {f : FuncId} {fn : Func} {c : Code} (hD : ∀ γ0 w0, DrawOk P fn.ntmps false γ0 w0) {c' : AC} {rs : List RV} {xs : List AV} {r : AV} (hf : P.funcs[f]? = some fn) (hb : fn.body = some c) (hn : (fn.name == "runtime.NumGoroutine") = false)
    (hr : rvsOk P rs fn.results.toList = true) (hc : bareC c' = comp P c) (ho : okC fn.ntmps false c' = true) (hlen : xs.length ≤ fn.ntmps) (hx : aw P c' (EndsX (rvs rs) r) (entry xs)) : Run P f xs r :=
  run_ofX hD hf hb hn (fun γ σ a W x γ0 w h hx => rvs_run hr γ σ a W x γ0 w h hx) hc ho hlen hx
end
theorem grow_app {no : List TypeId} (hp l : Hp) : Grow no hp (hp ++ l) := by
  have e : ∀ id, id < hp.length → ent (hp ++ l) id = ent hp id := fun id h => by unfold ent; rw [List.getElem?_append_left h]
  refine ⟨by simp, fun id e' h => ⟨e', ?_⟩, fun id e' h _ => ⟨e'.wr, ?_⟩, fun id h h' => ?_⟩
  · rw [e id (ent_lt h), h]
  · rw [e id (ent_lt h), h]
  · rw [e id h, h']
theorem layC_app (hp : Hp) (x : AV) : ∃ l, (layC hp x).2 = hp ++ l := by
  unfold layC; split
  · exact ⟨_, rfl⟩
  · exact ⟨[], by simp⟩
theorem layL_app {f : Hp → AV → AV × Hp} (hf : ∀ hp x, ∃ l, (f hp x).2 = hp ++ l) : ∀ (xs : List AV) (hp : Hp), ∃ l, (layL f hp xs).2 = hp ++ l
  | [], hp => ⟨[], by simp [layL]⟩
  | x :: xs, hp => by
    obtain ⟨l, h⟩ := hf hp x
    obtain ⟨l', h'⟩ := layL_app hf xs (f hp x).2
    exact ⟨l ++ l', by simp only [layL]; rw [h', h, List.append_assoc]⟩
theorem layA_app (hp : Hp) (x : AV) : ∃ l, (layA hp x).2 = hp ++ l := by
  unfold layA; split
  · exact layL_app layC_app _ _
  · exact layC_app _ _
theorem lay_app (hp : Hp) (x : AV) : ∃ l, (lay hp x).2 = hp ++ l := by
  unfold lay; split
  · exact layL_app layA_app _ _
  · exact layA_app _ _
/-- A call where the order is open, and no rows are made beside it. -/
theorem awR_callDO {P : Program} {N : St → Prop} {fr : Fr} {hp : Hp} {base : Nat} {d : Option Nat} {f : FuncId} {xs : List AX} {no : List TypeId} {rest : List Op2} {ys : List AV} {r : AV} (hr : Run P f ys r) (ha : xs.map (·.ev fr) = ys) (hn : ys.all AV.nr1 = true)
    (hk : awR P base rest N ⟨putO fr d (lay hp r).1, (lay hp r).2⟩) : awR P base (⟨d, none, .call f xs true, false, no⟩ :: rest) N ⟨fr, hp⟩ := by
  obtain ⟨l, hl⟩ := lay_app hp r
  refine ⟨(lay hp r).1, (lay hp r).2, ?_, fun _ => ⟨?_, fun h => by cases h⟩, hk⟩
  · show Gen P f (xs.map (·.ev fr)) hp _ _
    rw [ha]; exact gen_nr hr hn
  · show Grow _ hp _
    rw [hl]; exact grow_app hp l
theorem EndsX_rq {hp : Hp} {fr : Fr} {X : St → Option AV} {r : AV} (ms : List (List Mode)) (h : ∃ p, (X ⟨fr, hp⟩).bind (hand hp ms) = some p ∧ p.1 = r ∧ liveB p.2.1 p.2.2 = true) : EndsX X r .ret ⟨fr, hp⟩ := by
  obtain ⟨p, h1, rfl, h2⟩ := h
  obtain ⟨x, hx, hh⟩ := Option.bind_eq_some_iff.1 h1
  exact ⟨x, hx, ms, p.2.1, p.2.2, hh, h2⟩
theorem EndsX_nq {hp : Hp} {fr : Fr} {X : St → Option AV} {r : AV} (ms : List (List Mode)) (h : ∃ p, (X ⟨fr, hp⟩).bind (hand hp ms) = some p ∧ p.1 = r ∧ liveB p.2.1 p.2.2 = true) : EndsX X r .normal ⟨fr, hp⟩ := by
  obtain ⟨p, h1, rfl, h2⟩ := h
  obtain ⟨x, hx, hh⟩ := Option.bind_eq_some_iff.1 h1
  exact ⟨x, hx, ms, p.2.1, p.2.2, hh, h2⟩
theorem rvs_1 {r : RV} {fr : Fr} {hp : Hp} : rvs [r] ⟨fr, hp⟩ = rvX fr hp r := (rfl)
theorem rvs_2 {r r' : RV} {rs : List RV} {fr : Fr} {hp : Hp} : rvs (r :: r' :: rs) ⟨fr, hp⟩ = (rvL fr hp (r :: r' :: rs)).map .tup := (rfl)
end Go.Pv
