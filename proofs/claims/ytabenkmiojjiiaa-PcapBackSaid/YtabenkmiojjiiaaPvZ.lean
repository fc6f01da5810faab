/-
  The machine of plain values, 25: rules to run code step by step.
-/
import Derived.Test.YtabenkmiojjiiaaPvY
namespace Go.Pv
/-! ### Values without rows -/
def AV.nr0 : AV → Bool
  | .vec .. | .eptr .. | .agg _ | .tup _ | .fn .. | .own .. | .undef => false
  | _ => true
def AV.nr1 : AV → Bool
  | .agg cs => cs.all AV.nr0
  | x => x.nr0
/-- Handed back: no rows but such as are handed over. -/
theorem snap_nr0 {hp : Hp} {n : Nat} {x : AV} (h : x.nr0 = true) : snap hp (n + 1) x = some x := by
  cases x <;> first | rfl | cases h
theorem rows_nr0 {hp : Hp} {n : Nat} {x : AV} (h : x.nr0 = true) : rows hp (n + 1) x = [] := by
  cases x <;> first | rfl | cases h
theorem mapO_id {f : AV → Option AV} : ∀ {l : List AV}, (∀ x ∈ l, f x = some x) → mapO f l = some l
  | [], _ => rfl
  | x :: l, h => by simp [mapO, h x (by simp), mapO_id (l := l) fun y hy => h y (by simp [hy])]
theorem snap_nr1 {hp : Hp} {n : Nat} {x : AV} (h : x.nr1 = true) : snap hp (n + 2) x = some x := by
  cases x with
  | agg cs =>
    have : ∀ y ∈ cs, snap hp (n + 1) y = some y := fun y hy => snap_nr0 (List.all_eq_true.1 h y hy)
    show (mapO (snap hp (n + 1)) cs).map AV.agg = _
    rw [mapO_id this]; rfl
  | _ => first | rfl | cases h
theorem rows_nr1 {hp : Hp} {n : Nat} {x : AV} (h : x.nr1 = true) : rows hp (n + 2) x = [] := by
  cases x with
  | agg cs =>
    have : ∀ y ∈ cs, rows hp (n + 1) y = [] := fun y hy => rows_nr0 (List.all_eq_true.1 h y hy)
    show cs.flatMap (rows hp (n + 1)) = []
    rw [List.flatMap_eq_nil_iff]; exact this
  | _ => first | rfl | cases h
theorem pass_nr {hp : Hp} : ∀ {xs : List AV}, xs.all AV.nr1 = true → pass hp [] xs = some (xs, hp, [])
  | [], _ => rfl
  | x :: xs, h => by
    simp only [List.all_cons, Bool.and_eq_true] at h
    have := pass_nr (hp := hp) h.2
    unfold pass at this ⊢
    simp only [passG, List.headD_nil, List.tail_nil, passOne, deep, snap_nr1 h.1, rows_nr1 h.1, Option.map_some, Option.bind_some, this]
    rfl
theorem gen_nr {P : Program} {f : FuncId} {xs : List AV} {r : AV} {H : Hp} (hr : Run P f xs r) (h : xs.all AV.nr1 = true) : Gen P f xs H (lay H r).1 (lay H r).2 :=
  gen_still (l := []) hr (pass_nr h) rfl
/-! ### Steps -/
/-- awOps, the state last. -/
def awR (P : Program) (base : Nat) (ops : List Op2) (N : St → Prop) (σ : St) : Prop := awOps P base ops σ N
def trimK (tr : Option Trim) (K : AE → St → Prop) (σ : St) : Prop := K .normal (trim tr σ)
def stepP (o : Option AV) (d : Option Nat) (k : St → Prop) (fr : Fr) (hp : Hp) : Prop := match o with
  | some x => k ⟨putO fr d x, hp⟩
  | none => False
theorem stepP_some {x : AV} {d : Option Nat} {k : St → Prop} {fr : Fr} {hp : Hp} : stepP (some x) d k fr hp = k ⟨putO fr d x, hp⟩ := (rfl)
def stepE (o : Option (AV × Hp)) (d : Option Nat) (k : St → Prop) (fr : Fr) : Prop := match o with
  | some p => k ⟨putO fr d p.1, p.2⟩
  | none => False
theorem stepE_some {x : AV} {hp : Hp} {d : Option Nat} {k : St → Prop} {fr : Fr} : stepE (some (x, hp)) d k fr = k ⟨putO fr d x, hp⟩ := (rfl)
def condP (c : AV) (A B : St → Prop) (σ : St) : Prop := match c with
  | .bool b => (b = true → A σ) ∧ (b = false → B σ)
  | .anyb => A σ ∧ B σ
  | _ => False
section
variable {A B : St → Prop} {σ : St}
theorem condP_true : condP (.bool true) A B σ = A σ := by simp [condP]
theorem condP_false : condP (.bool false) A B σ = B σ := by simp [condP]
theorem condP_b {b : Bool} (h : b = true → A σ) (h' : b = false → B σ) : condP (.bool b) A B σ := ⟨h, h'⟩
theorem condP_any (h : A σ) (h' : B σ) : condP .anyb A B σ := ⟨h, h'⟩
theorem condP_d {p : Prop} [Decidable p] (h : p → A σ) (h' : ¬ p → B σ) : condP (.bool (decide p)) A B σ := ⟨fun e => h (of_decide_eq_true e), fun e => h' (of_decide_eq_false e)⟩
end
/-- A skipped value. -/
def skp : AV := .lit Go.undef
/-- A test that is not decided. -/
def guardP (c : AV) (want : Bool) (A B : St → Prop) (d : Option Nat) (fr : Fr) (hp : Hp) : Prop := match c with
  | .bool b => if b = want then A ⟨fr, hp⟩ else B ⟨putO fr d skp, hp⟩
  | .lit v => notBool v = true ∧ B ⟨putO fr d skp, hp⟩
  | _ => False
section
variable {A B : St → Prop} {d : Option Nat} {fr : Fr} {hp : Hp}
theorem guardP_tt : guardP (.bool true) true A B d fr hp = A ⟨fr, hp⟩ := (rfl)
theorem guardP_ff : guardP (.bool false) false A B d fr hp = A ⟨fr, hp⟩ := (rfl)
theorem guardP_tf : guardP (.bool true) false A B d fr hp = B ⟨putO fr d skp, hp⟩ := (rfl)
theorem guardP_ft : guardP (.bool false) true A B d fr hp = B ⟨putO fr d skp, hp⟩ := (rfl)
theorem guardP_s {w : Bool} : guardP skp w A B d fr hp = B ⟨putO fr d skp, hp⟩ := by simp [guardP, skp, notBool, Go.undef]
theorem guardP_d0 {p : Prop} [Decidable p] (h : ¬ p → A ⟨fr, hp⟩) (h' : p → B ⟨putO fr d skp, hp⟩) : guardP (.bool (decide p)) false A B d fr hp := by
  by_cases hp : p
  · simp only [guardP, decide_eq_true hp]; exact h' hp
  · simp only [guardP, decide_eq_false hp]; exact h hp
theorem guardP_d1 {p : Prop} [Decidable p] (h : p → A ⟨fr, hp⟩) (h' : ¬ p → B ⟨putO fr d skp, hp⟩) : guardP (.bool (decide p)) true A B d fr hp := by
  by_cases hp : p
  · simp only [guardP, decide_eq_true hp]; exact h hp
  · simp only [guardP, decide_eq_false hp]; exact h' hp
theorem guardP_b {b want : Bool} (h : b = want → A ⟨fr, hp⟩) (h' : b = !want → B ⟨putO fr d skp, hp⟩) : guardP (.bool b) want A B d fr hp := by
  cases b <;> cases want <;> first | exact h rfl | exact h' rfl
end
section
variable {P : Program} {K : AE → St → Prop} {N : St → Prop} {fr : Fr} {hp : Hp} {σ : St} {base : Nat}
theorem aw_skip : aw P .skip K σ = K .normal σ := (rfl)
theorem aw_seq {a b : AC} : aw P (.seq a b) K σ = aw P a (andThen (aw P b K) K) σ := (rfl)
theorem aw_block {i : Nat} {b : AC} : aw P (.block i b) K σ = aw P b (inBlk i K) σ := (rfl)
theorem aw_exit {i : Nat} : aw P (.exit i) K σ = K (.exit i) σ := (rfl)
theorem aw_ret : aw P .ret K σ = K .ret σ := (rfl)
theorem aw_scope {b : AC} : aw P (.scope b) K σ = aw P b K σ := (rfl)
theorem aw_cond {c : AX} {x y : AC} : aw P (.cond c x y) K ⟨fr, hp⟩ = condP (c.ev fr) (aw P x K) (aw P y K) ⟨fr, hp⟩ := by
  show (match c.ev fr with | .bool b => _ | .anyb => _ | _ => _) = _
  generalize c.ev fr = v
  cases v <;> rfl
theorem aw_region0 {ops : List Op2} {tr : Option Trim} : aw P (.region 0 ops tr) K ⟨fr, hp⟩ = awR P hp.length ops (trimK tr K) ⟨fr, hp⟩ := by
  simp [aw, awR]; rfl
theorem aw_regionN {n : Nat} {ops : List Op2} {tr : Option Trim} : aw P (.region (n + 1) ops tr) K ⟨fr, hp⟩ = awR P hp.length ops (trimK tr K) ⟨fr, hp ++ List.replicate (n + 1) none⟩ := (rfl)
theorem trimK_none : trimK none K ⟨fr, hp⟩ = K .normal ⟨fr, hp⟩ := (rfl)
theorem trimK_some {ks : List Nat} {nils : List (Nat × Nat × TypeId)} : trimK (some ⟨ks, nils, false⟩) K ⟨fr, hp⟩ = K .normal (nils.foldl rowOne ⟨ks.map fun k => (k, get fr k), hp⟩) := (rfl)
theorem trimK_gc {ks : List Nat} {nils : List (Nat × Nat × TypeId)} : trimK (some ⟨ks, nils, true⟩) K ⟨fr, hp⟩ = K .normal (gcSt (nils.foldl rowOne ⟨ks.map fun k => (k, get fr k), hp⟩)) := (rfl)
theorem trim_some {ks : List Nat} {nils : List (Nat × Nat × TypeId)} : trim (some ⟨ks, nils, false⟩) ⟨fr, hp⟩ = nils.foldl rowOne ⟨ks.map fun k => (k, get fr k), hp⟩ := (rfl)
theorem trim_gc {ks : List Nat} {nils : List (Nat × Nat × TypeId)} : trim (some ⟨ks, nils, true⟩) ⟨fr, hp⟩ = gcSt (nils.foldl rowOne ⟨ks.map fun k => (k, get fr k), hp⟩) := (rfl)
theorem andThen_n {N : St → Prop} : andThen N K .normal σ = N σ := (rfl)
theorem andThen_r {N : St → Prop} : andThen N K .ret σ = K .ret σ := (rfl)
theorem andThen_e {N : St → Prop} {i : Nat} : andThen N K (.exit i) σ = K (.exit i) σ := (rfl)
theorem inBlk_n {i : Nat} : inBlk i K .normal σ = K .normal σ := (rfl)
theorem inBlk_r {i : Nat} : inBlk i K .ret σ = K .ret σ := (rfl)
theorem inBlk_e {i j : Nat} : inBlk i K (.exit j) σ = if j = i then K .normal σ else K (.exit j) σ := (rfl)
theorem awR_nil : awR P base [] N σ = N σ := (rfl)
theorem awR_p {d : Option Nat} {q : OpP} {fm : Bool} {no : List TypeId} {r : List Op2} : awR P base (⟨d, none, .p q, fm, no⟩ :: r) N ⟨fr, hp⟩ = stepP (evP fr q) d (awR P base r N) fr hp := by
  simp only [awR, awOps, aw2, aw1, stepP, St.put]; generalize evP fr q = v; cases v <;> rfl
theorem awR_r0 {d : Option Nat} {q : OpR} {fm : Bool} {r : List Op2} : awR P base (⟨d, none, .r q, fm, []⟩ :: r) N ⟨fr, hp⟩ = stepP (evR fr hp q) d (awR P base r N) fr hp := by
  have : noLoad [] fr hp q = true := by unfold noLoad; repeat' split
                                        all_goals first | rfl | simp
  simp only [awR, awOps, aw2, aw1, stepP, St.put, this, true_and]; generalize evR fr hp q = v; cases v <;> rfl
theorem awR_rn {d : Option Nat} {q : OpR} {fm : Bool} {t : TypeId} {no : List TypeId} {r : List Op2} (h : noLoad (t :: no) fr hp q = true) : awR P base (⟨d, none, .r q, fm, t :: no⟩ :: r) N ⟨fr, hp⟩ = stepP (evR fr hp q) d (awR P base r N) fr hp := by
  simp only [awR, awOps, aw2, aw1, stepP, St.put, h, true_and]; generalize evR fr hp q = v; cases v <;> rfl
theorem awR_e {d : Option Nat} {q : OpE} {rr : Option Nat} {fm : Bool} {no : List TypeId} {r : List Op2} : awR P base (⟨d, none, .e q rr, fm, no⟩ :: r) N ⟨fr, hp⟩ = stepE (evE base rr fr hp q) d (awR P base r N) fr := by
  simp only [awR, awOps, aw2, aw1, stepE]; generalize evE base rr fr hp q = v; cases v <;> rfl
theorem awR_g {d : Option Nat} {t : Nat} {want : Bool} {o : Op1} {fm : Bool} {no : List TypeId} {r : List Op2} :
    awR P base (⟨d, some (t, want), o, fm, no⟩ :: r) N ⟨fr, hp⟩ = guardP (get fr t) want (awR P base (⟨d, none, o, fm, no⟩ :: r) N) (awR P base r N) d fr hp := by
  have e : ∀ (g : Option (Nat × Bool)) (σ : St) (K : St → Prop), aw1 P base ⟨d, g, o, fm, no⟩ σ K = aw1 P base ⟨d, none, o, fm, no⟩ σ K := fun _ _ _ => by cases o <;> rfl
  have h : awR P base (⟨d, some (t, want), o, fm, no⟩ :: r) N ⟨fr, hp⟩ = aw2 P base ⟨d, some (t, want), o, fm, no⟩ ⟨fr, hp⟩ (fun σ => awOps P base r σ N) := rfl
  rw [h]
  unfold aw2 guardP
  dsimp only
  generalize get fr t = v
  cases v with
  | bool b =>
    show (if b = want then aw1 P base _ _ _ else awOps P base r _ N) = _
    rw [e]; rfl
  | _ => rfl
/-- A call. -/
theorem awR_callG {d : Option Nat} {f : FuncId} {xs : List AX} {fm : Bool} {no : List TypeId} {rest : List Op2} {r : AV} {H' : Hp} (hg : Gen P f (xs.map (·.ev fr)) hp r H')
    (hk : awR P base rest N ⟨putO fr d r, H'⟩) : awR P base (⟨d, none, .call f xs false, fm, no⟩ :: rest) N ⟨fr, hp⟩ :=
  ⟨r, H', hg, (fun h => by cases h), hk⟩
theorem awR_call {d : Option Nat} {f : FuncId} {xs : List AX} {fm : Bool} {no : List TypeId} {rest : List Op2} {ys : List AV} {r : AV} (hr : Run P f ys r) (ha : xs.map (·.ev fr) = ys) (hn : ys.all AV.nr1 = true)
    (hk : awR P base rest N ⟨putO fr d (lay hp r).1, (lay hp r).2⟩) : awR P base (⟨d, none, .call f xs false, fm, no⟩ :: rest) N ⟨fr, hp⟩ :=
  awR_callG (by rw [ha]; exact gen_nr hr hn) hk
theorem Grow.refl {no : List TypeId} (H : Hp) : Grow no H H := ⟨Nat.le_refl _, fun id e h => ⟨e, h⟩, fun id e h _ => ⟨e.wr, by rw [h]⟩, fun id _ h => h⟩
/-- A call that reads rows, and hands back no memory: the rows are as they were. -/
theorem awR_callR {d : Option Nat} {f : FuncId} {xs : List AX} {fm : Bool} {no : List TypeId} {rest : List Op2} {ys : List AV} {r : AV} {l : List Nat} {ms : List Mode} (hr : Run P f ys r) (hp' : pass hp ms (xs.map (·.ev fr)) = some (ys, hp, l)) (hv : liveB hp l = true) (hl : r.pT = true)
    (hk : awR P base rest N ⟨putO fr d (lay hp r).1, (lay hp r).2⟩) : awR P base (⟨d, none, .call f xs false, fm, no⟩ :: rest) N ⟨fr, hp⟩ :=
  awR_callG (gen_plain hr hp' hv hl) hk
/-- .. and any memory: nobody writes the rows any more. -/
theorem awR_callS {d : Option Nat} {f : FuncId} {xs : List AX} {fm : Bool} {no : List TypeId} {rest : List Op2} {ys : List AV} {r : AV} {l : List Nat} {ms : List Mode} {H1 : Hp} (hr : Run P f ys r) (hp' : pass hp ms (xs.map (·.ev fr)) = some (ys, H1, l)) (hv : liveB H1 l = true)
    (hk : awR P base rest N ⟨putO fr d (lay (still H1 l) r).1, (lay (still H1 l) r).2⟩) : awR P base (⟨d, none, .call f xs false, fm, no⟩ :: rest) N ⟨fr, hp⟩ :=
  awR_callG (gen_still hr hp' hv) hk
/-- .. where the order is open: what comes back holds no row. -/
theorem awR_callD {d : Option Nat} {f : FuncId} {xs : List AX} {fm : Bool} {no : List TypeId} {rest : List Op2} {ys : List AV} {r : AV} (hr : Run P f ys r) (ha : xs.map (·.ev fr) = ys) (hn : ys.all AV.nr1 = true)
    (hl : ∀ H, lay H r = (r, H)) (hk : awR P base rest N ⟨putO fr d r, hp⟩) : awR P base (⟨d, none, .call f xs true, fm, no⟩ :: rest) N ⟨fr, hp⟩ := by
  have hg : ∀ H, Gen P f (xs.map (·.ev fr)) H r H := fun H => by
    have := gen_nr (H := H) hr hn
    rw [hl H] at this
    rw [ha]; exact this
  exact ⟨r, hp, hg hp, fun _ => ⟨Grow.refl _, fun _ => framed_of hg⟩, hk⟩
/-- .. a call that reads rows, and hands back no memory. -/
theorem awR_callDR {d : Option Nat} {f : FuncId} {xs : List AX} {no : List TypeId} {rest : List Op2} {ys : List AV} {r : AV} {l : List Nat} {ms : List Mode} (hr : Run P f ys r) (hp' : pass hp ms (xs.map (·.ev fr)) = some (ys, hp, l)) (hv : liveB hp l = true) (hl : r.pT = true)
    (hy : lay hp r = (r, hp)) (hk : awR P base rest N ⟨putO fr d r, hp⟩) : awR P base (⟨d, none, .call f xs true, false, no⟩ :: rest) N ⟨fr, hp⟩ := by
  have hg := gen_plain hr hp' hv hl
  rw [hy] at hg
  exact ⟨r, hp, hg, fun _ => ⟨Grow.refl _, fun h => by cases h⟩, hk⟩
theorem awR_callv {d : Option Nat} {x : AX} {xs : List AX} {fm : Bool} {no : List TypeId} {rest : List Op2} {f : FuncId} {caps : List AV} {r : AV} {H' : Hp} (hx : x.ev fr = .fn f caps) (hg : Gen P f (xs.map (·.ev fr) ++ caps) hp r H') (hl : hp.length ≤ H'.length)
    (hk : awR P base rest N ⟨putO fr d r, H'⟩) : awR P base (⟨d, none, .callv x xs, fm, no⟩ :: rest) N ⟨fr, hp⟩ := by
  simp only [awR, awOps, aw2, aw1, hx]
  exact ⟨r, H', hg, hl, hk⟩
theorem aw_mono : ∀ (c : AC) (K K' : AE → St → Prop) (σ : St), (∀ e σ, K e σ → K' e σ) → aw P c K σ → aw P c K' σ := by
  intro c
  induction c with
  | skip => intro K K' σ h hx; exact h _ _ hx
  | region n ops tr =>
    intro K K' σ h hx
    have m1 : ∀ (base : Nat) (o : Op2) (σ : St) (N N' : St → Prop), (∀ σ, N σ → N' σ) → aw1 P base o σ N → aw1 P base o σ N' := by
      intro base o σ N N' h hx
      unfold aw1 at hx ⊢
      split at hx
      · split at hx <;> first | exact h _ hx | exact hx
      · split at hx <;> first | exact ⟨hx.1, h _ hx.2⟩ | exact hx
      · split at hx <;> first | exact h _ hx | exact hx
      · obtain ⟨r, H', h1, h2, h3⟩ := hx; exact ⟨r, H', h1, h2, h _ h3⟩
      · split at hx
        · obtain ⟨r, H', h1, h2, h3⟩ := hx; exact ⟨r, H', h1, h2, h _ h3⟩
        · exact hx
      · exact hx
    have m2 : ∀ (base : Nat) (ops : List Op2) (σ : St) (N N' : St → Prop), (∀ σ, N σ → N' σ) → awOps P base ops σ N → awOps P base ops σ N' := by
      intro base ops
      induction ops with
      | nil => intro σ N N' h hx; exact h _ hx
      | cons o r ih =>
        intro σ N N' h hx
        simp only [awOps, aw2] at hx ⊢
        split at hx
        · exact m1 _ _ _ _ _ (fun σ => ih σ N N' h) hx
        · split at hx
          · split at hx
            · rename_i hc; rw [if_pos hc]; exact m1 _ _ _ _ _ (fun σ => ih σ N N' h) hx
            · rename_i hc; rw [if_neg hc]; exact ih _ _ _ h hx
          · exact ⟨hx.1, ih _ _ _ h hx.2⟩
          · exact hx
    exact m2 _ _ _ _ _ (fun σ hx => h _ _ hx) hx
  | seq a b iha ihb =>
    intro K K' σ h hx
    refine iha _ _ σ ?_ hx
    intro e σ hx
    cases e with
    | normal => exact ihb _ _ _ h hx
    | exit i => exact h _ _ hx
    | ret => exact h _ _ hx
  | cond c x y ihx ihy =>
    intro K K' σ h hx
    simp only [aw] at hx ⊢
    split at hx
    · exact ⟨fun hb => ihx _ _ _ h (hx.1 hb), fun hb => ihy _ _ _ h (hx.2 hb)⟩
    · exact ⟨ihx _ _ _ h hx.1, ihy _ _ _ h hx.2⟩
    · exact hx
  | block i b ih =>
    intro K K' σ h hx
    refine ih _ _ σ ?_ hx
    intro e σ hx
    cases e with
    | normal => exact h _ _ hx
    | exit j =>
      simp only [inBlk] at hx ⊢
      split at hx
      · rename_i hc; rw [if_pos hc]; exact h _ _ hx
      · rename_i hc; rw [if_neg hc]; exact h _ _ hx
    | ret => exact h _ _ hx
  | loop tr b ih =>
    intro K K' σ h ⟨I, h0, hI⟩
    refine ⟨I, h0, fun n σ hn => ih _ _ σ ?_ (hI n σ hn)⟩
    intro e σ hx
    cases e with
    | normal => exact hx
    | exit i => exact h _ _ hx
    | ret => exact h _ _ hx
  | exit i => intro K K' σ h hx; exact h _ _ hx
  | ret => intro K K' σ h hx; exact h _ _ hx
  | scope b ih => intro K K' σ h hx; exact ih _ _ σ h hx
  | bad => intro K K' σ h hx; exact hx
/-- A cut: where code ends, told once for all ways. -/
theorem aw_cut {c : AC} (σ' : St) (h : aw P c (fun e σ => e = .normal ∧ σ = σ') σ) (hk : K .normal σ') : aw P c K σ :=
  aw_mono c _ _ _ (fun e σ ⟨h1, h2⟩ => by rw [h1, h2]; exact hk) h
theorem aw_cutP {c : AC} (Q : St → Prop) (h : aw P c (fun e σ => e = .normal ∧ Q σ) σ) (hk : ∀ σ, Q σ → K .normal σ) : aw P c K σ :=
  aw_mono c _ _ _ (fun e σ ⟨h1, h2⟩ => by rw [h1]; exact hk _ h2) h
/-- A loop: its states are S a, where I holds of a; m falls. -/
theorem aw_loop {α : Type} {tr : Option Trim} {b : AC} (S : α → St) (I : α → Prop) (m : α → Nat) (a0 : α) (e0 : trim tr σ = S a0) (h0 : I a0)
    (hb : ∀ a, I a → aw P b (andThen (fun σ' => ∃ a', trim tr σ' = S a' ∧ I a' ∧ m a' < m a) K) (S a)) : aw P (.loop tr b) K σ := by
  refine ⟨fun n σ => ∃ a, σ = S a ∧ I a ∧ m a = n, ⟨m a0, a0, e0, h0, rfl⟩, ?_⟩
  rintro n σ ⟨a, rfl, ha, rfl⟩
  refine aw_mono b _ _ _ ?_ (hb a ha)
  intro e σ hx
  cases e with
  | normal => obtain ⟨a', h1, h2, h3⟩ := hx; exact ⟨m a', h3, a', h1, h2, rfl⟩
  | exit i => exact hx
  | ret => exact hx
theorem hand_nr {hp : Hp} {r : AV} (h : r.nr1 = true) : hand hp [] r = some (r, hp, []) := by
  cases r with
  | tup xs => cases h
  | _ => simp only [hand, List.headD_nil, handA, passOne, deep, snap_nr1 h, rows_nr1 h, Option.map_some]
theorem ends_nr {ts : List Nat} {r : AV} (hx : resX fr ts = r) (h : r.nr1 = true) : ∃ ms H1 l, hand hp ms (resX fr ts) = some (r, H1, l) ∧ liveB H1 l = true :=
  ⟨[], hp, [], by rw [hx]; exact hand_nr h, rfl⟩
theorem handT_nr {hp : Hp} : ∀ {xs : List AV}, xs.all AV.nr1 = true → handT hp [] xs = some (xs, hp, [])
  | [], _ => rfl
  | x :: xs, h => by
    simp only [List.all_cons, Bool.and_eq_true] at h
    have := handT_nr (hp := hp) h.2
    unfold handT at this ⊢
    simp only [passG, List.headD_nil, List.tail_nil, handA, passOne, deep, snap_nr1 h.1, rows_nr1 h.1, Option.map_some, Option.bind_some, this]
    rfl
/-- What is handed back holds no rows. -/
def nrR : AV → Bool
  | .tup xs => xs.all AV.nr1
  | x => x.nr1
theorem Ends_of {ts : List Nat} {r : AV} {e : AE} (he : e = .normal ∨ e = .ret) (hx : resX fr ts = r) (h : nrR r = true) : Ends ts r e ⟨fr, hp⟩ := by
  have : ∃ ms H1 l, hand hp ms (resX fr ts) = some (r, H1, l) ∧ liveB H1 l = true := by
    refine ⟨[], hp, [], ?_, rfl⟩
    rw [hx]
    cases r with
    | tup xs => simp only [hand, handT_nr h, Option.map_some]
    | _ => exact hand_nr h
  rcases he with rfl | rfl <;> exact this
theorem Ends_n {ts : List Nat} {r : AV} (hx : resX fr ts = r) (h : nrR r = true) : Ends ts r .normal ⟨fr, hp⟩ := Ends_of (.inl rfl) hx h
theorem Ends_r {ts : List Nat} {r : AV} (hx : resX fr ts = r) (h : nrR r = true) : Ends ts r .ret ⟨fr, hp⟩ := Ends_of (.inr rfl) hx h
theorem Ends_nm {ts : List Nat} {r : AV} {H1 : Hp} {l : List Nat} (ms : List (List Mode)) (hx : hand hp ms (resX fr ts) = some (r, H1, l)) (h : liveB H1 l = true) : Ends ts r .normal ⟨fr, hp⟩ := ⟨ms, H1, l, hx, h⟩
theorem Ends_rm {ts : List Nat} {r : AV} {H1 : Hp} {l : List Nat} (ms : List (List Mode)) (hx : hand hp ms (resX fr ts) = some (r, H1, l)) (h : liveB H1 l = true) : Ends ts r .ret ⟨fr, hp⟩ := ⟨ms, H1, l, hx, h⟩
end
/-! ### Striking dead rows -/
section
variable {hp : Hp} {n : Nat}
theorem ids_undef : idsOf hp (n + 1) .undef = [] := (rfl)
theorem ids_bool {b : Bool} : idsOf hp (n + 1) (.bool b) = [] := (rfl)
theorem ids_anyb : idsOf hp (n + 1) .anyb = [] := (rfl)
theorem ids_int {k : IntKind} {m : Int} : idsOf hp (n + 1) (.int k m) = [] := (rfl)
theorem ids_str {s : List UInt8} : idsOf hp (n + 1) (.str s) = [] := (rfl)
theorem ids_sl {sz : Nat} {es : List AV} {f : Bool} : idsOf hp (n + 1) (.sl sz es f) = [] := (rfl)
theorem ids_rptr {x : AV} {o : Nat} : idsOf hp (n + 1) (.rptr x o) = [] := (rfl)
theorem ids_skp : idsOf hp (n + 1) skp = [] := (rfl)
theorem ids_lit {v : Value} : idsOf hp (n + 1) (.lit v) = [] := (rfl)
theorem ids_agg {cs : List AV} : idsOf hp (n + 1) (.agg cs) = cs.flatMap (idsOf hp n) := (rfl)
theorem ids_tup {cs : List AV} : idsOf hp (n + 1) (.tup cs) = cs.flatMap (idsOf hp n) := (rfl)
theorem ids_fn {f : FuncId} {cs : List AV} : idsOf hp (n + 1) (.fn f cs) = cs.flatMap (idsOf hp n) := (rfl)
theorem ids_vec {id sz off len : Nat} : idsOf hp (n + 1) (.vec id sz off len) = id :: (((ent hp id).map fun e => e.es).getD []).flatMap (idsOf hp n) := (rfl)
theorem ids_eptr {id i off : Nat} : idsOf hp (n + 1) (.eptr id i off) = id :: (((ent hp id).map fun e => e.es).getD []).flatMap (idsOf hp n) := (rfl)
variable {l : List Nat}
theorem ren_undef : renX l (n + 1) .undef = .undef := (rfl)
theorem ren_bool {b : Bool} : renX l (n + 1) (.bool b) = .bool b := (rfl)
theorem ren_anyb : renX l (n + 1) .anyb = .anyb := (rfl)
theorem ren_int {k : IntKind} {m : Int} : renX l (n + 1) (.int k m) = .int k m := (rfl)
theorem ren_str {s : List UInt8} : renX l (n + 1) (.str s) = .str s := (rfl)
theorem ren_sl {sz : Nat} {es : List AV} {f : Bool} : renX l (n + 1) (.sl sz es f) = .sl sz es f := (rfl)
theorem ren_rptr {x : AV} {o : Nat} : renX l (n + 1) (.rptr x o) = .rptr x o := (rfl)
theorem ren_skp : renX l (n + 1) skp = skp := (rfl)
theorem ren_lit {v : Value} : renX l (n + 1) (.lit v) = .lit v := (rfl)
theorem ren_agg {cs : List AV} : renX l (n + 1) (.agg cs) = .agg (cs.map (renX l n)) := (rfl)
theorem ren_tup {cs : List AV} : renX l (n + 1) (.tup cs) = .tup (cs.map (renX l n)) := (rfl)
theorem ren_fn {f : FuncId} {cs : List AV} : renX l (n + 1) (.fn f cs) = .fn f (cs.map (renX l n)) := (rfl)
def vecO (o : Option Nat) (sz off len : Nat) : AV := match o with | some i => .vec i sz off len | none => .undef
def eptrO (o : Option Nat) (i off : Nat) : AV := match o with | some j => .eptr j i off | none => .undef
theorem vecO_some {i sz off len : Nat} : vecO (some i) sz off len = .vec i sz off len := (rfl)
theorem eptrO_some {j i off : Nat} : eptrO (some j) i off = .eptr j i off := (rfl)
theorem ren_vec {id sz off len : Nat} : renX l (n + 1) (.vec id sz off len) = vecO (place l id) sz off len := (rfl)
theorem ren_eptr {id i off : Nat} : renX l (n + 1) (.eptr id i off) = eptrO (place l id) i off := (rfl)
def gcL (l : List Nat) (fr : Fr) (hp : Hp) : St := ⟨fr.map fun p => (p.1, renX l deep p.2), l.map fun id => renE l (ent hp id)⟩
theorem gc_eq {fr : Fr} : gcSt ⟨fr, hp⟩ = gcL (dedup [] (fr.flatMap fun p => idsOf hp 6 p.2)) fr hp := (rfl)
theorem gcL_nil {fr : Fr} : gcL [] fr hp = ⟨fr.map fun p => (p.1, renX [] 6 p.2), []⟩ := (rfl)
theorem gcL_cons {fr : Fr} {i : Nat} : gcL (i :: l) fr hp = ⟨fr.map fun p => (p.1, renX (i :: l) 6 p.2), (i :: l).map fun id => renE (i :: l) (ent hp id)⟩ := (rfl)
theorem renE_some {ty : TypeId} {es : List AV} {wr : Bool} : renE l (some ⟨ty, es, wr⟩) = some ⟨ty, es.map (renX l 6), wr⟩ := (rfl)
theorem renE_none : renE l none = none := (rfl)
/-- Rows without rows in them. -/
def AV.pl0 : AV → Bool
  | .vec .. | .eptr .. | .agg _ | .tup _ | .fn .. | .own .. => false
  | _ => true
def AV.pl : AV → Bool
  | .agg cs => cs.all AV.pl0
  | x => x.pl0
theorem ids_pl0 {x : AV} (h : x.pl0 = true) : idsOf hp (n + 1) x = [] := by cases x <;> first | rfl | cases h
theorem ids_pl {x : AV} (h : x.pl = true) : idsOf hp (n + 2) x = [] := by
  cases x with
  | agg cs =>
    show cs.flatMap (idsOf hp (n + 1)) = []
    rw [List.flatMap_eq_nil_iff]
    exact fun y hy => ids_pl0 (List.all_eq_true.1 h y hy)
  | _ => first | rfl | cases h
theorem ids_all {es : List AV} (h : es.all AV.pl = true) : es.flatMap (idsOf hp (n + 2)) = [] := by
  rw [List.flatMap_eq_nil_iff]; exact fun y hy => ids_pl (List.all_eq_true.1 h y hy)
theorem ren_pl0 {x : AV} (h : x.pl0 = true) : renX l (n + 1) x = x := by cases x <;> first | rfl | cases h
theorem ren_pl {x : AV} (h : x.pl = true) : renX l (n + 2) x = x := by
  cases x with
  | agg cs =>
    show AV.agg (cs.map (renX l (n + 1))) = _
    congr 1
    conv => rhs; rw [← List.map_id cs]
    exact List.map_congr_left fun y hy => ren_pl0 (List.all_eq_true.1 h y hy)
  | _ => first | rfl | cases h
theorem ren_all {es : List AV} (h : es.all AV.pl = true) : es.map (renX l (n + 2)) = es := by
  conv => rhs; rw [← List.map_id es]
  exact List.map_congr_left fun y hy => ren_pl (List.all_eq_true.1 h y hy)
theorem pl_map {α : Type} {f : α → AV} {l : List α} (h : ∀ x, (f x).pl = true) : (l.map f).all AV.pl = true := by simp [h]
theorem ids_map {α : Type} {f : α → AV} {l : List α} (h : ∀ x, (f x).pl = true) : (l.map f).flatMap (idsOf hp (n + 2)) = [] := ids_all (pl_map h)
theorem ren_map {α : Type} {f : α → AV} {l' : List α} (h : ∀ x, (f x).pl = true) : (l'.map f).map (renX l (n + 2)) = l'.map f := ren_all (pl_map h)
theorem ids_bys {b : List UInt8} : (b.map bv).flatMap (idsOf hp (n + 2)) = [] := ids_map fun _ => rfl
theorem ren_bys {b : List UInt8} : (b.map bv).map (renX l (n + 2)) = b.map bv := ren_map fun _ => rfl
end
/-! ### Handing over -/
section
variable {hp : Hp} {n : Nat}
theorem snp_bool {b : Bool} : snap hp (n + 1) (.bool b) = some (.bool b) := (rfl)
theorem snp_int {k : IntKind} {m : Int} : snap hp (n + 1) (.int k m) = some (.int k m) := (rfl)
theorem snp_str {s : List UInt8} : snap hp (n + 1) (.str s) = some (.str s) := (rfl)
theorem snp_sl {sz : Nat} {es : List AV} {f : Bool} : snap hp (n + 1) (.sl sz es f) = some (.sl sz es f) := (rfl)
theorem snp_lit {v : Value} : snap hp (n + 1) (.lit v) = some (.lit v) := (rfl)
theorem snp_agg {cs : List AV} : snap hp (n + 1) (.agg cs) = (mapO (snap hp n) cs).map .agg := (rfl)
theorem snp_tup {cs : List AV} : snap hp (n + 1) (.tup cs) = (mapO (snap hp n) cs).map .tup := (rfl)
theorem snp_vec {id sz off len : Nat} : snap hp (n + 1) (.vec id sz off len) = (elems hp (.vec id sz off len)).bind fun es => (mapO (snap hp n) es).map fun es => .sl sz es false := (rfl)
theorem rws_bool {b : Bool} : rows hp (n + 1) (.bool b) = [] := (rfl)
theorem rws_int {k : IntKind} {m : Int} : rows hp (n + 1) (.int k m) = [] := (rfl)
theorem rws_str {s : List UInt8} : rows hp (n + 1) (.str s) = [] := (rfl)
theorem rws_sl {sz : Nat} {es : List AV} {f : Bool} : rows hp (n + 1) (.sl sz es f) = [] := (rfl)
theorem rws_lit {v : Value} : rows hp (n + 1) (.lit v) = [] := (rfl)
theorem rws_agg {cs : List AV} : rows hp (n + 1) (.agg cs) = cs.flatMap (rows hp n) := (rfl)
theorem rws_tup {cs : List AV} : rows hp (n + 1) (.tup cs) = cs.flatMap (rows hp n) := (rfl)
theorem rws_vec {id sz off len : Nat} : rows hp (n + 1) (.vec id sz off len) = id :: ((elems hp (.vec id sz off len)).getD []).flatMap (rows hp n) := (rfl)
theorem mapO_nil {f : AV → Option AV} : mapO f [] = some [] := (rfl)
theorem mapO_cons {f : AV → Option AV} {x : AV} {xs : List AV} : mapO f (x :: xs) = (f x).bind fun y => (mapO f xs).map fun ys => y :: ys := (rfl)
theorem elems_sl {sz : Nat} {es : List AV} {f : Bool} : elems hp (.sl sz es f) = some es := (rfl)
theorem elems_str {s : List UInt8} : elems hp (.str s) = some (s.map bv) := (rfl)
theorem elems_vec {id sz off len : Nat} : elems hp (.vec id sz off len) = (ent hp id).bind fun e => if off + len ≤ e.es.length then some ((e.es.drop off).take len) else none := (rfl)
theorem mapO_map {α : Type} {f : α → AV} {l : List α} (h : ∀ x, (f x).nr1 = true) : mapO (snap hp (n + 2)) (l.map f) = some (l.map f) :=
  mapO_id fun x hx => by obtain ⟨y, _, rfl⟩ := List.mem_map.1 hx; exact snap_nr1 (h y)
theorem rows_map {α : Type} {f : α → AV} {l : List α} (h : ∀ x, (f x).nr1 = true) : (l.map f).flatMap (rows hp (n + 2)) = [] := by
  rw [List.flatMap_eq_nil_iff]
  intro x hx; obtain ⟨y, _, rfl⟩ := List.mem_map.1 hx; exact rows_nr1 (h y)
theorem mapO_bys {l : List UInt8} : mapO (snap hp (n + 2)) (l.map bv) = some (l.map bv) := mapO_map fun _ => rfl
theorem rows_bys {l : List UInt8} : (l.map bv).flatMap (rows hp (n + 2)) = [] := rows_map fun _ => rfl
theorem take_map_all {α : Type} {f : α → AV} {l : List α} {k : Nat} (h : l.length ≤ k) : (l.map f).take k = l.map f := List.take_of_length_le (by simpa using h)
theorem pass_nil {ms : List Mode} : pass hp ms [] = some ([], hp, []) := (rfl)
theorem pass_cons0 {x : AV} {xs : List AV} : pass hp [] (x :: xs) = (passOne hp .snap x).bind fun p => (pass p.2.1 [] xs).map fun q => (p.1 :: q.1, q.2.1, p.2.2 ++ q.2.2) := (rfl)
theorem pass_cons {m : Mode} {ms : List Mode} {x : AV} {xs : List AV} : pass hp (m :: ms) (x :: xs) = (passOne hp m x).bind fun p => (pass p.2.1 ms xs).map fun q => (p.1 :: q.1, q.2.1, p.2.2 ++ q.2.2) := (rfl)
theorem passOne_nilf {sz z : Nat} {f : Bool} : passOne hp (.nil sz false) (.sl z [] f) = some (.sl sz [] false, hp, []) := by simp [passOne]
theorem passOne_nilt {sz z : Nat} : passOne hp (.nil sz true) (.sl z [] true) = some (.sl sz [] true, hp, []) := by simp [passOne]
theorem passOne_nilv {sz id z off n : Nat} (h : n = 0) : passOne hp (.nil sz false) (.vec id z off n) = some (.sl sz [] false, hp, []) := by simp [passOne, h]
theorem passOne_snap {x : AV} : passOne hp .snap x = (snap hp 6 x).map fun y => (y, hp, rows hp 6 x) := (rfl)
end
/-! ### Numbers -/
theorem wrap_i64 {n : Int} (h : -9223372036854775808 ≤ n) (h' : n < 9223372036854775808) : IntKind.i64.wrap n = n := by
  simp only [IntKind.wrap, IntKind.signed, IntKind.bits, Bool.true_and]; split <;> simp at * <;> omega
theorem wrap_i32 {n : Int} (h : -2147483648 ≤ n) (h' : n < 2147483648) : IntKind.i32.wrap n = n := by
  simp only [IntKind.wrap, IntKind.signed, IntKind.bits, Bool.true_and]; split <;> simp at * <;> omega
theorem wrap_u8 {n : Int} : IntKind.u8.wrap n = n % 256 := by simp [IntKind.wrap, IntKind.signed, IntKind.bits]
theorem wrap_u16 {n : Int} : IntKind.u16.wrap n = n % 65536 := by simp [IntKind.wrap, IntKind.signed, IntKind.bits]
theorem wrap_u32 {n : Int} : IntKind.u32.wrap n = n % 4294967296 := by simp [IntKind.wrap, IntKind.signed, IntKind.bits]
theorem wrap_u64 {n : Int} : IntKind.u64.wrap n = n % 18446744073709551616 := by simp [IntKind.wrap, IntKind.signed, IntKind.bits]
theorem wrap_i64_u8 {x : UInt8} : IntKind.i64.wrap (x.toNat : Int) = x.toNat := by
  have := x.toNat_lt; exact wrap_i64 (by omega) (by omega)
theorem bits_i8 : IntKind.i8.bits = 8 := (rfl)
theorem bits_i16 : IntKind.i16.bits = 16 := (rfl)
theorem bits_i32 : IntKind.i32.bits = 32 := (rfl)
theorem bits_i64 : IntKind.i64.bits = 64 := (rfl)
theorem bits_u8 : IntKind.u8.bits = 8 := (rfl)
theorem bits_u16 : IntKind.u16.bits = 16 := (rfl)
theorem bits_u32 : IntKind.u32.bits = 32 := (rfl)
theorem bits_u64 : IntKind.u64.bits = 64 := (rfl)
theorem fdiv_pos {a b : Int} (h : 0 ≤ b) : a.fdiv b = a / b := Int.fdiv_eq_ediv_of_nonneg _ h
theorem tdiv_pos {a b : Int} (h : 0 ≤ a) : a.tdiv b = a / b := Int.tdiv_eq_ediv_of_nonneg h
theorem tmod_pos {a b : Int} (h : 0 ≤ a) : a.tmod b = a % b := Int.tmod_eq_emod_of_nonneg h
theorem ofInt_toNat {k : Nat} {a : Int} (h : 0 ≤ a) (h' : a < 2 ^ k) : (BitVec.ofInt k a).toNat = a.toNat := by
  rw [BitVec.toNat_ofInt, Int.emod_eq_of_lt h (by exact_mod_cast h')]
theorem and_two {k j : Nat} {a : Int} (hj : j ≤ k) : (((BitVec.ofInt k a &&& BitVec.ofInt k (2 ^ j - 1)).toNat : Nat) : Int) = a % 2 ^ j := by
  have hp : (0 : Int) < 2 ^ j := Int.pow_pos (by decide)
  have hle : (2 : Int) ^ j ≤ 2 ^ k := by exact_mod_cast Nat.pow_le_pow_right (by decide) hj
  have e2 : (BitVec.ofInt k (2 ^ j - 1)).toNat = 2 ^ j - 1 := by
    rw [ofInt_toNat (by omega) (by omega)]
    have h : (2 : Int) ^ j = ((2 ^ j : Nat) : Int) := by simp
    rw [h]
    have := Nat.two_pow_pos j
    generalize 2 ^ j = x at *
    omega
  rw [BitVec.toNat_and, e2, Nat.and_two_pow_sub_one_eq_mod, BitVec.toNat_ofInt]
  have h0 : 0 ≤ a % ((2 ^ k : Nat) : Int) := Int.emod_nonneg _ (by have : (0 : Int) < ((2 ^ k : Nat) : Int) := by exact_mod_cast Nat.two_pow_pos k
                                                                   omega)
  rw [Int.natCast_emod, Int.toNat_of_nonneg h0]
  have hd : ((2 ^ j : Nat) : Int) ∣ ((2 ^ k : Nat) : Int) := by exact_mod_cast Nat.pow_dvd_pow 2 hj
  rw [Int.emod_emod_of_dvd _ hd]; simp
theorem or_two {k j : Nat} {a b : Int} (ha : 0 ≤ a) (ha' : a < 2 ^ k) (hb : 0 ≤ b) (hb' : b < 2 ^ j) (hj : j ≤ k) (hd : a % 2 ^ j = 0) : (((BitVec.ofInt k a ||| BitVec.ofInt k b).toNat : Nat) : Int) = a + b := by
  have hle : (2 : Int) ^ j ≤ 2 ^ k := by exact_mod_cast Nat.pow_le_pow_right (by decide) hj
  rw [BitVec.toNat_or, ofInt_toNat ha ha', ofInt_toNat hb (by omega)]
  obtain ⟨A, rfl⟩ := Int.eq_ofNat_of_zero_le ha
  obtain ⟨B, rfl⟩ := Int.eq_ofNat_of_zero_le hb
  simp only [Int.toNat_natCast]
  have hB : B < 2 ^ j := by exact_mod_cast hb'
  have hA : A % 2 ^ j = 0 := by exact_mod_cast hd
  obtain ⟨c, rfl⟩ : 2 ^ j ∣ A := Nat.dvd_of_mod_eq_zero hA
  rw [← Nat.two_pow_add_eq_or_of_lt hB c]
  simp
theorem xor_nat {k : Nat} {a b : Int} (ha : 0 ≤ a) (ha' : a < 2 ^ k) (hb : 0 ≤ b) (hb' : b < 2 ^ k) : (((BitVec.ofInt k a ^^^ BitVec.ofInt k b).toNat : Nat) : Int) = ((a.toNat ^^^ b.toNat : Nat) : Int) := by
  rw [BitVec.toNat_xor, ofInt_toNat ha ha', ofInt_toNat hb hb']
theorem wrap_nn {k : IntKind} {n : Int} (h : 0 ≤ n) (h' : n < 2 ^ (k.bits - 1)) : k.wrap n = n := by
  have hp : (0 : Int) < 2 ^ (k.bits - 1) := Int.pow_pos (by decide)
  have hb : (2 : Int) ^ k.bits = 2 ^ (k.bits - 1) * 2 := by rw [← Int.pow_succ]; congr 1; cases k <;> rfl
  simp only [IntKind.wrap]
  rw [Int.emod_eq_of_lt h (by omega)]
  rw [if_neg]
  simp only [Bool.and_eq_true, decide_eq_true_eq, not_and]
  intro _; omega
theorem wrap_un {k : IntKind} {n : Int} (hs : k.signed = false) (h : 0 ≤ n) (h' : n < 2 ^ k.bits) : k.wrap n = n := by
  simp only [IntKind.wrap]
  rw [Int.emod_eq_of_lt h h', hs]; simp
theorem and2_two {k : IntKind} {j : Nat} {a : Int} (hj : j < k.bits) : and2 k a (2 ^ j - 1) = a % 2 ^ j := by
  unfold and2
  rw [and_two (by omega)]
  have hp : (0 : Int) < 2 ^ j := Int.pow_pos (by decide)
  have h1 := Int.emod_nonneg a (Int.ne_of_gt hp)
  have h2 := Int.emod_lt_of_pos a hp
  have hle : (2 : Int) ^ j ≤ 2 ^ (k.bits - 1) := by exact_mod_cast Nat.pow_le_pow_right (by decide) (by omega)
  exact wrap_nn h1 (by omega)
theorem or2_two {k : IntKind} {j : Nat} {a b : Int} (ha : 0 ≤ a) (ha' : a < 2 ^ (k.bits - 1)) (hb : 0 ≤ b) (hb' : b < 2 ^ j) (hj : j < k.bits) (hd : a % 2 ^ j = 0) : or2 k a b = a + b := by
  have hp : (0 : Int) < 2 ^ j := Int.pow_pos (by decide)
  have hk : (2 : Int) ^ k.bits = 2 ^ (k.bits - 1) * 2 := by rw [← Int.pow_succ]; congr 1; cases k <;> rfl
  unfold or2
  rw [or_two (j := j) ha (by omega) hb hb' (by omega) hd]
  have hm : (2 : Int) ^ (k.bits - 1) % 2 ^ j = 0 := by
    apply Int.emod_eq_zero_of_dvd
    exact_mod_cast Nat.pow_dvd_pow 2 (by omega : j ≤ k.bits - 1)
  refine wrap_nn (by omega) ?_
  obtain ⟨x, hx⟩ := Int.dvd_of_emod_eq_zero hd
  obtain ⟨y, hy⟩ := Int.dvd_of_emod_eq_zero hm
  rw [hx, hy] at ha'
  rw [hx, hy]
  have : x < y := Int.lt_of_mul_lt_mul_left ha' (Int.le_of_lt hp)
  calc 2 ^ j * x + b < 2 ^ j * x + 2 ^ j := by omega
    _ = 2 ^ j * (x + 1) := by rw [Int.mul_add, Int.mul_one]
    _ ≤ 2 ^ j * y := Int.mul_le_mul_of_nonneg_left (by omega) (Int.le_of_lt hp)
theorem or2_un {k : IntKind} {j : Nat} {a b : Int} (hs : k.signed = false) (ha : 0 ≤ a) (ha' : a < 2 ^ k.bits) (hb : 0 ≤ b) (hb' : b < 2 ^ j) (hj : j ≤ k.bits) (hd : a % 2 ^ j = 0) : or2 k a b = a + b := by
  have hp : (0 : Int) < 2 ^ j := Int.pow_pos (by decide)
  unfold or2
  rw [or_two (j := j) ha ha' hb hb' hj hd]
  have hm : (2 : Int) ^ k.bits % 2 ^ j = 0 := by
    apply Int.emod_eq_zero_of_dvd
    exact_mod_cast Nat.pow_dvd_pow 2 hj
  refine wrap_un hs (by omega) ?_
  obtain ⟨x, hx⟩ := Int.dvd_of_emod_eq_zero hd
  obtain ⟨y, hy⟩ := Int.dvd_of_emod_eq_zero hm
  rw [hx, hy] at ha'
  rw [hx, hy]
  have : x < y := Int.lt_of_mul_lt_mul_left ha' (Int.le_of_lt hp)
  calc 2 ^ j * x + b < 2 ^ j * x + 2 ^ j := by omega
    _ = 2 ^ j * (x + 1) := by rw [Int.mul_add, Int.mul_one]
    _ ≤ 2 ^ j * y := Int.mul_le_mul_of_nonneg_left (by omega) (Int.le_of_lt hp)
theorem and_i64_1 {a : Int} : and2 .i64 a 1 = a % 2 := by simpa using and2_two (k := .i64) (j := 1) (a := a) (by decide)
theorem and_i64_2 {a : Int} : and2 .i64 a 3 = a % 4 := by simpa using and2_two (k := .i64) (j := 2) (a := a) (by decide)
theorem and_i64_3 {a : Int} : and2 .i64 a 7 = a % 8 := by simpa using and2_two (k := .i64) (j := 3) (a := a) (by decide)
theorem and_i64_4 {a : Int} : and2 .i64 a 15 = a % 16 := by simpa using and2_two (k := .i64) (j := 4) (a := a) (by decide)
theorem and_i64_5 {a : Int} : and2 .i64 a 31 = a % 32 := by simpa using and2_two (k := .i64) (j := 5) (a := a) (by decide)
theorem and_i64_6 {a : Int} : and2 .i64 a 63 = a % 64 := by simpa using and2_two (k := .i64) (j := 6) (a := a) (by decide)
theorem and_i64_7 {a : Int} : and2 .i64 a 127 = a % 128 := by simpa using and2_two (k := .i64) (j := 7) (a := a) (by decide)
theorem and_i64_8 {a : Int} : and2 .i64 a 255 = a % 256 := by simpa using and2_two (k := .i64) (j := 8) (a := a) (by decide)
theorem and_i64_12 {a : Int} : and2 .i64 a 4095 = a % 4096 := by simpa using and2_two (k := .i64) (j := 12) (a := a) (by decide)
theorem and_i64_13 {a : Int} : and2 .i64 a 8191 = a % 8192 := by simpa using and2_two (k := .i64) (j := 13) (a := a) (by decide)
theorem and_i64_16 {a : Int} : and2 .i64 a 65535 = a % 65536 := by simpa using and2_two (k := .i64) (j := 16) (a := a) (by decide)
theorem and_i64_24 {a : Int} : and2 .i64 a 16777215 = a % 16777216 := by simpa using and2_two (k := .i64) (j := 24) (a := a) (by decide)
theorem and_i64_32 {a : Int} : and2 .i64 a 4294967295 = a % 4294967296 := by simpa using and2_two (k := .i64) (j := 32) (a := a) (by decide)
theorem and_i64_48 {a : Int} : and2 .i64 a 281474976710655 = a % 281474976710656 := by simpa using and2_two (k := .i64) (j := 48) (a := a) (by decide)
theorem and_u64_1 {a : Int} : and2 .u64 a 1 = a % 2 := by simpa using and2_two (k := .u64) (j := 1) (a := a) (by decide)
theorem and_u64_2 {a : Int} : and2 .u64 a 3 = a % 4 := by simpa using and2_two (k := .u64) (j := 2) (a := a) (by decide)
theorem and_u64_3 {a : Int} : and2 .u64 a 7 = a % 8 := by simpa using and2_two (k := .u64) (j := 3) (a := a) (by decide)
theorem and_u64_4 {a : Int} : and2 .u64 a 15 = a % 16 := by simpa using and2_two (k := .u64) (j := 4) (a := a) (by decide)
theorem and_u64_5 {a : Int} : and2 .u64 a 31 = a % 32 := by simpa using and2_two (k := .u64) (j := 5) (a := a) (by decide)
theorem and_u64_6 {a : Int} : and2 .u64 a 63 = a % 64 := by simpa using and2_two (k := .u64) (j := 6) (a := a) (by decide)
theorem and_u64_7 {a : Int} : and2 .u64 a 127 = a % 128 := by simpa using and2_two (k := .u64) (j := 7) (a := a) (by decide)
theorem and_u64_8 {a : Int} : and2 .u64 a 255 = a % 256 := by simpa using and2_two (k := .u64) (j := 8) (a := a) (by decide)
theorem and_u64_12 {a : Int} : and2 .u64 a 4095 = a % 4096 := by simpa using and2_two (k := .u64) (j := 12) (a := a) (by decide)
theorem and_u64_13 {a : Int} : and2 .u64 a 8191 = a % 8192 := by simpa using and2_two (k := .u64) (j := 13) (a := a) (by decide)
theorem and_u64_16 {a : Int} : and2 .u64 a 65535 = a % 65536 := by simpa using and2_two (k := .u64) (j := 16) (a := a) (by decide)
theorem and_u64_24 {a : Int} : and2 .u64 a 16777215 = a % 16777216 := by simpa using and2_two (k := .u64) (j := 24) (a := a) (by decide)
theorem and_u64_32 {a : Int} : and2 .u64 a 4294967295 = a % 4294967296 := by simpa using and2_two (k := .u64) (j := 32) (a := a) (by decide)
theorem and_u64_48 {a : Int} : and2 .u64 a 281474976710655 = a % 281474976710656 := by simpa using and2_two (k := .u64) (j := 48) (a := a) (by decide)
theorem and_u32_1 {a : Int} : and2 .u32 a 1 = a % 2 := by simpa using and2_two (k := .u32) (j := 1) (a := a) (by decide)
theorem and_u32_2 {a : Int} : and2 .u32 a 3 = a % 4 := by simpa using and2_two (k := .u32) (j := 2) (a := a) (by decide)
theorem and_u32_3 {a : Int} : and2 .u32 a 7 = a % 8 := by simpa using and2_two (k := .u32) (j := 3) (a := a) (by decide)
theorem and_u32_4 {a : Int} : and2 .u32 a 15 = a % 16 := by simpa using and2_two (k := .u32) (j := 4) (a := a) (by decide)
theorem and_u32_5 {a : Int} : and2 .u32 a 31 = a % 32 := by simpa using and2_two (k := .u32) (j := 5) (a := a) (by decide)
theorem and_u32_6 {a : Int} : and2 .u32 a 63 = a % 64 := by simpa using and2_two (k := .u32) (j := 6) (a := a) (by decide)
theorem and_u32_7 {a : Int} : and2 .u32 a 127 = a % 128 := by simpa using and2_two (k := .u32) (j := 7) (a := a) (by decide)
theorem and_u32_8 {a : Int} : and2 .u32 a 255 = a % 256 := by simpa using and2_two (k := .u32) (j := 8) (a := a) (by decide)
theorem and_u32_12 {a : Int} : and2 .u32 a 4095 = a % 4096 := by simpa using and2_two (k := .u32) (j := 12) (a := a) (by decide)
theorem and_u32_13 {a : Int} : and2 .u32 a 8191 = a % 8192 := by simpa using and2_two (k := .u32) (j := 13) (a := a) (by decide)
theorem and_u32_16 {a : Int} : and2 .u32 a 65535 = a % 65536 := by simpa using and2_two (k := .u32) (j := 16) (a := a) (by decide)
theorem and_u32_24 {a : Int} : and2 .u32 a 16777215 = a % 16777216 := by simpa using and2_two (k := .u32) (j := 24) (a := a) (by decide)
theorem and_u16_1 {a : Int} : and2 .u16 a 1 = a % 2 := by simpa using and2_two (k := .u16) (j := 1) (a := a) (by decide)
theorem and_u16_2 {a : Int} : and2 .u16 a 3 = a % 4 := by simpa using and2_two (k := .u16) (j := 2) (a := a) (by decide)
theorem and_u16_3 {a : Int} : and2 .u16 a 7 = a % 8 := by simpa using and2_two (k := .u16) (j := 3) (a := a) (by decide)
theorem and_u16_4 {a : Int} : and2 .u16 a 15 = a % 16 := by simpa using and2_two (k := .u16) (j := 4) (a := a) (by decide)
theorem and_u16_5 {a : Int} : and2 .u16 a 31 = a % 32 := by simpa using and2_two (k := .u16) (j := 5) (a := a) (by decide)
theorem and_u16_6 {a : Int} : and2 .u16 a 63 = a % 64 := by simpa using and2_two (k := .u16) (j := 6) (a := a) (by decide)
theorem and_u16_7 {a : Int} : and2 .u16 a 127 = a % 128 := by simpa using and2_two (k := .u16) (j := 7) (a := a) (by decide)
theorem and_u16_8 {a : Int} : and2 .u16 a 255 = a % 256 := by simpa using and2_two (k := .u16) (j := 8) (a := a) (by decide)
theorem and_u16_12 {a : Int} : and2 .u16 a 4095 = a % 4096 := by simpa using and2_two (k := .u16) (j := 12) (a := a) (by decide)
theorem and_u16_13 {a : Int} : and2 .u16 a 8191 = a % 8192 := by simpa using and2_two (k := .u16) (j := 13) (a := a) (by decide)
theorem and_u8_1 {a : Int} : and2 .u8 a 1 = a % 2 := by simpa using and2_two (k := .u8) (j := 1) (a := a) (by decide)
theorem and_u8_2 {a : Int} : and2 .u8 a 3 = a % 4 := by simpa using and2_two (k := .u8) (j := 2) (a := a) (by decide)
theorem and_u8_3 {a : Int} : and2 .u8 a 7 = a % 8 := by simpa using and2_two (k := .u8) (j := 3) (a := a) (by decide)
theorem and_u8_4 {a : Int} : and2 .u8 a 15 = a % 16 := by simpa using and2_two (k := .u8) (j := 4) (a := a) (by decide)
theorem and_u8_5 {a : Int} : and2 .u8 a 31 = a % 32 := by simpa using and2_two (k := .u8) (j := 5) (a := a) (by decide)
theorem and_u8_6 {a : Int} : and2 .u8 a 63 = a % 64 := by simpa using and2_two (k := .u8) (j := 6) (a := a) (by decide)
theorem and_u8_7 {a : Int} : and2 .u8 a 127 = a % 128 := by simpa using and2_two (k := .u8) (j := 7) (a := a) (by decide)
theorem or_i64_8 {a b : Int} (ha : 0 ≤ a) (ha' : a < 9223372036854775808) (hb : 0 ≤ b) (hb' : b < 256) (hd : a % 256 = 0) : or2 .i64 a b = a + b :=
  or2_two (k := .i64) (j := 8) ha (by simpa [IntKind.bits] using ha') hb (by simpa using hb') (by decide) (by simpa using hd)
theorem or_i64_16 {a b : Int} (ha : 0 ≤ a) (ha' : a < 9223372036854775808) (hb : 0 ≤ b) (hb' : b < 65536) (hd : a % 65536 = 0) : or2 .i64 a b = a + b :=
  or2_two (k := .i64) (j := 16) ha (by simpa [IntKind.bits] using ha') hb (by simpa using hb') (by decide) (by simpa using hd)
theorem or_i64_24 {a b : Int} (ha : 0 ≤ a) (ha' : a < 9223372036854775808) (hb : 0 ≤ b) (hb' : b < 16777216) (hd : a % 16777216 = 0) : or2 .i64 a b = a + b :=
  or2_two (k := .i64) (j := 24) ha (by simpa [IntKind.bits] using ha') hb (by simpa using hb') (by decide) (by simpa using hd)
theorem or_i64_32 {a b : Int} (ha : 0 ≤ a) (ha' : a < 9223372036854775808) (hb : 0 ≤ b) (hb' : b < 4294967296) (hd : a % 4294967296 = 0) : or2 .i64 a b = a + b :=
  or2_two (k := .i64) (j := 32) ha (by simpa [IntKind.bits] using ha') hb (by simpa using hb') (by decide) (by simpa using hd)
theorem or_u64_8 {a b : Int} (ha : 0 ≤ a) (ha' : a < 18446744073709551616) (hb : 0 ≤ b) (hb' : b < 256) (hd : a % 256 = 0) : or2 .u64 a b = a + b :=
  or2_un (k := .u64) (j := 8) rfl ha (by simpa [IntKind.bits] using ha') hb (by simpa using hb') (by decide) (by simpa using hd)
theorem or_u64_16 {a b : Int} (ha : 0 ≤ a) (ha' : a < 18446744073709551616) (hb : 0 ≤ b) (hb' : b < 65536) (hd : a % 65536 = 0) : or2 .u64 a b = a + b :=
  or2_un (k := .u64) (j := 16) rfl ha (by simpa [IntKind.bits] using ha') hb (by simpa using hb') (by decide) (by simpa using hd)
theorem or_u64_24 {a b : Int} (ha : 0 ≤ a) (ha' : a < 18446744073709551616) (hb : 0 ≤ b) (hb' : b < 16777216) (hd : a % 16777216 = 0) : or2 .u64 a b = a + b :=
  or2_un (k := .u64) (j := 24) rfl ha (by simpa [IntKind.bits] using ha') hb (by simpa using hb') (by decide) (by simpa using hd)
theorem or_u64_32 {a b : Int} (ha : 0 ≤ a) (ha' : a < 18446744073709551616) (hb : 0 ≤ b) (hb' : b < 4294967296) (hd : a % 4294967296 = 0) : or2 .u64 a b = a + b :=
  or2_un (k := .u64) (j := 32) rfl ha (by simpa [IntKind.bits] using ha') hb (by simpa using hb') (by decide) (by simpa using hd)
theorem or_u32_8 {a b : Int} (ha : 0 ≤ a) (ha' : a < 4294967296) (hb : 0 ≤ b) (hb' : b < 256) (hd : a % 256 = 0) : or2 .u32 a b = a + b :=
  or2_un (k := .u32) (j := 8) rfl ha (by simpa [IntKind.bits] using ha') hb (by simpa using hb') (by decide) (by simpa using hd)
theorem or_u32_16 {a b : Int} (ha : 0 ≤ a) (ha' : a < 4294967296) (hb : 0 ≤ b) (hb' : b < 65536) (hd : a % 65536 = 0) : or2 .u32 a b = a + b :=
  or2_un (k := .u32) (j := 16) rfl ha (by simpa [IntKind.bits] using ha') hb (by simpa using hb') (by decide) (by simpa using hd)
theorem or_u32_24 {a b : Int} (ha : 0 ≤ a) (ha' : a < 4294967296) (hb : 0 ≤ b) (hb' : b < 16777216) (hd : a % 16777216 = 0) : or2 .u32 a b = a + b :=
  or2_un (k := .u32) (j := 24) rfl ha (by simpa [IntKind.bits] using ha') hb (by simpa using hb') (by decide) (by simpa using hd)
theorem or_u16_8 {a b : Int} (ha : 0 ≤ a) (ha' : a < 65536) (hb : 0 ≤ b) (hb' : b < 256) (hd : a % 256 = 0) : or2 .u16 a b = a + b :=
  or2_un (k := .u16) (j := 8) rfl ha (by simpa [IntKind.bits] using ha') hb (by simpa using hb') (by decide) (by simpa using hd)
theorem tn1 {a : Nat} : ((a : Int) + 1).toNat = a + 1 := by omega
theorem tn2 {a : Nat} : ((a : Int) + 2).toNat = a + 2 := by omega
theorem tn3 {a : Nat} : ((a : Int) + 3).toNat = a + 3 := by omega
theorem tn4 {a : Nat} : ((a : Int) + 4).toNat = a + 4 := by omega
theorem tn5 {a : Nat} : ((a : Int) + 5).toNat = a + 5 := by omega
theorem tn6 {a : Nat} : ((a : Int) + 6).toNat = a + 6 := by omega
theorem tn7 {a : Nat} : ((a : Int) + 7).toNat = a + 7 := by omega
theorem tn8 {a : Nat} : ((a : Int) + 8).toNat = a + 8 := by omega
theorem tn9 {a : Nat} : ((a : Int) + 9).toNat = a + 9 := by omega
theorem tn10 {a : Nat} : ((a : Int) + 10).toNat = a + 10 := by omega
theorem tn11 {a : Nat} : ((a : Int) + 11).toNat = a + 11 := by omega
theorem tn12 {a : Nat} : ((a : Int) + 12).toNat = a + 12 := by omega
theorem tn13 {a : Nat} : ((a : Int) + 13).toNat = a + 13 := by omega
theorem tn14 {a : Nat} : ((a : Int) + 14).toNat = a + 14 := by omega
theorem tn15 {a : Nat} : ((a : Int) + 15).toNat = a + 15 := by omega
theorem tn16 {a : Nat} : ((a : Int) + 16).toNat = a + 16 := by omega
theorem decide_t {p : Prop} {_ : Decidable p} (h : p) : decide p = true := decide_eq_true h
theorem decide_f {p : Prop} {_ : Decidable p} (h : ¬ p) : decide p = false := decide_eq_false h
theorem beq_int {a b : Int} : (a == b) = decide (a = b) := by rw [Bool.eq_iff_iff]; simp
theorem bne_int {a b : Int} : (a != b) = decide (a ≠ b) := by rw [Bool.eq_iff_iff]; simp
theorem beq_u8s {a b : List UInt8} : (a == b) = decide (a = b) := by rw [Bool.eq_iff_iff]; simp
/-! ### Places -/
theorem index_in {n : Nat} {k : IntKind} {i : Int} (h : 0 ≤ i) (h' : i < n) : index n (.int k i) = some i.toNat := by simp [index, h, h']
theorem bound_in {n : Nat} {k : IntKind} {i : Int} (h : 0 ≤ i) (h' : i ≤ n) : bound n (.int k i) = some i.toNat := by simp [bound, h, h']
theorem map_get {α : Type} [Inhabited α] {f : α → AV} {l : List α} {k : Nat} (h : k < l.length) : (l.map f)[k]? = some (f l[k]!) := by
  simp [h]
/-! ### Bytes -/
abbrev bys (b : List UInt8) : List AV := b.map bv
/-- A number's last byte. -/
def u8i (n : Int) : UInt8 := UInt8.ofNat (n % 256).toNat
theorem u8i_nat {n : Int} : ((u8i n).toNat : Int) = n % 256 := by
  unfold u8i; rw [UInt8.toNat_ofNat']; omega
theorem bv_u8i {n : Int} : bv (u8i n) = .int .u8 (n % 256) := by rw [bv, u8i_nat]
theorem bys_snoc {b : List UInt8} {n : Int} : bys b ++ [.int .u8 (n % 256)] = bys (b ++ [u8i n]) := by simp [bys, bv_u8i]
theorem bys_two {b : List UInt8} {m n : Int} : bys b ++ [.int .u8 (m % 256), .int .u8 (n % 256)] = bys (b ++ [u8i m, u8i n]) := by simp [bys, bv_u8i]
theorem bys_set {b : List UInt8} {k : Nat} {n : Int} (h : 0 ≤ n) (h' : n < 256) : (bys b).set k (.int .u8 n) = bys (b.set k (u8i n)) := by
  have e : AV.int .u8 n = bv (u8i n) := by rw [bv_u8i]; congr 1; omega
  rw [e]; simp [bys, List.map_set]
theorem bys_setm {b : List UInt8} {k : Nat} {n : Int} : (b.map bv).set k (.int .u8 (n % 256)) = (b.set k (u8i n)).map bv := by rw [← bv_u8i]; simp [List.map_set]
theorem bys_setx {b : List UInt8} {k : Nat} {x : UInt8} : (b.map bv).set k (.int .u8 (x.toNat : Int)) = (b.set k x).map bv := by rw [show AV.int .u8 (x.toNat : Int) = bv x from rfl]; simp [List.map_set]
theorem bys_appm {b : List UInt8} {n : Int} : b.map bv ++ [.int .u8 (n % 256)] = (b ++ [u8i n]).map bv := by simp [bv_u8i]
theorem bys_appx {b : List UInt8} {x : UInt8} : b.map bv ++ [.int .u8 (x.toNat : Int)] = (b ++ [x]).map bv := by simp [bv]
theorem bys_app2 {b : List UInt8} {m n : Int} : b.map bv ++ [.int .u8 (m % 256), .int .u8 (n % 256)] = (b ++ [u8i m, u8i n]).map bv := by simp [bv_u8i]
theorem bys_app {b c : List UInt8} : b.map bv ++ c.map bv = (b ++ c).map bv := by simp
theorem toBytes_bys {b : List UInt8} : toBytes (b.map bv) = some b := by
  induction b with
  | nil => rfl
  | cons x b ih =>
    have := x.toNat_lt
    simp only [List.map_cons, bv, toBytes] at ih ⊢
    rw [if_pos ⟨by omega, by omega⟩]
    rw [show toBytes (List.map bv b) = some b from ih]
    simp
end Go.Pv
