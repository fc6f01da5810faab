/-
  The machine of plain values, 20: operations that may change places.
-/
import Derived.Test.YtabenkmiojjiiaaPvT
set_option linter.unusedVariables false
set_option linter.unusedSimpArgs false
namespace Go.Pv
def Out1 (P : Program) (base : Nat) (o : Op2) (fr : Fr) (hp : Hp) (v : AV) (hp' : Hp) : Prop :=
  match o.op with
  | .p q => evP fr q = some v ∧ hp' = hp
  | .r q => evR fr hp q = some v ∧ noLoad o.no fr hp q = true ∧ hp' = hp
  | .e q r => evE base r fr hp q = some (v, hp')
  | .call f xs d => Gen P f (xs.map (·.ev fr)) hp v hp' ∧ (d = true → Grow o.no hp hp' ∧ (o.fm = true → Framed P f (xs.map (·.ev fr)) hp v hp'))
  | .callv x xs => match x.ev fr with
    | .fn f caps => Gen P f (xs.map (·.ev fr) ++ caps) hp v hp' ∧ hp.length ≤ hp'.length
    | _ => False
  | .bad => False
def Out (P : Program) (base : Nat) (o : Op2) (fr : Fr) (hp : Hp) (v : AV) (hp' : Hp) : Prop :=
  match o.guard with
  | none => Out1 P base o fr hp v hp'
  | some (t, want) => match get fr t with
    | .bool b => if b = want then Out1 P base o fr hp v hp' else v = .lit Go.undef ∧ hp' = hp
    | .lit u => notBool u = true ∧ v = .lit Go.undef ∧ hp' = hp
    | _ => False
section
variable {P : Program} {base : Nat} {o x y : Op2} {fr fr' : Fr} {hp hp' : Hp} {v : AV}
theorem aw1_out {σ : St} {K : St → Prop} : aw1 P base o σ K ↔ ∃ v hp', Out1 P base o σ.fr σ.hp v hp' ∧ K ⟨putO σ.fr o.dst v, hp'⟩ := by
  unfold aw1 Out1
  cases o.op with
  | p q =>
    dsimp only
    constructor
    · intro h
      split at h
      · rename_i x hx; exact ⟨x, _, ⟨hx, rfl⟩, h⟩
      · exact h.elim
    · rintro ⟨v, hp', ⟨h1, rfl⟩, hK⟩
      rw [h1]; exact hK
  | r q =>
    dsimp only
    constructor
    · intro h
      split at h
      · rename_i x hx; exact ⟨x, _, ⟨hx, h.1, rfl⟩, h.2⟩
      · exact h.elim
    · rintro ⟨v, hp', ⟨h1, h2, rfl⟩, hK⟩
      rw [h1]; exact ⟨h2, hK⟩
  | e q r =>
    dsimp only
    constructor
    · intro h
      split at h
      · rename_i p hp; exact ⟨p.1, p.2, hp, h⟩
      · exact h.elim
    · rintro ⟨v, hp', h1, hK⟩
      rw [h1]; exact hK
  | call f xs d =>
    dsimp only
    exact ⟨fun ⟨r, H', h1, h2, h3⟩ => ⟨r, H', ⟨h1, h2⟩, h3⟩, fun ⟨r, H', ⟨h1, h2⟩, h3⟩ => ⟨r, H', h1, h2, h3⟩⟩
  | callv x xs =>
    dsimp only
    generalize x.ev σ.fr = X
    cases X <;> try exact ⟨fun h => h.elim, fun ⟨_, _, h, _⟩ => h.elim⟩
    exact ⟨fun ⟨r, H', h1, h2, h3⟩ => ⟨r, H', ⟨h1, h2⟩, h3⟩, fun ⟨r, H', ⟨h1, h2⟩, h3⟩ => ⟨r, H', h1, h2, h3⟩⟩
  | bad => exact ⟨fun h => h.elim, fun ⟨_, _, h, _⟩ => h.elim⟩
theorem aw2_out {σ : St} {K : St → Prop} : aw2 P base o σ K ↔ ∃ v hp', Out P base o σ.fr σ.hp v hp' ∧ K ⟨putO σ.fr o.dst v, hp'⟩ := by
  unfold aw2 Out
  cases o.guard with
  | none => exact aw1_out
  | some p =>
    obtain ⟨t, want⟩ := p
    dsimp only
    generalize get σ.fr t = g
    cases g <;> try exact ⟨fun h => h.elim, fun ⟨_, _, h, _⟩ => h.elim⟩
    · rename_i b
      by_cases hbw : b = want
      · simp only [if_pos hbw]; exact aw1_out
      · simp only [if_neg hbw]
        exact ⟨fun h => ⟨_, _, ⟨rfl, rfl⟩, h⟩, fun ⟨v, hp', ⟨h1, h2⟩, h⟩ => by subst h1 h2; exact h⟩
    · exact ⟨fun h => ⟨_, _, ⟨h.1, rfl, rfl⟩, h.2⟩, fun ⟨v, hp', ⟨h0, h1, h2⟩, h⟩ => by subst h1 h2; exact ⟨h0, h⟩⟩

/-! ### What an operation looks at -/
theorem ax_congr {x : AX} (h : ∀ t ∈ x.uses, get fr t = get fr' t) : x.ev fr = x.ev fr' := by
  cases x with
  | t n => exact h n (by simp [AX.uses])
  | c v => rfl
theorem axo_congr {x : Option AX} (h : ∀ t ∈ usesO x, get fr t = get fr' t) : x.map (·.ev fr) = x.map (·.ev fr') := by
  cases x with
  | none => rfl
  | some x => simp only [Option.map_some]; rw [ax_congr h]
theorem axl_congr : ∀ {xs : List AX}, (∀ t ∈ usesL xs, get fr t = get fr' t) → xs.map (·.ev fr) = xs.map (·.ev fr')
  | [], _ => rfl
  | x :: xs, h => by
    simp only [List.map_cons]
    rw [ax_congr fun t ht => h t (by simp [usesL, ht]), axl_congr fun t ht => h t (by simp only [usesL, List.flatMap_cons, List.mem_append]; exact .inr ht)]
theorem mem_l {a b : List Nat} (h : ∀ t ∈ a ++ b, get fr t = get fr' t) : (∀ t ∈ a, get fr t = get fr' t) ∧ ∀ t ∈ b, get fr t = get fr' t :=
  ⟨fun t ht => h t (List.mem_append_left _ ht), fun t ht => h t (List.mem_append_right _ ht)⟩
theorem evP_congr {q : OpP} (h : ∀ t ∈ q.uses, get fr t = get fr' t) : evP fr q = evP fr' q := by
  cases q with
  | pick c a b =>
    obtain ⟨h1, h2⟩ := mem_l h
    obtain ⟨h2, h3⟩ := mem_l h2
    simp only [evP, ax_congr h1, ax_congr h2, ax_congr h3]
  | slices x lo hi =>
    obtain ⟨h1, h2⟩ := mem_l h
    obtain ⟨h2, h3⟩ := mem_l h2
    simp only [evP, ax_congr h1, axo_congr h2, axo_congr h3]
  | slicev sz x lo hi mx =>
    obtain ⟨h1, hq⟩ := mem_l h
    obtain ⟨h2, hq⟩ := mem_l hq
    obtain ⟨h3, h4⟩ := mem_l hq
    clear hq h
    have e3 : ∀ m, (hi.bind fun h => bound m (h.ev fr)) = (hi.bind fun h => bound m (h.ev fr')) := by
      intro m
      cases hi with
      | none => rfl
      | some x => simp only [Option.bind_some]; rw [ax_congr h3]
    cases mx with
    | none => simp only [evP, ax_congr h1, axo_congr h2, axo_congr h3]
    | some m => simp only [evP, ax_congr h1, axo_congr h2, e3, ax_congr (x := m) h4]
  | build z ps =>
    have e : (ps.map fun p => (p.1, p.2.1, p.2.2.ev fr)) = ps.map fun p => (p.1, p.2.1, p.2.2.ev fr') := by
      apply List.map_congr_left
      intro p hp
      rw [ax_congr fun t ht => h t (by
        simp only [OpP.uses, usesL, List.mem_flatMap, List.mem_map]
        exact ⟨p.2.2, ⟨p, hp, rfl⟩, ht⟩)]
    simp only [evP, e]
  | mkfn f cs => simp only [evP, axl_congr h]
  | lenc n => rfl
  | mv x => simp only [evP, ax_congr h]
  | un op x => simp only [evP, ax_congr h]
  | convI k x => simp only [evP, ax_congr h]
  | same x => simp only [evP, ax_congr h]
  | faddr o x => simp only [evP, ax_congr h]
  | field a b c x => simp only [evP, ax_congr h]
  | ext x i => simp only [evP, ax_congr h]
  | len x => simp only [evP, ax_congr h]
  | lenS x => simp only [evP, ax_congr h]
  | nilck x => simp only [evP, ax_congr h]
  | isnil a x => simp only [evP, ax_congr h]
  | bin op x y => obtain ⟨h1, h2⟩ := mem_l h; simp only [evP, ax_congr h1, ax_congr h2]
  | binB op x y => obtain ⟨h1, h2⟩ := mem_l h; simp only [evP, ax_congr h1, ax_congr h2]
  | iaddr a x y => obtain ⟨h1, h2⟩ := mem_l h; simp only [evP, ax_congr h1, ax_congr h2]
  | aaddr a b x y => obtain ⟨h1, h2⟩ := mem_l h; simp only [evP, ax_congr h1, ax_congr h2]
  | idxs x y => obtain ⟨h1, h2⟩ := mem_l h; simp only [evP, ax_congr h1, ax_congr h2]
  | idxa a b c x y => obtain ⟨h1, h2⟩ := mem_l h; simp only [evP, ax_congr h1, ax_congr h2]
  | minmax a x y => obtain ⟨h1, h2⟩ := mem_l h; simp only [evP, ax_congr h1, ax_congr h2]
  | idxb x y => obtain ⟨h1, h2⟩ := mem_l h; simp only [evP, ax_congr h1, ax_congr h2]
  | eqS a b x y => obtain ⟨h1, h2⟩ := mem_l h; simp only [evP, ax_congr h1, ax_congr h2]
theorem evR_congr {q : OpR} (h : ∀ t ∈ q.uses, get fr t = get fr' t) : evR fr hp q = evR fr' hp q ∧ ∀ no, noLoad no fr hp q = noLoad no fr' hp q := by
  cases q with
  | load n a x => simp [evR, noLoad, ax_congr (x := x) h]
  | b2s x => simp [evR, noLoad, ax_congr (x := x) h]
  | cut a x y z =>
    obtain ⟨h1, h2⟩ := mem_l (a := x.uses) (b := y.uses ++ z.uses) h
    obtain ⟨h3, h4⟩ := mem_l h2
    have e := evP_congr (fr := fr) (fr' := fr') (q := .slicev a x (some y) (some z) none) (fun t ht => h t (by simpa [OpP.uses, OpR.uses, usesO] using ht))
    simp only [evR, noLoad, e, ax_congr h1, ax_congr h3, ax_congr h4]
    exact ⟨trivial, fun _ => trivial⟩
theorem evE_congr {q : OpE} {r : Option Nat} (h : ∀ t ∈ q.uses, get fr t = get fr' t) : evE base r fr hp q = evE base r fr' hp q := by
  cases q with
  | alloc t z => rfl
  | box t x => simp only [evE, ax_congr (x := x) h]
  | s2b t x => simp only [evE, ax_congr (x := x) h]
  | clear a z x => simp only [evE, ax_congr (x := x) h]
  | mark x => simp only [evE, ax_congr (x := x) h]
  | mks t sz z n ps =>
    have e : (ps.map fun p => (p.1, p.2.ev fr)) = ps.map fun p => (p.1, p.2.ev fr') := by
      apply List.map_congr_left
      intro p hp
      rw [ax_congr fun t ht => h t (by
        simp only [OpE.uses, usesL, List.mem_flatMap, List.mem_map]
        exact ⟨p.2, ⟨p, hp, rfl⟩, ht⟩)]
    simp only [evE, e]
  | make t sz z x y => obtain ⟨h1, h2⟩ := mem_l h; simp only [evE, ax_congr h1, ax_congr h2]
  | store n x y => obtain ⟨h1, h2⟩ := mem_l h; simp only [evE, ax_congr h1, ax_congr h2]
  | append t sz x y => obtain ⟨h1, h2⟩ := mem_l h; simp only [evE, ax_congr h1, ax_congr h2]
  | copy sz x y => obtain ⟨h1, h2⟩ := mem_l h; simp only [evE, ax_congr h1, ax_congr h2]
theorem out1_congr (h : ∀ t ∈ o.op.uses, get fr t = get fr' t) (ho : Out1 P base o fr hp v hp') : Out1 P base o fr' hp v hp' := by
  unfold Out1 at ho ⊢
  cases hop : o.op with
  | p q => rw [hop] at ho h; dsimp only at ho ⊢; rw [← evP_congr h]; exact ho
  | r q => rw [hop] at ho h; dsimp only at ho ⊢; rw [← (evR_congr h).1, ← (evR_congr (hp := hp) h).2]; exact ho
  | e q r => rw [hop] at ho h; dsimp only at ho ⊢; rw [← evE_congr h]; exact ho
  | call f xs d => rw [hop] at ho h; dsimp only at ho ⊢; rw [← axl_congr h]; exact ho
  | callv x xs =>
    rw [hop] at ho h; dsimp only at ho ⊢
    obtain ⟨h1, h2⟩ := mem_l h
    rw [← ax_congr h1, ← axl_congr h2]; exact ho
  | bad => rw [hop] at ho; exact ho
theorem out_congr (h : ∀ t ∈ o.looks, get fr t = get fr' t) (ho : Out P base o fr hp v hp') : Out P base o fr' hp v hp' := by
  unfold Op2.looks at h
  obtain ⟨h1, h2⟩ := mem_l h
  unfold Out at ho ⊢
  cases hg : o.guard with
  | none => rw [hg] at ho; exact out1_congr h1 ho
  | some p =>
    obtain ⟨t, want⟩ := p
    rw [hg] at ho h2
    dsimp only at ho ⊢
    rw [← h2 t (by simp)]
    split at ho
    · split at ho
      · rename_i hb; rw [if_pos hb]; exact out1_congr h1 ho
      · rename_i hb; rw [if_neg hb]; exact ho
    · exact ho
    · exact ho

/-! ### What an operation does to rows -/
/-- Entries stay, but for who may write. -/
def Keep (hp h : Hp) : Prop := ∀ id e, ent hp id = some e → ∃ wr, ent h id = some { e with wr := wr }
/-- .. those that are not of the types no. -/
def KeepN (no : List TypeId) (hp h : Hp) : Prop := ∀ id e, ent hp id = some e → no.contains e.ty = false → ∃ wr, ent h id = some { e with wr := wr }
theorem Keep.n {no : List TypeId} {hp h : Hp} (k : Keep hp h) : KeepN no hp h := fun id e he _ => k id e he
theorem Keep.refl (hp : Hp) : Keep hp hp := fun _ e he => ⟨e.wr, he⟩
theorem load_keep {no : List TypeId} {n : Nat} {a : Bool} {X : AX} {h : Hp} (hr : evR fr hp (.load n a X) = some v) (hn : noLoad no fr hp (.load n a X) = true) (k : KeepN no hp h) :
    evR fr h (.load n a X) = some v ∧ noLoad no fr h (.load n a X) = true := by
  simp only [evR, noLoad] at hr hn ⊢
  generalize X.ev fr = XX at *
  cases XX <;> try (cases hr; done)
  · dsimp only at hr hn ⊢
    obtain ⟨e, he, hr⟩ := Option.bind_eq_some_iff.1 hr
    rw [he] at hn
    simp only [Bool.not_eq_true'] at hn
    obtain ⟨wr, he'⟩ := k _ e he hn
    rw [he']
    refine ⟨hr, ?_⟩
    simp only [hn]; rfl
  · exact ⟨hr, rfl⟩
theorem cut_keep {no : List TypeId} {sz : Nat} {X Y Z : AX} {h : Hp} (hr : evR fr hp (.cut sz X Y Z) = some v) (k : Keep hp h) : evR fr h (.cut sz X Y Z) = some v ∧ noLoad no fr h (.cut sz X Y Z) = true := by
  refine ⟨?_, rfl⟩
  simp only [evR] at hr ⊢
  split at hr
  · exact hr
  · generalize X.ev fr = XX at *
    cases XX <;> try (cases hr; done)
    dsimp only at hr ⊢
    obtain ⟨e, he, hr⟩ := Option.bind_eq_some_iff.1 hr
    obtain ⟨wr, hk⟩ := k _ e he
    rw [hk]
    exact hr
theorem b2s_keep {no : List TypeId} {X : AX} {h : Hp} (hr : evR fr hp (.b2s X) = some v) (k : Keep hp h) : evR fr h (.b2s X) = some v ∧ noLoad no fr h (.b2s X) = true := by
  refine ⟨?_, rfl⟩
  simp only [evR] at hr ⊢
  generalize X.ev fr = XX at *
  cases XX <;> try (cases hr; done)
  · exact hr
  · dsimp only at hr ⊢
    split at hr
    · rename_i hs
      rw [if_pos hs]
      obtain ⟨es, hes, hr⟩ := Option.bind_eq_some_iff.1 hr
      simp only [elems] at hes ⊢
      obtain ⟨e, he, hes⟩ := Option.bind_eq_some_iff.1 hes
      obtain ⟨wr, he'⟩ := k _ e he
      rw [he']
      simp only [Option.bind_some]
      rw [hes]; exact hr
    · cases hr
/-- An operation that makes a row at the place kept for it. -/
theorem cls3_form {q : OpE} {j : Nat} {hp' : Hp} (hc : cls (.e q (some j)) = 3) (h : evE base (some j) fr hp q = some (v, hp')) :
    ∃ e, e.wr = true ∧ base + j < hp.length ∧ ent hp (base + j) = none ∧ hp' = hp.set (base + j) (some e) ∧ ∀ h, base + j < h.length → ent h (base + j) = none → evE base (some j) fr h q = some (v, h.set (base + j) (some e)) := by
  have row : ∀ (sz : Nat) (ty : TypeId) (es : List AV), newVec base (some j) hp sz ty es = some (v, hp') → ∃ e, e.wr = true ∧ base + j < hp.length ∧ ent hp (base + j) = none ∧ hp' = hp.set (base + j) (some e) ∧ ∀ h, base + j < h.length → ent h (base + j) = none → newVec base (some j) h sz ty es = some (v, h.set (base + j) (some e)) := by
    intro sz ty es h
    unfold newVec new at h
    dsimp only at h
    split at h
    · rename_i hc
      simp only [Option.map_some, Option.some.injEq, Prod.mk.injEq] at h
      obtain ⟨rfl, rfl⟩ := h
      refine ⟨_, rfl, hc.1, by simpa using hc.2, rfl, fun h h1 h2 => ?_⟩
      unfold newVec new
      dsimp only
      rw [if_pos ⟨h1, by rw [h2]; rfl⟩]; rfl
    · cases h
  have var : ∀ (ty : TypeId) (x : AV), newVar base (some j) hp ty x = some (v, hp') → ∃ e, e.wr = true ∧ base + j < hp.length ∧ ent hp (base + j) = none ∧ hp' = hp.set (base + j) (some e) ∧ ∀ h, base + j < h.length → ent h (base + j) = none → newVar base (some j) h ty x = some (v, h.set (base + j) (some e)) := by
    intro ty x h
    unfold newVar new at h
    dsimp only at h
    split at h
    · rename_i hc
      simp only [Option.map_some, Option.some.injEq, Prod.mk.injEq] at h
      obtain ⟨rfl, rfl⟩ := h
      refine ⟨_, rfl, hc.1, by simpa using hc.2, rfl, fun h h1 h2 => ?_⟩
      unfold newVar new
      dsimp only
      rw [if_pos ⟨h1, by rw [h2]; rfl⟩]; rfl
    · cases h
  cases q <;> try (cases hc; done)
  · exact var _ _ h
  · simp only [evE] at h ⊢
    split at h
    · rename_i ho
      simp only [if_pos ho]
      exact var _ _ h
    · cases h
  · simp only [evE] at h ⊢
    obtain ⟨es, hes, h⟩ := Option.bind_eq_some_iff.1 h
    simp only [hes, Option.bind_some]
    exact row _ _ _ h
  · simp only [evE] at h ⊢
    obtain ⟨c, hc, h⟩ := Option.bind_eq_some_iff.1 h
    obtain ⟨n, hn, h⟩ := Option.bind_eq_some_iff.1 h
    simp only [hc, hn, Option.bind_some]
    exact row _ _ _ h
  · rename_i t X
    simp only [evE] at h ⊢
    generalize X.ev fr = XX at *
    cases XX <;> try (cases h; done)
    dsimp only at h ⊢
    split at h
    · rename_i ho
      simp only [if_pos ho]
      exact row _ _ _ h
    · cases h
theorem set_none_keep {k : Nat} {e : Ent} (h0 : ent hp k = none) : Keep hp (hp.set k (some e)) := by
  intro id e' he
  refine ⟨e'.wr, ?_⟩
  have : id ≠ k := by rintro rfl; rw [h0] at he; cases he
  unfold ent at *
  rw [List.getElem?_set_ne (fun h => this h.symm)]; exact he
theorem elems_set {k : Nat} {e : Ent} {Y : AV} {es : List AV} (h0 : ent hp k = none) (h : elems hp Y = some es) : elems (hp.set k (some e)) Y = some es := by
  cases Y <;> try exact h
  simp only [elems] at h ⊢
  obtain ⟨e', he, h⟩ := Option.bind_eq_some_iff.1 h
  obtain ⟨wr, he'⟩ := set_none_keep (e := e) h0 _ e' he
  rw [he']; exact h
theorem ent_set_ne {k id : Nat} {e : Option Ent} (h : id ≠ k) : ent (hp.set k e) id = ent hp id := by
  unfold ent
  rw [List.getElem?_set_ne (fun h' => h h'.symm)]
/-- A row more at a place that is kept: an append does as it did. -/
theorem append_set {t : TypeId} {sz : Nat} {X Y : AX} {i k : Nat} {e : Ent} {h1 : Hp} (h : evE base (some i) fr hp (.append t sz X Y) = some (v, h1)) (hk : ent h1 k = none) (hik : k ≠ base + i) :
    ent hp k = none ∧ h1.length = hp.length ∧ evE base (some i) fr (hp.set k (some e)) (.append t sz X Y) = some (v, h1.set k (some e)) := by
  have row : ∀ (hq : Hp) (es : List AV), newVec base (some i) hq sz t es = some (v, h1) → ent hq k = none ∧ h1.length = hq.length ∧ newVec base (some i) (hq.set k (some e)) sz t es = some (v, h1.set k (some e)) := by
    intro hq es h
    unfold newVec new at h ⊢
    dsimp only at h ⊢
    split at h
    · rename_i hc
      simp only [Option.map_some, Option.some.injEq, Prod.mk.injEq] at h
      obtain ⟨rfl, rfl⟩ := h
      rw [ent_set_ne hik] at hk
      refine ⟨hk, by simp, ?_⟩
      rw [if_pos ⟨by simpa using hc.1, by rw [ent_set_ne (fun h => hik h.symm)]; exact hc.2⟩]
      simp only [Option.map_some, Option.some.injEq, Prod.mk.injEq, true_and]
      exact List.set_comm _ _ (fun h => hik h)
    · cases h
  simp only [evE] at h ⊢
  split at h
  case isFalse => cases h
  rename_i hs
  simp only [if_pos hs]
  obtain ⟨ys, hys, h⟩ := Option.bind_eq_some_iff.1 h
  generalize hXX : X.ev fr = XX at h ⊢
  have fin : ∀ (hq : Hp) (es : List AV), ent hp k = none → (∀ j, j ≠ k → True) → newVec base (some i) hq sz t es = some (v, h1) → True := fun _ _ _ _ _ => trivial
  cases XX <;> try (cases h; done)
  · rename_i sz' es full
    cases es with
    | nil =>
      cases full with
      | false => cases h
      | true =>
        dsimp only at h ⊢
        split at h
        · rename_i hl
          obtain ⟨r1, r2, r3⟩ := row _ _ h
          refine ⟨r1, r2, ?_⟩
          rw [elems_set r1 hys]
          simp only [Option.bind_some, if_pos hl]
          exact r3
        · cases h
    | cons a es =>
      cases full with
      | false => cases h
      | true =>
        dsimp only at h ⊢
        split at h
        · rename_i hl
          obtain ⟨r1, r2, r3⟩ := row _ _ h
          refine ⟨r1, r2, ?_⟩
          rw [elems_set r1 hys]
          simp only [Option.bind_some, if_pos hl]
          exact r3
        · rename_i hl
          split at h
          · rename_i hl2
            simp only [Option.some.injEq, Prod.mk.injEq] at h
            obtain ⟨rfl, rfl⟩ := h
            refine ⟨hk, rfl, ?_⟩
            rw [elems_set hk hys]
            simp only [Option.bind_some, if_neg hl, if_pos hl2]
          · cases h
  · rename_i id sz' off len
    dsimp only at h ⊢
    obtain ⟨en, he, h⟩ := Option.bind_eq_some_iff.1 h
    split at h
    · rename_i hl
      obtain ⟨r1, r2, r3⟩ := row _ _ h
      have hid : id ≠ k := by
        rintro rfl
        rw [ent_set he, if_pos rfl] at r1; cases r1
      rw [ent_set_ne (fun h => hid h.symm)] at r1
      refine ⟨r1, by simpa using r2, ?_⟩
      rw [elems_set r1 hys]
      simp only [Option.bind_some]
      rw [ent_set_ne hid, he]
      simp only [Option.bind_some, if_pos hl]
      rw [List.set_comm _ _ (fun h => hid h.symm)]
      exact r3
    · rename_i hl
      split at h
      · rename_i hl2
        simp only [Option.some.injEq, Prod.mk.injEq] at h
        obtain ⟨rfl, rfl⟩ := h
        have hid : id ≠ k := by
          rintro rfl
          rw [ent_set he, if_pos rfl] at hk; cases hk
        rw [ent_set_ne (fun h => hid h.symm)] at hk
        refine ⟨hk, by simp, ?_⟩
        rw [elems_set hk hys]
        simp only [Option.bind_some]
        rw [ent_set_ne hid, he]
        simp only [Option.bind_some, if_neg hl, if_pos hl2]
        rw [List.set_comm _ _ (fun h => hid h.symm)]
      · cases h
/-- Without the row k. -/
def Gh.drop (γ : Gh) (k : Nat) : Gh := ⟨fun i => if i = k then none else γ.m i, γ.imm⟩
theorem known0_sim {γ : Gh} {w : World} {H : Hp} {k : Nat} {x : AV} {v : Value} (h : Sim w γ x v) (hk : known0 H x = true) (h0 : ent H k = none) : Sim w (γ.drop k) x v := by
  have id_ne : ∀ {id : Nat}, (ent H id).isSome = true → id ≠ k := by
    rintro id h rfl; rw [h0] at h; cases h
  cases h with
  | undef => exact .undef _
  | bool b => exact .bool b
  | anyb b => exact .anyb b
  | int k n => exact .int k n
  | str s => exact .str s
  | lit v => exact .lit v
  | sl0 sz full A cap hc => exact .sl0 sz full A cap hc
  | sl sz es full b off cap U hp hc hf hb hi hz hcell hs => exact .sl sz es full b off cap U hp hc hf hb hi hz hcell hs
  | rptr x off b o U hb hi hcell hs => exact .rptr x off b o U hb hi hcell hs
  | vec id sz off len A cap ge hm hz hlC hcC hN hA => exact .vec id sz off len A cap ge (by simp only [Gh.drop]; rw [if_neg (id_ne hk)]; exact hm) hz hlC hcC hN hA
  | eptr id i off g ge hm hg => exact .eptr id i off g ge (by simp only [Gh.drop]; rw [if_neg (id_ne hk)]; exact hm) hg
  | _ => cases hk
theorem known_sim {γ : Gh} {w : World} {H : Hp} {k : Nat} {x : AV} {v : Value} (h : Sim w γ x v) (hk : known H x = true) (h0 : ent H k = none) : Sim w (γ.drop k) x v := by
  by_cases hx : ∃ cs, x = .agg cs
  · obtain ⟨xs, rfl⟩ := hx
    obtain ⟨cs, rfl, hz, hs⟩ := agg_inv h
    exact .agg xs cs hz fun i x v hx hv => known0_sim (hs i x v hx hv) (List.all_eq_true.1 hk x (List.mem_of_getElem? hx)) h0
  · have e : known H x = known0 H x := by cases x <;> first | rfl | exact absurd ⟨_, rfl⟩ hx
    exact known0_sim h (e ▸ hk) h0
theorem drop_sim {γ : Gh} {w : World} {k : Nat} {x : AV} {v : Value} (h : Sim w (γ.drop k) x v) : Sim w γ x v :=
  h.adv ⟨Nat.le_refl _, fun _ hb => ⟨hb, fun _ => rfl⟩, fun i ge hi => by
    simp only [Gh.drop] at hi
    split at hi
    · cases hi
    · exact ⟨ge.st, hi⟩⟩
/-- A row more that the call does not know. -/
theorem gen_frame {f : FuncId} {xs : List AV} {H' : Hp} {k : Nat} {e : Ent} (h : Gen P f xs hp v H') (hg : Grow [] hp H') (hkn : allKnown hp xs = true) (h0 : ent hp k = none) (hlt : k < hp.length) (hwr : e.wr = true) : Gen P f xs (hp.set k (some e)) v (H'.set k (some e)) := by
  simp only [allKnown, Bool.and_eq_true] at hkn
  obtain ⟨hk, hkh⟩ := hkn
  refine ⟨h.1, fun w γ2 args hh hl hs => ?_⟩
  have hent : ∀ j, ent (hp.set k (some e)) j = if j = k then some e else ent hp j := by
    intro j
    by_cases hj : j = k
    · subst hj; unfold ent; simp [hlt]
    · rw [if_neg hj, ent_set_ne hj]
  obtain ⟨ge, hm2, hok2⟩ := hh.ok k e (by rw [hent, if_pos rfl])
  have hst := wr_live hok2 hwr
  have hst0 : ge.st ≠ 0 := by rw [hst]; decide
  have dm : ∀ i x, (γ2.drop k).m i = some x → i ≠ k ∧ γ2.m i = some x := by
    intro i x hi
    simp only [Gh.drop] at hi
    split at hi
    · cases hi
    · rename_i hne; exact ⟨hne, hi⟩
  have hh0 : HRel (γ2.drop k) hp w := by
    refine ⟨?_, ?_, ?_, ?_, ?_⟩
    · intro id hid
      simp only [Gh.drop]
      split
      · rfl
      · rename_i hne; exact hh.none id (by rw [hent, if_neg hne]; exact hid)
    · intro id e' hid
      have hne : id ≠ k := by rintro rfl; rw [h0] at hid; cases hid
      obtain ⟨x, hx, hok⟩ := hh.ok id e' (by rw [hent, if_neg hne]; exact hid)
      refine ⟨x, by simp only [Gh.drop]; rw [if_neg hne]; exact hx, ?_⟩
      have hkn : entKnown hp (some e') = true := by
        refine List.all_eq_true.1 hkh _ ?_
        have hl' := ent_lt hid
        unfold ent at hid
        rw [List.getElem?_eq_getElem hl'] at hid
        simp only [Option.join_some] at hid
        rw [← hid]; exact List.getElem_mem hl'
      rcases hok with h1 | ⟨h1, h2⟩
      · exact .inl h1
      · refine .inr ⟨h1, ?_⟩
        rcases h2 with h2 | ⟨g, cs, fr, k1, k2, k3, k4, k5, k6⟩
        · exact .inl h2
        · refine .inr ⟨g, cs, fr, k1, k2, k3, k4, k5, fun i z hz => ⟨(k6 i z hz).1, fun j y hy => ?_⟩⟩
          obtain ⟨u, u1, u2, u3⟩ := (k6 i z hz).2 j y hy
          refine ⟨u, u1, u2, known0_sim u3 ?_ h0⟩
          have := List.all_eq_true.1 hkn z (List.mem_of_getElem? hz)
          exact List.all_eq_true.1 this y (List.mem_of_getElem? hy)
    · intro i j x y b hi hj hx hy hbx hby
      exact hh.inj i j x y b (dm i x hi).2 (dm j y hj).2 hx hy hbx hby
    · intro b hb
      refine ⟨(hh.imm b hb).1, fun ⟨i, x, hi, hs, hb'⟩ => (hh.imm b hb).2 ⟨i, x, (dm i x hi).2, hs, hb'⟩⟩
    · intro i x b hi hs hb
      exact hh.stl i x b (dm i x hi).2 hs hb
  refine Calls.mono (h.2 w (γ2.drop k) args hh0 hl fun i x v hx hv => known_sim (hs i x v hx hv) (List.all_eq_true.1 hk x (List.mem_of_getElem? hx)) h0) ?_
  rintro ee W ⟨v', γ', rfl, sv, hh', st, ids⟩
  have hk' : ent H' k = none := hg.none k hlt h0
  have hm' := hh'.none k hk'
  have hlt' : k < H'.length := Nat.lt_of_lt_of_le hlt hg.len
  have hent' : ∀ j, ent (H'.set k (some e)) j = if j = k then some e else ent H' j := by
    intro j
    by_cases hj : j = k
    · subst hj; unfold ent; simp [hlt']
    · rw [if_neg hj, ent_set_ne hj]
  -- the row's block is none of the others
  have apart : ∀ b, ge.blk = some b → b < w.heap.size ∧ ¬ (γ2.drop k).owns b ∧ ¬ γ2.imm b := fun b hb =>
    ⟨hh.blkLt hm2 hst0 hb, fun ⟨i, x, hi, hs, hb'⟩ => (dm i x hi).1 (hh.inj i k x ge b (dm i x hi).2 hm2 (by rw [hs]; decide) hst0 hb' hb), fun hi => (hh.imm b hi).2 ⟨k, ge, hm2, hst, hb⟩⟩
  have noimm : ∀ b, ge.blk = some b → ¬ γ'.imm b := fun b hb hi => by
    obtain ⟨a1, a2, a3⟩ := apart b hb
    rcases st.immn b hi with h | h | h
    · exact a3 h
    · exact a2 h
    · omega
  have noliv : ∀ b, ge.blk = some b → ∀ i x, γ'.m i = some x → x.st ≠ 0 → x.blk ≠ some b := fun b hb i x hi hs hb' => by
    obtain ⟨a1, a2, a3⟩ := apart b hb
    rcases st_cases hh' hi with h | h | h
    · exact hs h
    · exact noimm b hb (hh'.stl i x b hi h hb')
    · rcases st.own b ⟨i, x, hi, h, hb'⟩ with h | h
      · exact a2 h
      · omega
  have look : ∀ i x, (γ'.add k ge).m i = some x → (i = k ∧ x = ge) ∨ (i ≠ k ∧ γ'.m i = some x) := by
    intro i x hx
    by_cases e1 : i = k
    · subst e1; rw [Gh.add_same] at hx; cases hx; exact .inl ⟨rfl, rfl⟩
    · rw [Gh.add_other _ _ _ e1] at hx; exact .inr ⟨e1, hx⟩
  have ids2 : Ids γ2 (γ'.add k ge) := fun i x hi => by
    by_cases e1 : i = k
    · subst e1; rw [hm2] at hi; cases hi; exact ⟨ge.st, Gh.add_same _ _ _⟩
    · obtain ⟨s, h1⟩ := ids i x (by simp only [Gh.drop]; rw [if_neg e1]; exact hi)
      exact ⟨s, by rw [Gh.add_other _ _ _ e1]; exact h1⟩
  have adv1 : Adv γ' (γ'.add k ge) W W := ⟨Nat.le_refl _, fun b hb => ⟨hb, fun _ => rfl⟩, Gh.add_ids (.inl hm')⟩
  have adv2 : Adv γ2 (γ'.add k ge) w W := ⟨st.size, fun b hb => ⟨st.immk b hb, fun hlt => st.keep b hlt (hh0.imm b hb).2⟩, ids2⟩
  refine ⟨v', γ'.add k ge, rfl, sv.adv adv1, ⟨?_, ?_, ?_, ?_, ?_⟩, ⟨st.os, st.tape, st.output, st.size, ?_, ?_, st.immk, ?_⟩, ids2⟩
  · intro id hid
    rw [hent'] at hid
    split at hid
    · cases hid
    · rename_i hne; rw [Gh.add_other _ _ _ hne]; exact hh'.none id hid
  · intro id e' hid
    rw [hent'] at hid
    split at hid
    · rename_i hid'; subst hid'; cases hid
      exact ⟨ge, Gh.add_same _ _ _, hok2.adv adv2 fun b _ hb => st.keep b (apart b hb).1 (apart b hb).2.1⟩
    · rename_i hne
      obtain ⟨x, hx, hok⟩ := hh'.ok id e' hid
      exact ⟨x, by rw [Gh.add_other _ _ _ hne]; exact hx, hok.adv adv1 fun _ _ _ => rfl⟩
  · intro i j x y b hi hj hx hy hbx hby
    rcases look i x hi with ⟨rfl, rfl⟩ | ⟨i1, hi'⟩ <;> rcases look j y hj with ⟨rfl, rfl⟩ | ⟨j1, hj'⟩
    · rfl
    · exact absurd hby (noliv b hbx j y hj' hy)
    · exact absurd hbx (noliv b hby i x hi' hx)
    · exact hh'.inj i j x y b hi' hj' hx hy hbx hby
  · intro b hb
    refine ⟨(hh'.imm b hb).1, fun ⟨i, x, hi, hs, hb'⟩ => ?_⟩
    rcases look i x hi with ⟨rfl, rfl⟩ | ⟨_, hi'⟩
    · exact noimm b hb' hb
    · exact (hh'.imm b hb).2 ⟨i, x, hi', hs, hb'⟩
  · intro i x b hi hs hb
    rcases look i x hi with ⟨rfl, rfl⟩ | ⟨_, hi'⟩
    · rw [hst] at hs; cases hs
    · exact hh'.stl i x b hi' hs hb
  · intro b hb hn
    exact st.keep b hb fun ⟨i, x, hi, hs, hb'⟩ => hn ⟨i, x, (dm i x hi).2, hs, hb'⟩
  · rintro b ⟨i, x, hi, hs, hb⟩
    rcases look i x hi with ⟨rfl, rfl⟩ | ⟨_, hi'⟩
    · exact .inl ⟨i, x, hm2, hs, hb⟩
    · rcases st.own b ⟨i, x, hi', hs, hb⟩ with ⟨j, y, hj, hs', hb'⟩ | h
      · exact .inl ⟨j, y, (dm j y hj).2, hs', hb'⟩
      · exact .inr h
  · intro b hb
    rcases st.immn b hb with h | ⟨j, y, hj, hs', hb'⟩ | h
    · exact .inl h
    · exact .inr (.inl ⟨j, y, (dm j y hj).2, hs', hb'⟩)
    · exact .inr (.inr h)
theorem append_keep {t : TypeId} {sz : Nat} {X Y : AX} {i : Nat} {h1 : Hp} {no : List TypeId} (h : evE base (some i) fr hp (.append t sz X Y) = some (v, h1)) (hn : no.contains t = true) : KeepN no hp h1 := by
  have row : ∀ (hq : Hp) (es : List AV), newVec base (some i) hq sz t es = some (v, h1) → Keep hq h1 := by
    intro hq es h
    unfold newVec new at h
    dsimp only at h
    split at h
    · rename_i hc
      simp only [Option.map_some, Option.some.injEq, Prod.mk.injEq] at h
      obtain ⟨rfl, rfl⟩ := h
      exact set_none_keep (by simpa using hc.2)
    · cases h
  simp only [evE] at h
  split at h
  case isFalse => cases h
  obtain ⟨ys, hys, h⟩ := Option.bind_eq_some_iff.1 h
  generalize X.ev fr = XX at h
  cases XX <;> try (cases h; done)
  · rename_i sz' es full
    cases es with
    | nil =>
      cases full with
      | false => cases h
      | true =>
        dsimp only at h
        split at h
        · exact (row _ _ h).n
        · cases h
    | cons a es =>
      cases full with
      | false => cases h
      | true =>
        dsimp only at h
        split at h
        · exact (row _ _ h).n
        · split at h
          · simp only [Option.some.injEq, Prod.mk.injEq] at h
            obtain ⟨rfl, rfl⟩ := h
            intro id' e' he' _
            exact ⟨e'.wr, he'⟩
          · cases h
  · rename_i id sz' off len
    dsimp only at h
    obtain ⟨en, he, h⟩ := Option.bind_eq_some_iff.1 h
    split at h
    · rename_i hl
      intro id' e' he' hty
      have hid : id' ≠ id := by
        rintro rfl
        rw [he] at he'; cases he'
        rw [← hl.2.2.1, hn] at hty; cases hty
      exact row _ _ h id' e' (by rw [ent_set_ne hid]; exact he')
    · split at h
      · rename_i hl2
        simp only [Option.some.injEq, Prod.mk.injEq] at h
        obtain ⟨rfl, rfl⟩ := h
        intro id' e' he' hty
        have hid : id' ≠ id := by
          rintro rfl
          rw [he] at he'; cases he'
          rw [← hl2.2.2.1, hn] at hty; cases hty
        exact ⟨e'.wr, by rw [ent_set_ne hid]; exact he'⟩
      · cases h
structure Good (o : Op2) (i : Nat) : Prop where
  e : ∀ q r, o.op = .e q r → r = some i
  c : ∀ f xs d, o.op = .call f xs d → d = true
theorem out_cases {h1 : Hp} (h : Out P base o fr hp v h1) : ((∀ h, Out P base o fr h v h) ∧ h1 = hp) ∨ (Out1 P base o fr hp v h1 ∧ ∀ h v h', Out1 P base o fr h v h' → Out P base o fr h v h') := by
  unfold Out at h ⊢
  cases hg : o.guard with
  | none => rw [hg] at h; exact .inr ⟨h, fun _ _ _ h => h⟩
  | some p =>
    obtain ⟨t, want⟩ := p
    rw [hg] at h
    dsimp only at h ⊢
    generalize get fr t = g at h ⊢
    cases g <;> try exact h.elim
    · rename_i b
      dsimp only at h ⊢
      by_cases hb : b = want
      · rw [if_pos hb] at h
        refine .inr ⟨h, fun _ _ _ h => ?_⟩
        rw [if_pos hb]; exact h
      · rw [if_neg hb] at h
        obtain ⟨rfl, rfl⟩ := h
        refine .inl ⟨fun h => ?_, rfl⟩
        rw [if_neg hb]; exact ⟨rfl, rfl⟩
    · dsimp only at h ⊢
      obtain ⟨h0, rfl, rfl⟩ := h
      exact .inl ⟨fun h => ⟨h0, rfl, rfl⟩, rfl⟩
theorem swap_heap {h1 h2 : Hp} {vx vy : AV} {i j : Nat} (hx : Out P base x fr hp vx h1) (hy : Out P base y fr h1 vy h2) (gx : Good x i) (gy : Good y j) (hij : i ≠ j) (hlen : cls y.op = 3 → base + j < hp.length)
    (hs : swapC (cls x.op) (cls y.op) = true) (hf : cls x.op = 5 → cls y.op = 3 → x.fm = true) (hn : ∀ t, appTy y.op = some t → cls x.op = 1 → x.no.contains t = true) (hc1 : cls x.op = 1 → ∀ t ∈ callTy y, x.no.contains t = true) (hc2 : cls x.op = 2 → callTy y = []) : ∃ h1', Out P base y fr hp vy h1' ∧ Out P base x fr h1' vx h2 := by
  rcases out_cases hx with ⟨q1, rfl⟩ | ⟨ox, lx⟩
  · exact ⟨h2, hy, q1 h2⟩
  rcases out_cases hy with ⟨q2, rfl⟩ | ⟨oy, ly⟩
  · exact ⟨hp, q2 hp, hx⟩
  have pureX : ∀ q, x.op = .p q → ∃ h1', Out P base y fr hp vy h1' ∧ Out P base x fr h1' vx h2 := by
    intro q hq
    unfold Out1 at ox
    rw [hq] at ox
    obtain ⟨e1, rfl⟩ := ox
    exact ⟨h2, hy, lx _ _ _ (by unfold Out1; rw [hq]; exact ⟨e1, rfl⟩)⟩
  have pureY : ∀ q, y.op = .p q → ∃ h1', Out P base y fr hp vy h1' ∧ Out P base x fr h1' vx h2 := by
    intro q hq
    unfold Out1 at oy
    rw [hq] at oy
    obtain ⟨e1, rfl⟩ := oy
    exact ⟨hp, ly _ _ _ (by unfold Out1; rw [hq]; exact ⟨e1, rfl⟩), hx⟩
  -- y makes a row at its place
  have rowY : ∀ q, y.op = .e q (some j) → cls y.op = 3 → ∃ e, e.wr = true ∧ ent h1 (base + j) = none ∧ h2 = h1.set (base + j) (some e) ∧ ∀ h, base + j < h.length → ent h (base + j) = none → Out P base y fr h vy (h.set (base + j) (some e)) := by
    intro q hq hc
    have oy' := oy
    unfold Out1 at oy'
    rw [hq] at oy' hc
    obtain ⟨e, w1, w2, w3, w4, w5⟩ := cls3_form hc oy'
    exact ⟨e, w1, w3, w4, fun h l1 l2 => ly _ _ _ (by unfold Out1; rw [hq]; exact w5 h l1 l2)⟩
  cases hxo : x.op with
  | p q => exact pureX q hxo
  | bad => unfold Out1 at ox; rw [hxo] at ox; exact ox.elim
  | callv X xs =>
    cases hyo : y.op with
    | p q => exact pureY q hyo
    | r q => rw [hxo, hyo] at hs; cases q <;> cases hs
    | e q r =>
      have := gy.e q r hyo; subst this
      rw [hxo, hyo] at hs; cases q <;> cases hs
    | call f xs d => have := gy.c f xs d hyo; subst this; rw [hxo, hyo] at hs; cases hs
    | callv X xs => rw [hxo, hyo] at hs; cases hs
    | bad => unfold Out1 at oy; rw [hyo] at oy; exact oy.elim
  | r q =>
    have ox' := ox
    unfold Out1 at ox'
    rw [hxo] at ox'
    obtain ⟨e1, e2, rfl⟩ := ox'
    -- behind rows that stay
    have stay : Keep h1 h2 → Out P base x fr h2 vx h2 := fun k => lx _ _ _ (by
      unfold Out1; rw [hxo]
      cases q with
      | load n a X => obtain ⟨a1, a2⟩ := load_keep e1 e2 k.n; exact ⟨a1, a2, rfl⟩
      | b2s X => obtain ⟨a1, a2⟩ := b2s_keep (no := x.no) e1 k; exact ⟨a1, a2, rfl⟩
      | cut s X Y Z => obtain ⟨a1, a2⟩ := cut_keep (no := x.no) e1 k; exact ⟨a1, a2, rfl⟩)
    cases hyo : y.op with
    | p q => exact pureY q hyo
    | bad => unfold Out1 at oy; rw [hyo] at oy; exact oy.elim
    | callv X xs => rw [hxo, hyo] at hs; cases q <;> cases hs
    | r q' =>
      unfold Out1 at oy
      rw [hyo] at oy
      obtain ⟨f1, f2, rfl⟩ := oy
      exact ⟨_, hy, hx⟩
    | call f xs d =>
      have := gy.c f xs d hyo; subst this
      unfold Out1 at oy
      rw [hyo] at oy
      have hg := (oy.2 rfl).1
      have hct : callTy y = y.no := by unfold callTy; rw [hyo]; rfl
      rw [hct] at hc1 hc2
      refine ⟨h2, hy, lx _ _ _ ?_⟩
      unfold Out1; rw [hxo]
      cases q with
      | load n a X =>
        have hc := hc1 (by rw [hxo]; rfl)
        obtain ⟨a1, a2⟩ := load_keep (h := h2) e1 e2 fun id e he hne => hg.some id e he (by
          cases hx : y.no.contains e.ty with
          | false => rfl
          | true => exact absurd (hc _ (List.contains_iff_mem.1 hx)) (by rw [hne]; decide))
        exact ⟨a1, a2, rfl⟩
      | b2s X =>
        have hc := hc2 (by rw [hxo]; rfl)
        obtain ⟨a1, a2⟩ := b2s_keep (no := x.no) (h := h2) e1 fun id e he => hg.some id e he (by rw [hc]; rfl)
        exact ⟨a1, a2, rfl⟩
      | cut _ _ _ _ => rw [hxo, hyo] at hs; cases hs
    | e q' r =>
      have := gy.e q' r hyo; subst this
      by_cases h3 : cls y.op = 3
      · obtain ⟨e, w1, w2, rfl, w4⟩ := rowY q' hyo h3
        exact ⟨_, hy, stay (set_none_keep w2)⟩
      · rw [hyo] at h3
        cases q' <;> try (rw [hxo, hyo] at hs; cases q <;> cases hs; done)
        all_goals try exact absurd rfl h3
        rename_i t sz X Y
        cases q with
        | b2s _ => rw [hxo, hyo] at hs; cases hs
        | cut _ _ _ _ => rw [hxo, hyo] at hs; cases hs
        | load n a Z =>
          have hc := hn t (by rw [hyo]; rfl) (by rw [hxo]; rfl)
          unfold Out1 at oy
          rw [hyo] at oy
          obtain ⟨a1, a2⟩ := load_keep e1 e2 (append_keep oy hc)
          exact ⟨h2, hy, lx _ _ _ (by unfold Out1; rw [hxo]; exact ⟨a1, a2, rfl⟩)⟩
  | e q r =>
    have := gx.e q r hxo; subst this
    cases hyo : y.op with
    | p q => exact pureY q hyo
    | bad => unfold Out1 at oy; rw [hyo] at oy; exact oy.elim
    | callv X xs => rw [hxo, hyo] at hs; cases q <;> cases hs
    | r q' => rw [hxo, hyo] at hs; cases q <;> cases q' <;> cases hs
    | call f xs d => have := gy.c f xs d hyo; subst this; rw [hxo, hyo] at hs; cases q <;> cases hs
    | e q' r =>
      have := gy.e q' r hyo; subst this
      have h3 : cls y.op = 3 := by
        rw [hxo, hyo] at hs
        rw [hyo]
        cases q <;> cases q' <;> first | rfl | cases hs
      obtain ⟨e, w1, w2, rfl, w4⟩ := rowY q' hyo h3
      have hlt := hlen h3
      have ox' := ox
      unfold Out1 at ox'
      rw [hxo] at ox'
      by_cases hx3 : cls x.op = 3
      · rw [hxo] at hx3
        obtain ⟨ex, u1, u2, u3, rfl, u5⟩ := cls3_form hx3 ox'
        rw [ent_set_ne (by omega)] at w2
        refine ⟨_, w4 hp hlt w2, lx _ _ _ ?_⟩
        unfold Out1; rw [hxo]
        rw [List.set_comm _ _ (by omega)]
        exact u5 _ (by simpa using u2) (by rw [ent_set_ne (by omega)]; exact u3)
      · rw [hxo] at hx3
        cases q <;> try (exact absurd rfl hx3)
        all_goals try (rw [hxo, hyo] at hs; cases q' <;> cases hs; done)
        obtain ⟨a1, a2, a3⟩ := append_set (e := e) ox' w2 (by omega)
        exact ⟨_, w4 hp hlt a1, lx _ _ _ (by unfold Out1; rw [hxo]; exact a3)⟩
  | call f xs d =>
    have := gx.c f xs d hxo; subst this
    cases hyo : y.op with
    | p q => exact pureY q hyo
    | bad => unfold Out1 at oy; rw [hyo] at oy; exact oy.elim
    | callv X xs => rw [hxo, hyo] at hs; cases hs
    | r q' => rw [hxo, hyo] at hs; cases q' <;> cases hs
    | call f xs d => have := gy.c f xs d hyo; subst this; rw [hxo, hyo] at hs; cases hs
    | e q' r =>
      have := gy.e q' r hyo; subst this
      have h3 : cls y.op = 3 := by
        rw [hxo, hyo] at hs
        rw [hyo]
        cases q' <;> first | rfl | cases hs
      obtain ⟨e, w1, w2, rfl, w4⟩ := rowY q' hyo h3
      have hlt := hlen h3
      have ox' := ox
      unfold Out1 at ox'
      rw [hxo] at ox'
      obtain ⟨hg, hd⟩ := ox'
      obtain ⟨hgr, hfm⟩ := hd rfl
      have hF := hfm (hf (by rw [hxo]; rfl) h3)
      have h0 : ent hp (base + j) = none := by
        cases hh : ent hp (base + j) with
        | none => rfl
        | some e' => obtain ⟨e2, h'⟩ := hgr.still _ _ hh; rw [h'] at w2; cases w2
      refine ⟨_, w4 hp hlt h0, lx _ _ _ ?_⟩
      unfold Out1; rw [hxo]
      have hlt1 : base + j < h1.length := Nat.lt_of_lt_of_le hlt hgr.len
      have e1 : ∀ k, ent (hp.set (base + j) (some e)) k = if k = base + j then some e else ent hp k := fun k => by
        by_cases hk : k = base + j
        · subst hk; unfold ent; simp [hlt]
        · rw [if_neg hk, ent_set_ne hk]
      have e2 : ∀ k, ent (h1.set (base + j) (some e)) k = if k = base + j then some e else ent h1 k := fun k => by
        by_cases hk : k = base + j
        · subst hk; unfold ent; simp [hlt1]
        · rw [if_neg hk, ent_set_ne hk]
      refine ⟨hF [(base + j, e)] (fun p hp => by simp at hp; subst hp; exact ⟨h0, hlt, w1⟩), fun _ => ⟨⟨by simpa using hgr.len, fun id en hid => ?_, fun id en hid hno => ?_, fun id hl hid => ?_⟩, fun _ L hL => ?_⟩⟩
      · rw [e1] at hid; rw [e2]
        split at hid
        · rename_i hk; rw [if_pos hk]; exact ⟨e, rfl⟩
        · rename_i hk; rw [if_neg hk]; exact hgr.still id en hid
      · rw [e1] at hid; rw [e2]
        split at hid
        · rename_i hk; rw [if_pos hk]; cases hid; exact ⟨e.wr, rfl⟩
        · rename_i hk; rw [if_neg hk]; exact hgr.some id en hid hno
      · rw [e1] at hid; rw [e2]
        split at hid
        · cases hid
        · rename_i hk; rw [if_neg hk]; exact hgr.none id (by simpa using hl) hid
      · refine hF ((base + j, e) :: L) fun p hp => ?_
        rcases List.mem_cons.1 hp with rfl | hp
        · exact ⟨h0, hlt, w1⟩
        · obtain ⟨l1, l2, l3⟩ := hL p hp
          rw [e1] at l1
          split at l1
          · cases l1
          · exact ⟨l1, by simpa using l2, l3⟩
/-- A call that looks at no rows. -/
theorem framed_of {f : FuncId} {xs : List AV} (h : ∀ H, Gen P f xs H v H) : Framed P f xs hp v hp := fun L _ => h _
end
end Go.Pv
