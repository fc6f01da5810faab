/-
  The machine of plain values, 21: a statement whose order is open.
-/
import Derived.Test.YtabenkmiojjiiaaPvS
namespace Go.Pv
def Chain (P : Program) (base : Nat) : List Op2 → St → St → Prop
  | [], σ, σ' => σ = σ'
  | o :: r, σ, σ' => ∃ v hp', Out P base o σ.fr σ.hp v hp' ∧ Chain P base r ⟨putO σ.fr o.dst v, hp'⟩ σ'
section
variable {P : Program} {base : Nat} {n : Nat} {k : Bool} {γ0 γ : Gh} {w0 w : World} {σ : St} {a : Act}
theorem chain_of : ∀ (l : List Op2) (σ : St) (K : St → Prop), awOps P base l σ K → ∃ σ', Chain P base l σ σ' ∧ K σ'
  | [], σ, K, h => ⟨σ, rfl, h⟩
  | o :: l, σ, K, h => by
    obtain ⟨v, hp', h1, h2⟩ := aw2_out.1 h
    obtain ⟨σ', h3, h4⟩ := chain_of l _ K h2
    exact ⟨σ', ⟨v, hp', h1, h3⟩, h4⟩
theorem put_comm (fr : Fr) {d e : Nat} (h : d ≠ e) (x y : AV) : put (put fr d x) e y = put (put fr e y) d x := by
  induction fr with
  | nil =>
    simp only [put]
    rcases Nat.lt_trichotomy d e with h1 | h1 | h1
    · rw [if_neg h, if_neg (by omega), if_neg (fun h' => h h'.symm), if_pos h1]
    · exact absurd h1 h
    · rw [if_neg h, if_pos h1, if_neg (fun h' => h h'.symm), if_neg (by omega)]
  | cons p r ih =>
    obtain ⟨q, z⟩ := p
    have h' : ¬ e = d := fun h' => h h'.symm
    by_cases h1 : q = d
    · subst h1
      rcases Nat.lt_trichotomy q e with h2 | h2 | h2
      · simp [put, h, show ¬ e < q by omega]
      · exact absurd h2 h
      · simp [put, h, h', h2]; omega
    · by_cases h2 : q = e
      · subst h2
        by_cases h3 : d < q
        · simp [put, h1, h, h3]; omega
        · simp [put, h1, h3]
      · by_cases h3 : d < q <;> by_cases h4 : e < q
        · rcases Nat.lt_trichotomy d e with h5 | h5 | h5
          · simp [put, h1, h2, h3, h4, h, h', h5, show ¬ e < d by omega]
          · exact absurd h5 h
          · simp [put, h1, h2, h3, h4, h, h', h5, show ¬ d < e by omega]
        · simp [put, h1, h2, h3, h4, h, show ¬ e < d by omega]
        · simp [put, h1, h2, h3, h4, h', show ¬ d < e by omega]
        · simp [put, h1, h2, h3, h4, ih]
theorem putO_comm (fr : Fr) {d e : Option Nat} (h : ∀ t, d = some t → e ≠ some t) (x y : AV) : putO (putO fr d x) e y = putO (putO fr e y) d x := by
  cases d with
  | none => rfl
  | some d =>
    cases e with
    | none => rfl
    | some e => exact put_comm fr (fun h' => h d rfl (by rw [h'])) x y
theorem get_putO {fr : Fr} {d : Option Nat} {x : AV} {t : Nat} (h : d ≠ some t) : get (putO fr d x) t = get fr t := by
  cases d with
  | none => rfl
  | some d => simp only [putO, get_put]; rw [if_neg (fun h' => h (by rw [h']))]
theorem apart_spec {x y : Op2} (h : apart2 x y = true) : (∀ d, x.dst = some d → d ∉ y.looks) ∧ (∀ d, x.dst = some d → y.dst ≠ some d) ∧ (∀ d, y.dst = some d → d ∉ x.looks) := by
  unfold apart2 at h
  simp only [Bool.and_eq_true] at h
  refine ⟨fun d hd => ?_, fun d hd => ?_, fun d hd => ?_⟩
  · rw [hd] at h; simp at h; exact h.1.1
  · rw [hd] at h; simp at h; exact h.1.2
  · have := h.2; rw [hd] at this; simpa using this
theorem looks_same {o : Op2} {fr : Fr} {d : Option Nat} {x : AV} (h : ∀ t, d = some t → t ∉ o.looks) : ∀ t ∈ o.looks, get (putO fr d x) t = get fr t := fun t ht => get_putO fun hd => h t hd ht
/-- Two neighbours change places. -/
theorem chain_swap {x y : Op2} {i j : Nat} {r : List Op2} {σ' : St} (gx : Good x i) (gy : Good y j) (hij : i ≠ j) (hs : swapOk x y = true) (hlen : cls y.op = 3 → base + j < σ.hp.length) (h : Chain P base (x :: y :: r) σ σ') : Chain P base (y :: x :: r) σ σ' := by
  obtain ⟨vx, h1, ox, vy, h2, oy, hr⟩ := h
  simp only [swapOk, Bool.and_eq_true] at hs
  obtain ⟨⟨⟨hs1, hs2⟩, hs3, hs4⟩, hs5, hs6⟩ := hs
  obtain ⟨a1, a2, a3⟩ := apart_spec hs3
  have oy' := out_congr (looks_same (fr := σ.fr) (x := vx) a1) oy
  obtain ⟨h1', ny, nx⟩ := swap_heap ox oy' gx gy hij hlen hs1 (fun c1 c2 => by simpa [c1, c2] using hs2) (fun t ht hc => by rw [ht] at hs4; simpa [hc] using hs4)
    (fun hc t ht => by rw [hc] at hs5; simp only [bne_self_eq_false, Bool.false_or, List.all_eq_true] at hs5; exact hs5 t ht)
    (fun hc => by rw [hc] at hs6; simpa using hs6)
  refine ⟨vy, h1', ny, vx, h2, out_congr (fun t ht => (looks_same (fr := σ.fr) (x := vy) a3 t ht).symm) nx, ?_⟩
  rw [← putO_comm σ.fr a2]
  exact hr
theorem append_len {t : TypeId} {sz : Nat} {X Y : AX} {i : Nat} {fr : Fr} {hp h1 : Hp} {v : AV} (h : evE base (some i) fr hp (.append t sz X Y) = some (v, h1)) : hp.length ≤ h1.length := by
  have row : ∀ (hq : Hp) (es : List AV), newVec base (some i) hq sz t es = some (v, h1) → h1.length = hq.length := by
    intro hq es h
    unfold newVec new at h
    dsimp only at h
    split at h
    · simp only [Option.map_some, Option.some.injEq, Prod.mk.injEq] at h
      obtain ⟨rfl, rfl⟩ := h
      simp
    · cases h
  simp only [evE] at h
  split at h
  case isFalse => cases h
  obtain ⟨ys, hys, h⟩ := Option.bind_eq_some_iff.1 h
  generalize X.ev fr = XX at h
  cases XX <;> try (cases h; done)
  · rename_i sz' es full
    cases es with
    | nil =>
      cases full with
      | false => cases h
      | true =>
        dsimp only at h
        split at h
        · exact Nat.le_of_eq (row _ _ h).symm
        · cases h
    | cons a es =>
      cases full with
      | false => cases h
      | true =>
        dsimp only at h
        split at h
        · exact Nat.le_of_eq (row _ _ h).symm
        · split at h
          · simp only [Option.some.injEq, Prod.mk.injEq] at h
            obtain ⟨_, rfl⟩ := h; exact Nat.le_refl _
          · cases h
  · dsimp only at h
    obtain ⟨en, he, h⟩ := Option.bind_eq_some_iff.1 h
    split at h
    · have := row _ _ h; rw [List.length_set] at this; omega
    · split at h
      · simp only [Option.some.injEq, Prod.mk.injEq] at h
        obtain ⟨_, rfl⟩ := h; simp
      · cases h
theorem out_len {x : Op2} {i : Nat} {fr : Fr} {hp h1 : Hp} {v : AV} (gx : Good x i) (h : Out P base x fr hp v h1) : hp.length ≤ h1.length := by
  rcases out_cases h with ⟨_, rfl⟩ | ⟨h, _⟩
  · exact Nat.le_refl _
  unfold Out1 at h
  cases hxo : x.op with
  | p q => rw [hxo] at h; rw [h.2]; exact Nat.le_refl _
  | r q => rw [hxo] at h; rw [h.2.2]; exact Nat.le_refl _
  | bad => rw [hxo] at h; exact h.elim
  | callv X xs =>
    rw [hxo] at h
    dsimp only at h
    generalize X.ev fr = g at h
    cases g <;> try exact h.elim
    exact h.2
  | call f xs d => have := gx.c f xs d hxo; subst this; rw [hxo] at h; exact (h.2 rfl).1.len
  | e q r =>
    have := gx.e q r hxo; subst this
    rw [hxo] at h
    by_cases h3 : cls (.e q (some i)) = 3
    · obtain ⟨e, _, _, _, rfl, _⟩ := cls3_form h3 h; simp
    · cases q <;> try (exact absurd rfl h3)
      · simp only [evE] at h
        split at h
        · obtain ⟨e, he, h⟩ := Option.bind_eq_some_iff.1 h
          split at h
          · obtain ⟨y, hy, h⟩ := Option.bind_eq_some_iff.1 h
            obtain ⟨y', hy', h⟩ := Option.map_eq_some_iff.1 h
            simp only [Prod.mk.injEq] at h
            obtain ⟨_, rfl⟩ := h; simp
          · cases h
        · cases h
      · exact append_len h
      · simp only [evE] at h
        split at h
        · obtain ⟨ys, hys, h⟩ := Option.bind_eq_some_iff.1 h
          split at h
          · obtain ⟨e, he, h⟩ := Option.bind_eq_some_iff.1 h
            split at h
            · simp only [Option.some.injEq, Prod.mk.injEq] at h; obtain ⟨_, rfl⟩ := h; simp
            · cases h
          · simp only [Option.some.injEq, Prod.mk.injEq] at h; obtain ⟨_, rfl⟩ := h; exact Nat.le_refl _
          · cases h
        · cases h
      · simp only [evE] at h
        split at h
        · obtain ⟨e, he, h⟩ := Option.bind_eq_some_iff.1 h
          split at h
          · simp only [Option.some.injEq, Prod.mk.injEq] at h; obtain ⟨_, rfl⟩ := h; simp
          · cases h
        · simp only [Option.some.injEq, Prod.mk.injEq] at h; obtain ⟨_, rfl⟩ := h; exact Nat.le_refl _
        · cases h
      · simp only [evE] at h
        split at h
        · obtain ⟨e, he, h⟩ := Option.bind_eq_some_iff.1 h
          split at h
          · simp only [Option.some.injEq, Prod.mk.injEq] at h; obtain ⟨_, rfl⟩ := h; exact Nat.le_refl _
          · cases h
        · cases h
theorem chain_move {C : Nat → Op2} {y : Nat} {v : List Nat} {σ' : St} (gC : ∀ i, Good (C i) i) : ∀ (u : List Nat) (σ : St), (∀ x ∈ u, x ≠ y ∧ swapOk (C x) (C y) = true) → (cls (C y).op = 3 → base + y < σ.hp.length) → Chain P base ((u ++ y :: v).map C) σ σ' → Chain P base ((y :: (u ++ v)).map C) σ σ'
  | [], σ, _, _, h => h
  | x :: u, σ, hu, hl, h => by
    obtain ⟨vx, h1, ox, hr⟩ := h
    obtain ⟨hne, hsw⟩ := hu x (by simp)
    have hr' := chain_move gC u _ (fun z hz => hu z (by simp [hz])) (fun hc => Nat.lt_of_lt_of_le (hl hc) (out_len (gC x) ox)) hr
    exact chain_swap (r := (u ++ v).map C) (gC x) (gC y) hne hsw hl ⟨vx, h1, ox, hr'⟩
end
end Go.Pv
