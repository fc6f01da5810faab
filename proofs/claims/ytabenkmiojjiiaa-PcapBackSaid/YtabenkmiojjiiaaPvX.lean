/-
  The machine of plain values, 23: any order leads to the same end.
-/
import Derived.Test.YtabenkmiojjiiaaPvW
set_option linter.unusedVariables false
set_option linter.unusedSimpArgs false
namespace Go.Pv
section
variable {P : Program} {base : Nat} {n : Nat} {k : Bool} {γ0 γ : Gh} {w0 w : World} {σ : St} {a : Act} {ops : Array Oper}
def unl (listed : Array Bool) (l : List Nat) : List Nat := l.filter fun i => !listed.getD i true
theorem ready_spec {listed : Array Bool} {i : Nat} : i ∈ Region.ready .any ops listed ↔ i < ops.size ∧ listed.getD i true = false ∧ ∃ o, ops[i]? = some o ∧ ∀ e ∈ o.after.toList, Region.binds .any e = true → listed.getD e.on false = true := by
  unfold Region.ready
  rw [List.mem_filter]
  constructor
  · rintro ⟨h1, h2⟩
    simp only [Bool.and_eq_true, Bool.not_eq_true'] at h2
    have hi : i < ops.size := by simpa using h1
    refine ⟨hi, h2.1, ops[i], Array.getElem?_eq_getElem hi, fun e he hb => ?_⟩
    have h3 := h2.2
    rw [Array.getElem?_eq_getElem hi] at h3
    simp only [Option.map_some, Option.getD_some] at h3
    have := (Array.all_eq_true_iff_forall_mem.1 h3) e (by simpa using he)
    simpa [hb] using this
  · rintro ⟨h1, h2, o, h3, h4⟩
    refine ⟨by simpa using h1, ?_⟩
    simp only [Bool.and_eq_true, Bool.not_eq_true']
    refine ⟨h2, ?_⟩
    rw [h3]
    simp only [Option.map_some, Option.getD_some]
    rw [Array.all_eq_true_iff_forall_mem]
    intro e he
    cases hb : Region.binds .any e with
    | false => rfl
    | true => simpa [hb] using h4 e (by simpa using he) hb
theorem ready1_spec {did i : Nat} (h : ready1 ops did i = true) : did.testBit i = false ∧ ∃ o, ops[i]? = some o ∧ ∀ e ∈ o.after.toList, Region.binds .any e = true → did.testBit e.on = true := by
  unfold ready1 at h
  simp only [Bool.and_eq_true, Bool.not_eq_true'] at h
  refine ⟨h.1, ?_⟩
  have h2 := h.2
  split at h2
  · rename_i o ho
    refine ⟨o, ho, fun e he hb => ?_⟩
    have := (Array.all_eq_true_iff_forall_mem.1 h2) e (by simpa using he)
    simpa [hb] using this
  · cases h2
theorem any_sound {l : List Nat} {σend : St} {K : St → Prop} {Q : Exit → Act → World → Prop} (hfull : fullB ops l = true) (hcl : closedB ops (anc ops) = true) (hlin : linB ops (compL P ops true).toArray (anc ops) l 0 = true)
    (hd : ∀ (i : Nat) (o : Oper), ops[i]? = some o → ∀ t, o.dst = some t → t < n) (hK : K σend) (hQ : ∀ a w, Up n k γ0 w0 K a w → Q .normal a w) :
    ∀ (fuel : Nat) (listed : Array Bool) (γ : Gh) (σ : St) (a : Act) (w : World), listed.size = ops.size →
      (∀ j, listed.getD j false = true → ∀ x, ((anc ops).getD j 0).testBit x = true → listed.getD x false = true) → (unl listed l).length ≤ fuel → SR n k γ0 w0 γ σ a w → base + ops.size ≤ σ.hp.length →
      Chain P base ((unl listed l).map (opAt P ops)) σ σend → wpAny P .any ops Q fuel listed a w := by
  have hsplit : ∀ i ∈ l, ∃ u v, l = u ++ i :: v := fun i hi => List.append_of_mem hi
  have hlt : ∀ i ∈ l, i < ops.size := by
    intro i hi
    obtain ⟨u, v, rfl⟩ := hsplit i hi
    obtain ⟨h1, _⟩ := lin_spec u 0 hlin
    obtain ⟨_, o, ho, _⟩ := ready1_spec h1
    exact (Array.getElem?_eq_some_iff.1 ho).1
  have hmem : ∀ i, i < ops.size → i ∈ l := fun i hi => by
    have := List.all_eq_true.1 (Bool.and_eq_true_iff.1 hfull).2 i (by simpa using hi)
    simpa using this
  have dtrue : ∀ {listed : Array Bool}, listed.size = ops.size → ∀ i, i < ops.size → listed.getD i true = listed.getD i false := by
    intro listed hs i hi
    have : i < listed.size := by omega
    simp [Array.getD_eq_getD_getElem?, this]
  -- nothing is ready: nothing is left
  have done : ∀ (listed : Array Bool), listed.size = ops.size → Region.ready .any ops listed = [] → unl listed l = [] := by
    intro listed hs hr
    cases hu : unl listed l with
    | nil => rfl
    | cons i rest =>
      exfalso
      obtain ⟨u, v, rfl, hu1, hu2, _⟩ := List.filter_eq_cons_iff.1 hu
      obtain ⟨h1, _⟩ := lin_spec u 0 hlin
      obtain ⟨_, o, ho, hedge⟩ := ready1_spec h1
      have hi := (Array.getElem?_eq_some_iff.1 ho).1
      have : i ∈ Region.ready .any ops listed := ready_spec.2 ⟨hi, by simpa using hu2, o, ho, fun e he hb => by
        have h3 := (fold_bit u 0 e.on).1 (hedge e he hb)
        rcases h3 with h3 | h3
        · simp at h3
        · have h4 := hu1 e.on h3
          rw [← dtrue hs e.on (hlt _ (by simp [h3]))]
          simpa using h4⟩
      rw [hr] at this; cases this
  intro fuel
  induction fuel with
  | zero =>
    intro listed γ σ a w hs hc hf h hlen hch
    have hnil : unl listed l = [] := List.eq_nil_of_length_eq_zero (by omega)
    rw [hnil] at hch
    have hch' : σ = σend := hch
    refine ⟨?_, hQ a w ⟨γ, σ, h, by rw [hch']; exact hK⟩⟩
    cases hr : Region.ready .any ops listed with
    | nil => rfl
    | cons i rest =>
      exfalso
      have : i ∈ Region.ready .any ops listed := by rw [hr]; simp
      obtain ⟨hi, hl, _⟩ := ready_spec.1 this
      have : i ∈ unl listed l := List.mem_filter.2 ⟨hmem i hi, by simp only [hl]; rfl⟩
      rw [hnil] at this; cases this
  | succ fuel ih =>
    intro listed γ σ a w hs hc hf h hlen hch
    refine ⟨fun hr => ?_, fun i hi => ?_⟩
    · rw [done listed hs hr] at hch
      have hch' : σ = σend := hch
      exact hQ a w ⟨γ, σ, h, by rw [hch']; exact hK⟩
    · obtain ⟨hi1, hi2, o, ho, hedge⟩ := ready_spec.1 hi
      obtain ⟨u, v, hl⟩ := hsplit i (hmem i hi1)
      have hbi : ∀ x, ((anc ops).getD i 0).testBit x = true → listed.getD x false = true := by
        intro x hx
        obtain ⟨e, he, hb, h1 | h1⟩ := closed_spec hcl ho hx
        · rw [← h1]; exact hedge e he hb
        · exact hc e.on (hedge e he hb) x h1
      have hnotin : i ∉ u ∧ i ∉ v := by
        have hlin' := hlin
        rw [hl] at hlin'
        refine ⟨fun hu => ?_, fun hv => ?_⟩
        · have h1 := (ready1_spec (lin_spec u 0 hlin').1).1
          rw [(fold_bit u 0 i).2 (.inr hu)] at h1; cases h1
        · obtain ⟨v1, v2, rfl⟩ := List.append_of_mem hv
          have e : u ++ i :: (v1 ++ i :: v2) = (u ++ i :: v1) ++ i :: v2 := by simp
          rw [e] at hlin'
          have h1 := (ready1_spec (lin_spec (u ++ i :: v1) 0 hlin').1).1
          rw [(fold_bit (u ++ i :: v1) 0 i).2 (.inr (by simp))] at h1; cases h1
      have hunl : unl listed l = unl listed u ++ i :: unl listed v := by
        rw [hl]; unfold unl
        rw [List.filter_append, List.filter_cons_of_pos (by simp only [hi2]; rfl)]
      rw [hunl] at hch hf
      have hmv := chain_move (C := opAt P ops) (fun j => good_comp j _) (unl listed u) σ (by
        intro x hx
        obtain ⟨hxu, hxl⟩ := List.mem_filter.1 hx
        refine ⟨fun e => hnotin.1 (e ▸ hxu), ?_⟩
        obtain ⟨u1, u2, rfl⟩ := List.append_of_mem hxu
        rw [hl, List.append_assoc, List.cons_append] at hlin
        obtain ⟨_, hsw⟩ := lin_spec u1 0 hlin
        rcases hsw i (by simp) with h1 | h1
        · have hx2 := hbi x h1
          have hxs : x < ops.size := hlt x (by rw [hl]; simp)
          rw [dtrue hs x hxs, hx2] at hxl; cases hxl
        · have hxs : x < ops.size := hlt x (by rw [hl]; simp)
          unfold swapIx at h1
          rw [cs_get, cs_get, Array.getElem?_eq_getElem hxs, Array.getElem?_eq_getElem hi1] at h1
          simp only [opAt, Array.getElem?_eq_getElem hxs, Array.getElem?_eq_getElem hi1, Option.getD_some]
          exact h1) (fun _ => by omega) hch
      obtain ⟨vv, hp', ox, hr⟩ := hmv
      have hopat : opAt P ops i = comp2 P ops true i o := by unfold opAt; rw [ho]; rfl
      rw [hopat] at ox hr
      have hlen' := out_len (good_comp i o) ox
      have hw := aw2_sound (Q := Q) (K := fun σ' => base + ops.size ≤ σ'.hp.length ∧ Chain P base ((unl listed u ++ unl listed v).map (opAt P ops)) σ' σend) h ho (hd i o ho) (aw2_out.2 ⟨vv, hp', ox, by simp only; omega, hr⟩)
      refine wpOp_mono ?_ hw
      rintro a' w' ⟨γ', σ', h', hl', hch'⟩
      have hget : ∀ x d, x ≠ i → (listed.setIfInBounds i true).getD x d = listed.getD x d := fun x d hx => by
        rw [Array.getD_eq_getD_getElem?, Array.getElem?_setIfInBounds_ne (fun e => hx e.symm), ← Array.getD_eq_getD_getElem?]
      have hgeti : ∀ d, (listed.setIfInBounds i true).getD i d = true := fun d => by
        have : i < listed.size := by omega
        simp [Array.getD_eq_getD_getElem?, this]
      have hu' : unl (listed.setIfInBounds i true) l = unl listed u ++ unl listed v := by
        rw [hl]; unfold unl
        rw [List.filter_append, List.filter_cons_of_neg (by rw [hgeti]; decide)]
        congr 1
        · exact List.filter_congr fun x hx => by rw [hget x true (fun e => hnotin.1 (e ▸ hx))]
        · exact List.filter_congr fun x hx => by rw [hget x true (fun e => hnotin.2 (e ▸ hx))]
      refine ih _ γ' σ' a' w' (by simpa using hs) ?_ ?_ h' hl' (by rw [hu']; exact hch')
      · intro j hj x hx
        have key : listed.getD x false = true := by
          by_cases hji : j = i
          · subst hji; exact hbi x hx
          · rw [hget j false hji] at hj; exact hc j hj x hx
        by_cases hxi : x = i
        · subst hxi; exact hgeti false
        · rw [hget x false hxi]; exact key
      · rw [hu']; simp at hf ⊢; omega
/-- .. so it is sound. -/
theorem drawOk (hm : P.follows .mixedOrders = true) : DrawOk P n k γ0 w0 := by
  intro id ops l γ σ a w K Q hfull hcl hlin hdst h hx hQ
  have hlt : ∀ i ∈ l, i < ops.size := by
    intro i hi
    obtain ⟨u, v, rfl⟩ := List.append_of_mem hi
    obtain ⟨_, o, ho, _⟩ := ready1_spec (lin_spec u 0 hlin).1
    exact (Array.getElem?_eq_some_iff.1 ho).1
  obtain ⟨σend, hch, hK⟩ := chain_of _ _ K hx
  have hpk := pick_map (P := P) (ops := ops) l hlt
  rw [hpk] at hch hdst
  refine wp_region_any hm (any_sound (γ0 := γ0) (w0 := w0) (n := n) (k := k) (base := σ.hp.length) (K := K) hfull hcl hlin ?_ hK hQ _ _ γ ⟨σ.fr, σ.hp ++ List.replicate ops.size none⟩ a _ (by simp) ?_ ?_ ?_ (by simp) ?_)
  · intro i o ho t ht
    have hi := (Array.getElem?_eq_some_iff.1 ho).1
    have him : i ∈ l := by have := List.all_eq_true.1 (Bool.and_eq_true_iff.1 hfull).2 i (by simpa using hi); simpa using this
    have := List.all_eq_true.1 hdst (opAt P ops i) (List.mem_map.2 ⟨i, him, rfl⟩)
    simp only [opAt, ho, Option.getD_some, dstOk, comp2_dst, ht, decide_eq_true_eq] at this
    exact this
  · intro j hj
    simp [Array.getD_eq_getD_getElem?, Array.getElem?_replicate] at hj
    split at hj <;> simp at hj
  · exact Nat.le_trans (List.length_filter_le _ _) (by simpa using (Bool.and_eq_true_iff.1 hfull).1)
  · have hent : ∀ id, ent (σ.hp ++ List.replicate ops.size none) id = ent σ.hp id := by
      intro id
      unfold ent
      rcases Nat.lt_or_ge id σ.hp.length with h1 | h1
      · rw [List.getElem?_append_left h1]
      · rw [List.getElem?_append_right h1, List.getElem?_eq_none h1, List.getElem?_replicate]
        split <;> rfl
    have ad : Adv γ γ w { w with drawn := w.drawn + 1 } := ⟨Nat.le_refl _, fun b hb => ⟨hb, fun _ => rfl⟩, Ids.refl _⟩
    refine ⟨h.fr.adv ad, ⟨fun id hid => h.hp.none id (by rw [← hent]; exact hid), fun id e hid => ?_, h.hp.inj, h.hp.imm, h.hp.stl⟩, h.st.trans ⟨rfl, rfl, rfl, Nat.le_refl _, fun _ _ _ => rfl, fun _ h => .inl h, fun _ h => h, fun _ h => .inl h⟩, h.df, h.sz, h.ids⟩
    rw [hent] at hid
    obtain ⟨ge, h1, h2⟩ := h.hp.ok id e hid
    exact ⟨ge, h1, h2.adv ad fun _ _ _ => rfl⟩
  · have : unl (Array.replicate ops.size false) l = l := by
      unfold unl
      rw [List.filter_eq_self]
      intro i hi
      have := hlt i hi
      simp [Array.getD_eq_getD_getElem?, Array.getElem?_replicate, this]
    rw [this]; exact hch
end
end Go.Pv
