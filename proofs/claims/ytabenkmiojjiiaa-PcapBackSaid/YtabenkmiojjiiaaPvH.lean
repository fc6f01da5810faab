/-
  The machine of plain values, 8: rows that are made, and rows that are written: what stays as it was.
-/
import Derived.Test.YtabenkmiojjiiaaPvG
import Derived.Deep.AppendSrc
import Derived.Laws.MakeOwn
import Derived.Lib.ConvBytes
import Derived.Lib.SlBytesConst
namespace Go.Pv
section
variable {P : Program} {w w' : World} {γ γ' : Gh} {H H' : Hp}
/-- What stays: the world of before, seen from behind. -/
structure Old (γ : Gh) (w w' : World) : Prop where
  os : w'.os = w.os
  tape : w'.tape = w.tape
  output : w'.output = w.output
  size : w.heap.size ≤ w'.heap.size
  keep : ∀ b, b < w.heap.size → ¬ γ.owns b → w'.heap[b]? = w.heap[b]?
theorem hrel_change (hh : HRel γ H w) (ho : Old γ w w') (himm : γ'.imm = γ.imm) (hids : Ids γ γ')
    (hown : ∀ b, γ'.owns b → γ.owns b ∨ w.heap.size ≤ b)
    (hinj : ∀ id id' ge ge' b, γ'.m id = some ge → γ'.m id' = some ge' → ge.st ≠ 0 → ge'.st ≠ 0 → ge.blk = some b → ge'.blk = some b → id = id')
    (hstl : ∀ id ge, γ'.m id = some ge → ge.st = 1 → γ.m id = some ge)
    (hent : ∀ id, (ent H' id = ent H id ∧ γ'.m id = γ.m id ∧ ∀ ge g, γ.m id = some ge → ge.st ≠ 0 → ge.blk = some g → w'.heap[g]? = w.heap[g]?) ∨
      ∃ e ge, ent H' id = some e ∧ γ'.m id = some ge ∧ (Adv γ γ' w w' → EntOk w' γ' e ge)) : HRel γ' H' w' ∧ Step γ γ' w w' := by
  have hs : Step γ γ' w w' := ⟨ho.os, ho.tape, ho.output, ho.size, ho.keep, hown, fun b hb => by rw [himm]; exact hb, fun b hb => .inl (by rw [himm] at hb; exact hb)⟩
  have ha : Adv γ γ' w w' := hs.adv hids hh.imm
  refine ⟨⟨?_, ?_, hinj, ?_, fun id ge b h1 h2 h3 => by rw [himm]; exact hh.stl id ge b (hstl id ge h1 h2) h2 h3⟩, hs⟩
  · intro id hid
    rcases hent id with ⟨h1, h2, _⟩ | ⟨e, ge, h1, _⟩
    · rw [h2]; exact hh.none id (h1 ▸ hid)
    · rw [h1] at hid; cases hid
  · intro id e hid
    rcases hent id with ⟨h1, h2, h3⟩ | ⟨e', ge, h1, h2, h3⟩
    · obtain ⟨ge, hm, hok⟩ := hh.ok id e (h1 ▸ hid)
      exact ⟨ge, by rw [h2]; exact hm, hok.adv ha fun g hst hg => h3 ge g hm hst hg⟩
    · rw [h1] at hid; cases hid
      exact ⟨ge, h2, h3 ha⟩
  · intro b hb
    rw [himm] at hb
    obtain ⟨h1, h2⟩ := hh.imm b hb
    exact ⟨Nat.lt_of_lt_of_le h1 ho.size, fun h => (hown b h).elim h2 (fun h => by omega)⟩

def Gh.add (γ : Gh) (id : Nat) (ge : GE) : Gh := ⟨fun i => if i = id then some ge else γ.m i, γ.imm⟩
theorem Gh.add_same (γ : Gh) (id : Nat) (ge : GE) : (γ.add id ge).m id = some ge := if_pos rfl
theorem Gh.add_other (γ : Gh) (id : Nat) (ge : GE) {i : Nat} (h : i ≠ id) : (γ.add id ge).m i = γ.m i := if_neg h
theorem ent_set {id : Nat} {e e' : Ent} (h : ent H id = some e) (j : Nat) : ent (H.set id (some e')) j = if j = id then some e' else ent H j := by
  have hlt := ent_lt h
  unfold ent
  by_cases hj : j = id
  · subst hj; simp [hlt]
  · rw [if_neg hj, List.getElem?_set_ne (fun h => hj h.symm)]
theorem new_ent {base : Nat} {r : Option Nat} {e : Ent} {id : Nat} (h : new base r H e = some (id, H')) : ent H id = none ∧ ∀ j, ent H' j = if j = id then some e else ent H j := by
  cases r with
  | none =>
    simp only [new, Option.some.injEq, Prod.mk.injEq] at h
    obtain ⟨rfl, rfl⟩ := h
    refine ⟨by simp [ent], fun j => ?_⟩
    unfold ent
    by_cases hj : j = H.length
    · subst hj; simp
    · rw [if_neg hj]
      rcases Nat.lt_or_ge j H.length with h' | h'
      · rw [List.getElem?_append_left h']
      · rw [List.getElem?_eq_none h', List.getElem?_eq_none (by simp; omega)]
  | some k =>
    simp only [new] at h
    split at h
    · rename_i hk
      simp only [Option.some.injEq, Prod.mk.injEq] at h
      obtain ⟨rfl, rfl⟩ := h
      refine ⟨by simpa using hk.2, fun j => ?_⟩
      unfold ent
      by_cases hj : j = base + k
      · subst hj; simp [hk.1]
      · rw [if_neg hj, List.getElem?_set_ne (fun h => hj h.symm)]
    · cases h
theorem Gh.add_ids {id : Nat} {ge : GE} (h : γ.m id = none ∨ ∃ st, γ.m id = some { ge with st := st }) : Ids γ (γ.add id ge) := fun i ge' hi => by
  by_cases e : i = id
  · subst e
    rcases h with h | ⟨st, h⟩
    · rw [h] at hi; cases hi
    · rw [h] at hi; cases hi
      exact ⟨ge.st, Gh.add_same _ _ _⟩
  · exact ⟨ge'.st, by rw [Gh.add_other _ _ _ e]; exact hi⟩
/-- A new row. -/
theorem hrel_new (hh : HRel γ H w) {base : Nat} {r : Option Nat} {e : Ent} {id : Nat} (hn : Pv.new base r H e = some (id, H')) {ge : GE} (hst : ge.st = 2) (ho : Old γ w w') (hk : ∀ b, b < w.heap.size → w'.heap[b]? = w.heap[b]?)
    (hb : ∀ g, ge.blk = some g → w.heap.size ≤ g) (hok : Adv γ (γ.add id ge) w w' → EntOk w' (γ.add id ge) e ge) : HRel (γ.add id ge) H' w' ∧ Step γ (γ.add id ge) w w' ∧ Ids γ (γ.add id ge) := by
  obtain ⟨h0, h1⟩ := new_ent hn
  have hm := hh.none id h0
  have hids := Gh.add_ids (ge := ge) (.inl hm)
  have hc := hrel_change (γ' := γ.add id ge) (H' := H') hh ho rfl hids ?_ ?_ ?_ ?_
  · exact ⟨hc.1, hc.2, hids⟩
  · rintro b ⟨i, ge', hi, hst', hb'⟩
    by_cases e : i = id
    · subst e
      rw [Gh.add_same] at hi; cases hi
      exact .inr (hb b hb')
    · rw [Gh.add_other _ _ _ e] at hi
      exact .inl ⟨i, ge', hi, hst', hb'⟩
  · intro i j ge1 ge2 b hi hj hs1 hs2 hb1 hb2
    by_cases ei : i = id <;> by_cases ej : j = id
    · omega
    · subst ei
      rw [Gh.add_same] at hi; cases hi
      rw [Gh.add_other _ _ _ ej] at hj
      have := hh.blkLt hj hs2 hb2
      have := hb b hb1
      omega
    · subst ej
      rw [Gh.add_same] at hj; cases hj
      rw [Gh.add_other _ _ _ ei] at hi
      have := hh.blkLt hi hs1 hb1
      have := hb b hb2
      omega
    · rw [Gh.add_other _ _ _ ei] at hi
      rw [Gh.add_other _ _ _ ej] at hj
      exact hh.inj i j ge1 ge2 b hi hj hs1 hs2 hb1 hb2
  · intro i x hi hs
    by_cases e : i = id
    · subst e
      rw [Gh.add_same] at hi; cases hi
      rw [hst] at hs; cases hs
    · rw [Gh.add_other _ _ _ e] at hi; exact hi
  · intro i
    by_cases e : i = id
    · subst e
      exact .inr ⟨_, ge, by rw [h1, if_pos rfl], Gh.add_same _ _ _, hok⟩
    · exact .inl ⟨by rw [h1, if_neg e], Gh.add_other _ _ _ e, fun ge' g hm' hst' hg => hk g (hh.blkLt hm' hst' hg)⟩
/-- A row that is written. -/
theorem hrel_upd (hh : HRel γ H w) {id g : Nat} {e e' : Ent} {ge : GE} (he : ent H id = some e) (hm : γ.m id = some ge) (hst : ge.st = 2) (hg : ge.blk = some g) (ho : Old γ w w') (hk : ∀ b, b ≠ g → w'.heap[b]? = w.heap[b]?)
    (hok : Adv γ γ w w' → EntOk w' γ e' ge) : HRel γ (H.set id (some e')) w' ∧ Step γ γ w w' := by
  refine hrel_change (γ' := γ) hh ho rfl (Ids.refl γ) (fun b h => .inl h) hh.inj (fun _ _ h _ => h) fun i => ?_
  by_cases ei : i = id
  · subst ei
    exact .inr ⟨e', ge, by rw [ent_set he, if_pos rfl], hm, hok⟩
  · refine .inl ⟨by rw [ent_set he, if_neg ei], rfl, fun ge' g' hm' hst' hg' => hk g' fun e => ei ?_⟩
    subst e
    exact hh.inj i id ge' ge _ hm' hm hst' (by rw [hst]; decide) hg' hg
/-- A row that is taken up by a new one. -/
theorem hrel_renew (hh : HRel γ H w) {base : Nat} {r : Option Nat} {id id' : Nat} {e e' : Ent} {ge ge' : GE} (he : ent H id = some e) (hm : γ.m id = some ge) (hst : ge.st = 2)
    (hn : Pv.new base r (H.set id (some { e with es := [], wr := false })) e' = some (id', H')) (hst' : ge'.st = 2) (ho : Old γ w w') (hk : ∀ b, b < w.heap.size → (ge.blk ≠ some b ∨ ge'.blk ≠ some b) → w'.heap[b]? = w.heap[b]?)
    (hb : ∀ g, ge'.blk = some g → w.heap.size ≤ g ∨ ge.blk = some g)
    (hok : Adv γ ((γ.add id { ge with st := 0 }).add id' ge') w w' → EntOk w' ((γ.add id { ge with st := 0 }).add id' ge') e' ge') :
    HRel ((γ.add id { ge with st := 0 }).add id' ge') H' w' ∧ Step γ ((γ.add id { ge with st := 0 }).add id' ge') w w' ∧ Ids γ ((γ.add id { ge with st := 0 }).add id' ge') := by
  obtain ⟨h0, h1⟩ := new_ent hn
  have hne : id' ≠ id := by
    rintro rfl
    rw [ent_set he, if_pos rfl] at h0
    cases h0
  have h0' : ent H id' = none := by rw [ent_set he, if_neg hne] at h0; exact h0
  have hm' := hh.none id' h0'
  have hids1 : Ids γ (γ.add id { ge with st := 0 }) := Gh.add_ids (.inr ⟨ge.st, hm⟩)
  have hids2 : Ids (γ.add id { ge with st := 0 }) ((γ.add id { ge with st := 0 }).add id' ge') := Gh.add_ids (.inl (by rw [Gh.add_other _ _ _ hne]; exact hm'))
  have hids := hids1.trans hids2
  have look : ∀ i x, ((γ.add id { ge with st := 0 }).add id' ge').m i = some x → x.st ≠ 0 → (i = id' ∧ x = ge') ∨ (i ≠ id' ∧ i ≠ id ∧ γ.m i = some x) := by
    intro i x hx hs
    by_cases e1 : i = id'
    · subst e1; rw [Gh.add_same] at hx; cases hx; exact .inl ⟨rfl, rfl⟩
    · rw [Gh.add_other _ _ _ e1] at hx
      by_cases e2 : i = id
      · subst e2; rw [Gh.add_same] at hx; cases hx; exact absurd rfl hs
      · rw [Gh.add_other _ _ _ e2] at hx; exact .inr ⟨e1, e2, hx⟩
  have hst2 : ge.st ≠ 0 := by rw [hst]; decide
  have hc := hrel_change (γ' := (γ.add id { ge with st := 0 }).add id' ge') (H' := H') hh ho rfl hids ?_ ?_ ?_ ?_
  · exact ⟨hc.1, hc.2, hids⟩
  · rintro b ⟨i, x, hi, hs, hb'⟩
    rcases look i x hi (by rw [hs]; decide) with ⟨_, rfl⟩ | ⟨_, _, hx⟩
    · rcases hb b hb' with h | h
      · exact .inr h
      · exact .inl ⟨id, ge, hm, hst, h⟩
    · exact .inl ⟨i, x, hx, hs, hb'⟩
  · intro i j x y b hi hj hx hy hbx hby
    rcases look i x hi hx with ⟨rfl, rfl⟩ | ⟨i1, i2, hi'⟩ <;> rcases look j y hj hy with ⟨rfl, rfl⟩ | ⟨j1, j2, hj'⟩
    · rfl
    · rcases hb b hbx with h | h
      · have := hh.blkLt hj' hy hby; omega
      · exact absurd (hh.inj j id y ge b hj' hm hy hst2 hby h) j2
    · rcases hb b hby with h | h
      · have := hh.blkLt hi' hx hbx; omega
      · exact absurd (hh.inj i id x ge b hi' hm hx hst2 hbx h) i2
    · exact hh.inj i j x y b hi' hj' hx hy hbx hby
  · intro i x hi hs
    rcases look i x hi (by rw [hs]; decide) with ⟨_, rfl⟩ | ⟨_, _, hx⟩
    · rw [hst'] at hs; cases hs
    · exact hx
  · intro i
    by_cases e1 : i = id'
    · subst e1
      exact .inr ⟨e', ge', by rw [h1, if_pos rfl], Gh.add_same _ _ _, hok⟩
    · by_cases e2 : i = id
      · subst e2
        refine .inr ⟨_, { ge with st := 0 }, by rw [h1, if_neg e1, ent_set he, if_pos rfl], by rw [Gh.add_other _ _ _ e1, Gh.add_same], fun _ => .inl ⟨rfl, rfl, rfl⟩⟩
      · refine .inl ⟨by rw [h1, if_neg e1, ent_set he, if_neg e2], by rw [Gh.add_other _ _ _ e1, Gh.add_other _ _ _ e2], fun x g hx hs hg => hk g (hh.blkLt hx hs hg) (.inl fun hg' => e2 ?_)⟩
        exact hh.inj i id x ge g hx hm hs hst2 hg hg'

/-! ### Cells of rows -/
/-- cs begins with the cells of es. -/
def RowC (w : World) (γ : Gh) (sz : Nat) (es : List AV) (cs : List Value) : Prop :=
  ∀ (i : Nat) (x : AV), es[i]? = some x → x.flat.length = sz ∧ ∀ (j : Nat) (y : AV), x.flat[j]? = some y → ∃ u, cs[i * sz + j]? = some u ∧ u.oneCell' = true ∧ Sim w γ y u
theorem RowC.adv {sz : Nat} {es : List AV} {cs : List Value} (h : RowC w γ sz es cs) (a : Adv γ γ' w w') : RowC w' γ' sz es cs := fun i x hx => ⟨(h i x hx).1, fun j y hy => by
  obtain ⟨u, h1, h2, h3⟩ := (h i x hx).2 j y hy
  exact ⟨u, h1, h2, h3.adv a⟩⟩
theorem RowC.more {sz : Nat} {es : List AV} {cs : List Value} (h : RowC w γ sz es cs) (ds : List Value) : RowC w γ sz es (cs ++ ds) := fun i x hx => ⟨(h i x hx).1, fun j y hy => by
  obtain ⟨u, h1, h2, h3⟩ := (h i x hx).2 j y hy
  exact ⟨u, by rw [List.getElem?_append_left (List.getElem?_eq_some_iff.1 h1).1]; exact h1, h2, h3⟩⟩
theorem RowC.app {sz : Nat} {es fs : List AV} {cs ds : List Value} (h : RowC w γ sz es cs) (k : RowC w γ sz fs ds) (hl : cs.length = es.length * sz) : RowC w γ sz (es ++ fs) (cs ++ ds) := by
  intro i x hx
  rcases Nat.lt_or_ge i es.length with hi | hi
  · rw [List.getElem?_append_left hi] at hx
    exact h.more ds i x hx
  · rw [List.getElem?_append_right hi] at hx
    refine ⟨(k _ x hx).1, fun j y hy => ?_⟩
    obtain ⟨u, h1, h2, h3⟩ := (k _ x hx).2 j y hy
    refine ⟨u, ?_, h2, h3⟩
    have e : i * sz + j = es.length * sz + ((i - es.length) * sz + j) := by
      rw [← Nat.add_assoc, ← Nat.add_mul]; congr 2; omega
    rw [e, List.getElem?_append_right (by omega), hl]
    rw [Nat.add_sub_cancel_left]; exact h1
theorem RowC.ok {sz C g : Nat} {ty : TypeId} {es : List AV} {cs : Array Value} {fz : Nat × Nat} (h : RowC w γ sz es cs.toList) (hw : w.heap[g]? = some (.cells cs ty fz)) (hs : cs.size = C * sz) (hfz : fz.1 = fz.2 ∨ cs.size ≤ fz.1) (hle : es.length ≤ C) :
    EntOk w γ ⟨ty, es, true⟩ ⟨some g, sz, C, 2⟩ :=
  .inr ⟨rfl, .inr ⟨g, cs, fz, rfl, hw, hs, hfz, hle, fun i x hx => ⟨(h i x hx).1, fun j y hy => by
    obtain ⟨u, h1, h2, h3⟩ := (h i x hx).2 j y hy
    exact ⟨u, by simpa using h1, h2, h3⟩⟩⟩⟩
theorem old_alloc (γ : Gh) (w : World) (o : Obj) : Old γ w (w.alloc o) := ⟨rfl, rfl, rfl, by simp, fun b hb _ => heap_alloc_old w o hb⟩
/-- What an operation that makes or writes memory does. -/
def EffV (P : Program) (γ : Gh) (w : World) (s : Sem Value) (x : AV) (H' : Hp) : Prop :=
  ∃ v w' γ', s.run P w = .ok v w' ∧ Sim w' γ' x v ∧ HRel γ' H' w' ∧ Step γ γ' w w' ∧ Ids γ γ'
end
end Go.Pv
