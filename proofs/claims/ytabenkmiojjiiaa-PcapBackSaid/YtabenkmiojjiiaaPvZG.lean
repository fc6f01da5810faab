/-
  The machine of plain values, 31: calls beside rows that are made in the same region.
-/
import Derived.Test.YtabenkmiojjiiaaPvZF
set_option linter.unusedVariables false
namespace Go.Pv
def offL (L : List (Nat × Ent)) (id : Nat) : Prop := ∀ p ∈ L, p.1 ≠ id
def noneAt (L : List (Nat × Ent)) (hp : Hp) : Prop := ∀ p ∈ L, ent hp p.1 = none ∧ p.1 < hp.length
theorem setAll_len : ∀ (L : List (Nat × Ent)) (hp : Hp), (setAll hp L).length = hp.length
  | [], _ => rfl
  | p :: L, hp => by
    show (setAll (hp.set p.1 (some p.2)) L).length = _
    rw [setAll_len L]; simp
theorem setAll_set {id : Nat} {x : Option Ent} : ∀ (L : List (Nat × Ent)) (hp : Hp), offL L id → setAll (hp.set id x) L = (setAll hp L).set id x
  | [], _, _ => rfl
  | p :: L, hp, h => by
    show setAll ((hp.set id x).set p.1 (some p.2)) L = (setAll (hp.set p.1 (some p.2)) L).set id x
    rw [List.set_comm _ _ (fun e => h p (by simp) e.symm), setAll_set L _ fun q hq => h q (by simp [hq])]
theorem setAll_app {l : Hp} : ∀ (L : List (Nat × Ent)) (hp : Hp), (∀ p ∈ L, p.1 < hp.length) → setAll (hp ++ l) L = setAll hp L ++ l
  | [], _, _ => rfl
  | p :: L, hp, h => by
    show setAll ((hp ++ l).set p.1 (some p.2)) L = setAll (hp.set p.1 (some p.2)) L ++ l
    rw [List.set_append_left _ _ (h p (by simp)), setAll_app L _ fun q hq => by simpa using h q (by simp [hq])]
theorem setAll_ent {id : Nat} : ∀ (L : List (Nat × Ent)) (hp : Hp), offL L id → ent (setAll hp L) id = ent hp id
  | [], _, _ => rfl
  | p :: L, hp, h => by
    show ent (setAll (hp.set p.1 (some p.2)) L) id = _
    rw [setAll_ent L _ fun q hq => h q (by simp [hq])]
    unfold ent
    rw [List.getElem?_set_ne (h p (by simp))]
section
variable {L : List (Nat × Ent)} {hp : Hp}
theorem noneAt.off (h : noneAt L hp) {id : Nat} {e : Ent} (he : ent hp id = some e) : offL L id := fun p hpL hid => by
  have := (h p hpL).1; rw [hid, he] at this; cases this
theorem noneAt.ent (h : noneAt L hp) {id : Nat} {e : Ent} (he : Go.Pv.ent hp id = some e) : Go.Pv.ent (setAll hp L) id = some e := by
  rw [setAll_ent L hp (h.off he), he]
theorem noneAt.set (h : noneAt L hp) {id : Nat} {e : Ent} {x : Option Ent} (he : Go.Pv.ent hp id = some e) : noneAt L (hp.set id x) := fun p hpL => by
  refine ⟨?_, by simpa using (h p hpL).2⟩
  have := h.off he p hpL
  unfold Go.Pv.ent
  rw [List.getElem?_set_ne (fun e => this e.symm)]
  exact (h p hpL).1
theorem elems_frame (h : noneAt L hp) {x : AV} {es : List AV} (hx : elems hp x = some es) : elems (setAll hp L) x = some es := by
  cases x <;> first | exact hx | skip
  simp only [elems] at hx ⊢
  obtain ⟨e, he, hx⟩ := Option.bind_eq_some_iff.1 hx
  rw [h.ent he]; exact hx
theorem mapO_frame {f g : AV → Option AV} {r s : AV → List Nat} (h : ∀ x y, f x = some y → g x = some y ∧ r x = s x) : ∀ {xs ys : List AV}, mapO f xs = some ys → mapO g xs = some ys ∧ xs.flatMap r = xs.flatMap s
  | [], _, hx => ⟨hx, rfl⟩
  | x :: xs, ys, hx => by
    simp only [mapO] at hx ⊢
    obtain ⟨y, hy, hx⟩ := Option.bind_eq_some_iff.1 hx
    obtain ⟨zs, hz, rfl⟩ := Option.map_eq_some_iff.1 hx
    obtain ⟨h1, h2⟩ := mapO_frame h hz
    obtain ⟨h3, h4⟩ := h x y hy
    simp [h1, h2, h3, h4]
theorem snap_frame (h : noneAt L hp) : ∀ (n : Nat) (x y : AV), snap hp n x = some y → snap (setAll hp L) n x = some y ∧ rows (setAll hp L) n x = rows hp n x
  | 0, _, _, hx => by cases hx
  | n + 1, x, y, hx => by
    have ih := snap_frame h n
    have ihm : ∀ xs ys : List AV, mapO (snap hp n) xs = some ys → mapO (snap (setAll hp L) n) xs = some ys ∧ xs.flatMap (rows (setAll hp L) n) = xs.flatMap (rows hp n) := fun xs ys h' => mapO_frame (f := snap hp n) (r := rows (setAll hp L) n) (s := rows hp n) (fun x y hxy => ih x y hxy) h'
    cases x <;> simp only [snap, rows] at hx ⊢ <;> try (first | exact ⟨hx, rfl⟩ | exact ⟨hx, trivial⟩)
    case vec id sz off len =>
      obtain ⟨es, hes, hx⟩ := Option.bind_eq_some_iff.1 hx
      obtain ⟨zs, hz, rfl⟩ := Option.map_eq_some_iff.1 hx
      obtain ⟨h1, h2⟩ := ihm _ _ hz
      rw [elems_frame h hes, hes]
      simp [h1, h2]
    case eptr id i off =>
      obtain ⟨e, he, hx⟩ := Option.bind_eq_some_iff.1 hx
      obtain ⟨z, hz, hx⟩ := Option.bind_eq_some_iff.1 hx
      obtain ⟨z', hz', rfl⟩ := Option.map_eq_some_iff.1 hx
      obtain ⟨h1, h2⟩ := ih _ _ hz'
      rw [h.ent he, he]
      simp [hz, h1, h2]
    case agg cs =>
      obtain ⟨zs, hz, rfl⟩ := Option.map_eq_some_iff.1 hx
      obtain ⟨h1, h2⟩ := ihm _ _ hz
      simp [h1, h2]
    case tup cs =>
      obtain ⟨zs, hz, rfl⟩ := Option.map_eq_some_iff.1 hx
      obtain ⟨h1, h2⟩ := ihm _ _ hz
      simp [h1, h2]
    case fn f cs =>
      obtain ⟨zs, hz, rfl⟩ := Option.map_eq_some_iff.1 hx
      obtain ⟨h1, h2⟩ := ihm _ _ hz
      simp [h1, h2]
    all_goals cases hx
theorem passOne_frame (h : noneAt L hp) {m : Mode} {x y : AV} {H1 : Hp} {l : List Nat} (hx : passOne hp m x = some (y, H1, l)) : passOne (setAll hp L) m x = some (y, setAll H1 L, l) ∧ noneAt L H1 := by
  cases m with
  | snap =>
    simp only [passOne] at hx ⊢
    obtain ⟨z, hz, hx⟩ := Option.map_eq_some_iff.1 hx
    simp only [Prod.mk.injEq] at hx
    obtain ⟨rfl, rfl, rfl⟩ := hx
    obtain ⟨h1, h2⟩ := snap_frame h _ _ _ hz
    rw [h1, h2]; exact ⟨rfl, h⟩
  | own sz ty =>
    cases x <;> simp only [passOne] at hx ⊢ <;> try (cases hx; done)
    case sl sz' es full =>
      cases es <;> cases full <;> simp only [reduceCtorEq, Option.some.injEq, Prod.mk.injEq] at hx ⊢
      obtain ⟨rfl, rfl, rfl⟩ := hx; exact ⟨⟨rfl, rfl, rfl⟩, h⟩
    case vec id sz' off len =>
      obtain ⟨e, he, hx⟩ := Option.bind_eq_some_iff.1 hx
      split at hx
      case isFalse => cases hx
      rename_i hc
      obtain ⟨zs, hz, hx⟩ := Option.map_eq_some_iff.1 hx
      simp only [Prod.mk.injEq] at hx
      obtain ⟨rfl, rfl, rfl⟩ := hx
      obtain ⟨h1, h2⟩ := mapO_frame (f := snap hp deep) (g := snap (setAll hp L) deep) (r := rows (setAll hp L) deep) (s := rows hp deep) (fun x y hxy => snap_frame h _ x y hxy) hz
      rw [h.ent he, setAll_set L hp (h.off he)]
      refine ⟨?_, h.set he⟩
      simp only [Option.bind_some, if_pos hc, h1, h2, Option.map_some]
  | nil sz full =>
    cases x <;> simp only [passOne] at hx ⊢ <;> try (cases hx; done)
    case sl sz' es full' =>
      cases es <;> simp only [reduceCtorEq] at hx ⊢
      split at hx
      case isFalse => cases hx
      rename_i hc
      simp only [Option.some.injEq, Prod.mk.injEq] at hx
      obtain ⟨rfl, rfl, rfl⟩ := hx
      rw [if_pos hc]; exact ⟨rfl, h⟩
    case vec id sz' off len =>
      split at hx
      case isFalse => cases hx
      rename_i hc
      simp only [Option.some.injEq, Prod.mk.injEq] at hx
      obtain ⟨rfl, rfl, rfl⟩ := hx
      rw [if_pos hc]; exact ⟨rfl, h⟩
theorem pass_frame : ∀ {xs : List AV} {ms : List Mode} {hp : Hp} {ys : List AV} {H1 : Hp} {l : List Nat}, noneAt L hp → pass hp ms xs = some (ys, H1, l) → pass (setAll hp L) ms xs = some (ys, setAll H1 L, l) ∧ noneAt L H1
  | [], ms, hp, ys, H1, l, h, hx => by
    simp only [pass, passG, Option.some.injEq, Prod.mk.injEq] at hx ⊢
    obtain ⟨rfl, rfl, rfl⟩ := hx; exact ⟨⟨rfl, rfl, rfl⟩, h⟩
  | x :: xs, ms, hp, ys, H1, l, h, hx => by
    simp only [pass, passG] at hx ⊢
    obtain ⟨⟨y, H2, l2⟩, h2, hx⟩ := Option.bind_eq_some_iff.1 hx
    obtain ⟨⟨zs, H3, l3⟩, h3, hx⟩ := Option.map_eq_some_iff.1 hx
    simp only [Prod.mk.injEq] at hx
    obtain ⟨rfl, rfl, rfl⟩ := hx
    obtain ⟨q1, q2⟩ := passOne_frame h h2
    obtain ⟨q3, q4⟩ := pass_frame (xs := xs) q2 (show pass H2 ms.tail xs = _ from h3)
    unfold pass at q3
    rw [q1]
    simp only [Option.bind_some, q3, Option.map_some]
    exact ⟨trivial, q4⟩
theorem liveB_frame (h : noneAt L hp) {l : List Nat} (hl : liveB hp l = true) : liveB (setAll hp L) l = true := by
  unfold liveB at *
  rw [List.all_eq_true] at hl ⊢
  intro id hid
  have := hl id hid
  split at this
  · rename_i e he
    rw [h.ent he]; exact this
  · cases this
theorem still_frame : ∀ (l : List Nat) {hp : Hp}, noneAt L hp → (∀ id ∈ l, ∃ e, ent hp id = some e) → still (setAll hp L) l = setAll (still hp l) L ∧ (still hp l).length = hp.length
  | [], _, _, _ => ⟨rfl, rfl⟩
  | id :: l, hp, h, hl => by
    obtain ⟨e, he⟩ := hl id (by simp)
    simp only [still, h.ent he, he]
    rw [← setAll_set L hp (h.off he)]
    have := still_frame l (h.set (x := some { e with wr := false }) he) fun j hj => by
      obtain ⟨e', he'⟩ := hl j (by simp [hj])
      unfold ent at he' ⊢
      by_cases hij : id = j
      · subst hij
        have hlt : id < hp.length := by
          rcases Nat.lt_or_ge id hp.length with h | h
          · exact h
          · rw [List.getElem?_eq_none h] at he'; cases he'
        exact ⟨_, by rw [List.getElem?_set_self hlt]; rfl⟩
      · exact ⟨e', by rw [List.getElem?_set_ne hij]; exact he'⟩
    refine ⟨this.1, by rw [this.2]; simp⟩
theorem layC_frame {x : AV} (h : ∀ p ∈ L, p.1 < hp.length) : layC (setAll hp L) x = ((layC hp x).1, setAll (layC hp x).2 L) := by
  unfold layC
  split
  · rw [setAll_app L hp h, setAll_len]
  · rfl
theorem layL_frame {f : Hp → AV → AV × Hp} (ha : ∀ hp x, ∃ l, (f hp x).2 = hp ++ l) (hf : ∀ hp x, (∀ p ∈ L, p.1 < hp.length) → f (setAll hp L) x = ((f hp x).1, setAll (f hp x).2 L)) : ∀ (xs : List AV) (hp : Hp), (∀ p ∈ L, p.1 < hp.length) → layL f (setAll hp L) xs = ((layL f hp xs).1, setAll (layL f hp xs).2 L)
  | [], hp, _ => rfl
  | x :: xs, hp, h => by
    obtain ⟨l, hl⟩ := ha hp x
    simp only [layL, hf hp x h]
    rw [layL_frame ha hf xs (f hp x).2 fun p hpL => by rw [hl]; simp; have := h p hpL; omega]
theorem layA_frame {x : AV} {hp : Hp} (h : ∀ p ∈ L, p.1 < hp.length) : layA (setAll hp L) x = ((layA hp x).1, setAll (layA hp x).2 L) := by
  unfold layA
  split
  · rw [layL_frame layC_app (fun hp x h => layC_frame h) _ _ h]
  · exact layC_frame h
theorem lay_frame {x : AV} {hp : Hp} (h : ∀ p ∈ L, p.1 < hp.length) : lay (setAll hp L) x = ((lay hp x).1, setAll (lay hp x).2 L) := by
  unfold lay
  split
  · rw [layL_frame layA_app (fun hp x h => layA_frame h) _ _ h]
  · exact layA_frame h
end
theorem framed_pass {P : Program} {f : FuncId} {xs ys : List AV} {r : AV} {hp H1 : Hp} {l : List Nat} {ms : List Mode} (hr : Run P f ys r) (hp' : pass hp ms xs = some (ys, H1, l)) (hv : liveB H1 l = true) :
    Framed P f xs hp (lay (still H1 l) r).1 (lay (still H1 l) r).2 := by
  intro L hL
  have h0 : noneAt L hp := fun p h => ⟨(hL p h).1, (hL p h).2.1⟩
  obtain ⟨h1, h2⟩ := pass_frame h0 hp'
  have h3 : ∀ id ∈ l, ∃ e, ent H1 id = some e := fun id hid => by
    unfold liveB at hv
    have := List.all_eq_true.1 hv id hid
    split at this
    · rename_i e he; exact ⟨e, he⟩
    · cases this
  obtain ⟨h4, h5⟩ := still_frame l h2 h3
  have := gen_still hr h1 (liveB_frame h2 hv)
  rw [h4, lay_frame fun p h => by rw [h5]; exact (h2 p h).2] at this
  exact this
/-- A call where the order is open: it may be handed rows, and make some. -/
theorem awR_callDF {P : Program} {N : St → Prop} {fr : Fr} {hp : Hp} {base : Nat} {d : Option Nat} {f : FuncId} {xs : List AX} {fm : Bool} {no : List TypeId} {rest : List Op2} {ys : List AV} {r : AV} {l : List Nat} {ms : List Mode} {H1 : Hp} (hr : Run P f ys r)
    (hp' : pass hp ms (xs.map (·.ev fr)) = some (ys, H1, l)) (hv : liveB H1 l = true) (hg : growL no hp (lay (still H1 l) r).2)
    (hk : awR P base rest N ⟨putO fr d (lay (still H1 l) r).1, (lay (still H1 l) r).2⟩) : awR P base (⟨d, none, .call f xs true, fm, no⟩ :: rest) N ⟨fr, hp⟩ :=
  ⟨_, _, gen_still hr hp' hv, fun _ => ⟨grow_of hg, fun _ => framed_pass hr hp' hv⟩, hk⟩
/-- A proposition, shut. -/
structure Hold (p : Prop) : Prop where
  h : p
theorem run_ofH {P : Program} {f : FuncId} {fn : Func} {c : Code} (hD : ∀ γ0 w0, DrawOk P fn.ntmps false γ0 w0) {c' : AC} {ts : List Nat} {xs : List AV} {r : AV} (hf : P.funcs[f]? = some fn) (hb : fn.body = some c) (hn : (fn.name == "runtime.NumGoroutine") = false)
    (hr : fn.results = (ts.map ResultVar.tmp).toArray) (hc : bareC c' = comp P c) (ho : okC fn.ntmps false c' = true) (hlen : xs.length ≤ fn.ntmps) (h : Hold (aw P c' (Ends ts r) (entry xs))) : Run P f xs r :=
  run_of hD hf hb hn hr hc ho hlen h.h
end Go.Pv
