/-
  The machine of plain values, 30: calls whose order is open and that take over rows.
-/
import Derived.Test.YtabenkmiojjiiaaPvZE
set_option linter.unusedVariables false
namespace Go.Pv
/-- What stands keeps its cells, but for rows of the types no. -/
def growL (no : List TypeId) : Hp → Hp → Prop
  | [], _ => True
  | none :: r, none :: r' => growL no r r'
  | some e :: r, some e' :: r' => (no.contains e.ty = true ∨ (e.ty = e'.ty ∧ e.es = e'.es)) ∧ growL no r r'
  | _, _ => False
theorem ent_z {x : Option Ent} {r : Hp} : ent (x :: r) 0 = x := by cases x <;> rfl
theorem ent_s {x : Option Ent} {r : Hp} {n : Nat} : ent (x :: r) (n + 1) = ent r n := rfl
theorem grow_cons {no : List TypeId} {x y : Option Ent} {r r' : Hp} (h : Grow no r r') (h1 : ∀ e, x = some e → ∃ e', y = some e') (h2 : ∀ e, x = some e → no.contains e.ty = false → ∃ wr, y = some { e with wr := wr }) (h3 : x = none → y = none) : Grow no (x :: r) (y :: r') := by
  refine ⟨by simpa using h.len, fun id e he => ?_, fun id e he hn => ?_, fun id hl he => ?_⟩
  · cases id with
    | zero => rw [ent_z] at he ⊢; exact h1 e he
    | succ n => rw [ent_s] at he ⊢; exact h.still n e he
  · cases id with
    | zero => rw [ent_z] at he ⊢; exact h2 e he hn
    | succ n => rw [ent_s] at he ⊢; exact h.some n e he hn
  · cases id with
    | zero => rw [ent_z] at he ⊢; exact h3 he
    | succ n => rw [ent_s] at he ⊢; exact h.none n (by simpa using hl) he
theorem grow_of {no : List TypeId} : ∀ {H H' : Hp}, growL no H H' → Grow no H H'
  | [], H', _ => ⟨by simp, fun id e h => (by cases h), fun id e h => (by cases h), fun id h => (by simp at h)⟩
  | none :: r, none :: r', h => grow_cons (grow_of h) (fun e h => by cases h) (fun e h => by cases h) fun _ => rfl
  | some e :: r, some e' :: r', h => grow_cons (grow_of h.2) (fun _ _ => ⟨e', rfl⟩) (fun e2 h2 hn => by
      cases h2
      rcases h.1 with h3 | ⟨h3, h4⟩
      · rw [h3] at hn; cases hn
      · exact ⟨e'.wr, by rw [h3, h4]⟩) fun h => by cases h
  | none :: r, some _ :: r', h => h.elim
  | some _ :: r, none :: r', h => h.elim
  | none :: r, [], h => h.elim
  | some _ :: r, [], h => h.elim
theorem awR_callDS {P : Program} {N : St → Prop} {fr : Fr} {hp : Hp} {base : Nat} {d : Option Nat} {f : FuncId} {xs : List AX} {no : List TypeId} {rest : List Op2} {ys : List AV} {r : AV} {l : List Nat} {ms : List Mode} {H1 : Hp} (hr : Run P f ys r)
    (hp' : pass hp ms (xs.map (·.ev fr)) = some (ys, H1, l)) (hv : liveB H1 l = true) (hg : growL no hp (lay (still H1 l) r).2)
    (hk : awR P base rest N ⟨putO fr d (lay (still H1 l) r).1, (lay (still H1 l) r).2⟩) : awR P base (⟨d, none, .call f xs true, false, no⟩ :: rest) N ⟨fr, hp⟩ :=
  ⟨_, _, gen_still hr hp' hv, fun _ => ⟨grow_of hg, fun h => by cases h⟩, hk⟩
end Go.Pv
