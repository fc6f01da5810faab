/-
  The machine of plain values, 30: calls whose order is open and that take over rows.
-/
import Derived.Test.YtabenkmiojjiiaaPvZE
set_option linter.unusedVariables false
namespace Go.Pv
set_option linter.defProp false
/-- What stands keeps its cells, but for rows of the types no. -/
def growL (no : List TypeId) : Hp → Hp → Prop
  | [], _ => True
  | none :: r, none :: r' => growL no r r'
  | some e :: r, some e' :: r' => (no.contains e.ty = true ∨ (e.ty = e'.ty ∧ e.es = e'.es)) ∧ growL no r r'
  | _, _ => False
theorem ent_z {x : Option Ent} {r : Hp} : ent (x :: r) 0 = x := by cases x <;> rfl
theorem ent_s {x : Option Ent} {r : Hp} {n : Nat} : ent (x :: r) (n + 1) = ent r n := rfl
theorem grow_cons {no : List TypeId} {x y : Option Ent} {r r' : Hp} (h : Grow no r r') (h1 : ∀ e, x = some e → ∃ e', y = some e') (h2 : ∀ e, x = some e → no.contains e.ty = false → ∃ wr, y = some { e with wr := wr }) (h3 : x = none → y = none) : Grow no (x :: r) (y :: r') := by
  refine ⟨by simpa using h.len, fun id e he => ?_, fun id e he hn => ?_, fun id hl he => ?_⟩
  · cases id with
    | zero => rw [ent_z] at he ⊢; exact h1 e he
    | succ n => rw [ent_s] at he ⊢; exact h.still n e he
  · cases id with
    | zero => rw [ent_z] at he ⊢; exact h2 e he hn
    | succ n => rw [ent_s] at he ⊢; exact h.some n e he hn
  · cases id with
    | zero => rw [ent_z] at he ⊢; exact h3 he
    | succ n => rw [ent_s] at he ⊢; exact h.none n (by simpa using hl) he
theorem grow_of {no : List TypeId} : ∀ {H H' : Hp}, growL no H H' → Grow no H H'
  | [], H', _ => ⟨by simp, fun id e h => (by cases h), fun id e h => (by cases h), fun id h => (by simp at h)⟩
  | none :: r, none :: r', h => grow_cons (grow_of h) (fun e h => by cases h) (fun e h => by cases h) fun _ => rfl
  | some e :: r, some e' :: r', h => grow_cons (grow_of h.2) (fun _ _ => ⟨e', rfl⟩) (fun e2 h2 hn => by
      cases h2
      rcases h.1 with h3 | ⟨h3, h4⟩
      · rw [h3] at hn; cases hn
      · exact ⟨e'.wr, by rw [h3, h4]⟩) fun h => by cases h
  | none :: r, some _ :: r', h => h.elim
  | some _ :: r, none :: r', h => h.elim
  | none :: r, [], h => h.elim
  | some _ :: r, [], h => h.elim
theorem awR_callDS {P : Program} {N : St → Prop} {fr : Fr} {hp : Hp} {base : Nat} {d : Option Nat} {f : FuncId} {xs : List AX} {no : List TypeId} {rest : List Op2} {ys : List AV} {r : AV} {l : List Nat} {ms : List Mode} {H1 : Hp} (hr : Run P f ys r)
    (hp' : pass hp ms (xs.map (·.ev fr)) = some (ys, H1, l)) (hv : liveB H1 l = true) (hg : growL no hp (lay (still H1 l) r).2)
    (hk : awR P base rest N ⟨putO fr d (lay (still H1 l) r).1, (lay (still H1 l) r).2⟩) : awR P base (⟨d, none, .call f xs true, false, no⟩ :: rest) N ⟨fr, hp⟩ :=
  ⟨_, _, gen_still hr hp' hv, fun _ => ⟨grow_of hg, fun h => by cases h⟩, hk⟩
/-! ### What a row holds, read off -/
def frzE (o : Option Ent) (fr : Fr) (hp : Hp) (id : Nat) : St := match o with
  | some e => match mapO (snap hp deep) e.es with
    | some es => if (e.es.flatMap (rows hp deep)).contains id then ⟨fr, hp⟩ else ⟨fr, still (hp.set id (some { e with es := es })) (e.es.flatMap (rows hp deep))⟩
    | none => ⟨fr, hp⟩
  | none => ⟨fr, hp⟩
def frzM (o : Option (List AV)) (l : List Nat) (ty : TypeId) (wr : Bool) (fr : Fr) (hp : Hp) (id : Nat) : St := match o with
  | some es => if l.contains id = true then ⟨fr, hp⟩ else ⟨fr, still (hp.set id (some ⟨ty, es, wr⟩)) l⟩
  | none => ⟨fr, hp⟩
section
variable {fr : Fr} {hp : Hp} {id : Nat}
theorem frzRow_e : frzRow ⟨fr, hp⟩ id = frzE (ent hp id) fr hp id := (rfl)
theorem frzE_some {ty : TypeId} {es : List AV} {wr : Bool} : frzE (some ⟨ty, es, wr⟩) fr hp id = frzM (mapO (snap hp 6) es) (es.flatMap (rows hp 6)) ty wr fr hp id := (rfl)
theorem frzE_none : frzE none fr hp id = ⟨fr, hp⟩ := (rfl)
theorem frzM_some {es : List AV} {l : List Nat} {ty : TypeId} {wr : Bool} : frzM (some es) l ty wr fr hp id = if l.contains id = true then ⟨fr, hp⟩ else ⟨fr, still (hp.set id (some ⟨ty, es, wr⟩)) l⟩ := (rfl)
theorem frzSlot_vec {σ : St} {sz off len : Nat} : frzSlot σ (.vec id sz off len) = frzRow σ id := (rfl)
theorem frzSlot_eptr {σ : St} {i off : Nat} : frzSlot σ (.eptr id i off) = frzRow σ id := (rfl)
theorem frzSlot_undef {σ : St} : frzSlot σ .undef = σ := (rfl)
theorem frzSlot_sl {σ : St} {sz : Nat} {es : List AV} {f : Bool} : frzSlot σ (.sl sz es f) = σ := (rfl)
theorem frzSlot_skp {σ : St} : frzSlot σ skp = σ := (rfl)
theorem still_nil {hp : Hp} : still hp [] = hp := (rfl)
def stillE (o : Option Ent) (hp : Hp) (id : Nat) (r : List Nat) : Hp := match o with
  | some e => still (hp.set id (some { e with wr := false })) r
  | none => still hp r
theorem still_cons {hp : Hp} {r : List Nat} : still hp (id :: r) = stillE (ent hp id) hp id r := (rfl)
theorem stillE_some {ty : TypeId} {es : List AV} {wr : Bool} {r : List Nat} : stillE (some ⟨ty, es, wr⟩) hp id r = still (hp.set id (some ⟨ty, es, false⟩)) r := (rfl)
theorem stillE_none {r : List Nat} : stillE none hp id r = still hp r := (rfl)
end
def pvf :=
  And.intro @frzRow_e <| And.intro @frzE_some <| And.intro @frzE_none <| And.intro @frzM_some <| And.intro @frzSlot_vec <| And.intro @frzSlot_eptr <| And.intro @frzSlot_undef <| And.intro @frzSlot_sl <| And.intro @frzSlot_skp <| And.intro @still_nil <| And.intro @still_cons <| And.intro @stillE_some <| @stillE_none
end Go.Pv
