/-
  The machine of plain values, 16: code.
-/
import Derived.Test.YtabenkmiojjiiaaPvO
import Derived.Scope
namespace Go.Pv
inductive AE where
  | normal
  | exit (id : Nat)
  | ret
def St.put (σ : St) (d : Option Nat) (x : AV) : St := ⟨putO σ.fr d x, σ.hp⟩
/-- What stands stays where it stands, but for rows of the types no; and it may be that nobody writes it any more. -/
structure Grow (no : List TypeId) (H H' : Hp) : Prop where
  len : H.length ≤ H'.length
  still : ∀ id e, ent H id = some e → ∃ e', ent H' id = some e'
  some : ∀ id e, ent H id = some e → no.contains e.ty = false → ∃ wr, ent H' id = some { e with wr := wr }
  none : ∀ id, id < H.length → ent H id = none → ent H' id = none
/-- No load from a row of these types. -/
def noLoad (no : List TypeId) (fr : Fr) (hp : Hp) : OpR → Bool
  | .load _ _ x => match x.ev fr with
    | .eptr id _ _ => match ent hp id with
      | some e => !no.contains e.ty
      | none => true
    | _ => true
  | _ => true
/-- Does the value name only rows that stand? -/
def known0 (hp : Hp) : AV → Bool
  | .vec id _ _ _ | .eptr id _ _ => (ent hp id).isSome
  | .bool _ | .anyb | .int .. | .str _ | .lit _ | .undef | .sl .. | .rptr .. => true
  | _ => false
def known (hp : Hp) : AV → Bool
  | .agg cs => cs.all (known0 hp)
  | x => known0 hp x
def entKnown (hp : Hp) : Option Ent → Bool
  | some e => e.es.all fun x => x.flat.all (known0 hp)
  | none => true
def allKnown (hp : Hp) (xs : List AV) : Bool := xs.all (known hp) && hp.all (entKnown hp)
def setAll (hp : Hp) (L : List (Nat × Ent)) : Hp := L.foldl (fun h p => h.set p.1 (some p.2)) hp
/-- Whatever rows there are more. -/
def Framed (P : Program) (f : FuncId) (xs : List AV) (hp : Hp) (r : AV) (H' : Hp) : Prop :=
  ∀ L : List (Nat × Ent), (∀ p ∈ L, ent hp p.1 = none ∧ p.1 < hp.length ∧ p.2.wr = true) → Gen P f xs (setAll hp L) r (setAll H' L)
def notBool : Value → Bool
  | .bool _ => false
  | _ => true
def aw1 (P : Program) (base : Nat) (o : Op2) (σ : St) (K : St → Prop) : Prop :=
  match o.op with
  | .p q => match evP σ.fr q with
    | some x => K (σ.put o.dst x)
    | none => False
  | .r q => match evR σ.fr σ.hp q with
    | some x => noLoad o.no σ.fr σ.hp q = true ∧ K (σ.put o.dst x)
    | none => False
  | .e q r => match evE base r σ.fr σ.hp q with
    | some p => K ⟨putO σ.fr o.dst p.1, p.2⟩
    | none => False
  | .call f xs d => ∃ r H', Gen P f (xs.map (·.ev σ.fr)) σ.hp r H' ∧ (d = true → Grow o.no σ.hp H' ∧ (o.fm = true → Framed P f (xs.map (·.ev σ.fr)) σ.hp r H')) ∧ K ⟨putO σ.fr o.dst r, H'⟩
  | .callv x xs => match x.ev σ.fr with
    | .fn f caps => ∃ r H', Gen P f (xs.map (·.ev σ.fr) ++ caps) σ.hp r H' ∧ σ.hp.length ≤ H'.length ∧ K ⟨putO σ.fr o.dst r, H'⟩
    | _ => False
  | .bad => False
def aw2 (P : Program) (base : Nat) (o : Op2) (σ : St) (K : St → Prop) : Prop :=
  match o.guard with
  | none => aw1 P base o σ K
  | some (t, want) => match get σ.fr t with
    | .bool b => if b = want then aw1 P base o σ K else K (σ.put o.dst (.lit Go.undef))
    | .lit v => notBool v = true ∧ K (σ.put o.dst (.lit Go.undef))
    | _ => False
def awOps (P : Program) (base : Nat) : List Op2 → St → (St → Prop) → Prop
  | [], σ, K => K σ
  | o :: r, σ, K => aw2 P base o σ fun σ => awOps P base r σ K
def inBlk (id : Nat) (K : AE → St → Prop) : AE → St → Prop
  | .exit id', σ => if id' = id then K .normal σ else K (.exit id') σ
  | e, σ => K e σ
def andThen (N : St → Prop) (K : AE → St → Prop) : AE → St → Prop
  | .normal, σ => N σ
  | e, σ => K e σ
def aw (P : Program) : AC → (AE → St → Prop) → St → Prop
  | .skip, K, σ => K .normal σ
  | .region n ops tr, K, σ => awOps P σ.hp.length ops ⟨σ.fr, σ.hp ++ List.replicate n none⟩ fun σ => K .normal (trim tr σ)
  | .seq a b, K, σ => aw P a (andThen (aw P b K) K) σ
  | .cond c x y, K, σ => match c.ev σ.fr with
    | .bool b => (b = true → aw P x K σ) ∧ (b = false → aw P y K σ)
    | .anyb => aw P x K σ ∧ aw P y K σ
    | _ => False
  | .block id b, K, σ => aw P b (inBlk id K) σ
  | .loop tr b, K, σ => ∃ I : Nat → St → Prop, (∃ n, I n (trim tr σ)) ∧ ∀ n σ, I n σ → aw P b (andThen (fun σ' => ∃ m, m < n ∧ I m (trim tr σ')) K) σ
  | .exit id, K, σ => K (.exit id) σ
  | .ret, K, σ => K .ret σ
  | .scope b, K, σ => aw P b K σ
  | .bad, _, _ => False

/-- How a state stands to the model's. -/
structure SR (n : Nat) (k : Bool) (γ0 : Gh) (w0 : World) (γ : Gh) (σ : St) (a : Act) (w : World) : Prop where
  fr : FrR w γ σ.fr a.tmps
  hp : HRel γ σ.hp w
  st : Step γ0 γ w0 w
  df : a.defers = []
  sz : a.tmps.size = n
  ids : k = true → Ids γ0 γ
/-- K, of some state that stands so. -/
def Up (n : Nat) (k : Bool) (γ0 : Gh) (w0 : World) (K : St → Prop) (a : Act) (w : World) : Prop := ∃ γ σ, SR n k γ0 w0 γ σ a w ∧ K σ
def LiftK (n : Nat) (k : Bool) (γ0 : Gh) (w0 : World) (K : AE → St → Prop) : Exit → Act → World → Prop
  | .normal, a, w => Up n k γ0 w0 (K .normal) a w
  | .exit id, a, w => Up n k γ0 w0 (K (.exit id)) a w
  | .ret, a, w => Up n k γ0 w0 (K .ret) a w
  | _, _, _ => False
def dstOk (n : Nat) (o : Op2) : Bool := match o.dst with | some d => decide (d < n) | none => true
/-- Is no row struck, where the caller's rows (k) must stay? -/
def okT (k : Bool) : Option Trim → Bool
  | none => true
  | some t => !(k && t.gc)
def okC (n : Nat) (k : Bool) : AC → Bool
  | .region _ ops tr => ops.all (dstOk n) && okT k tr
  | .seq a b => okC n k a && okC n k b
  | .cond _ x y => okC n k x && okC n k y
  | .block _ b => okC n k b
  | .loop tr b => okC n k b && okT k tr
  | .scope b => okC n k b
  | _ => true

section
variable {P : Program} {n : Nat} {k : Bool} {γ0 γ : Gh} {w0 w : World} {σ : St} {a : Act}
theorem put_size (a : Act) (d : Option Nat) (v : Value) : (a.put d v).tmps.size = a.tmps.size := by cases d <;> simp [Act.put]
theorem put_defers (a : Act) (d : Option Nat) (v : Value) : (a.put d v).defers = a.defers := by cases d <;> rfl
theorem SR.put (h : SR n k γ0 w0 γ σ a w) {γ' : Gh} {w' : World} {H' : Hp} {x : AV} {v : Value} {d : Option Nat} (hd : ∀ t, d = some t → t < n) (hs : Sim w' γ' x v) (hh : HRel γ' H' w') (st : Step γ γ' w w') (ids : Ids γ γ') : SR n k γ0 w0 γ' ⟨putO σ.fr d x, H'⟩ (a.put d v) w' :=
  ⟨(h.fr.adv (st.adv ids h.hp.imm)).put hs (fun t ht => by rw [h.sz]; exact hd t ht), hh, h.st.trans st, by rw [put_defers]; exact h.df, by rw [put_size]; exact h.sz, fun hk => (h.ids hk).trans ids⟩
theorem SR.put' (h : SR n k γ0 w0 γ σ a w) {x : AV} {v : Value} {d : Option Nat} (hd : ∀ t, d = some t → t < n) (hs : Sim w γ x v) : SR n k γ0 w0 γ (σ.put d x) (a.put d v) w :=
  h.put hd hs h.hp (Step.refl _ _) (Ids.refl _)
theorem args_sim (h : SR n k γ0 w0 γ σ a w) (args : Array Operand) : ((args.toList.map cx).map (·.ev σ.fr)).length = (args.map a.eval).size ∧
    ∀ (i : Nat) (x : AV) (v : Value), ((args.toList.map cx).map (·.ev σ.fr))[i]? = some x → (args.map a.eval)[i]? = some v → Sim w γ x v := by
  refine ⟨by simp, fun i x v hx hv => ?_⟩
  simp only [List.getElem?_map, Array.getElem?_map] at hx hv
  rw [← Array.getElem?_toList] at hv
  cases hi : args.toList[i]? with
  | none => rw [hi] at hx; cases hx
  | some y =>
    rw [hi] at hx hv
    simp only [Option.map_some, Option.some.injEq] at hx hv
    subst hx hv
    exact cx_sim h.fr y
theorem call_run (f : FuncId) (hc : Can P f) (args : Array Value) (w : World) : (invoke (.fn (.func f) #[]) args).run P w = .ok (.enter f args) w := by
  simp only [invoke, Array.append_empty]
  exact hc args w
theorem call_inv {d : Bool} {r : Option Nat} {o : Oper} {f : FuncId} {xs : List AX} {d' : Bool} (hc : compOp P d r o = .call f xs d') : ∃ args ts, o.op = .call { callee := .value (.func f), args := args, argTypes := ts } ∧ xs = args.toList.map cx := by
  obtain ⟨dst, op, ty, pos, after, guard⟩ := o
  cases op with
  | call c =>
    obtain ⟨callee, args, ts⟩ := c
    cases callee with
    | builtin b => simp only [compOp] at hc; repeat' (first | (cases hc; done) | split at hc)
    | invoke => cases hc
    | value g =>
      cases g <;> try (cases hc; done)
      simp only [compOp] at hc
      split at hc
      · split at hc <;> cases hc
      · cases hc; exact ⟨args, ts, rfl, rfl⟩
  | makeFunc fn first caps => cases fn <;> simp only [compOp] at hc <;> repeat' (first | (cases hc; done) | split at hc)
  | _ => first | (cases hc; done) | (simp only [compOp] at hc; repeat' (first | (cases hc; done) | split at hc))
theorem callv_inv {d : Bool} {r : Option Nat} {o : Oper} {x : AX} {xs : List AX} (hc : compOp P d r o = .callv x xs) : ∃ g args ts, o.op = .call { callee := .value g, args := args, argTypes := ts } ∧ x = cx g ∧ xs = args.toList.map cx := by
  obtain ⟨dst, op, ty, pos, after, guard⟩ := o
  cases op with
  | call c =>
    obtain ⟨callee, args, ts⟩ := c
    cases callee with
    | builtin b => simp only [compOp] at hc; repeat' (first | (cases hc; done) | split at hc)
    | invoke => cases hc
    | value g =>
      refine ⟨g, args, ts, rfl, ?_⟩
      cases g <;> first | (cases hc; exact ⟨rfl, rfl⟩) | (simp only [compOp] at hc; split at hc <;> (try split at hc) <;> cases hc)
  | makeFunc fn first caps => cases fn <;> simp only [compOp] at hc <;> repeat' (first | (cases hc; done) | split at hc)
  | _ => first | (cases hc; done) | (simp only [compOp] at hc; repeat' (first | (cases hc; done) | split at hc))
theorem aw1_sound {o : Oper} {o2 : Op2} {d : Bool} {r : Option Nat} {base : Nat} {K : St → Prop} {Q : Exit → Act → World → Prop} (h : SR n k γ0 w0 γ σ a w) (hop : o2.op = compOp P d r o) (hdst : o2.dst = o.dst) (hd : ∀ t, o.dst = some t → t < n)
    (hx : aw1 P base o2 σ K) : o.wp P a w (Up n k γ0 w0 K) Q := by
  unfold aw1 at hx
  unfold Oper.wp
  rw [hop, hdst] at hx
  cases hc : compOp P d r o with
  | p q =>
    rw [hc] at hx
    dsimp only at hx
    split at hx
    · rename_i x he
      obtain ⟨v, hr, hs⟩ := evP_sound h.fr hc he
      rw [hr]
      exact ⟨γ, _, h.put' hd hs, hx⟩
    · exact hx.elim
  | r q =>
    rw [hc] at hx
    dsimp only at hx
    split at hx
    · rename_i x he
      obtain ⟨v, hr, hs⟩ := evR_sound h.fr h.hp hc he
      rw [hr]
      exact ⟨γ, _, h.put' hd hs, hx.2⟩
    · exact hx.elim
  | e q r' =>
    rw [hc] at hx
    dsimp only at hx
    split at hx
    · rename_i p he
      obtain ⟨x, H'⟩ := p
      obtain ⟨nx, w', γ', hr, hv, hh, st, ids⟩ := evE_sound h.fr h.hp hc he
      rw [hr]
      rcases hv with ⟨v, rfl, hs⟩ | ⟨rfl, rfl⟩
      · exact ⟨γ', _, h.put hd hs hh st ids, hx⟩
      · exact ⟨γ', _, h.put hd (.undef _) hh st ids, hx⟩
    · exact hx.elim
  | bad => rw [hc] at hx; exact hx.elim
  | call f xs d' =>
    rw [hc] at hx
    obtain ⟨y, H', ⟨hcan, hg⟩, _, hK⟩ := hx
    obtain ⟨args, ts, ho, rfl⟩ := call_inv hc
    obtain ⟨h1, h2⟩ := args_sim h args
    have hrun : (execOp a.eval o).run P w = .ok (.enter f (args.map a.eval)) w := by
      have := call_run (P := P) f hcan (args.map a.eval) w
      simpa [execOp, ho, resolve, Deferred.ofValue, Act.eval] using this
    rw [hrun]
    refine Calls.mono (hg w γ _ h.hp h1 h2) ?_
    rintro e W ⟨v, γ', rfl, hs, hh, st, ids⟩
    exact ⟨γ', _, h.put hd hs hh st ids, hK⟩
  | callv x xs =>
    rw [hc] at hx
    dsimp only at hx
    split at hx
    case h_2 => exact hx.elim
    rename_i f caps hev
    obtain ⟨y, H', ⟨hcan, hg⟩, _, hK⟩ := hx
    obtain ⟨g, args, ts, ho, rfl, rfl⟩ := callv_inv hc
    have hsim := cx_sim h.fr g (γ := γ)
    rw [hev] at hsim
    generalize hv : a.eval g = gv at hsim
    cases hsim with
    | fn _ _ cs hz hsc =>
    obtain ⟨h1, h2⟩ := args_sim h args
    have hrun : (execOp a.eval o).run P w = .ok (.enter f (args.map a.eval ++ cs)) w := by
      have := hcan (args.map a.eval ++ cs) w
      simpa [execOp, ho, resolve, Deferred.ofValue, hv, invoke] using this
    rw [hrun]
    refine Calls.mono (hg w γ _ h.hp (by rw [List.length_append, Array.size_append, h1, hz]) ?_) ?_
    · intro i x v hx hv
      rw [Array.getElem?_append] at hv
      by_cases hi : i < (args.map a.eval).size
      · rw [if_pos hi] at hv
        rw [List.getElem?_append_left (by rw [h1]; exact hi)] at hx
        exact h2 i x v hx hv
      · rw [if_neg hi] at hv
        rw [List.getElem?_append_right (by rw [h1]; omega)] at hx
        rw [h1] at hx
        exact hsc _ x v hx hv
    · rintro e W ⟨v, γ', rfl, hs, hh, st, ids⟩
      exact ⟨γ', _, h.put hd hs hh st ids, hK⟩
end
end Go.Pv
