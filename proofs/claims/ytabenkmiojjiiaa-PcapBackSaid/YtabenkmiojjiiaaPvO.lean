/-
  The machine of plain values, 15: what is known of a function: at the boundary ('Run'), and among a caller's rows ('Gen').
-/
import Derived.Test.YtabenkmiojjiiaaPvN
namespace Go.Pv
def Can (P : Program) (f : FuncId) : Prop := ∀ (args : Array Value) (w : World), (callFunc f args).run P w = .ok (.enter f args) w
theorem can_of {P : Program} {f : FuncId} {fn : Func} (h : P.funcs[f]? = some fn) (hb : fn.body.isSome = true) (hn : (fn.name == "runtime.NumGoroutine") = false) : Can P f := by
  intro args w
  have hb' : fn.body ≠ none := by intro h'; rw [h'] at hb; cases hb
  have hn' : fn.name ≠ "runtime.NumGoroutine" := by intro h'; rw [h'] at hn; simp at hn
  simp [callFunc, h, hn', hb']
structure StepB (I : Nat → Prop) (os : List GE) (I' : Nat → Prop) (os' : List GE) (w w' : World) : Prop where
  osk : w'.os = w.os
  tape : w'.tape = w.tape
  output : w'.output = w.output
  size : w.heap.size ≤ w'.heap.size
  keep : ∀ b, b < w.heap.size → ¬ blks os b → w'.heap[b]? = w.heap[b]?
  own : ∀ b, blks os' b → blks os b ∨ w.heap.size ≤ b
  immk : ∀ b, I b → I' b
  immn : ∀ b, I' b → I b ∨ blks os b ∨ w.heap.size ≤ b
/-- f, called with xs, hands back r. -/
def Run (P : Program) (f : FuncId) (xs : List AV) (r : AV) : Prop :=
  Can P f ∧ ∀ (w : World) (I : Nat → Prop) (os : List GE) (args : Array Value), OsOk w I os → OwnL (OwnC w I) os xs args.toList →
    Calls P f args w fun e W => ∃ v I' os', e = .returned v ∧ OwnT W I' os' r v ∧ OsOk W I' os' ∧ StepB I os I' os' w W
/-- f, called with xs among the rows H, yields r, and the rows are H'. -/
def Gen (P : Program) (f : FuncId) (xs : List AV) (H : Hp) (r : AV) (H' : Hp) : Prop :=
  Can P f ∧ ∀ (w : World) (γ : Gh) (args : Array Value), HRel γ H w → xs.length = args.size → (∀ (i : Nat) (x : AV) (v : Value), xs[i]? = some x → args[i]? = some v → Sim w γ x v) →
    Calls P f args w fun e W => ∃ v γ', e = .returned v ∧ Sim W γ' r v ∧ HRel γ' H' W ∧ Step γ γ' w W ∧ Ids γ γ'

/-! ### Values that hold no memory -/
def AV.p0 : AV → Bool
  | .bool _ | .anyb | .int .. | .str _ | .lit _ | .undef => true
  | .sl _ [] _ => true
  | _ => false
def AV.p1 : AV → Bool
  | .agg cs => cs.all AV.p0
  | x => x.p0
def AV.pC : AV → Bool
  | .own _ _ es => es.all AV.p1
  | x => x.p1
def AV.pA : AV → Bool
  | .agg cs => cs.all AV.pC
  | x => x.pC
def AV.pT : AV → Bool
  | .tup xs => xs.all AV.pA
  | x => x.pA
section
variable {P : Program} {w w' : World} {γ γ' : Gh} {H H' : Hp} {I : Nat → Prop}
theorem p0_sim {x : AV} {v : Value} (hp : x.p0 = true) (h : Sim w γ x v) : Sim w γ' x v := by
  cases h with
  | undef => exact .undef _
  | bool b => exact .bool b
  | anyb b => exact .anyb b
  | int k n => exact .int k n
  | str s => exact .str s
  | lit v => exact .lit v
  | sl0 sz full A cap hc => exact .sl0 sz full A cap hc
  | sl sz es full b off cap U hp' =>
    cases es with
    | nil => simp at hp'
    | cons _ _ => cases hp
  | _ => cases hp
theorem p1_sim {x : AV} {v : Value} (hp : x.p1 = true) (h : Sim w γ x v) : Sim w γ' x v := by
  by_cases hx : ∃ cs, x = .agg cs
  · obtain ⟨xs, rfl⟩ := hx
    obtain ⟨cs, rfl, hz, hs⟩ := agg_inv h
    refine .agg xs cs hz fun i x v hx hv => p0_sim (List.all_eq_true.1 hp x (List.mem_of_getElem? hx)) (hs i x v hx hv)
  · have e : x.p1 = x.p0 := by cases x <;> first | rfl | exact absurd ⟨_, rfl⟩ hx
    exact p0_sim (e ▸ hp) h
theorem flat_p1 {x : AV} (hp : x.p1 = true) : ∀ y ∈ x.flat, y.p0 = true := by
  by_cases hx : ∃ cs, x = .agg cs
  · obtain ⟨xs, rfl⟩ := hx
    intro y hy
    exact List.all_eq_true.1 hp y hy
  · have e : x.p1 = x.p0 := by cases x <;> first | rfl | exact absurd ⟨_, rfl⟩ hx
    intro y hy
    rw [flat_one fun cs e => hx ⟨cs, e⟩] at hy
    simp at hy; subst hy
    exact e ▸ hp
theorem pC_own {x : AV} {v : Value} {os : List GE} {I' : Nat → Prop} (hp : x.pC = true) (h : OwnC w I os x v) : OwnC w I' os x v := by
  unfold OwnC at h ⊢
  split at h
  · rename_i sz ty es
    obtain ⟨ge, ho, h⟩ := h
    refine ⟨ge, ho, { h with ok := ?_ }⟩
    rcases h.ok with ⟨h1, h2, _⟩ | ⟨h1, h2⟩
    · cases h2
    · refine .inr ⟨h1, ?_⟩
      rcases h2 with h2 | ⟨g, cs, fr, h2, h3, h4, h5, h6, h7⟩
      · exact .inl h2
      · refine .inr ⟨g, cs, fr, h2, h3, h4, h5, h6, fun i x hx => ⟨(h7 i x hx).1, fun j y hy => ?_⟩⟩
        obtain ⟨u, u1, u2, u3⟩ := (h7 i x hx).2 j y hy
        exact ⟨u, u1, u2, p0_sim (flat_p1 (List.all_eq_true.1 hp x (List.mem_of_getElem? hx)) y (List.mem_of_getElem? hy)) u3⟩
  · rename_i hne
    have e : x.pC = x.p1 := by cases x <;> first | rfl | exact absurd rfl (hne _ _ _)
    exact ⟨h.1, p1_sim (e ▸ hp) h.2⟩
theorem OwnL.map {R R' : List GE → AV → Value → Prop} {os : List GE} {xs : List AV} {vs : List Value} (h : OwnL R os xs vs) : (∀ x ∈ xs, ∀ os v, R os x v → R' os x v) → OwnL R' os xs vs := by
  induction h with
  | nil => intro _; exact .nil
  | cons h1 h2 ih => intro hR; exact .cons (hR _ (by simp) _ _ h1) (ih fun x hx => hR x (by simp [hx]))
theorem pA_own {x : AV} {v : Value} {os : List GE} {I' : Nat → Prop} (hp : x.pA = true) (h : OwnA w I os x v) : OwnA w I' os x v := by
  unfold OwnA at h ⊢
  split at h
  · rename_i xs
    obtain ⟨cs, rfl, h⟩ := h
    exact ⟨cs, rfl, h.map fun x hx os v hR => pC_own (List.all_eq_true.1 hp x hx) hR⟩
  · rename_i hne
    have e : x.pA = x.pC := by cases x <;> first | rfl | exact absurd rfl (hne _)
    exact pC_own (e ▸ hp) h
theorem pT_own {x : AV} {v : Value} {os : List GE} {I' : Nat → Prop} (hp : x.pT = true) (h : OwnT w I os x v) : OwnT w I' os x v := by
  unfold OwnT at h ⊢
  split at h
  · rename_i xs
    obtain ⟨cs, rfl, h⟩ := h
    exact ⟨cs, rfl, h.map fun x hx os v hR => pA_own (List.all_eq_true.1 hp x hx) hR⟩
  · rename_i hne
    have e : x.pT = x.pA := by cases x <;> first | rfl | exact absurd rfl (hne _)
    exact pA_own (e ▸ hp) h

/-! ### Rows that nobody writes any more -/
theorem ent_none_set {id : Nat} (h : ent H id = none) (j : Nat) (e : Option Ent) (hj : j ≠ id) : ent (H.set j e) id = none := by
  unfold ent at *
  rw [List.getElem?_set_ne hj]; exact h
theorem still_len : ∀ (l : List Nat) (H : Hp), (still H l).length = H.length
  | [], H => rfl
  | id :: l, H => by
    simp only [still]
    split
    · rw [still_len l]; simp
    · exact still_len l H
theorem still_ent : ∀ (l : List Nat) (H : Hp) (j : Nat), ent (still H l) j = (ent H j).map fun e => if j ∈ l then { e with wr := false } else e
  | [], H, j => by simp [still]
  | id :: l, H, j => by
    simp only [still]
    split
    · rename_i e he
      rw [still_ent l, ent_set he]
      by_cases hj : j = id
      · subst hj; rw [if_pos rfl, he]; simp
      · rw [if_neg hj]; simp [hj]
    · rename_i he
      rw [still_ent l]
      by_cases hj : j = id
      · subst hj; rw [he]; rfl
      · simp [hj]
/-- Ghosts of rows that nobody writes any more. -/
def Gh.still (γ : Gh) (l : List Nat) (J : Nat → Prop) : Gh := ⟨fun id => (γ.m id).map fun ge => if id ∈ l ∧ ge.st ≠ 0 then { ge with st := 1 } else ge, J⟩
theorem st_cases (hh : HRel γ H w) {id : Nat} {ge : GE} (hm : γ.m id = some ge) : ge.st = 0 ∨ ge.st = 1 ∨ ge.st = 2 := by
  obtain ⟨e, _, h⟩ := hh.ent hm
  rcases h with h | h
  · exact .inl h.1
  · rw [h.1]; split
    · exact .inr (.inr rfl)
    · exact .inr (.inl rfl)
theorem still_look {l : List Nat} {J : Nat → Prop} {id : Nat} {ge : GE} (h : (γ.still l J).m id = some ge) : ∃ x, γ.m id = some x ∧ ge.blk = x.blk ∧ (ge.st = 0 ↔ x.st = 0) ∧ (ge.st = 2 → id ∉ l ∧ x.st = 2) ∧ (ge.st = 1 → x.st = 1 ∨ (id ∈ l ∧ x.st ≠ 0)) := by
  simp only [Gh.still] at h
  obtain ⟨x, hx, rfl⟩ := Option.map_eq_some_iff.1 h
  refine ⟨x, hx, ?_⟩
  split
  · rename_i hc
    exact ⟨rfl, ⟨fun h => (by cases h), fun h => absurd h hc.2⟩, fun h => (by cases h), fun _ => .inr hc⟩
  · rename_i hc
    refine ⟨rfl, Iff.rfl, fun h => ⟨fun hl => hc ⟨hl, by rw [h]; decide⟩, h⟩, fun h => .inl h⟩
theorem gen_all (hh : HRel γ H w) {xs ys : List AV} {args : Array Value} {ms : List Mode} {H1 : Hp} {l l' : List Nat} {f : FuncId} {r : AV} (hr : Run P f ys r) (hl : xs.length = args.size)
    (hs : ∀ (i : Nat) (x : AV) (v : Value), xs[i]? = some x → args[i]? = some v → Sim w γ x v) (hp : pass H ms xs = some (ys, H1, l)) (hlive : liveB H1 l = true) (hl' : l' = l ∨ (l' = [] ∧ r.pT = true)) :
    Calls P f args w fun e W => ∃ v γ', e = .returned v ∧ Sim W γ' (lay (still H1 l') r).1 v ∧ HRel γ' (lay (still H1 l') r).2 W ∧ Step γ γ' w W ∧ Ids γ γ' := by
  obtain ⟨γ1, os, g1, r1, n1, k⟩ := passG_sim passOne_p Mode.snap xs γ H H1 ms ys args.toList l hh (by simpa using hl) (fun i x v hx hv => hs i x v hx (by simpa using hv)) hp
  have hliv : ∀ id ∈ l, ∀ ge, γ.m id = some ge → ge.st ≠ 0 → γ1.m id = some ge := by
    intro id hid ge hm hst
    rcases g1.ids id ge hm with h | h
    · exact h
    · exfalso
      have := List.all_eq_true.1 hlive id hid
      split at this
      · rename_i e he
        obtain ⟨ge', hm', hok⟩ := r1.ok id e he
        rw [h] at hm'; cases hm'
        have hl := hok.live (by
          simp only [Bool.or_eq_true, Bool.not_eq_true', List.isEmpty_eq_false_iff] at this
          exact this)
        have := hl.1
        simp only at this
        split at this <;> cases this
      · cases this
  -- the rows that are handed over, and the rest
  have hos : ∀ b, blks os b → γ.owns b ∧ ∀ id ge, γ1.m id = some ge → ge.st ≠ 0 → ge.blk ≠ some b := by
    rintro b ⟨ge, hge, hb⟩
    obtain ⟨id, h1, h2, h3⟩ := g1.src ge hge b hb
    refine ⟨⟨id, ge, h1, h2, hb⟩, fun id' ge' hm hst hb' => ?_⟩
    have e := hh.inj id id' ge ge' b h1 (g1.rev id' ge' hm hst) (by rw [h2]; decide) hst hb hb'
    subst e
    rw [h3] at hm; cases hm
    exact hst rfl
  let I : Nat → Prop := fun b => γ.imm b ∨ ∃ id ∈ l, ∃ ge, γ.m id = some ge ∧ ge.st ≠ 0 ∧ ge.blk = some b
  have hI : ∀ b, γ.imm b → I b := fun b hb => .inl hb
  have hIos : ∀ b, I b → b < w.heap.size ∧ ¬ blks os b := by
    rintro b (hb | ⟨id, hid, ge, hm, hst, hb⟩)
    · exact ⟨(hh.imm b hb).1, fun h => (hh.imm b hb).2 (hos b h).1⟩
    · exact ⟨hh.blkLt hm hst hb, fun h => (hos b h).2 id ge (hliv id hid ge hm hst) hst hb⟩
  have ownlt : ∀ b, γ.owns b → b < w.heap.size := fun b ⟨id, ge, h1, h2, h3⟩ => hh.blkLt h1 (by rw [h2]; decide) h3
  have hown := k I hI (fun id hid ge b hm hst hb => .inr ⟨id, hid, ge, hm, hst, hb⟩)
  refine Calls.mono (hr.2 w I os args ⟨hIos, fun b hb => ownlt b (hos b hb).1, g1.ap⟩ hown) ?_
  rintro e W ⟨v, I', os', rfl, hv, hok', hst⟩
  -- what nobody writes, behind the call
  obtain ⟨J, hJ0, hJn, hJlt, hJos, hJl, hvJ⟩ : ∃ J : Nat → Prop, (∀ b, γ.imm b → J b) ∧ (∀ b, J b → I b ∧ (γ.imm b ∨ l' = l) ∨ blks os b ∨ w.heap.size ≤ b) ∧ (∀ b, J b → b < W.heap.size) ∧ (∀ b, blks os' b → ¬ J b) ∧
      (∀ id ∈ l', ∀ ge b, γ.m id = some ge → ge.st ≠ 0 → ge.blk = some b → J b) ∧ OwnT W J os' r v := by
    rcases hl' with rfl | ⟨rfl, hpl⟩
    · refine ⟨I', fun b hb => hst.immk b (hI b hb), fun b hb => (hst.immn b hb).imp (fun h => ⟨h, .inr rfl⟩) id, fun b hb => (hok'.imm b hb).1, fun b hb h => (hok'.imm b h).2 hb, fun id hid ge b h1 h2 h3 => hst.immk b (.inr ⟨id, hid, ge, h1, h2, h3⟩), hv⟩
    · refine ⟨γ.imm, fun b hb => hb, fun b hb => .inl ⟨.inl hb, .inl hb⟩, fun b hb => Nat.lt_of_lt_of_le (hh.imm b hb).1 hst.size, fun b hb h => ?_, fun id hid => (by cases hid), pT_own hpl hv⟩
      rcases hst.own b hb with h' | h'
      · exact (hIos b (.inl h)).2 h'
      · have := (hh.imm b h).1; omega
  have keep : ∀ id ge b, γ1.m id = some ge → ge.st ≠ 0 → ge.blk = some b → W.heap[b]? = w.heap[b]? := fun id ge b h1 h2 h3 =>
    hst.keep b (r1.blkLt h1 h2 h3) fun h => (hos b h).2 id ge h1 h2 h3
  have advS : Adv γ1 (γ1.still l' J) w W := ⟨hst.size, fun b hb => ⟨hJ0 b (by rw [← g1.imm]; exact hb), fun hlt => hst.keep b hlt fun h => (hIos b (.inl (by rw [← g1.imm]; exact hb))).2 h⟩, fun id ge hm => by
    simp only [Gh.still, hm, Option.map_some]
    split
    · exact ⟨1, rfl⟩
    · exact ⟨ge.st, rfl⟩⟩
  have hS : HRel (γ1.still l' J) (still H1 l') W := by
    refine ⟨?_, ?_, ?_, ?_, ?_⟩
    · intro id hid
      rw [still_ent] at hid
      have : ent H1 id = none := by
        cases h : ent H1 id with
        | none => rfl
        | some e => rw [h] at hid; cases hid
      simp [Gh.still, r1.none id this]
    · intro id e hid
      rw [still_ent] at hid
      obtain ⟨e0, he0, rfl⟩ := Option.map_eq_some_iff.1 hid
      obtain ⟨ge, hm, hok⟩ := r1.ok id e0 he0
      have hokW := hok.adv advS fun g h1 h2 => keep id ge g hm h1 h2
      refine ⟨(if id ∈ l' ∧ ge.st ≠ 0 then { ge with st := 1 } else ge), by simp only [Gh.still, hm, Option.map_some], ?_⟩
      by_cases hid' : id ∈ l'
      · rw [if_pos hid']
        by_cases h0 : ge.st = 0
        · rw [if_neg (fun h => h.2 h0)]
          rcases hokW with h | h
          · exact .inl ⟨h.1, rfl, h.2.2⟩
          · exfalso
            have := h.1
            rw [h0] at this
            split at this <;> cases this
        · rw [if_pos ⟨hid', h0⟩]
          rcases hokW with h | h
          · exact absurd h.1 h0
          · exact .inr ⟨rfl, h.2⟩
      · rw [if_neg hid', if_neg (fun h => hid' h.1)]
        exact hokW
    · intro i j x y b hi hj hx hy hbx hby
      obtain ⟨x0, h1, h2, h3, _⟩ := still_look hi
      obtain ⟨y0, k1, k2, k3, _⟩ := still_look hj
      exact r1.inj i j x0 y0 b h1 k1 (fun h => hx (h3.2 h)) (fun h => hy (k3.2 h)) (by rw [← h2]; exact hbx) (by rw [← k2]; exact hby)
    · intro b hb
      refine ⟨hJlt b hb, ?_⟩
      rintro ⟨id, ge, hm, hst2, hb2⟩
      obtain ⟨x, h1, h2, _, h4, _⟩ := still_look hm
      obtain ⟨h5, h6⟩ := h4 hst2
      have hx0 : x.st ≠ 0 := by rw [h6]; decide
      have hxb : x.blk = some b := by rw [← h2]; exact hb2
      have hg := g1.rev id x h1 hx0
      rcases hJn b hb with ⟨hI', hcase⟩ | h | h
      · rcases hI' with h | ⟨id', hid', ge', hm', hst', hb'⟩
        · exact (hh.imm b h).2 ⟨id, x, hg, h6, hxb⟩
        · have e := hh.inj id' id ge' x b hm' hg hst' hx0 hb' hxb
          subst e
          rcases hcase with h | h
          · exact (hh.imm b h).2 ⟨_, x, hg, h6, hxb⟩
          · rw [h] at h5; exact h5 hid'
      · exact (hos b h).2 id x h1 hx0 hxb
      · have := r1.blkLt h1 hx0 hxb; omega
    · intro id ge b hm hst1 hb
      obtain ⟨x, h1, h2, _, _, h5⟩ := still_look hm
      have hxb : x.blk = some b := by rw [← h2]; exact hb
      rcases h5 hst1 with h | ⟨h, h0⟩
      · exact hJ0 b (hh.stl id x b (g1.rev id x h1 (by rw [h]; decide)) h hxb)
      · exact hJl id h x b (g1.rev id x h1 h0) h0 hxb
  have hF : Fresh W (γ1.still l' J) os' := by
    refine ⟨hJos, fun b hb id ge hm hst0 hb' => ?_, hok'.ap⟩
    obtain ⟨x, h1, h2, h3, _⟩ := still_look hm
    have hx0 : x.st ≠ 0 := fun h => hst0 (h3.2 h)
    have hxb : x.blk = some b := by rw [← h2]; exact hb'
    rcases hst.own b hb with h | h
    · exact (hos b h).2 id x h1 hx0 hxb
    · have := r1.blkLt h1 hx0 hxb; omega
  obtain ⟨γ3, m3, r3, s3⟩ := lay_p (I := J) (γ1.still l' J) (still H1 l') os' r v rfl hS hvJ hF
  refine ⟨v, γ3, rfl, s3, r3, ⟨hst.osk, hst.tape, hst.output, hst.size, fun b hb hn => hst.keep b hb fun h => hn (hos b h).1, ?_, ?_, ?_⟩, ?_⟩
  · intro b hb
    rcases (m3.own b).1 hb with ⟨id, ge, h1, h2, h3⟩ | h
    · obtain ⟨x, k1, k2, _, k4, _⟩ := still_look h1
      have h6 := (k4 h2).2
      exact .inl ⟨id, x, g1.rev id x k1 (by rw [h6]; decide), h6, by rw [← k2]; exact h3⟩
    · exact (hst.own b h).imp (fun h => (hos b h).1) id
  · intro b hb
    rw [m3.imm]; exact hJ0 b hb
  · intro b hb
    rw [m3.imm] at hb
    rcases hJn b hb with ⟨h, _⟩ | h | h
    · rcases h with h | ⟨id, hid, ge, hm, hst0, hb'⟩
      · exact .inl h
      · rcases st_cases hh hm with h | h | h
        · exact absurd h hst0
        · exact .inl (hh.stl id ge b hm h hb')
        · exact .inr (.inl ⟨id, ge, hm, h, hb'⟩)
    · exact .inr (.inl (hos b h).1)
    · exact .inr (.inr h)
  · intro id ge hm
    obtain ⟨st, h1⟩ := g1.toIds id ge hm
    obtain ⟨st', h2⟩ := advS.id id _ h1
    exact ⟨st', m3.ids id _ h2⟩
/-- What is known at the boundary, among a caller's rows: the rows that are read off, are written by nobody any more. -/
theorem gen_still {xs ys : List AV} {ms : List Mode} {H1 : Hp} {l : List Nat} {f : FuncId} {r : AV} (hr : Run P f ys r) (hp : pass H ms xs = some (ys, H1, l)) (hlive : liveB H1 l = true) :
    Gen P f xs H (lay (still H1 l) r).1 (lay (still H1 l) r).2 :=
  ⟨hr.1, fun _ _ _ hh hl hs => gen_all hh hr hl hs hp hlive (.inl rfl)⟩
/-- .. or, where what comes back holds no memory, they are as they were. -/
theorem gen_plain {xs ys : List AV} {ms : List Mode} {H1 : Hp} {l : List Nat} {f : FuncId} {r : AV} (hr : Run P f ys r) (hp : pass H ms xs = some (ys, H1, l)) (hlive : liveB H1 l = true) (hpl : r.pT = true) :
    Gen P f xs H (lay H1 r).1 (lay H1 r).2 :=
  ⟨hr.1, fun _ _ _ hh hl hs => gen_all (l' := []) hh hr hl hs hp hlive (.inr ⟨rfl, hpl⟩)⟩
end
end Go.Pv
