/-
  The machine of plain values, 17: what is kept of a state; code in its order.
-/
import Derived.Test.YtabenkmiojjiiaaPvP
import Derived.Orders
set_option linter.unusedVariables false
set_option linter.unusedSimpArgs false
namespace Go.Pv
section
variable {P : Program} {n : Nat} {k : Bool} {γ0 γ γ' : Gh} {w0 w : World} {σ : St} {a : Act} {H H' : Hp}
theorem wanted_of {ops : Array Oper} {j t : Nat} {want b : Bool} (hj : (ops[j]?).bind (·.dst) = some t) {tmps : Array Value} (ht : tmps.getD t Go.undef = .bool b) : (yielded ops tmps j == some want) = (b == want) := by
  have : tmps[t]? = some (.bool b) := by
    rw [Array.getD_eq_getD_getElem?] at ht
    cases h : tmps[t]? with
    | none => rw [h] at ht; cases ht
    | some v => rw [h] at ht; simp at ht; rw [ht]
  simp only [yielded, hj, Option.bind_some, this]
  cases b <;> cases want <;> rfl
theorem aw2_sound {ops : Array Oper} {i : Nat} {o : Oper} {d : Bool} {base : Nat} {K : St → Prop} {Q : Exit → Act → World → Prop} (h : SR n k γ0 w0 γ σ a w) (ho : ops[i]? = some o) (hd : ∀ t, o.dst = some t → t < n)
    (hx : aw2 P base (comp2 P ops d i o) σ K) : wpOp P ops Q i (Up n k γ0 w0 K) a w := by
  unfold wpOp
  simp only [ho]
  unfold aw2 at hx
  cases hg : o.guard with
  | none =>
    have e1 : (comp2 P ops d i o).guard = none := by simp [comp2, hg]
    have e2 : (comp2 P ops d i o).op = compOp P d (if d then some i else none) o := by simp [comp2, hg]
    rw [e1] at hx
    rw [if_pos (by simp [Region.wanted, hg])]
    exact .inl (aw1_sound h e2 rfl hd hx)
  | some p =>
    obtain ⟨j, want⟩ := p
    cases hj : (ops[j]?).bind (·.dst) with
    | none =>
      have e1 : (comp2 P ops d i o).guard = none := by simp only [comp2, hg, hj]
      have e2 : (comp2 P ops d i o).op = .bad := by simp only [comp2, hg, hj]
      rw [e1] at hx
      simp only [aw1, e2] at hx
    | some t =>
      have e1 : (comp2 P ops d i o).guard = some (t, want) := by simp only [comp2, hg, hj]
      have e2 : (comp2 P ops d i o).op = compOp P d (if d then some i else none) o := by simp only [comp2, hg, hj]
      rw [e1] at hx
      dsimp only at hx
      split at hx
      case h_3 => exact hx.elim
      · rename_i b hb
        have hs := h.fr t
        rw [hb] at hs
        have hw := wanted_of (want := want) hj (bool_inv hs)
        have hw' : Region.wanted o (yielded ops a.tmps) = (b == want) := by simp only [Region.wanted, hg]; exact hw
        rw [hw']
        by_cases hbw : b = want
        · rw [if_pos hbw] at hx
          rw [if_pos (by simpa using hbw)]
          exact .inl (aw1_sound h e2 rfl hd hx)
        · rw [if_neg hbw] at hx
          rw [if_neg (by simpa using hbw)]
          exact ⟨γ, _, h.put' hd (.lit _), hx⟩
      · rename_i v hb
        have hs := h.fr t
        rw [hb] at hs
        have hv : a.tmps.getD t Go.undef = v := by
          generalize a.tmps.getD t Go.undef = u at hs
          cases hs; rfl
        have hw' : Region.wanted o (yielded ops a.tmps) = false := by
          simp only [Region.wanted, hg]
          have hy : yielded ops a.tmps j = none := by
            simp only [yielded, hj, Option.bind_some]
            cases hq : a.tmps[t]? with
            | none => rfl
            | some u =>
              rw [Array.getD_eq_getD_getElem?, hq] at hv
              simp only [Option.getD_some] at hv
              subst hv
              cases u <;> first | rfl | cases hx.1
          rw [hy]; rfl
        rw [hw', if_neg (by simp)]
        exact ⟨γ, _, h.put' hd (.lit _), hx.2⟩
theorem comp2_dst (ops : Array Oper) (d : Bool) (i : Nat) (o : Oper) : (comp2 P ops d i o).dst = o.dst := rfl
theorem awOps_sound {ops : Array Oper} {base : Nat} {K : St → Prop} {Q : Exit → Act → World → Prop} (hQ : ∀ a w, Up n k γ0 w0 K a w → Q .normal a w) : ∀ (l : List Oper) (q : Nat) (γ : Gh) (σ : St) (a : Act) (w : World),
    (∀ j, l[j]? = ops[q + j]?) → (∀ o ∈ l, ∀ t, o.dst = some t → t < n) → SR n k γ0 w0 γ σ a w → awOps P base ((l.zipIdx q).map fun p => comp2 P ops false p.2 p.1) σ K → wpOps P ops Q (List.range' q l.length) a w
  | [], q, γ, σ, a, w, _, _, h, hx => hQ a w ⟨γ, σ, h, hx⟩
  | o :: l, q, γ, σ, a, w, hl, hd, h, hx => by
    have ho : ops[q]? = some o := by have := hl 0; simpa using this.symm
    simp only [List.zipIdx_cons, List.map_cons, awOps] at hx
    rw [List.length_cons, List.range'_succ, wpOps_cons]
    refine wpOp_mono ?_ (aw2_sound h ho (hd o (by simp)) hx)
    rintro a' w' ⟨γ', σ', h', hx'⟩
    exact awOps_sound hQ l (q + 1) γ' σ' a' w' (fun j => by have := hl (j + 1); simpa [Nat.add_assoc, Nat.add_comm 1] using this) (fun o ho => hd o (by simp [ho])) h' hx'

/-! ### What is kept -/
theorem get_map (fr : Fr) : ∀ (ks : List Nat) (t : Nat), get (ks.map fun k => (k, get fr k)) t = get fr t ∨ get (ks.map fun k => (k, get fr k)) t = .undef
  | [], t => .inr rfl
  | k :: ks, t => by
    simp only [List.map_cons, get]
    by_cases h : k = t
    · rw [if_pos h, h]; exact .inl rfl
    · rw [if_neg h]; exact get_map fr ks t
theorem mapO_len {f : AV → Option AV} : ∀ {xs ys : List AV}, mapO f xs = some ys → ys.length = xs.length
  | [], ys, h => by simp only [mapO, Option.some.injEq] at h; subst h; rfl
  | x :: xs, ys, h => by
    simp only [mapO] at h
    obtain ⟨y, _, h⟩ := Option.bind_eq_some_iff.1 h
    obtain ⟨zs, hz, rfl⟩ := Option.map_eq_some_iff.1 h
    simp [mapO_len hz]
theorem mapO_at {f : AV → Option AV} : ∀ {xs ys : List AV}, mapO f xs = some ys → ∀ (i : Nat) (y : AV), ys[i]? = some y → ∃ x, xs[i]? = some x ∧ f x = some y
  | [], ys, h, i, y, hy => by simp only [mapO, Option.some.injEq] at h; subst h; simp at hy
  | x :: xs, ys, h, i, y, hy => by
    simp only [mapO] at h
    obtain ⟨z, hz0, h⟩ := Option.bind_eq_some_iff.1 h
    obtain ⟨zs, hz, rfl⟩ := Option.map_eq_some_iff.1 h
    cases i with
    | zero => simp at hy; subst hy; exact ⟨x, rfl, hz0⟩
    | succ i => exact mapO_at hz i y (by simpa using hy)
theorem frzRow_sound (h : SR n k γ0 w0 γ σ a w) (id : Nat) : ∃ γ', SR n k γ0 w0 γ' (frzRow σ id) a w := by
  unfold frzRow
  split
  case h_2 => exact ⟨γ, h⟩
  rename_i e he
  split
  case h_2 => exact ⟨γ, h⟩
  rename_i es hes
  split
  case isTrue => exact ⟨γ, h⟩
  rename_i hni
  generalize hl : e.es.flatMap (rows σ.hp deep) = l at hni ⊢
  have hid : id ∉ l := by simpa using hni
  have hh := h.hp
  let J : Nat → Prop := fun b => γ.imm b ∨ ∃ i ∈ l, ∃ ge, γ.m i = some ge ∧ ge.st ≠ 0 ∧ ge.blk = some b
  have adv : Adv γ (γ.still l J) w w := ⟨Nat.le_refl _, fun b hb => ⟨.inl hb, fun _ => rfl⟩, fun i ge hm => by
    simp only [Gh.still, hm, Option.map_some]
    split
    · exact ⟨1, rfl⟩
    · exact ⟨ge.st, rfl⟩⟩
  have advJ : Adv (bareG J) (γ.still l J) w w := ⟨Nat.le_refl _, fun b hb => ⟨hb, fun _ => rfl⟩, fun i ge hm => by cases hm⟩
  have hset : ∀ j, Pv.ent (σ.hp.set id (some { e with es := es })) j = if j = id then some { e with es := es } else Pv.ent σ.hp j := fun j => ent_set (e' := { e with es := es }) he j
  have hR : HRel (γ.still l J) (still (σ.hp.set id (some { e with es := es })) l) w := by
    refine ⟨?_, ?_, ?_, ?_, ?_⟩
    · intro i hi
      rw [still_ent, hset] at hi
      by_cases hj : i = id
      · rw [if_pos hj] at hi; cases hi
      · rw [if_neg hj] at hi
        have : Pv.ent σ.hp i = none := by
          cases h : Pv.ent σ.hp i with
          | none => rfl
          | some e => rw [h] at hi; cases hi
        simp [Gh.still, hh.none i this]
    · intro i e1 hi
      rw [still_ent, hset] at hi
      by_cases hj : i = id
      · subst hj
        rw [if_pos rfl] at hi
        simp only [Option.map_some, Option.some.injEq, if_neg hid] at hi
        subst hi
        obtain ⟨ge, hm, hok⟩ := hh.ok i e he
        refine ⟨ge, by simp [Gh.still, hm, hid], ?_⟩
        have hlen := mapO_len hes
        rcases hok with h0 | h0
        · refine .inl ⟨h0.1, h0.2.1, ?_⟩
          have := h0.2.2
          rw [this] at hlen
          exact List.eq_nil_of_length_eq_zero (by simpa using hlen)
        · have hok2 : EntOk w γ e ge := .inr h0
          refine .inr ⟨h0.1, ?_⟩
          rcases h0.2 with h1 | ⟨g, cs, fr, h1, h2, h3, h4, h5, h6⟩
          · refine .inl ⟨h1.1, ?_, h1.2.2⟩
            rw [h1.2.1] at hlen
            exact List.eq_nil_of_length_eq_zero (by simpa using hlen)
          · refine .inr ⟨g, cs, fr, h1, h2, h3, h4, by rw [hlen]; exact h5, fun q x hx => ?_⟩
            obtain ⟨x0, hx0, hsn⟩ := mapO_at hes q x hx
            have hHold : Holds γ (rows σ.hp deep x0) J := by
              intro i2 hi2 ge2 b2 g1 g2 g3
              refine .inr ⟨i2, ?_, ge2, g1, g2, g3⟩
              rw [← hl]
              exact List.mem_flatMap.2 ⟨x0, List.mem_of_getElem? hx0, hi2⟩
            obtain ⟨p1, p2⟩ := elem_snap hh (fun b hb => Or.inl hb) hok2 h1 hx0 hsn hHold
            refine ⟨p1, fun j y hy => ?_⟩
            obtain ⟨u, c1, c2, c3⟩ := p2 j y hy
            refine ⟨u, ?_, c2, c3.adv advJ⟩
            simpa [World.cell?, h2] using c1
      · rw [if_neg hj] at hi
        obtain ⟨e0, he0, rfl⟩ := Option.map_eq_some_iff.1 hi
        obtain ⟨ge, hm, hok⟩ := hh.ok i e0 he0
        have hokW := hok.adv adv fun g _ _ => rfl
        refine ⟨(if i ∈ l ∧ ge.st ≠ 0 then { ge with st := 1 } else ge), by simp only [Gh.still, hm, Option.map_some], ?_⟩
        by_cases hid' : i ∈ l
        · rw [if_pos hid']
          by_cases h0 : ge.st = 0
          · rw [if_neg (fun h => h.2 h0)]
            rcases hokW with h | h
            · exact .inl ⟨h.1, rfl, h.2.2⟩
            · exfalso
              have := h.1
              rw [h0] at this
              split at this <;> cases this
          · rw [if_pos ⟨hid', h0⟩]
            rcases hokW with h | h
            · exact absurd h.1 h0
            · exact .inr ⟨rfl, h.2⟩
        · rw [if_neg hid', if_neg (fun h => hid' h.1)]
          exact hokW
    · intro i j x y b hi hj hx hy hbx hby
      obtain ⟨x0, h1, h2, h3, _⟩ := still_look hi
      obtain ⟨y0, k1, k2, k3, _⟩ := still_look hj
      exact hh.inj i j x0 y0 b h1 k1 (fun h => hx (h3.2 h)) (fun h => hy (k3.2 h)) (by rw [← h2]; exact hbx) (by rw [← k2]; exact hby)
    · intro b hb
      refine ⟨?_, ?_⟩
      · rcases hb with hb | ⟨i, _, ge, h1, h2, h3⟩
        · exact (hh.imm b hb).1
        · exact hh.blkLt h1 h2 h3
      · rintro ⟨i, ge, hm, hst2, hb2⟩
        obtain ⟨x, h1, h2, _, h4, _⟩ := still_look hm
        obtain ⟨h5, h6⟩ := h4 hst2
        have hx0 : x.st ≠ 0 := by rw [h6]; decide
        have hxb : x.blk = some b := by rw [← h2]; exact hb2
        rcases hb with hb | ⟨i', hi', ge', hm', hst', hb'⟩
        · exact (hh.imm b hb).2 ⟨i, x, h1, h6, hxb⟩
        · have e := hh.inj i' i ge' x b hm' h1 hst' hx0 hb' hxb
          subst e
          exact h5 hi'
    · intro i ge b hm hst1 hb
      obtain ⟨x, h1, h2, _, _, h5⟩ := still_look hm
      have hxb : x.blk = some b := by rw [← h2]; exact hb
      rcases h5 hst1 with h | ⟨h, h0⟩
      · exact .inl (hh.stl i x b h1 h hxb)
      · exact .inr ⟨i, h, x, h1, h0, hxb⟩
  have hids : Ids γ (γ.still l J) := adv.id
  have hst : Step γ (γ.still l J) w w := ⟨rfl, rfl, rfl, Nat.le_refl _, fun _ _ _ => rfl, fun b ⟨i, ge, h1, h2, h3⟩ => by
      obtain ⟨x, k1, k2, _, k4, _⟩ := still_look h1
      exact .inl ⟨i, x, k1, (k4 h2).2, by rw [← k2]; exact h3⟩, fun b hb => .inl hb, fun b hb => by
      rcases hb with hb | ⟨i, _, ge, h1, h2, h3⟩
      · exact .inl hb
      · rcases st_cases hh h1 with h | h | h
        · exact absurd h h2
        · exact .inl (hh.stl i ge b h1 h h3)
        · exact .inr (.inl ⟨i, ge, h1, h, h3⟩)⟩
  exact ⟨_, fun t => (h.fr t).adv adv, hR, h.st.trans hst, h.df, h.sz, fun hk => (h.ids hk).trans hids⟩
theorem frzSlot_sound (h : SR n k γ0 w0 γ σ a w) (x : AV) : ∃ γ', SR n k γ0 w0 γ' (frzSlot σ x) a w := by
  unfold frzSlot
  split
  · exact frzRow_sound h _
  · exact frzRow_sound h _
  · exact ⟨γ, h⟩
theorem rowOne_sound (h : SR n k γ0 w0 γ σ a w) (r : Nat × Nat × TypeId) : ∃ γ', SR n k γ0 w0 γ' (rowOne σ r) a w := by
  unfold rowOne
  split
  · exact frzSlot_sound h _
  split
  · rename_i sz hg
    have hs := h.fr r.1
    rw [hg] at hs
    have hn : new 0 none σ.hp ⟨r.2.2, [], true⟩ = some (σ.hp.length, σ.hp ++ [some ⟨r.2.2, [], true⟩]) := rfl
    obtain ⟨h1, h2, h3⟩ := hrel_new h.hp hn (w' := w) (ge := ⟨none, r.2.1, 0, 2⟩) rfl ⟨rfl, rfl, rfl, Nat.le_refl _, fun _ _ _ => rfl⟩ (fun _ _ => rfl) (fun g hg => by cases hg) (fun _ => .inr ⟨rfl, .inl ⟨rfl, rfl, rfl⟩⟩)
    refine ⟨_, ?_, h1, h.st.trans h2, h.df, h.sz, fun hk => (h.ids hk).trans h3⟩
    intro t
    rw [get_put]
    by_cases ht : r.1 = t
    · rw [if_pos ht, ← ht]
      generalize a.tmps.getD r.1 Go.undef = v at hs
      cases hs with
      | sl _ _ _ _ _ _ _ hp => simp at hp
      | sl0 _ _ A cap hc =>
        rw [hc rfl]
        exact .vec _ _ 0 0 A 0 _ (Gh.add_same _ _ _) rfl (Nat.le_refl _) rfl (fun _ => rfl) (fun g hg _ => by cases hg)
    · rw [if_neg ht]
      exact (h.fr t).adv (h2.adv h3 h.hp.imm)
  · exact ⟨γ, h⟩
theorem rows_sound : ∀ (l : List (Nat × Nat × TypeId)) (γ : Gh) (σ : St), SR n k γ0 w0 γ σ a w → ∃ γ', SR n k γ0 w0 γ' (l.foldl rowOne σ) a w
  | [], γ, σ, h => ⟨γ, h⟩
  | r :: l, γ, σ, h => by
    obtain ⟨γ1, h1⟩ := rowOne_sound h r
    exact rows_sound l γ1 _ h1
theorem dedup_nodup : ∀ (l acc : List Nat), acc.Nodup → (dedup acc l).Nodup
  | [], acc, h => by
    simp only [dedup, List.Nodup, List.pairwise_reverse]
    exact h.imp fun h e => h e.symm
  | x :: l, acc, h => by
    simp only [dedup]
    split
    · exact dedup_nodup l acc h
    · rename_i hx
      exact dedup_nodup l (x :: acc) (List.nodup_cons.2 ⟨by simpa using hx, h⟩)
theorem place_get : ∀ (l : List Nat) (id i : Nat), place l id = some i → l[i]? = some id
  | [], _, _, h => by cases h
  | x :: l, id, i, h => by
    simp only [place] at h
    split at h
    · rename_i hx; cases h; simp [hx]
    · obtain ⟨j, hj, rfl⟩ := Option.map_eq_some_iff.1 h
      simpa using place_get l id j hj
/-- Only the rows l, in this order. -/
def Gh.only (γ : Gh) (l : List Nat) : Gh := ⟨fun i => (l[i]?).bind γ.m, γ.imm⟩
theorem Sim.ren {l : List Nat} : ∀ (k : Nat) {x : AV} {v : Value}, Sim w γ x v → Sim w (γ.only l) (renX l k x) v
  | 0, x, v, _ => .undef v
  | k + 1, x, v, h => by
    cases h with
    | undef v => exact .undef v
    | bool b => exact .bool b
    | anyb b => exact .anyb b
    | int k n => exact .int k n
    | str s => exact .str s
    | lit v => exact .lit v
    | sl0 sz full A cap hc => exact .sl0 sz full A cap hc
    | sl sz es full b off cap U hp hc hf hb hi hz hcell hs => exact .sl sz es full b off cap U hp hc hf hb hi hz hcell hs
    | rptr x off b o U hb hi hcell hs => exact .rptr x off b o U hb hi hcell hs
    | vec id sz off len A cap ge hm hz hlC hcC hN hA =>
      simp only [renX]
      split
      · rename_i i hi
        exact .vec i sz off len A cap ge (by simp [Gh.only, place_get l id i hi, hm]) hz hlC hcC hN hA
      · exact .undef _
    | eptr id i off g ge hm hg =>
      simp only [renX]
      split
      · rename_i j hj
        exact .eptr j i off g ge (by simp [Gh.only, place_get l id j hj, hm]) hg
      · exact .undef _
    | fn f xs cs hz hs =>
      refine .fn f _ cs (by simpa using hz) fun i x v hx hv => ?_
      rw [List.getElem?_map] at hx
      obtain ⟨y, hy, rfl⟩ := Option.map_eq_some_iff.1 hx
      exact Sim.ren k (hs i y v hy hv)
    | agg xs cs hz hs =>
      refine .agg _ cs (by simpa using hz) fun i x v hx hv => ?_
      rw [List.getElem?_map] at hx
      obtain ⟨y, hy, rfl⟩ := Option.map_eq_some_iff.1 hx
      exact Sim.ren k (hs i y v hy hv)
    | tup xs cs hz hs =>
      refine .tup _ cs (by simpa using hz) fun i x v hx hv => ?_
      rw [List.getElem?_map] at hx
      obtain ⟨y, hy, rfl⟩ := Option.map_eq_some_iff.1 hx
      exact Sim.ren k (hs i y v hy hv)
theorem ren_flat (l : List Nat) (k : Nat) (x : AV) : ∃ q, (renX l (k + 1) x).flat = x.flat.map (renX l q) := by
  by_cases hx : ∃ cs, x = .agg cs
  · obtain ⟨cs, rfl⟩ := hx
    exact ⟨k, rfl⟩
  · have hx' : ∀ cs, x ≠ .agg cs := fun cs e => hx ⟨cs, e⟩
    refine ⟨k + 1, ?_⟩
    rw [flat_one hx']
    have : ∀ cs, renX l (k + 1) x ≠ .agg cs := by
      intro cs e
      cases x <;> simp only [renX] at e <;> try (cases e; done)
      · split at e <;> cases e
      · split at e <;> cases e
      · exact hx' _ rfl
    rw [flat_one this]; rfl
theorem get_mapv (f : AV → AV) (hf : f .undef = .undef) : ∀ (fr : Fr) (t : Nat), get (fr.map fun p => (p.1, f p.2)) t = f (get fr t)
  | [], t => by simp [get, hf]
  | (k, x) :: r, t => by
    simp only [List.map_cons, get]
    split
    · rfl
    · exact get_mapv f hf r t
theorem gc_sound (h : SR n k γ0 w0 γ σ a w) (hk : k = false) : ∃ γ', SR n k γ0 w0 γ' (gcSt σ) a w := by
  unfold gcSt
  generalize hl : dedup [] (σ.fr.flatMap fun p => idsOf σ.hp deep p.2) = l
  have hnd : l.Nodup := by rw [← hl]; exact dedup_nodup _ _ List.nodup_nil
  have hown : ∀ b, (γ.only l).owns b → γ.owns b := by
    rintro b ⟨i, ge, h1, h2, h3⟩
    simp only [Gh.only] at h1
    obtain ⟨id, _, hm⟩ := Option.bind_eq_some_iff.1 h1
    exact ⟨id, ge, hm, h2, h3⟩
  have hent : ∀ i, ent (l.map fun id => renE l (ent σ.hp id)) i = ((l[i]?).bind fun id => ent σ.hp id).map fun e => { e with es := e.es.map (renX l deep) } := by
    intro i
    simp only [ent, List.getElem?_map]
    cases l[i]? with
    | none => rfl
    | some id => simp [renE, ent]
  refine ⟨γ.only l, ?_, ⟨?_, ?_, ?_, ?_, ?_⟩, ?_, h.df, h.sz, fun h => by rw [hk] at h; cases h⟩
  · intro t
    rw [get_mapv (renX l deep) rfl]
    exact (h.fr t).ren deep
  · intro i hi
    rw [hent] at hi
    simp only [Gh.only]
    cases hli : l[i]? with
    | none => rfl
    | some id =>
      rw [hli] at hi
      simp only [Option.bind_some, Option.map_eq_none_iff] at hi
      exact h.hp.none id hi
  · intro i e hi
    rw [hent] at hi
    obtain ⟨e0, he0, rfl⟩ := Option.map_eq_some_iff.1 hi
    obtain ⟨id, hid, he0⟩ := Option.bind_eq_some_iff.1 he0
    obtain ⟨ge, hm, hok⟩ := h.hp.ok id e0 he0
    refine ⟨ge, by simp [Gh.only, hid, hm], ?_⟩
    rcases hok with ⟨h1, h2, h3⟩ | ⟨h1, h2⟩
    · exact .inl ⟨h1, h2, by simp [h3]⟩
    · refine .inr ⟨h1, ?_⟩
      rcases h2 with ⟨k1, k2, k3⟩ | ⟨g, cs, fr, k1, k2, k3, k4, k5, k6⟩
      · exact .inl ⟨k1, by simp [k2], k3⟩
      · refine .inr ⟨g, cs, fr, k1, k2, k3, k4, by simpa using k5, fun j x hx => ?_⟩
        rw [List.getElem?_map] at hx
        obtain ⟨y, hy, rfl⟩ := Option.map_eq_some_iff.1 hx
        obtain ⟨q, hq⟩ := ren_flat l 5 y
        have hq' : (renX l deep y).flat = y.flat.map (renX l q) := hq
        rw [hq']
        refine ⟨by simpa using (k6 j y hy).1, fun j' z hz => ?_⟩
        rw [List.getElem?_map] at hz
        obtain ⟨z0, hz0, rfl⟩ := Option.map_eq_some_iff.1 hz
        obtain ⟨u, u1, u2, u3⟩ := (k6 j y hy).2 j' z0 hz0
        exact ⟨u, u1, u2, u3.ren q⟩
  · intro i j x y b hi hj hx hy hbx hby
    simp only [Gh.only] at hi hj
    obtain ⟨id, h1, h2⟩ := Option.bind_eq_some_iff.1 hi
    obtain ⟨id', k1, k2⟩ := Option.bind_eq_some_iff.1 hj
    have e := h.hp.inj id id' x y b h2 k2 hx hy hbx hby
    subst e
    obtain ⟨l1, l2⟩ := List.getElem?_eq_some_iff.1 h1
    obtain ⟨m1, m2⟩ := List.getElem?_eq_some_iff.1 k1
    exact (List.getElem_inj hnd).1 (l2.trans m2.symm)
  · intro b hb
    exact ⟨(h.hp.imm b hb).1, fun h1 => (h.hp.imm b hb).2 (hown b h1)⟩
  · intro i ge b hi hs hb
    simp only [Gh.only] at hi
    obtain ⟨id, _, h2⟩ := Option.bind_eq_some_iff.1 hi
    exact h.hp.stl id ge b h2 hs hb
  · exact ⟨h.st.os, h.st.tape, h.st.output, h.st.size, h.st.keep, fun b hb => h.st.own b (hown b hb), h.st.immk, h.st.immn⟩
theorem trim_sound (h : SR n k γ0 w0 γ σ a w) (tr : Option Trim) (ht : okT k tr = true) : ∃ γ', SR n k γ0 w0 γ' (trim tr σ) a w := by
  cases tr with
  | none => exact ⟨γ, h⟩
  | some t =>
    simp only [trim]
    have h1 : SR n k γ0 w0 γ ⟨t.ks.map fun k => (k, get σ.fr k), σ.hp⟩ a w := ⟨fun u => by
      rcases get_map σ.fr t.ks u with e | e
      · rw [e]; exact h.fr u
      · rw [e]; exact .undef _, h.hp, h.st, h.df, h.sz, h.ids⟩
    obtain ⟨γ1, h2⟩ := rows_sound t.nils γ _ h1
    split
    · rename_i hg
      refine gc_sound h2 ?_
      cases k with
      | false => rfl
      | true => simp [okT, hg] at ht
    · exact ⟨γ1, h2⟩
end
end Go.Pv
