/-
  The machine of plain values, 27: what is handed over may be read off at once.
-/
import Derived.Test.YtabenkmiojjiiaaPvZB
namespace Go.Pv
def frzC : AV → AV
  | .own sz _ es => .sl sz es false
  | x => x
def frzA : AV → AV
  | .agg cs => .agg (cs.map frzC)
  | x => frzC x
/-- Rows that are handed over, taken for memory that nobody writes any more. -/
def frz : AV → AV
  | .tup xs => .tup (xs.map frzA)
  | x => frzA x
section
variable {P : Program} {w : World} {I J : Nat → Prop}
theorem frz_own {ge : GE} {sz : Nat} {ty : TypeId} {es : List AV} {v : Value} (h : OwnRow w I ge sz ty es v) (hI : ∀ b, I b → J b) (hb : ∀ b, ge.blk = some b → J b ∧ b < w.heap.size) : Sim w (bareG J) (.sl sz es false) v := by
  obtain ⟨A, rfl, hA⟩ := h.val
  have hsz := h.sz
  rcases h.ok with ⟨h1, h2, _⟩ | ⟨_, h2⟩
  · cases h2
  · rcases Nat.eq_zero_or_pos es.length with h0 | h0
    · have : es = [] := List.eq_nil_of_length_eq_zero h0
      subst this
      exact .sl0 sz false A _ fun h => by cases h
    · rcases h2 with ⟨_, h3, _⟩ | ⟨g, cs, fr, h2, h3, h4, h5, h6, h7⟩
      · dsimp only at h3; rw [h3] at h0; cases h0
      · dsimp only at h3 h6 h7
        obtain rfl := hA g h2
        have ad : Adv (bareG I) (bareG J) w w := ⟨Nat.le_refl _, fun b hb => ⟨hI b hb, fun _ => rfl⟩, fun id ge hm => by cases hm⟩
        have key : ∀ (i : Nat) (x : AV) (j : Nat) (y : AV), es[i]? = some x → x.flat[j]? = some y → ∃ u, cs[i * ge.sz + j]? = some u ∧ u.oneCell' = true ∧ Sim w (bareG J) y u := by
          intro i x j y hx hy
          obtain ⟨u, u1, u2, u3⟩ := (h7 i x hx).2 j y hy
          exact ⟨u, u1, u2, u3.adv ad⟩
        have hle := h.le
        refine .sl sz es false g 0 ge.C (fun i j => (cs[i * sz + j]?).getD .nilIface) h0 hle (fun h => by cases h) (hb g h2).2 (hb g h2).1 ?_ ?_ ?_
        · intro x hx
          obtain ⟨i, hi⟩ := List.mem_iff_getElem?.1 hx
          rw [(h7 i x hi).1, hsz]
        · intro i x j y hx hy
          obtain ⟨u, u1, u2, u3⟩ := key i x j y hx hy
          rw [hsz] at u1
          simp only [u1, Option.getD_some]
          refine ⟨?_, u2⟩
          simp [World.cell?, h3, u1]
        · intro i x j y hx hy
          obtain ⟨u, u1, u2, u3⟩ := key i x j y hx hy
          rw [hsz] at u1
          simp only [u1, Option.getD_some]
          exact u3
theorem frz_C {os : List GE} {x : AV} {v : Value} (h : OwnC w I os x v) (hI : ∀ b, I b → J b) (hb : ∀ b, blks os b → J b ∧ b < w.heap.size) : OwnC w J [] (frzC x) v := by
  have ad : Adv (bareG I) (bareG J) w w := ⟨Nat.le_refl _, fun b hb => ⟨hI b hb, fun _ => rfl⟩, fun id ge hm => by cases hm⟩
  unfold OwnC at h
  split at h
  · obtain ⟨ge, rfl, h⟩ := h
    exact ⟨rfl, frz_own h hI fun b hbb => hb b ⟨ge, by simp, hbb⟩⟩
  · rename_i hne
    have e : frzC x = x := by cases x <;> first | rfl | exact absurd rfl (hne _ _ _)
    rw [e]
    unfold OwnC
    split
    · exact absurd rfl (hne _ _ _)
    · exact ⟨rfl, h.2.adv ad⟩
theorem frz_L {R R' : List GE → AV → Value → Prop} {f : AV → AV} {os : List GE} {xs : List AV} {vs : List Value} (h : OwnL R os xs vs) :
    (∀ os' x v, (∀ b, blks os' b → blks os b) → R os' x v → R' [] (f x) v) → OwnL R' [] (xs.map f) vs := by
  induction h with
  | nil => intro _; exact .nil
  | @cons o1 o2 x xs v vs h1 h2 ih =>
    intro hR
    exact OwnL.cons (os := []) (os' := []) (hR _ _ _ (fun b hb => blks_app.2 (.inl hb)) h1) (ih fun os' x v hs hr => hR os' x v (fun b hb => blks_app.2 (.inr (hs b hb))) hr)
theorem frz_A {os : List GE} {x : AV} {v : Value} (h : OwnA w I os x v) (hI : ∀ b, I b → J b) (hb : ∀ b, blks os b → J b ∧ b < w.heap.size) : OwnA w J [] (frzA x) v := by
  unfold OwnA at h
  split at h
  · obtain ⟨cs, rfl, h⟩ := h
    exact ⟨cs, rfl, frz_L h fun os' x v hs hr => frz_C hr hI fun b hb' => hb b (hs b hb')⟩
  · rename_i hne
    have e : frzA x = frzC x := by cases x <;> first | rfl | exact absurd rfl (hne _)
    have hC := frz_C h hI hb
    rw [e]
    unfold OwnA
    split
    · rename_i xs heq
      cases x <;> first | (cases heq; done) | exact absurd rfl (hne _)
    · exact hC
theorem frz_T {os : List GE} {x : AV} {v : Value} (h : OwnT w I os x v) (hI : ∀ b, I b → J b) (hb : ∀ b, blks os b → J b ∧ b < w.heap.size) : OwnT w J [] (frz x) v := by
  unfold OwnT at h
  split at h
  · obtain ⟨cs, rfl, h⟩ := h
    exact ⟨cs, rfl, frz_L h fun os' x v hs hr => frz_A hr hI fun b hb' => hb b (hs b hb')⟩
  · rename_i hne
    have e : frz x = frzA x := by cases x <;> first | rfl | exact absurd rfl (hne _)
    have hC := frz_A h hI hb
    rw [e]
    unfold OwnT
    split
    · rename_i xs heq
      cases x <;> first | (cases heq; done) | exact absurd rfl (hne _)
    · exact hC
/-- A call's result, read off. -/
theorem run_frz {f : FuncId} {xs : List AV} {r : AV} (h : Run P f xs r) : Run P f xs (frz r) := by
  refine ⟨h.1, fun w I os args hos hown => (h.2 w I os args hos hown).mono ?_⟩
  rintro e W ⟨v, I', os', rfl, hv, hok, hst⟩
  refine ⟨v, fun b => I' b ∨ blks os' b, [], rfl, frz_T hv (fun b hb => .inl hb) (fun b hb => ⟨.inr hb, hok.lt b hb⟩), ⟨?_, fun b hb => absurd hb (blks_nil b), .nil⟩, ⟨hst.osk, hst.tape, hst.output, hst.size, hst.keep, fun b hb => absurd hb (blks_nil b), fun b hb => .inl (hst.immk b hb), ?_⟩⟩
  · rintro b (hb | hb)
    · exact ⟨(hok.imm b hb).1, blks_nil b⟩
    · exact ⟨hok.lt b hb, blks_nil b⟩
  · rintro b (hb | hb)
    · exact hst.immn b hb
    · exact .inr (hst.own b hb)
end
/-! ### Loads beside rows that grow -/
def stepL (c : Bool) (o : Option AV) (d : Option Nat) (k : St → Prop) (fr : Fr) (hp : Hp) : Prop := c = true ∧ stepP o d k fr hp
theorem stepL_true {o : Option AV} {d : Option Nat} {k : St → Prop} {fr : Fr} {hp : Hp} : stepL true o d k fr hp = stepP o d k fr hp := by simp [stepL]
def noLoadV (no : List TypeId) (hp : Hp) (x : AV) : Bool := match x with
  | .eptr id _ _ => match ent hp id with
    | some e => !no.contains e.ty
    | none => true
  | _ => true
section
variable {P : Program} {N : St → Prop} {fr : Fr} {hp : Hp} {base : Nat}
theorem noLoad_load {no : List TypeId} {n : Nat} {a : Bool} {x : AX} : noLoad no fr hp (.load n a x) = noLoadV no hp (x.ev fr) := (rfl)
theorem noLoad_b2s {no : List TypeId} {x : AX} : noLoad no fr hp (.b2s x) = true := (rfl)
theorem noLoadV_rptr {no : List TypeId} {x : AV} {o : Nat} : noLoadV no hp (.rptr x o) = true := (rfl)
theorem noLoadV_eptr {no : List TypeId} {id i o : Nat} : noLoadV no hp (.eptr id i o) = (match ent hp id with | some e => !no.contains e.ty | none => true) := (rfl)
theorem awR_rl {d : Option Nat} {q : OpR} {fm : Bool} {t : TypeId} {no : List TypeId} {r : List Op2} : awR P base (⟨d, none, .r q, fm, t :: no⟩ :: r) N ⟨fr, hp⟩ = stepL (noLoad (t :: no) fr hp q) (evR fr hp q) d (awR P base r N) fr hp := by
  simp only [awR, awOps, aw2, aw1, stepL, stepP, St.put]
  generalize evR fr hp q = v
  cases v <;> simp
end
/-! ### Parts of slices and texts -/
theorem ev_t {fr : Fr} {n : Nat} : AX.ev fr (.t n) = get fr n := (rfl)
theorem ev_c {fr : Fr} {v : AV} : AX.ev fr (.c v) = v := (rfl)
def slV (sz : Nat) (x : AV) (lo hi mx : Option AV) : Option AV := match x with
    | .sl sz' es full => if sz = sz' ∨ es = [] then match mx with
        | none => (boundO es.length es.length hi).bind fun h => (boundO h 0 lo).map fun l => .sl sz' ((es.take h).drop l) (full && decide (h = es.length))
        | some m => (bound es.length m).bind fun m => (hi.bind fun h => bound m h).bind fun h => (boundO h 0 lo).map fun l => .sl sz' ((es.take h).drop l) (decide (m = h))
      else none
    | .vec id sz' off len => if sz = sz' then match mx with
        | none => (boundO len len hi).bind fun h => (boundO h 0 lo).map fun l => .vec id sz' (off + l) (h - l)
        | some m => (bound len m).bind fun m => (hi.bind fun h => bound m h).bind fun h => (boundO h 0 lo).map fun _ => .undef
      else none
    | _ => none
section
variable {fr : Fr} {sz : Nat} {x lo hi mx : AX}
theorem evP_slv00 : evP fr (.slicev sz x none none none) = slV sz (x.ev fr) none none none := (rfl)
theorem evP_slv10 : evP fr (.slicev sz x (some lo) none none) = slV sz (x.ev fr) (some (lo.ev fr)) none none := (rfl)
theorem evP_slv01 : evP fr (.slicev sz x none (some hi) none) = slV sz (x.ev fr) none (some (hi.ev fr)) none := (rfl)
theorem evP_slv11 : evP fr (.slicev sz x (some lo) (some hi) none) = slV sz (x.ev fr) (some (lo.ev fr)) (some (hi.ev fr)) none := (rfl)
theorem evP_slv011 : evP fr (.slicev sz x none (some hi) (some mx)) = slV sz (x.ev fr) none (some (hi.ev fr)) (some (mx.ev fr)) := (rfl)
theorem evP_slv111 : evP fr (.slicev sz x (some lo) (some hi) (some mx)) = slV sz (x.ev fr) (some (lo.ev fr)) (some (hi.ev fr)) (some (mx.ev fr)) := (rfl)
end
section
variable {sz id off len : Nat} {es : List AV} {full : Bool} {k k' k'' : IntKind} {l h m : Int}
theorem slV00 : slV sz (.sl sz es full) none none none = some (.sl sz es full) := by simp [slV, boundO]
theorem slV10 (h0 : 0 ≤ l) (h1 : l ≤ es.length) : slV sz (.sl sz es full) (some (.int k l)) none none = some (.sl sz (es.drop l.toNat) full) := by
  simp [slV, boundO, bound_in h0 h1]
theorem slV01 (h0 : 0 ≤ h) (h1 : h ≤ es.length) : slV sz (.sl sz es full) none (some (.int k h)) none = some (.sl sz (es.take h.toNat) (full && decide (h = es.length))) := by
  simp only [slV, boundO, bound_in h0 h1, true_or, if_true, Option.bind_some, Option.map_some, List.drop_zero]
  congr 3; rw [decide_eq_decide]; omega
theorem slV11 (h0 : 0 ≤ l) (h1 : l ≤ h) (h2 : h ≤ es.length) : slV sz (.sl sz es full) (some (.int k l)) (some (.int k' h)) none = some (.sl sz ((es.take h.toNat).drop l.toNat) (full && decide (h = es.length))) := by
  simp only [slV, boundO, bound_in (Int.le_trans h0 h1) h2, bound_in (n := h.toNat) (k := k) h0 (by omega), true_or, if_true, Option.bind_some, Option.map_some]
  congr 3; rw [decide_eq_decide]; omega
theorem slV011 (h0 : 0 ≤ h) (h1 : h ≤ m) (h2 : m ≤ es.length) : slV sz (.sl sz es full) none (some (.int k h)) (some (.int k' m)) = some (.sl sz (es.take h.toNat) (decide (m = h))) := by
  simp only [slV, boundO, bound_in (Int.le_trans h0 h1) h2, bound_in (n := m.toNat) (k := k) h0 (by omega), true_or, if_true, Option.bind_some, Option.map_some, List.drop_zero]
  congr 2; rw [decide_eq_decide]; omega
theorem slV111 (h0 : 0 ≤ l) (hl : l ≤ h) (h1 : h ≤ m) (h2 : m ≤ es.length) : slV sz (.sl sz es full) (some (.int k'' l)) (some (.int k h)) (some (.int k' m)) = some (.sl sz ((es.take h.toNat).drop l.toNat) (decide (m = h))) := by
  simp only [slV, boundO, bound_in (n := es.length) (k := k') (i := m) (by omega) h2, bound_in (n := m.toNat) (k := k) (i := h) (by omega) (by omega), bound_in (n := h.toNat) (k := k'') h0 (by omega), true_or, if_true, Option.bind_some, Option.map_some]
  congr 2; rw [decide_eq_decide]; omega
theorem slV00v : slV sz (.vec id sz off len) none none none = some (.vec id sz off len) := by simp [slV, boundO]
theorem slV10v (h0 : 0 ≤ l) (h1 : l ≤ len) : slV sz (.vec id sz off len) (some (.int k l)) none none = some (.vec id sz (off + l.toNat) (len - l.toNat)) := by
  simp [slV, boundO, bound_in h0 h1]
theorem slV01v (h0 : 0 ≤ h) (h1 : h ≤ len) : slV sz (.vec id sz off len) none (some (.int k h)) none = some (.vec id sz off h.toNat) := by
  simp [slV, boundO, bound_in h0 h1]
theorem slV11v (h0 : 0 ≤ l) (h1 : l ≤ h) (h2 : h ≤ len) : slV sz (.vec id sz off len) (some (.int k l)) (some (.int k' h)) none = some (.vec id sz (off + l.toNat) (h.toNat - l.toNat)) := by
  simp only [slV, boundO, bound_in (n := len) (k := k') (Int.le_trans h0 h1) h2, bound_in (n := h.toNat) (k := k) h0 (by omega), if_true, Option.bind_some, Option.map_some]
theorem slV011v (h0 : 0 ≤ h) (h1 : h ≤ m) (h2 : m ≤ len) : slV sz (.vec id sz off len) none (some (.int k h)) (some (.int k' m)) = some .undef := by
  simp only [slV, boundO, bound_in (Int.le_trans h0 h1) h2, bound_in (n := m.toNat) (k := k) h0 (by omega), if_true, Option.bind_some, Option.map_some]
theorem slV111v (h0 : 0 ≤ l) (hl : l ≤ h) (h1 : h ≤ m) (h2 : m ≤ len) : slV sz (.vec id sz off len) (some (.int k'' l)) (some (.int k h)) (some (.int k' m)) = some .undef := by
  simp only [slV, boundO, bound_in (n := len) (k := k') (i := m) (by omega) h2, bound_in (n := m.toNat) (k := k) (i := h) (by omega) (by omega), bound_in (n := h.toNat) (k := k'') h0 (by omega), if_true, Option.bind_some, Option.map_some]
theorem slV0 {sz' : Nat} {lo hi mx : Option AV} (hs : sz' = 0) : slV sz (.sl sz' [] full) lo hi mx = slV sz' (.sl sz' [] full) lo hi mx := by simp [slV]
end
def cutV (hp : Hp) (sz : Nat) (x lo hi : AV) : Option AV := match slV sz x (some lo) (some hi) none with
    | some v => some v
    | none => match x with
      | .vec id sz' off _ => (ent hp id).bind fun e => if sz = sz' ∧ off = 0 then (bound e.es.length hi).bind fun h => (bound h lo).map fun l => .vec id sz' l (h - l) else none
      | _ => none
section
variable {hp : Hp} {sz id off len : Nat} {es : List AV} {full : Bool} {k k' : IntKind} {l h : Int}
theorem evR_cut {fr : Fr} {x lo hi : AX} : evR fr hp (.cut sz x lo hi) = cutV hp sz (x.ev fr) (lo.ev fr) (hi.ev fr) := (rfl)
theorem cutV_sl (h0 : 0 ≤ l) (h1 : l ≤ h) (h2 : h ≤ es.length) : cutV hp sz (.sl sz es full) (.int k l) (.int k' h) = some (.sl sz ((es.take h.toNat).drop l.toNat) (full && decide (h = es.length))) := by
  simp only [cutV, slV11 h0 h1 h2]
theorem cutV_vec (h0 : 0 ≤ l) (h1 : l ≤ h) (h2 : h ≤ len) : cutV hp sz (.vec id sz off len) (.int k l) (.int k' h) = some (.vec id sz (off + l.toNat) (h.toNat - l.toNat)) := by
  simp only [cutV, slV11v h0 h1 h2]
theorem cutV_far (h0 : 0 ≤ l) (h1 : l ≤ h) (h2 : (len : Int) < h) : cutV hp sz (.vec id sz 0 len) (.int k l) (.int k' h) = (ent hp id).bind fun e => if h ≤ e.es.length then some (.vec id sz l.toNat (h.toNat - l.toNat)) else none := by
  have hb : bound len (.int k' h) = none := by unfold bound; dsimp only; rw [if_neg (by omega)]
  simp only [cutV, slV, boundO, hb, if_true, Option.bind_none, and_self]
  congr 1
  funext e
  by_cases hc : h ≤ e.es.length
  · rw [if_pos hc, bound_in (by omega) hc]
    simp only [Option.bind_some, bound_in (n := h.toNat) (k := k) h0 (by omega), Option.map_some]
  · rw [if_neg hc]
    have hb2 : bound e.es.length (.int k' h) = none := by unfold bound; dsimp only; rw [if_neg (by omega)]
    rw [hb2]; rfl
end
def ssV (x : AV) (lo hi : Option AV) : Option AV := match x with
    | .str s => (boundO s.length s.length hi).bind fun h => (boundO h 0 lo).map fun l => .str ((s.take h).drop l)
    | _ => none
section
variable {fr : Fr} {x lo hi : AX}
theorem evP_ss00 : evP fr (.slices x none none) = ssV (x.ev fr) none none := (rfl)
theorem evP_ss10 : evP fr (.slices x (some lo) none) = ssV (x.ev fr) (some (lo.ev fr)) none := (rfl)
theorem evP_ss01 : evP fr (.slices x none (some hi)) = ssV (x.ev fr) none (some (hi.ev fr)) := (rfl)
theorem evP_ss11 : evP fr (.slices x (some lo) (some hi)) = ssV (x.ev fr) (some (lo.ev fr)) (some (hi.ev fr)) := (rfl)
variable {s : List UInt8} {k k' : IntKind} {l h : Int}
theorem ssV00 : ssV (.str s) none none = some (.str s) := by simp [ssV, boundO]
theorem ssV10 (h0 : 0 ≤ l) (h1 : l ≤ s.length) : ssV (.str s) (some (.int k l)) none = some (.str (s.drop l.toNat)) := by simp [ssV, boundO, bound_in h0 h1]
theorem ssV01 (h0 : 0 ≤ h) (h1 : h ≤ s.length) : ssV (.str s) none (some (.int k h)) = some (.str (s.take h.toNat)) := by simp [ssV, boundO, bound_in h0 h1]
theorem ssV11 (h0 : 0 ≤ l) (h1 : l ≤ h) (h2 : h ≤ s.length) : ssV (.str s) (some (.int k l)) (some (.int k' h)) = some (.str ((s.take h.toNat).drop l.toNat)) := by
  simp only [ssV, boundO, bound_in (n := s.length) (k := k') (Int.le_trans h0 h1) h2, bound_in (n := h.toNat) (k := k) h0 (by omega), Option.bind_some, Option.map_some]
end
theorem take_map {α β : Type} {f : α → β} {l : List α} {n : Nat} : (l.map f).take n = (l.take n).map f := by simp
theorem drop_map {α β : Type} {f : α → β} {l : List α} {n : Nat} : (l.map f).drop n = (l.drop n).map f := by simp
theorem emod64 {a : Int} (h : 0 ≤ a) (h' : a < 18446744073709551616) : a % 18446744073709551616 = a := Int.emod_eq_of_lt h h'
theorem emod32 {a : Int} (h : 0 ≤ a) (h' : a < 4294967296) : a % 4294967296 = a := Int.emod_eq_of_lt h h'
/-! ### Is it nil -/
def isnilV (neg : Bool) (x : AV) : Option AV := match x with
  | .sl _ [] _ => some .anyb
  | .sl _ (_ :: _) _ => some (.bool neg)
  | .vec _ _ _ len => if 0 < len then some (.bool neg) else some .anyb
  | _ => none
theorem evP_isnil {fr : Fr} {neg : Bool} {x : AX} : evP fr (.isnil neg x) = isnilV neg (x.ev fr) := (rfl)
theorem isnilV_nil {neg : Bool} {sz : Nat} {f : Bool} : isnilV neg (.sl sz [] f) = some .anyb := (rfl)
theorem isnilV_sl {neg : Bool} {sz : Nat} {es : List AV} {f : Bool} (h : 0 < es.length) : isnilV neg (.sl sz es f) = some (.bool neg) := by
  cases es with
  | nil => cases h
  | cons x es => rfl
theorem isnilV_map {α : Type} {g : α → AV} {neg : Bool} {sz : Nat} {es : List α} {f : Bool} (h : 0 < es.length) : isnilV neg (.sl sz (es.map g) f) = some (.bool neg) := isnilV_sl (by simpa using h)
theorem isnilV_vec {neg : Bool} {id sz off len : Nat} (h : 0 < len) : isnilV neg (.vec id sz off len) = some (.bool neg) := by simp [isnilV, h]
theorem isnilV_vec0 {neg : Bool} {id sz off : Nat} : isnilV neg (.vec id sz off 0) = some .anyb := (rfl)
/-! ### Ends -/
theorem Ends_rq {hp : Hp} {fr : Fr} {ts : List Nat} {r : AV} (ms : List (List Mode)) (h : ∃ p, hand hp ms (resX fr ts) = some p ∧ p.1 = r ∧ liveB p.2.1 p.2.2 = true) : Ends ts r .ret ⟨fr, hp⟩ := by
  obtain ⟨p, h1, rfl, h2⟩ := h
  exact ⟨ms, p.2.1, p.2.2, h1, h2⟩
theorem Ends_nq {hp : Hp} {fr : Fr} {ts : List Nat} {r : AV} (ms : List (List Mode)) (h : ∃ p, hand hp ms (resX fr ts) = some p ∧ p.1 = r ∧ liveB p.2.1 p.2.2 = true) : Ends ts r .normal ⟨fr, hp⟩ := by
  obtain ⟨p, h1, rfl, h2⟩ := h
  exact ⟨ms, p.2.1, p.2.2, h1, h2⟩
/-! ### Handing back -/
section
variable {hp : Hp} {n : Nat}
theorem hand_tup {ms : List (List Mode)} {xs : List AV} : hand hp ms (.tup xs) = (handT hp ms xs).map fun p => (.tup p.1, p.2) := (rfl)
theorem handT_nil {ms : List (List Mode)} : handT hp ms [] = some ([], hp, []) := (rfl)
theorem handT_cons {m : List Mode} {ms : List (List Mode)} {x : AV} {xs : List AV} : handT hp (m :: ms) (x :: xs) = (handA hp m x).bind fun p => (handT p.2.1 ms xs).map fun q => (p.1 :: q.1, q.2.1, p.2.2 ++ q.2.2) := (rfl)
theorem handT_cons0 {x : AV} {xs : List AV} : handT hp [] (x :: xs) = (handA hp [] x).bind fun p => (handT p.2.1 [] xs).map fun q => (p.1 :: q.1, q.2.1, p.2.2 ++ q.2.2) := (rfl)
theorem handA_0 {x : AV} : handA hp [] x = passOne hp .snap x := by cases x <;> rfl
theorem handA_1 {m : Mode} {x : AV} : handA hp [m] x = passOne hp m x := (rfl)
theorem handA_2 {m m' : Mode} {ms : List Mode} {xs : List AV} : handA hp (m :: m' :: ms) (.agg xs) = (pass hp (m :: m' :: ms) xs).map fun p => (.agg p.1, p.2) := (rfl)
theorem hand_vec {m : Mode} {id sz off len : Nat} : hand hp [[m]] (.vec id sz off len) = passOne hp m (.vec id sz off len) := (rfl)
theorem hand_sl {m : Mode} {sz : Nat} {es : List AV} {f : Bool} : hand hp [[m]] (.sl sz es f) = passOne hp m (.sl sz es f) := (rfl)
theorem hand_agg {m m' : Mode} {ms : List Mode} {xs : List AV} : hand hp [m :: m' :: ms] (.agg xs) = (pass hp (m :: m' :: ms) xs).map fun p => (.agg p.1, p.2) := (rfl)
theorem passOne_ownv {sz sz' id off len : Nat} {ty : TypeId} : passOne hp (.own sz ty) (.vec id sz' off len) = (ent hp id).bind fun e => if e.wr ∧ off = 0 ∧ len ≤ e.es.length ∧ sz' = sz ∧ e.ty = ty then (mapO (snap hp 6) (e.es.take len)).map fun es => (.own sz ty es, hp.set id (some { e with es := [], wr := false }), (e.es.take len).flatMap (rows hp 6)) else none := (rfl)
theorem passOne_ownn {sz z : Nat} {ty : TypeId} : passOne hp (.own sz ty) (.sl z [] true) = some (.own sz ty [], hp, []) := (rfl)
end
end Go.Pv
