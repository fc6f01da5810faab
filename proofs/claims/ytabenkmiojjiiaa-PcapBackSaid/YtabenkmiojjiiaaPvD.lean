/-
  The machine of plain values, 4: the other operations that look at no memory; all of them together.
-/
import Derived.Test.YtabenkmiojjiiaaPvC
namespace Go.Pv
section
variable {P : Program} {w : World} {γ : Gh} {fr : Fr} {a : Act}
theorem slicev_run {t el : TypeId} (ht : P.underlying t = some (.slice el)) (hok : tyOk P el = true) {X : AX} {lo hi mx : Option Operand} {z : AV} {x : Value} (hf : FrR w γ fr a.tmps) (hx : Sim w γ (X.ev fr) x)
    (he : evP fr (.slicev (P.cellsOf el) X (lo.map cx) (hi.map cx) (mx.map cx)) = some z) : ∃ v, (Instr.sliceAt t x (lo.map a.eval) (hi.map a.eval) (mx.map a.eval)).run P w = .ok v w ∧ Sim w γ z v := by
  simp only [evP] at he
  generalize X.ev fr = XX at *
  cases XX <;> try (cases he; done)
  · rename_i sz es full
    dsimp only at he
    split at he
    case isFalse => cases he
    rename_i hsz
    have hxx : ∃ A len cap, x = .slice A len cap ∧ len = es.length ∧ es.length ≤ cap ∧ (full = true → cap = es.length) := by
      cases hx with
      | sl0 sz full A cap h => exact ⟨A, 0, cap, rfl, rfl, Nat.zero_le _, h⟩
      | sl _ _ _ b off cap U hp hc hf => exact ⟨_, _, cap, rfl, rfl, hc, hf⟩
    obtain ⟨A, len, cap, rfl, rfl, hcap, hfull⟩ := hxx
    have fin : ∀ l h m full', l ≤ h → h ≤ es.length → h ≤ m → (full' = true → m = h) →
        (Instr.sliceBounds true es.length cap (lo.map a.eval) (hi.map a.eval) (mx.map a.eval)).run P w = .ok (l, h, m) w →
        ∃ v, (Instr.sliceAt t (.slice A es.length cap) (lo.map a.eval) (hi.map a.eval) (mx.map a.eval)).run P w = .ok v w ∧ Sim w γ (.sl sz ((es.take h).drop l) full') v := by
      intro l h m full' h1 h2 h3 h4 e
      refine ⟨.slice (if m = l then A else A.map (·.add (l * P.cellsOf el))) (h - l) (m - l), ?_, ?_⟩
      · simp [Instr.sliceAt, Instr.slice, run_underlying ht, e, run_sizeOf hok]
      · rcases hsz with hsz | hsz
        · rw [hsz]; exact sl_cut hx h1 h2 h3 h4
        · subst hsz
          have e1 : h = 0 := by simpa using h2
          subst e1
          have e2 : l = 0 := by omega
          subst e2
          simp only [List.take_nil, List.drop_nil, Nat.sub_zero]
          exact .sl0 _ _ _ _ (fun hh => h4 hh)
    cases mx with
    | none =>
      simp only [Option.map_none] at he ⊢
      obtain ⟨hn, h1, he⟩ := Option.bind_eq_some_iff.1 he
      obtain ⟨ln, h2, he⟩ := Option.map_eq_some_iff.1 he
      subst he
      have hfin : ∀ h', ln ≤ hn → hn ≤ es.length → _ := fun (_ : True) h1 h2 => fin ln hn cap (full && decide (hn = es.length)) h1 h2 (by omega) (fun hh => by simp at hh; rw [hfull hh.1, hh.2])
      have e : (Instr.sliceBounds true es.length cap (lo.map a.eval) (hi.map a.eval) none).run P w = .ok (ln, hn, cap) w ∧ ln ≤ hn ∧ hn ≤ es.length := by
        unfold Instr.sliceBounds
        cases hi with
        | none =>
          simp [boundO] at h1
          subst h1
          cases lo with
          | none => simp [boundO] at h2; subst h2; simp
          | some y =>
            have := bound_le (cx_sim hf y) h2 (Nat.le_refl _) .sliceB (P := P)
            simp [this.1, this.2]
        | some y' =>
          have h1' := bound_le (cx_sim hf y') h1 hcap .sliceAcap (P := P)
          cases lo with
          | none => simp [boundO] at h2; subst h2; simp [h1'.1, h1'.2]
          | some y =>
            have := bound_le (cx_sim hf y) h2 (Nat.le_refl _) .sliceB (P := P)
            simp [this.1, this.2, h1'.1, h1'.2]
      exact hfin trivial e.2.1 e.2.2 e.1
    | some y0 =>
      simp only [Option.map_some] at he ⊢
      obtain ⟨m, h0, he⟩ := Option.bind_eq_some_iff.1 he
      obtain ⟨hn, h1, he⟩ := Option.bind_eq_some_iff.1 he
      obtain ⟨ln, h2, he⟩ := Option.map_eq_some_iff.1 he
      subst he
      have h0' := bound_le (cx_sim hf y0) h0 hcap .slice3Acap (P := P)
      cases hi with
      | none => simp at h1
      | some y' =>
        simp only [Option.map_some, Option.bind_some] at h1
        have h1' := bound_le (cx_sim hf y') h1 (Nat.le_refl _) .slice3B (P := P)
        have e : (Instr.sliceBounds true es.length cap (lo.map a.eval) (some (a.eval y')) (some (a.eval y0))).run P w = .ok (ln, hn, m) w ∧ ln ≤ hn := by
          unfold Instr.sliceBounds
          cases lo with
          | none => simp [boundO] at h2; subst h2; simp [h0'.1, h1'.1]
          | some y =>
            have := bound_le (cx_sim hf y) h2 (Nat.le_refl _) .slice3C (P := P)
            simp [this.1, this.2, h1'.1, h0'.1]
        exact fin ln hn m (decide (m = hn)) e.2 (by omega) h1'.2 (fun hh => by simpa using hh) e.1
  · rename_i id sz off len
    dsimp only at he
    split at he
    case isFalse => cases he
    rename_i hsz
    have hxx : ∃ A cap, x = .slice A len cap ∧ len ≤ cap := by
      cases hx with
      | vec _ _ _ _ A cap ge hm hz hl hc hN hA => exact ⟨A, cap, rfl, by omega⟩
    obtain ⟨A, cap, rfl, hcap⟩ := hxx
    cases mx with
    | some y0 =>
      simp only [Option.map_some] at he ⊢
      obtain ⟨m, h0, he⟩ := Option.bind_eq_some_iff.1 he
      obtain ⟨hn, h1, he⟩ := Option.bind_eq_some_iff.1 he
      obtain ⟨ln, h2, he⟩ := Option.map_eq_some_iff.1 he
      subst he
      have h0' := bound_le (cx_sim hf y0) h0 hcap .slice3Acap (P := P)
      cases hi with
      | none => simp at h1
      | some y' =>
        simp only [Option.map_some, Option.bind_some] at h1
        have h1' := bound_le (cx_sim hf y') h1 (Nat.le_refl _) .slice3B (P := P)
        have e : (Instr.sliceBounds true len cap (lo.map a.eval) (some (a.eval y')) (some (a.eval y0))).run P w = .ok (ln, hn, m) w ∧ ln ≤ hn := by
          unfold Instr.sliceBounds
          cases lo with
          | none => simp [boundO] at h2; subst h2; simp [h0'.1, h1'.1]
          | some y =>
            have := bound_le (cx_sim hf y) h2 (Nat.le_refl _) .slice3C (P := P)
            simp [this.1, this.2, h1'.1, h0'.1]
        refine ⟨.slice (if m = ln then A else A.map (·.add (ln * P.cellsOf el))) (hn - ln) (m - ln), ?_, .undef _⟩
        simp [Instr.sliceAt, Instr.slice, run_underlying ht, e.1, run_sizeOf hok]
    | none =>
    simp only [Option.map_none] at he ⊢
    obtain ⟨hn, h1, he⟩ := Option.bind_eq_some_iff.1 he
    obtain ⟨ln, h2, he⟩ := Option.map_eq_some_iff.1 he
    subst he
    have e : (Instr.sliceBounds true len cap (lo.map a.eval) (hi.map a.eval) none).run P w = .ok (ln, hn, cap) w ∧ ln ≤ hn ∧ hn ≤ len := by
      unfold Instr.sliceBounds
      cases hi with
      | none =>
        simp [boundO] at h1
        subst h1
        cases lo with
        | none => simp [boundO] at h2; subst h2; simp
        | some y =>
          have := bound_le (cx_sim hf y) h2 (Nat.le_refl _) .sliceB (P := P)
          simp [this.1, this.2]
      | some y' =>
        have h1' := bound_le (cx_sim hf y') h1 hcap .sliceAcap (P := P)
        cases lo with
        | none => simp [boundO] at h2; subst h2; simp [h1'.1, h1'.2]
        | some y =>
          have := bound_le (cx_sim hf y) h2 (Nat.le_refl _) .sliceB (P := P)
          simp [this.1, this.2, h1'.1, h1'.2]
    refine ⟨.slice (if cap = ln then A else A.map (·.add (ln * P.cellsOf el))) (hn - ln) (cap - ln), ?_, ?_⟩
    · simp [Instr.sliceAt, Instr.slice, run_underlying ht, e.1, run_sizeOf hok]
    · rw [hsz]; exact vec_cut hx e.2.1 e.2.2
theorem minmax_run {X Y : AX} {mx : Bool} {z : AV} {x y : Value} (hx : Sim w γ (X.ev fr) x) (hy : Sim w γ (Y.ev fr) y) (ts : Array TypeId) (ty : TypeId) (h : evP fr (.minmax mx X Y) = some z) :
    ∃ v, (if mx then Builtin.max_ ts ty #[x, y] else Builtin.min_ ts ty #[x, y]).run P w = .ok v w ∧ Sim w γ z v := by
  simp only [evP] at h
  generalize X.ev fr = XX at *
  generalize Y.ev fr = YY at *
  cases XX <;> try (cases h; done)
  cases YY <;> try (cases h; done)
  rename_i k n k' n'
  dsimp only at h
  split at h
  case isFalse => cases h
  rename_i hk
  subst hk
  cases h
  cases int_inv hx
  cases int_inv hy
  cases mx
  · refine ⟨.int k (if n' < n then n' else n), by simp [Builtin.min_, Builtin.min2], ?_⟩
    have e : (if n' < n then n' else n) = min n n' := by split <;> omega
    rw [e]; exact .int _ _
  · refine ⟨.int k (if n < n' then n' else n), by simp [Builtin.max_, Builtin.max2], ?_⟩
    have e : (if n < n' then n' else n) = max n n' := by split <;> omega
    rw [e]; exact .int _ _
theorem nilck_run {X : AX} {z : AV} {x : Value} (hx : Sim w γ (X.ev fr) x) (h : evP fr (.nilck X) = some z) :
    z = X.ev fr ∧ ((∃ b, x = .pointer (some b)) ∨ ∃ f cs, x = .func (.func f) #[] cs) := by
  simp only [evP] at h
  generalize X.ev fr = XX at *
  cases XX <;> try (cases h; done)
  · cases h; cases hx with | eptr => exact ⟨rfl, .inl ⟨_, rfl⟩⟩
  · cases h; cases hx with | rptr => exact ⟨rfl, .inl ⟨_, rfl⟩⟩
  · cases h; cases hx with | fn => exact ⟨rfl, .inr ⟨_, _, rfl⟩⟩
theorem eq_nil_run {t e : TypeId} (ht : P.underlying t = some (.slice e)) (A : Option Addr) (n c : Nat) (neg : Bool) :
    (binOp (if neg then .neq else .eql) t (.slice A n c) (.slice none 0 0)).run P w = .ok (.bool (if neg then A.isSome else A.isNone)) w := by
  have h : ∀ d, (Op.equalIn (d + 1) t (.slice A n c) (.slice none 0 0)).run P w = .ok A.isNone w := by
    intro d
    cases A <;> simp [Op.equalIn, run_underlying ht]
  cases neg
  · simp only [Bool.false_eq_true, if_false, binOp]
    simp [Op.equal, Op.maxDepth, h 9999]
  · simp only [if_true, binOp]
    simp [Op.equal, Op.maxDepth, h 9999]
    try (cases A <;> rfl)
theorem isnil_run {t e : TypeId} (ht : P.underlying t = some (.slice e)) {X : AX} {neg : Bool} {z : AV} {x : Value} (hx : Sim w γ (X.ev fr) x) (h : evP fr (.isnil neg X) = some z) :
    (∃ v, (binOp (if neg then .neq else .eql) t x (.slice none 0 0)).run P w = .ok v w ∧ Sim w γ z v) ∧ ∃ A n c, x = .slice A n c := by
  simp only [evP] at h
  generalize X.ev fr = XX at *
  cases XX <;> try (cases h; done)
  · rename_i sz es full
    cases hx with
    | sl0 sz full A cap hc =>
      cases h
      exact ⟨⟨_, eq_nil_run ht A 0 cap neg, .anyb _⟩, _, _, _, rfl⟩
    | sl _ _ _ b off cap U hp hc hf hb him hz hcell hs =>
      cases es with
      | nil => simp at hp
      | cons y ys =>
        cases h
        refine ⟨⟨_, eq_nil_run ht _ _ cap neg, ?_⟩, _, _, _, rfl⟩
        cases neg <;> exact .bool _
  · rename_i id sz off len
    cases hx with
    | vec _ _ _ _ A cap ge hm hz hl hc hN hA =>
      refine ⟨⟨_, eq_nil_run ht A len cap neg, ?_⟩, _, _, _, rfl⟩
      dsimp only at h
      split at h
      · rename_i hlen
        cases h
        cases hg : ge.blk with
        | none => have := hN hg; omega
        | some g =>
          rw [hA g hg (.inl hlen)]
          cases neg <;> exact .bool _
      · cases h; exact .anyb _
theorem basic_inv {t : TypeId} {k : Nat} (h : basicT P t = some k) : (k = 0 ∧ ∃ kd, P.underlying t = some (.int kd)) ∨ (k = 1 ∧ P.underlying t = some .string) ∨ (k = 2 ∧ P.underlying t = some .bool) := by
  unfold basicT at h
  split at h
  · cases h; exact .inl ⟨rfl, _, by assumption⟩
  · cases h; exact .inr (.inl ⟨rfl, by assumption⟩)
  · cases h; exact .inr (.inr ⟨rfl, by assumption⟩)
  · cases h
theorem part_basic {t : TypeId} {k : Nat} (h : basicT P t = some k) {cs : Array Value} {i : Nat} {v : Value} (hv : cs[i]? = some v) : (part t cs i).run P w = .ok v w := by
  have hnot : (Go.isAgg t).run P w = .ok false w := by
    rcases basic_inv h with ⟨_, kd, hk⟩ | ⟨_, hk⟩ | ⟨_, hk⟩ <;> simp [Go.isAgg, run_underlying hk]
  simp [part, hnot, hv]
theorem eqFields_run (d : Nat) {xs ys : Array Value} : ∀ (fs : List Field) (i : Nat) (XS YS : List AV) (b : Bool), plainL P i fs = true →
    (∀ (j : Nat) (X : AV), XS[j]? = some X → ∃ v, xs[i + j]? = some v ∧ Sim w γ X v) → (∀ (j : Nat) (X : AV), YS[j]? = some X → ∃ v, ys[i + j]? = some v ∧ Sim w γ X v) →
    eqCells (fs.map fun f => (basicT P f.type).getD 3) XS YS = some b → (Op.eqFields (d + 1) xs ys fs).run P w = .ok b w
  | [], i, XS, YS, b, _, _, _, h => by
    cases XS <;> cases YS <;> simp [eqCells] at h
    subst h
    rfl
  | f :: fs, i, XS, YS, b, hp, sX, sY, h => by
    simp only [plainL, Bool.and_eq_true, bne_iff_ne, ne_eq, beq_iff_eq] at hp
    obtain ⟨h1, h2, h3, h4⟩ := hp
    obtain ⟨kd, h3⟩ := Option.isSome_iff_exists.1 h3
    simp only [List.map_cons, h3, Option.getD_some] at h
    match XS, YS with
    | [], _ => rcases basic_inv h3 with ⟨rfl, _⟩ | ⟨rfl, _⟩ | ⟨rfl, _⟩ <;> simp [eqCells] at h
    | X :: XS, [] => rcases basic_inv h3 with ⟨rfl, _⟩ | ⟨rfl, _⟩ | ⟨rfl, _⟩ <;> cases X <;> simp [eqCells] at h
    | X :: XS, Y :: YS =>
    obtain ⟨vx, hvx, hsx⟩ := sX 0 X rfl
    obtain ⟨vy, hvy, hsy⟩ := sY 0 Y rfl
    have ih := fun b h => eqFields_run d fs (i + 1) XS YS b h4
      (fun j Z hj => by have := sX (j + 1) Z (by simpa using hj); rwa [show i + 1 + j = i + (j + 1) by omega])
      (fun j Z hj => by have := sY (j + 1) Z (by simpa using hj); rwa [show i + 1 + j = i + (j + 1) by omega]) h
    have px := part_basic (P := P) (w := w) h3 (cs := xs) (i := i) hvx
    have py := part_basic (P := P) (w := w) h3 (cs := ys) (i := i) hvy
    simp only [Op.eqFields, h1, ne_eq, not_false_eq_true, if_true, Sem.run_bind, h2, px, py, Result.andThen_ok]
    have key : ∀ (e : Bool), (Op.equalIn (d + 1) f.type vx vy).run P w = .ok e w → ∀ c, eqCells (fs.map fun f => (basicT P f.type).getD 3) XS YS = some c → b = (e && c) → 
        ((Op.equalIn (d + 1) f.type vx vy).run P w).andThen (fun r w' => ((if (!r) = true then pure false else Op.eqFields (d + 1) xs ys fs : Sem Bool)).run P w') = .ok b w := by
      intro e he c hc hb
      rw [he, Result.andThen_ok]
      cases e
      · simp [hb]
      · simp only [Bool.not_true, Bool.false_eq_true, if_false]
        rw [ih c hc, hb, Bool.true_and]
    rcases basic_inv h3 with ⟨rfl, k, hk⟩ | ⟨rfl, hk⟩ | ⟨rfl, hk⟩
    · cases X <;> try (simp [eqCells] at h; done)
      cases Y <;> try (simp [eqCells] at h; done)
      simp only [eqCells] at h
      split at h
      case isFalse => cases h
      rename_i hkk
      subst hkk
      obtain ⟨c, hc, hb⟩ := Option.map_eq_some_iff.1 h
      cases int_inv hsx; cases int_inv hsy
      exact key _ (run_equalIn_int w d f.type _ _ _ _ hk) c hc hb.symm
    · cases X <;> try (simp [eqCells] at h; done)
      cases Y <;> try (simp [eqCells] at h; done)
      simp only [eqCells] at h
      obtain ⟨c, hc, hb⟩ := Option.map_eq_some_iff.1 h
      cases str_inv hsx; cases str_inv hsy
      refine key _ ((run_equalIn_string w d f.type _ _ hk).trans ?_) c hc hb.symm
      simp
    · cases X <;> try (simp [eqCells] at h; done)
      cases Y <;> try (simp [eqCells] at h; done)
      simp only [eqCells] at h
      obtain ⟨c, hc, hb⟩ := Option.map_eq_some_iff.1 h
      cases bool_inv hsx; cases bool_inv hsy
      exact key _ (run_equalIn_bool' w d f.type _ _ hk) c hc hb.symm
theorem eqS_run {t : TypeId} {fs : Array Field} (ht : P.underlying t = some (.struct fs)) (hp : plainS P t fs = true) {X Y : AX} {neg : Bool} {z : AV} {x y : Value} (o1 o2 : Operand) (hx : Sim w γ (X.ev fr) x) (hy : Sim w γ (Y.ev fr) y)
    (h : evP fr (.eqS neg (fs.toList.map fun f => (basicT P f.type).getD 3) X Y) = some z) :
    ∃ v, (do eqGuard (if neg then .neq else .eql) t o1 o2 x y; binOp (if neg then .neq else .eql) t x y : Sem Value).run P w = .ok v w ∧ Sim w γ z v := by
  simp only [plainS, Bool.and_eq_true, Bool.not_eq_true'] at hp
  obtain ⟨p1, p2, p3⟩ := hp
  simp only [evP] at h
  generalize X.ev fr = XX at *
  generalize Y.ev fr = YY at *
  cases XX <;> try (cases h; done)
  cases YY <;> try (cases h; done)
  rename_i XS YS
  obtain ⟨b, hb, h⟩ := Option.map_eq_some_iff.1 h
  subst h
  obtain ⟨xs, rfl, lx, sx⟩ := agg_inv hx
  obtain ⟨ys, rfl, ly, sy⟩ := agg_inv hy
  have hfs : P.fieldsOf t = fs := by simp [Program.fieldsOf, ht]
  have conv : ∀ {Z : List AV} {zs : Array Value}, Z.length = zs.size → (∀ (i : Nat) (x : AV) (u : Value), Z[i]? = some x → zs[i]? = some u → Sim w γ x u) →
      ∀ (j : Nat) (X : AV), Z[j]? = some X → ∃ v, zs[0 + j]? = some v ∧ Sim w γ X v := by
    intro Z zs hl hs j X hj
    have hlt := (List.getElem?_eq_some_iff.1 hj).1
    have hc : zs[j]? = some (zs[j]'(by omega)) := Array.getElem?_eq_getElem (by omega)
    exact ⟨_, by rw [Nat.zero_add]; exact hc, hs j X _ hj hc⟩
  have he := eqFields_run (P := P) 9998 fs.toList 0 XS YS b p3 (conv lx sx) (conv ly sy) hb
  have hq : (Op.equalIn 10000 t (.agg xs) (.agg ys)).run P w = .ok b w := (run_equalIn_struct w 9999 t xs ys (by rw [hfs]; exact ht) p1).trans (by rw [hfs]; exact he)
  cases neg
  · refine ⟨.bool b, ?_, .bool _⟩
    simp only [Bool.false_eq_true, if_false, Sem.run_bind, run_eqGuard_agg w _ t o1 o2 xs ys p2, Result.andThen_ok, run_eql_struct, hq]
  · refine ⟨.bool (!b), ?_, .bool _⟩
    simp only [if_true, Sem.run_bind, run_eqGuard_agg w _ t o1 o2 xs ys p2, Result.andThen_ok, run_neq_struct, hq]
end
end Go.Pv
