/-
  The machine of plain values, 3: operations that look at no memory do in the model what they do in the machine.
-/
import Derived.Test.YtabenkmiojjiiaaPvB
import Derived.WalkLawsBesides
namespace Go.Pv
section
variable {P : Program} {w : World} {γ : Gh}
theorem str_inv {s : List UInt8} {v : Value} (h : Sim w γ (.str s) v) : v = .string ⟨s.toArray⟩ := by cases h; rfl
theorem int_inv {k : IntKind} {n : Int} {v : Value} (h : Sim w γ (.int k n) v) : v = .int k n := by cases h; rfl
theorem bool_inv {b : Bool} {v : Value} (h : Sim w γ (.bool b) v) : v = .bool b := by cases h; rfl
theorem int2_run {op : BinOp} {k : IntKind} {a b : Int} {z : AV} (h : int2 op k a b = some z) (t : TypeId) (h1 : op ≠ .shl) (h2 : op ≠ .shr) :
    ∃ v, (binOp op t (.int k a) (.int k b)).run P w = .ok v w ∧ Sim w γ z v := by
  cases op <;> simp only [int2, Option.some.injEq, reduceCtorEq] at h <;>
    first
      | exact absurd rfl h1
      | exact absurd rfl h2
      | (subst h; exact ⟨_, by simp only [binOp]; rw [if_neg (by simp)]; rfl, by constructor⟩)
      | (split at h
         · cases h
         · rename_i hb
           cases h
           exact ⟨_, by simp [binOp, Op.intDiv, hb]; rfl, by constructor⟩)
theorem size_mk (l : List UInt8) : (ByteArray.mk l.toArray).size = l.length := by simp [ByteArray.size]
theorem append_mk (a b : List UInt8) : ByteArray.mk a.toArray ++ ByteArray.mk b.toArray = ByteArray.mk (a ++ b).toArray := by
  apply ByteArray.ext
  simp
theorem bin_run {op : BinOp} {X Y z : AV} {x y : Value} (hx : Sim w γ X x) (hy : Sim w γ Y y) (h : bin2 op X Y = some z) (t : TypeId) :
    ∃ v, (binOp op t x y).run P w = .ok v w ∧ Sim w γ z v := by
  unfold bin2 at h
  split at h
  · cases int_inv hx; cases int_inv hy
    split at h
    · split at h
      · cases h
      · rename_i hb
        cases h
        exact ⟨_, by simp [binOp, Op.shift, hb]; rfl, by constructor⟩
    · split at h
      · cases h
      · rename_i hb
        cases h
        exact ⟨_, by simp [binOp, Op.shift, hb]; rfl, by constructor⟩
    · rename_i h1 h2
      split at h
      · rename_i hk
        subst hk
        exact int2_run h t h1 h2
      · cases h
  · cases str_inv hx; cases str_inv hy
    split at h
    · split at h
      · rename_i a b hl
        cases h
        refine ⟨_, ?_, .str _⟩
        simp only [binOp, Op.stringOp]
        rw [if_neg (by rw [size_mk, size_mk, show IntKind.i64.max = 9223372036854775807 from rfl]; unfold lim at hl; omega), append_mk]
        rfl
      · cases h
    · cases h
      exact ⟨_, by simp [binOp, Op.stringOp]; rfl, by constructor⟩
    · cases h
      exact ⟨_, by simp [binOp, Op.stringOp]; rfl, by constructor⟩
    · cases h
  · cases h
theorem eqGuard_run (op : BinOp) (t : TypeId) (x y : Operand) (a b : Value) (h : ∀ cs, a ≠ .agg cs) (h' : a ≠ .nilIface) : (eqGuard op t x y a b).run P w = .ok () w := by
  unfold eqGuard
  cases op <;> first | rfl | (cases a <;> first | rfl | exact absurd rfl h' | exact absurd rfl (h _))
theorem equalIn_bool (d : Nat) (t : TypeId) (ht : P.underlying t = some .bool) (a b : Bool) : (Op.equalIn (d + 1) t (.bool a) (.bool b)).run P w = .ok (a == b) w := by
  simp [Op.equalIn, run_underlying ht]
theorem binB_run {op : BinOp} {X Y z : AV} {x y : Value} (hx : Sim w γ X x) (hy : Sim w γ Y y) (h : binB2 op X Y = some z) (t : TypeId) (ht : P.underlying t = some .bool) :
    ∃ v, (binOp op t x y).run P w = .ok v w ∧ Sim w γ z v := by
  unfold binB2 at h
  split at h
  · cases bool_inv hx; cases bool_inv hy
    split at h
    · cases h
      exact ⟨_, by simp only [binOp]; simp [Op.equal, Op.maxDepth, equalIn_bool 9999 t ht]; rfl, by constructor⟩
    · cases h
      exact ⟨_, by simp only [binOp]; simp [Op.equal, Op.maxDepth, equalIn_bool 9999 t ht]; rfl, by constructor⟩
    · cases h
  · cases h
theorem un_run {op : UnOp} {X z : AV} {x : Value} (hx : Sim w γ X x) (h : un1 op X = some z) : ∃ v, (Op.unary op x).run P w = .ok v w ∧ Sim w γ z v := by
  unfold un1 at h
  split at h
  · cases bool_inv hx
    split at h
    · cases h; exact ⟨_, rfl, by constructor⟩
    · cases h
  · cases int_inv hx
    split at h
    · cases h; exact ⟨_, rfl, by constructor⟩
    · cases h
  · cases h
theorem bound_run {hi n : Nat} {X : AV} {x : Value} (hx : Sim w γ X x) (h : bound hi X = some n) (code : BoundsCode) : (Instr.sliceBound x hi code).run P w = .ok n w ∧ n ≤ hi := by
  unfold bound at h
  split at h
  · cases int_inv hx
    split at h
    · rename_i hb
      cases h
      exact ⟨by simp [Instr.sliceBound, asIntOf, hb.1, hb.2], by omega⟩
    · cases h
  · cases h
theorem index_inv {n i : Nat} {X : AV} {x : Value} (hx : Sim w γ X x) (h : index n X = some i) : ∃ k z, x = .int k z ∧ 0 ≤ z ∧ z < n ∧ i = z.toNat ∧ i < n := by
  unfold index at h
  split at h
  · cases int_inv hx
    split at h
    · rename_i hb
      cases h
      exact ⟨_, _, rfl, hb.1, hb.2, rfl, by omega⟩
    · cases h
  · cases h
theorem agg_inv {xs : List AV} {v : Value} (h : Sim w γ (.agg xs) v) : ∃ cs, v = .agg cs ∧ xs.length = cs.size ∧ ∀ (i : Nat) (x : AV) (u : Value), xs[i]? = some x → cs[i]? = some u → Sim w γ x u := by
  cases h with | agg _ cs hz hs => exact ⟨cs, rfl, hz, hs⟩
theorem tup_inv {xs : List AV} {v : Value} (h : Sim w γ (.tup xs) v) : ∃ cs, v = .tuple cs ∧ xs.length = cs.size ∧ ∀ (i : Nat) (x : AV) (u : Value), xs[i]? = some x → cs[i]? = some u → Sim w γ x u := by
  cases h with | tup _ cs hz hs => exact ⟨cs, rfl, hz, hs⟩
theorem info_of_under {t : TypeId} {d : TypeDesc} (h : P.underlying t = some d) : ∃ i, P.info? t = some i := by
  unfold Program.underlying at h
  split at h
  · exact ⟨_, by assumption⟩
  · exact ⟨_, by assumption⟩
  · cases h
theorem tyOk_under {t : TypeId} (h : tyOk P t = true) : ∃ d, P.underlying t = some d := Option.isSome_iff_exists.1 h
theorem run_isAgg {t : TypeId} (h : tyOk P t = true) : (Go.isAgg t).run P w = .ok (isAg P t) w := by
  obtain ⟨d, hd⟩ := tyOk_under h
  simp only [Go.isAgg, isAg, Sem.run_bind, run_underlying hd, Result.andThen_ok, hd]
  cases d <;> rfl
theorem run_sizeOf {t : TypeId} (h : tyOk P t = true) : (sizeOf t).run P w = .ok (P.cellsOf t) w := by
  obtain ⟨d, hd⟩ := tyOk_under h
  obtain ⟨i, hi⟩ := info_of_under hd
  simp [sizeOf, typeInfo, hi, Program.cellsOf]
theorem part_run {t : TypeId} {xs : List AV} {cs : Array Value} {off : Nat} {z : AV} (hz : xs.length = cs.size) (hs : ∀ (i : Nat) (x : AV) (u : Value), xs[i]? = some x → cs[i]? = some u → Sim w γ x u)
    (ht : tyOk P t = true) (h : cells (.agg xs) off (P.cellsOf t) (isAg P t) = some z) : ∃ v, (part t cs off).run P w = .ok v w ∧ Sim w γ z v := by
  unfold cells at h
  simp only [part, Sem.run_bind, run_isAgg ht, Result.andThen_ok]
  by_cases ha : isAg P t = true
  · rw [if_pos ha] at h ⊢
    split at h
    · rename_i hl
      cases h
      simp only [Sem.run_bind, run_sizeOf ht, Result.andThen_ok, Sem.run_pure]
      refine ⟨_, rfl, .agg _ _ ?_ ?_⟩
      · rw [hl]
        simp only [AV.flat, List.length_take, List.length_drop] at hl
        simp
        omega
      · intro i x u hx hu
        simp only [AV.flat] at hx
        rw [List.getElem?_take] at hx
        split at hx
        · rename_i hi
          rw [List.getElem?_drop] at hx
          rw [Array.getElem?_extract] at hu
          split at hu
          · exact hs _ x u hx hu
          · cases hu
        · cases hx
    · cases h
  · rw [if_neg ha] at h ⊢
    simp only [AV.flat] at h
    have hlt : off < xs.length := (List.getElem?_eq_some_iff.1 h).1
    have hc : cs[off]? = some (cs[off]'(by omega)) := Array.getElem?_eq_getElem (by omega)
    rw [hc]
    exact ⟨_, rfl, hs off z _ h hc⟩
theorem bound_le {hi hi' n : Nat} {X : AV} {x : Value} (hx : Sim w γ X x) (h : bound hi X = some n) (hle : hi ≤ hi') (code : BoundsCode) : (Instr.sliceBound x hi' code).run P w = .ok n w ∧ n ≤ hi := by
  unfold bound at h
  split at h
  · cases int_inv hx
    split at h
    · rename_i hb
      cases h
      have h2 := hb.1
      have h3 := hb.2
      refine ⟨?_, by omega⟩
      simp only [Instr.sliceBound, asIntOf, Sem.run_bind, Sem.run_pure, Result.andThen_ok]
      rw [if_pos ⟨h2, by omega⟩]
      rfl
    · cases h
  · cases h
variable {fr : Fr}
theorem pick_run {X A B : AX} {z : AV} {x a b : Value} (hx : Sim w γ (X.ev fr) x) (ha : Sim w γ (A.ev fr) a) (hb : Sim w γ (B.ev fr) b) (h : evP fr (.pick X A B) = some z) :
    ∃ v, (do pure (.value (if ← asBool x then a else b)) : Sem Next).run P w = .ok (.value v) w ∧ Sim w γ z v := by
  simp only [evP] at h
  generalize X.ev fr = XX at *
  cases XX <;> try (cases h; done)
  cases bool_inv hx
  cases h
  refine ⟨_, rfl, ?_⟩
  split
  · exact ha
  · exact hb
theorem ptr_add {X : AX} {z : AV} {x : Value} (hx : Sim w γ (X.ev fr) x) {off : Nat} (h : evP fr (.faddr off X) = some z) :
    ∃ a : Addr, x = .pointer (some a) ∧ Sim w γ z (.pointer (some (a.add off))) := by
  simp only [evP] at h
  generalize X.ev fr = XX at *
  cases XX <;> try (cases h; done)
  · cases hx with
    | eptr id i o g ge hm hg =>
      cases h
      refine ⟨_, rfl, ?_⟩
      rw [Addr.add_lit, Nat.add_assoc]
      exact .eptr _ _ _ g ge hm hg
  · cases hx with
    | rptr x o b o' U hb hi hc hs =>
      cases h
      refine ⟨_, rfl, ?_⟩
      rw [Addr.add_lit, Nat.add_assoc]
      exact .rptr _ _ b _ U hb hi hc hs
theorem iaddr_run {t e : TypeId} (ht : P.underlying t = some (.slice e)) (he : tyOk P e = true) {X I : AX} {z : AV} {x i : Value} (hx : Sim w γ (X.ev fr) x) (hi : Sim w γ (I.ev fr) i)
    (h : evP fr (.iaddr (P.cellsOf e) X I) = some z) : ∃ v, (Instr.indexAt t x i).run P w = .ok v w ∧ Sim w γ z v := by
  simp only [evP] at h
  generalize X.ev fr = XX at *
  cases XX <;> try (cases h; done)
  · rename_i sz es full
    dsimp only at h
    split at h
    · rename_i hsz
      obtain ⟨k, hk, h⟩ := Option.bind_eq_some_iff.1 h
      obtain ⟨y, hy, hh⟩ := Option.map_eq_some_iff.1 h
      obtain ⟨ki, zi, rfl, h0, h1, rfl, h2⟩ := index_inv hi hk
      subst hh
      cases hx with
      | sl0 => simp at h2
      | sl sz es full b off cap U hp hc hf hb him hz hcell hs =>
        refine ⟨.pointer (some ⟨b, off + zi.toNat * sz + 0, none⟩), ?_, .rptr y 0 b (off + zi.toNat * sz) (U zi.toNat) hb him (fun j u hj => hcell _ y j u hy hj) (fun j u hj => hs _ y j u hy hj)⟩
        simp [Instr.indexAt, asIntOf, run_underlying ht, h0, h1, run_sizeOf he, Addr.add_lit, hsz]
    · cases h
  · rename_i id sz off len
    dsimp only at h
    split at h
    · rename_i hsz
      obtain ⟨k, hk, h⟩ := Option.map_eq_some_iff.1 h
      obtain ⟨ki, zi, rfl, h0, h1, rfl, h2⟩ := index_inv hi hk
      subst h
      cases hx with
      | vec _ _ _ _ A cap ge hm hz hl hc hN hA =>
        cases hg : ge.blk with
        | none => have := hN hg; omega
        | some g =>
          have hAe := hA g hg (.inl (by omega))
          subst hAe
          refine ⟨.pointer (some ⟨g, (off + zi.toNat) * ge.sz + 0, none⟩), ?_, .eptr id _ 0 g ge hm hg⟩
          simp [Instr.indexAt, asIntOf, run_underlying ht, h0, h1, run_sizeOf he, Addr.add_lit, hsz, hz, Nat.add_mul]
    · cases h
theorem aaddr_run {t e : TypeId} {len : Nat} (ht : P.underlying t = some (.array len e)) (he : tyOk P e = true) {X I : AX} {z : AV} {x i : Value} (hx : Sim w γ (X.ev fr) x) (hi : Sim w γ (I.ev fr) i)
    (h : evP fr (.aaddr len (P.cellsOf e) X I) = some z) : ∃ v, (Instr.indexAt t x i).run P w = .ok v w ∧ Sim w γ z v := by
  simp only [evP] at h
  generalize X.ev fr = XX at *
  cases XX <;> try (cases h; done)
  · rename_i id j o
    obtain ⟨k, hk, h⟩ := Option.map_eq_some_iff.1 h
    obtain ⟨ki, zi, rfl, h0, h1, rfl, h2⟩ := index_inv hi hk
    subst h
    cases hx with
    | eptr _ _ _ g ge hm hg =>
      refine ⟨.pointer (some ⟨g, _ * ge.sz + (o + zi.toNat * P.cellsOf e), none⟩), ?_, .eptr _ _ _ g ge hm hg⟩
      simp [Instr.indexAt, asIntOf, run_underlying ht, h0, h1, run_sizeOf he, Addr.add_lit, Instr.sureAddr, Nat.add_assoc]
  · rename_i y o
    obtain ⟨k, hk, h⟩ := Option.map_eq_some_iff.1 h
    obtain ⟨ki, zi, rfl, h0, h1, rfl, h2⟩ := index_inv hi hk
    subst h
    cases hx with
    | rptr _ _ b o' U hb him hc hs =>
      refine ⟨.pointer (some ⟨b, o' + (o + zi.toNat * P.cellsOf e), none⟩), ?_, .rptr _ _ b o' U hb him hc hs⟩
      simp [Instr.indexAt, asIntOf, run_underlying ht, h0, h1, run_sizeOf he, Addr.add_lit, Instr.sureAddr, Nat.add_assoc]
theorem get_mk (s : List UInt8) (k : Nat) : (ByteArray.mk s.toArray)[k]? = s[k]? := by
  by_cases h : k < s.length
  · rw [List.getElem?_eq_getElem h, getElem?_pos _ _ (by rw [size_mk]; exact h)]
    rfl
  · rw [List.getElem?_eq_none (by omega), getElem?_neg _ _ (by rw [size_mk]; exact h)]
theorem idxs_run {t : TypeId} (ht : P.underlying t = some .string) {X I : AX} {z : AV} {x i : Value} (hx : Sim w γ (X.ev fr) x) (hi : Sim w γ (I.ev fr) i)
    (h : evP fr (.idxs X I) = some z) : ∃ v, (Instr.index t x i).run P w = .ok v w ∧ Sim w γ z v := by
  simp only [evP] at h
  generalize X.ev fr = XX at *
  cases XX <;> try (cases h; done)
  obtain ⟨k, hk, h⟩ := Option.bind_eq_some_iff.1 h
  obtain ⟨y, hy, hh⟩ := Option.map_eq_some_iff.1 h
  obtain ⟨ki, zi, rfl, h0, h1, rfl, h2⟩ := index_inv hi hk
  cases str_inv hx
  subst hh
  exact ⟨.int .u8 y.toNat, by simp [Instr.index, asIntOf, run_underlying ht, h0, get_mk, hy], .int _ _⟩
theorem idxa_run {t e : TypeId} {len : Nat} (ht : P.underlying t = some (.array len e)) (he : tyOk P e = true) {X I : AX} {z : AV} {x i : Value} (hx : Sim w γ (X.ev fr) x) (hi : Sim w γ (I.ev fr) i)
    (h : evP fr (.idxa len (P.cellsOf e) (isAg P e) X I) = some z) : ∃ v, (Instr.index t x i).run P w = .ok v w ∧ Sim w γ z v := by
  simp only [evP] at h
  generalize X.ev fr = XX at *
  cases XX <;> try (cases h; done)
  obtain ⟨k, hk, h⟩ := Option.bind_eq_some_iff.1 h
  obtain ⟨ki, zi, rfl, h0, h1, rfl, h2⟩ := index_inv hi hk
  obtain ⟨cs, rfl, hz, hs⟩ := agg_inv hx
  obtain ⟨v, hv, hsv⟩ := part_run (P := P) hz hs he h
  exact ⟨v, by simp [Instr.index, asIntOf, run_underlying ht, h0, h1, run_sizeOf he, hv], hsv⟩
theorem ext_run {X : AX} {z : AV} {x : Value} (hx : Sim w γ (X.ev fr) x) {i : Nat} (h : evP fr (.ext X i) = some z) : ∃ v, (Instr.extract x i).run P w = .ok v w ∧ Sim w γ z v := by
  simp only [evP] at h
  generalize X.ev fr = XX at *
  cases XX <;> try (cases h; done)
  obtain ⟨cs, rfl, hz, hs⟩ := tup_inv hx
  dsimp only at h
  have hl := (List.getElem?_eq_some_iff.1 h).1
  have hc : cs[i]? = some (cs[i]'(by omega)) := Array.getElem?_eq_getElem (by omega)
  exact ⟨_, by simp only [Instr.extract, hc]; rfl, hs i z _ h hc⟩
theorem lenS_run {t : TypeId} {X : AX} {z : AV} {x : Value} (ht : P.underlying t = some .string) (hx : Sim w γ (X.ev fr) x) (ty : TypeId)
    (h : evP fr (.lenS X) = some z) : ∃ v, (Builtin.len_ #[t] ty #[x]).run P w = .ok v w ∧ Sim w γ z v := by
  simp only [evP] at h
  generalize X.ev fr = XX at *
  cases XX <;> try (cases h; done)
  cases str_inv hx
  cases h
  exact ⟨.int .i64 _, by simp [Builtin.len_, run_underlying ht, goInt, size_mk], .int _ _⟩
theorem len_run {t e : TypeId} {X : AX} {z : AV} {x : Value} (ht : P.underlying t = some (.slice e)) (hx : Sim w γ (X.ev fr) x) (ty : TypeId)
    (h : evP fr (.len X) = some z) : ∃ v, (Builtin.len_ #[t] ty #[x]).run P w = .ok v w ∧ Sim w γ z v := by
  simp only [evP] at h
  generalize X.ev fr = XX at *
  cases XX <;> try (cases h; done)
  · rename_i sz es full
    cases h
    cases hx with
    | sl0 => exact ⟨.int .i64 0, by simp [Builtin.len_, run_underlying ht, goInt], .int _ _⟩
    | sl _ _ _ b off cap U hp hc hf hb him hz hcell hs => exact ⟨.int .i64 es.length, by simp [Builtin.len_, run_underlying ht, goInt], .int _ _⟩
  · rename_i id sz off len
    cases h
    cases hx with
    | vec _ _ _ _ A cap ge hm hz hl hc hN hA => exact ⟨.int .i64 len, by simp [Builtin.len_, run_underlying ht, goInt], .int _ _⟩
variable {a : Act}
theorem slices_run {t : TypeId} (ht : P.underlying t = some .string) {X : AX} {lo hi : Option Operand} {z : AV} {x : Value} (hf : FrR w γ fr a.tmps) (hx : Sim w γ (X.ev fr) x)
    (he : evP fr (.slices X (lo.map cx) (hi.map cx)) = some z) : ∃ v, (Instr.sliceAt t x (lo.map a.eval) (hi.map a.eval) none).run P w = .ok v w ∧ Sim w γ z v := by
  simp only [evP] at he
  generalize X.ev fr = XX at *
  cases XX <;> try (cases he; done)
  rename_i s
  cases str_inv hx
  obtain ⟨hn, h1, he⟩ := Option.bind_eq_some_iff.1 he
  obtain ⟨ln, h2, he⟩ := Option.map_eq_some_iff.1 he
  subst he
  refine ⟨.string ((ByteArray.mk s.toArray).extract ln hn), ?_, ?_⟩
  · have e : (Instr.sliceBounds false s.length s.length (lo.map a.eval) (hi.map a.eval) none).run P w = .ok (ln, hn, s.length) w := by
      unfold Instr.sliceBounds
      cases hi with
      | none =>
        simp [boundO] at h1
        subst h1
        cases lo with
        | none => simp [boundO] at h2; subst h2; simp
        | some y =>
          have := (bound_le (cx_sim hf y) h2 (Nat.le_refl _) .sliceB (P := P)).1
          simp [this]
      | some y' =>
        have h1' := (bound_le (cx_sim hf y') h1 (Nat.le_refl _) .sliceAlen (P := P)).1
        cases lo with
        | none => simp [boundO] at h2; subst h2; simp [h1']
        | some y =>
          have := (bound_le (cx_sim hf y) h2 (Nat.le_refl _) .sliceB (P := P)).1
          simp [this, h1']
    simp [Instr.sliceAt, Instr.slice, run_underlying ht, size_mk, e]
  · have e : (ByteArray.mk s.toArray).extract ln hn = ByteArray.mk ((s.take hn).drop ln).toArray := by
      apply ByteArray.ext
      simp [List.drop_take]
    rw [e]
    exact .str _
theorem sl_cut {sz : Nat} {es : List AV} {full full' : Bool} {A : Option Addr} {len cap l h m : Nat} (hx : Sim w γ (.sl sz es full) (.slice A len cap)) (h1 : l ≤ h) (h2 : h ≤ es.length) (h3 : h ≤ m) (hfull : full' = true → m = h) :
    Sim w γ (.sl sz ((es.take h).drop l) full') (.slice (if m = l then A else A.map (·.add (l * sz))) (h - l) (m - l)) := by
  by_cases hl : l = h
  · subst hl
    have e : (es.take l).drop l = [] := List.drop_eq_nil_of_le (by simp; omega)
    rw [e, Nat.sub_self]
    exact .sl0 _ _ _ _ (fun hf => by have := hfull hf; omega)
  · have hm : m ≠ l := by omega
    rw [if_neg hm]
    cases hx with
    | sl0 => simp at h2; omega
    | sl _ _ _ b off cap U hp hc hf hb him hz hcell hs =>
      have hlen : ((es.take h).drop l).length = h - l := by simp; omega
      have key : ∀ (i : Nat) (x : AV), ((es.take h).drop l)[i]? = some x → es[l + i]? = some x := by
        intro i x hi
        rw [List.getElem?_drop, List.getElem?_take] at hi
        split at hi
        · exact hi
        · cases hi
      simp only [Option.map_some, Addr.add_lit]
      rw [← hlen]
      refine .sl sz _ full' b (off + l * sz) (m - l) (fun i j => U (l + i) j) (by omega) (by omega) (fun hf => by have := hfull hf; omega) hb him ?_ ?_ ?_
      · intro x hx
        obtain ⟨i, hi⟩ := List.mem_iff_getElem?.1 hx
        exact hz x (List.mem_of_getElem? (key i x hi))
      · intro i x j y hi hj
        have := hcell (l + i) x j y (key i x hi) hj
        rw [Nat.add_mul] at this
        rw [show off + l * sz + i * sz + j = off + (l * sz + i * sz) + j by omega]
        exact this
      · intro i x j y hi hj
        exact hs (l + i) x j y (key i x hi) hj
theorem vec_cut0 {id sz n : Nat} {A : Option Addr} {cap l h : Nat} (hx : Sim w γ (.vec id sz 0 n) (.slice A n cap)) (h1 : l ≤ h) (h2 : h ≤ cap) :
    Sim w γ (.vec id sz l (h - l)) (.slice (if cap = l then A else A.map (·.add (l * sz))) (h - l) (cap - l)) := by
  cases hx with
  | vec _ _ _ _ A cap ge hm hz hl hc hN hA =>
    refine .vec id sz l (h - l) _ (cap - l) ge hm hz (by omega) (by omega) hN (fun g hg ho => ?_)
    by_cases hcl : cap = l
    · rw [if_pos hcl]
      have h00 : l = 0 := by omega
      subst h00
      exact hA g hg (.inr rfl)
    · rw [if_neg hcl, hA g hg (.inr rfl)]
      simp only [Option.map_some, Addr.add_lit, Nat.zero_mul, Nat.zero_add]
theorem vec_cut {id sz off n : Nat} {A : Option Addr} {cap l h : Nat} (hx : Sim w γ (.vec id sz off n) (.slice A n cap)) (h1 : l ≤ h) (h2 : h ≤ n) :
    Sim w γ (.vec id sz (off + l) (h - l)) (.slice (if cap = l then A else A.map (·.add (l * sz))) (h - l) (cap - l)) := by
  cases hx with
  | vec _ _ _ _ A cap ge hm hz hl hc hN hA =>
    refine .vec id sz (off + l) (h - l) _ (cap - l) ge hm hz (by omega) (by omega) hN (fun g hg ho => ?_)
    by_cases hcl : cap = l
    · rw [if_pos hcl]
      have : h - l = 0 := by omega
      have h0 : off = 0 := by omega
      have h00 : l = 0 := by omega
      subst h0; subst h00
      exact hA g hg (.inr rfl)
    · rw [if_neg hcl, hA g hg (by omega)]
      simp only [Option.map_some, Addr.add_lit]
      rw [Nat.add_mul]
end
end Go.Pv
