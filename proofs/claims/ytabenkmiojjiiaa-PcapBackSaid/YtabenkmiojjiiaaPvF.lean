/-
  The machine of plain values, 6: each operation that looks at no memory does in the model what it does in the machine.
-/
import Derived.Test.YtabenkmiojjiiaaPvE
namespace Go.Pv
section
variable {P : Program} {w : World} {γ : Gh} {fr : Fr} {a : Act}
theorem bin2_shape {op : BinOp} {X Y z : AV} {x : Value} (hx : Sim w γ X x) (h : bin2 op X Y = some z) : (∀ cs, x ≠ .agg cs) ∧ x ≠ .nilIface := by
  unfold bin2 at h
  split at h
  · cases int_inv hx; simp
  · cases str_inv hx; simp
  · cases h
theorem binB2_shape {op : BinOp} {X Y z : AV} {x : Value} (hx : Sim w γ X x) (h : binB2 op X Y = some z) : (∀ cs, x ≠ .agg cs) ∧ x ≠ .nilIface := by
  unfold binB2 at h
  split at h
  · cases bool_inv hx; simp
  · cases h
theorem guard_then {op : BinOp} {t : TypeId} {o1 o2 : Operand} {x y : Value} {z : AV} (hs : (∀ cs, x ≠ .agg cs) ∧ x ≠ .nilIface) (h : ∃ v, (binOp op t x y).run P w = .ok v w ∧ Sim w γ z v) :
    ∃ v, (do eqGuard op t o1 o2 x y; binOp op t x y : Sem Value).run P w = .ok v w ∧ Sim w γ z v := by
  obtain ⟨v, hv, h2⟩ := h
  exact ⟨v, by simp [eqGuard_run op t o1 o2 x y hs.1 hs.2, hv], h2⟩
theorem idxb_run {f : FuncId} (hi : isIdx P f = true) {X Y : AX} {z : AV} {x y : Value} (hx : Sim w γ (X.ev fr) x) (hy : Sim w γ (Y.ev fr) y) (h : evP fr (.idxb X Y) = some z) :
    ∃ v, (callFunc f #[x, y]).run P w = .ok (.value v) w ∧ Sim w γ z v := by
  unfold isIdx at hi
  split at hi
  case h_2 => cases hi
  rename_i fn hfn
  simp only [Bool.and_eq_true, beq_iff_eq] at hi
  obtain ⟨hb, ho, hn⟩ := hi
  have h1 : Extern.find fn = some Extern.BytealgIndexByte.indexByte := by
    unfold Extern.find
    simp only [hn]
    rfl
  have h2 : Extern.findNext fn = none := by
    unfold Extern.findNext
    simp only [hn, ho]
    rfl
  have hrun := run_callFunc_extern (P := P) hfn (by rw [hn]; decide) hb h2 h1
  simp only [evP] at h
  generalize X.ev fr = XX at *
  generalize Y.ev fr = YY at *
  cases XX <;> try (cases h; done)
  cases YY <;> try (cases h; done)
  rename_i s k n
  cases k <;> try (cases h; done)
  cases h
  cases str_inv hx
  cases int_inv hy
  refine ⟨_, ?_, .int _ _⟩
  rw [hrun, Lib.run_indexByteString]
  rfl
theorem evP_sound (hf : FrR w γ fr a.tmps) {o : Oper} {d : Bool} {r : Option Nat} {p : OpP} (hc : compOp P d r o = .p p) {x : AV} (hx : evP fr p = some x) :
    ∃ v, (execOp a.eval o).run P w = .ok (.value v) w ∧ Sim w γ x v := by
  obtain ⟨dst, op, ty, pos, after, guard⟩ := o
  have S := fun y => cx_sim hf y (γ := γ)
  have lift : ∀ {s : Sem Value} {z : AV}, (∃ v, s.run P w = .ok v w ∧ Sim w γ z v) → ∃ v, (do pure (.value (← s)) : Sem Next).run P w = .ok (.value v) w ∧ Sim w γ z v := by
    rintro s z ⟨v, hv, hs⟩
    exact ⟨v, by simp [hv], hs⟩
  cases op with
  | move y => cases hc; simp only [evP] at hx; cases hx; exact ⟨_, rfl, S y⟩
  | assign y => cases hc; simp only [evP] at hx; cases hx; exact ⟨_, rfl, S y⟩
  | pick c y z => cases hc; exact pick_run (S c) (S y) (S z) hx
  | alloc t => simp only [compOp] at hc; repeat' (first | (cases hc; done) | split at hc)
  | box t y => cases hc
  | build t parts =>
    simp only [compOp] at hc
    split at hc
    · rename_i fs z ht hz
      split at hc
      · cases hc
      · rename_i hcond
        cases hc
        simp at hcond
        exact lift (buildS_run ht hz (by simpa using hcond.2) (by simpa using hcond.1.1) hf (by simpa using hcond.1.2) hx)
    · rename_i n e z ht hz
      split at hc
      · cases hc
      · rename_i hcond
        cases hc
        simp at hcond
        exact lift (buildA_run ht hz (by simpa using hcond.2) hcond.1 hf hx)
    · cases hc
  | buildSlice t n parts => simp only [compOp] at hc; repeat (split at hc <;> try cases hc)
  | load t y => simp only [compOp] at hc; split at hc <;> cases hc
  | store t y z => simp only [compOp] at hc; split at hc <;> cases hc
  | nilCheck y =>
    cases hc
    obtain ⟨rfl, h⟩ := nilck_run (S y) hx
    refine ⟨a.eval y, ?_, S y⟩
    rcases h with ⟨b, hb⟩ | ⟨f, cs, hb⟩ <;> rw [show (execOp a.eval ⟨dst, .nilCheck y, ty, pos, after, guard⟩) = _ from rfl] <;> simp only [execOp, hb] <;> rfl
  | binOp op t y z yt =>
    simp only [compOp] at hc
    split at hc
    · cases hc
      exact lift (guard_then (bin2_shape (S y) hx) (bin_run (S y) (S z) hx t))
    · cases hc
      exact lift (guard_then (bin2_shape (S y) hx) (bin_run (S y) (S z) hx t))
    · rename_i ht
      cases hc
      exact lift (guard_then (binB2_shape (S y) hx) (binB_run (S y) (S z) hx t ht))
    · rename_i e ht
      split at hc
      · cases hc
        obtain ⟨h1, A, n, c, h2⟩ := isnil_run (P := P) ht (S y) hx
        exact lift (guard_then (by rw [h2]; simp) h1)
      · cases hc
        obtain ⟨h1, A, n, c, h2⟩ := isnil_run (P := P) ht (S y) hx
        exact lift (guard_then (by rw [h2]; simp) h1)
      · cases hc
    · rename_i fs ht
      split at hc
      · rename_i hp
        split at hc
        · cases hc
          exact lift (eqS_run ht hp (neg := false) y z (S y) (S z) hx)
        · cases hc
          exact lift (eqS_run ht hp (neg := true) y z (S y) (S z) hx)
        · cases hc
      · cases hc
    · cases hc
  | unOp op t y => cases hc; exact lift (un_run (S y) hx)
  | convert s d y =>
    simp only [compOp] at hc
    split at hc
    · rename_i k1 k hs hd
      cases hc
      simp only [evP] at hx
      have hy := S y
      generalize (cx y).ev fr = Y at *
      cases Y <;> try (cases hx; done)
      cases hx
      have hv := int_inv hy
      refine ⟨.int k _, ?_, .int _ _⟩
      simp [execOp, convert, run_underlying hs, run_underlying hd, hv, Conv.intToInt]
    · rename_i hs hd
      cases hc
      simp only [evP] at hx
      have hy := S y
      generalize (cx y).ev fr = Y at *
      cases Y <;> try (cases hx; done)
      cases hx
      have hv := str_inv hy
      refine ⟨_, ?_, .str _⟩
      simp [execOp, convert, run_underlying hs, run_underlying hd, hv]
    · split at hc <;> cases hc
    · split at hc <;> cases hc
    · split at hc <;> cases hc
    · cases hc
  | sliceToArrayPointer t y => cases hc
  | makeInterface t y => cases hc
  | makeFunc fn first caps =>
    cases fn <;> simp only [compOp] at hc <;> try (cases hc; done)
    split at hc
    · rename_i f hfirst
      cases hc
      simp only [evP] at hx
      cases hx
      have e : first = #[] := by simpa using hfirst
      subst e
      exact ⟨.func (.func f) #[] (caps.map a.eval), by simp [execOp, Instr.makeFunc], mkfn_sim hf⟩
    · cases hc
  | makeMap t y => cases hc
  | makeChan t y => cases hc
  | makeSlice t l c => simp only [compOp] at hc; repeat (split at hc <;> try cases hc)
  | slice t y lo hi mx =>
    simp only [compOp] at hc
    split at hc
    · rename_i ht
      split at hc
      · rename_i hm
        cases hc
        have e : mx = none := by simpa using hm
        subst e
        exact lift (slices_run ht hf (S y) hx)
      · cases hc
    · rename_i e ht
      split at hc
      · rename_i hok
        split at hc
        · cases hc
        · cases hc
          exact lift (slicev_run ht hok hf (S y) hx)
      · cases hc
    · cases hc
  | fieldAddr s y f =>
    simp only [compOp] at hc
    split at hc
    · rename_i fs ht
      split at hc
      · rename_i fd hfd
        split at hc
        · cases hc
        · rename_i hz
          cases hc
          obtain ⟨b, hb, hs⟩ := ptr_add (S y) hx
          refine ⟨_, ?_, hs⟩
          have hsz : (sizeOf fd.type).run P w = .ok (P.cellsOf fd.type) w := by
            unfold Program.cellsOf at hz ⊢
            cases hi : P.info? fd.type with
            | none => rw [hi] at hz; simp at hz
            | some i => simp [sizeOf, typeInfo, hi]
          simp [execOp, Instr.fieldAt, run_underlying ht, hfd, Instr.sureAddr, hb, fieldPlace, hsz, hz]
      · cases hc
    · cases hc
  | field s y f =>
    simp only [compOp] at hc
    split at hc
    · rename_i fs ht
      split at hc
      · rename_i fd hfd
        split at hc
        · rename_i hok
          cases hc
          simp only [evP] at hx
          have hy := S y
          generalize (cx y).ev fr = Y at *
          cases Y <;> try (cases hx; done)
          obtain ⟨cs, hv, hl, hs⟩ := agg_inv hy
          obtain ⟨v, h1, h2⟩ := part_run (P := P) hl hs hok hx
          refine ⟨v, ?_, h2⟩
          simp [execOp, Instr.field, run_underlying ht, hfd, hv, asAgg, h1]
        · cases hc
      · cases hc
    · cases hc
  | indexAddr t y i =>
    simp only [compOp] at hc
    split at hc
    · rename_i e ht
      split at hc
      · rename_i hok
        cases hc
        exact lift (iaddr_run ht hok (S y) (S i) hx)
      · cases hc
    · rename_i n e ht
      split at hc
      · rename_i hok
        cases hc
        exact lift (aaddr_run ht hok (S y) (S i) hx)
      · cases hc
    · cases hc
  | index t y i =>
    simp only [compOp] at hc
    split at hc
    · rename_i ht
      cases hc
      exact lift (idxs_run ht (S y) (S i) hx)
    · rename_i n e ht
      split at hc
      · rename_i hok
        cases hc
        exact lift (idxa_run ht hok (S y) (S i) hx)
      · cases hc
    · cases hc
  | lookup => cases hc
  | mapUpdate => cases hc
  | mapEntry => cases hc
  | entryStore => cases hc
  | insert => cases hc
  | range => cases hc
  | next => cases hc
  | entry => cases hc
  | typeAssert => cases hc
  | extract y i => cases hc; exact lift (ext_run (S y) hx)
  | call c =>
    obtain ⟨callee, args, ts⟩ := c
    cases callee with
    | value f =>
      cases f <;> try (cases hc; done)
      rename_i g
      simp only [compOp] at hc
      split at hc
      case isFalse => cases hc
      rename_i hi
      split at hc
      case h_2 => cases hc
      rename_i y z hargs
      cases hc
      have ha : args = #[y, z] := by rw [← Array.toArray_toList (xs := args), hargs]
      subst ha
      obtain ⟨v, hv, hs⟩ := idxb_run hi (S y) (S z) hx
      exact ⟨v, by simpa [execOp, resolve, Deferred.ofValue, Act.eval, invoke] using hv, hs⟩
    | invoke => cases hc
    | builtin b =>
      obtain ⟨args⟩ := args
      obtain ⟨ts⟩ := ts
      simp only [compOp] at hc
      have run : ∀ {bb : Builtin} {s : Sem Value}, (∀ C, builtin bb ⟨ts⟩ ty C (Array.map a.eval ⟨args⟩) = (do pure (.value (← s)) : Sem Next)) →
          (∃ v, s.run P w = .ok v w ∧ Sim w γ x v) → ∃ v, (execOp a.eval ⟨dst, .call ⟨.builtin bb, ⟨args⟩, ⟨ts⟩⟩, ty, pos, after, guard⟩).run P w = .ok (.value v) w ∧ Sim w γ x v := by
        rintro bb s hb ⟨v, hv, hs⟩
        refine ⟨v, ?_, hs⟩
        simp only [execOp, resolve, invoke, Sem.run_bind, Sem.run_pure, Result.andThen_ok]
        rw [hb]
        simp [hv]
      split at hc
      · rename_i y t
        split at hc
        · rename_i ht
          cases hc
          exact run (fun _ => rfl) (by simpa using lenS_run ht (S y) ty hx)
        · rename_i e ht
          cases hc
          exact run (fun _ => rfl) (by simpa using len_run ht (S y) ty hx)
        · rename_i n e ht
          cases hc
          simp only [evP] at hx
          cases hx
          exact run (fun _ => rfl) ⟨.int .i64 n, by simp [Builtin.len_, run_underlying ht, goInt], .int _ _⟩
        · cases hc
      · repeat (split at hc <;> try cases hc)
      · repeat (split at hc <;> try cases hc)
      · repeat (split at hc <;> try cases hc)
      · rename_i y z
        cases hc
        exact run (fun _ => rfl) (by simpa using minmax_run (P := P) (mx := false) (S y) (S z) ⟨ts⟩ ty hx)
      · rename_i y z
        cases hc
        exact run (fun _ => rfl) (by simpa using minmax_run (P := P) (mx := true) (S y) (S z) ⟨ts⟩ ty hx)
      · cases hc
  | go => cases hc
  | defer => cases hc
  | panic => cases hc
  | send => cases hc
  | recv => cases hc
  | select => cases hc
  | ready => cases hc
  | waits => cases hc
end
end Go.Pv
