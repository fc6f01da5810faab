/-
  The machine of plain values, 2: how its values, rows and frames stand to those of the model; what a step keeps.
-/
import Derived.Test.YtabenkmiojjiiaaPvA
import Derived.WalkKit
namespace Go.Pv

structure GE where
  blk : Option Nat
  sz : Nat
  C : Nat
  st : Nat        -- 0: gone, 1: nobody writes it any more, 2: the call's own
structure Gh where
  m : Nat → Option GE
  imm : Nat → Prop
def Gh.bare (γ : Gh) : Gh := ⟨fun _ => none, γ.imm⟩
def Gh.owns (γ : Gh) (b : Nat) : Prop := ∃ id ge, γ.m id = some ge ∧ ge.st = 2 ∧ ge.blk = some b

inductive Sim (w : World) : Gh → AV → Value → Prop
  | undef {γ : Gh} (v : Value) : Sim w γ .undef v
  | bool {γ : Gh} (b : Bool) : Sim w γ (.bool b) (.bool b)
  | anyb {γ : Gh} (b : Bool) : Sim w γ .anyb (.bool b)
  | int {γ : Gh} (k : IntKind) (n : Int) : Sim w γ (.int k n) (.int k n)
  | str {γ : Gh} (s : List UInt8) : Sim w γ (.str s) (.string ⟨s.toArray⟩)
  | lit {γ : Gh} (v : Value) : Sim w γ (.lit v) v
  | sl0 {γ : Gh} (sz : Nat) (full : Bool) (A : Option Addr) (cap : Nat) (h : full = true → cap = 0) : Sim w γ (.sl sz [] full) (.slice A 0 cap)
  | sl {γ : Gh} (sz : Nat) (es : List AV) (full : Bool) (b off cap : Nat) (U : Nat → Nat → Value) (hp : 0 < es.length) (hc : es.length ≤ cap) (hf : full = true → cap = es.length)
      (hb : b < w.heap.size) (hi : γ.imm b) (hz : ∀ x ∈ es, x.flat.length = sz)
      (hcell : ∀ (i : Nat) (x : AV) (j : Nat) (y : AV), es[i]? = some x → x.flat[j]? = some y → w.cell? ⟨b, off + i * sz + j, none⟩ = some (U i j) ∧ (U i j).oneCell' = true)
      (hs : ∀ (i : Nat) (x : AV) (j : Nat) (y : AV), es[i]? = some x → x.flat[j]? = some y → Sim w γ.bare y (U i j)) : Sim w γ (.sl sz es full) (.slice (some ⟨b, off, none⟩) es.length cap)
  | vec {γ : Gh} (id sz off len : Nat) (A : Option Addr) (cap : Nat) (ge : GE) (hm : γ.m id = some ge) (hz : ge.sz = sz) (hl : off + len ≤ ge.C) (hc : cap + off = ge.C)
      (hN : ge.blk = none → ge.C = 0) (hA : ∀ g, ge.blk = some g → (0 < len ∨ off = 0) → A = some ⟨g, off * sz, none⟩) : Sim w γ (.vec id sz off len) (.slice A len cap)
  | eptr {γ : Gh} (id i off g : Nat) (ge : GE) (hm : γ.m id = some ge) (hg : ge.blk = some g) : Sim w γ (.eptr id i off) (.pointer (some ⟨g, i * ge.sz + off, none⟩))
  | rptr {γ : Gh} (x : AV) (off b o : Nat) (U : Nat → Value) (hb : b < w.heap.size) (hi : γ.imm b)
      (hcell : ∀ (j : Nat) (y : AV), x.flat[j]? = some y → w.cell? ⟨b, o + j, none⟩ = some (U j) ∧ (U j).oneCell' = true)
      (hs : ∀ (j : Nat) (y : AV), x.flat[j]? = some y → Sim w γ.bare y (U j)) : Sim w γ (.rptr x off) (.pointer (some ⟨b, o + off, none⟩))
  | fn {γ : Gh} (f : FuncId) (xs : List AV) (cs : Array Value) (hz : xs.length = cs.size)
      (hs : ∀ (i : Nat) (x : AV) (v : Value), xs[i]? = some x → cs[i]? = some v → Sim w γ x v) : Sim w γ (.fn f xs) (.func (.func f) #[] cs)
  | agg {γ : Gh} (xs : List AV) (cs : Array Value) (hz : xs.length = cs.size)
      (hs : ∀ (i : Nat) (x : AV) (v : Value), xs[i]? = some x → cs[i]? = some v → Sim w γ x v) : Sim w γ (.agg xs) (.agg cs)
  | tup {γ : Gh} (xs : List AV) (cs : Array Value) (hz : xs.length = cs.size)
      (hs : ∀ (i : Nat) (x : AV) (v : Value), xs[i]? = some x → cs[i]? = some v → Sim w γ x v) : Sim w γ (.tup xs) (.tuple cs)

structure Adv (γ γ' : Gh) (w w' : World) : Prop where
  size : w.heap.size ≤ w'.heap.size
  imm : ∀ b, γ.imm b → γ'.imm b ∧ (b < w.heap.size → w'.heap[b]? = w.heap[b]?)
  id : ∀ id ge, γ.m id = some ge → ∃ st, γ'.m id = some { ge with st := st }
theorem Adv.bare {γ γ' : Gh} {w w' : World} (h : Adv γ γ' w w') : Adv γ.bare γ'.bare w w' := ⟨h.size, h.imm, fun _ _ hi => by cases hi⟩
theorem cell_same {w w' : World} {b o : Nat} (h : w'.heap[b]? = w.heap[b]?) : w'.cell? ⟨b, o, none⟩ = w.cell? ⟨b, o, none⟩ := World.cell?_of_block (w := w) (a := ⟨b, o, none⟩) h

theorem Sim.adv {w : World} {γ : Gh} {x : AV} {v : Value} (h : Sim w γ x v) : ∀ {γ' : Gh} {w' : World}, Adv γ γ' w w' → Sim w' γ' x v := by
  induction h with
  | undef v => intro γ' w' _; exact .undef v
  | bool b => intro γ' w' _; exact .bool b
  | anyb b => intro γ' w' _; exact .anyb b
  | int k n => intro γ' w' _; exact .int k n
  | str s => intro γ' w' _; exact .str s
  | lit v => intro γ' w' _; exact .lit v
  | sl0 sz full A cap h => intro γ' w' _; exact .sl0 sz full A cap h
  | sl sz es full b off cap U hp hc hf hb hi hz hcell hs ih =>
    intro γ' w' a
    have he := (a.imm b hi).2 hb
    exact .sl sz es full b off cap U hp hc hf (Nat.lt_of_lt_of_le hb a.size) (a.imm b hi).1 hz (fun i x j y h1 h2 => by rw [cell_same he]; exact hcell i x j y h1 h2) (fun i x j y h1 h2 => ih i x j y h1 h2 a.bare)
  | vec id sz off len A cap ge hm hz hl hc hN hA =>
    intro γ' w' a
    obtain ⟨st, h2⟩ := a.id id ge hm
    exact .vec id sz off len A cap _ h2 hz hl hc hN hA
  | eptr id i off g ge hm hg =>
    intro γ' w' a
    obtain ⟨st, h2⟩ := a.id id ge hm
    exact .eptr id i off g { ge with st := st } h2 hg
  | rptr x off b o U hb hi hcell hs ih =>
    intro γ' w' a
    have he := (a.imm b hi).2 hb
    exact .rptr x off b o U (Nat.lt_of_lt_of_le hb a.size) (a.imm b hi).1 (fun j y h => by rw [cell_same he]; exact hcell j y h) (fun j y h => ih j y h a.bare)
  | fn f xs cs hz hs ih => intro γ' w' a; exact .fn f xs cs hz fun i x v h1 h2 => ih i x v h1 h2 a
  | agg xs cs hz hs ih => intro γ' w' a; exact .agg xs cs hz fun i x v h1 h2 => ih i x v h1 h2 a
  | tup xs cs hz hs ih => intro γ' w' a; exact .tup xs cs hz fun i x v h1 h2 => ih i x v h1 h2 a

/-- A row stands as the machine has it. -/
def EntOk (w : World) (γ : Gh) (e : Ent) (ge : GE) : Prop :=
  (ge.st = 0 ∧ e.wr = false ∧ e.es = []) ∨ ge.st = (if e.wr then 2 else 1) ∧ ((ge.blk = none ∧ e.es = [] ∧ ge.C = 0) ∨
    ∃ g cs fr, ge.blk = some g ∧ w.heap[g]? = some (.cells cs e.ty fr) ∧ cs.size = ge.C * ge.sz ∧ (fr.1 = fr.2 ∨ cs.size ≤ fr.1) ∧ e.es.length ≤ ge.C ∧
      ∀ (i : Nat) (x : AV), e.es[i]? = some x → x.flat.length = ge.sz ∧ ∀ (j : Nat) (y : AV), x.flat[j]? = some y → ∃ u, cs[i * ge.sz + j]? = some u ∧ u.oneCell' = true ∧ Sim w γ y u)
theorem EntOk.adv {w w' : World} {γ γ' : Gh} {e : Ent} {ge : GE} (h : EntOk w γ e ge) (a : Adv γ γ' w w') (hk : ∀ g, ge.st ≠ 0 → ge.blk = some g → w'.heap[g]? = w.heap[g]?) : EntOk w' γ' e ge := by
  rcases h with h | h
  · exact .inl h
  have hst : ge.st ≠ 0 := by rw [h.1]; split <;> decide
  refine .inr ⟨h.1, ?_⟩
  rcases h.2 with h | ⟨g, cs, fr, h1, h2, h3, h4, h5, h6⟩
  · exact .inl h
  · refine .inr ⟨g, cs, fr, h1, (hk g hst h1).trans h2, h3, h4, h5, fun i x hx => ⟨(h6 i x hx).1, fun j y hy => ?_⟩⟩
    obtain ⟨u, hu, hone, hs⟩ := (h6 i x hx).2 j y hy
    exact ⟨u, hu, hone, hs.adv a⟩
structure HRel (γ : Gh) (H : Hp) (w : World) : Prop where
  none : ∀ id, ent H id = none → γ.m id = none
  ok : ∀ id e, ent H id = some e → ∃ ge, γ.m id = some ge ∧ EntOk w γ e ge
  inj : ∀ id id' ge ge' b, γ.m id = some ge → γ.m id' = some ge' → ge.st ≠ 0 → ge'.st ≠ 0 → ge.blk = some b → ge'.blk = some b → id = id'
  imm : ∀ b, γ.imm b → b < w.heap.size ∧ ¬ γ.owns b
  stl : ∀ id ge b, γ.m id = some ge → ge.st = 1 → ge.blk = some b → γ.imm b
theorem ent_lt {H : Hp} {id : Nat} {e : Ent} (h : ent H id = some e) : id < H.length := by
  unfold ent at h
  rcases Nat.lt_or_ge id H.length with h' | h'
  · exact h'
  · rw [List.getElem?_eq_none h'] at h; cases h
theorem HRel.ent {γ : Gh} {H : Hp} {w : World} (h : HRel γ H w) {id : Nat} {ge : GE} (hm : γ.m id = some ge) : ∃ e, Pv.ent H id = some e ∧ EntOk w γ e ge := by
  cases he : Pv.ent H id with
  | none => rw [h.none id he] at hm; cases hm
  | some e =>
    obtain ⟨ge', h1, h2⟩ := h.ok id e he
    rw [hm] at h1; cases h1
    exact ⟨e, rfl, h2⟩
theorem EntOk.blkLt {γ : Gh} {w : World} {e : Ent} {ge : GE} (h2 : EntOk w γ e ge) (hs : ge.st ≠ 0) {g : Nat} (hg : ge.blk = some g) : g < w.heap.size := by
  rcases h2 with h | h2
  · exact absurd h.1 hs
  rcases h2.2 with h' | ⟨g', cs, fr, h1, h2, _⟩
  · rw [h'.1] at hg; cases hg
  · rw [h1] at hg; cases hg
    exact (Array.getElem?_eq_some_iff.1 h2).1
theorem HRel.blkLt {γ : Gh} {H : Hp} {w : World} (h : HRel γ H w) {id : Nat} {ge : GE} {g : Nat} (hm : γ.m id = some ge) (hs : ge.st ≠ 0) (hg : ge.blk = some g) : g < w.heap.size := by
  obtain ⟨e, _, h2⟩ := h.ent hm
  exact h2.blkLt hs hg
theorem EntOk.live {γ : Gh} {w : World} {e : Ent} {ge : GE} (h : EntOk w γ e ge) (hl : e.wr = true ∨ e.es ≠ []) : ge.st = (if e.wr then 2 else 1) ∧ ((ge.blk = none ∧ e.es = [] ∧ ge.C = 0) ∨
    ∃ g cs fr, ge.blk = some g ∧ w.heap[g]? = some (.cells cs e.ty fr) ∧ cs.size = ge.C * ge.sz ∧ (fr.1 = fr.2 ∨ cs.size ≤ fr.1) ∧ e.es.length ≤ ge.C ∧
      ∀ (i : Nat) (x : AV), e.es[i]? = some x → x.flat.length = ge.sz ∧ ∀ (j : Nat) (y : AV), x.flat[j]? = some y → ∃ u, cs[i * ge.sz + j]? = some u ∧ u.oneCell' = true ∧ Sim w γ y u) := by
  rcases h with ⟨_, h1, h2⟩ | h
  · rcases hl with hl | hl
    · rw [h1] at hl; cases hl
    · exact absurd h2 hl
  · exact h
structure Step (γ γ' : Gh) (w w' : World) : Prop where
  os : w'.os = w.os
  tape : w'.tape = w.tape
  output : w'.output = w.output
  size : w.heap.size ≤ w'.heap.size
  keep : ∀ b, b < w.heap.size → ¬ γ.owns b → w'.heap[b]? = w.heap[b]?
  own : ∀ b, γ'.owns b → γ.owns b ∨ w.heap.size ≤ b
  immk : ∀ b, γ.imm b → γ'.imm b
  immn : ∀ b, γ'.imm b → γ.imm b ∨ γ.owns b ∨ w.heap.size ≤ b
/-- What is known of a row stays known. -/
def Ids (γ γ' : Gh) : Prop := ∀ id ge, γ.m id = some ge → ∃ st, γ'.m id = some { ge with st := st }
theorem Step.adv {γ γ' : Gh} {w w' : World} (h : Step γ γ' w w') (hi : Ids γ γ') (himm : ∀ b, γ.imm b → b < w.heap.size ∧ ¬ γ.owns b) : Adv γ γ' w w' :=
  ⟨h.size, fun b hb => ⟨h.immk b hb, fun hlt => h.keep b hlt (himm b hb).2⟩, hi⟩
theorem Step.refl (γ : Gh) (w : World) : Step γ γ w w := ⟨rfl, rfl, rfl, Nat.le_refl _, fun _ _ _ => rfl, fun _ h => .inl h, fun _ h => h, fun _ h => .inl h⟩
theorem Ids.refl (γ : Gh) : Ids γ γ := fun _ ge h => ⟨ge.st, h⟩
theorem Ids.trans {a b c : Gh} (h : Ids a b) (k : Ids b c) : Ids a c := fun id ge hm => by
  obtain ⟨st, h1⟩ := h id ge hm
  obtain ⟨st', h2⟩ := k id _ h1
  exact ⟨st', h2⟩
theorem Step.trans {a b c : Gh} {w w1 w2 : World} (h : Step a b w w1) (k : Step b c w1 w2) : Step a c w w2 where
  os := k.os.trans h.os
  tape := k.tape.trans h.tape
  output := k.output.trans h.output
  size := Nat.le_trans h.size k.size
  keep := fun x hx hn => (k.keep x (Nat.lt_of_lt_of_le hx h.size) (fun ho => (h.own x ho).elim hn (fun hge => by omega))).trans (h.keep x hx hn)
  own := fun x hx => by
    rcases k.own x hx with h1 | h1
    · exact h.own x h1
    · exact .inr (Nat.le_trans h.size h1)
  immk := fun x hx => k.immk x (h.immk x hx)
  immn := fun x hx => by
    rcases k.immn x hx with h1 | h1 | h1
    · exact h.immn x h1
    · exact .inr (h.own x h1)
    · exact .inr (.inr (Nat.le_trans h.size h1))

/-! ### Frames -/
def FrR (w : World) (γ : Gh) (fr : Fr) (tmps : Array Value) : Prop := ∀ t, Sim w γ (get fr t) (tmps.getD t Go.undef)
theorem get_put (fr : Fr) (t u : Nat) (v : AV) : get (put fr t v) u = if t = u then v else get fr u := by
  induction fr with
  | nil => simp only [put, get]
  | cons p r ih =>
    obtain ⟨k, x⟩ := p
    simp only [put]
    by_cases h : k = t
    · subst h; simp only [if_true, get]; split <;> rfl
    · rw [if_neg h]
      split
      · simp only [get]
      · simp only [get, ih]
        by_cases h1 : k = u
        · subst h1; rw [if_pos rfl, if_pos rfl, if_neg (fun e => h e.symm)]
        · rw [if_neg h1, if_neg h1]
theorem FrR.adv {w w' : World} {γ γ' : Gh} {fr : Fr} {tmps : Array Value} (h : FrR w γ fr tmps) (a : Adv γ γ' w w') : FrR w' γ' fr tmps := fun t => (h t).adv a
theorem FrR.put {w : World} {γ : Gh} {fr : Fr} {a : Act} (h : FrR w γ fr a.tmps) {d : Option Nat} {x : AV} {v : Value} (hs : Sim w γ x v) (hd : ∀ t, d = some t → t < a.tmps.size) : FrR w γ (putO fr d x) (a.put d v).tmps := by
  cases d with
  | none => exact h
  | some d =>
    intro t
    simp only [putO, get_put, Act.put]
    by_cases ht : d = t
    · subst ht
      have := hd d rfl
      rw [if_pos rfl]
      simpa [Array.getD_eq_getD_getElem?, Array.getElem?_setIfInBounds, this] using hs
    · rw [if_neg ht]
      have e : (a.tmps.setIfInBounds d v).getD t Go.undef = a.tmps.getD t Go.undef := by
        simp [Array.getD_eq_getD_getElem?, Array.getElem?_setIfInBounds_ne ht]
      rw [e]; exact h t
theorem ofVal_sim (w : World) (γ : Gh) (v : Value) : Sim w γ (ofVal v) v := by
  cases v with
  | bool b => exact .bool _
  | int k n => exact .int _ _
  | string s => exact .str s.data.toList
  | slice a n c =>
    simp only [ofVal]
    split
    · rename_i h
      simp at h
      obtain ⟨⟨rfl, rfl⟩, rfl⟩ := h
      exact .sl0 _ _ _ _ (fun _ => rfl)
    · exact .lit _
  | func g a b =>
    simp only [ofVal]
    split
    · rename_i h
      simp at h
      obtain ⟨rfl, rfl⟩ := h
      cases g <;> first | exact .lit _ | exact .fn _ _ _ rfl (fun i x v h _ => by simp at h)
    · exact .lit _
  | _ => exact .lit _
theorem cx_sim {w : World} {γ : Gh} {fr : Fr} {a : Act} (h : FrR w γ fr a.tmps) (x : Operand) : Sim w γ ((cx x).ev fr) (a.eval x) := by
  cases x with
  | tmp t => exact h t
  | const v => exact ofVal_sim w γ v
  | global g => exact .lit _
  | func f => exact .fn _ _ _ rfl (fun i x v h _ => by simp at h)
end Go.Pv
