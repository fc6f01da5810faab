/- The proofs of what the functions of this seat do. -/
import Derived.Test.YtnomcclbfbbehaaDoorPr1
import Derived.LoopIn
import Derived.LoopNIn
import Derived.OwnWalkIn
import Derived.RangeFuncBound
import Derived.RangeFuncCalls
import Derived.RangeFuncFrom
import Derived.RangeFuncLeaves
import Derived.RangeFuncNested
import Derived.Shelf.Abstract
import Derived.Shelf.RegionOpen
import Derived.TacticsInMore
import Derived.WalkKit
/-
  A loop over a function whose function keeps state in cells of its own: what the loop's body owns lies below n₁, what the function owns from there to n₂.
-/
namespace Go.Pv
open Go.RowKit
/-- What the function changes: blocks from n₁ to n₂, and new ones. -/
structure Inner (n₁ n₂ : Nat) (A B : World) : Prop where
  low : Below n₁ A B
  high : ∀ k, n₂ ≤ k → k < A.heap.size → B.heap[k]? = A.heap[k]?
theorem Inner.refl (n₁ n₂ : Nat) (A : World) : Inner n₁ n₂ A A := ⟨Below.refl _ _, fun _ _ _ => rfl⟩
theorem Inner.trans {n₁ n₂ : Nat} {A B C : World} (h : Inner n₁ n₂ A B) (k : Inner n₁ n₂ B C) : Inner n₁ n₂ A C :=
  ⟨h.low.trans k.low, fun i h1 h2 => (k.high i h1 (Nat.lt_of_lt_of_le h2 h.low.size)).trans (h.high i h1 h2)⟩
/-- What a function handed to a loop owes. -/
def Iter {α : Type} (F : Fence) (n : Nat) (P : Program) (g : Nat) (lb : Array Value) (enc : α → Value) (n₁ n₂ : Nat) (xs : List α) (w : World) : Prop :=
  ∀ (l : Nat) (J Jx : List α → World → Prop) (W : World), w.heap.size ≤ W.heap.size → (∀ k, n₁ ≤ k → k < n₂ → W.heap[k]? = w.heap[k]?) →
    (∀ pre A B, J pre A → Inner n₁ n₂ A B → J pre B) →
    (∀ pre x A, x ∈ xs → J pre A → YieldAt F (n - 1) P l #[enc x] A fun e B =>
      (e = .returned (.bool true) ∧ J (pre ++ [x]) B ∧ A.heap.size ≤ B.heap.size ∧ (∀ k, n₁ ≤ k → k < n₂ → B.heap[k]? = A.heap[k]?)) ∨ (e = .returned (.bool false) ∧ Jx (pre ++ [x]) B)) →
    J [] W →
    CallsIn F n P g (#[.func (.yield l) #[] #[]] ++ lb) W fun e W' => (∃ v, e = .returned v) ∧ (J xs W' ∨ ∃ pre, pre <+: xs ∧ Jx pre W')
/-- How a round's body may be left. -/
def bodyEnd {α : Type} (n₁ : Nat) (I : List α → World → Prop) (Ix : Nat → List α → World → Prop) (xs : List α) (W : World) : Exit → Act → World → Prop
  | .normal, _, W' => W.heap.size ≤ W'.heap.size ∧ (∀ k, n₁ ≤ k → k < W.heap.size → W'.heap[k]? = W.heap[k]?) ∧ I xs W'
  | .exit id, _, W' => W.heap.size ≤ W'.heap.size ∧ (∀ k, n₁ ≤ k → k < W.heap.size → W'.heap[k]? = W.heap[k]?) ∧ Ix id xs W'
  | _, _, _ => False
variable {F : Fence} {n : Nat} {P : Program}
theorem wpIn_range {α : Type} {g : Operand} {p : Tmp} {assign body : Code} {Q : Exit → Act → World → Prop} {a : Act} {w : World}
    (hro : F.round = none) (h1 : 1 ≤ n) {gf : Nat} {lb : Array Value} (hg : a.eval g = .func (.func gf) #[] lb) (hFg : F.fn gf) (eg : ∀ args w, (callFunc gf args).run P w = .ok (.enter gf args) w)
    {enc : α → Value} {n₁ : Nat} {xs : List α} (hn : n₁ ≤ w.heap.size) (hseq : Iter F (n - 1) P gf lb enc n₁ w.heap.size xs w)
    (I : List α → World → Prop) (Ix : Nat → List α → World → Prop) (hI : ∀ pre A B, I pre A → Below n₁ A B → I pre B) (hIx : ∀ id pre A B, Ix id pre A → Below n₁ A B → Ix id pre B) (h0 : I [] w) (a₁ : α → Act)
    (hassign : ∀ (l : Nat) (x : α) (W : World) (K : Act → World → Prop), K (a₁ x) W →
      assign.wpIn (F.inRound l) (n - 1 - 1) P (Exit.then K (fun _ _ _ => False)) { tmps := a.tmps.setIfInBounds p (enc x), defers := [] } W)
    (hbody : ∀ (l : Nat) (pre : List α) (x : α) (W : World), x ∈ xs → I pre W → body.wpIn (F.inRound l) (n - 1 - 1) P (bodyEnd n₁ I Ix (pre ++ [x]) W) (a₁ x) W)
    (hdone : ∀ (D : Nat) (W : World), w.heap.size ≤ D → I xs W → W.heap[D]? = some (.deferred (some [])) → Q .normal { a with defers := { target := .collected D, args := #[] } :: a.defers } W)
    (hstop : ∀ (D : Nat) (id : Nat) (pre : List α) (W : World), w.heap.size ≤ D → pre <+: xs → Ix id pre W → W.heap[D]? = some (.deferred (some [])) → (Code.exit id).wpIn F n P Q { a with defers := { target := .collected D, args := #[] } :: a.defers } W) :
    (Code.rangeFunc g #[p] assign body).wpIn F n P Q a w := by
  refine wpIn_rangeFunc fun fn hfn => ?_
  rw [hro]
  obtain ⟨rc, hrc⟩ : ∃ rc : LoopState → Option Code → Loop, rc = fun st pe => { state := st, pending := pe, fn, tmps := a.tmps, params := #[p], assign, body, defers := w.heap.size } := ⟨_, rfl⟩
  obtain ⟨W1, hW1⟩ : ∃ W1, (w.alloc (.deferred (some []))).alloc (.loop (rc .ready none)) = W1 := ⟨_, rfl⟩
  have hB1 : Below w.heap.size w W1 := by
    rw [← hW1]; exact ((Below.refl _ w).alloc (Nat.le_refl _) _).alloc (by simp) _
  have hL1 : W1.heap[w.heap.size + 1]? = some (.loop (rc .ready none)) := by
    rw [← hW1]; have := World.alloc_heap_new (w.alloc (.deferred (some []))) (.loop (rc .ready none)); rwa [World.size_alloc] at this
  have hK1 : W1.heap[w.heap.size]? = some (.deferred (some [])) := by
    rw [← hW1]; exact (Below.heap_alloc _ _ _ (by simp)).trans (World.alloc_heap_new w _)
  have hput : ∀ (W : World) (o : Obj), Below n₁ W (W.putObj (w.heap.size + 1) o) := fun W o =>
    (Below.refl n₁ W).trans ⟨rfl, rfl, rfl, by simp [World.putObj], fun k hk => World.putObj_heap_other (by omega)⟩
  refine ⟨w.heap.size + 1, [{ target := .collected w.heap.size, args := #[] }], W1, { target := .fn (.func gf) lb, args := #[.func (.yield (w.heap.size + 1)) #[] #[]] }, W1, gf,
    #[.func (.yield (w.heap.size + 1)) #[] #[]] ++ lb, W1, ?_, ?_, ?_, ?_, fun _ => h1, ?_⟩
  · rw [← hW1, hrc]; exact run_enterLoop_outer _ _ _ _ _
  · simp only [resolve, hg]
    simp [go_sem]
  · intro f' hf'; simp [Target.leads] at hf'; subst hf'; exact hFg
  · simp [invoke, go_sem, eg]
  · refine (hseq (w.heap.size + 1)
      (fun pre W => I pre W ∧ W.heap[w.heap.size + 1]? = some (.loop (rc .ready none)) ∧ W.heap[w.heap.size]? = some (.deferred (some [])))
      (fun pre W => ∃ id, Ix id pre W ∧ W.heap[w.heap.size + 1]? = some (.loop (rc .done (some (.exit id)))) ∧ W.heap[w.heap.size]? = some (.deferred (some [])))
      W1 hB1.size (fun k _ hk => hB1.block k hk)
      (fun pre A B h hk => ⟨hI pre A B h.1 hk.low, (hk.high _ (by omega) (Array.getElem?_eq_some_iff.1 h.2.1).1).trans h.2.1, (hk.high _ (by omega) (Array.getElem?_eq_some_iff.1 h.2.2).1).trans h.2.2⟩)
      ?_ ⟨hI _ _ _ h0 (hB1.mono hn), hL1, hK1⟩).mono ?_
    · rintro pre x W hxs ⟨hi, hl, hk⟩
      have hlt : w.heap.size + 1 < W.heap.size := (Array.getElem?_eq_some_iff.1 hl).1
      have hy := run_yield (P := P) (args := #[enc x]) hl (by rw [hrc]; rfl)
      refine ⟨fn, _, assign, body, by rw [hrc] at hy; exact hy, roundIn_of_wpIn hfn ?_⟩
      have e1 : ((#[p].zip #[enc x]).foldl (fun tmps (t, a) => tmps.setIfInBounds t a) a.tmps) = a.tmps.setIfInBounds p (enc x) := by simp
      rw [e1]
      refine hassign _ x W _ ⟨_, run_beginRound hl (by rw [hrc]), ?_⟩
      obtain ⟨Wb, hWb⟩ : ∃ Wb, W.putObj (w.heap.size + 1) (.loop { rc .ready none with state := .busy }) = Wb := ⟨_, rfl⟩
      have hl2 : Wb.heap[w.heap.size + 1]? = some (.loop { rc .ready none with state := .busy }) := by rw [← hWb]; exact World.putObj_heap_same hlt
      have hk2 : Wb.heap[w.heap.size]? = some (.deferred (some [])) := by rw [← hWb]; exact (World.putObj_heap_other (by omega)).trans hk
      have hs2 : Wb.heap.size = W.heap.size := by rw [← hWb]; simp [World.putObj]
      have hb2 : Below n₁ W Wb := by rw [← hWb]; exact hput _ _
      have ho2 : ∀ k, k < w.heap.size → Wb.heap[k]? = W.heap[k]? := fun k hk => by rw [← hWb]; exact World.putObj_heap_other (by omega)
      have hgo := hbody (w.heap.size + 1) pre x Wb hxs (hI _ _ _ hi hb2)
      rw [hWb]
      clear hWb
      refine wpIn_mono hgo ?_
      have fin : ∀ (jump : Option Code) (W3 : World), Wb.heap.size ≤ W3.heap.size → (∀ k, n₁ ≤ k → k < Wb.heap.size → W3.heap[k]? = Wb.heap[k]?) →
          (Instr.endRound (w.heap.size + 1) jump).run P W3 = .ok (.bool jump.isNone) (W3.putObj (w.heap.size + 1) (.loop (rc (if jump.isNone then .ready else .done) jump))) ∧
          (W3.putObj (w.heap.size + 1) (.loop (rc (if jump.isNone then .ready else .done) jump))).heap[w.heap.size + 1]? = some (.loop (rc (if jump.isNone then .ready else .done) jump)) ∧
          (W3.putObj (w.heap.size + 1) (.loop (rc (if jump.isNone then .ready else .done) jump))).heap[w.heap.size]? = some (.deferred (some [])) := fun jump W3 hsz hk3 => by
        have hl3 := (hk3 _ (by omega) (by omega)).trans hl2
        have hd3 := (hk3 w.heap.size hn (by omega)).trans hk2
        have := run_endRound (P := P) jump hl3
        rw [hrc] at this ⊢
        exact ⟨this, World.putObj_heap_same (Array.getElem?_eq_some_iff.1 hl3).1, (World.putObj_heap_other (by omega)).trans hd3⟩
      rintro e a3 W3 hp
      cases e with
      | normal =>
        obtain ⟨hsz, hk3, hi3⟩ := hp
        obtain ⟨hr, hl4, hk4⟩ := fin none W3 hsz hk3
        refine ⟨_, _, hr, .inl ⟨rfl, ⟨hI _ _ _ hi3 (hput _ _), hl4, hk4⟩, by simp [World.putObj]; omega, fun k h2 h3 => ?_⟩⟩
        rw [World.putObj_heap_other (by omega), hk3 k h2 (by omega), ho2 k h3]
      | exit id =>
        obtain ⟨hsz, hk3, hi3⟩ := hp
        obtain ⟨hr, hl4, hk4⟩ := fin (some (.exit id)) W3 hsz hk3
        exact ⟨_, _, hr, .inr ⟨rfl, id, hIx _ _ _ _ hi3 (hput _ _), hl4, hk4⟩⟩
      | ret => exact hp.elim
      | goto t => exact hp.elim
      | panic ch => exact hp.elim
      | outgrown => exact hp.elim
    · rintro e W2 ⟨⟨v, rfl⟩, (⟨hi, hl, hk⟩ | ⟨pre, hpre, id, hi, hl, hk⟩)⟩
      · exact ⟨none, _, by have := run_endLoop (P := P) hl (by rw [hrc]; simp); rw [hrc] at this; exact this, hdone _ _ (Nat.le_refl _) (hI _ _ _ hi (hput _ _)) ((World.putObj_heap_other (by omega)).trans hk)⟩
      · exact ⟨some (.exit id), _, by have := run_endLoop (P := P) hl (by rw [hrc]; simp); rw [hrc] at this; exact this, hstop _ id pre _ (Nat.le_refl _) hpre (hIx _ _ _ _ hi (hput _ _)) ((World.putObj_heap_other (by omega)).trans hk)⟩
end Go.Pv

set_option linter.unusedSimpArgs false
set_option linter.unusedVariables false
set_option maxHeartbeats 2000000
set_option maxRecDepth 20000
namespace Go.Proofs
open Go.Pv Go.RowKit Go.Shelf
attribute [local go_sem] Oper.semAt_some
/-- A text as the model has it. -/
abbrev tx (s : List UInt8) : Value := .string ⟨s.toArray⟩
theorem calls_of_run {P : Program} {f : FuncId} {xs : List AV} {r : AV} (h : Run P f xs r) (w : World) (args : Array Value) (ho : OwnL (OwnC w fun _ => False) [] xs args.toList) :
    Calls P f args w fun e W => ∃ v I' os', e = .returned v ∧ OwnT W I' os' r v ∧ Below w.heap.size w W := by
  refine (h.2 w (fun _ => False) [] args ⟨fun b h => h.elim, fun b h => absurd h (blks_nil b), .nil⟩ ho).mono ?_
  rintro e W ⟨v, I', os', he, ht, hok, hs⟩
  exact ⟨v, I', os', he, ht, hs.osk, hs.tape, hs.output, hs.size, fun b hb => hs.keep b hb (blks_nil b)⟩
theorem ownl_nil {w : World} : OwnL (OwnC w fun _ => False) [] [] [] := .nil
theorem ownl_str {w : World} {s : List UInt8} {xs : List AV} {vs : List Value} (h : OwnL (OwnC w fun _ => False) [] xs vs) : OwnL (OwnC w fun _ => False) [] (.str s :: xs) (tx s :: vs) :=
  .cons (os := []) (os' := []) ⟨rfl, .str s⟩ h
theorem ownl_int {w : World} {k : IntKind} {n : Int} {xs : List AV} {vs : List Value} (h : OwnL (OwnC w fun _ => False) [] xs vs) : OwnL (OwnC w fun _ => False) [] (.int k n :: xs) (.int k n :: vs) :=
  .cons (os := []) (os' := []) ⟨rfl, .int k n⟩ h
theorem index_calls (s : List UInt8) (hs : s.length ≤ 100000) (w : World) : Calls Tryd.prog 67 #[tx s, .string ⟨#[46]⟩] w fun e W => e = .returned (.int .i64 (Lib.indexByte s 46)) ∧ Below w.heap.size w W := by
  refine (calls_of_run (sindex_run s 46 hs) w _ (ownl_str (s := s) (ownl_str (s := [46]) ownl_nil))).mono ?_
  rintro e W ⟨v, I', os', rfl, ht, hB⟩
  refine ⟨?_, hB⟩
  cases int_inv ht.2
  rfl
theorem small_calls (s : List UInt8) (hs : s.length ≤ 100000) (w : World) : Calls Tryd.prog 42 #[tx s, .int .i64 255] w fun e W => e = .returned (.tuple #[.int .i64 (if okS s then vS s else 0), .bool (goodP s)]) ∧ Below w.heap.size w W := by
  refine (calls_of_run (small_run s 255 hs (by omega)) w _ (ownl_str (s := s) (ownl_int (k := .i64) (n := 255) ownl_nil))).mono ?_
  rintro e W ⟨v, I', os', rfl, ht, hB⟩
  refine ⟨?_, hB⟩
  have key : ∀ (n : Int) (b : Bool), OwnT W I' os' (.tup [.int .i64 n, .bool b]) v → v = .tuple #[.int .i64 n, .bool b] := by
    rintro n b ⟨cs, rfl, h⟩
    obtain ⟨cs⟩ := cs
    simp only at h
    generalize hx : [AV.int .i64 n, AV.bool b] = xs at h
    cases h with
    | nil => cases hx
    | cons h1 h =>
      cases hx
      cases h with
      | cons h2 h =>
        cases h with
        | nil =>
          cases int_inv h1.2
          cases bool_inv h2.2
          rfl
  unfold smR at ht
  unfold goodP
  cases ho : okS s with
  | true => rw [ho] at ht; rw [key _ _ ht]; rfl
  | false => rw [ho] at ht; rw [key _ _ ht]; rfl
theorem sp_index (s : List UInt8) : sp s = if Lib.indexByte s 46 < 0 then [s] else s.take (Lib.indexByte s 46).toNat :: sp (s.drop ((Lib.indexByte s 46).toNat + 1)) := by
  induction s with
  | nil => simp [sp, Lib.indexByte]
  | cons c r ih =>
    have hb := ix_b r 46
    rw [show sp (c :: r) = if c = 46 then [] :: sp r else spJ [c] (sp r) by rw [sp], show Lib.indexByte (c :: r) 46 = if c == 46 then 0 else if Lib.indexByte r 46 == -1 then -1 else Lib.indexByte r 46 + 1 by rw [Lib.indexByte]]
    by_cases hc : c = 46
    · simp [hc]
    · simp only [hc, if_false, beq_iff_eq]
      rw [ih]
      by_cases hx : Lib.indexByte r 46 < 0
      · have : Lib.indexByte r 46 = -1 := by omega
        rw [if_pos hx, if_pos this]
        simp [spJ]
      · have e : (Lib.indexByte r 46 + 1).toNat = (Lib.indexByte r 46).toNat + 1 := by omega
        rw [if_neg hx, if_neg (by omega), if_neg (by omega), e]
        simp [spJ]
/-- What the iterator's box holds. -/
def boxLen (W : World) (B : Nat) : Nat := match W.cell? ⟨B, 0, none⟩ with
  | some (.string b) => b.size
  | _ => 0
theorem ba_ext (s : List UInt8) (a b : Nat) : (⟨s.toArray⟩ : ByteArray).extract a b = ⟨((s.take b).drop a).toArray⟩ := by
  apply ByteArray.ext
  rw [ByteArray.data_extract]
  apply Array.ext'
  simp [List.drop_take]
theorem ba_take (s : List UInt8) (k : Nat) : tx (s.take k) = .string ((⟨s.toArray⟩ : ByteArray).extract 0 k) := by rw [ba_ext]; rfl
theorem ba_drop (s : List UInt8) (k : Nat) : tx (s.drop k) = .string ((⟨s.toArray⟩ : ByteArray).extract k s.length) := by rw [ba_ext, List.take_length]
theorem heap_set {W : World} {B : Nat} {u : Value} {t : TypeId} (h : W.heap[B]? = some (.cells #[u] t (0, 0))) (v : Value) : (W.setCell ⟨B, 0, none⟩ v).heap[B]? = some (.cells #[v] t (0, 0)) := by
  simp only [World.setCell, Array.getElem?_modify, h]
  simp
set_option maxRecDepth 100000 in
set_option maxHeartbeats 2000000 in
theorem split1_in (n l B n₁ n₂ : Nat) (hn : 1 ≤ n) (s : List UInt8) (hs : s.length ≤ 100000) (J Jx : List (List UInt8) → World → Prop) (hB : n₁ ≤ B ∧ B + 3 ≤ n₂)
    (hJ : ∀ pre A C, J pre A → Inner n₁ n₂ A C → J pre C)
    (hY : ∀ pre x A, x ∈ sp s → J pre A → YieldAt Fence.wide (n - 1) Tryd.prog l #[tx x] A fun e C =>
      (e = .returned (.bool true) ∧ J (pre ++ [x]) C ∧ A.heap.size ≤ C.heap.size ∧ (∀ k, n₁ ≤ k → k < n₂ → C.heap[k]? = A.heap[k]?)) ∨ (e = .returned (.bool false) ∧ Jx (pre ++ [x]) C))
    (W : World) (hsz : n₂ ≤ W.heap.size) (hb : W.heap[B]? = some (.cells #[tx s] 9 (0, 0))) (hb1 : W.heap[B + 1]? = some (.cells #[.string ⟨#[46]⟩] 9 (0, 0))) (hb2 : W.heap[B + 2]? = some (.cells #[.int .i64 0] 3 (0, 0))) (h0 : J [] W) :
    CallsIn Fence.wide n Tryd.prog 65 #[.func (.yield l) #[] #[], .pointer (some ⟨B + 1, 0, none⟩), .pointer (some ⟨B, 0, none⟩), .pointer (some ⟨B + 2, 0, none⟩)] W fun e W' => (∃ v, e = .returned v) ∧
      (J (sp s) W' ∨ ∃ pre, pre <+: sp s ∧ Jx pre W') := by
  refine callsIn_of_wp Tryd.func65 rfl trivial ?_ rfl
  simp only [Tryd.ntmps65, List.size_toArray, List.length_cons, List.length_nil, Nat.reduceAdd, Nat.reduceSub, Array.replicate_succ, Array.replicate_zero, List.push_toArray, List.append_toArray, List.nil_append, List.cons_append]
  have hc1 : W.cell? ⟨B + 1, 0, none⟩ = some (.string ⟨#[46]⟩) := by simp [World.cell?, hb1]
  gi_wp2
  gi_loopw [7] (fun _ wr => ∃ (pre : List (List UInt8)) (s' : List UInt8), sp s = pre ++ sp s' ∧ s'.length ≤ s.length ∧ J pre wr ∧ n₂ ≤ wr.heap.size ∧ wr.heap[B]? = some (.cells #[tx s'] 9 (0, 0)) ∧ wr.heap[B + 1]? = some (.cells #[.string ⟨#[46]⟩] 9 (0, 0)) ∧ wr.heap[B + 2]? = some (.cells #[.int .i64 0] 3 (0, 0)))
    (fun _ wr => boxLen wr B)
  case atStart => exact ⟨[], s, rfl, Nat.le_refl _, h0, hsz, hb, hb1, hb2⟩
  case round =>
    obtain ⟨pre, s', hsp, hlen, hJs, hz, g0, g1, g2⟩ := hrel
    have c0 : wr.cell? ⟨B, 0, none⟩ = some (tx s') := by simp [World.cell?, g0]
    have c1 : wr.cell? ⟨B + 1, 0, none⟩ = some (.string ⟨#[46]⟩) := by simp [World.cell?, g1]
    have c2 : wr.cell? ⟨B + 2, 0, none⟩ = some (.int .i64 0) := by simp [World.cell?, g2]
    have hx := ix_b s' 46
    have hsi := sp_index s'
    by_cases hx0 : Lib.indexByte s' 46 < 0
    · rw [if_pos hx0] at hsi
      gi_wp2_with (refine ⟨trivial, ?_⟩; gi_at_call 67; refine (callsIn_wide.2 (index_calls s' (by omega) _)).mono ?_; rintro e W1 ⟨rfl, hB1⟩; have k0 := (hB1.cell (p := ⟨B, 0, none⟩) (by show B < _; omega)).trans c0; obtain ⟨fn, tmps, assign, body, hy, hR⟩ := hY pre s' W1 (by rw [hsp, hsi]; simp) (hJ _ _ _ hJs ⟨hB1.mono (by omega), fun k _ h2 => hB1.block k h2⟩))
      refine hR.mono ?_
      rintro e W3 (⟨rfl, hJ3, hz3, hk3⟩ | ⟨rfl, hJx3⟩)
      · gi_wp2
        go_end0
        exact ⟨⟨_, rfl⟩, .inl (by rw [hsp, hsi]; exact hJ3)⟩
      · gi_wp2
        go_end0
        exact ⟨⟨_, rfl⟩, .inr ⟨_, by rw [hsp, hsi]; exact List.prefix_refl _, hJx3⟩⟩
    · rw [if_neg hx0] at hsi
      have htk : tx (s'.take (Lib.indexByte s' 46).toNat) = .string ((⟨s'.toArray⟩ : ByteArray).extract 0 (Lib.indexByte s' 46).toNat) := ba_take _ _
      have hdr : tx (s'.drop ((Lib.indexByte s' 46).toNat + 1)) = .string ((⟨s'.toArray⟩ : ByteArray).extract ((Lib.indexByte s' 46).toNat + 1) s'.length) := ba_drop _ _
      gi_wp2_with (refine ⟨trivial, ?_⟩; gi_at_call 67; refine (callsIn_wide.2 (index_calls s' (by omega) _)).mono ?_; rintro e W1 ⟨rfl, hB1⟩; have k0 := (hB1.cell (p := ⟨B, 0, none⟩) (by show B < _; omega)).trans c0; have k1 := (hB1.cell (p := ⟨B + 1, 0, none⟩) (by show B + 1 < _; omega)).trans c1; have k2 := (hB1.cell (p := ⟨B + 2, 0, none⟩) (by show B + 2 < _; omega)).trans c2; obtain ⟨fn, tmps, assign, body, hy, hR⟩ := hY pre (s'.take (Lib.indexByte s' 46).toNat) W1 (by rw [hsp, hsi]; simp) (hJ _ _ _ hJs ⟨hB1.mono (by omega), fun k _ h2 => hB1.block k h2⟩); rw [htk] at hy)
      refine hR.mono ?_
      rintro e W3 (⟨rfl, hJ3, hz3, hk3⟩ | ⟨rfl, hJx3⟩)
      · have q0 : W3.heap[B]? = some (.cells #[tx s'] 9 (0, 0)) := (hk3 B (by omega) (by omega)).trans ((hB1.block B (by omega)).trans g0)
        have q1 : W3.heap[B + 1]? = some (.cells #[.string ⟨#[46]⟩] 9 (0, 0)) := (hk3 (B + 1) (by omega) (by omega)).trans ((hB1.block (B + 1) (by omega)).trans g1)
        have q2 : W3.heap[B + 2]? = some (.cells #[.int .i64 0] 3 (0, 0)) := (hk3 (B + 2) (by omega) (by omega)).trans ((hB1.block (B + 2) (by omega)).trans g2)
        have d0 : W3.cell? ⟨B, 0, none⟩ = some (tx s') := by simp [World.cell?, q0]
        have d1 : W3.cell? ⟨B + 1, 0, none⟩ = some (.string ⟨#[46]⟩) := by simp [World.cell?, q1]
        have f0 : W3.frozen? ⟨B, 0, none⟩ = false := by simp [World.frozen?, q0]
        gi_wp2
        have e1 : (Lib.indexByte s' 46 + 1).toNat = (Lib.indexByte s' 46).toNat + 1 := by omega
        rw [e1, ← hdr]
        have p0 := heap_set q0 (tx (s'.drop ((Lib.indexByte s' 46).toNat + 1)))
        refine ⟨⟨pre ++ [s'.take (Lib.indexByte s' 46).toNat], s'.drop ((Lib.indexByte s' 46).toNat + 1), by rw [hsp, hsi]; simp, by simp; omega, ?_, by rw [World.size_setCell]; have := hB1.size; omega, p0, ?_, ?_⟩, ?_⟩
        · refine hJ _ _ _ hJ3 ⟨(Below.refl n₁ W3).setCell (by exact hB.1) _, fun k h1 _ => Below.heap_setCell _ _ _ _ (by show k ≠ B; omega)⟩
        · rw [Below.heap_setCell _ _ _ _ (by show B + 1 ≠ B; omega)]; exact q1
        · rw [Below.heap_setCell _ _ _ _ (by show B + 2 ≠ B; omega)]; exact q2
        · have l0 : boxLen wr B = s'.length := by simp only [boxLen, c0]; rfl
          have l1 : boxLen (W3.setCell ⟨B, 0, none⟩ (tx (s'.drop ((Lib.indexByte s' 46).toNat + 1)))) B = (s'.drop ((Lib.indexByte s' 46).toNat + 1)).length := by
            have : (W3.setCell ⟨B, 0, none⟩ (tx (s'.drop ((Lib.indexByte s' 46).toNat + 1)))).cell? ⟨B, 0, none⟩ = some (tx (s'.drop ((Lib.indexByte s' 46).toNat + 1))) := by simp [World.cell?, p0]
            simp only [boxLen, this]; rfl
          rw [l0, l1, List.length_drop]
          omega
      · gi_wp2
        refine bodyPost_ret (results_none rfl _ _ _) rfl ?_
        refine ⟨⟨_, rfl⟩, .inr ⟨_, ?_, hJx3⟩⟩
        rw [hsp, hsi]
        exact ⟨sp (s'.drop ((Lib.indexByte s' 46).toNat + 1)), by simp⟩
end Go.Proofs

set_option linter.unusedSimpArgs false
set_option linter.unusedVariables false
set_option maxHeartbeats 2000000
set_option maxRecDepth 20000
namespace Go.Proofs
open Go.Pv Go.RowKit Go.Shelf
attribute [local go_sem] Oper.semAt_some
theorem sp_mem : ∀ (s : List UInt8) (x : List UInt8), x ∈ sp s → x.length ≤ s.length
  | [], x, h => by simp [sp] at h; simp [h]
  | c :: r, x, h => by
    have ih := sp_mem r
    rw [show sp (c :: r) = if c = 46 then [] :: sp r else spJ [c] (sp r) by rw [sp]] at h
    split at h
    · rcases List.mem_cons.1 h with rfl | h
      · simp
      · have := ih x h; simp; omega
    · obtain ⟨p, q, e⟩ := List.exists_cons_of_ne_nil (sp_ne r)
      rw [e] at ih h
      simp only [spJ, List.mem_cons] at h ih
      rcases h with rfl | h
      · have := ih p (.inl rfl); simp; omega
      · have := ih x (.inr h); simp; omega
theorem box_new (W : World) (v : Value) (t : TypeId) : (W.alloc (.cells #[v] t)).heap[W.heap.size]? = some (.cells #[v] t (0, 0)) := World.alloc_heap_new W _
theorem cell_of {W : World} {B : Nat} {v : Value} {t : TypeId} (h : W.heap[B]? = some (.cells #[v] t (0, 0))) : W.cell? ⟨B, 0, none⟩ = some v := by simp [World.cell?, h]
theorem frozen_of {W : World} {B : Nat} {v : Value} {t : TypeId} (h : W.heap[B]? = some (.cells #[v] t (0, 0))) : W.frozen? ⟨B, 0, none⟩ = false := by simp [World.frozen?, h]
set_option maxRecDepth 100000 in
set_option maxHeartbeats 2000000 in
theorem split0_in (n : Nat) (a b : ByteArray) (w : World) : CallsIn Fence.wide n Tryd.prog 60 #[.string a, .string b, .int .i64 0] w fun e w' =>
    e = .returned (.func (.func 65) #[] #[.pointer (some ⟨w.heap.size + 1, 0, none⟩), .pointer (some ⟨w.heap.size, 0, none⟩), .pointer (some ⟨w.heap.size + 2, 0, none⟩)]) ∧ w' = ((w.alloc (.cells #[.string a] 9)).alloc (.cells #[.string b] 9)).alloc (.cells #[.int .i64 0] 3) := by
  refine callsIn_of_wp Tryd.func60 rfl trivial ?_ rfl
  simp only [Tryd.ntmps60, List.size_toArray, List.length_cons, List.length_nil, Nat.reduceAdd, Nat.reduceSub, Array.replicate_succ, Array.replicate_zero, List.push_toArray, List.append_toArray, List.nil_append, List.cons_append]
  gi_wp2
  go_ret
  exact ⟨rfl, rfl⟩
set_option maxRecDepth 100000 in
set_option maxHeartbeats 2000000 in
theorem split_in (n : Nat) (hn : 1 ≤ n) (a b : ByteArray) (w : World) : CallsIn Fence.wide n Tryd.prog 41 #[.string a, .string b] w fun e w' =>
    e = .returned (.func (.func 65) #[] #[.pointer (some ⟨w.heap.size + 1, 0, none⟩), .pointer (some ⟨w.heap.size, 0, none⟩), .pointer (some ⟨w.heap.size + 2, 0, none⟩)]) ∧ w' = ((w.alloc (.cells #[.string a] 9)).alloc (.cells #[.string b] 9)).alloc (.cells #[.int .i64 0] 3) := by
  refine callsIn_of_wp Tryd.func41 rfl trivial ?_ rfl
  simp only [Tryd.ntmps41, List.size_toArray, List.length_cons, List.length_nil, Nat.reduceAdd, Nat.reduceSub, Array.replicate_succ, Array.replicate_zero, List.push_toArray, List.append_toArray, List.nil_append, List.cons_append]
  gi_wp2_with (refine ⟨trivial, ?_⟩; gi_at_call 60; refine (split0_in _ a b _).mono ?_; rintro e w' ⟨rfl, rfl⟩)
  go_ret
  exact ⟨rfl, rfl⟩
set_option maxRecDepth 100000 in
set_option maxHeartbeats 2000000 in
theorem read_calls (s : List UInt8) (hs : s.length ≤ 100000) (w : World) : Calls Tryd.prog 10 #[tx s] w fun e W => (e = .returned (.tuple #[.int .u32 (if (sp s).length = 4 ∧ (sp s).all goodP = true then accF (sp s) else 0), .bool (decide ((sp s).length = 4 ∧ (sp s).all goodP = true))])) ∧ Below w.heap.size w W := by
  refine (callsIn_wide (n := 6)).1 ?_
  refine callsIn_of_wp_marks Tryd.func10 rfl trivial ?_ rfl
  simp only [Tryd.ntmps10, List.size_toArray, List.length_cons, List.length_nil, Nat.reduceAdd, Nat.reduceSub, Array.replicate_succ, Array.replicate_zero, List.push_toArray, List.append_toArray, List.nil_append, List.cons_append]
  gi_wp2
  refine wpIn_wide.2 (wp_scope_straight (wpIn_wide (n := 6).1 ?_))
  gi_wp2
  refine wpIn_label ?_
  have h61 : 1 ≤ 6 := by omega
  gi_wp2_with (refine ⟨trivial, ?_⟩; gi_at_call 41; refine (split_in _ (by omega) _ _ _).mono ?_; rintro e w' ⟨rfl, rfl⟩)
  obtain ⟨W0, hW0⟩ : ∃ W0, (((((w.alloc (.cells #[.int .u32 0] 22)).alloc (.cells #[.int .i64 0] 3)).alloc (.cells #[tx s] 9)).alloc (.cells #[.string ⟨#[46]⟩] 9)).alloc (.cells #[.int .i64 0] 3)) = W0 := ⟨_, rfl⟩
  have z0 : W0.heap.size = w.heap.size + 5 := by rw [← hW0]; simp
  have hB0 : Below w.heap.size w W0 := by
    rw [← hW0]
    exact (((((Below.refl _ w).alloc (Nat.le_refl _) _).alloc (by simp) _).alloc (by simp; omega) _).alloc (by simp; omega) _).alloc (by simp; omega) _
  obtain ⟨b0, b1, b2, b3, b4⟩ : W0.heap[w.heap.size]? = some (.cells #[.int .u32 0] 22 (0, 0)) ∧ W0.heap[w.heap.size + 1]? = some (.cells #[.int .i64 0] 3 (0, 0)) ∧ W0.heap[w.heap.size + 2]? = some (.cells #[tx s] 9 (0, 0)) ∧ W0.heap[w.heap.size + 3]? = some (.cells #[.string ⟨#[46]⟩] 9 (0, 0)) ∧ W0.heap[w.heap.size + 4]? = some (.cells #[.int .i64 0] 3 (0, 0)) := by
    rw [← hW0]
    have x0 := box_new w (.int .u32 0) 22
    generalize hw1 : w.alloc (.cells #[.int .u32 0] 22) = w1 at *
    have s1 : w1.heap.size = w.heap.size + 1 := by rw [← hw1]; simp
    have x1 := box_new w1 (.int .i64 0) 3
    generalize hw2 : w1.alloc (.cells #[.int .i64 0] 3) = w2 at *
    have s2 : w2.heap.size = w.heap.size + 2 := by rw [← hw2]; simp; omega
    have k2 : ∀ k, k < w1.heap.size → w2.heap[k]? = w1.heap[k]? := fun k hk => by rw [← hw2]; exact Below.heap_alloc _ _ _ hk
    have x2 := box_new w2 (tx s) 9
    generalize hw3 : w2.alloc (.cells #[tx s] 9) = w3 at *
    have s3 : w3.heap.size = w.heap.size + 3 := by rw [← hw3]; simp; omega
    have k3 : ∀ k, k < w2.heap.size → w3.heap[k]? = w2.heap[k]? := fun k hk => by rw [← hw3]; exact Below.heap_alloc _ _ _ hk
    have x3 := box_new w3 (.string ⟨#[46]⟩) 9
    generalize hw4 : w3.alloc (.cells #[.string ⟨#[46]⟩] 9) = w4 at *
    have s4 : w4.heap.size = w.heap.size + 4 := by rw [← hw4]; simp; omega
    have k4 : ∀ k, k < w3.heap.size → w4.heap[k]? = w3.heap[k]? := fun k hk => by rw [← hw4]; exact Below.heap_alloc _ _ _ hk
    have x4 := box_new w4 (.int .i64 0) 3
    generalize hw5 : w4.alloc (.cells #[.int .i64 0] 3) = w5 at *
    have k5 : ∀ k, k < w4.heap.size → w5.heap[k]? = w4.heap[k]? := fun k hk => by rw [← hw5]; exact Below.heap_alloc _ _ _ hk
    rw [s1] at x1
    rw [s2] at x2
    rw [s3] at x3
    rw [s4] at x4
    refine ⟨?_, ?_, ?_, ?_, x4⟩
    · rw [k5 _ (by omega), k4 _ (by omega), k3 _ (by omega), k2 _ (by omega)]; exact x0
    · rw [k5 _ (by omega), k4 _ (by omega), k3 _ (by omega)]; exact x1
    · rw [k5 _ (by omega), k4 _ (by omega)]; exact x2
    · rw [k5 _ (by omega)]; exact x3
  simp only [World.size_alloc, Nat.add_assoc, Nat.reduceAdd]
  rw [hW0]
  clear hW0
  refine wpIn_range (n := 6) rfl (by omega) (gf := 65) (lb := #[.pointer (some ⟨w.heap.size + 3, 0, none⟩), .pointer (some ⟨w.heap.size + 2, 0, none⟩), .pointer (some ⟨w.heap.size + 4, 0, none⟩)]) rfl trivial (enters_of Tryd.func65 (by kernel_rfl) rfl)
    (enc := tx) (n₁ := w.heap.size + 2) (xs := sp s) (by omega) ?iter
    (fun pre W => pre.all goodP = true ∧ pre.length ≤ 4 ∧ W.heap[w.heap.size]? = some (.cells #[.int .u32 (accF pre)] 22 (0, 0)) ∧ W.heap[w.heap.size + 1]? = some (.cells #[.int .i64 pre.length] 3 (0, 0)) ∧ Below w.heap.size w W)
    (fun id pre W => id = 0 ∧ (pre.all goodP = false ∨ pre.length = 5) ∧ (∃ v, W.heap[w.heap.size]? = some (.cells #[.int .u32 v] 22 (0, 0))) ∧ W.heap[w.heap.size + 1]? = some (.cells #[.int .i64 0] 3 (0, 0)) ∧ Below w.heap.size w W)
    ?hI ?hIx ⟨rfl, by simp, b0, b1, hB0⟩
    (fun x => { tmps := #[tx s, undef, .int .u32 0, .bool false, .pointer (some ⟨w.heap.size, 0, none⟩), .pointer (some ⟨w.heap.size + 1, 0, none⟩), tx x, undef, undef, tx s, .func (.func 65) #[] #[.pointer (some ⟨w.heap.size + 3, 0, none⟩), .pointer (some ⟨w.heap.size + 2, 0, none⟩), .pointer (some ⟨w.heap.size + 4, 0, none⟩)], tx x, undef, undef, undef, undef, undef, undef, undef, undef, undef, undef, undef, undef, undef, undef, undef, undef, undef, undef, undef, undef, undef], defers := [] }) ?assign ?body ?done ?stop
  case hI =>
    rintro pre A B ⟨h1, h2, h3, h4, h5⟩ hB
    exact ⟨h1, h2, (hB.block _ (by omega)).trans h3, (hB.block _ (by omega)).trans h4, h5.trans (hB.mono (by omega))⟩
  case hIx =>
    rintro id pre A B ⟨h1, h2, ⟨v, h3⟩, h4, h5⟩ hB
    exact ⟨h1, h2, ⟨v, (hB.block _ (by omega)).trans h3⟩, (hB.block _ (by omega)).trans h4, h5.trans (hB.mono (by omega))⟩
  case iter =>
    intro l J Jx W hsz hk hJ hY h0
    exact split1_in 5 l (w.heap.size + 2) (w.heap.size + 2) W0.heap.size (by omega) s hs J Jx ⟨by omega, by omega⟩ hJ hY W hsz
      ((hk _ (by omega) (by omega)).trans b2) ((hk _ (by omega) (by omega)).trans b3) ((hk _ (by omega) (by omega)).trans b4) h0
  case assign =>
    intro l x W K hK
    gi_wp2
    exact hK
  case body =>
    rintro l pre x W hxs ⟨hg, hl, g0, g1, hB⟩
    have hx := sp_mem s x hxs
    have hW := hB.size
    have hWz : w.heap.size + 1 < W.heap.size := (Array.getElem?_eq_some_iff.1 g1).1
    have hab := accF_b pre hl hg
    by_cases hgx : goodP x = true
    · have hox : okS x = true := by unfold goodP at hgx; simp only [Bool.and_eq_true] at hgx; exact hgx.1
      have hgb := goodP_b hgx
      have hsc := small_calls x (by omega) 
      rw [if_pos hox, hgx] at hsc
      by_cases hl3 : pre.length ≤ 3
      · have hab3 := hab.2.2 hl3
        gi_wp2_with (refine ⟨trivial, ?_⟩; gi_at_call 42; refine (CallsIn.inRound l (callsIn_wide.2 (hsc _))).mono ?_; rintro e W1 ⟨rfl, hB1⟩; have q0 := (hB1.block w.heap.size (by omega)).trans g0; have q1 := (hB1.block (w.heap.size + 1) (by omega)).trans g1; have k0 := cell_of q0; have k1 := cell_of q1; have f0 := frozen_of q0; have f1 := frozen_of q1)
        have hbits : bits BinOp.or IntKind.u32 (accF pre * 256) (vS x) = accF pre * 256 + vS x := or2_un (k := .u32) (j := 8) rfl (by omega) (by show _ < (2 : Int) ^ 32; omega) (by omega) (by simpa using (by omega : vS x < 256)) (by decide) (by simp)
        rw [hbits]
        refine ⟨by rw [World.size_setCell, World.size_setCell]; exact hB1.size, fun k h1 h2 => ?_, ?_, ?_, ?_, ?_, ?_⟩
        · rw [Below.heap_setCell _ _ _ _ (by show k ≠ w.heap.size; omega), Below.heap_setCell _ _ _ _ (by show k ≠ w.heap.size + 1; omega)]; exact hB1.block k h2
        · rw [List.all_append, hg]; simp [hgx]
        · simp; omega
        · rw [accF_snoc]; exact heap_set (by rw [Below.heap_setCell _ _ _ _ (by show w.heap.size ≠ w.heap.size + 1; omega)]; exact q0) _
        · rw [Below.heap_setCell _ _ _ _ (by show w.heap.size + 1 ≠ w.heap.size; omega), List.length_append]; exact heap_set q1 _
        · exact ((hB.trans (hB1.mono hW)).setCell (p := ⟨w.heap.size + 1, 0, none⟩) (by show w.heap.size ≤ w.heap.size + 1; omega) _).setCell (p := ⟨w.heap.size, 0, none⟩) (Nat.le_refl _) _
      · have hl4 : pre.length = 4 := by omega
        gi_wp2_with (refine ⟨trivial, ?_⟩; gi_at_call 42; refine (CallsIn.inRound l (callsIn_wide.2 (hsc _))).mono ?_; rintro e W1 ⟨rfl, hB1⟩; have q0 := (hB1.block w.heap.size (by omega)).trans g0; have q1 := (hB1.block (w.heap.size + 1) (by omega)).trans g1; have k0 := cell_of q0; have k1 := cell_of q1; have f0 := frozen_of q0; have f1 := frozen_of q1)
        refine ⟨by rw [World.size_setCell, World.size_setCell]; exact hB1.size, fun k h1 h2 => ?_, rfl, ?_, ⟨accF pre, ?_⟩, ?_, ?_⟩
        · rw [Below.heap_setCell _ _ _ _ (by show k ≠ w.heap.size + 1; omega), Below.heap_setCell _ _ _ _ (by show k ≠ w.heap.size + 1; omega)]; exact hB1.block k h2
        · exact .inr (by simp [hl4])
        · rw [Below.heap_setCell _ _ _ _ (by show w.heap.size ≠ w.heap.size + 1; omega), Below.heap_setCell _ _ _ _ (by show w.heap.size ≠ w.heap.size + 1; omega)]; exact q0
        · exact heap_set (heap_set q1 _) _
        · exact ((hB.trans (hB1.mono hW)).setCell (p := ⟨w.heap.size + 1, 0, none⟩) (by show w.heap.size ≤ w.heap.size + 1; omega) _).setCell (p := ⟨w.heap.size + 1, 0, none⟩) (by show w.heap.size ≤ w.heap.size + 1; omega) _
    · have hgx : goodP x = false := by simpa using hgx
      have hsc := small_calls x (by omega)
      rw [hgx] at hsc
      generalize (if okS x = true then vS x else 0) = z at hsc
      gi_wp2_with (refine ⟨trivial, ?_⟩; gi_at_call 42; refine (CallsIn.inRound l (callsIn_wide.2 (hsc _))).mono ?_; rintro e W1 ⟨rfl, hB1⟩; have q0 := (hB1.block w.heap.size (by omega)).trans g0; have q1 := (hB1.block (w.heap.size + 1) (by omega)).trans g1; have k0 := cell_of q0; have k1 := cell_of q1; have f0 := frozen_of q0; have f1 := frozen_of q1)
      refine ⟨by rw [World.size_setCell, World.size_setCell]; exact hB1.size, fun k h1 h2 => ?_, rfl, ?_, ⟨accF pre, ?_⟩, ?_, ?_⟩
      · rw [Below.heap_setCell _ _ _ _ (by show k ≠ w.heap.size + 1; omega), Below.heap_setCell _ _ _ _ (by show k ≠ w.heap.size + 1; omega)]; exact hB1.block k h2
      · first | exact .inl ⟨x, by simp, hgx⟩ | exact .inl (by rw [List.all_append]; simp [hgx])
      · rw [Below.heap_setCell _ _ _ _ (by show w.heap.size ≠ w.heap.size + 1; omega), Below.heap_setCell _ _ _ _ (by show w.heap.size ≠ w.heap.size + 1; omega)]; exact q0
      · exact heap_set (heap_set q1 _) _
      · exact ((hB.trans (hB1.mono hW)).setCell (p := ⟨w.heap.size + 1, 0, none⟩) (by show w.heap.size ≤ w.heap.size + 1; omega) _).setCell (p := ⟨w.heap.size + 1, 0, none⟩) (by show w.heap.size ≤ w.heap.size + 1; omega) _
  case done =>
    rintro D W hD ⟨hg, hl, g0, g1, hB⟩ hK
    have c0 := cell_of g0
    have c1 := cell_of g1
    have hend : Below w.heap.size w (W.putObj D (.deferred none)) := hB.trans (belowK_b (w := w) (Nat.le_refl _) W D _ _ (by omega) hK rfl rfl)
    by_cases h4 : (sp s).length = 4
    · gi_wp2
      refine ⟨by simp, .inl ⟨_, _, rfl, run_takeDeferred hK, ?_⟩⟩
      exact ⟨_, results_tmp2 rfl _ _ _, by simp [h4, hg], hend⟩
    · gi_wp2
      refine ⟨by simp, .inl ⟨_, _, rfl, run_takeDeferred hK, ?_⟩⟩
      exact ⟨_, results_tmp2 rfl _ _ _, by simp [h4], hend⟩
  case stop =>
    rintro D id pre W hD hpre ⟨rfl, hbad, ⟨v, g0⟩, g1, hB⟩ hK
    have c0 := cell_of g0
    have c1 := cell_of g1
    have hend : Below w.heap.size w (W.putObj D (.deferred none)) := hB.trans (belowK_b (w := w) (Nat.le_refl _) W D _ _ (by omega) hK rfl rfl)
    have hno : ¬ ((sp s).length = 4 ∧ (sp s).all goodP = true) := by
      obtain ⟨r, hr⟩ := hpre
      rintro ⟨h1, h2⟩
      rw [← hr] at h1 h2
      rw [List.all_append, Bool.and_eq_true] at h2
      rw [List.length_append] at h1
      rcases hbad with h | h
      · rw [h] at h2; cases h2.1
      · omega
    gi_wp2
    refine ⟨by simp, .inl ⟨_, _, rfl, run_takeDeferred hK, ?_⟩⟩
    exact ⟨_, results_tmp2 rfl _ _ _, by simp only [hno, if_false, decide_false]; rfl, hend⟩
end Go.Proofs

set_option linter.unusedSimpArgs false
set_option linter.unusedVariables false
set_option maxHeartbeats 2000000
set_option maxRecDepth 20000
namespace Go.Proofs
open Go.Pv
theorem ptx_run (a b : Int) (h : 0 ≤ a ∧ a ≤ 4294967295) : Run Tryd.prog 16 [pfx a b] (.str (ptxS a b)) := by
  refine Tryd.run16 (by simp) ?_
  unfold Tryd.c16 ptxS
  have q := right_run a b
  have q1 := text_run a h
  have l1 := addrS_len a
  by_cases hb : 0 ≤ b ∧ b ≤ 32
  · rw [if_pos hb]
    have q2 := put_run3 (addrS a ++ [47]) b (by simp only [List.length_append, List.length_cons, List.length_nil]; omega) (by omega)
    rw [show okb b = true from decide_eq_true hb] at q
    have l2 := numS_len b
    generalize addrS a = s at *
    generalize numS b = t at *
    simp only [bys] at q2
    have hfold : ∀ x : List UInt8, List.map bv x ++ [AV.int .u8 47] = List.map bv (x ++ [47]) := fun x => by rw [List.map_append]; rfl
    simp (disch := (first | omega | (simp only [List.length_set, List.length_append, List.length_cons, List.length_nil, List.length_take, List.length_drop, List.length_map, List.length_replicate] at *; omega))) only [↓pvd, pv0, pv1, pv2, pv3, pv4, pv5, pv6, pv7, pvc0, pvc1, pvc2, buildC, evP, evR, evE, Pv.get, Pv.put, putO, bin2, int2, binB2, un1, cells, boundO, AV.flat, bv, rowOne, pvf, rvs_1, rvs_2, rvL, rvX, liveB, setParts, szOk, notStr, lim, dedup, place, ent, Pv.new, Pv.newVar, Pv.newVec, setCells, AV.ones, AV.one, resX, entry, layL, layC, layA, lay, List.map, List.foldl, List.replicate, List.length_replicate, ↓reduceIte, reduceCtorEq, Nat.reduceEqDiff, Nat.reduceLT, Nat.reduceLeDiff, Nat.reduceAdd, Nat.reduceSub, Nat.reduceMul, Nat.reducePow, Nat.reduceDiv, Nat.reduceMod, Nat.reduceBEq, Nat.reduceBNe, Int.reduceLT, Int.reduceLE, Int.reduceToNat, Int.reduceAdd, Int.reduceSub, Int.reduceMul, Int.reduceNeg, Int.reducePow, Int.reduceEq, Int.reduceNe, Int.reduceDiv, Int.reduceMod, Int.reduceTDiv, Int.reduceTMod, UInt8.reduceToNat, UInt8.reduceOfNat]
    refine awR_call q rfl rfl ?_
    simp (disch := (first | omega | (simp only [List.length_set, List.length_append, List.length_cons, List.length_nil, List.length_take, List.length_drop, List.length_map, List.length_replicate] at *; omega))) only [↓pvd, pv0, pv1, pv2, pv3, pv4, pv5, pv6, pv7, pvc0, pvc1, pvc2, buildC, evP, evR, evE, Pv.get, Pv.put, putO, bin2, int2, binB2, un1, cells, boundO, AV.flat, bv, rowOne, pvf, rvs_1, rvs_2, rvL, rvX, liveB, setParts, szOk, notStr, lim, dedup, place, ent, Pv.new, Pv.newVar, Pv.newVec, setCells, AV.ones, AV.one, resX, entry, layL, layC, layA, lay, List.map, List.foldl, List.replicate, List.length_replicate, ↓reduceIte, reduceCtorEq, Nat.reduceEqDiff, Nat.reduceLT, Nat.reduceLeDiff, Nat.reduceAdd, Nat.reduceSub, Nat.reduceMul, Nat.reducePow, Nat.reduceDiv, Nat.reduceMod, Nat.reduceBEq, Nat.reduceBNe, Int.reduceLT, Int.reduceLE, Int.reduceToNat, Int.reduceAdd, Int.reduceSub, Int.reduceMul, Int.reduceNeg, Int.reducePow, Int.reduceEq, Int.reduceNe, Int.reduceDiv, Int.reduceMod, Int.reduceTDiv, Int.reduceTMod, UInt8.reduceToNat, UInt8.reduceOfNat]
    refine awR_callD q1 rfl rfl (fun _ => rfl) ?_
    simp (disch := (first | omega | (simp only [List.length_set, List.length_append, List.length_cons, List.length_nil, List.length_take, List.length_drop, List.length_map, List.length_replicate] at *; omega))) only [↓pvd, pv0, pv1, pv2, pv3, pv4, pv5, pv6, pv7, pvc0, pvc1, pvc2, buildC, evP, evR, evE, Pv.get, Pv.put, putO, bin2, int2, binB2, un1, cells, boundO, AV.flat, bv, rowOne, pvf, rvs_1, rvs_2, rvL, rvX, liveB, setParts, szOk, notStr, lim, dedup, place, ent, Pv.new, Pv.newVar, Pv.newVec, setCells, AV.ones, AV.one, resX, entry, layL, layC, layA, lay, List.map, List.foldl, List.replicate, List.length_replicate, ↓reduceIte, reduceCtorEq, Nat.reduceEqDiff, Nat.reduceLT, Nat.reduceLeDiff, Nat.reduceAdd, Nat.reduceSub, Nat.reduceMul, Nat.reducePow, Nat.reduceDiv, Nat.reduceMod, Nat.reduceBEq, Nat.reduceBNe, Int.reduceLT, Int.reduceLE, Int.reduceToNat, Int.reduceAdd, Int.reduceSub, Int.reduceMul, Int.reduceNeg, Int.reducePow, Int.reduceEq, Int.reduceNe, Int.reduceDiv, Int.reduceMod, Int.reduceTDiv, Int.reduceTMod, UInt8.reduceToNat, UInt8.reduceOfNat]
    refine awR_callDF (ms := [.own 1 5]) q2 (by simp (disch := (first | omega | (simp only [List.length_set, List.length_append, List.length_cons, List.length_nil, List.length_take, List.length_drop, List.length_map, List.length_replicate] at *; omega))) only [↓pvd, pv0, pv1, pv2, pv3, pv4, pv5, pv6, pv7, pvc0, pvc1, pvc2, buildC, evP, evR, evE, Pv.get, Pv.put, putO, bin2, int2, binB2, un1, cells, boundO, AV.flat, bv, rowOne, pvf, rvs_1, rvs_2, rvL, rvX, liveB, setParts, szOk, notStr, lim, dedup, place, ent, Pv.new, Pv.newVar, Pv.newVec, setCells, AV.ones, AV.one, resX, entry, layL, layC, layA, lay, List.map, List.foldl, List.replicate, List.length_replicate, ↓reduceIte, reduceCtorEq, Nat.reduceEqDiff, Nat.reduceLT, Nat.reduceLeDiff, Nat.reduceAdd, Nat.reduceSub, Nat.reduceMul, Nat.reducePow, Nat.reduceDiv, Nat.reduceMod, Nat.reduceBEq, Nat.reduceBNe, Int.reduceLT, Int.reduceLE, Int.reduceToNat, Int.reduceAdd, Int.reduceSub, Int.reduceMul, Int.reduceNeg, Int.reducePow, Int.reduceEq, Int.reduceNe, Int.reduceDiv, Int.reduceMod, Int.reduceTDiv, Int.reduceTMod, UInt8.reduceToNat, UInt8.reduceOfNat]; rfl) (by simp (disch := (first | omega | (simp only [List.length_set, List.length_append, List.length_cons, List.length_nil, List.length_take, List.length_drop, List.length_map, List.length_replicate] at *; omega))) only [↓pvd, pv0, pv1, pv2, pv3, pv4, pv5, pv6, pv7, pvc0, pvc1, pvc2, buildC, evP, evR, evE, Pv.get, Pv.put, putO, bin2, int2, binB2, un1, cells, boundO, AV.flat, bv, rowOne, pvf, rvs_1, rvs_2, rvL, rvX, liveB, setParts, szOk, notStr, lim, dedup, place, ent, Pv.new, Pv.newVar, Pv.newVec, setCells, AV.ones, AV.one, resX, entry, layL, layC, layA, lay, List.map, List.foldl, List.replicate, List.length_replicate, ↓reduceIte, reduceCtorEq, Nat.reduceEqDiff, Nat.reduceLT, Nat.reduceLeDiff, Nat.reduceAdd, Nat.reduceSub, Nat.reduceMul, Nat.reducePow, Nat.reduceDiv, Nat.reduceMod, Nat.reduceBEq, Nat.reduceBNe, Int.reduceLT, Int.reduceLE, Int.reduceToNat, Int.reduceAdd, Int.reduceSub, Int.reduceMul, Int.reduceNeg, Int.reducePow, Int.reduceEq, Int.reduceNe, Int.reduceDiv, Int.reduceMod, Int.reduceTDiv, Int.reduceTMod, UInt8.reduceToNat, UInt8.reduceOfNat]) (by simp [growL, still, ent, lay, layA, layC, layL]) ?_
    simp (disch := (first | omega | (simp only [List.length_set, List.length_append, List.length_cons, List.length_nil, List.length_take, List.length_drop, List.length_map, List.length_replicate] at *; omega))) only [↓pvd, pv0, pv1, pv2, pv3, pv4, pv5, pv6, pv7, pvc0, pvc1, pvc2, buildC, evP, evR, evE, Pv.get, Pv.put, putO, bin2, int2, binB2, un1, cells, boundO, AV.flat, bv, rowOne, pvf, rvs_1, rvs_2, rvL, rvX, liveB, setParts, szOk, notStr, lim, dedup, place, ent, Pv.new, Pv.newVar, Pv.newVec, setCells, AV.ones, AV.one, resX, entry, layL, layC, layA, lay, List.map, List.foldl, List.replicate, List.length_replicate, ↓reduceIte, reduceCtorEq, Nat.reduceEqDiff, Nat.reduceLT, Nat.reduceLeDiff, Nat.reduceAdd, Nat.reduceSub, Nat.reduceMul, Nat.reducePow, Nat.reduceDiv, Nat.reduceMod, Nat.reduceBEq, Nat.reduceBNe, Int.reduceLT, Int.reduceLE, Int.reduceToNat, Int.reduceAdd, Int.reduceSub, Int.reduceMul, Int.reduceNeg, Int.reducePow, Int.reduceEq, Int.reduceNe, Int.reduceDiv, Int.reduceMod, Int.reduceTDiv, Int.reduceTMod, UInt8.reduceToNat, UInt8.reduceOfNat]
    (refine Ends_rq [] ?_; simp (disch := (first | omega | (simp only [List.length_set, List.length_append, List.length_cons, List.length_nil, List.length_take, List.length_drop, List.length_map, List.length_replicate]; omega))) only [↓pvd, pv0, pv1, pv2, pv3, pv4, pv5, pv6, pv7, pvc0, pvc1, pvc2, buildC, evP, evR, evE, Pv.get, Pv.put, putO, bin2, int2, binB2, un1, cells, boundO, AV.flat, bv, rowOne, pvf, rvs_1, rvs_2, rvL, rvX, liveB, setParts, szOk, notStr, lim, dedup, place, ent, Pv.new, Pv.newVar, Pv.newVec, setCells, AV.ones, AV.one, resX, entry, layL, layC, layA, lay, List.map, List.foldl, List.replicate, List.length_replicate, ↓reduceIte, reduceCtorEq, Nat.reduceEqDiff, Nat.reduceLT, Nat.reduceLeDiff, Nat.reduceAdd, Nat.reduceSub, Nat.reduceMul, Nat.reducePow, Nat.reduceDiv, Nat.reduceMod, Nat.reduceBEq, Nat.reduceBNe, Int.reduceLT, Int.reduceLE, Int.reduceToNat, Int.reduceAdd, Int.reduceSub, Int.reduceMul, Int.reduceNeg, Int.reducePow, Int.reduceEq, Int.reduceNe, Int.reduceDiv, Int.reduceMod, Int.reduceTDiv, Int.reduceTMod, UInt8.reduceToNat, UInt8.reduceOfNat]; exact ⟨_, rfl, rfl, rfl⟩)
  · rw [if_neg hb]
    rw [show okb b = false from decide_eq_false hb] at q
    simp (disch := (first | omega | (simp only [List.length_set, List.length_append, List.length_cons, List.length_nil, List.length_take, List.length_drop, List.length_map, List.length_replicate] at *; omega))) only [↓pvd, pv0, pv1, pv2, pv3, pv4, pv5, pv6, pv7, pvc0, pvc1, pvc2, buildC, evP, evR, evE, Pv.get, Pv.put, putO, bin2, int2, binB2, un1, cells, boundO, AV.flat, bv, rowOne, pvf, rvs_1, rvs_2, rvL, rvX, liveB, setParts, szOk, notStr, lim, dedup, place, ent, Pv.new, Pv.newVar, Pv.newVec, setCells, AV.ones, AV.one, resX, entry, layL, layC, layA, lay, List.map, List.foldl, List.replicate, List.length_replicate, ↓reduceIte, reduceCtorEq, Nat.reduceEqDiff, Nat.reduceLT, Nat.reduceLeDiff, Nat.reduceAdd, Nat.reduceSub, Nat.reduceMul, Nat.reducePow, Nat.reduceDiv, Nat.reduceMod, Nat.reduceBEq, Nat.reduceBNe, Int.reduceLT, Int.reduceLE, Int.reduceToNat, Int.reduceAdd, Int.reduceSub, Int.reduceMul, Int.reduceNeg, Int.reducePow, Int.reduceEq, Int.reduceNe, Int.reduceDiv, Int.reduceMod, Int.reduceTDiv, Int.reduceTMod, UInt8.reduceToNat, UInt8.reduceOfNat]
    refine awR_call q rfl rfl ?_
    simp (disch := (first | omega | (simp only [List.length_set, List.length_append, List.length_cons, List.length_nil, List.length_take, List.length_drop, List.length_map, List.length_replicate] at *; omega))) only [↓pvd, pv0, pv1, pv2, pv3, pv4, pv5, pv6, pv7, pvc0, pvc1, pvc2, buildC, evP, evR, evE, Pv.get, Pv.put, putO, bin2, int2, binB2, un1, cells, boundO, AV.flat, bv, rowOne, pvf, rvs_1, rvs_2, rvL, rvX, liveB, setParts, szOk, notStr, lim, dedup, place, ent, Pv.new, Pv.newVar, Pv.newVec, setCells, AV.ones, AV.one, resX, entry, layL, layC, layA, lay, List.map, List.foldl, List.replicate, List.length_replicate, ↓reduceIte, reduceCtorEq, Nat.reduceEqDiff, Nat.reduceLT, Nat.reduceLeDiff, Nat.reduceAdd, Nat.reduceSub, Nat.reduceMul, Nat.reducePow, Nat.reduceDiv, Nat.reduceMod, Nat.reduceBEq, Nat.reduceBNe, Int.reduceLT, Int.reduceLE, Int.reduceToNat, Int.reduceAdd, Int.reduceSub, Int.reduceMul, Int.reduceNeg, Int.reducePow, Int.reduceEq, Int.reduceNe, Int.reduceDiv, Int.reduceMod, Int.reduceTDiv, Int.reduceTMod, UInt8.reduceToNat, UInt8.reduceOfNat]
    (refine Ends_rq [] ?_; simp (disch := (first | omega | (simp only [List.length_set, List.length_append, List.length_cons, List.length_nil, List.length_take, List.length_drop, List.length_map, List.length_replicate]; omega))) only [↓pvd, pv0, pv1, pv2, pv3, pv4, pv5, pv6, pv7, pvc0, pvc1, pvc2, buildC, evP, evR, evE, Pv.get, Pv.put, putO, bin2, int2, binB2, un1, cells, boundO, AV.flat, bv, rowOne, pvf, rvs_1, rvs_2, rvL, rvX, liveB, setParts, szOk, notStr, lim, dedup, place, ent, Pv.new, Pv.newVar, Pv.newVec, setCells, AV.ones, AV.one, resX, entry, layL, layC, layA, lay, List.map, List.foldl, List.replicate, List.length_replicate, ↓reduceIte, reduceCtorEq, Nat.reduceEqDiff, Nat.reduceLT, Nat.reduceLeDiff, Nat.reduceAdd, Nat.reduceSub, Nat.reduceMul, Nat.reducePow, Nat.reduceDiv, Nat.reduceMod, Nat.reduceBEq, Nat.reduceBNe, Int.reduceLT, Int.reduceLE, Int.reduceToNat, Int.reduceAdd, Int.reduceSub, Int.reduceMul, Int.reduceNeg, Int.reducePow, Int.reduceEq, Int.reduceNe, Int.reduceDiv, Int.reduceMod, Int.reduceTDiv, Int.reduceTMod, UInt8.reduceToNat, UInt8.reduceOfNat]; exact ⟨_, rfl, rfl, rfl⟩)
end Go.Proofs

set_option linter.unusedSimpArgs false
set_option linter.unusedVariables false
set_option maxHeartbeats 2000000
set_option maxRecDepth 20000
namespace Go.Proofs
open Go.Pv Go.RowKit
theorem read_run (s : List UInt8) (hs : s.length ≤ 100000) : Run Tryd.prog 10 [.str s] (rdA (sp s)) := by
  refine ⟨?_, ?_⟩
  · exact can_of Tryd.func10 rfl rfl
  intro w I os args hos ho
  obtain ⟨args⟩ := args
  generalize hxs : [AV.str s] = ys at ho
  cases ho with
  | nil => cases hxs
  | cons ha ho =>
    cases hxs
    cases ho with
    | nil =>
      unfold OwnC at ha
      obtain ⟨rfl, ha⟩ := ha
      cases ha
      refine (read_calls s hs w).mono ?_
      rintro e W ⟨rfl, hB⟩
      refine ⟨_, I, [], rfl, ?_, ⟨fun b h => ⟨Nat.lt_of_lt_of_le (hos.imm b h).1 hB.size, blks_nil b⟩, fun b h => absurd h (blks_nil b), .nil⟩, ⟨hB.os, hB.tape, hB.output, hB.size, fun b h _ => hB.block b h, fun b h => absurd h (blks_nil b), fun b h => h, fun b h => .inl h⟩⟩
      have key : ∀ (n : Int) (b : Bool), OwnT W I [] (.tup [.int .u32 n, .bool b]) (.tuple #[.int .u32 n, .bool b]) := fun n b =>
        ⟨#[.int .u32 n, .bool b], rfl, .cons (os := []) (os' := []) ⟨rfl, .int _ _⟩ (.cons (os := []) (os' := []) ⟨rfl, .bool _⟩ .nil)⟩
      unfold rdA
      by_cases h : (sp s).length = 4 ∧ (sp s).all goodP = true
      · rw [if_pos h, if_pos h, decide_eq_true h]; exact key _ _
      · rw [if_neg h, if_neg h, decide_eq_false h]; exact key _ _
end Go.Proofs

set_option linter.unusedSimpArgs false
set_option linter.unusedVariables false
set_option maxHeartbeats 2000000
set_option maxRecDepth 20000
namespace Go.Proofs
open Go.Pv
def okA (s : List UInt8) : Prop := (sp s).length = 4 ∧ (sp s).all goodP = true
instance (s : List UInt8) : Decidable (okA s) := by unfold okA; exact inferInstance
theorem rdA_pos {s : List UInt8} (h : okA s) : rdA (sp s) = .tup [.int .u32 (accF (sp s)), .bool true] := by unfold rdA; exact if_pos h
theorem rdA_neg {s : List UInt8} (h : ¬ okA s) : rdA (sp s) = .tup [.int .u32 0, .bool false] := by unfold rdA; exact if_neg h
/-- What a prefix's text tells. -/
def rpF (s : List UInt8) : AV :=
  if 0 ≤ Lib.indexByte s 47 ∧ okA (s.take (Lib.indexByte s 47).toNat) ∧ okS (s.drop ((Lib.indexByte s 47).toNat + 1)) = true ∧ vS (s.drop ((Lib.indexByte s 47).toNat + 1)) ≤ 32
  then .tup [pfx (accF (sp (s.take (Lib.indexByte s 47).toNat))) (vS (s.drop ((Lib.indexByte s 47).toNat + 1))), .bool true] else .tup [pfx 0 0, .bool false]
theorem rp_run (s : List UInt8) (hs : s.length ≤ 100000) : Run Tryd.prog 12 [.str s] (rpF s) := by
  refine Tryd.run12 (by simp) ?_
  unfold Tryd.c12
  have q := cut_run s 47 hs
  unfold cutF at q
  have hb := ix_b s 47
  unfold rpF
  by_cases h : 0 ≤ Lib.indexByte s 47
  · rw [if_pos h, cutR] at q
    have hl1 : (s.take (Lib.indexByte s 47).toNat).length ≤ 100000 := by simp; omega
    have hl2 : (s.drop ((Lib.indexByte s 47).toNat + 1)).length ≤ 100000 := by simp; omega
    generalize s.take (Lib.indexByte s 47).toNat = a at *
    generalize s.drop ((Lib.indexByte s 47).toNat + 1) = b at *
    have q1 := read_run a hl1
    have q2 := small_run b 32 hl2 (by omega)
    by_cases ha : okA a
    · have hab := accF_b (sp a) (by have := ha.1; omega) ha.2
      rw [rdA_pos ha] at q1
      unfold smR at q2
      generalize accF (sp a) = v at *
      by_cases hk : okS b = true
      · have hvb := vS_b hk
        rw [if_pos hk] at q2
        by_cases h32 : vS b ≤ 32
        · rw [if_pos ⟨h, ha, hk, h32⟩]
          rw [decide_eq_true h32] at q2
          generalize vS b = u at *
          simp (disch := (first | omega | (simp only [List.length_set, List.length_append, List.length_cons, List.length_nil, List.length_take, List.length_drop, List.length_map, List.length_replicate] at *; omega))) only [↓pvd, pv0, pv1, pv2, pv3, pv4, pv5, pv6, pv7, pvc0, pvc1, pvc2, buildC, evP, evR, evE, Pv.get, Pv.put, putO, bin2, int2, binB2, un1, cells, boundO, AV.flat, bv, rowOne, pvf, rvs_1, rvs_2, rvL, rvX, liveB, setParts, szOk, notStr, lim, dedup, place, ent, Pv.new, Pv.newVar, Pv.newVec, setCells, AV.ones, AV.one, resX, entry, layL, layC, layA, lay, List.map, List.foldl, List.replicate, List.length_replicate, ↓reduceIte, reduceCtorEq, Nat.reduceEqDiff, Nat.reduceLT, Nat.reduceLeDiff, Nat.reduceAdd, Nat.reduceSub, Nat.reduceMul, Nat.reducePow, Nat.reduceDiv, Nat.reduceMod, Nat.reduceBEq, Nat.reduceBNe, Int.reduceLT, Int.reduceLE, Int.reduceToNat, Int.reduceAdd, Int.reduceSub, Int.reduceMul, Int.reduceNeg, Int.reducePow, Int.reduceEq, Int.reduceNe, Int.reduceDiv, Int.reduceMod, Int.reduceTDiv, Int.reduceTMod, UInt8.reduceToNat, UInt8.reduceOfNat]
          refine awR_call q rfl rfl ?_
          simp (disch := (first | omega | (simp only [List.length_set, List.length_append, List.length_cons, List.length_nil, List.length_take, List.length_drop, List.length_map, List.length_replicate] at *; omega))) only [↓pvd, pv0, pv1, pv2, pv3, pv4, pv5, pv6, pv7, pvc0, pvc1, pvc2, buildC, evP, evR, evE, Pv.get, Pv.put, putO, bin2, int2, binB2, un1, cells, boundO, AV.flat, bv, rowOne, pvf, rvs_1, rvs_2, rvL, rvX, liveB, setParts, szOk, notStr, lim, dedup, place, ent, Pv.new, Pv.newVar, Pv.newVec, setCells, AV.ones, AV.one, resX, entry, layL, layC, layA, lay, List.map, List.foldl, List.replicate, List.length_replicate, ↓reduceIte, reduceCtorEq, Nat.reduceEqDiff, Nat.reduceLT, Nat.reduceLeDiff, Nat.reduceAdd, Nat.reduceSub, Nat.reduceMul, Nat.reducePow, Nat.reduceDiv, Nat.reduceMod, Nat.reduceBEq, Nat.reduceBNe, Int.reduceLT, Int.reduceLE, Int.reduceToNat, Int.reduceAdd, Int.reduceSub, Int.reduceMul, Int.reduceNeg, Int.reducePow, Int.reduceEq, Int.reduceNe, Int.reduceDiv, Int.reduceMod, Int.reduceTDiv, Int.reduceTMod, UInt8.reduceToNat, UInt8.reduceOfNat]
          refine awR_call q1 rfl rfl ?_
          simp (disch := (first | omega | (simp only [List.length_set, List.length_append, List.length_cons, List.length_nil, List.length_take, List.length_drop, List.length_map, List.length_replicate] at *; omega))) only [↓pvd, pv0, pv1, pv2, pv3, pv4, pv5, pv6, pv7, pvc0, pvc1, pvc2, buildC, evP, evR, evE, Pv.get, Pv.put, putO, bin2, int2, binB2, un1, cells, boundO, AV.flat, bv, rowOne, pvf, rvs_1, rvs_2, rvL, rvX, liveB, setParts, szOk, notStr, lim, dedup, place, ent, Pv.new, Pv.newVar, Pv.newVec, setCells, AV.ones, AV.one, resX, entry, layL, layC, layA, lay, List.map, List.foldl, List.replicate, List.length_replicate, ↓reduceIte, reduceCtorEq, Nat.reduceEqDiff, Nat.reduceLT, Nat.reduceLeDiff, Nat.reduceAdd, Nat.reduceSub, Nat.reduceMul, Nat.reducePow, Nat.reduceDiv, Nat.reduceMod, Nat.reduceBEq, Nat.reduceBNe, Int.reduceLT, Int.reduceLE, Int.reduceToNat, Int.reduceAdd, Int.reduceSub, Int.reduceMul, Int.reduceNeg, Int.reducePow, Int.reduceEq, Int.reduceNe, Int.reduceDiv, Int.reduceMod, Int.reduceTDiv, Int.reduceTMod, UInt8.reduceToNat, UInt8.reduceOfNat]
          refine awR_call q2 rfl rfl ?_
          simp (disch := (first | omega | (simp only [List.length_set, List.length_append, List.length_cons, List.length_nil, List.length_take, List.length_drop, List.length_map, List.length_replicate] at *; omega))) only [↓pvd, pv0, pv1, pv2, pv3, pv4, pv5, pv6, pv7, pvc0, pvc1, pvc2, buildC, evP, evR, evE, Pv.get, Pv.put, putO, bin2, int2, binB2, un1, cells, boundO, AV.flat, bv, rowOne, pvf, rvs_1, rvs_2, rvL, rvX, liveB, setParts, szOk, notStr, lim, dedup, place, ent, Pv.new, Pv.newVar, Pv.newVec, setCells, AV.ones, AV.one, resX, entry, layL, layC, layA, lay, List.map, List.foldl, List.replicate, List.length_replicate, ↓reduceIte, reduceCtorEq, Nat.reduceEqDiff, Nat.reduceLT, Nat.reduceLeDiff, Nat.reduceAdd, Nat.reduceSub, Nat.reduceMul, Nat.reducePow, Nat.reduceDiv, Nat.reduceMod, Nat.reduceBEq, Nat.reduceBNe, Int.reduceLT, Int.reduceLE, Int.reduceToNat, Int.reduceAdd, Int.reduceSub, Int.reduceMul, Int.reduceNeg, Int.reducePow, Int.reduceEq, Int.reduceNe, Int.reduceDiv, Int.reduceMod, Int.reduceTDiv, Int.reduceTMod, UInt8.reduceToNat, UInt8.reduceOfNat]
          (refine EndsX_rq [] ?_; simp (disch := (first | omega | (simp only [List.length_set, List.length_append, List.length_cons, List.length_nil, List.length_take, List.length_drop, List.length_map, List.length_replicate]; omega))) only [↓pvd, pv0, pv1, pv2, pv3, pv4, pv5, pv6, pv7, pvc0, pvc1, pvc2, buildC, evP, evR, evE, Pv.get, Pv.put, putO, bin2, int2, binB2, un1, cells, boundO, AV.flat, bv, rowOne, pvf, rvs_1, rvs_2, rvL, rvX, liveB, setParts, szOk, notStr, lim, dedup, place, ent, Pv.new, Pv.newVar, Pv.newVec, setCells, AV.ones, AV.one, resX, entry, layL, layC, layA, lay, List.map, List.foldl, List.replicate, List.length_replicate, ↓reduceIte, reduceCtorEq, Nat.reduceEqDiff, Nat.reduceLT, Nat.reduceLeDiff, Nat.reduceAdd, Nat.reduceSub, Nat.reduceMul, Nat.reducePow, Nat.reduceDiv, Nat.reduceMod, Nat.reduceBEq, Nat.reduceBNe, Int.reduceLT, Int.reduceLE, Int.reduceToNat, Int.reduceAdd, Int.reduceSub, Int.reduceMul, Int.reduceNeg, Int.reducePow, Int.reduceEq, Int.reduceNe, Int.reduceDiv, Int.reduceMod, Int.reduceTDiv, Int.reduceTMod, UInt8.reduceToNat, UInt8.reduceOfNat]; exact ⟨_, rfl, rfl, rfl⟩)
        · rw [if_neg (fun h => h32 h.2.2.2)]
          rw [decide_eq_false h32] at q2
          generalize vS b = u at *
          simp (disch := (first | omega | (simp only [List.length_set, List.length_append, List.length_cons, List.length_nil, List.length_take, List.length_drop, List.length_map, List.length_replicate] at *; omega))) only [↓pvd, pv0, pv1, pv2, pv3, pv4, pv5, pv6, pv7, pvc0, pvc1, pvc2, buildC, evP, evR, evE, Pv.get, Pv.put, putO, bin2, int2, binB2, un1, cells, boundO, AV.flat, bv, rowOne, pvf, rvs_1, rvs_2, rvL, rvX, liveB, setParts, szOk, notStr, lim, dedup, place, ent, Pv.new, Pv.newVar, Pv.newVec, setCells, AV.ones, AV.one, resX, entry, layL, layC, layA, lay, List.map, List.foldl, List.replicate, List.length_replicate, ↓reduceIte, reduceCtorEq, Nat.reduceEqDiff, Nat.reduceLT, Nat.reduceLeDiff, Nat.reduceAdd, Nat.reduceSub, Nat.reduceMul, Nat.reducePow, Nat.reduceDiv, Nat.reduceMod, Nat.reduceBEq, Nat.reduceBNe, Int.reduceLT, Int.reduceLE, Int.reduceToNat, Int.reduceAdd, Int.reduceSub, Int.reduceMul, Int.reduceNeg, Int.reducePow, Int.reduceEq, Int.reduceNe, Int.reduceDiv, Int.reduceMod, Int.reduceTDiv, Int.reduceTMod, UInt8.reduceToNat, UInt8.reduceOfNat]
          refine awR_call q rfl rfl ?_
          simp (disch := (first | omega | (simp only [List.length_set, List.length_append, List.length_cons, List.length_nil, List.length_take, List.length_drop, List.length_map, List.length_replicate] at *; omega))) only [↓pvd, pv0, pv1, pv2, pv3, pv4, pv5, pv6, pv7, pvc0, pvc1, pvc2, buildC, evP, evR, evE, Pv.get, Pv.put, putO, bin2, int2, binB2, un1, cells, boundO, AV.flat, bv, rowOne, pvf, rvs_1, rvs_2, rvL, rvX, liveB, setParts, szOk, notStr, lim, dedup, place, ent, Pv.new, Pv.newVar, Pv.newVec, setCells, AV.ones, AV.one, resX, entry, layL, layC, layA, lay, List.map, List.foldl, List.replicate, List.length_replicate, ↓reduceIte, reduceCtorEq, Nat.reduceEqDiff, Nat.reduceLT, Nat.reduceLeDiff, Nat.reduceAdd, Nat.reduceSub, Nat.reduceMul, Nat.reducePow, Nat.reduceDiv, Nat.reduceMod, Nat.reduceBEq, Nat.reduceBNe, Int.reduceLT, Int.reduceLE, Int.reduceToNat, Int.reduceAdd, Int.reduceSub, Int.reduceMul, Int.reduceNeg, Int.reducePow, Int.reduceEq, Int.reduceNe, Int.reduceDiv, Int.reduceMod, Int.reduceTDiv, Int.reduceTMod, UInt8.reduceToNat, UInt8.reduceOfNat]
          refine awR_call q1 rfl rfl ?_
          simp (disch := (first | omega | (simp only [List.length_set, List.length_append, List.length_cons, List.length_nil, List.length_take, List.length_drop, List.length_map, List.length_replicate] at *; omega))) only [↓pvd, pv0, pv1, pv2, pv3, pv4, pv5, pv6, pv7, pvc0, pvc1, pvc2, buildC, evP, evR, evE, Pv.get, Pv.put, putO, bin2, int2, binB2, un1, cells, boundO, AV.flat, bv, rowOne, pvf, rvs_1, rvs_2, rvL, rvX, liveB, setParts, szOk, notStr, lim, dedup, place, ent, Pv.new, Pv.newVar, Pv.newVec, setCells, AV.ones, AV.one, resX, entry, layL, layC, layA, lay, List.map, List.foldl, List.replicate, List.length_replicate, ↓reduceIte, reduceCtorEq, Nat.reduceEqDiff, Nat.reduceLT, Nat.reduceLeDiff, Nat.reduceAdd, Nat.reduceSub, Nat.reduceMul, Nat.reducePow, Nat.reduceDiv, Nat.reduceMod, Nat.reduceBEq, Nat.reduceBNe, Int.reduceLT, Int.reduceLE, Int.reduceToNat, Int.reduceAdd, Int.reduceSub, Int.reduceMul, Int.reduceNeg, Int.reducePow, Int.reduceEq, Int.reduceNe, Int.reduceDiv, Int.reduceMod, Int.reduceTDiv, Int.reduceTMod, UInt8.reduceToNat, UInt8.reduceOfNat]
          refine awR_call q2 rfl rfl ?_
          simp (disch := (first | omega | (simp only [List.length_set, List.length_append, List.length_cons, List.length_nil, List.length_take, List.length_drop, List.length_map, List.length_replicate] at *; omega))) only [↓pvd, pv0, pv1, pv2, pv3, pv4, pv5, pv6, pv7, pvc0, pvc1, pvc2, buildC, evP, evR, evE, Pv.get, Pv.put, putO, bin2, int2, binB2, un1, cells, boundO, AV.flat, bv, rowOne, pvf, rvs_1, rvs_2, rvL, rvX, liveB, setParts, szOk, notStr, lim, dedup, place, ent, Pv.new, Pv.newVar, Pv.newVec, setCells, AV.ones, AV.one, resX, entry, layL, layC, layA, lay, List.map, List.foldl, List.replicate, List.length_replicate, ↓reduceIte, reduceCtorEq, Nat.reduceEqDiff, Nat.reduceLT, Nat.reduceLeDiff, Nat.reduceAdd, Nat.reduceSub, Nat.reduceMul, Nat.reducePow, Nat.reduceDiv, Nat.reduceMod, Nat.reduceBEq, Nat.reduceBNe, Int.reduceLT, Int.reduceLE, Int.reduceToNat, Int.reduceAdd, Int.reduceSub, Int.reduceMul, Int.reduceNeg, Int.reducePow, Int.reduceEq, Int.reduceNe, Int.reduceDiv, Int.reduceMod, Int.reduceTDiv, Int.reduceTMod, UInt8.reduceToNat, UInt8.reduceOfNat]
          (refine EndsX_rq [] ?_; simp (disch := (first | omega | (simp only [List.length_set, List.length_append, List.length_cons, List.length_nil, List.length_take, List.length_drop, List.length_map, List.length_replicate]; omega))) only [↓pvd, pv0, pv1, pv2, pv3, pv4, pv5, pv6, pv7, pvc0, pvc1, pvc2, buildC, evP, evR, evE, Pv.get, Pv.put, putO, bin2, int2, binB2, un1, cells, boundO, AV.flat, bv, rowOne, pvf, rvs_1, rvs_2, rvL, rvX, liveB, setParts, szOk, notStr, lim, dedup, place, ent, Pv.new, Pv.newVar, Pv.newVec, setCells, AV.ones, AV.one, resX, entry, layL, layC, layA, lay, List.map, List.foldl, List.replicate, List.length_replicate, ↓reduceIte, reduceCtorEq, Nat.reduceEqDiff, Nat.reduceLT, Nat.reduceLeDiff, Nat.reduceAdd, Nat.reduceSub, Nat.reduceMul, Nat.reducePow, Nat.reduceDiv, Nat.reduceMod, Nat.reduceBEq, Nat.reduceBNe, Int.reduceLT, Int.reduceLE, Int.reduceToNat, Int.reduceAdd, Int.reduceSub, Int.reduceMul, Int.reduceNeg, Int.reducePow, Int.reduceEq, Int.reduceNe, Int.reduceDiv, Int.reduceMod, Int.reduceTDiv, Int.reduceTMod, UInt8.reduceToNat, UInt8.reduceOfNat]; exact ⟨_, rfl, rfl, rfl⟩)
      · rw [if_neg (fun h => hk h.2.2.1)]
        rw [if_neg hk] at q2
        simp (disch := (first | omega | (simp only [List.length_set, List.length_append, List.length_cons, List.length_nil, List.length_take, List.length_drop, List.length_map, List.length_replicate] at *; omega))) only [↓pvd, pv0, pv1, pv2, pv3, pv4, pv5, pv6, pv7, pvc0, pvc1, pvc2, buildC, evP, evR, evE, Pv.get, Pv.put, putO, bin2, int2, binB2, un1, cells, boundO, AV.flat, bv, rowOne, pvf, rvs_1, rvs_2, rvL, rvX, liveB, setParts, szOk, notStr, lim, dedup, place, ent, Pv.new, Pv.newVar, Pv.newVec, setCells, AV.ones, AV.one, resX, entry, layL, layC, layA, lay, List.map, List.foldl, List.replicate, List.length_replicate, ↓reduceIte, reduceCtorEq, Nat.reduceEqDiff, Nat.reduceLT, Nat.reduceLeDiff, Nat.reduceAdd, Nat.reduceSub, Nat.reduceMul, Nat.reducePow, Nat.reduceDiv, Nat.reduceMod, Nat.reduceBEq, Nat.reduceBNe, Int.reduceLT, Int.reduceLE, Int.reduceToNat, Int.reduceAdd, Int.reduceSub, Int.reduceMul, Int.reduceNeg, Int.reducePow, Int.reduceEq, Int.reduceNe, Int.reduceDiv, Int.reduceMod, Int.reduceTDiv, Int.reduceTMod, UInt8.reduceToNat, UInt8.reduceOfNat]
        refine awR_call q rfl rfl ?_
        simp (disch := (first | omega | (simp only [List.length_set, List.length_append, List.length_cons, List.length_nil, List.length_take, List.length_drop, List.length_map, List.length_replicate] at *; omega))) only [↓pvd, pv0, pv1, pv2, pv3, pv4, pv5, pv6, pv7, pvc0, pvc1, pvc2, buildC, evP, evR, evE, Pv.get, Pv.put, putO, bin2, int2, binB2, un1, cells, boundO, AV.flat, bv, rowOne, pvf, rvs_1, rvs_2, rvL, rvX, liveB, setParts, szOk, notStr, lim, dedup, place, ent, Pv.new, Pv.newVar, Pv.newVec, setCells, AV.ones, AV.one, resX, entry, layL, layC, layA, lay, List.map, List.foldl, List.replicate, List.length_replicate, ↓reduceIte, reduceCtorEq, Nat.reduceEqDiff, Nat.reduceLT, Nat.reduceLeDiff, Nat.reduceAdd, Nat.reduceSub, Nat.reduceMul, Nat.reducePow, Nat.reduceDiv, Nat.reduceMod, Nat.reduceBEq, Nat.reduceBNe, Int.reduceLT, Int.reduceLE, Int.reduceToNat, Int.reduceAdd, Int.reduceSub, Int.reduceMul, Int.reduceNeg, Int.reducePow, Int.reduceEq, Int.reduceNe, Int.reduceDiv, Int.reduceMod, Int.reduceTDiv, Int.reduceTMod, UInt8.reduceToNat, UInt8.reduceOfNat]
        refine awR_call q1 rfl rfl ?_
        simp (disch := (first | omega | (simp only [List.length_set, List.length_append, List.length_cons, List.length_nil, List.length_take, List.length_drop, List.length_map, List.length_replicate] at *; omega))) only [↓pvd, pv0, pv1, pv2, pv3, pv4, pv5, pv6, pv7, pvc0, pvc1, pvc2, buildC, evP, evR, evE, Pv.get, Pv.put, putO, bin2, int2, binB2, un1, cells, boundO, AV.flat, bv, rowOne, pvf, rvs_1, rvs_2, rvL, rvX, liveB, setParts, szOk, notStr, lim, dedup, place, ent, Pv.new, Pv.newVar, Pv.newVec, setCells, AV.ones, AV.one, resX, entry, layL, layC, layA, lay, List.map, List.foldl, List.replicate, List.length_replicate, ↓reduceIte, reduceCtorEq, Nat.reduceEqDiff, Nat.reduceLT, Nat.reduceLeDiff, Nat.reduceAdd, Nat.reduceSub, Nat.reduceMul, Nat.reducePow, Nat.reduceDiv, Nat.reduceMod, Nat.reduceBEq, Nat.reduceBNe, Int.reduceLT, Int.reduceLE, Int.reduceToNat, Int.reduceAdd, Int.reduceSub, Int.reduceMul, Int.reduceNeg, Int.reducePow, Int.reduceEq, Int.reduceNe, Int.reduceDiv, Int.reduceMod, Int.reduceTDiv, Int.reduceTMod, UInt8.reduceToNat, UInt8.reduceOfNat]
        refine awR_call q2 rfl rfl ?_
        simp (disch := (first | omega | (simp only [List.length_set, List.length_append, List.length_cons, List.length_nil, List.length_take, List.length_drop, List.length_map, List.length_replicate] at *; omega))) only [↓pvd, pv0, pv1, pv2, pv3, pv4, pv5, pv6, pv7, pvc0, pvc1, pvc2, buildC, evP, evR, evE, Pv.get, Pv.put, putO, bin2, int2, binB2, un1, cells, boundO, AV.flat, bv, rowOne, pvf, rvs_1, rvs_2, rvL, rvX, liveB, setParts, szOk, notStr, lim, dedup, place, ent, Pv.new, Pv.newVar, Pv.newVec, setCells, AV.ones, AV.one, resX, entry, layL, layC, layA, lay, List.map, List.foldl, List.replicate, List.length_replicate, ↓reduceIte, reduceCtorEq, Nat.reduceEqDiff, Nat.reduceLT, Nat.reduceLeDiff, Nat.reduceAdd, Nat.reduceSub, Nat.reduceMul, Nat.reducePow, Nat.reduceDiv, Nat.reduceMod, Nat.reduceBEq, Nat.reduceBNe, Int.reduceLT, Int.reduceLE, Int.reduceToNat, Int.reduceAdd, Int.reduceSub, Int.reduceMul, Int.reduceNeg, Int.reducePow, Int.reduceEq, Int.reduceNe, Int.reduceDiv, Int.reduceMod, Int.reduceTDiv, Int.reduceTMod, UInt8.reduceToNat, UInt8.reduceOfNat]
        (refine EndsX_rq [] ?_; simp (disch := (first | omega | (simp only [List.length_set, List.length_append, List.length_cons, List.length_nil, List.length_take, List.length_drop, List.length_map, List.length_replicate]; omega))) only [↓pvd, pv0, pv1, pv2, pv3, pv4, pv5, pv6, pv7, pvc0, pvc1, pvc2, buildC, evP, evR, evE, Pv.get, Pv.put, putO, bin2, int2, binB2, un1, cells, boundO, AV.flat, bv, rowOne, pvf, rvs_1, rvs_2, rvL, rvX, liveB, setParts, szOk, notStr, lim, dedup, place, ent, Pv.new, Pv.newVar, Pv.newVec, setCells, AV.ones, AV.one, resX, entry, layL, layC, layA, lay, List.map, List.foldl, List.replicate, List.length_replicate, ↓reduceIte, reduceCtorEq, Nat.reduceEqDiff, Nat.reduceLT, Nat.reduceLeDiff, Nat.reduceAdd, Nat.reduceSub, Nat.reduceMul, Nat.reducePow, Nat.reduceDiv, Nat.reduceMod, Nat.reduceBEq, Nat.reduceBNe, Int.reduceLT, Int.reduceLE, Int.reduceToNat, Int.reduceAdd, Int.reduceSub, Int.reduceMul, Int.reduceNeg, Int.reducePow, Int.reduceEq, Int.reduceNe, Int.reduceDiv, Int.reduceMod, Int.reduceTDiv, Int.reduceTMod, UInt8.reduceToNat, UInt8.reduceOfNat]; exact ⟨_, rfl, rfl, rfl⟩)
    · rw [if_neg (fun h => ha h.2.1)]
      rw [rdA_neg ha] at q1
      obtain ⟨n, d, hn⟩ : ∃ n d, smR b 32 = .tup [.int .i64 n, .bool d] := by unfold smR; split <;> exact ⟨_, _, rfl⟩
      rw [hn] at q2
      simp (disch := (first | omega | (simp only [List.length_set, List.length_append, List.length_cons, List.length_nil, List.length_take, List.length_drop, List.length_map, List.length_replicate] at *; omega))) only [↓pvd, pv0, pv1, pv2, pv3, pv4, pv5, pv6, pv7, pvc0, pvc1, pvc2, buildC, evP, evR, evE, Pv.get, Pv.put, putO, bin2, int2, binB2, un1, cells, boundO, AV.flat, bv, rowOne, pvf, rvs_1, rvs_2, rvL, rvX, liveB, setParts, szOk, notStr, lim, dedup, place, ent, Pv.new, Pv.newVar, Pv.newVec, setCells, AV.ones, AV.one, resX, entry, layL, layC, layA, lay, List.map, List.foldl, List.replicate, List.length_replicate, ↓reduceIte, reduceCtorEq, Nat.reduceEqDiff, Nat.reduceLT, Nat.reduceLeDiff, Nat.reduceAdd, Nat.reduceSub, Nat.reduceMul, Nat.reducePow, Nat.reduceDiv, Nat.reduceMod, Nat.reduceBEq, Nat.reduceBNe, Int.reduceLT, Int.reduceLE, Int.reduceToNat, Int.reduceAdd, Int.reduceSub, Int.reduceMul, Int.reduceNeg, Int.reducePow, Int.reduceEq, Int.reduceNe, Int.reduceDiv, Int.reduceMod, Int.reduceTDiv, Int.reduceTMod, UInt8.reduceToNat, UInt8.reduceOfNat]
      refine awR_call q rfl rfl ?_
      simp (disch := (first | omega | (simp only [List.length_set, List.length_append, List.length_cons, List.length_nil, List.length_take, List.length_drop, List.length_map, List.length_replicate] at *; omega))) only [↓pvd, pv0, pv1, pv2, pv3, pv4, pv5, pv6, pv7, pvc0, pvc1, pvc2, buildC, evP, evR, evE, Pv.get, Pv.put, putO, bin2, int2, binB2, un1, cells, boundO, AV.flat, bv, rowOne, pvf, rvs_1, rvs_2, rvL, rvX, liveB, setParts, szOk, notStr, lim, dedup, place, ent, Pv.new, Pv.newVar, Pv.newVec, setCells, AV.ones, AV.one, resX, entry, layL, layC, layA, lay, List.map, List.foldl, List.replicate, List.length_replicate, ↓reduceIte, reduceCtorEq, Nat.reduceEqDiff, Nat.reduceLT, Nat.reduceLeDiff, Nat.reduceAdd, Nat.reduceSub, Nat.reduceMul, Nat.reducePow, Nat.reduceDiv, Nat.reduceMod, Nat.reduceBEq, Nat.reduceBNe, Int.reduceLT, Int.reduceLE, Int.reduceToNat, Int.reduceAdd, Int.reduceSub, Int.reduceMul, Int.reduceNeg, Int.reducePow, Int.reduceEq, Int.reduceNe, Int.reduceDiv, Int.reduceMod, Int.reduceTDiv, Int.reduceTMod, UInt8.reduceToNat, UInt8.reduceOfNat]
      refine awR_call q1 rfl rfl ?_
      simp (disch := (first | omega | (simp only [List.length_set, List.length_append, List.length_cons, List.length_nil, List.length_take, List.length_drop, List.length_map, List.length_replicate] at *; omega))) only [↓pvd, pv0, pv1, pv2, pv3, pv4, pv5, pv6, pv7, pvc0, pvc1, pvc2, buildC, evP, evR, evE, Pv.get, Pv.put, putO, bin2, int2, binB2, un1, cells, boundO, AV.flat, bv, rowOne, pvf, rvs_1, rvs_2, rvL, rvX, liveB, setParts, szOk, notStr, lim, dedup, place, ent, Pv.new, Pv.newVar, Pv.newVec, setCells, AV.ones, AV.one, resX, entry, layL, layC, layA, lay, List.map, List.foldl, List.replicate, List.length_replicate, ↓reduceIte, reduceCtorEq, Nat.reduceEqDiff, Nat.reduceLT, Nat.reduceLeDiff, Nat.reduceAdd, Nat.reduceSub, Nat.reduceMul, Nat.reducePow, Nat.reduceDiv, Nat.reduceMod, Nat.reduceBEq, Nat.reduceBNe, Int.reduceLT, Int.reduceLE, Int.reduceToNat, Int.reduceAdd, Int.reduceSub, Int.reduceMul, Int.reduceNeg, Int.reducePow, Int.reduceEq, Int.reduceNe, Int.reduceDiv, Int.reduceMod, Int.reduceTDiv, Int.reduceTMod, UInt8.reduceToNat, UInt8.reduceOfNat]
      refine awR_call q2 rfl rfl ?_
      simp (disch := (first | omega | (simp only [List.length_set, List.length_append, List.length_cons, List.length_nil, List.length_take, List.length_drop, List.length_map, List.length_replicate] at *; omega))) only [↓pvd, pv0, pv1, pv2, pv3, pv4, pv5, pv6, pv7, pvc0, pvc1, pvc2, buildC, evP, evR, evE, Pv.get, Pv.put, putO, bin2, int2, binB2, un1, cells, boundO, AV.flat, bv, rowOne, pvf, rvs_1, rvs_2, rvL, rvX, liveB, setParts, szOk, notStr, lim, dedup, place, ent, Pv.new, Pv.newVar, Pv.newVec, setCells, AV.ones, AV.one, resX, entry, layL, layC, layA, lay, List.map, List.foldl, List.replicate, List.length_replicate, ↓reduceIte, reduceCtorEq, Nat.reduceEqDiff, Nat.reduceLT, Nat.reduceLeDiff, Nat.reduceAdd, Nat.reduceSub, Nat.reduceMul, Nat.reducePow, Nat.reduceDiv, Nat.reduceMod, Nat.reduceBEq, Nat.reduceBNe, Int.reduceLT, Int.reduceLE, Int.reduceToNat, Int.reduceAdd, Int.reduceSub, Int.reduceMul, Int.reduceNeg, Int.reducePow, Int.reduceEq, Int.reduceNe, Int.reduceDiv, Int.reduceMod, Int.reduceTDiv, Int.reduceTMod, UInt8.reduceToNat, UInt8.reduceOfNat]
      (refine EndsX_rq [] ?_; simp (disch := (first | omega | (simp only [List.length_set, List.length_append, List.length_cons, List.length_nil, List.length_take, List.length_drop, List.length_map, List.length_replicate]; omega))) only [↓pvd, pv0, pv1, pv2, pv3, pv4, pv5, pv6, pv7, pvc0, pvc1, pvc2, buildC, evP, evR, evE, Pv.get, Pv.put, putO, bin2, int2, binB2, un1, cells, boundO, AV.flat, bv, rowOne, pvf, rvs_1, rvs_2, rvL, rvX, liveB, setParts, szOk, notStr, lim, dedup, place, ent, Pv.new, Pv.newVar, Pv.newVec, setCells, AV.ones, AV.one, resX, entry, layL, layC, layA, lay, List.map, List.foldl, List.replicate, List.length_replicate, ↓reduceIte, reduceCtorEq, Nat.reduceEqDiff, Nat.reduceLT, Nat.reduceLeDiff, Nat.reduceAdd, Nat.reduceSub, Nat.reduceMul, Nat.reducePow, Nat.reduceDiv, Nat.reduceMod, Nat.reduceBEq, Nat.reduceBNe, Int.reduceLT, Int.reduceLE, Int.reduceToNat, Int.reduceAdd, Int.reduceSub, Int.reduceMul, Int.reduceNeg, Int.reducePow, Int.reduceEq, Int.reduceNe, Int.reduceDiv, Int.reduceMod, Int.reduceTDiv, Int.reduceTMod, UInt8.reduceToNat, UInt8.reduceOfNat]; exact ⟨_, rfl, rfl, rfl⟩)
  · rw [if_neg h, cutR] at q
    rw [if_neg (fun h' => h h'.1)]
    have q1 := read_run s hs
    have q2 := small_run [] 32 (by simp) (by omega)
    obtain ⟨n, d, hn⟩ : ∃ n d, smR [] 32 = .tup [.int .i64 n, .bool d] := by unfold smR; split <;> exact ⟨_, _, rfl⟩
    obtain ⟨n', d', hn'⟩ : ∃ n d, rdA (sp s) = .tup [.int .u32 n, .bool d] := by unfold rdA; split <;> exact ⟨_, _, rfl⟩
    rw [hn] at q2
    rw [hn'] at q1
    simp (disch := (first | omega | (simp only [List.length_set, List.length_append, List.length_cons, List.length_nil, List.length_take, List.length_drop, List.length_map, List.length_replicate] at *; omega))) only [↓pvd, pv0, pv1, pv2, pv3, pv4, pv5, pv6, pv7, pvc0, pvc1, pvc2, buildC, evP, evR, evE, Pv.get, Pv.put, putO, bin2, int2, binB2, un1, cells, boundO, AV.flat, bv, rowOne, pvf, rvs_1, rvs_2, rvL, rvX, liveB, setParts, szOk, notStr, lim, dedup, place, ent, Pv.new, Pv.newVar, Pv.newVec, setCells, AV.ones, AV.one, resX, entry, layL, layC, layA, lay, List.map, List.foldl, List.replicate, List.length_replicate, ↓reduceIte, reduceCtorEq, Nat.reduceEqDiff, Nat.reduceLT, Nat.reduceLeDiff, Nat.reduceAdd, Nat.reduceSub, Nat.reduceMul, Nat.reducePow, Nat.reduceDiv, Nat.reduceMod, Nat.reduceBEq, Nat.reduceBNe, Int.reduceLT, Int.reduceLE, Int.reduceToNat, Int.reduceAdd, Int.reduceSub, Int.reduceMul, Int.reduceNeg, Int.reducePow, Int.reduceEq, Int.reduceNe, Int.reduceDiv, Int.reduceMod, Int.reduceTDiv, Int.reduceTMod, UInt8.reduceToNat, UInt8.reduceOfNat]
    refine awR_call q rfl rfl ?_
    simp (disch := (first | omega | (simp only [List.length_set, List.length_append, List.length_cons, List.length_nil, List.length_take, List.length_drop, List.length_map, List.length_replicate] at *; omega))) only [↓pvd, pv0, pv1, pv2, pv3, pv4, pv5, pv6, pv7, pvc0, pvc1, pvc2, buildC, evP, evR, evE, Pv.get, Pv.put, putO, bin2, int2, binB2, un1, cells, boundO, AV.flat, bv, rowOne, pvf, rvs_1, rvs_2, rvL, rvX, liveB, setParts, szOk, notStr, lim, dedup, place, ent, Pv.new, Pv.newVar, Pv.newVec, setCells, AV.ones, AV.one, resX, entry, layL, layC, layA, lay, List.map, List.foldl, List.replicate, List.length_replicate, ↓reduceIte, reduceCtorEq, Nat.reduceEqDiff, Nat.reduceLT, Nat.reduceLeDiff, Nat.reduceAdd, Nat.reduceSub, Nat.reduceMul, Nat.reducePow, Nat.reduceDiv, Nat.reduceMod, Nat.reduceBEq, Nat.reduceBNe, Int.reduceLT, Int.reduceLE, Int.reduceToNat, Int.reduceAdd, Int.reduceSub, Int.reduceMul, Int.reduceNeg, Int.reducePow, Int.reduceEq, Int.reduceNe, Int.reduceDiv, Int.reduceMod, Int.reduceTDiv, Int.reduceTMod, UInt8.reduceToNat, UInt8.reduceOfNat]
    refine awR_call q1 rfl rfl ?_
    simp (disch := (first | omega | (simp only [List.length_set, List.length_append, List.length_cons, List.length_nil, List.length_take, List.length_drop, List.length_map, List.length_replicate] at *; omega))) only [↓pvd, pv0, pv1, pv2, pv3, pv4, pv5, pv6, pv7, pvc0, pvc1, pvc2, buildC, evP, evR, evE, Pv.get, Pv.put, putO, bin2, int2, binB2, un1, cells, boundO, AV.flat, bv, rowOne, pvf, rvs_1, rvs_2, rvL, rvX, liveB, setParts, szOk, notStr, lim, dedup, place, ent, Pv.new, Pv.newVar, Pv.newVec, setCells, AV.ones, AV.one, resX, entry, layL, layC, layA, lay, List.map, List.foldl, List.replicate, List.length_replicate, ↓reduceIte, reduceCtorEq, Nat.reduceEqDiff, Nat.reduceLT, Nat.reduceLeDiff, Nat.reduceAdd, Nat.reduceSub, Nat.reduceMul, Nat.reducePow, Nat.reduceDiv, Nat.reduceMod, Nat.reduceBEq, Nat.reduceBNe, Int.reduceLT, Int.reduceLE, Int.reduceToNat, Int.reduceAdd, Int.reduceSub, Int.reduceMul, Int.reduceNeg, Int.reducePow, Int.reduceEq, Int.reduceNe, Int.reduceDiv, Int.reduceMod, Int.reduceTDiv, Int.reduceTMod, UInt8.reduceToNat, UInt8.reduceOfNat]
    refine awR_call q2 rfl rfl ?_
    simp (disch := (first | omega | (simp only [List.length_set, List.length_append, List.length_cons, List.length_nil, List.length_take, List.length_drop, List.length_map, List.length_replicate] at *; omega))) only [↓pvd, pv0, pv1, pv2, pv3, pv4, pv5, pv6, pv7, pvc0, pvc1, pvc2, buildC, evP, evR, evE, Pv.get, Pv.put, putO, bin2, int2, binB2, un1, cells, boundO, AV.flat, bv, rowOne, pvf, rvs_1, rvs_2, rvL, rvX, liveB, setParts, szOk, notStr, lim, dedup, place, ent, Pv.new, Pv.newVar, Pv.newVec, setCells, AV.ones, AV.one, resX, entry, layL, layC, layA, lay, List.map, List.foldl, List.replicate, List.length_replicate, ↓reduceIte, reduceCtorEq, Nat.reduceEqDiff, Nat.reduceLT, Nat.reduceLeDiff, Nat.reduceAdd, Nat.reduceSub, Nat.reduceMul, Nat.reducePow, Nat.reduceDiv, Nat.reduceMod, Nat.reduceBEq, Nat.reduceBNe, Int.reduceLT, Int.reduceLE, Int.reduceToNat, Int.reduceAdd, Int.reduceSub, Int.reduceMul, Int.reduceNeg, Int.reducePow, Int.reduceEq, Int.reduceNe, Int.reduceDiv, Int.reduceMod, Int.reduceTDiv, Int.reduceTMod, UInt8.reduceToNat, UInt8.reduceOfNat]
    (refine EndsX_rq [] ?_; simp (disch := (first | omega | (simp only [List.length_set, List.length_append, List.length_cons, List.length_nil, List.length_take, List.length_drop, List.length_map, List.length_replicate]; omega))) only [↓pvd, pv0, pv1, pv2, pv3, pv4, pv5, pv6, pv7, pvc0, pvc1, pvc2, buildC, evP, evR, evE, Pv.get, Pv.put, putO, bin2, int2, binB2, un1, cells, boundO, AV.flat, bv, rowOne, pvf, rvs_1, rvs_2, rvL, rvX, liveB, setParts, szOk, notStr, lim, dedup, place, ent, Pv.new, Pv.newVar, Pv.newVec, setCells, AV.ones, AV.one, resX, entry, layL, layC, layA, lay, List.map, List.foldl, List.replicate, List.length_replicate, ↓reduceIte, reduceCtorEq, Nat.reduceEqDiff, Nat.reduceLT, Nat.reduceLeDiff, Nat.reduceAdd, Nat.reduceSub, Nat.reduceMul, Nat.reducePow, Nat.reduceDiv, Nat.reduceMod, Nat.reduceBEq, Nat.reduceBNe, Int.reduceLT, Int.reduceLE, Int.reduceToNat, Int.reduceAdd, Int.reduceSub, Int.reduceMul, Int.reduceNeg, Int.reducePow, Int.reduceEq, Int.reduceNe, Int.reduceDiv, Int.reduceMod, Int.reduceTDiv, Int.reduceTMod, UInt8.reduceToNat, UInt8.reduceOfNat]; exact ⟨_, rfl, rfl, rfl⟩)
end Go.Proofs

set_option linter.unusedSimpArgs false
set_option linter.unusedVariables false
set_option maxHeartbeats 2000000
set_option maxRecDepth 20000
namespace Go.Proofs
open Go.Pv
end Go.Proofs

set_option linter.unusedSimpArgs false
set_option linter.unusedVariables false
set_option maxHeartbeats 2000000
set_option maxRecDepth 20000
namespace Go.Proofs
open Go.Pv
theorem works_run : Run Tryd.prog 9 [] (.bool true) := by
  refine Tryd.run9 (by simp) ?_
  unfold Tryd.c9
  have q := rp_run [49, 48, 46, 48, 46, 48, 46, 55, 47, 50, 52] (by simp)
  have e : rpF [49, 48, 46, 48, 46, 48, 46, 55, 47, 50, 52] = .tup [pfx 167772167 24, .bool true] := by kernel_rfl
  rw [e] at q
  have q1 := first_run 167772167 24 (by omega)
  have q2 := last_run 167772167 24 (by omega)
  have e1 : firstF 167772167 24 = 167772160 := by decide +kernel
  have e2 : lastF 167772167 24 = 167772415 := by decide +kernel
  rw [e1] at q1
  rw [e2] at q2
  have q3 := text_run 167772160 (by omega)
  have q4 := text_run 167772415 (by omega)
  have q5 := ptx_run 167772167 24 (by omega)
  have e3 : addrS 167772160 = [49, 48, 46, 48, 46, 48, 46, 48] := by decide +kernel
  have e4 : addrS 167772415 = [49, 48, 46, 48, 46, 48, 46, 50, 53, 53] := by decide +kernel
  have e5 : ptxS 167772167 24 = [49, 48, 46, 48, 46, 48, 46, 55, 47, 50, 52] := by decide +kernel
  rw [e3] at q3
  rw [e4] at q4
  rw [e5] at q5
  simp (disch := (first | omega | (simp only [List.length_set, List.length_append, List.length_cons, List.length_nil, List.length_take, List.length_drop, List.length_map, List.length_replicate] at *; omega))) only [↓pvd, pv0, pv1, pv2, pv3, pv4, pv5, pv6, pv7, pvc0, pvc1, pvc2, buildC, evP, evR, evE, Pv.get, Pv.put, putO, bin2, int2, binB2, un1, cells, boundO, AV.flat, bv, rowOne, pvf, rvs_1, rvs_2, rvL, rvX, liveB, setParts, szOk, notStr, lim, dedup, place, ent, Pv.new, Pv.newVar, Pv.newVec, setCells, AV.ones, AV.one, resX, entry, layL, layC, layA, lay, List.map, List.foldl, List.replicate, List.length_replicate, ↓reduceIte, reduceCtorEq, Nat.reduceEqDiff, Nat.reduceLT, Nat.reduceLeDiff, Nat.reduceAdd, Nat.reduceSub, Nat.reduceMul, Nat.reducePow, Nat.reduceDiv, Nat.reduceMod, Nat.reduceBEq, Nat.reduceBNe, Int.reduceLT, Int.reduceLE, Int.reduceToNat, Int.reduceAdd, Int.reduceSub, Int.reduceMul, Int.reduceNeg, Int.reducePow, Int.reduceEq, Int.reduceNe, Int.reduceDiv, Int.reduceMod, Int.reduceTDiv, Int.reduceTMod, UInt8.reduceToNat, UInt8.reduceOfNat]
  refine awR_call q rfl rfl ?_
  simp (disch := (first | omega | (simp only [List.length_set, List.length_append, List.length_cons, List.length_nil, List.length_take, List.length_drop, List.length_map, List.length_replicate] at *; omega))) only [↓pvd, pv0, pv1, pv2, pv3, pv4, pv5, pv6, pv7, pvc0, pvc1, pvc2, buildC, evP, evR, evE, Pv.get, Pv.put, putO, bin2, int2, binB2, un1, cells, boundO, AV.flat, bv, rowOne, pvf, rvs_1, rvs_2, rvL, rvX, liveB, setParts, szOk, notStr, lim, dedup, place, ent, Pv.new, Pv.newVar, Pv.newVec, setCells, AV.ones, AV.one, resX, entry, layL, layC, layA, lay, List.map, List.foldl, List.replicate, List.length_replicate, ↓reduceIte, reduceCtorEq, Nat.reduceEqDiff, Nat.reduceLT, Nat.reduceLeDiff, Nat.reduceAdd, Nat.reduceSub, Nat.reduceMul, Nat.reducePow, Nat.reduceDiv, Nat.reduceMod, Nat.reduceBEq, Nat.reduceBNe, Int.reduceLT, Int.reduceLE, Int.reduceToNat, Int.reduceAdd, Int.reduceSub, Int.reduceMul, Int.reduceNeg, Int.reducePow, Int.reduceEq, Int.reduceNe, Int.reduceDiv, Int.reduceMod, Int.reduceTDiv, Int.reduceTMod, UInt8.reduceToNat, UInt8.reduceOfNat]
  refine awR_call q1 rfl rfl ?_
  simp (disch := (first | omega | (simp only [List.length_set, List.length_append, List.length_cons, List.length_nil, List.length_take, List.length_drop, List.length_map, List.length_replicate] at *; omega))) only [↓pvd, pv0, pv1, pv2, pv3, pv4, pv5, pv6, pv7, pvc0, pvc1, pvc2, buildC, evP, evR, evE, Pv.get, Pv.put, putO, bin2, int2, binB2, un1, cells, boundO, AV.flat, bv, rowOne, pvf, rvs_1, rvs_2, rvL, rvX, liveB, setParts, szOk, notStr, lim, dedup, place, ent, Pv.new, Pv.newVar, Pv.newVec, setCells, AV.ones, AV.one, resX, entry, layL, layC, layA, lay, List.map, List.foldl, List.replicate, List.length_replicate, ↓reduceIte, reduceCtorEq, Nat.reduceEqDiff, Nat.reduceLT, Nat.reduceLeDiff, Nat.reduceAdd, Nat.reduceSub, Nat.reduceMul, Nat.reducePow, Nat.reduceDiv, Nat.reduceMod, Nat.reduceBEq, Nat.reduceBNe, Int.reduceLT, Int.reduceLE, Int.reduceToNat, Int.reduceAdd, Int.reduceSub, Int.reduceMul, Int.reduceNeg, Int.reducePow, Int.reduceEq, Int.reduceNe, Int.reduceDiv, Int.reduceMod, Int.reduceTDiv, Int.reduceTMod, UInt8.reduceToNat, UInt8.reduceOfNat]
  refine awR_call q3 rfl rfl ?_
  simp (disch := (first | omega | (simp only [List.length_set, List.length_append, List.length_cons, List.length_nil, List.length_take, List.length_drop, List.length_map, List.length_replicate] at *; omega))) only [↓pvd, pv0, pv1, pv2, pv3, pv4, pv5, pv6, pv7, pvc0, pvc1, pvc2, buildC, evP, evR, evE, Pv.get, Pv.put, putO, bin2, int2, binB2, un1, cells, boundO, AV.flat, bv, rowOne, pvf, rvs_1, rvs_2, rvL, rvX, liveB, setParts, szOk, notStr, lim, dedup, place, ent, Pv.new, Pv.newVar, Pv.newVec, setCells, AV.ones, AV.one, resX, entry, layL, layC, layA, lay, List.map, List.foldl, List.replicate, List.length_replicate, ↓reduceIte, reduceCtorEq, Nat.reduceEqDiff, Nat.reduceLT, Nat.reduceLeDiff, Nat.reduceAdd, Nat.reduceSub, Nat.reduceMul, Nat.reducePow, Nat.reduceDiv, Nat.reduceMod, Nat.reduceBEq, Nat.reduceBNe, Int.reduceLT, Int.reduceLE, Int.reduceToNat, Int.reduceAdd, Int.reduceSub, Int.reduceMul, Int.reduceNeg, Int.reducePow, Int.reduceEq, Int.reduceNe, Int.reduceDiv, Int.reduceMod, Int.reduceTDiv, Int.reduceTMod, UInt8.reduceToNat, UInt8.reduceOfNat]
  refine awR_call q2 rfl rfl ?_
  simp (disch := (first | omega | (simp only [List.length_set, List.length_append, List.length_cons, List.length_nil, List.length_take, List.length_drop, List.length_map, List.length_replicate] at *; omega))) only [↓pvd, pv0, pv1, pv2, pv3, pv4, pv5, pv6, pv7, pvc0, pvc1, pvc2, buildC, evP, evR, evE, Pv.get, Pv.put, putO, bin2, int2, binB2, un1, cells, boundO, AV.flat, bv, rowOne, pvf, rvs_1, rvs_2, rvL, rvX, liveB, setParts, szOk, notStr, lim, dedup, place, ent, Pv.new, Pv.newVar, Pv.newVec, setCells, AV.ones, AV.one, resX, entry, layL, layC, layA, lay, List.map, List.foldl, List.replicate, List.length_replicate, ↓reduceIte, reduceCtorEq, Nat.reduceEqDiff, Nat.reduceLT, Nat.reduceLeDiff, Nat.reduceAdd, Nat.reduceSub, Nat.reduceMul, Nat.reducePow, Nat.reduceDiv, Nat.reduceMod, Nat.reduceBEq, Nat.reduceBNe, Int.reduceLT, Int.reduceLE, Int.reduceToNat, Int.reduceAdd, Int.reduceSub, Int.reduceMul, Int.reduceNeg, Int.reducePow, Int.reduceEq, Int.reduceNe, Int.reduceDiv, Int.reduceMod, Int.reduceTDiv, Int.reduceTMod, UInt8.reduceToNat, UInt8.reduceOfNat]
  refine awR_call q4 rfl rfl ?_
  simp (disch := (first | omega | (simp only [List.length_set, List.length_append, List.length_cons, List.length_nil, List.length_take, List.length_drop, List.length_map, List.length_replicate] at *; omega))) only [↓pvd, pv0, pv1, pv2, pv3, pv4, pv5, pv6, pv7, pvc0, pvc1, pvc2, buildC, evP, evR, evE, Pv.get, Pv.put, putO, bin2, int2, binB2, un1, cells, boundO, AV.flat, bv, rowOne, pvf, rvs_1, rvs_2, rvL, rvX, liveB, setParts, szOk, notStr, lim, dedup, place, ent, Pv.new, Pv.newVar, Pv.newVec, setCells, AV.ones, AV.one, resX, entry, layL, layC, layA, lay, List.map, List.foldl, List.replicate, List.length_replicate, ↓reduceIte, reduceCtorEq, Nat.reduceEqDiff, Nat.reduceLT, Nat.reduceLeDiff, Nat.reduceAdd, Nat.reduceSub, Nat.reduceMul, Nat.reducePow, Nat.reduceDiv, Nat.reduceMod, Nat.reduceBEq, Nat.reduceBNe, Int.reduceLT, Int.reduceLE, Int.reduceToNat, Int.reduceAdd, Int.reduceSub, Int.reduceMul, Int.reduceNeg, Int.reducePow, Int.reduceEq, Int.reduceNe, Int.reduceDiv, Int.reduceMod, Int.reduceTDiv, Int.reduceTMod, UInt8.reduceToNat, UInt8.reduceOfNat]
  refine awR_call q5 rfl rfl ?_
  simp (disch := (first | omega | (simp only [List.length_set, List.length_append, List.length_cons, List.length_nil, List.length_take, List.length_drop, List.length_map, List.length_replicate] at *; omega))) only [↓pvd, pv0, pv1, pv2, pv3, pv4, pv5, pv6, pv7, pvc0, pvc1, pvc2, buildC, evP, evR, evE, Pv.get, Pv.put, putO, bin2, int2, binB2, un1, cells, boundO, AV.flat, bv, rowOne, pvf, rvs_1, rvs_2, rvL, rvX, liveB, setParts, szOk, notStr, lim, dedup, place, ent, Pv.new, Pv.newVar, Pv.newVec, setCells, AV.ones, AV.one, resX, entry, layL, layC, layA, lay, List.map, List.foldl, List.replicate, List.length_replicate, ↓reduceIte, reduceCtorEq, Nat.reduceEqDiff, Nat.reduceLT, Nat.reduceLeDiff, Nat.reduceAdd, Nat.reduceSub, Nat.reduceMul, Nat.reducePow, Nat.reduceDiv, Nat.reduceMod, Nat.reduceBEq, Nat.reduceBNe, Int.reduceLT, Int.reduceLE, Int.reduceToNat, Int.reduceAdd, Int.reduceSub, Int.reduceMul, Int.reduceNeg, Int.reducePow, Int.reduceEq, Int.reduceNe, Int.reduceDiv, Int.reduceMod, Int.reduceTDiv, Int.reduceTMod, UInt8.reduceToNat, UInt8.reduceOfNat]
  (refine Ends_rq [] ?_; simp (disch := (first | omega | (simp only [List.length_set, List.length_append, List.length_cons, List.length_nil, List.length_take, List.length_drop, List.length_map, List.length_replicate]; omega))) only [↓pvd, pv0, pv1, pv2, pv3, pv4, pv5, pv6, pv7, pvc0, pvc1, pvc2, buildC, evP, evR, evE, Pv.get, Pv.put, putO, bin2, int2, binB2, un1, cells, boundO, AV.flat, bv, rowOne, pvf, rvs_1, rvs_2, rvL, rvX, liveB, setParts, szOk, notStr, lim, dedup, place, ent, Pv.new, Pv.newVar, Pv.newVec, setCells, AV.ones, AV.one, resX, entry, layL, layC, layA, lay, List.map, List.foldl, List.replicate, List.length_replicate, ↓reduceIte, reduceCtorEq, Nat.reduceEqDiff, Nat.reduceLT, Nat.reduceLeDiff, Nat.reduceAdd, Nat.reduceSub, Nat.reduceMul, Nat.reducePow, Nat.reduceDiv, Nat.reduceMod, Nat.reduceBEq, Nat.reduceBNe, Int.reduceLT, Int.reduceLE, Int.reduceToNat, Int.reduceAdd, Int.reduceSub, Int.reduceMul, Int.reduceNeg, Int.reducePow, Int.reduceEq, Int.reduceNe, Int.reduceDiv, Int.reduceMod, Int.reduceTDiv, Int.reduceTMod, UInt8.reduceToNat, UInt8.reduceOfNat]; exact ⟨_, rfl, rfl, rfl⟩)
end Go.Proofs

set_option linter.unusedSimpArgs false
set_option linter.unusedVariables false
set_option maxHeartbeats 2000000
set_option maxRecDepth 20000
namespace Go.Proofs
open Go.Pv
theorem dat_pfx {y : AV} (h : DatV Tryd.prog 6 24 y) : ∃ a b : Int, y = pfx a b ∧ (0 ≤ a ∧ a ≤ 4294967295) ∧ (-9223372036854775808 ≤ b ∧ b ≤ 9223372036854775807) := by
  obtain ⟨cs, rfl, hl, hf⟩ := dat_struct Tryd.underlying24 h
  rw [show Tryd.prog.cellsOf 24 = 2 by kernel_rfl] at hl
  match cs, hl with
  | [x0, x1], _ =>
    simp only [List.mem_cons, List.not_mem_nil, or_false, forall_eq_or_imp, forall_eq] at hf
    obtain ⟨f0, f1⟩ := hf
    rw [show Tryd.prog.cellsOf 22 = 1 by kernel_rfl] at f0
    rw [show Tryd.prog.cellsOf 3 = 1 by kernel_rfl] at f1
    obtain ⟨m0, e0, w0⟩ := dat1_int Tryd.underlying22 f0
    obtain ⟨m1, e1, w1⟩ := dat1_int Tryd.underlying3 f1
    simp at e0 e1
    subst e0 e1
    exact ⟨m0, m1, rfl, wf_u32 w0, wf_i64 w1⟩
end Go.Proofs

set_option linter.unusedSimpArgs false
set_option linter.unusedVariables false
set_option maxHeartbeats 2000000
set_option maxRecDepth 20000
namespace Go.Proofs
open Go.Pv
theorem u8i_toNat {n : Int} (h : 0 ≤ n ∧ n ≤ 255) : ((u8i n).toNat : Int) = n := by rw [u8i_nat]; omega
theorem isD_u8i {n : Int} (h : 48 ≤ n ∧ n ≤ 57) : isD (u8i n) = true := decide_eq_true (by rw [u8i_toNat (by omega)]; exact h)
theorem u8i_ne {n : Int} {c : UInt8} (h : 0 ≤ n ∧ n ≤ 255) (hc : n ≠ (c.toNat : Int)) : u8i n ≠ c := fun e => hc (by rw [← e, u8i_toNat h])
theorem numS_ok (n : Int) (h : 0 ≤ n ∧ n < 1000) : okS (numS n) = true ∧ vS (numS n) = n ∧ ∀ c ∈ numS n, c ≠ 46 ∧ c ≠ 47 ∧ c ≠ 44 := by
  have x46 : ((46 : UInt8).toNat : Int) = 46 := rfl
  have x47 : ((47 : UInt8).toNat : Int) = 47 := rfl
  have x44 : ((44 : UInt8).toNat : Int) = 44 := rfl
  have x48 : ((48 : UInt8).toNat : Int) = 48 := rfl
  unfold numS
  by_cases h1 : n < 10
  · rw [if_pos h1]
    refine ⟨?_, ?_, ?_⟩
    · simp [okS, isD_u8i (n := 48 + n) (by omega)]
    · simp only [vS, vF, List.length_cons, List.length_nil, List.getElem!_cons_zero, u8i_toNat (n := 48 + n) (by omega)]; omega
    · intro c hc
      simp only [List.mem_cons, List.not_mem_nil, or_false] at hc
      rw [hc]
      exact ⟨u8i_ne (by omega) (by omega), u8i_ne (by omega) (by omega), u8i_ne (by omega) (by omega)⟩
  · rw [if_neg h1]
    by_cases h2 : n < 100
    · rw [if_pos h2]
      have hd1 := isD_u8i (n := 48 + n / 10) (by omega)
      have hd2 := isD_u8i (n := 48 + n % 10) (by omega)
      refine ⟨?_, ?_, ?_⟩
      · simp only [okS, List.all_cons, List.all_nil, hd1, hd2, Bool.and_true, List.length_cons, List.length_nil, List.getElem!_cons_zero]
        exact decide_eq_true ⟨by omega, by omega, fun h => absurd h.2 (u8i_ne (by omega) (by omega))⟩
      · simp only [vS, vF, List.length_cons, List.length_nil, List.getElem!_cons_zero, List.getElem!_cons_succ, u8i_toNat (n := 48 + n / 10) (by omega), u8i_toNat (n := 48 + n % 10) (by omega)]; omega
      · intro c hc
        simp only [List.mem_cons, List.not_mem_nil, or_false] at hc
        rcases hc with rfl | rfl <;> exact ⟨u8i_ne (by omega) (by omega), u8i_ne (by omega) (by omega), u8i_ne (by omega) (by omega)⟩
    · rw [if_neg h2]
      have hd1 := isD_u8i (n := 48 + n / 100) (by omega)
      have hd2 := isD_u8i (n := 48 + n / 10 % 10) (by omega)
      have hd3 := isD_u8i (n := 48 + n % 10) (by omega)
      refine ⟨?_, ?_, ?_⟩
      · simp only [okS, List.all_cons, List.all_nil, hd1, hd2, hd3, Bool.and_true, List.length_cons, List.length_nil, List.getElem!_cons_zero]
        exact decide_eq_true ⟨by omega, by omega, fun h => absurd h.2 (u8i_ne (by omega) (by omega))⟩
      · simp only [vS, vF, List.length_cons, List.length_nil, List.getElem!_cons_zero, List.getElem!_cons_succ, u8i_toNat (n := 48 + n / 100) (by omega), u8i_toNat (n := 48 + n / 10 % 10) (by omega), u8i_toNat (n := 48 + n % 10) (by omega)]; omega
      · intro c hc
        simp only [List.mem_cons, List.not_mem_nil, or_false] at hc
        rcases hc with rfl | rfl | rfl <;> exact ⟨u8i_ne (by omega) (by omega), u8i_ne (by omega) (by omega), u8i_ne (by omega) (by omega)⟩
theorem sp_one : ∀ (x : List UInt8), (∀ c ∈ x, c ≠ 46) → sp x = [x]
  | [], _ => rfl
  | c :: r, h => by
    rw [sp, if_neg (h c (by simp)), sp_one r fun d hd => h d (by simp [hd])]
    rfl
theorem sp_cons : ∀ (x r : List UInt8), (∀ c ∈ x, c ≠ 46) → sp (x ++ 46 :: r) = x :: sp r
  | [], r, _ => by simp [sp]
  | c :: x, r, h => by
    rw [List.cons_append, sp, if_neg (h c (by simp)), sp_cons x r fun d hd => h d (by simp [hd])]
    rfl
theorem ix_app (k : UInt8) : ∀ (x r : List UInt8), (∀ c ∈ x, c ≠ k) → Lib.indexByte (x ++ k :: r) k = x.length
  | [], r, _ => by simp [Lib.indexByte]
  | c :: x, r, h => by
    have ih := ix_app k x r fun d hd => h d (by simp [hd])
    rw [List.cons_append, Lib.indexByte, ih]
    have h0 : c ≠ k := h c (by simp)
    have h1 : ((x.length : Int) == -1) = false := by simp
    simp [h0, h1]
theorem addr_ok (a : Int) (h : 0 ≤ a ∧ a ≤ 4294967295) : okA (addrS a) ∧ accF (sp (addrS a)) = a ∧ ∀ c ∈ addrS a, c ≠ 47 := by
  have n1 := numS_ok (a / 16777216) (by omega)
  have n2 := numS_ok (a / 65536 % 256) (by omega)
  have n3 := numS_ok (a / 256 % 256) (by omega)
  have n4 := numS_ok (a % 256) (by omega)
  have e : sp (addrS a) = [numS (a / 16777216), numS (a / 65536 % 256), numS (a / 256 % 256), numS (a % 256)] := by
    unfold addrS
    simp only [List.append_assoc, List.cons_append, List.nil_append]
    rw [sp_cons _ _ fun c hc => (n1.2.2 c hc).1, sp_cons _ _ fun c hc => (n2.2.2 c hc).1, sp_cons _ _ fun c hc => (n3.2.2 c hc).1, sp_one _ fun c hc => (n4.2.2 c hc).1]
  refine ⟨?_, ?_, ?_⟩
  · unfold okA
    rw [e]
    refine ⟨rfl, ?_⟩
    simp only [List.all_cons, List.all_nil, goodP, n1.1, n2.1, n3.1, n4.1, n1.2.1, n2.2.1, n3.2.1, n4.2.1, Bool.true_and, Bool.and_true]
    rw [decide_eq_true (by omega), decide_eq_true (by omega), decide_eq_true (by omega), decide_eq_true (by omega)]
    rfl
  · rw [e]
    simp only [accF, List.foldl_cons, List.foldl_nil, n1.2.1, n2.2.1, n3.2.1, n4.2.1]
    omega
  · intro c hc
    unfold addrS at hc
    simp only [List.mem_append, List.mem_cons, List.not_mem_nil, or_false] at hc
    rcases hc with (((((hc | rfl) | hc) | rfl) | hc) | rfl) | hc
    · exact (n1.2.2 c hc).2.1
    · decide
    · exact (n2.2.2 c hc).2.1
    · decide
    · exact (n3.2.2 c hc).2.1
    · decide
    · exact (n4.2.2 c hc).2.1
theorem rp_ptx (a b : Int) (h : 0 ≤ a ∧ a ≤ 4294967295) : rpF (ptxS a b) = if 0 ≤ b ∧ b ≤ 32 then .tup [pfx a b, .bool true] else .tup [pfx 0 0, .bool false] := by
  have ha := addr_ok a h
  by_cases hb : 0 ≤ b ∧ b ≤ 32
  · rw [if_pos hb]
    have n := numS_ok b (by omega)
    unfold ptxS
    rw [if_pos hb]
    have e : addrS a ++ [47] ++ numS b = addrS a ++ 47 :: numS b := by simp
    rw [e]
    have hi := ix_app 47 (addrS a) (numS b) ha.2.2
    unfold rpF
    rw [hi, Int.toNat_natCast, List.take_left, show (addrS a ++ 47 :: numS b).drop ((addrS a).length + 1) = numS b by rw [← List.drop_drop, List.drop_left]; rfl]
    rw [if_pos ⟨by omega, ha.1, n.1, by rw [n.2.1]; exact hb.2⟩, ha.2.1, n.2.1]
  · rw [if_neg hb]
    unfold ptxS
    rw [if_neg hb]
    unfold rpF
    rw [if_neg (fun h => by simp [Lib.indexByte] at h)]
end Go.Proofs

set_option linter.unusedSimpArgs false
set_option linter.unusedVariables false
set_option maxHeartbeats 2000000
set_option maxRecDepth 20000
namespace Go.Proofs
open Go.Pv
theorem addrBack_run (a b : Int) (ha : 0 ≤ a ∧ a ≤ 4294967295) (hb : -9223372036854775808 ≤ b ∧ b ≤ 9223372036854775807) : Run Tryd.prog 4 [pfx a b] (.bool true) := by
  refine Tryd.run4 (by simp) ?_
  unfold Tryd.c4
  have q0 := works_run
  have l1 := addrS_len a
  have l2 : (ptxS a b).length ≤ 100 := by
    unfold ptxS
    split
    · have := numS_len b; simp; omega
    · simp
  have q1 := text_run a ha
  have q2 := read_run (addrS a) (by omega)
  have q3 := ptx_run a b ha
  have q4 := rp_run (ptxS a b) (by omega)
  have q5 := right_run a b
  have hk := addr_ok a ha
  rw [rdA_pos hk.1, hk.2.1] at q2
  rw [rp_ptx a b ha] at q4
  generalize addrS a = t at *
  generalize ptxS a b = t2 at *
  by_cases h : 0 ≤ b ∧ b ≤ 32
  · rw [if_pos h] at q4
    rw [show okb b = true from decide_eq_true h] at q5
    repeat' (first | (simp (disch := (first | omega | (simp only [List.length_set, List.length_append, List.length_cons, List.length_nil, List.length_take, List.length_drop, List.length_map, List.length_replicate]; omega))) only [↓pvd, pv0, pv1, pv2, pv3, pv4, pv5, pv6, pv7, pvc0, pvc1, pvc2, buildC, evP, evR, evE, Pv.get, Pv.put, putO, bin2, int2, binB2, un1, cells, boundO, AV.flat, bv, rowOne, pvf, rvs_1, rvs_2, rvL, rvX, liveB, setParts, szOk, notStr, lim, dedup, place, ent, Pv.new, Pv.newVar, Pv.newVec, setCells, AV.ones, AV.one, resX, entry, layL, layC, layA, lay, List.map, List.foldl, List.replicate, List.length_replicate, ↓reduceIte, reduceCtorEq, Nat.reduceEqDiff, Nat.reduceLT, Nat.reduceLeDiff, Nat.reduceAdd, Nat.reduceSub, Nat.reduceMul, Nat.reducePow, Nat.reduceDiv, Nat.reduceMod, Nat.reduceBEq, Nat.reduceBNe, Int.reduceLT, Int.reduceLE, Int.reduceToNat, Int.reduceAdd, Int.reduceSub, Int.reduceMul, Int.reduceNeg, Int.reducePow, Int.reduceEq, Int.reduceNe, Int.reduceDiv, Int.reduceMod, Int.reduceTDiv, Int.reduceTMod, UInt8.reduceToNat, UInt8.reduceOfNat, pfx, eqCells, Option.map_some, beq_self_eq_true, Bool.true_and, Bool.and_true, Bool.and_self, still]) | with_reducible refine condP_d (fun _ => ?_) (fun _ => ?_) | with_reducible refine guardP_d0 (fun _ => ?_) (fun _ => ?_) | with_reducible refine guardP_d1 (fun _ => ?_) (fun _ => ?_) | with_reducible refine condP_any ?_ ?_ | refine awR_call q0 rfl rfl ?_ | refine awR_callD q0 rfl rfl (fun _ => rfl) ?_ | refine awR_call q1 rfl rfl ?_ | refine awR_callD q1 rfl rfl (fun _ => rfl) ?_ | refine awR_call q2 rfl rfl ?_ | refine awR_callD q2 rfl rfl (fun _ => rfl) ?_ | refine awR_call q3 rfl rfl ?_ | refine awR_callD q3 rfl rfl (fun _ => rfl) ?_ | refine awR_call q4 rfl rfl ?_ | refine awR_callD q4 rfl rfl (fun _ => rfl) ?_ | refine awR_call q5 rfl rfl ?_ | refine awR_callD q5 rfl rfl (fun _ => rfl) ?_ | (refine Ends_rq [] ?_; simp (disch := (first | omega | (simp only [List.length_set, List.length_append, List.length_cons, List.length_nil, List.length_take, List.length_drop, List.length_map, List.length_replicate]; omega))) only [↓pvd, pv0, pv1, pv2, pv3, pv4, pv5, pv6, pv7, pvc0, pvc1, pvc2, buildC, evP, evR, evE, Pv.get, Pv.put, putO, bin2, int2, binB2, un1, cells, boundO, AV.flat, bv, rowOne, pvf, rvs_1, rvs_2, rvL, rvX, liveB, setParts, szOk, notStr, lim, dedup, place, ent, Pv.new, Pv.newVar, Pv.newVec, setCells, AV.ones, AV.one, resX, entry, layL, layC, layA, lay, List.map, List.foldl, List.replicate, List.length_replicate, ↓reduceIte, reduceCtorEq, Nat.reduceEqDiff, Nat.reduceLT, Nat.reduceLeDiff, Nat.reduceAdd, Nat.reduceSub, Nat.reduceMul, Nat.reducePow, Nat.reduceDiv, Nat.reduceMod, Nat.reduceBEq, Nat.reduceBNe, Int.reduceLT, Int.reduceLE, Int.reduceToNat, Int.reduceAdd, Int.reduceSub, Int.reduceMul, Int.reduceNeg, Int.reducePow, Int.reduceEq, Int.reduceNe, Int.reduceDiv, Int.reduceMod, Int.reduceTDiv, Int.reduceTMod, UInt8.reduceToNat, UInt8.reduceOfNat]; exact ⟨_, rfl, rfl, rfl⟩))
  · rw [if_neg h] at q4
    rw [show okb b = false from decide_eq_false h] at q5
    repeat' (first | (simp (disch := (first | omega | (simp only [List.length_set, List.length_append, List.length_cons, List.length_nil, List.length_take, List.length_drop, List.length_map, List.length_replicate]; omega))) only [↓pvd, pv0, pv1, pv2, pv3, pv4, pv5, pv6, pv7, pvc0, pvc1, pvc2, buildC, evP, evR, evE, Pv.get, Pv.put, putO, bin2, int2, binB2, un1, cells, boundO, AV.flat, bv, rowOne, pvf, rvs_1, rvs_2, rvL, rvX, liveB, setParts, szOk, notStr, lim, dedup, place, ent, Pv.new, Pv.newVar, Pv.newVec, setCells, AV.ones, AV.one, resX, entry, layL, layC, layA, lay, List.map, List.foldl, List.replicate, List.length_replicate, ↓reduceIte, reduceCtorEq, Nat.reduceEqDiff, Nat.reduceLT, Nat.reduceLeDiff, Nat.reduceAdd, Nat.reduceSub, Nat.reduceMul, Nat.reducePow, Nat.reduceDiv, Nat.reduceMod, Nat.reduceBEq, Nat.reduceBNe, Int.reduceLT, Int.reduceLE, Int.reduceToNat, Int.reduceAdd, Int.reduceSub, Int.reduceMul, Int.reduceNeg, Int.reducePow, Int.reduceEq, Int.reduceNe, Int.reduceDiv, Int.reduceMod, Int.reduceTDiv, Int.reduceTMod, UInt8.reduceToNat, UInt8.reduceOfNat, pfx, eqCells, Option.map_some, beq_self_eq_true, Bool.true_and, Bool.and_true, Bool.and_self, still]) | with_reducible refine condP_d (fun _ => ?_) (fun _ => ?_) | with_reducible refine guardP_d0 (fun _ => ?_) (fun _ => ?_) | with_reducible refine guardP_d1 (fun _ => ?_) (fun _ => ?_) | with_reducible refine condP_any ?_ ?_ | refine awR_call q0 rfl rfl ?_ | refine awR_callD q0 rfl rfl (fun _ => rfl) ?_ | refine awR_call q1 rfl rfl ?_ | refine awR_callD q1 rfl rfl (fun _ => rfl) ?_ | refine awR_call q2 rfl rfl ?_ | refine awR_callD q2 rfl rfl (fun _ => rfl) ?_ | refine awR_call q3 rfl rfl ?_ | refine awR_callD q3 rfl rfl (fun _ => rfl) ?_ | refine awR_call q4 rfl rfl ?_ | refine awR_callD q4 rfl rfl (fun _ => rfl) ?_ | refine awR_call q5 rfl rfl ?_ | refine awR_callD q5 rfl rfl (fun _ => rfl) ?_ | (refine Ends_rq [] ?_; simp (disch := (first | omega | (simp only [List.length_set, List.length_append, List.length_cons, List.length_nil, List.length_take, List.length_drop, List.length_map, List.length_replicate]; omega))) only [↓pvd, pv0, pv1, pv2, pv3, pv4, pv5, pv6, pv7, pvc0, pvc1, pvc2, buildC, evP, evR, evE, Pv.get, Pv.put, putO, bin2, int2, binB2, un1, cells, boundO, AV.flat, bv, rowOne, pvf, rvs_1, rvs_2, rvL, rvX, liveB, setParts, szOk, notStr, lim, dedup, place, ent, Pv.new, Pv.newVar, Pv.newVec, setCells, AV.ones, AV.one, resX, entry, layL, layC, layA, lay, List.map, List.foldl, List.replicate, List.length_replicate, ↓reduceIte, reduceCtorEq, Nat.reduceEqDiff, Nat.reduceLT, Nat.reduceLeDiff, Nat.reduceAdd, Nat.reduceSub, Nat.reduceMul, Nat.reducePow, Nat.reduceDiv, Nat.reduceMod, Nat.reduceBEq, Nat.reduceBNe, Int.reduceLT, Int.reduceLE, Int.reduceToNat, Int.reduceAdd, Int.reduceSub, Int.reduceMul, Int.reduceNeg, Int.reducePow, Int.reduceEq, Int.reduceNe, Int.reduceDiv, Int.reduceMod, Int.reduceTDiv, Int.reduceTMod, UInt8.reduceToNat, UInt8.reduceOfNat]; exact ⟨_, rfl, rfl, rfl⟩))
theorem addrBack_all : ∀ xs, DatL Tryd.prog 6 Tryd.f4.params.toList xs → Run Tryd.prog 4 xs (.bool true) := by
  intro xs h
  rw [show Tryd.f4.params.toList = [24] from rfl] at h
  obtain ⟨y1, rfl, h1⟩ := datL1 h
  obtain ⟨a, b, rfl, ha, hb⟩ := dat_pfx h1
  exact addrBack_run a b ha hb
end Go.Proofs
