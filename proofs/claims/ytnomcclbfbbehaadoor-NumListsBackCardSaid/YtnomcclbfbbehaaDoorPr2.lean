/- The proofs of what the functions of this seat do. -/
import Derived.Test.YtnomcclbfbbehaaDoorPr1
import Derived.Lib.Bytealg
import Derived.Lib.IndexLaws
set_option linter.unusedSimpArgs false
set_option linter.unusedVariables false
set_option maxHeartbeats 2000000
set_option maxRecDepth 20000
namespace Go.Proofs
open Go.Pv Go.RowKit Go.Shelf
attribute [local go_sem] Oper.semAt_some
theorem sp_mem : ∀ (s : List UInt8) (x : List UInt8), x ∈ sp s → x.length ≤ s.length
  | [], x, h => by simp [sp] at h; simp [h]
  | c :: r, x, h => by
    have ih := sp_mem r
    rw [show sp (c :: r) = if c = 46 then [] :: sp r else spJ [c] (sp r) by rw [sp]] at h
    split at h
    · rcases List.mem_cons.1 h with rfl | h
      · simp
      · have := ih x h; simp; omega
    · obtain ⟨p, q, e⟩ := List.exists_cons_of_ne_nil (sp_ne r)
      rw [e] at ih h
      simp only [spJ, List.mem_cons] at h ih
      rcases h with rfl | h
      · have := ih p (.inl rfl); simp; omega
      · have := ih x (.inr h); simp; omega
theorem box_new (W : World) (v : Value) (t : TypeId) : (W.alloc (.cells #[v] t)).heap[W.heap.size]? = some (.cells #[v] t (0, 0)) := World.alloc_heap_new W _
theorem cell_of {W : World} {B : Nat} {v : Value} {t : TypeId} (h : W.heap[B]? = some (.cells #[v] t (0, 0))) : W.cell? ⟨B, 0, none⟩ = some v := by simp [World.cell?, h]
theorem frozen_of {W : World} {B : Nat} {v : Value} {t : TypeId} (h : W.heap[B]? = some (.cells #[v] t (0, 0))) : W.frozen? ⟨B, 0, none⟩ = false := by simp [World.frozen?, h]
set_option maxRecDepth 100000 in
set_option maxHeartbeats 2000000 in
theorem split0_in (n : Nat) (a b : ByteArray) (w : World) : CallsIn Fence.wide n Tryd.prog 60 #[.string a, .string b, .int .i64 0] w fun e w' =>
    e = .returned (.func (.func 65) #[] #[.pointer (some ⟨w.heap.size + 1, 0, none⟩), .pointer (some ⟨w.heap.size, 0, none⟩), .pointer (some ⟨w.heap.size + 2, 0, none⟩)]) ∧ w' = ((w.alloc (.cells #[.string a] 9)).alloc (.cells #[.string b] 9)).alloc (.cells #[.int .i64 0] 3) := by
  refine callsIn_of_wp Tryd.func60 rfl trivial ?_ rfl
  simp only [Tryd.ntmps60, List.size_toArray, List.length_cons, List.length_nil, Nat.reduceAdd, Nat.reduceSub, Array.replicate_succ, Array.replicate_zero, List.push_toArray, List.append_toArray, List.nil_append, List.cons_append]
  gi_wp2
  go_ret
  exact ⟨rfl, rfl⟩
set_option maxRecDepth 100000 in
set_option maxHeartbeats 2000000 in
theorem split_in (n : Nat) (hn : 1 ≤ n) (a b : ByteArray) (w : World) : CallsIn Fence.wide n Tryd.prog 41 #[.string a, .string b] w fun e w' =>
    e = .returned (.func (.func 65) #[] #[.pointer (some ⟨w.heap.size + 1, 0, none⟩), .pointer (some ⟨w.heap.size, 0, none⟩), .pointer (some ⟨w.heap.size + 2, 0, none⟩)]) ∧ w' = ((w.alloc (.cells #[.string a] 9)).alloc (.cells #[.string b] 9)).alloc (.cells #[.int .i64 0] 3) := by
  refine callsIn_of_wp Tryd.func41 rfl trivial ?_ rfl
  simp only [Tryd.ntmps41, List.size_toArray, List.length_cons, List.length_nil, Nat.reduceAdd, Nat.reduceSub, Array.replicate_succ, Array.replicate_zero, List.push_toArray, List.append_toArray, List.nil_append, List.cons_append]
  gi_wp2_with (refine ⟨trivial, ?_⟩; gi_at_call 60; refine (split0_in _ a b _).mono ?_; rintro e w' ⟨rfl, rfl⟩)
  go_ret
  exact ⟨rfl, rfl⟩
set_option maxRecDepth 100000 in
set_option maxHeartbeats 2000000 in
theorem read_calls (s : List UInt8) (hs : s.length ≤ 100000) (w : World) : Calls Tryd.prog 10 #[tx s] w fun e W => (e = .returned (.tuple #[.int .u32 (if (sp s).length = 4 ∧ (sp s).all goodP = true then accF (sp s) else 0), .bool (decide ((sp s).length = 4 ∧ (sp s).all goodP = true))])) ∧ Below w.heap.size w W := by
  refine (callsIn_wide (n := 6)).1 ?_
  refine callsIn_of_wp_marks Tryd.func10 rfl trivial ?_ rfl
  simp only [Tryd.ntmps10, List.size_toArray, List.length_cons, List.length_nil, Nat.reduceAdd, Nat.reduceSub, Array.replicate_succ, Array.replicate_zero, List.push_toArray, List.append_toArray, List.nil_append, List.cons_append]
  gi_wp2
  refine wpIn_wide.2 (wp_scope_straight (wpIn_wide (n := 6).1 ?_))
  gi_wp2
  refine wpIn_label ?_
  have h61 : 1 ≤ 6 := by omega
  gi_wp2_with (refine ⟨trivial, ?_⟩; gi_at_call 41; refine (split_in _ (by omega) _ _ _).mono ?_; rintro e w' ⟨rfl, rfl⟩)
  obtain ⟨W0, hW0⟩ : ∃ W0, (((((w.alloc (.cells #[.int .u32 0] 22)).alloc (.cells #[.int .i64 0] 3)).alloc (.cells #[tx s] 9)).alloc (.cells #[.string ⟨#[46]⟩] 9)).alloc (.cells #[.int .i64 0] 3)) = W0 := ⟨_, rfl⟩
  have z0 : W0.heap.size = w.heap.size + 5 := by rw [← hW0]; simp
  have hB0 : Below w.heap.size w W0 := by
    rw [← hW0]
    exact (((((Below.refl _ w).alloc (Nat.le_refl _) _).alloc (by simp) _).alloc (by simp; omega) _).alloc (by simp; omega) _).alloc (by simp; omega) _
  obtain ⟨b0, b1, b2, b3, b4⟩ : W0.heap[w.heap.size]? = some (.cells #[.int .u32 0] 22 (0, 0)) ∧ W0.heap[w.heap.size + 1]? = some (.cells #[.int .i64 0] 3 (0, 0)) ∧ W0.heap[w.heap.size + 2]? = some (.cells #[tx s] 9 (0, 0)) ∧ W0.heap[w.heap.size + 3]? = some (.cells #[.string ⟨#[46]⟩] 9 (0, 0)) ∧ W0.heap[w.heap.size + 4]? = some (.cells #[.int .i64 0] 3 (0, 0)) := by
    rw [← hW0]
    have x0 := box_new w (.int .u32 0) 22
    generalize hw1 : w.alloc (.cells #[.int .u32 0] 22) = w1 at *
    have s1 : w1.heap.size = w.heap.size + 1 := by rw [← hw1]; simp
    have x1 := box_new w1 (.int .i64 0) 3
    generalize hw2 : w1.alloc (.cells #[.int .i64 0] 3) = w2 at *
    have s2 : w2.heap.size = w.heap.size + 2 := by rw [← hw2]; simp; omega
    have k2 : ∀ k, k < w1.heap.size → w2.heap[k]? = w1.heap[k]? := fun k hk => by rw [← hw2]; exact Below.heap_alloc _ _ _ hk
    have x2 := box_new w2 (tx s) 9
    generalize hw3 : w2.alloc (.cells #[tx s] 9) = w3 at *
    have s3 : w3.heap.size = w.heap.size + 3 := by rw [← hw3]; simp; omega
    have k3 : ∀ k, k < w2.heap.size → w3.heap[k]? = w2.heap[k]? := fun k hk => by rw [← hw3]; exact Below.heap_alloc _ _ _ hk
    have x3 := box_new w3 (.string ⟨#[46]⟩) 9
    generalize hw4 : w3.alloc (.cells #[.string ⟨#[46]⟩] 9) = w4 at *
    have s4 : w4.heap.size = w.heap.size + 4 := by rw [← hw4]; simp; omega
    have k4 : ∀ k, k < w3.heap.size → w4.heap[k]? = w3.heap[k]? := fun k hk => by rw [← hw4]; exact Below.heap_alloc _ _ _ hk
    have x4 := box_new w4 (.int .i64 0) 3
    generalize hw5 : w4.alloc (.cells #[.int .i64 0] 3) = w5 at *
    have k5 : ∀ k, k < w4.heap.size → w5.heap[k]? = w4.heap[k]? := fun k hk => by rw [← hw5]; exact Below.heap_alloc _ _ _ hk
    rw [s1] at x1
    rw [s2] at x2
    rw [s3] at x3
    rw [s4] at x4
    refine ⟨?_, ?_, ?_, ?_, x4⟩
    · rw [k5 _ (by omega), k4 _ (by omega), k3 _ (by omega), k2 _ (by omega)]; exact x0
    · rw [k5 _ (by omega), k4 _ (by omega), k3 _ (by omega)]; exact x1
    · rw [k5 _ (by omega), k4 _ (by omega)]; exact x2
    · rw [k5 _ (by omega)]; exact x3
  simp only [World.size_alloc, Nat.add_assoc, Nat.reduceAdd]
  rw [hW0]
  clear hW0
  refine wpIn_range (n := 6) rfl (by omega) (gf := 65) (lb := #[.pointer (some ⟨w.heap.size + 3, 0, none⟩), .pointer (some ⟨w.heap.size + 2, 0, none⟩), .pointer (some ⟨w.heap.size + 4, 0, none⟩)]) rfl trivial (enters_of Tryd.func65 (by kernel_rfl) rfl)
    (enc := tx) (n₁ := w.heap.size + 2) (xs := sp s) (by omega) ?iter
    (fun pre W => pre.all goodP = true ∧ pre.length ≤ 4 ∧ W.heap[w.heap.size]? = some (.cells #[.int .u32 (accF pre)] 22 (0, 0)) ∧ W.heap[w.heap.size + 1]? = some (.cells #[.int .i64 pre.length] 3 (0, 0)) ∧ Below w.heap.size w W)
    (fun id pre W => id = 0 ∧ (pre.all goodP = false ∨ pre.length = 5) ∧ (∃ v, W.heap[w.heap.size]? = some (.cells #[.int .u32 v] 22 (0, 0))) ∧ W.heap[w.heap.size + 1]? = some (.cells #[.int .i64 0] 3 (0, 0)) ∧ Below w.heap.size w W)
    ?hI ?hIx ⟨rfl, by simp, b0, b1, hB0⟩
    (fun x => { tmps := #[tx s, undef, .int .u32 0, .bool false, .pointer (some ⟨w.heap.size, 0, none⟩), .pointer (some ⟨w.heap.size + 1, 0, none⟩), tx x, undef, undef, tx s, .func (.func 65) #[] #[.pointer (some ⟨w.heap.size + 3, 0, none⟩), .pointer (some ⟨w.heap.size + 2, 0, none⟩), .pointer (some ⟨w.heap.size + 4, 0, none⟩)], tx x, undef, undef, undef, undef, undef, undef, undef, undef, undef, undef, undef, undef, undef, undef, undef, undef, undef, undef, undef, undef, undef], defers := [] }) ?assign ?body ?done ?stop
  case hI =>
    rintro pre A B ⟨h1, h2, h3, h4, h5⟩ hB
    exact ⟨h1, h2, (hB.block _ (by omega)).trans h3, (hB.block _ (by omega)).trans h4, h5.trans (hB.mono (by omega))⟩
  case hIx =>
    rintro id pre A B ⟨h1, h2, ⟨v, h3⟩, h4, h5⟩ hB
    exact ⟨h1, h2, ⟨v, (hB.block _ (by omega)).trans h3⟩, (hB.block _ (by omega)).trans h4, h5.trans (hB.mono (by omega))⟩
  case iter =>
    intro l J Jx W hsz hk hJ hY h0
    exact split1_in 5 l (w.heap.size + 2) (w.heap.size + 2) W0.heap.size (by omega) s hs J Jx ⟨by omega, by omega⟩ hJ hY W hsz
      ((hk _ (by omega) (by omega)).trans b2) ((hk _ (by omega) (by omega)).trans b3) ((hk _ (by omega) (by omega)).trans b4) h0
  case assign =>
    intro l x W K hK
    gi_wp2
    exact hK
  case body =>
    rintro l pre x W hxs ⟨hg, hl, g0, g1, hB⟩
    have hx := sp_mem s x hxs
    have hW := hB.size
    have hWz : w.heap.size + 1 < W.heap.size := (Array.getElem?_eq_some_iff.1 g1).1
    have hab := accF_b pre hl hg
    by_cases hgx : goodP x = true
    · have hox : okS x = true := by unfold goodP at hgx; simp only [Bool.and_eq_true] at hgx; exact hgx.1
      have hgb := goodP_b hgx
      have hsc := small_calls x (by omega) 
      rw [if_pos hox, hgx] at hsc
      by_cases hl3 : pre.length ≤ 3
      · have hab3 := hab.2.2 hl3
        gi_wp2_with (refine ⟨trivial, ?_⟩; gi_at_call 42; refine (CallsIn.inRound l (callsIn_wide.2 (hsc _))).mono ?_; rintro e W1 ⟨rfl, hB1⟩; have q0 := (hB1.block w.heap.size (by omega)).trans g0; have q1 := (hB1.block (w.heap.size + 1) (by omega)).trans g1; have k0 := cell_of q0; have k1 := cell_of q1; have f0 := frozen_of q0; have f1 := frozen_of q1)
        have hbits : bits BinOp.or IntKind.u32 (accF pre * 256) (vS x) = accF pre * 256 + vS x := or2_un (k := .u32) (j := 8) rfl (by omega) (by show _ < (2 : Int) ^ 32; omega) (by omega) (by simpa using (by omega : vS x < 256)) (by decide) (by simp)
        rw [hbits]
        refine ⟨by rw [World.size_setCell, World.size_setCell]; exact hB1.size, fun k h1 h2 => ?_, ?_, ?_, ?_, ?_, ?_⟩
        · rw [Below.heap_setCell _ _ _ _ (by show k ≠ w.heap.size; omega), Below.heap_setCell _ _ _ _ (by show k ≠ w.heap.size + 1; omega)]; exact hB1.block k h2
        · rw [List.all_append, hg]; simp [hgx]
        · simp; omega
        · rw [accF_snoc]; exact heap_set (by rw [Below.heap_setCell _ _ _ _ (by show w.heap.size ≠ w.heap.size + 1; omega)]; exact q0) _
        · rw [Below.heap_setCell _ _ _ _ (by show w.heap.size + 1 ≠ w.heap.size; omega), List.length_append]; exact heap_set q1 _
        · exact ((hB.trans (hB1.mono hW)).setCell (p := ⟨w.heap.size + 1, 0, none⟩) (by show w.heap.size ≤ w.heap.size + 1; omega) _).setCell (p := ⟨w.heap.size, 0, none⟩) (Nat.le_refl _) _
      · have hl4 : pre.length = 4 := by omega
        gi_wp2_with (refine ⟨trivial, ?_⟩; gi_at_call 42; refine (CallsIn.inRound l (callsIn_wide.2 (hsc _))).mono ?_; rintro e W1 ⟨rfl, hB1⟩; have q0 := (hB1.block w.heap.size (by omega)).trans g0; have q1 := (hB1.block (w.heap.size + 1) (by omega)).trans g1; have k0 := cell_of q0; have k1 := cell_of q1; have f0 := frozen_of q0; have f1 := frozen_of q1)
        refine ⟨by rw [World.size_setCell, World.size_setCell]; exact hB1.size, fun k h1 h2 => ?_, rfl, ?_, ⟨accF pre, ?_⟩, ?_, ?_⟩
        · rw [Below.heap_setCell _ _ _ _ (by show k ≠ w.heap.size + 1; omega), Below.heap_setCell _ _ _ _ (by show k ≠ w.heap.size + 1; omega)]; exact hB1.block k h2
        · exact .inr (by simp [hl4])
        · rw [Below.heap_setCell _ _ _ _ (by show w.heap.size ≠ w.heap.size + 1; omega), Below.heap_setCell _ _ _ _ (by show w.heap.size ≠ w.heap.size + 1; omega)]; exact q0
        · exact heap_set (heap_set q1 _) _
        · exact ((hB.trans (hB1.mono hW)).setCell (p := ⟨w.heap.size + 1, 0, none⟩) (by show w.heap.size ≤ w.heap.size + 1; omega) _).setCell (p := ⟨w.heap.size + 1, 0, none⟩) (by show w.heap.size ≤ w.heap.size + 1; omega) _
    · have hgx : goodP x = false := by simpa using hgx
      have hsc := small_calls x (by omega)
      rw [hgx] at hsc
      generalize (if okS x = true then vS x else 0) = z at hsc
      gi_wp2_with (refine ⟨trivial, ?_⟩; gi_at_call 42; refine (CallsIn.inRound l (callsIn_wide.2 (hsc _))).mono ?_; rintro e W1 ⟨rfl, hB1⟩; have q0 := (hB1.block w.heap.size (by omega)).trans g0; have q1 := (hB1.block (w.heap.size + 1) (by omega)).trans g1; have k0 := cell_of q0; have k1 := cell_of q1; have f0 := frozen_of q0; have f1 := frozen_of q1)
      refine ⟨by rw [World.size_setCell, World.size_setCell]; exact hB1.size, fun k h1 h2 => ?_, rfl, ?_, ⟨accF pre, ?_⟩, ?_, ?_⟩
      · rw [Below.heap_setCell _ _ _ _ (by show k ≠ w.heap.size + 1; omega), Below.heap_setCell _ _ _ _ (by show k ≠ w.heap.size + 1; omega)]; exact hB1.block k h2
      · first | exact .inl ⟨x, by simp, hgx⟩ | exact .inl (by rw [List.all_append]; simp [hgx])
      · rw [Below.heap_setCell _ _ _ _ (by show w.heap.size ≠ w.heap.size + 1; omega), Below.heap_setCell _ _ _ _ (by show w.heap.size ≠ w.heap.size + 1; omega)]; exact q0
      · exact heap_set (heap_set q1 _) _
      · exact ((hB.trans (hB1.mono hW)).setCell (p := ⟨w.heap.size + 1, 0, none⟩) (by show w.heap.size ≤ w.heap.size + 1; omega) _).setCell (p := ⟨w.heap.size + 1, 0, none⟩) (by show w.heap.size ≤ w.heap.size + 1; omega) _
  case done =>
    rintro D W hD ⟨hg, hl, g0, g1, hB⟩ hK
    have c0 := cell_of g0
    have c1 := cell_of g1
    have hend : Below w.heap.size w (W.putObj D (.deferred none)) := hB.trans (belowK_b (w := w) (Nat.le_refl _) W D _ _ (by omega) hK rfl rfl)
    by_cases h4 : (sp s).length = 4
    · gi_wp2
      refine ⟨by simp, .inl ⟨_, _, rfl, run_takeDeferred hK, ?_⟩⟩
      exact ⟨_, results_tmp2 rfl _ _ _, by simp [h4, hg], hend⟩
    · gi_wp2
      refine ⟨by simp, .inl ⟨_, _, rfl, run_takeDeferred hK, ?_⟩⟩
      exact ⟨_, results_tmp2 rfl _ _ _, by simp [h4], hend⟩
  case stop =>
    rintro D id pre W hD hpre ⟨rfl, hbad, ⟨v, g0⟩, g1, hB⟩ hK
    have c0 := cell_of g0
    have c1 := cell_of g1
    have hend : Below w.heap.size w (W.putObj D (.deferred none)) := hB.trans (belowK_b (w := w) (Nat.le_refl _) W D _ _ (by omega) hK rfl rfl)
    have hno : ¬ ((sp s).length = 4 ∧ (sp s).all goodP = true) := by
      obtain ⟨r, hr⟩ := hpre
      rintro ⟨h1, h2⟩
      rw [← hr] at h1 h2
      rw [List.all_append, Bool.and_eq_true] at h2
      rw [List.length_append] at h1
      rcases hbad with h | h
      · rw [h] at h2; cases h2.1
      · omega
    gi_wp2
    refine ⟨by simp, .inl ⟨_, _, rfl, run_takeDeferred hK, ?_⟩⟩
    exact ⟨_, results_tmp2 rfl _ _ _, by simp only [hno, if_false, decide_false]; rfl, hend⟩
end Go.Proofs

set_option linter.unusedSimpArgs false
set_option linter.unusedVariables false
set_option maxHeartbeats 2000000
set_option maxRecDepth 20000
namespace Go.Proofs
open Go.Pv
end Go.Proofs

set_option linter.unusedSimpArgs false
set_option linter.unusedVariables false
set_option maxHeartbeats 2000000
set_option maxRecDepth 20000
namespace Go.Proofs
open Go.Pv Go.RowKit
theorem read_run (s : List UInt8) (hs : s.length ≤ 100000) : Run Tryd.prog 10 [.str s] (rdA (sp s)) := by
  refine ⟨?_, ?_⟩
  · exact can_of Tryd.func10 rfl rfl
  intro w I os args hos ho
  obtain ⟨args⟩ := args
  generalize hxs : [AV.str s] = ys at ho
  cases ho with
  | nil => cases hxs
  | cons ha ho =>
    cases hxs
    cases ho with
    | nil =>
      unfold OwnC at ha
      obtain ⟨rfl, ha⟩ := ha
      cases ha
      refine (read_calls s hs w).mono ?_
      rintro e W ⟨rfl, hB⟩
      refine ⟨_, I, [], rfl, ?_, ⟨fun b h => ⟨Nat.lt_of_lt_of_le (hos.imm b h).1 hB.size, blks_nil b⟩, fun b h => absurd h (blks_nil b), .nil⟩, ⟨hB.os, hB.tape, hB.output, hB.size, fun b h _ => hB.block b h, fun b h => absurd h (blks_nil b), fun b h => h, fun b h => .inl h⟩⟩
      have key : ∀ (n : Int) (b : Bool), OwnT W I [] (.tup [.int .u32 n, .bool b]) (.tuple #[.int .u32 n, .bool b]) := fun n b =>
        ⟨#[.int .u32 n, .bool b], rfl, .cons (os := []) (os' := []) ⟨rfl, .int _ _⟩ (.cons (os := []) (os' := []) ⟨rfl, .bool _⟩ .nil)⟩
      unfold rdA
      by_cases h : (sp s).length = 4 ∧ (sp s).all goodP = true
      · rw [if_pos h, if_pos h, decide_eq_true h]; exact key _ _
      · rw [if_neg h, if_neg h, decide_eq_false h]; exact key _ _
end Go.Proofs

set_option linter.unusedSimpArgs false
set_option linter.unusedVariables false
set_option maxHeartbeats 2000000
set_option maxRecDepth 20000
namespace Go.Proofs
open Go.Pv
def okA (s : List UInt8) : Prop := (sp s).length = 4 ∧ (sp s).all goodP = true
instance (s : List UInt8) : Decidable (okA s) := by unfold okA; exact inferInstance
theorem rdA_pos {s : List UInt8} (h : okA s) : rdA (sp s) = .tup [.int .u32 (accF (sp s)), .bool true] := by unfold rdA; exact if_pos h
theorem rdA_neg {s : List UInt8} (h : ¬ okA s) : rdA (sp s) = .tup [.int .u32 0, .bool false] := by unfold rdA; exact if_neg h
end Go.Proofs

set_option linter.unusedSimpArgs false
set_option linter.unusedVariables false
set_option maxHeartbeats 2000000
set_option maxRecDepth 20000
namespace Go.Proofs
open Go.Pv
end Go.Proofs

set_option linter.unusedSimpArgs false
set_option linter.unusedVariables false
set_option maxHeartbeats 2000000
set_option maxRecDepth 20000
namespace Go.Proofs
open Go.Pv
end Go.Proofs

set_option linter.unusedSimpArgs false
set_option linter.unusedVariables false
set_option maxHeartbeats 2000000
set_option maxRecDepth 20000
namespace Go.Proofs
open Go.Pv
theorem u8i_toNat {n : Int} (h : 0 ≤ n ∧ n ≤ 255) : ((u8i n).toNat : Int) = n := by rw [u8i_nat]; omega
theorem isD_u8i {n : Int} (h : 48 ≤ n ∧ n ≤ 57) : isD (u8i n) = true := decide_eq_true (by rw [u8i_toNat (by omega)]; exact h)
theorem u8i_ne {n : Int} {c : UInt8} (h : 0 ≤ n ∧ n ≤ 255) (hc : n ≠ (c.toNat : Int)) : u8i n ≠ c := fun e => hc (by rw [← e, u8i_toNat h])
theorem numS_ok (n : Int) (h : 0 ≤ n ∧ n < 1000) : okS (numS n) = true ∧ vS (numS n) = n ∧ ∀ c ∈ numS n, c ≠ 46 ∧ c ≠ 47 ∧ c ≠ 44 := by
  have x46 : ((46 : UInt8).toNat : Int) = 46 := rfl
  have x47 : ((47 : UInt8).toNat : Int) = 47 := rfl
  have x44 : ((44 : UInt8).toNat : Int) = 44 := rfl
  have x48 : ((48 : UInt8).toNat : Int) = 48 := rfl
  unfold numS
  by_cases h1 : n < 10
  · rw [if_pos h1]
    refine ⟨?_, ?_, ?_⟩
    · simp [okS, isD_u8i (n := 48 + n) (by omega)]
    · simp only [vS, vF, List.length_cons, List.length_nil, List.getElem!_cons_zero, u8i_toNat (n := 48 + n) (by omega)]; omega
    · intro c hc
      simp only [List.mem_cons, List.not_mem_nil, or_false] at hc
      rw [hc]
      exact ⟨u8i_ne (by omega) (by omega), u8i_ne (by omega) (by omega), u8i_ne (by omega) (by omega)⟩
  · rw [if_neg h1]
    by_cases h2 : n < 100
    · rw [if_pos h2]
      have hd1 := isD_u8i (n := 48 + n / 10) (by omega)
      have hd2 := isD_u8i (n := 48 + n % 10) (by omega)
      refine ⟨?_, ?_, ?_⟩
      · simp only [okS, List.all_cons, List.all_nil, hd1, hd2, Bool.and_true, List.length_cons, List.length_nil, List.getElem!_cons_zero]
        exact decide_eq_true ⟨by omega, by omega, fun h => absurd h.2 (u8i_ne (by omega) (by omega))⟩
      · simp only [vS, vF, List.length_cons, List.length_nil, List.getElem!_cons_zero, List.getElem!_cons_succ, u8i_toNat (n := 48 + n / 10) (by omega), u8i_toNat (n := 48 + n % 10) (by omega)]; omega
      · intro c hc
        simp only [List.mem_cons, List.not_mem_nil, or_false] at hc
        rcases hc with rfl | rfl <;> exact ⟨u8i_ne (by omega) (by omega), u8i_ne (by omega) (by omega), u8i_ne (by omega) (by omega)⟩
    · rw [if_neg h2]
      have hd1 := isD_u8i (n := 48 + n / 100) (by omega)
      have hd2 := isD_u8i (n := 48 + n / 10 % 10) (by omega)
      have hd3 := isD_u8i (n := 48 + n % 10) (by omega)
      refine ⟨?_, ?_, ?_⟩
      · simp only [okS, List.all_cons, List.all_nil, hd1, hd2, hd3, Bool.and_true, List.length_cons, List.length_nil, List.getElem!_cons_zero]
        exact decide_eq_true ⟨by omega, by omega, fun h => absurd h.2 (u8i_ne (by omega) (by omega))⟩
      · simp only [vS, vF, List.length_cons, List.length_nil, List.getElem!_cons_zero, List.getElem!_cons_succ, u8i_toNat (n := 48 + n / 100) (by omega), u8i_toNat (n := 48 + n / 10 % 10) (by omega), u8i_toNat (n := 48 + n % 10) (by omega)]; omega
      · intro c hc
        simp only [List.mem_cons, List.not_mem_nil, or_false] at hc
        rcases hc with rfl | rfl | rfl <;> exact ⟨u8i_ne (by omega) (by omega), u8i_ne (by omega) (by omega), u8i_ne (by omega) (by omega)⟩
theorem sp_one : ∀ (x : List UInt8), (∀ c ∈ x, c ≠ 46) → sp x = [x]
  | [], _ => rfl
  | c :: r, h => by
    rw [sp, if_neg (h c (by simp)), sp_one r fun d hd => h d (by simp [hd])]
    rfl
theorem sp_cons : ∀ (x r : List UInt8), (∀ c ∈ x, c ≠ 46) → sp (x ++ 46 :: r) = x :: sp r
  | [], r, _ => by simp [sp]
  | c :: x, r, h => by
    rw [List.cons_append, sp, if_neg (h c (by simp)), sp_cons x r fun d hd => h d (by simp [hd])]
    rfl
theorem addr_ok (a : Int) (h : 0 ≤ a ∧ a ≤ 4294967295) : okA (addrS a) ∧ accF (sp (addrS a)) = a ∧ ∀ c ∈ addrS a, c ≠ 47 := by
  have n1 := numS_ok (a / 16777216) (by omega)
  have n2 := numS_ok (a / 65536 % 256) (by omega)
  have n3 := numS_ok (a / 256 % 256) (by omega)
  have n4 := numS_ok (a % 256) (by omega)
  have e : sp (addrS a) = [numS (a / 16777216), numS (a / 65536 % 256), numS (a / 256 % 256), numS (a % 256)] := by
    unfold addrS
    simp only [List.append_assoc, List.cons_append, List.nil_append]
    rw [sp_cons _ _ fun c hc => (n1.2.2 c hc).1, sp_cons _ _ fun c hc => (n2.2.2 c hc).1, sp_cons _ _ fun c hc => (n3.2.2 c hc).1, sp_one _ fun c hc => (n4.2.2 c hc).1]
  refine ⟨?_, ?_, ?_⟩
  · unfold okA
    rw [e]
    refine ⟨rfl, ?_⟩
    simp only [List.all_cons, List.all_nil, goodP, n1.1, n2.1, n3.1, n4.1, n1.2.1, n2.2.1, n3.2.1, n4.2.1, Bool.true_and, Bool.and_true]
    rw [decide_eq_true (by omega), decide_eq_true (by omega), decide_eq_true (by omega), decide_eq_true (by omega)]
    rfl
  · rw [e]
    simp only [accF, List.foldl_cons, List.foldl_nil, n1.2.1, n2.2.1, n3.2.1, n4.2.1]
    omega
  · intro c hc
    unfold addrS at hc
    simp only [List.mem_append, List.mem_cons, List.not_mem_nil, or_false] at hc
    rcases hc with (((((hc | rfl) | hc) | rfl) | hc) | rfl) | hc
    · exact (n1.2.2 c hc).2.1
    · decide
    · exact (n2.2.2 c hc).2.1
    · decide
    · exact (n3.2.2 c hc).2.1
    · decide
    · exact (n4.2.2 c hc).2.1
end Go.Proofs

set_option linter.unusedSimpArgs false
set_option linter.unusedVariables false
set_option maxHeartbeats 2000000
set_option maxRecDepth 20000
namespace Go.Proofs
open Go.Pv
/-- A text's parts between bytes 44. -/
def sc : List UInt8 → List (List UInt8)
  | [] => [[]]
  | c :: r => if c = 44 then [] :: sc r else spJ [c] (sc r)
theorem sc_index (s : List UInt8) : sc s = if 0 ≤ Lib.indexByte s 44 then s.take (Lib.indexByte s 44).toNat :: sc (s.drop ((Lib.indexByte s 44).toNat + 1)) else [s] := by
  induction s with
  | nil => simp [sc, Lib.indexByte]
  | cons c r ih =>
    have hb := ix_b r 44
    rw [show sc (c :: r) = if c = 44 then [] :: sc r else spJ [c] (sc r) by rw [sc], show Lib.indexByte (c :: r) 44 = if c == 44 then 0 else if Lib.indexByte r 44 == -1 then -1 else Lib.indexByte r 44 + 1 by rw [Lib.indexByte]]
    by_cases hc : c = 44
    · simp [hc]
    · simp only [hc, if_false, beq_iff_eq]
      rw [ih]
      by_cases hx : Lib.indexByte r 44 < 0
      · have : Lib.indexByte r 44 = -1 := by omega
        rw [if_neg (by omega), if_pos this]
        simp [spJ]
      · have e : (Lib.indexByte r 44 + 1).toNat = (Lib.indexByte r 44).toNat + 1 := by omega
        have h1 : ¬ Lib.indexByte r 44 = -1 := by omega
        rw [if_pos (by omega : 0 ≤ Lib.indexByte r 44), if_neg h1, if_pos (by omega : 0 ≤ Lib.indexByte r 44 + 1), e]
        simp [spJ]
theorem sc_one : ∀ (x : List UInt8), (∀ c ∈ x, c ≠ 44) → sc x = [x]
  | [], _ => rfl
  | c :: r, h => by
    rw [sc, if_neg (h c (by simp)), sc_one r fun d hd => h d (by simp [hd])]
    rfl
theorem sc_cons : ∀ (x r : List UInt8), (∀ c ∈ x, c ≠ 44) → sc (x ++ 44 :: r) = x :: sc r
  | [], r, _ => by simp [sc]
  | c :: x, r, h => by
    rw [List.cons_append, sc, if_neg (h c (by simp)), sc_cons x r fun d hd => h d (by simp [hd])]
    rfl
theorem str_nr (l : List UInt8) : (AV.str l).nr1 = true := rfl
theorem str_pl (l : List UInt8) : (AV.str l).pl = true := rfl
end Go.Proofs

set_option linter.unusedSimpArgs false
set_option linter.unusedVariables false
set_option maxHeartbeats 2000000
set_option maxRecDepth 20000
namespace Go.Proofs
namespace Nm
open Go.Pv
theorem u8b (c : UInt8) : c.toNat.toUInt8 = c := by simp
theorem ib_b (s : List UInt8) (c : UInt8) : -1 ≤ Lib.indexByte s c ∧ Lib.indexByte s c < s.length ∨ Lib.indexByte s c = -1 := by
  by_cases h : Lib.indexByte s c = -1
  · exact .inr h
  · have := Lib.indexByte_ge s c
    obtain ⟨o, ho⟩ : ∃ o : Nat, Lib.indexByte s c = o := ⟨_, (Int.toNat_of_nonneg (by omega)).symm⟩
    have := (Lib.indexByte_some ho).1
    have hl := (List.getElem?_eq_some_iff.1 this).1
    left; omega
theorem ixb_run (s : List UInt8) (c : UInt8) : Run Tryd.prog 74 [.str s, .int .u8 c.toNat] (.int .i64 (Lib.indexByte s c)) := by
  refine Tryd.run74 (by simp) ?_
  unfold Tryd.c74
  simp (disch := (first | omega | (simp only [List.length_set, List.length_append, List.length_cons, List.length_nil, List.length_take, List.length_drop, List.length_map, List.length_replicate]; omega))) only [↓pvd, pv0, pv1, pv2, pv3, pv4, pv5, pv6, pv7, pvc0, pvc1, pvc2, buildC, evP, evR, evE, Pv.get, Pv.put, putO, bin2, int2, binB2, un1, cells, boundO, AV.flat, bv, rowOne, pvf, rvs_1, rvs_2, rvL, rvX, liveB, setParts, szOk, notStr, lim, dedup, place, ent, Pv.new, Pv.newVar, Pv.newVec, setCells, AV.ones, AV.one, resX, entry, layL, layC, layA, lay, List.map, List.foldl, List.replicate, List.length_replicate, ↓reduceIte, reduceCtorEq, Nat.reduceEqDiff, Nat.reduceLT, Nat.reduceLeDiff, Nat.reduceAdd, Nat.reduceSub, Nat.reduceMul, Nat.reducePow, Nat.reduceDiv, Nat.reduceMod, Nat.reduceBEq, Nat.reduceBNe, Int.reduceLT, Int.reduceLE, Int.reduceToNat, Int.reduceAdd, Int.reduceSub, Int.reduceMul, Int.reduceNeg, Int.reducePow, Int.reduceEq, Int.reduceNe, Int.reduceDiv, Int.reduceMod, Int.reduceTDiv, Int.reduceTMod, UInt8.reduceToNat, UInt8.reduceOfNat, u8b]
  (refine Ends_rq [] ?_; simp (disch := (first | omega | (simp only [List.length_set, List.length_append, List.length_cons, List.length_nil, List.length_take, List.length_drop, List.length_map, List.length_replicate]; omega))) only [↓pvd, pv0, pv1, pv2, pv3, pv4, pv5, pv6, pv7, pvc0, pvc1, pvc2, buildC, evP, evR, evE, Pv.get, Pv.put, putO, bin2, int2, binB2, un1, cells, boundO, AV.flat, bv, rowOne, pvf, rvs_1, rvs_2, rvL, rvX, liveB, setParts, szOk, notStr, lim, dedup, place, ent, Pv.new, Pv.newVar, Pv.newVec, setCells, AV.ones, AV.one, resX, entry, layL, layC, layA, lay, List.map, List.foldl, List.replicate, List.length_replicate, ↓reduceIte, reduceCtorEq, Nat.reduceEqDiff, Nat.reduceLT, Nat.reduceLeDiff, Nat.reduceAdd, Nat.reduceSub, Nat.reduceMul, Nat.reducePow, Nat.reduceDiv, Nat.reduceMod, Nat.reduceBEq, Nat.reduceBNe, Int.reduceLT, Int.reduceLE, Int.reduceToNat, Int.reduceAdd, Int.reduceSub, Int.reduceMul, Int.reduceNeg, Int.reducePow, Int.reduceEq, Int.reduceNe, Int.reduceDiv, Int.reduceMod, Int.reduceTDiv, Int.reduceTMod, UInt8.reduceToNat, UInt8.reduceOfNat]; exact ⟨_, rfl, rfl, rfl⟩)
theorem index1_run (s : List UInt8) (c : UInt8) : Run Tryd.prog 68 [.str s, .str [c]] (.int .i64 (Lib.indexByte s c)) := by
  have q := ixb_run s c
  refine Tryd.run68 (by simp) ?_
  unfold Tryd.c68
  by_cases h : [c] = s
  · subst h
    have e : Lib.indexByte [c] c = 0 := by simp [Lib.indexByte]
    rw [e] at *
    repeat' (first | (simp (disch := (first | omega | (simp only [List.length_set, List.length_append, List.length_cons, List.length_nil, List.length_take, List.length_drop, List.length_map, List.length_replicate]; omega))) only [↓pvd, pv0, pv1, pv2, pv3, pv4, pv5, pv6, pv7, pvc0, pvc1, pvc2, buildC, evP, evR, evE, Pv.get, Pv.put, putO, bin2, int2, binB2, un1, cells, boundO, AV.flat, bv, rowOne, pvf, rvs_1, rvs_2, rvL, rvX, liveB, setParts, szOk, notStr, lim, dedup, place, ent, Pv.new, Pv.newVar, Pv.newVec, setCells, AV.ones, AV.one, resX, entry, layL, layC, layA, lay, List.map, List.foldl, List.replicate, List.length_replicate, ↓reduceIte, reduceCtorEq, Nat.reduceEqDiff, Nat.reduceLT, Nat.reduceLeDiff, Nat.reduceAdd, Nat.reduceSub, Nat.reduceMul, Nat.reducePow, Nat.reduceDiv, Nat.reduceMod, Nat.reduceBEq, Nat.reduceBNe, Int.reduceLT, Int.reduceLE, Int.reduceToNat, Int.reduceAdd, Int.reduceSub, Int.reduceMul, Int.reduceNeg, Int.reducePow, Int.reduceEq, Int.reduceNe, Int.reduceDiv, Int.reduceMod, Int.reduceTDiv, Int.reduceTMod, UInt8.reduceToNat, UInt8.reduceOfNat, still]) | with_reducible refine condP_d (fun _ => ?_) (fun _ => ?_) | with_reducible refine guardP_d0 (fun _ => ?_) (fun _ => ?_) | with_reducible refine guardP_d1 (fun _ => ?_) (fun _ => ?_) | with_reducible refine condP_any ?_ ?_ | refine awR_call q rfl rfl ?_ | refine awR_callD q rfl rfl (fun _ => rfl) ?_ | (refine Ends_rq [] ?_; simp (disch := (first | omega | (simp only [List.length_set, List.length_append, List.length_cons, List.length_nil, List.length_take, List.length_drop, List.length_map, List.length_replicate]; omega))) only [↓pvd, pv0, pv1, pv2, pv3, pv4, pv5, pv6, pv7, pvc0, pvc1, pvc2, buildC, evP, evR, evE, Pv.get, Pv.put, putO, bin2, int2, binB2, un1, cells, boundO, AV.flat, bv, rowOne, pvf, rvs_1, rvs_2, rvL, rvX, liveB, setParts, szOk, notStr, lim, dedup, place, ent, Pv.new, Pv.newVar, Pv.newVec, setCells, AV.ones, AV.one, resX, entry, layL, layC, layA, lay, List.map, List.foldl, List.replicate, List.length_replicate, ↓reduceIte, reduceCtorEq, Nat.reduceEqDiff, Nat.reduceLT, Nat.reduceLeDiff, Nat.reduceAdd, Nat.reduceSub, Nat.reduceMul, Nat.reducePow, Nat.reduceDiv, Nat.reduceMod, Nat.reduceBEq, Nat.reduceBNe, Int.reduceLT, Int.reduceLE, Int.reduceToNat, Int.reduceAdd, Int.reduceSub, Int.reduceMul, Int.reduceNeg, Int.reducePow, Int.reduceEq, Int.reduceNe, Int.reduceDiv, Int.reduceMod, Int.reduceTDiv, Int.reduceTMod, UInt8.reduceToNat, UInt8.reduceOfNat]; exact ⟨_, rfl, rfl, rfl⟩))
  · repeat' (first | (simp (disch := (first | omega | (simp only [List.length_set, List.length_append, List.length_cons, List.length_nil, List.length_take, List.length_drop, List.length_map, List.length_replicate]; omega))) only [↓pvd, pv0, pv1, pv2, pv3, pv4, pv5, pv6, pv7, pvc0, pvc1, pvc2, buildC, evP, evR, evE, Pv.get, Pv.put, putO, bin2, int2, binB2, un1, cells, boundO, AV.flat, bv, rowOne, pvf, rvs_1, rvs_2, rvL, rvX, liveB, setParts, szOk, notStr, lim, dedup, place, ent, Pv.new, Pv.newVar, Pv.newVec, setCells, AV.ones, AV.one, resX, entry, layL, layC, layA, lay, List.map, List.foldl, List.replicate, List.length_replicate, ↓reduceIte, reduceCtorEq, Nat.reduceEqDiff, Nat.reduceLT, Nat.reduceLeDiff, Nat.reduceAdd, Nat.reduceSub, Nat.reduceMul, Nat.reducePow, Nat.reduceDiv, Nat.reduceMod, Nat.reduceBEq, Nat.reduceBNe, Int.reduceLT, Int.reduceLE, Int.reduceToNat, Int.reduceAdd, Int.reduceSub, Int.reduceMul, Int.reduceNeg, Int.reducePow, Int.reduceEq, Int.reduceNe, Int.reduceDiv, Int.reduceMod, Int.reduceTDiv, Int.reduceTMod, UInt8.reduceToNat, UInt8.reduceOfNat, bv, still]) | with_reducible refine condP_d (fun _ => ?_) (fun _ => ?_) | with_reducible refine guardP_d0 (fun _ => ?_) (fun _ => ?_) | with_reducible refine guardP_d1 (fun _ => ?_) (fun _ => ?_) | with_reducible refine condP_any ?_ ?_ | refine awR_call q rfl rfl ?_ | refine awR_callD q rfl rfl (fun _ => rfl) ?_ | (refine Ends_rq [] ?_; simp (disch := (first | omega | (simp only [List.length_set, List.length_append, List.length_cons, List.length_nil, List.length_take, List.length_drop, List.length_map, List.length_replicate]; omega))) only [↓pvd, pv0, pv1, pv2, pv3, pv4, pv5, pv6, pv7, pvc0, pvc1, pvc2, buildC, evP, evR, evE, Pv.get, Pv.put, putO, bin2, int2, binB2, un1, cells, boundO, AV.flat, bv, rowOne, pvf, rvs_1, rvs_2, rvL, rvX, liveB, setParts, szOk, notStr, lim, dedup, place, ent, Pv.new, Pv.newVar, Pv.newVec, setCells, AV.ones, AV.one, resX, entry, layL, layC, layA, lay, List.map, List.foldl, List.replicate, List.length_replicate, ↓reduceIte, reduceCtorEq, Nat.reduceEqDiff, Nat.reduceLT, Nat.reduceLeDiff, Nat.reduceAdd, Nat.reduceSub, Nat.reduceMul, Nat.reducePow, Nat.reduceDiv, Nat.reduceMod, Nat.reduceBEq, Nat.reduceBNe, Int.reduceLT, Int.reduceLE, Int.reduceToNat, Int.reduceAdd, Int.reduceSub, Int.reduceMul, Int.reduceNeg, Int.reducePow, Int.reduceEq, Int.reduceNe, Int.reduceDiv, Int.reduceMod, Int.reduceTDiv, Int.reduceTMod, UInt8.reduceToNat, UInt8.reduceOfNat]; exact ⟨_, rfl, rfl, rfl⟩))
end Nm
end Go.Proofs

set_option linter.unusedSimpArgs false
set_option linter.unusedVariables false
set_option maxHeartbeats 2000000
set_option maxRecDepth 20000
namespace Go.Proofs
namespace Nm
open Go.Pv
/-- The text before the first such byte, what is behind it, and whether it is there. -/
def cutV (s : List UInt8) (c : UInt8) : List UInt8 × List UInt8 × Bool :=
  if Lib.indexByte s c = -1 then (s, [], false) else (s.take (Lib.indexByte s c).toNat, s.drop ((Lib.indexByte s c).toNat + 1), true)
theorem cutl_run (s : List UInt8) (c : UInt8) (hs : s.length ≤ 100000) : Run Tryd.prog 61 [.str s, .str [c]] (.tup [.str (cutV s c).1, .str (cutV s c).2.1, .bool (cutV s c).2.2]) := by
  have q := index1_run s c
  have hb := ib_b s c
  refine Tryd.run61 (by simp) ?_
  unfold Tryd.c61
  unfold cutV
  by_cases h : Lib.indexByte s c = -1
  · rw [if_pos h]
    rw [h] at q
    repeat' (first | (simp (disch := (first | omega | (simp only [List.length_set, List.length_append, List.length_cons, List.length_nil, List.length_take, List.length_drop, List.length_map, List.length_replicate]; omega))) only [↓pvd, pv0, pv1, pv2, pv3, pv4, pv5, pv6, pv7, pvc0, pvc1, pvc2, buildC, evP, evR, evE, Pv.get, Pv.put, putO, bin2, int2, binB2, un1, cells, boundO, AV.flat, bv, rowOne, pvf, rvs_1, rvs_2, rvL, rvX, liveB, setParts, szOk, notStr, lim, dedup, place, ent, Pv.new, Pv.newVar, Pv.newVec, setCells, AV.ones, AV.one, resX, entry, layL, layC, layA, lay, List.map, List.foldl, List.replicate, List.length_replicate, ↓reduceIte, reduceCtorEq, Nat.reduceEqDiff, Nat.reduceLT, Nat.reduceLeDiff, Nat.reduceAdd, Nat.reduceSub, Nat.reduceMul, Nat.reducePow, Nat.reduceDiv, Nat.reduceMod, Nat.reduceBEq, Nat.reduceBNe, Int.reduceLT, Int.reduceLE, Int.reduceToNat, Int.reduceAdd, Int.reduceSub, Int.reduceMul, Int.reduceNeg, Int.reducePow, Int.reduceEq, Int.reduceNe, Int.reduceDiv, Int.reduceMod, Int.reduceTDiv, Int.reduceTMod, UInt8.reduceToNat, UInt8.reduceOfNat, still]) | with_reducible refine condP_d (fun _ => ?_) (fun _ => ?_) | with_reducible refine guardP_d0 (fun _ => ?_) (fun _ => ?_) | with_reducible refine guardP_d1 (fun _ => ?_) (fun _ => ?_) | with_reducible refine condP_any ?_ ?_ | refine awR_call q rfl rfl ?_ | refine awR_callD q rfl rfl (fun _ => rfl) ?_ | (refine Ends_rq [] ?_; simp (disch := (first | omega | (simp only [List.length_set, List.length_append, List.length_cons, List.length_nil, List.length_take, List.length_drop, List.length_map, List.length_replicate]; omega))) only [↓pvd, pv0, pv1, pv2, pv3, pv4, pv5, pv6, pv7, pvc0, pvc1, pvc2, buildC, evP, evR, evE, Pv.get, Pv.put, putO, bin2, int2, binB2, un1, cells, boundO, AV.flat, bv, rowOne, pvf, rvs_1, rvs_2, rvL, rvX, liveB, setParts, szOk, notStr, lim, dedup, place, ent, Pv.new, Pv.newVar, Pv.newVec, setCells, AV.ones, AV.one, resX, entry, layL, layC, layA, lay, List.map, List.foldl, List.replicate, List.length_replicate, ↓reduceIte, reduceCtorEq, Nat.reduceEqDiff, Nat.reduceLT, Nat.reduceLeDiff, Nat.reduceAdd, Nat.reduceSub, Nat.reduceMul, Nat.reducePow, Nat.reduceDiv, Nat.reduceMod, Nat.reduceBEq, Nat.reduceBNe, Int.reduceLT, Int.reduceLE, Int.reduceToNat, Int.reduceAdd, Int.reduceSub, Int.reduceMul, Int.reduceNeg, Int.reducePow, Int.reduceEq, Int.reduceNe, Int.reduceDiv, Int.reduceMod, Int.reduceTDiv, Int.reduceTMod, UInt8.reduceToNat, UInt8.reduceOfNat]; exact ⟨_, rfl, rfl, rfl⟩))
  · rw [if_neg h]
    obtain ⟨o, ho⟩ : ∃ o : Nat, Lib.indexByte s c = o := ⟨_, (Int.toNat_of_nonneg (by omega)).symm⟩
    rw [ho] at q
    rw [ho]
    have : o < s.length := by omega
    clear h hb
    repeat' (first | (simp (disch := (first | omega | (simp only [List.length_set, List.length_append, List.length_cons, List.length_nil, List.length_take, List.length_drop, List.length_map, List.length_replicate]; omega))) only [↓pvd, pv0, pv1, pv2, pv3, pv4, pv5, pv6, pv7, pvc0, pvc1, pvc2, buildC, evP, evR, evE, Pv.get, Pv.put, putO, bin2, int2, binB2, un1, cells, boundO, AV.flat, bv, rowOne, pvf, rvs_1, rvs_2, rvL, rvX, liveB, setParts, szOk, notStr, lim, dedup, place, ent, Pv.new, Pv.newVar, Pv.newVec, setCells, AV.ones, AV.one, resX, entry, layL, layC, layA, lay, List.map, List.foldl, List.replicate, List.length_replicate, ↓reduceIte, reduceCtorEq, Nat.reduceEqDiff, Nat.reduceLT, Nat.reduceLeDiff, Nat.reduceAdd, Nat.reduceSub, Nat.reduceMul, Nat.reducePow, Nat.reduceDiv, Nat.reduceMod, Nat.reduceBEq, Nat.reduceBNe, Int.reduceLT, Int.reduceLE, Int.reduceToNat, Int.reduceAdd, Int.reduceSub, Int.reduceMul, Int.reduceNeg, Int.reducePow, Int.reduceEq, Int.reduceNe, Int.reduceDiv, Int.reduceMod, Int.reduceTDiv, Int.reduceTMod, UInt8.reduceToNat, UInt8.reduceOfNat, still]) | with_reducible refine condP_d (fun _ => ?_) (fun _ => ?_) | with_reducible refine guardP_d0 (fun _ => ?_) (fun _ => ?_) | with_reducible refine guardP_d1 (fun _ => ?_) (fun _ => ?_) | with_reducible refine condP_any ?_ ?_ | refine awR_call q rfl rfl ?_ | refine awR_callD q rfl rfl (fun _ => rfl) ?_ | (refine Ends_rq [] ?_; simp (disch := (first | omega | (simp only [List.length_set, List.length_append, List.length_cons, List.length_nil, List.length_take, List.length_drop, List.length_map, List.length_replicate]; omega))) only [↓pvd, pv0, pv1, pv2, pv3, pv4, pv5, pv6, pv7, pvc0, pvc1, pvc2, buildC, evP, evR, evE, Pv.get, Pv.put, putO, bin2, int2, binB2, un1, cells, boundO, AV.flat, bv, rowOne, pvf, rvs_1, rvs_2, rvL, rvX, liveB, setParts, szOk, notStr, lim, dedup, place, ent, Pv.new, Pv.newVar, Pv.newVec, setCells, AV.ones, AV.one, resX, entry, layL, layC, layA, lay, List.map, List.foldl, List.replicate, List.length_replicate, ↓reduceIte, reduceCtorEq, Nat.reduceEqDiff, Nat.reduceLT, Nat.reduceLeDiff, Nat.reduceAdd, Nat.reduceSub, Nat.reduceMul, Nat.reducePow, Nat.reduceDiv, Nat.reduceMod, Nat.reduceBEq, Nat.reduceBNe, Int.reduceLT, Int.reduceLE, Int.reduceToNat, Int.reduceAdd, Int.reduceSub, Int.reduceMul, Int.reduceNeg, Int.reducePow, Int.reduceEq, Int.reduceNe, Int.reduceDiv, Int.reduceMod, Int.reduceTDiv, Int.reduceTMod, UInt8.reduceToNat, UInt8.reduceOfNat]; exact ⟨_, rfl, rfl, rfl⟩))
theorem cut_run (s : List UInt8) (c : UInt8) (hs : s.length ≤ 100000) : Run Tryd.prog 44 [.str s, .str [c]] (.tup [.str (cutV s c).1, .str (cutV s c).2.1, .bool (cutV s c).2.2]) := by
  have q := cutl_run s c hs
  refine Tryd.run44 (by simp) ?_
  unfold Tryd.c44
  repeat' (first | (simp (disch := (first | omega | (simp only [List.length_set, List.length_append, List.length_cons, List.length_nil, List.length_take, List.length_drop, List.length_map, List.length_replicate]; omega))) only [↓pvd, pv0, pv1, pv2, pv3, pv4, pv5, pv6, pv7, pvc0, pvc1, pvc2, buildC, evP, evR, evE, Pv.get, Pv.put, putO, bin2, int2, binB2, un1, cells, boundO, AV.flat, bv, rowOne, pvf, rvs_1, rvs_2, rvL, rvX, liveB, setParts, szOk, notStr, lim, dedup, place, ent, Pv.new, Pv.newVar, Pv.newVec, setCells, AV.ones, AV.one, resX, entry, layL, layC, layA, lay, List.map, List.foldl, List.replicate, List.length_replicate, ↓reduceIte, reduceCtorEq, Nat.reduceEqDiff, Nat.reduceLT, Nat.reduceLeDiff, Nat.reduceAdd, Nat.reduceSub, Nat.reduceMul, Nat.reducePow, Nat.reduceDiv, Nat.reduceMod, Nat.reduceBEq, Nat.reduceBNe, Int.reduceLT, Int.reduceLE, Int.reduceToNat, Int.reduceAdd, Int.reduceSub, Int.reduceMul, Int.reduceNeg, Int.reducePow, Int.reduceEq, Int.reduceNe, Int.reduceDiv, Int.reduceMod, Int.reduceTDiv, Int.reduceTMod, UInt8.reduceToNat, UInt8.reduceOfNat, still]) | with_reducible refine condP_d (fun _ => ?_) (fun _ => ?_) | with_reducible refine guardP_d0 (fun _ => ?_) (fun _ => ?_) | with_reducible refine guardP_d1 (fun _ => ?_) (fun _ => ?_) | with_reducible refine condP_any ?_ ?_ | refine awR_call q rfl rfl ?_ | refine awR_callD q rfl rfl (fun _ => rfl) ?_ | (refine Ends_rq [] ?_; simp (disch := (first | omega | (simp only [List.length_set, List.length_append, List.length_cons, List.length_nil, List.length_take, List.length_drop, List.length_map, List.length_replicate]; omega))) only [↓pvd, pv0, pv1, pv2, pv3, pv4, pv5, pv6, pv7, pvc0, pvc1, pvc2, buildC, evP, evR, evE, Pv.get, Pv.put, putO, bin2, int2, binB2, un1, cells, boundO, AV.flat, bv, rowOne, pvf, rvs_1, rvs_2, rvL, rvX, liveB, setParts, szOk, notStr, lim, dedup, place, ent, Pv.new, Pv.newVar, Pv.newVec, setCells, AV.ones, AV.one, resX, entry, layL, layC, layA, lay, List.map, List.foldl, List.replicate, List.length_replicate, ↓reduceIte, reduceCtorEq, Nat.reduceEqDiff, Nat.reduceLT, Nat.reduceLeDiff, Nat.reduceAdd, Nat.reduceSub, Nat.reduceMul, Nat.reducePow, Nat.reduceDiv, Nat.reduceMod, Nat.reduceBEq, Nat.reduceBNe, Int.reduceLT, Int.reduceLE, Int.reduceToNat, Int.reduceAdd, Int.reduceSub, Int.reduceMul, Int.reduceNeg, Int.reducePow, Int.reduceEq, Int.reduceNe, Int.reduceDiv, Int.reduceMod, Int.reduceTDiv, Int.reduceTMod, UInt8.reduceToNat, UInt8.reduceOfNat]; exact ⟨_, rfl, rfl, rfl⟩))
end Nm
end Go.Proofs

set_option linter.unusedSimpArgs false
set_option linter.unusedVariables false
set_option maxHeartbeats 2000000
set_option maxRecDepth 20000
namespace Go.Proofs
namespace Nm
open Go.Pv
/-- A number's digits. -/
def digF (n : Nat) : List UInt8 := if n < 10 then [u8i (48 + n)] else digF (n / 10) ++ [u8i (48 + ((n % 10 : Nat) : Int))]
termination_by n
decreasing_by omega
theorem digF_lt {n : Nat} (h : n < 10) : digF n = [u8i (48 + n)] := by rw [digF, if_pos h]
theorem digF_ge {n : Nat} (h : 10 ≤ n) : digF n = digF (n / 10) ++ [u8i (48 + ((n % 10 : Nat) : Int))] := by rw [digF, if_neg (by omega)]
theorem digF_len : ∀ (n k : Nat), n < 10 ^ (k + 1) → (digF n).length ≤ k + 1
  | n, 0, h => by rw [digF_lt (by omega)]; simp
  | n, k + 1, h => by
    by_cases h1 : n < 10
    · rw [digF_lt h1]; simp
    · rw [digF_ge (by omega)]
      have := digF_len (n / 10) k (by rw [Nat.pow_succ] at h; omega)
      simp; omega
/-- A number's text. -/
def txF (n : Int) : List UInt8 := if n < 0 then 45 :: digF (-n).toNat else digF n.toNat
/-- The first i bytes, and the last i, are turned. -/
def rvF (L : List UInt8) (i : Nat) : List UInt8 := (List.range L.length).map fun j => if j < i ∨ L.length - 1 - i < j then L[L.length - 1 - j]! else L[j]!
theorem rvF_len (L : List UInt8) (i : Nat) : (rvF L i).length = L.length := by simp [rvF]
theorem rvF_get (L : List UInt8) (i j : Nat) (h : j < L.length) : (rvF L i)[j]! = if j < i ∨ L.length - 1 - i < j then L[L.length - 1 - j]! else L[j]! := by
  rw [getElem!_pos _ _ (by rw [rvF_len]; exact h)]
  simp [rvF]
theorem rvF_ext {a b : List UInt8} (hl : a.length = b.length) (h : ∀ j, j < a.length → a[j]! = b[j]!) : a = b :=
  List.ext_getElem hl fun j h1 h2 => by
    have := h j h1
    rwa [getElem!_pos a j h1, getElem!_pos b j h2] at this
theorem set_get {a : List UInt8} {i j : Nat} {x : UInt8} (h : j < a.length) : (a.set i x)[j]! = if i = j then x else a[j]! := by
  rw [getElem!_pos _ _ (by simpa using h), List.getElem_set]
  split
  · rfl
  · rw [getElem!_pos a j h]
theorem rvF_zero (L : List UInt8) : rvF L 0 = L := rvF_ext (rvF_len L 0) fun j h => by
  rw [rvF_len] at h
  rw [rvF_get L 0 j h, if_neg (by omega)]
theorem rvF_step (L : List UInt8) (i : Nat) (h : i < L.length - 1 - i) : ((rvF L i).set i (rvF L i)[L.length - 1 - i]!).set (L.length - 1 - i) (rvF L i)[i]! = rvF L (i + 1) :=
  rvF_ext (by simp [rvF_len]) fun j hj => by
    simp only [List.length_set, rvF_len] at hj
    have e1 := rvF_get L i (L.length - 1 - i) (by omega)
    have e2 := rvF_get L i i (by omega)
    have e3 := rvF_get L i j hj
    have e4 := rvF_get L (i + 1) j hj
    rw [set_get (by simp [rvF_len]; omega), set_get (by rw [rvF_len]; omega), e1, e2, e3, e4]
    by_cases h1 : L.length - 1 - i = j
    · rw [if_pos h1, if_neg (by omega), if_pos (by omega)]
      congr 1; omega
    · rw [if_neg h1]
      by_cases h2 : i = j
      · rw [if_pos h2, if_neg (by omega), if_pos (by omega), h2]
      · rw [if_neg h2]
        by_cases h3 : j < i ∨ L.length - 1 - i < j
        · rw [if_pos h3, if_pos (by omega)]
        · rw [if_neg h3, if_neg (by omega)]
theorem rvF_end (L : List UInt8) (i : Nat) (h : ¬ i < L.length - 1 - i) : rvF L i = L.reverse := rvF_ext (by simp [rvF_len]) fun j hj => by
  rw [rvF_len] at hj
  rw [rvF_get L i j hj, getElem!_pos L.reverse j (by simpa using hj), List.getElem_reverse]
  split
  · rw [getElem!_pos L _ (by omega)]
  · rw [getElem!_pos L _ (by omega)]
    congr 1; omega
theorem digF_ne (n : Nat) : digF n ≠ [] := by
  by_cases h : n < 10
  · rw [digF_lt h]; simp
  · rw [digF_ge (by omega)]; simp
/-- The digits that are told, and those to come. -/
def lpI (N : Nat) (a : Nat × Bool × List UInt8) : Prop := a.1 ≤ N ∧ (if a.2.1 = true then digF a.1 ++ a.2.2.reverse = digF N else a.2.2.reverse = digF N)
theorem text_run (n : Int) (h0 : -9223372036854775808 ≤ n) (h1 : n < 9223372036854775808) (hd : (digF n.natAbs).length ≤ 1000) : Run Tryd.prog 49 [.int .i64 n] (.str (txF n)) := by
  refine Tryd.run49 (by simp) ?_
  unfold Tryd.c49
  by_cases hn : n < 0
  · obtain ⟨N, hN⟩ : ∃ N : Nat, n = -(N : Int) := ⟨n.natAbs, by omega⟩
    have htx : txF n = 45 :: digF N := by unfold txF; rw [if_pos hn, show (-n).toNat = N by omega]
    have hd2 : (digF N).length ≤ 1000 := by rw [show n.natAbs = N by omega] at hd; exact hd
    rw [htx]
    have he : (0 - n % 18446744073709551616) % 18446744073709551616 = (N : Int) := by omega
    simp (disch := (first | omega | (simp only [List.length_set, List.length_append, List.length_cons, List.length_nil, List.length_take, List.length_drop, List.length_map, List.length_replicate]; omega))) only [↓pvd, pv0, pv1, pv2, pv3, pv4, pv5, pv6, pv7, pvc0, pvc1, pvc2, buildC, evP, evR, evE, Pv.get, Pv.put, putO, bin2, int2, binB2, un1, cells, boundO, AV.flat, bv, rowOne, pvf, rvs_1, rvs_2, rvL, rvX, liveB, setParts, szOk, notStr, lim, dedup, place, ent, Pv.new, Pv.newVar, Pv.newVec, setCells, AV.ones, AV.one, resX, entry, layL, layC, layA, lay, List.map, List.foldl, List.replicate, List.length_replicate, ↓reduceIte, reduceCtorEq, Nat.reduceEqDiff, Nat.reduceLT, Nat.reduceLeDiff, Nat.reduceAdd, Nat.reduceSub, Nat.reduceMul, Nat.reducePow, Nat.reduceDiv, Nat.reduceMod, Nat.reduceBEq, Nat.reduceBNe, Int.reduceLT, Int.reduceLE, Int.reduceToNat, Int.reduceAdd, Int.reduceSub, Int.reduceMul, Int.reduceNeg, Int.reducePow, Int.reduceEq, Int.reduceNe, Int.reduceDiv, Int.reduceMod, Int.reduceTDiv, Int.reduceTMod, UInt8.reduceToNat, UInt8.reduceOfNat, he]
    refine aw_loop (fun a : Nat × Bool × List UInt8 => ⟨[(0, .int .i64 n), (3, .vec 0 1 0 a.2.2.length), (4, .int .u64 a.1), (5, .bool a.2.1)], [some ⟨5, bys a.2.2, true⟩]⟩) (lpI N) (fun a => if a.2.1 = true then a.1 + 1 else 0) (N, true, []) ?_ ⟨Nat.le_refl _, by simp⟩ ?_
    · simp (disch := (first | omega | (simp only [List.length_set, List.length_append, List.length_cons, List.length_nil, List.length_take, List.length_drop, List.length_map, List.length_replicate] at *; omega))) only [↓pvd, pv0, pv1, pv2, pv3, pv4, pv5, pv6, pv7, pvc0, pvc1, pvc2, buildC, evP, evR, evE, Pv.get, Pv.put, putO, bin2, int2, binB2, un1, cells, boundO, AV.flat, bv, rowOne, pvf, rvs_1, rvs_2, rvL, rvX, liveB, setParts, szOk, notStr, lim, dedup, place, ent, Pv.new, Pv.newVar, Pv.newVec, setCells, AV.ones, AV.one, resX, entry, layL, layC, layA, lay, List.map, List.foldl, List.replicate, List.length_replicate, ↓reduceIte, reduceCtorEq, Nat.reduceEqDiff, Nat.reduceLT, Nat.reduceLeDiff, Nat.reduceAdd, Nat.reduceSub, Nat.reduceMul, Nat.reducePow, Nat.reduceDiv, Nat.reduceMod, Nat.reduceBEq, Nat.reduceBNe, Int.reduceLT, Int.reduceLE, Int.reduceToNat, Int.reduceAdd, Int.reduceSub, Int.reduceMul, Int.reduceNeg, Int.reducePow, Int.reduceEq, Int.reduceNe, Int.reduceDiv, Int.reduceMod, Int.reduceTDiv, Int.reduceTMod, UInt8.reduceToNat, UInt8.reduceOfNat]
    rintro ⟨m, b, s⟩ ⟨hm, hs⟩
    dsimp only at hm hs ⊢
    unfold Tryd.c49b0
    cases b with
    | true =>
      rw [if_pos rfl] at hs
      have hsl : s.length ≤ 1000 := by
        have := congrArg List.length hs
        simp at this; omega
      simp (disch := (first | omega | (simp only [List.length_set, List.length_append, List.length_cons, List.length_nil, List.length_take, List.length_drop, List.length_map, List.length_replicate] at *; omega))) only [↓pvd, pv0, pv1, pv2, pv3, pv4, pv5, pv6, pv7, pvc0, pvc1, pvc2, buildC, evP, evR, evE, Pv.get, Pv.put, putO, bin2, int2, binB2, un1, cells, boundO, AV.flat, bv, rowOne, pvf, rvs_1, rvs_2, rvL, rvX, liveB, setParts, szOk, notStr, lim, dedup, place, ent, Pv.new, Pv.newVar, Pv.newVec, setCells, AV.ones, AV.one, resX, entry, layL, layC, layA, lay, List.map, List.foldl, List.replicate, List.length_replicate, ↓reduceIte, reduceCtorEq, Nat.reduceEqDiff, Nat.reduceLT, Nat.reduceLeDiff, Nat.reduceAdd, Nat.reduceSub, Nat.reduceMul, Nat.reducePow, Nat.reduceDiv, Nat.reduceMod, Nat.reduceBEq, Nat.reduceBNe, Int.reduceLT, Int.reduceLE, Int.reduceToNat, Int.reduceAdd, Int.reduceSub, Int.reduceMul, Int.reduceNeg, Int.reducePow, Int.reduceEq, Int.reduceNe, Int.reduceDiv, Int.reduceMod, Int.reduceTDiv, Int.reduceTMod, UInt8.reduceToNat, UInt8.reduceOfNat]
      by_cases h10 : m < 10
      · rw [digF_lt h10] at hs
        refine ⟨(m / 10, false, s ++ [u8i (48 + (m : Int) % 10)]), ?_, ⟨?_, ?_⟩, ?_⟩ <;> dsimp only
        · simp; omega
        · omega
        · rw [if_neg (by simp), ← hs]; simp; congr 1; omega
        · simp
      · rw [digF_ge (by omega)] at hs
        refine ⟨(m / 10, true, s ++ [u8i (48 + (m : Int) % 10)]), ?_, ⟨?_, ?_⟩, ?_⟩ <;> dsimp only
        · simp; omega
        · omega
        · rw [if_pos rfl, ← hs]; simp
        · simp; omega
    | false =>
      rw [if_neg (by simp)] at hs
      have hsl : s.length = (digF N).length := by rw [← hs]; simp
      have hpos := List.length_pos_iff.2 (digF_ne N)
      have hL : (s ++ [45]).reverse = 45 :: digF N := by simp [hs]
      rw [← hL]
      simp (disch := (first | omega | (simp only [List.length_set, List.length_append, List.length_cons, List.length_nil, List.length_take, List.length_drop, List.length_map, List.length_replicate] at *; omega))) only [↓pvd, pv0, pv1, pv2, pv3, pv4, pv5, pv6, pv7, pvc0, pvc1, pvc2, buildC, evP, evR, evE, Pv.get, Pv.put, putO, bin2, int2, binB2, un1, cells, boundO, AV.flat, bv, rowOne, pvf, rvs_1, rvs_2, rvL, rvX, liveB, setParts, szOk, notStr, lim, dedup, place, ent, Pv.new, Pv.newVar, Pv.newVec, setCells, AV.ones, AV.one, resX, entry, layL, layC, layA, lay, List.map, List.foldl, List.replicate, List.length_replicate, ↓reduceIte, reduceCtorEq, Nat.reduceEqDiff, Nat.reduceLT, Nat.reduceLeDiff, Nat.reduceAdd, Nat.reduceSub, Nat.reduceMul, Nat.reducePow, Nat.reduceDiv, Nat.reduceMod, Nat.reduceBEq, Nat.reduceBNe, Int.reduceLT, Int.reduceLE, Int.reduceToNat, Int.reduceAdd, Int.reduceSub, Int.reduceMul, Int.reduceNeg, Int.reducePow, Int.reduceEq, Int.reduceNe, Int.reduceDiv, Int.reduceMod, Int.reduceTDiv, Int.reduceTMod, UInt8.reduceToNat, UInt8.reduceOfNat]
      rw [show bys s ++ [AV.int .u8 45] = bys (s ++ [45]) by simp [bys, bv], show s.length + 1 = (s ++ [45]).length by simp]
      have hLl : (s ++ [45]).length ≤ 1001 := by simp; omega
      have hLp : 0 < (s ++ [45]).length := by simp
      generalize s ++ [45] = L at *
      refine aw_loop (fun i : Nat => ⟨[(3, .vec 0 1 0 L.length), (6, .int .i64 i), (7, .int .i64 ((L.length : Int) - 1 - i))], [some ⟨5, bys (rvF L i), true⟩]⟩) (fun i => 2 * i ≤ L.length) (fun i => L.length - i) 0 ?_ (by omega) ?_
      · simp (disch := (first | omega | (simp only [List.length_set, List.length_append, List.length_cons, List.length_nil, List.length_take, List.length_drop, List.length_map, List.length_replicate]; omega))) only [↓pvd, pv0, pv1, pv2, pv3, pv4, pv5, pv6, pv7, pvc0, pvc1, pvc2, buildC, evP, evR, evE, Pv.get, Pv.put, putO, bin2, int2, binB2, un1, cells, boundO, AV.flat, bv, rowOne, pvf, rvs_1, rvs_2, rvL, rvX, liveB, setParts, szOk, notStr, lim, dedup, place, ent, Pv.new, Pv.newVar, Pv.newVec, setCells, AV.ones, AV.one, resX, entry, layL, layC, layA, lay, List.map, List.foldl, List.replicate, List.length_replicate, ↓reduceIte, reduceCtorEq, Nat.reduceEqDiff, Nat.reduceLT, Nat.reduceLeDiff, Nat.reduceAdd, Nat.reduceSub, Nat.reduceMul, Nat.reducePow, Nat.reduceDiv, Nat.reduceMod, Nat.reduceBEq, Nat.reduceBNe, Int.reduceLT, Int.reduceLE, Int.reduceToNat, Int.reduceAdd, Int.reduceSub, Int.reduceMul, Int.reduceNeg, Int.reducePow, Int.reduceEq, Int.reduceNe, Int.reduceDiv, Int.reduceMod, Int.reduceTDiv, Int.reduceTMod, UInt8.reduceToNat, UInt8.reduceOfNat, rvF_zero]
        try simp
      intro i hi
      unfold Tryd.c49b1
      have hrl := rvF_len L i
      by_cases hik : i < L.length - 1 - i
      · have hst := rvF_step L i hik
        have hk : ((L.length : Int) - 1 - i).toNat = L.length - 1 - i := by omega
        simp (disch := (first | omega | (simp only [List.length_set, List.length_append, List.length_cons, List.length_nil, List.length_take, List.length_drop, List.length_map, List.length_replicate]; omega))) only [↓pvd, pv0, pv1, pv2, pv3, pv4, pv5, pv6, pv7, pvc0, pvc1, pvc2, buildC, evP, evR, evE, Pv.get, Pv.put, putO, bin2, int2, binB2, un1, cells, boundO, AV.flat, bv, rowOne, pvf, rvs_1, rvs_2, rvL, rvX, liveB, setParts, szOk, notStr, lim, dedup, place, ent, Pv.new, Pv.newVar, Pv.newVec, setCells, AV.ones, AV.one, resX, entry, layL, layC, layA, lay, List.map, List.foldl, List.replicate, List.length_replicate, ↓reduceIte, reduceCtorEq, Nat.reduceEqDiff, Nat.reduceLT, Nat.reduceLeDiff, Nat.reduceAdd, Nat.reduceSub, Nat.reduceMul, Nat.reducePow, Nat.reduceDiv, Nat.reduceMod, Nat.reduceBEq, Nat.reduceBNe, Int.reduceLT, Int.reduceLE, Int.reduceToNat, Int.reduceAdd, Int.reduceSub, Int.reduceMul, Int.reduceNeg, Int.reducePow, Int.reduceEq, Int.reduceNe, Int.reduceDiv, Int.reduceMod, Int.reduceTDiv, Int.reduceTMod, UInt8.reduceToNat, UInt8.reduceOfNat, hrl, hk]
        rw [hst]
        refine ⟨i + 1, ?_, by omega, by omega⟩
        simp
        omega
      · have hst := rvF_end L i hik
        rw [← hst]
        simp (disch := (first | omega | (simp only [List.length_set, List.length_append, List.length_cons, List.length_nil, List.length_take, List.length_drop, List.length_map, List.length_replicate]; omega))) only [↓pvd, pv0, pv1, pv2, pv3, pv4, pv5, pv6, pv7, pvc0, pvc1, pvc2, buildC, evP, evR, evE, Pv.get, Pv.put, putO, bin2, int2, binB2, un1, cells, boundO, AV.flat, bv, rowOne, pvf, rvs_1, rvs_2, rvL, rvX, liveB, setParts, szOk, notStr, lim, dedup, place, ent, Pv.new, Pv.newVar, Pv.newVec, setCells, AV.ones, AV.one, resX, entry, layL, layC, layA, lay, List.map, List.foldl, List.replicate, List.length_replicate, ↓reduceIte, reduceCtorEq, Nat.reduceEqDiff, Nat.reduceLT, Nat.reduceLeDiff, Nat.reduceAdd, Nat.reduceSub, Nat.reduceMul, Nat.reducePow, Nat.reduceDiv, Nat.reduceMod, Nat.reduceBEq, Nat.reduceBNe, Int.reduceLT, Int.reduceLE, Int.reduceToNat, Int.reduceAdd, Int.reduceSub, Int.reduceMul, Int.reduceNeg, Int.reducePow, Int.reduceEq, Int.reduceNe, Int.reduceDiv, Int.reduceMod, Int.reduceTDiv, Int.reduceTMod, UInt8.reduceToNat, UInt8.reduceOfNat, hrl]
        (refine Ends_rq [] ?_; simp (disch := (first | omega | (simp only [List.length_set, List.length_append, List.length_cons, List.length_nil, List.length_take, List.length_drop, List.length_map, List.length_replicate]; omega))) only [↓pvd, pv0, pv1, pv2, pv3, pv4, pv5, pv6, pv7, pvc0, pvc1, pvc2, buildC, evP, evR, evE, Pv.get, Pv.put, putO, bin2, int2, binB2, un1, cells, boundO, AV.flat, bv, rowOne, pvf, rvs_1, rvs_2, rvL, rvX, liveB, setParts, szOk, notStr, lim, dedup, place, ent, Pv.new, Pv.newVar, Pv.newVec, setCells, AV.ones, AV.one, resX, entry, layL, layC, layA, lay, List.map, List.foldl, List.replicate, List.length_replicate, ↓reduceIte, reduceCtorEq, Nat.reduceEqDiff, Nat.reduceLT, Nat.reduceLeDiff, Nat.reduceAdd, Nat.reduceSub, Nat.reduceMul, Nat.reducePow, Nat.reduceDiv, Nat.reduceMod, Nat.reduceBEq, Nat.reduceBNe, Int.reduceLT, Int.reduceLE, Int.reduceToNat, Int.reduceAdd, Int.reduceSub, Int.reduceMul, Int.reduceNeg, Int.reducePow, Int.reduceEq, Int.reduceNe, Int.reduceDiv, Int.reduceMod, Int.reduceTDiv, Int.reduceTMod, UInt8.reduceToNat, UInt8.reduceOfNat]; exact ⟨_, rfl, rfl, rfl⟩)
  · obtain ⟨N, hN⟩ : ∃ N : Nat, n = (N : Int) := ⟨n.natAbs, by omega⟩
    have htx : txF n = digF N := by unfold txF; rw [if_neg hn, show n.toNat = N by omega]
    have hd2 : (digF N).length ≤ 1000 := by rw [show n.natAbs = N by omega] at hd; exact hd
    rw [htx]
    subst hN
    simp (disch := (first | omega | (simp only [List.length_set, List.length_append, List.length_cons, List.length_nil, List.length_take, List.length_drop, List.length_map, List.length_replicate] at *; omega))) only [↓pvd, pv0, pv1, pv2, pv3, pv4, pv5, pv6, pv7, pvc0, pvc1, pvc2, buildC, evP, evR, evE, Pv.get, Pv.put, putO, bin2, int2, binB2, un1, cells, boundO, AV.flat, bv, rowOne, pvf, rvs_1, rvs_2, rvL, rvX, liveB, setParts, szOk, notStr, lim, dedup, place, ent, Pv.new, Pv.newVar, Pv.newVec, setCells, AV.ones, AV.one, resX, entry, layL, layC, layA, lay, List.map, List.foldl, List.replicate, List.length_replicate, ↓reduceIte, reduceCtorEq, Nat.reduceEqDiff, Nat.reduceLT, Nat.reduceLeDiff, Nat.reduceAdd, Nat.reduceSub, Nat.reduceMul, Nat.reducePow, Nat.reduceDiv, Nat.reduceMod, Nat.reduceBEq, Nat.reduceBNe, Int.reduceLT, Int.reduceLE, Int.reduceToNat, Int.reduceAdd, Int.reduceSub, Int.reduceMul, Int.reduceNeg, Int.reducePow, Int.reduceEq, Int.reduceNe, Int.reduceDiv, Int.reduceMod, Int.reduceTDiv, Int.reduceTMod, UInt8.reduceToNat, UInt8.reduceOfNat]
    refine aw_loop (fun a : Nat × Bool × List UInt8 => ⟨[(0, .int .i64 N), (3, .vec 0 1 0 a.2.2.length), (4, .int .u64 a.1), (5, .bool a.2.1)], [some ⟨5, bys a.2.2, true⟩]⟩) (lpI N) (fun a => if a.2.1 = true then a.1 + 1 else 0) (N, true, []) ?_ ⟨Nat.le_refl _, by simp⟩ ?_
    · simp (disch := (first | omega | (simp only [List.length_set, List.length_append, List.length_cons, List.length_nil, List.length_take, List.length_drop, List.length_map, List.length_replicate] at *; omega))) only [↓pvd, pv0, pv1, pv2, pv3, pv4, pv5, pv6, pv7, pvc0, pvc1, pvc2, buildC, evP, evR, evE, Pv.get, Pv.put, putO, bin2, int2, binB2, un1, cells, boundO, AV.flat, bv, rowOne, pvf, rvs_1, rvs_2, rvL, rvX, liveB, setParts, szOk, notStr, lim, dedup, place, ent, Pv.new, Pv.newVar, Pv.newVec, setCells, AV.ones, AV.one, resX, entry, layL, layC, layA, lay, List.map, List.foldl, List.replicate, List.length_replicate, ↓reduceIte, reduceCtorEq, Nat.reduceEqDiff, Nat.reduceLT, Nat.reduceLeDiff, Nat.reduceAdd, Nat.reduceSub, Nat.reduceMul, Nat.reducePow, Nat.reduceDiv, Nat.reduceMod, Nat.reduceBEq, Nat.reduceBNe, Int.reduceLT, Int.reduceLE, Int.reduceToNat, Int.reduceAdd, Int.reduceSub, Int.reduceMul, Int.reduceNeg, Int.reducePow, Int.reduceEq, Int.reduceNe, Int.reduceDiv, Int.reduceMod, Int.reduceTDiv, Int.reduceTMod, UInt8.reduceToNat, UInt8.reduceOfNat]
    rintro ⟨m, b, s⟩ ⟨hm, hs⟩
    dsimp only at hm hs ⊢
    unfold Tryd.c49b0
    cases b with
    | true =>
      rw [if_pos rfl] at hs
      have hsl : s.length ≤ 1000 := by
        have := congrArg List.length hs
        simp at this; omega
      simp (disch := (first | omega | (simp only [List.length_set, List.length_append, List.length_cons, List.length_nil, List.length_take, List.length_drop, List.length_map, List.length_replicate] at *; omega))) only [↓pvd, pv0, pv1, pv2, pv3, pv4, pv5, pv6, pv7, pvc0, pvc1, pvc2, buildC, evP, evR, evE, Pv.get, Pv.put, putO, bin2, int2, binB2, un1, cells, boundO, AV.flat, bv, rowOne, pvf, rvs_1, rvs_2, rvL, rvX, liveB, setParts, szOk, notStr, lim, dedup, place, ent, Pv.new, Pv.newVar, Pv.newVec, setCells, AV.ones, AV.one, resX, entry, layL, layC, layA, lay, List.map, List.foldl, List.replicate, List.length_replicate, ↓reduceIte, reduceCtorEq, Nat.reduceEqDiff, Nat.reduceLT, Nat.reduceLeDiff, Nat.reduceAdd, Nat.reduceSub, Nat.reduceMul, Nat.reducePow, Nat.reduceDiv, Nat.reduceMod, Nat.reduceBEq, Nat.reduceBNe, Int.reduceLT, Int.reduceLE, Int.reduceToNat, Int.reduceAdd, Int.reduceSub, Int.reduceMul, Int.reduceNeg, Int.reducePow, Int.reduceEq, Int.reduceNe, Int.reduceDiv, Int.reduceMod, Int.reduceTDiv, Int.reduceTMod, UInt8.reduceToNat, UInt8.reduceOfNat]
      by_cases h10 : m < 10
      · rw [digF_lt h10] at hs
        refine ⟨(m / 10, false, s ++ [u8i (48 + (m : Int) % 10)]), ?_, ⟨?_, ?_⟩, ?_⟩ <;> dsimp only
        · simp; omega
        · omega
        · rw [if_neg (by simp), ← hs]; simp; congr 1; omega
        · simp
      · rw [digF_ge (by omega)] at hs
        refine ⟨(m / 10, true, s ++ [u8i (48 + (m : Int) % 10)]), ?_, ⟨?_, ?_⟩, ?_⟩ <;> dsimp only
        · simp; omega
        · omega
        · rw [if_pos rfl, ← hs]; simp
        · simp; omega
    | false =>
      rw [if_neg (by simp)] at hs
      have hsl : s.length = (digF N).length := by rw [← hs]; simp
      have hpos := List.length_pos_iff.2 (digF_ne N)
      rw [← hs]
      simp (disch := (first | omega | (simp only [List.length_set, List.length_append, List.length_cons, List.length_nil, List.length_take, List.length_drop, List.length_map, List.length_replicate] at *; omega))) only [↓pvd, pv0, pv1, pv2, pv3, pv4, pv5, pv6, pv7, pvc0, pvc1, pvc2, buildC, evP, evR, evE, Pv.get, Pv.put, putO, bin2, int2, binB2, un1, cells, boundO, AV.flat, bv, rowOne, pvf, rvs_1, rvs_2, rvL, rvX, liveB, setParts, szOk, notStr, lim, dedup, place, ent, Pv.new, Pv.newVar, Pv.newVec, setCells, AV.ones, AV.one, resX, entry, layL, layC, layA, lay, List.map, List.foldl, List.replicate, List.length_replicate, ↓reduceIte, reduceCtorEq, Nat.reduceEqDiff, Nat.reduceLT, Nat.reduceLeDiff, Nat.reduceAdd, Nat.reduceSub, Nat.reduceMul, Nat.reducePow, Nat.reduceDiv, Nat.reduceMod, Nat.reduceBEq, Nat.reduceBNe, Int.reduceLT, Int.reduceLE, Int.reduceToNat, Int.reduceAdd, Int.reduceSub, Int.reduceMul, Int.reduceNeg, Int.reducePow, Int.reduceEq, Int.reduceNe, Int.reduceDiv, Int.reduceMod, Int.reduceTDiv, Int.reduceTMod, UInt8.reduceToNat, UInt8.reduceOfNat]
      refine aw_loop (fun i : Nat => ⟨[(3, .vec 0 1 0 s.length), (6, .int .i64 i), (7, .int .i64 ((s.length : Int) - 1 - i))], [some ⟨5, bys (rvF s i), true⟩]⟩) (fun i => 2 * i ≤ s.length) (fun i => s.length - i) 0 ?_ (by omega) ?_
      · simp (disch := (first | omega | (simp only [List.length_set, List.length_append, List.length_cons, List.length_nil, List.length_take, List.length_drop, List.length_map, List.length_replicate]; omega))) only [↓pvd, pv0, pv1, pv2, pv3, pv4, pv5, pv6, pv7, pvc0, pvc1, pvc2, buildC, evP, evR, evE, Pv.get, Pv.put, putO, bin2, int2, binB2, un1, cells, boundO, AV.flat, bv, rowOne, pvf, rvs_1, rvs_2, rvL, rvX, liveB, setParts, szOk, notStr, lim, dedup, place, ent, Pv.new, Pv.newVar, Pv.newVec, setCells, AV.ones, AV.one, resX, entry, layL, layC, layA, lay, List.map, List.foldl, List.replicate, List.length_replicate, ↓reduceIte, reduceCtorEq, Nat.reduceEqDiff, Nat.reduceLT, Nat.reduceLeDiff, Nat.reduceAdd, Nat.reduceSub, Nat.reduceMul, Nat.reducePow, Nat.reduceDiv, Nat.reduceMod, Nat.reduceBEq, Nat.reduceBNe, Int.reduceLT, Int.reduceLE, Int.reduceToNat, Int.reduceAdd, Int.reduceSub, Int.reduceMul, Int.reduceNeg, Int.reducePow, Int.reduceEq, Int.reduceNe, Int.reduceDiv, Int.reduceMod, Int.reduceTDiv, Int.reduceTMod, UInt8.reduceToNat, UInt8.reduceOfNat, rvF_zero]
        try simp
      intro i hi
      unfold Tryd.c49b1
      have hrl := rvF_len s i
      by_cases hik : i < s.length - 1 - i
      · have hst := rvF_step s i hik
        have hk : ((s.length : Int) - 1 - i).toNat = s.length - 1 - i := by omega
        simp (disch := (first | omega | (simp only [List.length_set, List.length_append, List.length_cons, List.length_nil, List.length_take, List.length_drop, List.length_map, List.length_replicate]; omega))) only [↓pvd, pv0, pv1, pv2, pv3, pv4, pv5, pv6, pv7, pvc0, pvc1, pvc2, buildC, evP, evR, evE, Pv.get, Pv.put, putO, bin2, int2, binB2, un1, cells, boundO, AV.flat, bv, rowOne, pvf, rvs_1, rvs_2, rvL, rvX, liveB, setParts, szOk, notStr, lim, dedup, place, ent, Pv.new, Pv.newVar, Pv.newVec, setCells, AV.ones, AV.one, resX, entry, layL, layC, layA, lay, List.map, List.foldl, List.replicate, List.length_replicate, ↓reduceIte, reduceCtorEq, Nat.reduceEqDiff, Nat.reduceLT, Nat.reduceLeDiff, Nat.reduceAdd, Nat.reduceSub, Nat.reduceMul, Nat.reducePow, Nat.reduceDiv, Nat.reduceMod, Nat.reduceBEq, Nat.reduceBNe, Int.reduceLT, Int.reduceLE, Int.reduceToNat, Int.reduceAdd, Int.reduceSub, Int.reduceMul, Int.reduceNeg, Int.reducePow, Int.reduceEq, Int.reduceNe, Int.reduceDiv, Int.reduceMod, Int.reduceTDiv, Int.reduceTMod, UInt8.reduceToNat, UInt8.reduceOfNat, hrl, hk]
        rw [hst]
        refine ⟨i + 1, ?_, by omega, by omega⟩
        simp
        omega
      · have hst := rvF_end s i hik
        rw [← hst]
        simp (disch := (first | omega | (simp only [List.length_set, List.length_append, List.length_cons, List.length_nil, List.length_take, List.length_drop, List.length_map, List.length_replicate]; omega))) only [↓pvd, pv0, pv1, pv2, pv3, pv4, pv5, pv6, pv7, pvc0, pvc1, pvc2, buildC, evP, evR, evE, Pv.get, Pv.put, putO, bin2, int2, binB2, un1, cells, boundO, AV.flat, bv, rowOne, pvf, rvs_1, rvs_2, rvL, rvX, liveB, setParts, szOk, notStr, lim, dedup, place, ent, Pv.new, Pv.newVar, Pv.newVec, setCells, AV.ones, AV.one, resX, entry, layL, layC, layA, lay, List.map, List.foldl, List.replicate, List.length_replicate, ↓reduceIte, reduceCtorEq, Nat.reduceEqDiff, Nat.reduceLT, Nat.reduceLeDiff, Nat.reduceAdd, Nat.reduceSub, Nat.reduceMul, Nat.reducePow, Nat.reduceDiv, Nat.reduceMod, Nat.reduceBEq, Nat.reduceBNe, Int.reduceLT, Int.reduceLE, Int.reduceToNat, Int.reduceAdd, Int.reduceSub, Int.reduceMul, Int.reduceNeg, Int.reducePow, Int.reduceEq, Int.reduceNe, Int.reduceDiv, Int.reduceMod, Int.reduceTDiv, Int.reduceTMod, UInt8.reduceToNat, UInt8.reduceOfNat, hrl]
        (refine Ends_rq [] ?_; simp (disch := (first | omega | (simp only [List.length_set, List.length_append, List.length_cons, List.length_nil, List.length_take, List.length_drop, List.length_map, List.length_replicate]; omega))) only [↓pvd, pv0, pv1, pv2, pv3, pv4, pv5, pv6, pv7, pvc0, pvc1, pvc2, buildC, evP, evR, evE, Pv.get, Pv.put, putO, bin2, int2, binB2, un1, cells, boundO, AV.flat, bv, rowOne, pvf, rvs_1, rvs_2, rvL, rvX, liveB, setParts, szOk, notStr, lim, dedup, place, ent, Pv.new, Pv.newVar, Pv.newVec, setCells, AV.ones, AV.one, resX, entry, layL, layC, layA, lay, List.map, List.foldl, List.replicate, List.length_replicate, ↓reduceIte, reduceCtorEq, Nat.reduceEqDiff, Nat.reduceLT, Nat.reduceLeDiff, Nat.reduceAdd, Nat.reduceSub, Nat.reduceMul, Nat.reducePow, Nat.reduceDiv, Nat.reduceMod, Nat.reduceBEq, Nat.reduceBNe, Int.reduceLT, Int.reduceLE, Int.reduceToNat, Int.reduceAdd, Int.reduceSub, Int.reduceMul, Int.reduceNeg, Int.reducePow, Int.reduceEq, Int.reduceNe, Int.reduceDiv, Int.reduceMod, Int.reduceTDiv, Int.reduceTMod, UInt8.reduceToNat, UInt8.reduceOfNat]; exact ⟨_, rfl, rfl, rfl⟩)
end Nm
end Go.Proofs
