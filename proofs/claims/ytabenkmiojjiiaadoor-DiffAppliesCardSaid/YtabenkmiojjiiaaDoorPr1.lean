/- The proofs of what the functions of this seat do. -/
import Derived.Test.YtabenkmiojjiiaaDoorRxCodeA
/-
  The machine of plain values, 32: rows of plain elements; plain lists.
-/
set_option linter.unusedVariables false
namespace Go.Pv
theorem take_snoc {α : Type} [Inhabited α] {l : List α} {k : Nat} (h : k < l.length) : l.take (k + 1) = l.take k ++ [l[k]!] := by
  rw [List.take_succ_eq_append_getElem h]
  simp [h]
theorem take_next {α : Type} [Inhabited α] {l m : List α} {k : Nat} (h : l.take k = m.take k) (hl : k < l.length) (hm : k < m.length) (e : l[k]! = m[k]!) : l.take (k + 1) = m.take (k + 1) := by
  rw [take_snoc hl, take_snoc hm, h, e]
theorem take_ne {α : Type} [Inhabited α] {l m : List α} {k : Nat} (hl : k < l.length) (hm : k < m.length) (e : l[k]! ≠ m[k]!) : l ≠ m := by
  rintro rfl; exact e rfl
theorem take_full {α : Type} {l m : List α} {k : Nat} (h : l.take k = m.take k) (hl : l.length ≤ k) (hm : m.length ≤ k) : l = m := by
  rwa [List.take_of_length_le hl, List.take_of_length_le hm] at h
theorem snp_eptr {hp : Hp} {n id i off : Nat} : snap hp (n + 1) (.eptr id i off) = (ent hp id).bind fun e => (e.es[i]?).bind fun x => (snap hp n x).map fun x => .rptr x off := (rfl)
theorem rws_eptr {hp : Hp} {n id i off : Nat} : rows hp (n + 1) (.eptr id i off) = id :: (((ent hp id).bind fun e => e.es[i]?).toList).flatMap (rows hp n) := (rfl)
end Go.Pv

/-
  The machine of plain values, 34: loops of few rounds, run round by round.
-/
set_option linter.unusedVariables false
namespace Go.Pv
set_option linter.unusedSectionVars false
variable [Lq]
def unr (P : Program) (tr : Option Trim) (b : AC) (K : AE → St → Prop) : Nat → St → Prop
  | 0, _ => False
  | n + 1, σ => aw P b (andThen (fun σ' => unr P tr b K n (trim tr σ')) K) σ
def unrT (P : Program) (tr : Option Trim) (b : AC) (K : AE → St → Prop) (n : Nat) (σ : St) : Prop := unr P tr b K n (trim tr σ)
section
variable {P : Program} {tr : Option Trim} {b : AC} {K : AE → St → Prop} {n : Nat} {fr : Fr} {hp : Hp} {σ : St}
theorem unr_s : unr P tr b K (n + 1) ⟨fr, hp⟩ = aw P b (andThen (unrT P tr b K n) K) ⟨fr, hp⟩ := (rfl)
theorem unrT_e : unrT P tr b K n ⟨fr, hp⟩ = unr P tr b K n (trim tr ⟨fr, hp⟩) := (rfl)
/-- A loop of at most n rounds (the last one leaves it). -/
theorem aw_unroll (n : Nat) (h : unr P tr b K n (trim tr σ)) : aw P (.loop tr b) K σ := by
  refine ⟨fun n σ => unr P tr b K n σ, ⟨n, h⟩, ?_⟩
  rintro n σ hn
  cases n with
  | zero => exact hn.elim
  | succ n =>
    refine aw_mono b _ _ _ ?_ hn
    intro e σ' hx
    cases e with
    | normal => exact ⟨n, Nat.lt_succ_self n, hx⟩
    | exit i => exact hx
    | ret => exact hx
end
end Go.Pv

/-
  Lists of rows: what two have in common, the edits between them, and that no edits are fewer. (No program in sight.)
-/
namespace Go.Pv.Df
variable {α : Type}
def lcRow [DecidableEq α] (x : α) (f : List α → Nat) : List α → Nat
  | [] => 0
  | y :: ys => if x = y then f ys + 1 else max (f (y :: ys)) (lcRow x f ys)
/-- How many rows two lists have in common, in order. -/
def lc [DecidableEq α] : List α → List α → Nat
  | [] => fun _ => 0
  | x :: xs => lcRow x (lc xs)
theorem lc_nil [DecidableEq α] (ys : List α) : lc [] ys = 0 := rfl
theorem lc_nil' [DecidableEq α] : ∀ (xs : List α), lc xs [] = 0
  | [] => rfl
  | _ :: _ => rfl
theorem lc_cons [DecidableEq α] (x y : α) (xs ys : List α) : lc (x :: xs) (y :: ys) = if x = y then lc xs ys + 1 else max (lc xs (y :: ys)) (lc (x :: xs) ys) := rfl
theorem lc_low [DecidableEq α] : ∀ (n : Nat) (a b : List α), a.length + b.length ≤ n → ∃ s : List α, s.Sublist a ∧ s.Sublist b ∧ s.length = lc a b
  | n, [], b, _ => ⟨[], List.nil_sublist _, List.nil_sublist _, rfl⟩
  | n, x :: xs, [], _ => ⟨[], List.nil_sublist _, List.nil_sublist _, rfl⟩
  | 0, x :: xs, y :: ys, hn => by simp at hn
  | n + 1, x :: xs, y :: ys, hn => by
    simp only [List.length_cons] at hn
    rw [lc_cons]
    by_cases e : x = y
    · rw [if_pos e]
      obtain ⟨s, h1, h2, h3⟩ := lc_low n xs ys (by omega)
      subst e
      exact ⟨x :: s, h1.cons_cons x, h2.cons_cons x, by simp [h3]⟩
    · rw [if_neg e]
      obtain ⟨s, h1, h2, h3⟩ := lc_low n xs (y :: ys) (by simp only [List.length_cons]; omega)
      obtain ⟨t, k1, k2, k3⟩ := lc_low n (x :: xs) ys (by simp only [List.length_cons]; omega)
      by_cases hm : lc (x :: xs) ys ≤ lc xs (y :: ys)
      · exact ⟨s, h1.cons x, h2, by omega⟩
      · exact ⟨t, k1, k2.cons y, by omega⟩
/-- The edits that make the one list of the other one. -/
def ed [DecidableEq α] : List α → List α → List (Int × α)
  | [], [] => []
  | x :: xs, [] => (1, x) :: ed xs []
  | [], y :: ys => (2, y) :: ed [] ys
  | x :: xs, y :: ys => if x = y then (0, x) :: ed xs ys else if lc (x :: xs) ys ≤ lc xs (y :: ys) then (1, x) :: ed xs (y :: ys) else (2, y) :: ed (x :: xs) ys
termination_by a b => a.length + b.length
/-- How many change something. -/
def cnt (l : List (Int × α)) : Nat := (l.filter fun e => decide (e.1 ≠ 0)).length
/-- What edits make of a list; none: they do not fit. -/
def ap [DecidableEq α] : List (Int × α) → List α → Option (List α)
  | [], [] => some []
  | [], _ :: _ => none
  | (k, x) :: l, a =>
    if k = 2 then (ap l a).map (x :: ·) else
    if k = 0 ∨ k = 1 then
      match a with
      | [] => none
      | y :: a => if y = x then (if k = 0 then (ap l a).map (x :: ·) else ap l a) else none
    else none
end Go.Pv.Df

set_option linter.unusedSimpArgs false
set_option linter.unusedVariables false
set_option maxHeartbeats 2000000
set_option maxRecDepth 20000
namespace Go.Proofs
open Go.Pv Go.Pv.Df
theorem mapO_nr {hp : Hp} {n : Nat} {A : List AV} (h : A.all AV.nr1 = true) : mapO (snap hp (n + 2)) A = some A := mapO_id fun x hx => snap_nr1 (List.all_eq_true.1 h x hx)
theorem rows_nr {hp : Hp} {n : Nat} {A : List AV} (h : A.all AV.nr1 = true) : A.flatMap (rows hp (n + 2)) = [] := by
  have := rows_map (hp := hp) (n := n) (f := id) (l := A)
  rw [List.flatMap_eq_nil_iff]
  intro x hx
  have hn := List.all_eq_true.1 h x hx
  have := rows_map (hp := hp) (n := n) (f := fun _ : Unit => x) (l := [()]) (fun _ => hn)
  simpa using this
theorem mapO_app {f : AV → Option AV} : ∀ {A B : List AV}, mapO f (A ++ B) = (mapO f A).bind fun a => (mapO f B).map fun b => a ++ b
  | [], B => by simp [mapO]
  | x :: A, B => by
    rw [List.cons_append, mapO, mapO, mapO_app (A := A) (B := B)]
    cases f x with
    | none => rfl
    | some y =>
      cases mapO f A with
      | none => rfl
      | some a => cases mapO f B <;> rfl
abbrev nilV : AV := .sl 0 [] true
def rowV (r : List Bool) : AV := .sl 1 (r.map .bool) false
theorem row_nr (r : List Bool) : (rowV r).nr1 = true := rfl
theorem row_pl (r : List Bool) : (rowV r).pl = true := rfl
theorem rep_nr (n : Nat) : (List.replicate n nilV).all AV.nr1 = true := by
  rw [List.all_eq_true]; intro x hx; rw [(List.mem_replicate.1 hx).2]; rfl
theorem rep_pl (n : Nat) : (List.replicate n nilV).all AV.pl = true := by
  rw [List.all_eq_true]; intro x hx; rw [(List.mem_replicate.1 hx).2]; rfl
theorem zrep_pl (n : Nat) : (List.replicate n (AV.int .i64 0)).all AV.pl = true := by
  rw [List.all_eq_true]; intro x hx; rw [(List.mem_replicate.1 hx).2]; rfl
theorem map_nr {α : Type} {f : α → AV} {l : List α} (h : ∀ x, (f x).nr1 = true) : (l.map f).all AV.nr1 = true := by
  rw [List.all_eq_true]; intro x hx; obtain ⟨y, _, rfl⟩ := List.mem_map.1 hx; exact h y
/-- A row of the sizes. -/
def drow (a b : List (List UInt8)) (i : Nat) : List Int := (List.range (b.length + 1)).map fun c => ((lc (a.drop i) (b.drop c) : Nat) : Int)
theorem drow_end (a b : List (List UInt8)) : AV.int .i64 0 :: List.replicate b.length (AV.int .i64 0) = (drow a b a.length).map (.int .i64) := by
  rw [← List.replicate_succ]
  apply List.ext_getElem
  · simp [drow]
  · intro i h1 h2
    simp [drow, lc_nil]
/-- A row of the table. -/
def rowT (a b : List (List UInt8)) (i : Nat) : List Bool := (List.range b.length).map fun k => decide (lc (a.drop i) (b.drop (k + 1)) ≤ lc (a.drop (i + 1)) (b.drop k))
def tabT (a b : List (List UInt8)) (i : Nat) : List (List Bool) := (List.range (a.length - i)).map fun t => rowT a b (i + t)
def ckS (a b : List (List UInt8)) (f g : Bool) (i : Nat) (o : List Int) : St :=
  ⟨[(0, .sl 1 (a.map .str) f), (1, .sl 1 (b.map .str) g), (5, .eptr 0 0 0), (6, .eptr 2 0 0), (8, .int .i64 ((i : Int) - 1))],
   [some ⟨61, [.agg [.sl 1 (a.map .str) f, .sl 1 (b.map .str) g, .vec 1 1 0 a.length]], true⟩, some ⟨64, List.replicate i nilV ++ (tabT a b i).map rowV, true⟩,
    some ⟨63, [.agg [.vec 3 1 0 (b.length + 1), .vec 4 1 0 (b.length + 1)]], true⟩,
    some ⟨3, (if i % 2 = 0 then drow a b i else o).map (.int .i64), true⟩, some ⟨3, (if i % 2 = 0 then o else drow a b i).map (.int .i64), true⟩]⟩
theorem ckS_e (a b : List (List UInt8)) (f g : Bool) (i : Nat) (o : List Int) : ckS a b f g i o =
  ⟨[(0, .sl 1 (a.map .str) f), (1, .sl 1 (b.map .str) g), (5, .eptr 0 0 0), (6, .eptr 2 0 0), (8, .int .i64 ((i : Int) - 1))],
   [some ⟨61, [.agg [.sl 1 (a.map .str) f, .sl 1 (b.map .str) g, .vec 1 1 0 a.length]], true⟩, some ⟨64, List.replicate i nilV ++ (tabT a b i).map rowV, true⟩,
    some ⟨63, [.agg [.vec 3 1 0 (b.length + 1), .vec 4 1 0 (b.length + 1)]], true⟩,
    some ⟨3, (if i % 2 = 0 then drow a b i else o).map (.int .i64), true⟩, some ⟨3, (if i % 2 = 0 then o else drow a b i).map (.int .i64), true⟩]⟩ := rfl
theorem set_int {k : IntKind} {l : List Int} {i : Nat} {v : Int} : (l.map (AV.int k)).set i (.int k v) = (l.set i v).map (.int k) := (List.map_set ..).symm
theorem set_bool {l : List Bool} {i : Nat} {v : Bool} : (l.map AV.bool).set i (.bool v) = (l.set i v).map .bool := (List.map_set ..).symm
theorem int_pl (k : IntKind) (n : Int) : (AV.int k n).pl = true := rfl
theorem bool_nr (n : Bool) : (AV.bool n).nr1 = true := rfl
theorem bool_pl (n : Bool) : (AV.bool n).pl = true := rfl
theorem hand_eptr {hp : Hp} {id i off : Nat} : hand hp [[.snap]] (.eptr id i off) = (snap hp 6 (.eptr id i off)).map fun y => (y, hp, rows hp 6 (.eptr id i off)) := rfl
section
variable {A T : List AV} (hA : A.all AV.pl = true) (hT : T.all AV.pl = true) (hA2 : A.all AV.nr1 = true) (hT2 : T.all AV.nr1 = true)
include hA hT in
theorem mid_ids {hp : Hp} {n : Nat} {x : AV} : (A ++ x :: T).flatMap (idsOf hp (n + 2)) = idsOf hp (n + 2) x := by
  rw [List.flatMap_append, List.flatMap_cons, ids_all hA, ids_all hT]; simp
include hA hT in
theorem mid_ren {l : List Nat} {n : Nat} {x : AV} : (A ++ x :: T).map (renX l (n + 2)) = A ++ renX l (n + 2) x :: T := by
  rw [List.map_append, List.map_cons, ren_all hA, ren_all hT]
include hA2 hT2 in
theorem mid_snap {hp : Hp} {n : Nat} {x : AV} : mapO (snap hp (n + 2)) (A ++ x :: T) = (snap hp (n + 2) x).map fun y => A ++ y :: T := by
  rw [mapO_app, mapO, mapO_nr hA2, mapO_nr hT2]
  cases snap hp (n + 2) x <;> rfl
include hA2 hT2 in
theorem mid_rows {hp : Hp} {n : Nat} {x : AV} : (A ++ x :: T).flatMap (rows hp (n + 2)) = rows hp (n + 2) x := by
  rw [List.flatMap_append, List.flatMap_cons, rows_nr hA2, rows_nr hT2]; simp
end
theorem mid_set {A T : List AV} {x v : AV} {j : Nat} (h : A.length = j) : (A ++ x :: T).set j v = A ++ v :: T := by
  subst h
  rw [List.set_append_right _ _ (Nat.le_refl _)]; simp
theorem mid_get {A T : List AV} {x : AV} {j : Nat} (h : A.length = j) : (A ++ x :: T)[j]? = some x := by
  subst h
  rw [List.getElem?_append_right (Nat.le_refl _)]; simp
theorem lc_le (a b : List (List UInt8)) : lc a b ≤ a.length := by
  obtain ⟨s, h1, _, h3⟩ := lc_low _ a b (Nat.le_refl _)
  have := h1.length_le
  omega
set_option maxHeartbeats 8000000 in
theorem reckon_run (a b : List (List UInt8)) (f g : Bool) (ha : a.length ≤ 400) (hb : b.length ≤ 400) : Run Tryd.prog 20 [.sl 1 (a.map .str) f, .sl 1 (b.map .str) g] (.rptr (.agg [.sl 1 (a.map .str) f, .sl 1 (b.map .str) g, .sl 1 ((tabT a b 0).map rowV) false]) 0) := by
  refine Tryd.run20 (by simp) ?_
  unfold Tryd.c20
  simp (disch := (first | omega | (simp only [List.length_set, List.length_append, List.length_cons, List.length_nil, List.length_take, List.length_drop, List.length_map, List.length_replicate]; omega))) only [↓pvd, pv0, pv1, pv2, pv3, pv4, pv5, pv6, pv7, pvc0, pvc1, pvc2, buildC, evP, evR, evE, Pv.get, Pv.put, putO, bin2, int2, binB2, un1, cells, boundO, AV.flat, bv, rowOne, pvf, rvs_1, rvs_2, rvL, rvX, liveB, setParts, szOk, notStr, lim, dedup, place, ent, Pv.new, Pv.newVar, Pv.newVec, setCells, AV.ones, AV.one, resX, entry, layL, layC, layA, lay, List.map, List.foldl, List.replicate, List.length_replicate, ↓reduceIte, reduceCtorEq, Nat.reduceEqDiff, Nat.reduceLT, Nat.reduceLeDiff, Nat.reduceAdd, Nat.reduceSub, Nat.reduceMul, Nat.reducePow, Nat.reduceDiv, Nat.reduceMod, Nat.reduceBEq, Nat.reduceBNe, Int.reduceLT, Int.reduceLE, Int.reduceToNat, Int.reduceAdd, Int.reduceSub, Int.reduceMul, Int.reduceNeg, Int.reducePow, Int.reduceEq, Int.reduceNe, Int.reduceDiv, Int.reduceMod, Int.reduceTDiv, Int.reduceTMod, UInt8.reduceToNat, UInt8.reduceOfNat, List.length_map]
  refine aw_unroll 3 ?_
  simp (disch := (first | omega | (simp only [List.length_set, List.length_append, List.length_cons, List.length_nil, List.length_take, List.length_drop, List.length_map, List.length_replicate]; omega))) only [↓pvd, pv0, pv1, pv2, pv3, pv4, pv5, pv6, pv7, pvc0, pvc1, pvc2, buildC, evP, evR, evE, Pv.get, Pv.put, putO, bin2, int2, binB2, un1, cells, boundO, AV.flat, bv, rowOne, pvf, rvs_1, rvs_2, rvL, rvX, liveB, setParts, szOk, notStr, lim, dedup, place, ent, Pv.new, Pv.newVar, Pv.newVec, setCells, AV.ones, AV.one, resX, entry, layL, layC, layA, lay, List.map, List.foldl, List.replicate, List.length_replicate, ↓reduceIte, reduceCtorEq, Nat.reduceEqDiff, Nat.reduceLT, Nat.reduceLeDiff, Nat.reduceAdd, Nat.reduceSub, Nat.reduceMul, Nat.reducePow, Nat.reduceDiv, Nat.reduceMod, Nat.reduceBEq, Nat.reduceBNe, Int.reduceLT, Int.reduceLE, Int.reduceToNat, Int.reduceAdd, Int.reduceSub, Int.reduceMul, Int.reduceNeg, Int.reducePow, Int.reduceEq, Int.reduceNe, Int.reduceDiv, Int.reduceMod, Int.reduceTDiv, Int.reduceTMod, UInt8.reduceToNat, UInt8.reduceOfNat, unr_s, unrT_e, Tryd.c20b0, List.length_map, ids_all (rep_pl _), mapO_nr (rep_nr _), rows_nr (rep_nr _), ren_all (rep_pl _), List.getD_cons_zero, List.getD_cons_succ, ids_all (zrep_pl _), ren_all (zrep_pl _)]
  rw [drow_end a b]
  refine aw_loop (fun x : Nat × List Int => ckS a b f g x.1 x.2) (fun x => x.1 ≤ a.length ∧ x.2.length = b.length + 1) (fun x => x.1) (a.length, drow a b a.length) ?_ ⟨Nat.le_refl _, by simp [drow]⟩ ?_
  · have hz : tabT a b a.length = [] := by simp [tabT]
    have hpd : ((drow a b a.length).map (AV.int .i64)).all AV.pl = true := pl_map fun _ => rfl
    simp (disch := (first | omega | (simp only [List.length_set, List.length_append, List.length_cons, List.length_nil, List.length_take, List.length_drop, List.length_map, List.length_replicate]; omega))) only [↓pvd, pv0, pv1, pv2, pv3, pv4, pv5, pv6, pv7, pvc0, pvc1, pvc2, buildC, evP, evR, evE, Pv.get, Pv.put, putO, bin2, int2, binB2, un1, cells, boundO, AV.flat, bv, rowOne, pvf, rvs_1, rvs_2, rvL, rvX, liveB, setParts, szOk, notStr, lim, dedup, place, ent, Pv.new, Pv.newVar, Pv.newVec, setCells, AV.ones, AV.one, resX, entry, layL, layC, layA, lay, List.map, List.foldl, List.replicate, List.length_replicate, ↓reduceIte, reduceCtorEq, Nat.reduceEqDiff, Nat.reduceLT, Nat.reduceLeDiff, Nat.reduceAdd, Nat.reduceSub, Nat.reduceMul, Nat.reducePow, Nat.reduceDiv, Nat.reduceMod, Nat.reduceBEq, Nat.reduceBNe, Int.reduceLT, Int.reduceLE, Int.reduceToNat, Int.reduceAdd, Int.reduceSub, Int.reduceMul, Int.reduceNeg, Int.reducePow, Int.reduceEq, Int.reduceNe, Int.reduceDiv, Int.reduceMod, Int.reduceTDiv, Int.reduceTMod, UInt8.reduceToNat, UInt8.reduceOfNat, ids_all (rep_pl _), mapO_nr (rep_nr _), rows_nr (rep_nr _), ren_all (rep_pl _), List.getD_cons_zero, List.getD_cons_succ, ids_all hpd, ren_all hpd, ckS, hz, ite_self, List.append_nil]
  rintro ⟨i, o⟩ ⟨hi, ho⟩
  simp only at hi ho
  unfold Tryd.c20b2
  cases i with
  | zero =>
    rw [ckS_e]
    have hTp : ((tabT a b 0).map rowV).all AV.pl = true := pl_map row_pl
    have hTn : ((tabT a b 0).map rowV).all AV.nr1 = true := map_nr row_nr
    have hTl : ((tabT a b 0).map rowV).length = a.length := by simp [tabT]
    have h0 : (((0 : Nat) : Int) - 1) = -1 := by omega
    rw [h0, List.replicate_zero, List.nil_append]
    generalize (tabT a b 0).map rowV = T at *
    simp (disch := (first | omega | (simp only [List.length_set, List.length_append, List.length_cons, List.length_nil, List.length_take, List.length_drop, List.length_map, List.length_replicate] at *; omega))) only [↓pvd, pv0, pv1, pv2, pv3, pv4, pv5, pv6, pv7, pvc0, pvc1, pvc2, buildC, evP, evR, evE, Pv.get, Pv.put, putO, bin2, int2, binB2, un1, cells, boundO, AV.flat, bv, rowOne, pvf, rvs_1, rvs_2, rvL, rvX, liveB, setParts, szOk, notStr, lim, dedup, place, ent, Pv.new, Pv.newVar, Pv.newVec, setCells, AV.ones, AV.one, resX, entry, layL, layC, layA, lay, List.map, List.foldl, List.replicate, List.length_replicate, ↓reduceIte, reduceCtorEq, Nat.reduceEqDiff, Nat.reduceLT, Nat.reduceLeDiff, Nat.reduceAdd, Nat.reduceSub, Nat.reduceMul, Nat.reducePow, Nat.reduceDiv, Nat.reduceMod, Nat.reduceBEq, Nat.reduceBNe, Int.reduceLT, Int.reduceLE, Int.reduceToNat, Int.reduceAdd, Int.reduceSub, Int.reduceMul, Int.reduceNeg, Int.reducePow, Int.reduceEq, Int.reduceNe, Int.reduceDiv, Int.reduceMod, Int.reduceTDiv, Int.reduceTMod, UInt8.reduceToNat, UInt8.reduceOfNat]
    refine Ends_rq [[.snap]] ?_
    simp (disch := (first | omega | (simp only [List.length_set, List.length_append, List.length_cons, List.length_nil, List.length_take, List.length_drop, List.length_map, List.length_replicate]; omega))) only [↓pvd, pv0, pv1, pv2, pv3, pv4, pv5, pv6, pv7, pvc0, pvc1, pvc2, buildC, evP, evR, evE, Pv.get, Pv.put, putO, bin2, int2, binB2, un1, cells, boundO, AV.flat, bv, rowOne, pvf, rvs_1, rvs_2, rvL, rvX, liveB, setParts, szOk, notStr, lim, dedup, place, ent, Pv.new, Pv.newVar, Pv.newVec, setCells, AV.ones, AV.one, resX, entry, layL, layC, layA, lay, List.map, List.foldl, List.replicate, List.length_replicate, ↓reduceIte, reduceCtorEq, Nat.reduceEqDiff, Nat.reduceLT, Nat.reduceLeDiff, Nat.reduceAdd, Nat.reduceSub, Nat.reduceMul, Nat.reducePow, Nat.reduceDiv, Nat.reduceMod, Nat.reduceBEq, Nat.reduceBNe, Int.reduceLT, Int.reduceLE, Int.reduceToNat, Int.reduceAdd, Int.reduceSub, Int.reduceMul, Int.reduceNeg, Int.reducePow, Int.reduceEq, Int.reduceNe, Int.reduceDiv, Int.reduceMod, Int.reduceTDiv, Int.reduceTMod, UInt8.reduceToNat, UInt8.reduceOfNat, hand_eptr, mapO_nr hTn, rows_nr hTn, hTl, snp_eptr, rws_eptr, Option.toList_some]
    exact ⟨_, rfl, rfl, rfl⟩
  | succ j =>
    have hj : (((j + 1 : Nat) : Int) - 1) = (j : Int) := by omega
    have hTp : ((tabT a b (j + 1)).map rowV).all AV.pl = true := pl_map row_pl
    have hTn : ((tabT a b (j + 1)).map rowV).all AV.nr1 = true := map_nr row_nr
    have hAp := rep_pl j
    have hAn := rep_nr j
    have hAl : (List.replicate j nilV).length = j := by simp
    have hTl : ((tabT a b (j + 1)).map rowV).length = a.length - (j + 1) := by simp [tabT]
    have hNx : ∀ c, c ≤ b.length → ((drow a b (j + 1)).map (AV.int .i64))[c]? = some (.int .i64 ((lc (a.drop (j + 1)) (b.drop c) : Nat) : Int)) := fun c hc => by
      simp [drow, hc, Nat.lt_succ_of_le hc]
    have hNl : ((drow a b (j + 1)).map (AV.int .i64)).length = b.length + 1 := by simp [drow]
    have hOl : (o.map (AV.int .i64)).length = b.length + 1 := by simp [ho]
    have hDp : ((drow a b (j + 1)).map (AV.int .i64)).all AV.pl = true := pl_map (int_pl .i64)
    have hmk : List.replicate b.length (AV.bool false) = (List.replicate b.length false).map AV.bool := by simp
    have hes : List.replicate (j + 1) nilV ++ (tabT a b (j + 1)).map rowV = List.replicate j nilV ++ nilV :: (tabT a b (j + 1)).map rowV := by
      rw [List.replicate_succ']; simp
    rw [ckS_e a b f g (j + 1) o, hj, hes]
    generalize hTT : (tabT a b (j + 1)).map rowV = T at *
    generalize hAA : List.replicate j nilV = A at *
    have m1 := @mid_ids A T hAp hTp
    have m2 := @mid_ren A T hAp hTp
    have m3 := @mid_snap A T hAn hTn
    have m4 := @mid_rows A T hAn hTn
    have m5 := @mid_set A T
    have m6 : ∀ x, (A ++ x :: T)[j]? = some x := fun x => mid_get hAl
    have m7 : ∀ x v, (A ++ x :: T).set j v = A ++ v :: T := fun x v => mid_set hAl
    have m8 : ∀ x, (A ++ x :: T).length = a.length := fun x => by simp [hAl, hTl]; omega
    rcases Nat.mod_two_eq_zero_or_one j with hp | hp
    · have hp2 : (j + 1) % 2 ≠ 0 := by omega
      have hx1 : (j : Int) % 2 = 0 := by omega
      have hx2 : ((j : Int) + 1) % 2 = 1 := by omega
      rw [if_neg hp2, if_neg hp2]
      generalize hDD : (drow a b (j + 1)).map (AV.int .i64) = D at *
      simp (disch := (first | omega | (simp only [List.length_set, List.length_append, List.length_cons, List.length_nil, List.length_take, List.length_drop, List.length_map, List.length_replicate]; omega))) only [↓pvd, pv0, pv1, pv2, pv3, pv4, pv5, pv6, pv7, pvc0, pvc1, pvc2, buildC, evP, evR, evE, Pv.get, Pv.put, putO, bin2, int2, binB2, un1, cells, boundO, AV.flat, bv, rowOne, pvf, rvs_1, rvs_2, rvL, rvX, liveB, setParts, szOk, notStr, lim, dedup, place, ent, Pv.new, Pv.newVar, Pv.newVec, setCells, AV.ones, AV.one, resX, entry, layL, layC, layA, lay, List.map, List.foldl, List.replicate, List.length_replicate, ↓reduceIte, reduceCtorEq, Nat.reduceEqDiff, Nat.reduceLT, Nat.reduceLeDiff, Nat.reduceAdd, Nat.reduceSub, Nat.reduceMul, Nat.reducePow, Nat.reduceDiv, Nat.reduceMod, Nat.reduceBEq, Nat.reduceBNe, Int.reduceLT, Int.reduceLE, Int.reduceToNat, Int.reduceAdd, Int.reduceSub, Int.reduceMul, Int.reduceNeg, Int.reducePow, Int.reduceEq, Int.reduceNe, Int.reduceDiv, Int.reduceMod, Int.reduceTDiv, Int.reduceTMod, UInt8.reduceToNat, UInt8.reduceOfNat, hx1, hx2, m1, m2, m6, m7, m8, hmk, ids_all hDp, ren_all hDp, ids_map (int_pl .i64), ren_map (int_pl .i64), ids_map bool_pl, ren_map bool_pl, hOl, set_int, List.length_map]
      refine aw_loop (fun x : Nat × List Int × List Bool => (⟨[(0, .sl 1 (a.map .str) f), (1, .sl 1 (b.map .str) g), (5, .eptr 0 0 0), (6, .eptr 3 0 0), (8, .int .i64 j), (9, .vec 4 1 0 (b.length + 1)), (10, .vec 5 1 0 (b.length + 1)), (11, .int .i64 ((x.1 : Int) - 1))],
          [some ⟨61, [.agg [.sl 1 (a.map .str) f, .sl 1 (b.map .str) g, .vec 1 1 0 a.length]], true⟩, some ⟨64, A ++ .vec 2 1 0 b.length :: T, true⟩, some ⟨4, x.2.2.map .bool, true⟩,
           some ⟨63, [.agg [.vec 4 1 0 (b.length + 1), .vec 5 1 0 (b.length + 1)]], true⟩, some ⟨3, x.2.1.map (.int .i64), true⟩, some ⟨3, D, true⟩]⟩ : St))
        (fun x => x.1 ≤ b.length ∧ x.2.1.length = b.length + 1 ∧ x.2.2.length = b.length ∧ (∀ c, x.1 ≤ c → c ≤ b.length → x.2.1[c]! = ((lc (a.drop j) (b.drop c) : Nat) : Int)) ∧
          (∀ k, x.1 ≤ k → k < b.length → x.2.2[k]! = decide (lc (a.drop j) (b.drop (k + 1)) ≤ lc (a.drop (j + 1)) (b.drop k))))
        (fun x => x.1) (b.length, o.set b.length 0, List.replicate b.length false) ?_ ⟨Nat.le_refl _, by simp [ho], by simp, ?_, ?_⟩ ?_
      · simp (disch := (first | omega | (simp only [List.length_set, List.length_append, List.length_cons, List.length_nil, List.length_take, List.length_drop, List.length_map, List.length_replicate]; omega))) only [↓pvd, pv0, pv1, pv2, pv3, pv4, pv5, pv6, pv7, pvc0, pvc1, pvc2, buildC, evP, evR, evE, Pv.get, Pv.put, putO, bin2, int2, binB2, un1, cells, boundO, AV.flat, bv, rowOne, pvf, rvs_1, rvs_2, rvL, rvX, liveB, setParts, szOk, notStr, lim, dedup, place, ent, Pv.new, Pv.newVar, Pv.newVec, setCells, AV.ones, AV.one, resX, entry, layL, layC, layA, lay, List.map, List.foldl, List.replicate, List.length_replicate, ↓reduceIte, reduceCtorEq, Nat.reduceEqDiff, Nat.reduceLT, Nat.reduceLeDiff, Nat.reduceAdd, Nat.reduceSub, Nat.reduceMul, Nat.reducePow, Nat.reduceDiv, Nat.reduceMod, Nat.reduceBEq, Nat.reduceBNe, Int.reduceLT, Int.reduceLE, Int.reduceToNat, Int.reduceAdd, Int.reduceSub, Int.reduceMul, Int.reduceNeg, Int.reducePow, Int.reduceEq, Int.reduceNe, Int.reduceDiv, Int.reduceMod, Int.reduceTDiv, Int.reduceTMod, UInt8.reduceToNat, UInt8.reduceOfNat, m1, m2, ids_all hDp, ren_all hDp, ids_map (int_pl .i64), ren_map (int_pl .i64), ids_map bool_pl, ren_map bool_pl]
      · intro c h1 h2
        have : c = b.length := by omega
        subst this
        rw [List.drop_length, lc_nil', getElem!_pos _ _ (by simp [ho])]
        simp
      · intro k h1 h2
        omega
      rintro ⟨c, hs, rs⟩ ⟨hc, hsl, rsl, hM, hR⟩
      simp only at hc hsl rsl hM hR
      unfold Tryd.c20b1
      simp only
      cases c with
      | zero =>
        have hrs : rs = rowT a b j := by
          apply List.ext_getElem
          · simp [rowT, rsl]
          · intro k h1 h2
            have := hR k (by omega) (by omega)
            rw [getElem!_pos rs k h1] at this
            rw [this]
            simp [rowT]
        have hhs : hs = drow a b j := by
          apply List.ext_getElem
          · simp [drow, hsl]
          · intro k h1 h2
            have := hM k (by omega) (by omega)
            rw [getElem!_pos hs k h1] at this
            rw [this]
            simp [drow]
        have hcc : (((0 : Nat) : Int) - 1) = -1 := by omega
        have hpl1 : (rs.map AV.bool).all AV.pl = true := pl_map bool_pl
        simp (disch := (first | omega | (simp only [List.length_set, List.length_append, List.length_cons, List.length_nil, List.length_take, List.length_drop, List.length_map, List.length_replicate]; omega))) only [↓pvd, pv0, pv1, pv2, pv3, pv4, pv5, pv6, pv7, pvc0, pvc1, pvc2, buildC, evP, evR, evE, Pv.get, Pv.put, putO, bin2, int2, binB2, un1, cells, boundO, AV.flat, bv, rowOne, pvf, rvs_1, rvs_2, rvL, rvX, liveB, setParts, szOk, notStr, lim, dedup, place, ent, Pv.new, Pv.newVar, Pv.newVec, setCells, AV.ones, AV.one, resX, entry, layL, layC, layA, lay, List.map, List.foldl, List.replicate, List.length_replicate, ↓reduceIte, reduceCtorEq, Nat.reduceEqDiff, Nat.reduceLT, Nat.reduceLeDiff, Nat.reduceAdd, Nat.reduceSub, Nat.reduceMul, Nat.reducePow, Nat.reduceDiv, Nat.reduceMod, Nat.reduceBEq, Nat.reduceBNe, Int.reduceLT, Int.reduceLE, Int.reduceToNat, Int.reduceAdd, Int.reduceSub, Int.reduceMul, Int.reduceNeg, Int.reducePow, Int.reduceEq, Int.reduceNe, Int.reduceDiv, Int.reduceMod, Int.reduceTDiv, Int.reduceTMod, UInt8.reduceToNat, UInt8.reduceOfNat, hcc, m1, m2, m3, m4, List.getD_cons_zero, List.getD_cons_succ, mapO_map bool_nr, rows_map bool_nr, ids_all hDp, ren_all hDp, ids_map (int_pl .i64), ren_map (int_pl .i64), ids_map bool_pl, ren_map bool_pl]
        refine ⟨(j, drow a b (j + 1)), ?_, ⟨by simp only; omega, by simp [drow]⟩, by simp only; omega⟩
        rw [ckS_e]
        have htab : (tabT a b j).map rowV = rowV (rowT a b j) :: T := by
          rw [← hTT]
          unfold tabT
          rw [show a.length - j = (a.length - (j + 1)) + 1 by omega, List.range_succ_eq_map]
          simp only [List.map_cons, List.map_map, Nat.add_zero]
          congr 1
          apply List.map_congr_left
          intro x _
          simp only [Function.comp]
          rw [show j + (x + 1) = j + 1 + x by omega]
        rw [htab, hAA, ← hrs, ← hhs]
        simp only [if_pos hp, ← hDD, rowV]
      | succ k =>
        have hk : (((k + 1 : Nat) : Int) - 1) = (k : Int) := by omega
        rw [hk]
        have g1 := hNx k (by omega)
        have g2 := hNx (k + 1) (by omega)
        have M1 := hM (k + 1) (by omega) (by omega)
        have g3 : (hs.map (AV.int .i64))[k + 1]? = some (.int .i64 ((lc (a.drop j) (b.drop (k + 1)) : Nat) : Int)) := by rw [map_get (by omega), M1]
        have g4 : (a.map AV.str)[j]? = some (.str a[j]!) := map_get (by omega)
        have g5 : (b.map AV.str)[k]? = some (.str b[k]!) := map_get (by omega)
        have hda : a.drop j = a[j]! :: a.drop (j + 1) := by rw [getElem!_pos a j (by omega)]; exact List.drop_eq_getElem_cons (by omega)
        have hdb : b.drop k = b[k]! :: b.drop (k + 1) := by rw [getElem!_pos b k (by omega)]; exact List.drop_eq_getElem_cons (by omega)
        have hstep : lc (a.drop j) (b.drop k) = if a[j]! = b[k]! then lc (a.drop (j + 1)) (b.drop (k + 1)) + 1 else max (lc (a.drop (j + 1)) (b.drop k)) (lc (a.drop j) (b.drop (k + 1))) := by
          rw [hda, hdb, lc_cons]
        have b1 := lc_le (a.drop (j + 1)) (b.drop (k + 1))
        have b2 := lc_le (a.drop (j + 1)) (b.drop k)
        have b3 := lc_le (a.drop j) (b.drop (k + 1))
        simp only [List.length_drop] at b1 b2 b3
        have fin : ∀ (v : Int) (hs' : List Int), v = ((lc (a.drop j) (b.drop k) : Nat) : Int) → hs' = hs.set k v →
            hs'.length = b.length + 1 ∧ (∀ c, k ≤ c → c ≤ b.length → hs'[c]! = ((lc (a.drop j) (b.drop c) : Nat) : Int)) := fun v hs' hv h => by
          subst h
          refine ⟨by simp [hsl], fun c h1 h2 => ?_⟩
          rw [getElem!_pos _ _ (by simp [hsl]; omega), List.getElem_set]
          by_cases e : k = c
          · rw [if_pos e, hv, e]
          · rw [if_neg e]
            have := hM c (by omega) h2
            rwa [getElem!_pos hs c (by omega)] at this
        have finr : ∀ (v : Bool), v = decide (lc (a.drop j) (b.drop (k + 1)) ≤ lc (a.drop (j + 1)) (b.drop k)) →
            (rs.set k v).length = b.length ∧ (∀ k', k ≤ k' → k' < b.length → (rs.set k v)[k']! = decide (lc (a.drop j) (b.drop (k' + 1)) ≤ lc (a.drop (j + 1)) (b.drop k'))) := fun v hv => by
          refine ⟨by simp [rsl], fun c h1 h2 => ?_⟩
          rw [getElem!_pos _ _ (by simp [rsl]; omega), List.getElem_set]
          by_cases e : k = c
          · rw [if_pos e, hv, e]
          · rw [if_neg e]
            have := hR c (by omega) h2
            rwa [getElem!_pos rs c (by omega)] at this
        generalize lc (a.drop j) (b.drop k) = V at *
        generalize lc (a.drop (j + 1)) (b.drop (k + 1)) = v1 at *
        generalize lc (a.drop (j + 1)) (b.drop k) = v2 at *
        generalize lc (a.drop j) (b.drop (k + 1)) = v3 at *
        by_cases he : a[j]! = b[k]!
        · rw [if_pos he] at hstep
          simp (disch := (first | omega | (simp only [List.length_set, List.length_append, List.length_cons, List.length_nil, List.length_take, List.length_drop, List.length_map, List.length_replicate]; omega))) only [↓pvd, pv0, pv1, pv2, pv3, pv4, pv5, pv6, pv7, pvc0, pvc1, pvc2, buildC, evP, evR, evE, Pv.get, Pv.put, putO, bin2, int2, binB2, un1, cells, boundO, AV.flat, bv, rowOne, pvf, rvs_1, rvs_2, rvL, rvX, liveB, setParts, szOk, notStr, lim, dedup, place, ent, Pv.new, Pv.newVar, Pv.newVec, setCells, AV.ones, AV.one, resX, entry, layL, layC, layA, lay, List.map, List.foldl, List.replicate, List.length_replicate, ↓reduceIte, reduceCtorEq, Nat.reduceEqDiff, Nat.reduceLT, Nat.reduceLeDiff, Nat.reduceAdd, Nat.reduceSub, Nat.reduceMul, Nat.reducePow, Nat.reduceDiv, Nat.reduceMod, Nat.reduceBEq, Nat.reduceBNe, Int.reduceLT, Int.reduceLE, Int.reduceToNat, Int.reduceAdd, Int.reduceSub, Int.reduceMul, Int.reduceNeg, Int.reducePow, Int.reduceEq, Int.reduceNe, Int.reduceDiv, Int.reduceMod, Int.reduceTDiv, Int.reduceTMod, UInt8.reduceToNat, UInt8.reduceOfNat, m1, m2, m6, m7, m8, ids_all hDp, ren_all hDp, ids_map (int_pl .i64), ren_map (int_pl .i64), ids_map bool_pl, ren_map bool_pl, set_int, set_bool, List.length_map, g1, g2, g3, g4, g5, he, hNl]
          have f1 := fin ((v1 : Int) + 1) ((hs.set k (max (v2 : Int) v3)).set k ((v1 : Int) + 1)) (by rw [hstep]; push_cast; rfl) (by rw [List.set_set])
          have f2 := finr (decide ((v3 : Int) ≤ v2)) (by simp)
          exact ⟨(k, ((hs.set k (max (v2 : Int) v3)).set k ((v1 : Int) + 1)), rs.set k (decide ((v3 : Int) ≤ v2))), rfl, ⟨by simp only; omega, f1.1, f2.1, f1.2, f2.2⟩, by simp only; omega⟩
        · rw [if_neg he] at hstep
          simp (disch := (first | omega | (simp only [List.length_set, List.length_append, List.length_cons, List.length_nil, List.length_take, List.length_drop, List.length_map, List.length_replicate]; omega))) only [↓pvd, pv0, pv1, pv2, pv3, pv4, pv5, pv6, pv7, pvc0, pvc1, pvc2, buildC, evP, evR, evE, Pv.get, Pv.put, putO, bin2, int2, binB2, un1, cells, boundO, AV.flat, bv, rowOne, pvf, rvs_1, rvs_2, rvL, rvX, liveB, setParts, szOk, notStr, lim, dedup, place, ent, Pv.new, Pv.newVar, Pv.newVec, setCells, AV.ones, AV.one, resX, entry, layL, layC, layA, lay, List.map, List.foldl, List.replicate, List.length_replicate, ↓reduceIte, reduceCtorEq, Nat.reduceEqDiff, Nat.reduceLT, Nat.reduceLeDiff, Nat.reduceAdd, Nat.reduceSub, Nat.reduceMul, Nat.reducePow, Nat.reduceDiv, Nat.reduceMod, Nat.reduceBEq, Nat.reduceBNe, Int.reduceLT, Int.reduceLE, Int.reduceToNat, Int.reduceAdd, Int.reduceSub, Int.reduceMul, Int.reduceNeg, Int.reducePow, Int.reduceEq, Int.reduceNe, Int.reduceDiv, Int.reduceMod, Int.reduceTDiv, Int.reduceTMod, UInt8.reduceToNat, UInt8.reduceOfNat, m1, m2, m6, m7, m8, ids_all hDp, ren_all hDp, ids_map (int_pl .i64), ren_map (int_pl .i64), ids_map bool_pl, ren_map bool_pl, set_int, set_bool, List.length_map, g1, g2, g3, g4, g5, he, hNl]
          have f1 := fin (max (v2 : Int) v3) (hs.set k (max (v2 : Int) v3)) (by rw [hstep]; omega) (by rfl)
          have f2 := finr (decide ((v3 : Int) ≤ v2)) (by simp)
          exact ⟨(k, (hs.set k (max (v2 : Int) v3)), rs.set k (decide ((v3 : Int) ≤ v2))), rfl, ⟨by simp only; omega, f1.1, f2.1, f1.2, f2.2⟩, by simp only; omega⟩
    · have hp2 : (j + 1) % 2 = 0 := by omega
      have hx1 : (j : Int) % 2 = 1 := by omega
      have hx2 : ((j : Int) + 1) % 2 = 0 := by omega
      rw [if_pos hp2, if_pos hp2]
      have hp : ¬ j % 2 = 0 := by omega
      generalize hDD : (drow a b (j + 1)).map (AV.int .i64) = D at *
      simp (disch := (first | omega | (simp only [List.length_set, List.length_append, List.length_cons, List.length_nil, List.length_take, List.length_drop, List.length_map, List.length_replicate]; omega))) only [↓pvd, pv0, pv1, pv2, pv3, pv4, pv5, pv6, pv7, pvc0, pvc1, pvc2, buildC, evP, evR, evE, Pv.get, Pv.put, putO, bin2, int2, binB2, un1, cells, boundO, AV.flat, bv, rowOne, pvf, rvs_1, rvs_2, rvL, rvX, liveB, setParts, szOk, notStr, lim, dedup, place, ent, Pv.new, Pv.newVar, Pv.newVec, setCells, AV.ones, AV.one, resX, entry, layL, layC, layA, lay, List.map, List.foldl, List.replicate, List.length_replicate, ↓reduceIte, reduceCtorEq, Nat.reduceEqDiff, Nat.reduceLT, Nat.reduceLeDiff, Nat.reduceAdd, Nat.reduceSub, Nat.reduceMul, Nat.reducePow, Nat.reduceDiv, Nat.reduceMod, Nat.reduceBEq, Nat.reduceBNe, Int.reduceLT, Int.reduceLE, Int.reduceToNat, Int.reduceAdd, Int.reduceSub, Int.reduceMul, Int.reduceNeg, Int.reducePow, Int.reduceEq, Int.reduceNe, Int.reduceDiv, Int.reduceMod, Int.reduceTDiv, Int.reduceTMod, UInt8.reduceToNat, UInt8.reduceOfNat, hx1, hx2, m1, m2, m6, m7, m8, hmk, ids_all hDp, ren_all hDp, ids_map (int_pl .i64), ren_map (int_pl .i64), ids_map bool_pl, ren_map bool_pl, hOl, set_int, List.length_map]
      refine aw_loop (fun x : Nat × List Int × List Bool => (⟨[(0, .sl 1 (a.map .str) f), (1, .sl 1 (b.map .str) g), (5, .eptr 0 0 0), (6, .eptr 3 0 0), (8, .int .i64 j), (9, .vec 5 1 0 (b.length + 1)), (10, .vec 4 1 0 (b.length + 1)), (11, .int .i64 ((x.1 : Int) - 1))],
          [some ⟨61, [.agg [.sl 1 (a.map .str) f, .sl 1 (b.map .str) g, .vec 1 1 0 a.length]], true⟩, some ⟨64, A ++ .vec 2 1 0 b.length :: T, true⟩, some ⟨4, x.2.2.map .bool, true⟩,
           some ⟨63, [.agg [.vec 4 1 0 (b.length + 1), .vec 5 1 0 (b.length + 1)]], true⟩, some ⟨3, D, true⟩, some ⟨3, x.2.1.map (.int .i64), true⟩]⟩ : St))
        (fun x => x.1 ≤ b.length ∧ x.2.1.length = b.length + 1 ∧ x.2.2.length = b.length ∧ (∀ c, x.1 ≤ c → c ≤ b.length → x.2.1[c]! = ((lc (a.drop j) (b.drop c) : Nat) : Int)) ∧
          (∀ k, x.1 ≤ k → k < b.length → x.2.2[k]! = decide (lc (a.drop j) (b.drop (k + 1)) ≤ lc (a.drop (j + 1)) (b.drop k))))
        (fun x => x.1) (b.length, o.set b.length 0, List.replicate b.length false) ?_ ⟨Nat.le_refl _, by simp [ho], by simp, ?_, ?_⟩ ?_
      · simp (disch := (first | omega | (simp only [List.length_set, List.length_append, List.length_cons, List.length_nil, List.length_take, List.length_drop, List.length_map, List.length_replicate]; omega))) only [↓pvd, pv0, pv1, pv2, pv3, pv4, pv5, pv6, pv7, pvc0, pvc1, pvc2, buildC, evP, evR, evE, Pv.get, Pv.put, putO, bin2, int2, binB2, un1, cells, boundO, AV.flat, bv, rowOne, pvf, rvs_1, rvs_2, rvL, rvX, liveB, setParts, szOk, notStr, lim, dedup, place, ent, Pv.new, Pv.newVar, Pv.newVec, setCells, AV.ones, AV.one, resX, entry, layL, layC, layA, lay, List.map, List.foldl, List.replicate, List.length_replicate, ↓reduceIte, reduceCtorEq, Nat.reduceEqDiff, Nat.reduceLT, Nat.reduceLeDiff, Nat.reduceAdd, Nat.reduceSub, Nat.reduceMul, Nat.reducePow, Nat.reduceDiv, Nat.reduceMod, Nat.reduceBEq, Nat.reduceBNe, Int.reduceLT, Int.reduceLE, Int.reduceToNat, Int.reduceAdd, Int.reduceSub, Int.reduceMul, Int.reduceNeg, Int.reducePow, Int.reduceEq, Int.reduceNe, Int.reduceDiv, Int.reduceMod, Int.reduceTDiv, Int.reduceTMod, UInt8.reduceToNat, UInt8.reduceOfNat, m1, m2, ids_all hDp, ren_all hDp, ids_map (int_pl .i64), ren_map (int_pl .i64), ids_map bool_pl, ren_map bool_pl]
      · intro c h1 h2
        have : c = b.length := by omega
        subst this
        rw [List.drop_length, lc_nil', getElem!_pos _ _ (by simp [ho])]
        simp
      · intro k h1 h2
        omega
      rintro ⟨c, hs, rs⟩ ⟨hc, hsl, rsl, hM, hR⟩
      simp only at hc hsl rsl hM hR
      unfold Tryd.c20b1
      simp only
      cases c with
      | zero =>
        have hrs : rs = rowT a b j := by
          apply List.ext_getElem
          · simp [rowT, rsl]
          · intro k h1 h2
            have := hR k (by omega) (by omega)
            rw [getElem!_pos rs k h1] at this
            rw [this]
            simp [rowT]
        have hhs : hs = drow a b j := by
          apply List.ext_getElem
          · simp [drow, hsl]
          · intro k h1 h2
            have := hM k (by omega) (by omega)
            rw [getElem!_pos hs k h1] at this
            rw [this]
            simp [drow]
        have hcc : (((0 : Nat) : Int) - 1) = -1 := by omega
        have hpl1 : (rs.map AV.bool).all AV.pl = true := pl_map bool_pl
        simp (disch := (first | omega | (simp only [List.length_set, List.length_append, List.length_cons, List.length_nil, List.length_take, List.length_drop, List.length_map, List.length_replicate]; omega))) only [↓pvd, pv0, pv1, pv2, pv3, pv4, pv5, pv6, pv7, pvc0, pvc1, pvc2, buildC, evP, evR, evE, Pv.get, Pv.put, putO, bin2, int2, binB2, un1, cells, boundO, AV.flat, bv, rowOne, pvf, rvs_1, rvs_2, rvL, rvX, liveB, setParts, szOk, notStr, lim, dedup, place, ent, Pv.new, Pv.newVar, Pv.newVec, setCells, AV.ones, AV.one, resX, entry, layL, layC, layA, lay, List.map, List.foldl, List.replicate, List.length_replicate, ↓reduceIte, reduceCtorEq, Nat.reduceEqDiff, Nat.reduceLT, Nat.reduceLeDiff, Nat.reduceAdd, Nat.reduceSub, Nat.reduceMul, Nat.reducePow, Nat.reduceDiv, Nat.reduceMod, Nat.reduceBEq, Nat.reduceBNe, Int.reduceLT, Int.reduceLE, Int.reduceToNat, Int.reduceAdd, Int.reduceSub, Int.reduceMul, Int.reduceNeg, Int.reducePow, Int.reduceEq, Int.reduceNe, Int.reduceDiv, Int.reduceMod, Int.reduceTDiv, Int.reduceTMod, UInt8.reduceToNat, UInt8.reduceOfNat, hcc, m1, m2, m3, m4, List.getD_cons_zero, List.getD_cons_succ, mapO_map bool_nr, rows_map bool_nr, ids_all hDp, ren_all hDp, ids_map (int_pl .i64), ren_map (int_pl .i64), ids_map bool_pl, ren_map bool_pl]
        refine ⟨(j, drow a b (j + 1)), ?_, ⟨by simp only; omega, by simp [drow]⟩, by simp only; omega⟩
        rw [ckS_e]
        have htab : (tabT a b j).map rowV = rowV (rowT a b j) :: T := by
          rw [← hTT]
          unfold tabT
          rw [show a.length - j = (a.length - (j + 1)) + 1 by omega, List.range_succ_eq_map]
          simp only [List.map_cons, List.map_map, Nat.add_zero]
          congr 1
          apply List.map_congr_left
          intro x _
          simp only [Function.comp]
          rw [show j + (x + 1) = j + 1 + x by omega]
        rw [htab, hAA, ← hrs, ← hhs]
        simp only [if_neg hp, ← hDD, rowV]
      | succ k =>
        have hk : (((k + 1 : Nat) : Int) - 1) = (k : Int) := by omega
        rw [hk]
        have g1 := hNx k (by omega)
        have g2 := hNx (k + 1) (by omega)
        have M1 := hM (k + 1) (by omega) (by omega)
        have g3 : (hs.map (AV.int .i64))[k + 1]? = some (.int .i64 ((lc (a.drop j) (b.drop (k + 1)) : Nat) : Int)) := by rw [map_get (by omega), M1]
        have g4 : (a.map AV.str)[j]? = some (.str a[j]!) := map_get (by omega)
        have g5 : (b.map AV.str)[k]? = some (.str b[k]!) := map_get (by omega)
        have hda : a.drop j = a[j]! :: a.drop (j + 1) := by rw [getElem!_pos a j (by omega)]; exact List.drop_eq_getElem_cons (by omega)
        have hdb : b.drop k = b[k]! :: b.drop (k + 1) := by rw [getElem!_pos b k (by omega)]; exact List.drop_eq_getElem_cons (by omega)
        have hstep : lc (a.drop j) (b.drop k) = if a[j]! = b[k]! then lc (a.drop (j + 1)) (b.drop (k + 1)) + 1 else max (lc (a.drop (j + 1)) (b.drop k)) (lc (a.drop j) (b.drop (k + 1))) := by
          rw [hda, hdb, lc_cons]
        have b1 := lc_le (a.drop (j + 1)) (b.drop (k + 1))
        have b2 := lc_le (a.drop (j + 1)) (b.drop k)
        have b3 := lc_le (a.drop j) (b.drop (k + 1))
        simp only [List.length_drop] at b1 b2 b3
        have fin : ∀ (v : Int) (hs' : List Int), v = ((lc (a.drop j) (b.drop k) : Nat) : Int) → hs' = hs.set k v →
            hs'.length = b.length + 1 ∧ (∀ c, k ≤ c → c ≤ b.length → hs'[c]! = ((lc (a.drop j) (b.drop c) : Nat) : Int)) := fun v hs' hv h => by
          subst h
          refine ⟨by simp [hsl], fun c h1 h2 => ?_⟩
          rw [getElem!_pos _ _ (by simp [hsl]; omega), List.getElem_set]
          by_cases e : k = c
          · rw [if_pos e, hv, e]
          · rw [if_neg e]
            have := hM c (by omega) h2
            rwa [getElem!_pos hs c (by omega)] at this
        have finr : ∀ (v : Bool), v = decide (lc (a.drop j) (b.drop (k + 1)) ≤ lc (a.drop (j + 1)) (b.drop k)) →
            (rs.set k v).length = b.length ∧ (∀ k', k ≤ k' → k' < b.length → (rs.set k v)[k']! = decide (lc (a.drop j) (b.drop (k' + 1)) ≤ lc (a.drop (j + 1)) (b.drop k'))) := fun v hv => by
          refine ⟨by simp [rsl], fun c h1 h2 => ?_⟩
          rw [getElem!_pos _ _ (by simp [rsl]; omega), List.getElem_set]
          by_cases e : k = c
          · rw [if_pos e, hv, e]
          · rw [if_neg e]
            have := hR c (by omega) h2
            rwa [getElem!_pos rs c (by omega)] at this
        generalize lc (a.drop j) (b.drop k) = V at *
        generalize lc (a.drop (j + 1)) (b.drop (k + 1)) = v1 at *
        generalize lc (a.drop (j + 1)) (b.drop k) = v2 at *
        generalize lc (a.drop j) (b.drop (k + 1)) = v3 at *
        by_cases he : a[j]! = b[k]!
        · rw [if_pos he] at hstep
          simp (disch := (first | omega | (simp only [List.length_set, List.length_append, List.length_cons, List.length_nil, List.length_take, List.length_drop, List.length_map, List.length_replicate]; omega))) only [↓pvd, pv0, pv1, pv2, pv3, pv4, pv5, pv6, pv7, pvc0, pvc1, pvc2, buildC, evP, evR, evE, Pv.get, Pv.put, putO, bin2, int2, binB2, un1, cells, boundO, AV.flat, bv, rowOne, pvf, rvs_1, rvs_2, rvL, rvX, liveB, setParts, szOk, notStr, lim, dedup, place, ent, Pv.new, Pv.newVar, Pv.newVec, setCells, AV.ones, AV.one, resX, entry, layL, layC, layA, lay, List.map, List.foldl, List.replicate, List.length_replicate, ↓reduceIte, reduceCtorEq, Nat.reduceEqDiff, Nat.reduceLT, Nat.reduceLeDiff, Nat.reduceAdd, Nat.reduceSub, Nat.reduceMul, Nat.reducePow, Nat.reduceDiv, Nat.reduceMod, Nat.reduceBEq, Nat.reduceBNe, Int.reduceLT, Int.reduceLE, Int.reduceToNat, Int.reduceAdd, Int.reduceSub, Int.reduceMul, Int.reduceNeg, Int.reducePow, Int.reduceEq, Int.reduceNe, Int.reduceDiv, Int.reduceMod, Int.reduceTDiv, Int.reduceTMod, UInt8.reduceToNat, UInt8.reduceOfNat, m1, m2, m6, m7, m8, ids_all hDp, ren_all hDp, ids_map (int_pl .i64), ren_map (int_pl .i64), ids_map bool_pl, ren_map bool_pl, set_int, set_bool, List.length_map, g1, g2, g3, g4, g5, he, hNl]
          have f1 := fin ((v1 : Int) + 1) ((hs.set k (max (v2 : Int) v3)).set k ((v1 : Int) + 1)) (by rw [hstep]; push_cast; rfl) (by rw [List.set_set])
          have f2 := finr (decide ((v3 : Int) ≤ v2)) (by simp)
          exact ⟨(k, ((hs.set k (max (v2 : Int) v3)).set k ((v1 : Int) + 1)), rs.set k (decide ((v3 : Int) ≤ v2))), rfl, ⟨by simp only; omega, f1.1, f2.1, f1.2, f2.2⟩, by simp only; omega⟩
        · rw [if_neg he] at hstep
          simp (disch := (first | omega | (simp only [List.length_set, List.length_append, List.length_cons, List.length_nil, List.length_take, List.length_drop, List.length_map, List.length_replicate]; omega))) only [↓pvd, pv0, pv1, pv2, pv3, pv4, pv5, pv6, pv7, pvc0, pvc1, pvc2, buildC, evP, evR, evE, Pv.get, Pv.put, putO, bin2, int2, binB2, un1, cells, boundO, AV.flat, bv, rowOne, pvf, rvs_1, rvs_2, rvL, rvX, liveB, setParts, szOk, notStr, lim, dedup, place, ent, Pv.new, Pv.newVar, Pv.newVec, setCells, AV.ones, AV.one, resX, entry, layL, layC, layA, lay, List.map, List.foldl, List.replicate, List.length_replicate, ↓reduceIte, reduceCtorEq, Nat.reduceEqDiff, Nat.reduceLT, Nat.reduceLeDiff, Nat.reduceAdd, Nat.reduceSub, Nat.reduceMul, Nat.reducePow, Nat.reduceDiv, Nat.reduceMod, Nat.reduceBEq, Nat.reduceBNe, Int.reduceLT, Int.reduceLE, Int.reduceToNat, Int.reduceAdd, Int.reduceSub, Int.reduceMul, Int.reduceNeg, Int.reducePow, Int.reduceEq, Int.reduceNe, Int.reduceDiv, Int.reduceMod, Int.reduceTDiv, Int.reduceTMod, UInt8.reduceToNat, UInt8.reduceOfNat, m1, m2, m6, m7, m8, ids_all hDp, ren_all hDp, ids_map (int_pl .i64), ren_map (int_pl .i64), ids_map bool_pl, ren_map bool_pl, set_int, set_bool, List.length_map, g1, g2, g3, g4, g5, he, hNl]
          have f1 := fin (max (v2 : Int) v3) (hs.set k (max (v2 : Int) v3)) (by rw [hstep]; omega) (by rfl)
          have f2 := finr (decide ((v3 : Int) ≤ v2)) (by simp)
          exact ⟨(k, (hs.set k (max (v2 : Int) v3)), rs.set k (decide ((v3 : Int) ≤ v2))), rfl, ⟨by simp only; omega, f1.1, f2.1, f1.2, f2.2⟩, by simp only; omega⟩
end Go.Proofs


set_option linter.unusedSimpArgs false
set_option linter.unusedVariables false
set_option maxHeartbeats 2000000
set_option maxRecDepth 20000
namespace Go.Proofs
open Go.Pv Go.Pv.Df
def edR (e : Int × List UInt8) : AV := .agg [.int .i64 e.1, .str e.2]
theorem ed_nr (e : Int × List UInt8) : (edR e).nr1 = true := rfl
theorem ed_pl (e : Int × List UInt8) : (edR e).pl = true := rfl
theorem str_nr (l : List UInt8) : (AV.str l).nr1 = true := rfl
theorem str_pl (l : List UInt8) : (AV.str l).pl = true := rfl
def eS (a b : List (List UInt8)) (f g : Bool) (x : Nat × Nat × List (Int × List UInt8)) : St :=
  ⟨[(0, .rptr (.agg [.sl 1 (a.map .str) f, .sl 1 (b.map .str) g, .sl 1 ((tabT a b 0).map rowV) false]) 0), (3, .vec 0 2 0 x.2.2.length), (4, .int .i64 x.1), (5, .int .i64 x.2.1)], [some ⟨39, x.2.2.map edR, true⟩]⟩
set_option maxHeartbeats 8000000 in
theorem edits_run (a b : List (List UInt8)) (f g : Bool) (ha : a.length ≤ 400) (hb : b.length ≤ 400) : Run Tryd.prog 21 [.rptr (.agg [.sl 1 (a.map .str) f, .sl 1 (b.map .str) g, .sl 1 ((tabT a b 0).map rowV) false]) 0] (.own 2 39 ((ed a b).map edR)) := by
  refine Tryd.run21 (by simp) ?_
  unfold Tryd.c21
  simp (disch := (first | omega | (simp only [List.length_set, List.length_append, List.length_cons, List.length_nil, List.length_take, List.length_drop, List.length_map, List.length_replicate] at *; omega))) only [↓pvd, pv0, pv1, pv2, pv3, pv4, pv5, pv6, pv7, pvc0, pvc1, pvc2, buildC, evP, evR, evE, Pv.get, Pv.put, putO, bin2, int2, binB2, un1, cells, boundO, AV.flat, bv, rowOne, pvf, rvs_1, rvs_2, rvL, rvX, liveB, setParts, szOk, notStr, lim, dedup, place, ent, Pv.new, Pv.newVar, Pv.newVec, setCells, AV.ones, AV.one, resX, entry, layL, layC, layA, lay, List.map, List.foldl, List.replicate, List.length_replicate, ↓reduceIte, reduceCtorEq, Nat.reduceEqDiff, Nat.reduceLT, Nat.reduceLeDiff, Nat.reduceAdd, Nat.reduceSub, Nat.reduceMul, Nat.reducePow, Nat.reduceDiv, Nat.reduceMod, Nat.reduceBEq, Nat.reduceBNe, Int.reduceLT, Int.reduceLE, Int.reduceToNat, Int.reduceAdd, Int.reduceSub, Int.reduceMul, Int.reduceNeg, Int.reducePow, Int.reduceEq, Int.reduceNe, Int.reduceDiv, Int.reduceMod, Int.reduceTDiv, Int.reduceTMod, UInt8.reduceToNat, UInt8.reduceOfNat]
  refine aw_loop (eS a b f g) (fun x => x.1 ≤ a.length ∧ x.2.1 ≤ b.length ∧ x.2.2.length ≤ x.1 + x.2.1 ∧ ed a b = x.2.2 ++ ed (a.drop x.1) (b.drop x.2.1)) (fun x => (a.length - x.1) + (b.length - x.2.1)) (0, 0, []) ?_ ⟨by simp, by simp, by simp, by simp⟩ ?_
  · simp (disch := (first | omega | (simp only [List.length_set, List.length_append, List.length_cons, List.length_nil, List.length_take, List.length_drop, List.length_map, List.length_replicate]; omega))) only [↓pvd, pv0, pv1, pv2, pv3, pv4, pv5, pv6, pv7, pvc0, pvc1, pvc2, buildC, evP, evR, evE, Pv.get, Pv.put, putO, bin2, int2, binB2, un1, cells, boundO, AV.flat, bv, rowOne, pvf, rvs_1, rvs_2, rvL, rvX, liveB, setParts, szOk, notStr, lim, dedup, place, ent, Pv.new, Pv.newVar, Pv.newVec, setCells, AV.ones, AV.one, resX, entry, layL, layC, layA, lay, List.map, List.foldl, List.replicate, List.length_replicate, ↓reduceIte, reduceCtorEq, Nat.reduceEqDiff, Nat.reduceLT, Nat.reduceLeDiff, Nat.reduceAdd, Nat.reduceSub, Nat.reduceMul, Nat.reducePow, Nat.reduceDiv, Nat.reduceMod, Nat.reduceBEq, Nat.reduceBNe, Int.reduceLT, Int.reduceLE, Int.reduceToNat, Int.reduceAdd, Int.reduceSub, Int.reduceMul, Int.reduceNeg, Int.reducePow, Int.reduceEq, Int.reduceNe, Int.reduceDiv, Int.reduceMod, Int.reduceTDiv, Int.reduceTMod, UInt8.reduceToNat, UInt8.reduceOfNat, eS]
    try simp
  rintro ⟨i, k, out⟩ ⟨hi, hk, ho, he⟩
  simp only at hi hk ho he
  unfold eS Tryd.c21b0
  simp only
  have hln : (out.map edR).length = out.length := by simp
  have hpl : (out.map edR).all AV.pl = true := pl_map ed_pl
  have hap : ∀ e, out.map edR ++ [edR e] = (out ++ [e]).map edR := fun e => by simp
  have hpl2 : ∀ e, ((out ++ [e]).map edR).all AV.pl = true := fun e => pl_map ed_pl
  have hap1 : ∀ (c : Int) (x : List UInt8), out.map edR ++ [AV.agg [.int .i64 c, .str x]] = (out ++ [(c, x)]).map edR := fun c x => hap (c, x)
  by_cases hi2 : i < a.length
  · have ga : (a.map AV.str)[i]? = some (.str a[i]!) := map_get hi2
    have da : a.drop i = a[i]! :: a.drop (i + 1) := by rw [getElem!_pos a i hi2]; exact List.drop_eq_getElem_cons hi2
    by_cases hk2 : k < b.length
    · have gb : (b.map AV.str)[k]? = some (.str b[k]!) := map_get hk2
      have db : b.drop k = b[k]! :: b.drop (k + 1) := by rw [getElem!_pos b k hk2]; exact List.drop_eq_getElem_cons hk2
      have gt : ((tabT a b 0).map rowV)[i]? = some (.sl 1 ((rowT a b i).map .bool) false) := by
        simp [tabT, hi2, rowV]
      have gr : ((rowT a b i).map AV.bool)[k]? = some (.bool (decide (lc (a.drop i) (b.drop (k + 1)) ≤ lc (a.drop (i + 1)) (b.drop k)))) := by
        simp [rowT, hk2]
      have hed : ed (a.drop i) (b.drop k) = if a[i]! = b[k]! then (0, a[i]!) :: ed (a.drop (i + 1)) (b.drop (k + 1)) else if lc (a.drop i) (b.drop (k + 1)) ≤ lc (a.drop (i + 1)) (b.drop k) then (1, a[i]!) :: ed (a.drop (i + 1)) (b.drop k) else (2, b[k]!) :: ed (a.drop i) (b.drop (k + 1)) := by
        rw [da, db, ed]
      have hTl : ((tabT a b 0).map rowV).length = a.length := by simp [tabT]
      have hrl : ((rowT a b i).map AV.bool).length = b.length := by simp [rowT]
      generalize hT : (tabT a b 0).map rowV = T at *
      by_cases heq : a[i]! = b[k]!
      · rw [if_pos heq] at hed
        rw [heq] at ga
        generalize hrow : out.map edR = row at *
        simp (disch := (first | omega | (simp only [List.length_set, List.length_append, List.length_cons, List.length_nil, List.length_take, List.length_drop, List.length_map, List.length_replicate]; omega))) only [↓pvd, pv0, pv1, pv2, pv3, pv4, pv5, pv6, pv7, pvc0, pvc1, pvc2, buildC, evP, evR, evE, Pv.get, Pv.put, putO, bin2, int2, binB2, un1, cells, boundO, AV.flat, bv, rowOne, pvf, rvs_1, rvs_2, rvL, rvX, liveB, setParts, szOk, notStr, lim, dedup, place, ent, Pv.new, Pv.newVar, Pv.newVec, setCells, AV.ones, AV.one, resX, entry, layL, layC, layA, lay, List.map, List.foldl, List.replicate, List.length_replicate, ↓reduceIte, reduceCtorEq, Nat.reduceEqDiff, Nat.reduceLT, Nat.reduceLeDiff, Nat.reduceAdd, Nat.reduceSub, Nat.reduceMul, Nat.reducePow, Nat.reduceDiv, Nat.reduceMod, Nat.reduceBEq, Nat.reduceBNe, Int.reduceLT, Int.reduceLE, Int.reduceToNat, Int.reduceAdd, Int.reduceSub, Int.reduceMul, Int.reduceNeg, Int.reducePow, Int.reduceEq, Int.reduceNe, Int.reduceDiv, Int.reduceMod, Int.reduceTDiv, Int.reduceTMod, UInt8.reduceToNat, UInt8.reduceOfNat, List.length_map, ga, gb, ids_all hpl, ren_all hpl, hap1, ids_map ed_pl, ren_map ed_pl, hln]
        refine ⟨(i + 1, k + 1, out ++ [(0, b[k]!)]), ?_, ⟨by simp only; omega, by simp only; omega, by simp; omega, ?_⟩, by simp only; omega⟩
        · simp
        · rw [he, hed, heq]; simp
      · rw [if_neg heq] at hed
        generalize hrow : out.map edR = row at *
        by_cases hc : lc (a.drop i) (b.drop (k + 1)) ≤ lc (a.drop (i + 1)) (b.drop k)
        · rw [if_pos hc] at hed
          rw [decide_eq_true hc] at gr
          simp (disch := (first | omega | (simp only [List.length_set, List.length_append, List.length_cons, List.length_nil, List.length_take, List.length_drop, List.length_map, List.length_replicate]; omega))) only [↓pvd, pv0, pv1, pv2, pv3, pv4, pv5, pv6, pv7, pvc0, pvc1, pvc2, buildC, evP, evR, evE, Pv.get, Pv.put, putO, bin2, int2, binB2, un1, cells, boundO, AV.flat, bv, rowOne, pvf, rvs_1, rvs_2, rvL, rvX, liveB, setParts, szOk, notStr, lim, dedup, place, ent, Pv.new, Pv.newVar, Pv.newVec, setCells, AV.ones, AV.one, resX, entry, layL, layC, layA, lay, List.map, List.foldl, List.replicate, List.length_replicate, ↓reduceIte, reduceCtorEq, Nat.reduceEqDiff, Nat.reduceLT, Nat.reduceLeDiff, Nat.reduceAdd, Nat.reduceSub, Nat.reduceMul, Nat.reducePow, Nat.reduceDiv, Nat.reduceMod, Nat.reduceBEq, Nat.reduceBNe, Int.reduceLT, Int.reduceLE, Int.reduceToNat, Int.reduceAdd, Int.reduceSub, Int.reduceMul, Int.reduceNeg, Int.reducePow, Int.reduceEq, Int.reduceNe, Int.reduceDiv, Int.reduceMod, Int.reduceTDiv, Int.reduceTMod, UInt8.reduceToNat, UInt8.reduceOfNat, List.length_map, ga, gb, heq, gt, gr, hTl, hrl, ids_all hpl, ren_all hpl, hap1, ids_map ed_pl, ren_map ed_pl, hln]
          refine ⟨(i + 1, k, out ++ [(1, a[i]!)]), ?_, ⟨by simp only; omega, by simp only; omega, by simp; omega, ?_⟩, by simp only; omega⟩
          · simp
          · rw [he, hed]; simp
        · rw [if_neg hc] at hed
          rw [decide_eq_false hc] at gr
          simp (disch := (first | omega | (simp only [List.length_set, List.length_append, List.length_cons, List.length_nil, List.length_take, List.length_drop, List.length_map, List.length_replicate]; omega))) only [↓pvd, pv0, pv1, pv2, pv3, pv4, pv5, pv6, pv7, pvc0, pvc1, pvc2, buildC, evP, evR, evE, Pv.get, Pv.put, putO, bin2, int2, binB2, un1, cells, boundO, AV.flat, bv, rowOne, pvf, rvs_1, rvs_2, rvL, rvX, liveB, setParts, szOk, notStr, lim, dedup, place, ent, Pv.new, Pv.newVar, Pv.newVec, setCells, AV.ones, AV.one, resX, entry, layL, layC, layA, lay, List.map, List.foldl, List.replicate, List.length_replicate, ↓reduceIte, reduceCtorEq, Nat.reduceEqDiff, Nat.reduceLT, Nat.reduceLeDiff, Nat.reduceAdd, Nat.reduceSub, Nat.reduceMul, Nat.reducePow, Nat.reduceDiv, Nat.reduceMod, Nat.reduceBEq, Nat.reduceBNe, Int.reduceLT, Int.reduceLE, Int.reduceToNat, Int.reduceAdd, Int.reduceSub, Int.reduceMul, Int.reduceNeg, Int.reducePow, Int.reduceEq, Int.reduceNe, Int.reduceDiv, Int.reduceMod, Int.reduceTDiv, Int.reduceTMod, UInt8.reduceToNat, UInt8.reduceOfNat, List.length_map, ga, gb, heq, gt, gr, hTl, hrl, ids_all hpl, ren_all hpl, hap1, ids_map ed_pl, ren_map ed_pl, hln]
          refine ⟨(i, k + 1, out ++ [(2, b[k]!)]), ?_, ⟨by simp only; omega, by simp only; omega, by simp; omega, ?_⟩, by simp only; omega⟩
          · simp
          · rw [he, hed]; simp
    · have ek : k = b.length := by omega
      have hed : ed (a.drop i) (b.drop k) = (1, a[i]!) :: ed (a.drop (i + 1)) (b.drop k) := by
        rw [da, ek, List.drop_length, ed]
      generalize hrow : out.map edR = row at *
      simp (disch := (first | omega | (simp only [List.length_set, List.length_append, List.length_cons, List.length_nil, List.length_take, List.length_drop, List.length_map, List.length_replicate]; omega))) only [↓pvd, pv0, pv1, pv2, pv3, pv4, pv5, pv6, pv7, pvc0, pvc1, pvc2, buildC, evP, evR, evE, Pv.get, Pv.put, putO, bin2, int2, binB2, un1, cells, boundO, AV.flat, bv, rowOne, pvf, rvs_1, rvs_2, rvL, rvX, liveB, setParts, szOk, notStr, lim, dedup, place, ent, Pv.new, Pv.newVar, Pv.newVec, setCells, AV.ones, AV.one, resX, entry, layL, layC, layA, lay, List.map, List.foldl, List.replicate, List.length_replicate, ↓reduceIte, reduceCtorEq, Nat.reduceEqDiff, Nat.reduceLT, Nat.reduceLeDiff, Nat.reduceAdd, Nat.reduceSub, Nat.reduceMul, Nat.reducePow, Nat.reduceDiv, Nat.reduceMod, Nat.reduceBEq, Nat.reduceBNe, Int.reduceLT, Int.reduceLE, Int.reduceToNat, Int.reduceAdd, Int.reduceSub, Int.reduceMul, Int.reduceNeg, Int.reducePow, Int.reduceEq, Int.reduceNe, Int.reduceDiv, Int.reduceMod, Int.reduceTDiv, Int.reduceTMod, UInt8.reduceToNat, UInt8.reduceOfNat, List.length_map, ga, ids_all hpl, ren_all hpl, hap1, ids_map ed_pl, ren_map ed_pl, hln]
      refine ⟨(i + 1, k, out ++ [(1, a[i]!)]), ?_, ⟨by simp only; omega, by simp only; omega, by simp; omega, ?_⟩, by simp only; omega⟩
      · simp
      · rw [he, hed]; simp
  · have ei : i = a.length := by omega
    by_cases hk2 : k < b.length
    · have gb : (b.map AV.str)[k]? = some (.str b[k]!) := map_get hk2
      have db : b.drop k = b[k]! :: b.drop (k + 1) := by rw [getElem!_pos b k hk2]; exact List.drop_eq_getElem_cons hk2
      have hed : ed (a.drop i) (b.drop k) = (2, b[k]!) :: ed (a.drop i) (b.drop (k + 1)) := by
        rw [db, ei, List.drop_length, ed]
      generalize hrow : out.map edR = row at *
      simp (disch := (first | omega | (simp only [List.length_set, List.length_append, List.length_cons, List.length_nil, List.length_take, List.length_drop, List.length_map, List.length_replicate]; omega))) only [↓pvd, pv0, pv1, pv2, pv3, pv4, pv5, pv6, pv7, pvc0, pvc1, pvc2, buildC, evP, evR, evE, Pv.get, Pv.put, putO, bin2, int2, binB2, un1, cells, boundO, AV.flat, bv, rowOne, pvf, rvs_1, rvs_2, rvL, rvX, liveB, setParts, szOk, notStr, lim, dedup, place, ent, Pv.new, Pv.newVar, Pv.newVec, setCells, AV.ones, AV.one, resX, entry, layL, layC, layA, lay, List.map, List.foldl, List.replicate, List.length_replicate, ↓reduceIte, reduceCtorEq, Nat.reduceEqDiff, Nat.reduceLT, Nat.reduceLeDiff, Nat.reduceAdd, Nat.reduceSub, Nat.reduceMul, Nat.reducePow, Nat.reduceDiv, Nat.reduceMod, Nat.reduceBEq, Nat.reduceBNe, Int.reduceLT, Int.reduceLE, Int.reduceToNat, Int.reduceAdd, Int.reduceSub, Int.reduceMul, Int.reduceNeg, Int.reducePow, Int.reduceEq, Int.reduceNe, Int.reduceDiv, Int.reduceMod, Int.reduceTDiv, Int.reduceTMod, UInt8.reduceToNat, UInt8.reduceOfNat, List.length_map, gb, ids_all hpl, ren_all hpl, hap1, ids_map ed_pl, ren_map ed_pl, hln]
      refine ⟨(i, k + 1, out ++ [(2, b[k]!)]), ?_, ⟨by simp only; omega, by simp only; omega, by simp; omega, ?_⟩, by simp only; omega⟩
      · simp
      · rw [he, hed]; simp
    · have ek : k = b.length := by omega
      have hed : ed a b = out := by rw [he, ei, ek, List.drop_length, List.drop_length, ed]; simp
      rw [hed]
      simp (disch := (first | omega | (simp only [List.length_set, List.length_append, List.length_cons, List.length_nil, List.length_take, List.length_drop, List.length_map, List.length_replicate]; omega))) only [↓pvd, pv0, pv1, pv2, pv3, pv4, pv5, pv6, pv7, pvc0, pvc1, pvc2, buildC, evP, evR, evE, Pv.get, Pv.put, putO, bin2, int2, binB2, un1, cells, boundO, AV.flat, bv, rowOne, pvf, rvs_1, rvs_2, rvL, rvX, liveB, setParts, szOk, notStr, lim, dedup, place, ent, Pv.new, Pv.newVar, Pv.newVec, setCells, AV.ones, AV.one, resX, entry, layL, layC, layA, lay, List.map, List.foldl, List.replicate, List.length_replicate, ↓reduceIte, reduceCtorEq, Nat.reduceEqDiff, Nat.reduceLT, Nat.reduceLeDiff, Nat.reduceAdd, Nat.reduceSub, Nat.reduceMul, Nat.reducePow, Nat.reduceDiv, Nat.reduceMod, Nat.reduceBEq, Nat.reduceBNe, Int.reduceLT, Int.reduceLE, Int.reduceToNat, Int.reduceAdd, Int.reduceSub, Int.reduceMul, Int.reduceNeg, Int.reducePow, Int.reduceEq, Int.reduceNe, Int.reduceDiv, Int.reduceMod, Int.reduceTDiv, Int.reduceTMod, UInt8.reduceToNat, UInt8.reduceOfNat, List.length_map]
      (refine Ends_rq [[.own 2 39]] ?_; simp (disch := (first | omega | (simp only [List.length_set, List.length_append, List.length_cons, List.length_nil, List.length_take, List.length_drop, List.length_map, List.length_replicate]; omega))) only [↓pvd, pv0, pv1, pv2, pv3, pv4, pv5, pv6, pv7, pvc0, pvc1, pvc2, buildC, evP, evR, evE, Pv.get, Pv.put, putO, bin2, int2, binB2, un1, cells, boundO, AV.flat, bv, rowOne, pvf, rvs_1, rvs_2, rvL, rvX, liveB, setParts, szOk, notStr, lim, dedup, place, ent, Pv.new, Pv.newVar, Pv.newVec, setCells, AV.ones, AV.one, resX, entry, layL, layC, layA, lay, List.map, List.foldl, List.replicate, List.length_replicate, ↓reduceIte, reduceCtorEq, Nat.reduceEqDiff, Nat.reduceLT, Nat.reduceLeDiff, Nat.reduceAdd, Nat.reduceSub, Nat.reduceMul, Nat.reducePow, Nat.reduceDiv, Nat.reduceMod, Nat.reduceBEq, Nat.reduceBNe, Int.reduceLT, Int.reduceLE, Int.reduceToNat, Int.reduceAdd, Int.reduceSub, Int.reduceMul, Int.reduceNeg, Int.reducePow, Int.reduceEq, Int.reduceNe, Int.reduceDiv, Int.reduceMod, Int.reduceTDiv, Int.reduceTMod, UInt8.reduceToNat, UInt8.reduceOfNat, ids_map ed_pl, ren_map ed_pl, mapO_map ed_nr, rows_map ed_nr, List.length_map]; exact ⟨_, rfl, rfl, rfl⟩)
theorem drows_run (a b : List (List UInt8)) (f g : Bool) (ha : a.length ≤ 100000) (hb : b.length ≤ 100000) : Run Tryd.prog 7 [.sl 1 (a.map .str) f, .sl 1 (b.map .str) g] (if a.length ≤ 400 ∧ b.length ≤ 400 then .tup [.own 2 39 ((ed a b).map edR), .int .i64 0] else .tup [.sl 0 [] true, .int .i64 3]) := by
  refine Tryd.run7 (by simp) ?_
  unfold Tryd.c7
  by_cases h : a.length ≤ 400 ∧ b.length ≤ 400
  · obtain ⟨h1, h2⟩ := h
    rw [if_pos ⟨h1, h2⟩]
    have q1 := reckon_run a b f g h1 h2
    have q2 := edits_run a b f g h1 h2
    generalize (tabT a b 0).map rowV = T at *
    simp (disch := (first | omega | (simp only [List.length_set, List.length_append, List.length_cons, List.length_nil, List.length_take, List.length_drop, List.length_map, List.length_replicate]; omega))) only [↓pvd, pv0, pv1, pv2, pv3, pv4, pv5, pv6, pv7, pvc0, pvc1, pvc2, buildC, evP, evR, evE, Pv.get, Pv.put, putO, bin2, int2, binB2, un1, cells, boundO, AV.flat, bv, rowOne, pvf, rvs_1, rvs_2, rvL, rvX, liveB, setParts, szOk, notStr, lim, dedup, place, ent, Pv.new, Pv.newVar, Pv.newVec, setCells, AV.ones, AV.one, resX, entry, layL, layC, layA, lay, List.map, List.foldl, List.replicate, List.length_replicate, ↓reduceIte, reduceCtorEq, Nat.reduceEqDiff, Nat.reduceLT, Nat.reduceLeDiff, Nat.reduceAdd, Nat.reduceSub, Nat.reduceMul, Nat.reducePow, Nat.reduceDiv, Nat.reduceMod, Nat.reduceBEq, Nat.reduceBNe, Int.reduceLT, Int.reduceLE, Int.reduceToNat, Int.reduceAdd, Int.reduceSub, Int.reduceMul, Int.reduceNeg, Int.reducePow, Int.reduceEq, Int.reduceNe, Int.reduceDiv, Int.reduceMod, Int.reduceTDiv, Int.reduceTMod, UInt8.reduceToNat, UInt8.reduceOfNat, List.length_map]
    refine awR_call q1 rfl rfl ?_
    simp (disch := (first | omega | (simp only [List.length_set, List.length_append, List.length_cons, List.length_nil, List.length_take, List.length_drop, List.length_map, List.length_replicate] at *; omega))) only [↓pvd, pv0, pv1, pv2, pv3, pv4, pv5, pv6, pv7, pvc0, pvc1, pvc2, buildC, evP, evR, evE, Pv.get, Pv.put, putO, bin2, int2, binB2, un1, cells, boundO, AV.flat, bv, rowOne, pvf, rvs_1, rvs_2, rvL, rvX, liveB, setParts, szOk, notStr, lim, dedup, place, ent, Pv.new, Pv.newVar, Pv.newVec, setCells, AV.ones, AV.one, resX, entry, layL, layC, layA, lay, List.map, List.foldl, List.replicate, List.length_replicate, ↓reduceIte, reduceCtorEq, Nat.reduceEqDiff, Nat.reduceLT, Nat.reduceLeDiff, Nat.reduceAdd, Nat.reduceSub, Nat.reduceMul, Nat.reducePow, Nat.reduceDiv, Nat.reduceMod, Nat.reduceBEq, Nat.reduceBNe, Int.reduceLT, Int.reduceLE, Int.reduceToNat, Int.reduceAdd, Int.reduceSub, Int.reduceMul, Int.reduceNeg, Int.reducePow, Int.reduceEq, Int.reduceNe, Int.reduceDiv, Int.reduceMod, Int.reduceTDiv, Int.reduceTMod, UInt8.reduceToNat, UInt8.reduceOfNat]
    refine awR_call q2 rfl rfl ?_
    simp (disch := (first | omega | (simp only [List.length_set, List.length_append, List.length_cons, List.length_nil, List.length_take, List.length_drop, List.length_map, List.length_replicate] at *; omega))) only [↓pvd, pv0, pv1, pv2, pv3, pv4, pv5, pv6, pv7, pvc0, pvc1, pvc2, buildC, evP, evR, evE, Pv.get, Pv.put, putO, bin2, int2, binB2, un1, cells, boundO, AV.flat, bv, rowOne, pvf, rvs_1, rvs_2, rvL, rvX, liveB, setParts, szOk, notStr, lim, dedup, place, ent, Pv.new, Pv.newVar, Pv.newVec, setCells, AV.ones, AV.one, resX, entry, layL, layC, layA, lay, List.map, List.foldl, List.replicate, List.length_replicate, ↓reduceIte, reduceCtorEq, Nat.reduceEqDiff, Nat.reduceLT, Nat.reduceLeDiff, Nat.reduceAdd, Nat.reduceSub, Nat.reduceMul, Nat.reducePow, Nat.reduceDiv, Nat.reduceMod, Nat.reduceBEq, Nat.reduceBNe, Int.reduceLT, Int.reduceLE, Int.reduceToNat, Int.reduceAdd, Int.reduceSub, Int.reduceMul, Int.reduceNeg, Int.reducePow, Int.reduceEq, Int.reduceNe, Int.reduceDiv, Int.reduceMod, Int.reduceTDiv, Int.reduceTMod, UInt8.reduceToNat, UInt8.reduceOfNat]
    (refine Ends_rq [[.own 2 39], [.snap]] ?_; simp (disch := (first | omega | (simp only [List.length_set, List.length_append, List.length_cons, List.length_nil, List.length_take, List.length_drop, List.length_map, List.length_replicate]; omega))) only [↓pvd, pv0, pv1, pv2, pv3, pv4, pv5, pv6, pv7, pvc0, pvc1, pvc2, buildC, evP, evR, evE, Pv.get, Pv.put, putO, bin2, int2, binB2, un1, cells, boundO, AV.flat, bv, rowOne, pvf, rvs_1, rvs_2, rvL, rvX, liveB, setParts, szOk, notStr, lim, dedup, place, ent, Pv.new, Pv.newVar, Pv.newVec, setCells, AV.ones, AV.one, resX, entry, layL, layC, layA, lay, List.map, List.foldl, List.replicate, List.length_replicate, ↓reduceIte, reduceCtorEq, Nat.reduceEqDiff, Nat.reduceLT, Nat.reduceLeDiff, Nat.reduceAdd, Nat.reduceSub, Nat.reduceMul, Nat.reducePow, Nat.reduceDiv, Nat.reduceMod, Nat.reduceBEq, Nat.reduceBNe, Int.reduceLT, Int.reduceLE, Int.reduceToNat, Int.reduceAdd, Int.reduceSub, Int.reduceMul, Int.reduceNeg, Int.reducePow, Int.reduceEq, Int.reduceNe, Int.reduceDiv, Int.reduceMod, Int.reduceTDiv, Int.reduceTMod, UInt8.reduceToNat, UInt8.reduceOfNat, ids_map ed_pl, ren_map ed_pl, mapO_map ed_nr, rows_map ed_nr, List.length_map]; exact ⟨_, rfl, rfl, rfl⟩)
  · rw [if_neg h]
    by_cases h1 : a.length ≤ 400
    · have : 400 < b.length := by omega
      repeat' (first | (simp (disch := (first | omega | (simp only [List.length_set, List.length_append, List.length_cons, List.length_nil, List.length_take, List.length_drop, List.length_map, List.length_replicate]; omega))) only [↓pvd, pv0, pv1, pv2, pv3, pv4, pv5, pv6, pv7, pvc0, pvc1, pvc2, buildC, evP, evR, evE, Pv.get, Pv.put, putO, bin2, int2, binB2, un1, cells, boundO, AV.flat, bv, rowOne, pvf, rvs_1, rvs_2, rvL, rvX, liveB, setParts, szOk, notStr, lim, dedup, place, ent, Pv.new, Pv.newVar, Pv.newVec, setCells, AV.ones, AV.one, resX, entry, layL, layC, layA, lay, List.map, List.foldl, List.replicate, List.length_replicate, ↓reduceIte, reduceCtorEq, Nat.reduceEqDiff, Nat.reduceLT, Nat.reduceLeDiff, Nat.reduceAdd, Nat.reduceSub, Nat.reduceMul, Nat.reducePow, Nat.reduceDiv, Nat.reduceMod, Nat.reduceBEq, Nat.reduceBNe, Int.reduceLT, Int.reduceLE, Int.reduceToNat, Int.reduceAdd, Int.reduceSub, Int.reduceMul, Int.reduceNeg, Int.reducePow, Int.reduceEq, Int.reduceNe, Int.reduceDiv, Int.reduceMod, Int.reduceTDiv, Int.reduceTMod, UInt8.reduceToNat, UInt8.reduceOfNat, List.length_map, still]) | with_reducible refine condP_d (fun _ => ?_) (fun _ => ?_) | with_reducible refine guardP_d0 (fun _ => ?_) (fun _ => ?_) | with_reducible refine guardP_d1 (fun _ => ?_) (fun _ => ?_) | with_reducible refine condP_any ?_ ?_ | (refine Ends_rq [] ?_; simp (disch := (first | omega | (simp only [List.length_set, List.length_append, List.length_cons, List.length_nil, List.length_take, List.length_drop, List.length_map, List.length_replicate]; omega))) only [↓pvd, pv0, pv1, pv2, pv3, pv4, pv5, pv6, pv7, pvc0, pvc1, pvc2, buildC, evP, evR, evE, Pv.get, Pv.put, putO, bin2, int2, binB2, un1, cells, boundO, AV.flat, bv, rowOne, pvf, rvs_1, rvs_2, rvL, rvX, liveB, setParts, szOk, notStr, lim, dedup, place, ent, Pv.new, Pv.newVar, Pv.newVec, setCells, AV.ones, AV.one, resX, entry, layL, layC, layA, lay, List.map, List.foldl, List.replicate, List.length_replicate, ↓reduceIte, reduceCtorEq, Nat.reduceEqDiff, Nat.reduceLT, Nat.reduceLeDiff, Nat.reduceAdd, Nat.reduceSub, Nat.reduceMul, Nat.reducePow, Nat.reduceDiv, Nat.reduceMod, Nat.reduceBEq, Nat.reduceBNe, Int.reduceLT, Int.reduceLE, Int.reduceToNat, Int.reduceAdd, Int.reduceSub, Int.reduceMul, Int.reduceNeg, Int.reducePow, Int.reduceEq, Int.reduceNe, Int.reduceDiv, Int.reduceMod, Int.reduceTDiv, Int.reduceTMod, UInt8.reduceToNat, UInt8.reduceOfNat]; exact ⟨_, rfl, rfl, rfl⟩))
    · have : 400 < a.length := by omega
      repeat' (first | (simp (disch := (first | omega | (simp only [List.length_set, List.length_append, List.length_cons, List.length_nil, List.length_take, List.length_drop, List.length_map, List.length_replicate]; omega))) only [↓pvd, pv0, pv1, pv2, pv3, pv4, pv5, pv6, pv7, pvc0, pvc1, pvc2, buildC, evP, evR, evE, Pv.get, Pv.put, putO, bin2, int2, binB2, un1, cells, boundO, AV.flat, bv, rowOne, pvf, rvs_1, rvs_2, rvL, rvX, liveB, setParts, szOk, notStr, lim, dedup, place, ent, Pv.new, Pv.newVar, Pv.newVec, setCells, AV.ones, AV.one, resX, entry, layL, layC, layA, lay, List.map, List.foldl, List.replicate, List.length_replicate, ↓reduceIte, reduceCtorEq, Nat.reduceEqDiff, Nat.reduceLT, Nat.reduceLeDiff, Nat.reduceAdd, Nat.reduceSub, Nat.reduceMul, Nat.reducePow, Nat.reduceDiv, Nat.reduceMod, Nat.reduceBEq, Nat.reduceBNe, Int.reduceLT, Int.reduceLE, Int.reduceToNat, Int.reduceAdd, Int.reduceSub, Int.reduceMul, Int.reduceNeg, Int.reducePow, Int.reduceEq, Int.reduceNe, Int.reduceDiv, Int.reduceMod, Int.reduceTDiv, Int.reduceTMod, UInt8.reduceToNat, UInt8.reduceOfNat, List.length_map, still]) | with_reducible refine condP_d (fun _ => ?_) (fun _ => ?_) | with_reducible refine guardP_d0 (fun _ => ?_) (fun _ => ?_) | with_reducible refine guardP_d1 (fun _ => ?_) (fun _ => ?_) | with_reducible refine condP_any ?_ ?_ | (refine Ends_rq [] ?_; simp (disch := (first | omega | (simp only [List.length_set, List.length_append, List.length_cons, List.length_nil, List.length_take, List.length_drop, List.length_map, List.length_replicate]; omega))) only [↓pvd, pv0, pv1, pv2, pv3, pv4, pv5, pv6, pv7, pvc0, pvc1, pvc2, buildC, evP, evR, evE, Pv.get, Pv.put, putO, bin2, int2, binB2, un1, cells, boundO, AV.flat, bv, rowOne, pvf, rvs_1, rvs_2, rvL, rvX, liveB, setParts, szOk, notStr, lim, dedup, place, ent, Pv.new, Pv.newVar, Pv.newVec, setCells, AV.ones, AV.one, resX, entry, layL, layC, layA, lay, List.map, List.foldl, List.replicate, List.length_replicate, ↓reduceIte, reduceCtorEq, Nat.reduceEqDiff, Nat.reduceLT, Nat.reduceLeDiff, Nat.reduceAdd, Nat.reduceSub, Nat.reduceMul, Nat.reducePow, Nat.reduceDiv, Nat.reduceMod, Nat.reduceBEq, Nat.reduceBNe, Int.reduceLT, Int.reduceLE, Int.reduceToNat, Int.reduceAdd, Int.reduceSub, Int.reduceMul, Int.reduceNeg, Int.reducePow, Int.reduceEq, Int.reduceNe, Int.reduceDiv, Int.reduceMod, Int.reduceTDiv, Int.reduceTMod, UInt8.reduceToNat, UInt8.reduceOfNat]; exact ⟨_, rfl, rfl, rfl⟩))
end Go.Proofs

set_option linter.unusedSimpArgs false
set_option linter.unusedVariables false
set_option maxHeartbeats 2000000
set_option maxRecDepth 20000
namespace Go.Proofs
open Go.Pv Go.Pv.Df
theorem told_run (l : List (Int × List UInt8)) (f : Bool) (hl : l.length ≤ 1000) : Run Tryd.prog 14 [.sl 2 (l.map edR) f] (.own 2 58 (l.map edR)) := by
  refine Tryd.run14 (by simp) ?_
  unfold Tryd.c14
  simp (disch := (first | omega | (simp only [List.length_set, List.length_append, List.length_cons, List.length_nil, List.length_take, List.length_drop, List.length_map, List.length_replicate]; omega))) only [↓pvd, pv0, pv1, pv2, pv3, pv4, pv5, pv6, pv7, pvc0, pvc1, pvc2, buildC, evP, evR, evE, Pv.get, Pv.put, putO, bin2, int2, binB2, un1, cells, boundO, AV.flat, bv, rowOne, pvf, rvs_1, rvs_2, rvL, rvX, liveB, setParts, szOk, notStr, lim, dedup, place, ent, Pv.new, Pv.newVar, Pv.newVec, setCells, AV.ones, AV.one, resX, entry, layL, layC, layA, lay, List.map, List.foldl, List.replicate, List.length_replicate, ↓reduceIte, reduceCtorEq, Nat.reduceEqDiff, Nat.reduceLT, Nat.reduceLeDiff, Nat.reduceAdd, Nat.reduceSub, Nat.reduceMul, Nat.reducePow, Nat.reduceDiv, Nat.reduceMod, Nat.reduceBEq, Nat.reduceBNe, Int.reduceLT, Int.reduceLE, Int.reduceToNat, Int.reduceAdd, Int.reduceSub, Int.reduceMul, Int.reduceNeg, Int.reducePow, Int.reduceEq, Int.reduceNe, Int.reduceDiv, Int.reduceMod, Int.reduceTDiv, Int.reduceTMod, UInt8.reduceToNat, UInt8.reduceOfNat, List.length_map]
  refine aw_loop (fun k : Nat => ⟨[(3, .vec 0 2 0 k), (6, .sl 2 (l.map edR) f), (7, .int .i64 l.length), (8, .int .i64 k)], [some ⟨58, (l.take k).map edR, true⟩]⟩) (fun k => k ≤ l.length) (fun k => l.length - k) 0 ?_ (by omega) ?_
  · simp (disch := (first | omega | (simp only [List.length_set, List.length_append, List.length_cons, List.length_nil, List.length_take, List.length_drop, List.length_map, List.length_replicate] at *; omega))) only [↓pvd, pv0, pv1, pv2, pv3, pv4, pv5, pv6, pv7, pvc0, pvc1, pvc2, buildC, evP, evR, evE, Pv.get, Pv.put, putO, bin2, int2, binB2, un1, cells, boundO, AV.flat, bv, rowOne, pvf, rvs_1, rvs_2, rvL, rvX, liveB, setParts, szOk, notStr, lim, dedup, place, ent, Pv.new, Pv.newVar, Pv.newVec, setCells, AV.ones, AV.one, resX, entry, layL, layC, layA, lay, List.map, List.foldl, List.replicate, List.length_replicate, ↓reduceIte, reduceCtorEq, Nat.reduceEqDiff, Nat.reduceLT, Nat.reduceLeDiff, Nat.reduceAdd, Nat.reduceSub, Nat.reduceMul, Nat.reducePow, Nat.reduceDiv, Nat.reduceMod, Nat.reduceBEq, Nat.reduceBNe, Int.reduceLT, Int.reduceLE, Int.reduceToNat, Int.reduceAdd, Int.reduceSub, Int.reduceMul, Int.reduceNeg, Int.reducePow, Int.reduceEq, Int.reduceNe, Int.reduceDiv, Int.reduceMod, Int.reduceTDiv, Int.reduceTMod, UInt8.reduceToNat, UInt8.reduceOfNat]
    try simp
  intro k hk
  unfold Tryd.c14b0
  have htl : ((l.take k).map edR).length = k := by simp; omega
  have hpl : ((l.take k).map edR).all AV.pl = true := pl_map ed_pl
  by_cases hx : k < l.length
  · have hgi : (l.map edR)[k]? = some (.agg [.int .i64 l[k]!.1, .str l[k]!.2]) := map_get hx
    have hap : (l.take k).map edR ++ [AV.agg [.int .i64 l[k]!.1, .str l[k]!.2]] = (l.take (k + 1)).map edR := by rw [take_snoc hx]; simp [edR]
    generalize hrow : (l.take k).map edR = row at *
    simp (disch := (first | omega | (simp only [List.length_set, List.length_append, List.length_cons, List.length_nil, List.length_take, List.length_drop, List.length_map, List.length_replicate]; omega))) only [↓pvd, pv0, pv1, pv2, pv3, pv4, pv5, pv6, pv7, pvc0, pvc1, pvc2, buildC, evP, evR, evE, Pv.get, Pv.put, putO, bin2, int2, binB2, un1, cells, boundO, AV.flat, bv, rowOne, pvf, rvs_1, rvs_2, rvL, rvX, liveB, setParts, szOk, notStr, lim, dedup, place, ent, Pv.new, Pv.newVar, Pv.newVec, setCells, AV.ones, AV.one, resX, entry, layL, layC, layA, lay, List.map, List.foldl, List.replicate, List.length_replicate, ↓reduceIte, reduceCtorEq, Nat.reduceEqDiff, Nat.reduceLT, Nat.reduceLeDiff, Nat.reduceAdd, Nat.reduceSub, Nat.reduceMul, Nat.reducePow, Nat.reduceDiv, Nat.reduceMod, Nat.reduceBEq, Nat.reduceBNe, Int.reduceLT, Int.reduceLE, Int.reduceToNat, Int.reduceAdd, Int.reduceSub, Int.reduceMul, Int.reduceNeg, Int.reducePow, Int.reduceEq, Int.reduceNe, Int.reduceDiv, Int.reduceMod, Int.reduceTDiv, Int.reduceTMod, UInt8.reduceToNat, UInt8.reduceOfNat, hgi, ids_all hpl, ren_all hpl, ids_map ed_pl, ren_map ed_pl, htl, hap]
    exact ⟨k + 1, by simp, hx, by omega⟩
  · have e : k = l.length := by omega
    have htk : l.take k = l := List.take_of_length_le (by omega)
    rw [htk] at htl ⊢
    simp (disch := (first | omega | (simp only [List.length_set, List.length_append, List.length_cons, List.length_nil, List.length_take, List.length_drop, List.length_map, List.length_replicate]; omega))) only [↓pvd, pv0, pv1, pv2, pv3, pv4, pv5, pv6, pv7, pvc0, pvc1, pvc2, buildC, evP, evR, evE, Pv.get, Pv.put, putO, bin2, int2, binB2, un1, cells, boundO, AV.flat, bv, rowOne, pvf, rvs_1, rvs_2, rvL, rvX, liveB, setParts, szOk, notStr, lim, dedup, place, ent, Pv.new, Pv.newVar, Pv.newVec, setCells, AV.ones, AV.one, resX, entry, layL, layC, layA, lay, List.map, List.foldl, List.replicate, List.length_replicate, ↓reduceIte, reduceCtorEq, Nat.reduceEqDiff, Nat.reduceLT, Nat.reduceLeDiff, Nat.reduceAdd, Nat.reduceSub, Nat.reduceMul, Nat.reducePow, Nat.reduceDiv, Nat.reduceMod, Nat.reduceBEq, Nat.reduceBNe, Int.reduceLT, Int.reduceLE, Int.reduceToNat, Int.reduceAdd, Int.reduceSub, Int.reduceMul, Int.reduceNeg, Int.reducePow, Int.reduceEq, Int.reduceNe, Int.reduceDiv, Int.reduceMod, Int.reduceTDiv, Int.reduceTMod, UInt8.reduceToNat, UInt8.reduceOfNat, htl]
    (refine Ends_rq [[.own 2 58]] ?_; simp (disch := (first | omega | (simp only [List.length_set, List.length_append, List.length_cons, List.length_nil, List.length_take, List.length_drop, List.length_map, List.length_replicate]; omega))) only [↓pvd, pv0, pv1, pv2, pv3, pv4, pv5, pv6, pv7, pvc0, pvc1, pvc2, buildC, evP, evR, evE, Pv.get, Pv.put, putO, bin2, int2, binB2, un1, cells, boundO, AV.flat, bv, rowOne, pvf, rvs_1, rvs_2, rvL, rvX, liveB, setParts, szOk, notStr, lim, dedup, place, ent, Pv.new, Pv.newVar, Pv.newVec, setCells, AV.ones, AV.one, resX, entry, layL, layC, layA, lay, List.map, List.foldl, List.replicate, List.length_replicate, ↓reduceIte, reduceCtorEq, Nat.reduceEqDiff, Nat.reduceLT, Nat.reduceLeDiff, Nat.reduceAdd, Nat.reduceSub, Nat.reduceMul, Nat.reducePow, Nat.reduceDiv, Nat.reduceMod, Nat.reduceBEq, Nat.reduceBNe, Int.reduceLT, Int.reduceLE, Int.reduceToNat, Int.reduceAdd, Int.reduceSub, Int.reduceMul, Int.reduceNeg, Int.reducePow, Int.reduceEq, Int.reduceNe, Int.reduceDiv, Int.reduceMod, Int.reduceTDiv, Int.reduceTMod, UInt8.reduceToNat, UInt8.reduceOfNat, ids_map ed_pl, ren_map ed_pl, mapO_map ed_nr, rows_map ed_nr, List.length_map, htl, e]; exact ⟨_, rfl, rfl, rfl⟩)
theorem same_run (l : List (Int × List UInt8)) (f g : Bool) (hl : l.length ≤ 1000) : Run Tryd.prog 16 [.sl 2 (l.map edR) f, .sl 2 (l.map edR) g] (.bool true) := by
  refine Tryd.run16 (by simp) ?_
  unfold Tryd.c16
  simp (disch := (first | omega | (simp only [List.length_set, List.length_append, List.length_cons, List.length_nil, List.length_take, List.length_drop, List.length_map, List.length_replicate]; omega))) only [↓pvd, pv0, pv1, pv2, pv3, pv4, pv5, pv6, pv7, pvc0, pvc1, pvc2, buildC, evP, evR, evE, Pv.get, Pv.put, putO, bin2, int2, binB2, un1, cells, boundO, AV.flat, bv, rowOne, pvf, rvs_1, rvs_2, rvL, rvX, liveB, setParts, szOk, notStr, lim, dedup, place, ent, Pv.new, Pv.newVar, Pv.newVec, setCells, AV.ones, AV.one, resX, entry, layL, layC, layA, lay, List.map, List.foldl, List.replicate, List.length_replicate, ↓reduceIte, reduceCtorEq, Nat.reduceEqDiff, Nat.reduceLT, Nat.reduceLeDiff, Nat.reduceAdd, Nat.reduceSub, Nat.reduceMul, Nat.reducePow, Nat.reduceDiv, Nat.reduceMod, Nat.reduceBEq, Nat.reduceBNe, Int.reduceLT, Int.reduceLE, Int.reduceToNat, Int.reduceAdd, Int.reduceSub, Int.reduceMul, Int.reduceNeg, Int.reducePow, Int.reduceEq, Int.reduceNe, Int.reduceDiv, Int.reduceMod, Int.reduceTDiv, Int.reduceTMod, UInt8.reduceToNat, UInt8.reduceOfNat, List.length_map]
  refine aw_loop (fun k : Nat => ⟨[(0, .sl 2 (l.map edR) f), (1, .sl 2 (l.map edR) g), (5, .int .i64 k)], []⟩) (fun k => k ≤ l.length) (fun k => l.length - k) 0 ?_ (by omega) ?_
  · simp (disch := (first | omega | (simp only [List.length_set, List.length_append, List.length_cons, List.length_nil, List.length_take, List.length_drop, List.length_map, List.length_replicate] at *; omega))) only [↓pvd, pv0, pv1, pv2, pv3, pv4, pv5, pv6, pv7, pvc0, pvc1, pvc2, buildC, evP, evR, evE, Pv.get, Pv.put, putO, bin2, int2, binB2, un1, cells, boundO, AV.flat, bv, rowOne, pvf, rvs_1, rvs_2, rvL, rvX, liveB, setParts, szOk, notStr, lim, dedup, place, ent, Pv.new, Pv.newVar, Pv.newVec, setCells, AV.ones, AV.one, resX, entry, layL, layC, layA, lay, List.map, List.foldl, List.replicate, List.length_replicate, ↓reduceIte, reduceCtorEq, Nat.reduceEqDiff, Nat.reduceLT, Nat.reduceLeDiff, Nat.reduceAdd, Nat.reduceSub, Nat.reduceMul, Nat.reducePow, Nat.reduceDiv, Nat.reduceMod, Nat.reduceBEq, Nat.reduceBNe, Int.reduceLT, Int.reduceLE, Int.reduceToNat, Int.reduceAdd, Int.reduceSub, Int.reduceMul, Int.reduceNeg, Int.reducePow, Int.reduceEq, Int.reduceNe, Int.reduceDiv, Int.reduceMod, Int.reduceTDiv, Int.reduceTMod, UInt8.reduceToNat, UInt8.reduceOfNat]
    try simp
  intro k hk
  unfold Tryd.c16b0
  by_cases hx : k < l.length
  · have hgi : (l.map edR)[k]? = some (.agg [.int .i64 l[k]!.1, .str l[k]!.2]) := map_get hx
    repeat' (first | (simp (disch := (first | omega | (simp only [List.length_set, List.length_append, List.length_cons, List.length_nil, List.length_take, List.length_drop, List.length_map, List.length_replicate]; omega))) only [↓pvd, pv0, pv1, pv2, pv3, pv4, pv5, pv6, pv7, pvc0, pvc1, pvc2, buildC, evP, evR, evE, Pv.get, Pv.put, putO, bin2, int2, binB2, un1, cells, boundO, AV.flat, bv, rowOne, pvf, rvs_1, rvs_2, rvL, rvX, liveB, setParts, szOk, notStr, lim, dedup, place, ent, Pv.new, Pv.newVar, Pv.newVec, setCells, AV.ones, AV.one, resX, entry, layL, layC, layA, lay, List.map, List.foldl, List.replicate, List.length_replicate, ↓reduceIte, reduceCtorEq, Nat.reduceEqDiff, Nat.reduceLT, Nat.reduceLeDiff, Nat.reduceAdd, Nat.reduceSub, Nat.reduceMul, Nat.reducePow, Nat.reduceDiv, Nat.reduceMod, Nat.reduceBEq, Nat.reduceBNe, Int.reduceLT, Int.reduceLE, Int.reduceToNat, Int.reduceAdd, Int.reduceSub, Int.reduceMul, Int.reduceNeg, Int.reducePow, Int.reduceEq, Int.reduceNe, Int.reduceDiv, Int.reduceMod, Int.reduceTDiv, Int.reduceTMod, UInt8.reduceToNat, UInt8.reduceOfNat, hgi, List.length_map, eqCells, Option.map_some, beq_self_eq_true, Bool.true_and, Bool.and_true, Bool.and_self, Bool.not_true, still]) | with_reducible refine condP_d (fun _ => ?_) (fun _ => ?_) | with_reducible refine guardP_d0 (fun _ => ?_) (fun _ => ?_) | with_reducible refine guardP_d1 (fun _ => ?_) (fun _ => ?_) | with_reducible refine condP_any ?_ ?_ | (refine Ends_rq [] ?_; simp (disch := (first | omega | (simp only [List.length_set, List.length_append, List.length_cons, List.length_nil, List.length_take, List.length_drop, List.length_map, List.length_replicate]; omega))) only [↓pvd, pv0, pv1, pv2, pv3, pv4, pv5, pv6, pv7, pvc0, pvc1, pvc2, buildC, evP, evR, evE, Pv.get, Pv.put, putO, bin2, int2, binB2, un1, cells, boundO, AV.flat, bv, rowOne, pvf, rvs_1, rvs_2, rvL, rvX, liveB, setParts, szOk, notStr, lim, dedup, place, ent, Pv.new, Pv.newVar, Pv.newVec, setCells, AV.ones, AV.one, resX, entry, layL, layC, layA, lay, List.map, List.foldl, List.replicate, List.length_replicate, ↓reduceIte, reduceCtorEq, Nat.reduceEqDiff, Nat.reduceLT, Nat.reduceLeDiff, Nat.reduceAdd, Nat.reduceSub, Nat.reduceMul, Nat.reducePow, Nat.reduceDiv, Nat.reduceMod, Nat.reduceBEq, Nat.reduceBNe, Int.reduceLT, Int.reduceLE, Int.reduceToNat, Int.reduceAdd, Int.reduceSub, Int.reduceMul, Int.reduceNeg, Int.reducePow, Int.reduceEq, Int.reduceNe, Int.reduceDiv, Int.reduceMod, Int.reduceTDiv, Int.reduceTMod, UInt8.reduceToNat, UInt8.reduceOfNat]; exact ⟨_, rfl, rfl, rfl⟩))
    exact ⟨k + 1, by simp, hx, by omega⟩
  · repeat' (first | (simp (disch := (first | omega | (simp only [List.length_set, List.length_append, List.length_cons, List.length_nil, List.length_take, List.length_drop, List.length_map, List.length_replicate]; omega))) only [↓pvd, pv0, pv1, pv2, pv3, pv4, pv5, pv6, pv7, pvc0, pvc1, pvc2, buildC, evP, evR, evE, Pv.get, Pv.put, putO, bin2, int2, binB2, un1, cells, boundO, AV.flat, bv, rowOne, pvf, rvs_1, rvs_2, rvL, rvX, liveB, setParts, szOk, notStr, lim, dedup, place, ent, Pv.new, Pv.newVar, Pv.newVec, setCells, AV.ones, AV.one, resX, entry, layL, layC, layA, lay, List.map, List.foldl, List.replicate, List.length_replicate, ↓reduceIte, reduceCtorEq, Nat.reduceEqDiff, Nat.reduceLT, Nat.reduceLeDiff, Nat.reduceAdd, Nat.reduceSub, Nat.reduceMul, Nat.reducePow, Nat.reduceDiv, Nat.reduceMod, Nat.reduceBEq, Nat.reduceBNe, Int.reduceLT, Int.reduceLE, Int.reduceToNat, Int.reduceAdd, Int.reduceSub, Int.reduceMul, Int.reduceNeg, Int.reducePow, Int.reduceEq, Int.reduceNe, Int.reduceDiv, Int.reduceMod, Int.reduceTDiv, Int.reduceTMod, UInt8.reduceToNat, UInt8.reduceOfNat, List.length_map, still]) | with_reducible refine condP_d (fun _ => ?_) (fun _ => ?_) | with_reducible refine guardP_d0 (fun _ => ?_) (fun _ => ?_) | with_reducible refine guardP_d1 (fun _ => ?_) (fun _ => ?_) | with_reducible refine condP_any ?_ ?_ | (refine Ends_rq [] ?_; simp (disch := (first | omega | (simp only [List.length_set, List.length_append, List.length_cons, List.length_nil, List.length_take, List.length_drop, List.length_map, List.length_replicate]; omega))) only [↓pvd, pv0, pv1, pv2, pv3, pv4, pv5, pv6, pv7, pvc0, pvc1, pvc2, buildC, evP, evR, evE, Pv.get, Pv.put, putO, bin2, int2, binB2, un1, cells, boundO, AV.flat, bv, rowOne, pvf, rvs_1, rvs_2, rvL, rvX, liveB, setParts, szOk, notStr, lim, dedup, place, ent, Pv.new, Pv.newVar, Pv.newVec, setCells, AV.ones, AV.one, resX, entry, layL, layC, layA, lay, List.map, List.foldl, List.replicate, List.length_replicate, ↓reduceIte, reduceCtorEq, Nat.reduceEqDiff, Nat.reduceLT, Nat.reduceLeDiff, Nat.reduceAdd, Nat.reduceSub, Nat.reduceMul, Nat.reducePow, Nat.reduceDiv, Nat.reduceMod, Nat.reduceBEq, Nat.reduceBNe, Int.reduceLT, Int.reduceLE, Int.reduceToNat, Int.reduceAdd, Int.reduceSub, Int.reduceMul, Int.reduceNeg, Int.reducePow, Int.reduceEq, Int.reduceNe, Int.reduceDiv, Int.reduceMod, Int.reduceTDiv, Int.reduceTMod, UInt8.reduceToNat, UInt8.reduceOfNat]; exact ⟨_, rfl, rfl, rfl⟩))
theorem cnt_snoc (l : List (Int × List UInt8)) (e : Int × List UInt8) : cnt (l ++ [e]) = if e.1 = 0 then cnt l else cnt l + 1 := by
  unfold cnt
  by_cases h : e.1 = 0 <;> simp [h]
theorem cnt_le (l : List (Int × List UInt8)) : cnt l ≤ l.length := List.length_filter_le _ _
theorem size_run (l : List (Int × List UInt8)) (f : Bool) (hl : l.length ≤ 1000) : Run Tryd.prog 18 [.sl 2 (l.map edR) f] (.int .i64 (cnt l : Nat)) := by
  refine Tryd.run18 (by simp) ?_
  unfold Tryd.c18
  simp (disch := (first | omega | (simp only [List.length_set, List.length_append, List.length_cons, List.length_nil, List.length_take, List.length_drop, List.length_map, List.length_replicate]; omega))) only [↓pvd, pv0, pv1, pv2, pv3, pv4, pv5, pv6, pv7, pvc0, pvc1, pvc2, buildC, evP, evR, evE, Pv.get, Pv.put, putO, bin2, int2, binB2, un1, cells, boundO, AV.flat, bv, rowOne, pvf, rvs_1, rvs_2, rvL, rvX, liveB, setParts, szOk, notStr, lim, dedup, place, ent, Pv.new, Pv.newVar, Pv.newVec, setCells, AV.ones, AV.one, resX, entry, layL, layC, layA, lay, List.map, List.foldl, List.replicate, List.length_replicate, ↓reduceIte, reduceCtorEq, Nat.reduceEqDiff, Nat.reduceLT, Nat.reduceLeDiff, Nat.reduceAdd, Nat.reduceSub, Nat.reduceMul, Nat.reducePow, Nat.reduceDiv, Nat.reduceMod, Nat.reduceBEq, Nat.reduceBNe, Int.reduceLT, Int.reduceLE, Int.reduceToNat, Int.reduceAdd, Int.reduceSub, Int.reduceMul, Int.reduceNeg, Int.reducePow, Int.reduceEq, Int.reduceNe, Int.reduceDiv, Int.reduceMod, Int.reduceTDiv, Int.reduceTMod, UInt8.reduceToNat, UInt8.reduceOfNat, List.length_map]
  refine aw_loop (fun k : Nat => ⟨[(3, .int .i64 (cnt (l.take k) : Nat)), (6, .sl 2 (l.map edR) f), (7, .int .i64 l.length), (8, .int .i64 k)], []⟩) (fun k => k ≤ l.length) (fun k => l.length - k) 0 ?_ (by omega) ?_
  · simp (disch := (first | omega | (simp only [List.length_set, List.length_append, List.length_cons, List.length_nil, List.length_take, List.length_drop, List.length_map, List.length_replicate] at *; omega))) only [↓pvd, pv0, pv1, pv2, pv3, pv4, pv5, pv6, pv7, pvc0, pvc1, pvc2, buildC, evP, evR, evE, Pv.get, Pv.put, putO, bin2, int2, binB2, un1, cells, boundO, AV.flat, bv, rowOne, pvf, rvs_1, rvs_2, rvL, rvX, liveB, setParts, szOk, notStr, lim, dedup, place, ent, Pv.new, Pv.newVar, Pv.newVec, setCells, AV.ones, AV.one, resX, entry, layL, layC, layA, lay, List.map, List.foldl, List.replicate, List.length_replicate, ↓reduceIte, reduceCtorEq, Nat.reduceEqDiff, Nat.reduceLT, Nat.reduceLeDiff, Nat.reduceAdd, Nat.reduceSub, Nat.reduceMul, Nat.reducePow, Nat.reduceDiv, Nat.reduceMod, Nat.reduceBEq, Nat.reduceBNe, Int.reduceLT, Int.reduceLE, Int.reduceToNat, Int.reduceAdd, Int.reduceSub, Int.reduceMul, Int.reduceNeg, Int.reducePow, Int.reduceEq, Int.reduceNe, Int.reduceDiv, Int.reduceMod, Int.reduceTDiv, Int.reduceTMod, UInt8.reduceToNat, UInt8.reduceOfNat]
    try simp [cnt]
  intro k hk
  unfold Tryd.c18b0
  have hc := cnt_le (l.take k)
  simp only [List.length_take] at hc
  by_cases hx : k < l.length
  · have hgi : (l.map edR)[k]? = some (.agg [.int .i64 l[k]!.1, .str l[k]!.2]) := map_get hx
    have hs : cnt (l.take (k + 1)) = if l[k]!.1 = 0 then cnt (l.take k) else cnt (l.take k) + 1 := by rw [take_snoc hx, cnt_snoc]
    by_cases h0 : l[k]!.1 = 0
    · rw [if_pos h0] at hs
      rw [h0] at hgi
      repeat' (first | (simp (disch := (first | omega | (simp only [List.length_set, List.length_append, List.length_cons, List.length_nil, List.length_take, List.length_drop, List.length_map, List.length_replicate]; omega))) only [↓pvd, pv0, pv1, pv2, pv3, pv4, pv5, pv6, pv7, pvc0, pvc1, pvc2, buildC, evP, evR, evE, Pv.get, Pv.put, putO, bin2, int2, binB2, un1, cells, boundO, AV.flat, bv, rowOne, pvf, rvs_1, rvs_2, rvL, rvX, liveB, setParts, szOk, notStr, lim, dedup, place, ent, Pv.new, Pv.newVar, Pv.newVec, setCells, AV.ones, AV.one, resX, entry, layL, layC, layA, lay, List.map, List.foldl, List.replicate, List.length_replicate, ↓reduceIte, reduceCtorEq, Nat.reduceEqDiff, Nat.reduceLT, Nat.reduceLeDiff, Nat.reduceAdd, Nat.reduceSub, Nat.reduceMul, Nat.reducePow, Nat.reduceDiv, Nat.reduceMod, Nat.reduceBEq, Nat.reduceBNe, Int.reduceLT, Int.reduceLE, Int.reduceToNat, Int.reduceAdd, Int.reduceSub, Int.reduceMul, Int.reduceNeg, Int.reducePow, Int.reduceEq, Int.reduceNe, Int.reduceDiv, Int.reduceMod, Int.reduceTDiv, Int.reduceTMod, UInt8.reduceToNat, UInt8.reduceOfNat, hgi, still]) | with_reducible refine condP_d (fun _ => ?_) (fun _ => ?_) | with_reducible refine guardP_d0 (fun _ => ?_) (fun _ => ?_) | with_reducible refine guardP_d1 (fun _ => ?_) (fun _ => ?_) | with_reducible refine condP_any ?_ ?_ | (refine Ends_rq [] ?_; simp (disch := (first | omega | (simp only [List.length_set, List.length_append, List.length_cons, List.length_nil, List.length_take, List.length_drop, List.length_map, List.length_replicate]; omega))) only [↓pvd, pv0, pv1, pv2, pv3, pv4, pv5, pv6, pv7, pvc0, pvc1, pvc2, buildC, evP, evR, evE, Pv.get, Pv.put, putO, bin2, int2, binB2, un1, cells, boundO, AV.flat, bv, rowOne, pvf, rvs_1, rvs_2, rvL, rvX, liveB, setParts, szOk, notStr, lim, dedup, place, ent, Pv.new, Pv.newVar, Pv.newVec, setCells, AV.ones, AV.one, resX, entry, layL, layC, layA, lay, List.map, List.foldl, List.replicate, List.length_replicate, ↓reduceIte, reduceCtorEq, Nat.reduceEqDiff, Nat.reduceLT, Nat.reduceLeDiff, Nat.reduceAdd, Nat.reduceSub, Nat.reduceMul, Nat.reducePow, Nat.reduceDiv, Nat.reduceMod, Nat.reduceBEq, Nat.reduceBNe, Int.reduceLT, Int.reduceLE, Int.reduceToNat, Int.reduceAdd, Int.reduceSub, Int.reduceMul, Int.reduceNeg, Int.reducePow, Int.reduceEq, Int.reduceNe, Int.reduceDiv, Int.reduceMod, Int.reduceTDiv, Int.reduceTMod, UInt8.reduceToNat, UInt8.reduceOfNat]; exact ⟨_, rfl, rfl, rfl⟩))
      exact ⟨k + 1, by rw [hs]; simp, hx, by omega⟩
    · rw [if_neg h0] at hs
      generalize hcc : cnt (l.take k) = C at *
      repeat' (first | (simp (disch := (first | omega | (simp only [List.length_set, List.length_append, List.length_cons, List.length_nil, List.length_take, List.length_drop, List.length_map, List.length_replicate]; omega))) only [↓pvd, pv0, pv1, pv2, pv3, pv4, pv5, pv6, pv7, pvc0, pvc1, pvc2, buildC, evP, evR, evE, Pv.get, Pv.put, putO, bin2, int2, binB2, un1, cells, boundO, AV.flat, bv, rowOne, pvf, rvs_1, rvs_2, rvL, rvX, liveB, setParts, szOk, notStr, lim, dedup, place, ent, Pv.new, Pv.newVar, Pv.newVec, setCells, AV.ones, AV.one, resX, entry, layL, layC, layA, lay, List.map, List.foldl, List.replicate, List.length_replicate, ↓reduceIte, reduceCtorEq, Nat.reduceEqDiff, Nat.reduceLT, Nat.reduceLeDiff, Nat.reduceAdd, Nat.reduceSub, Nat.reduceMul, Nat.reducePow, Nat.reduceDiv, Nat.reduceMod, Nat.reduceBEq, Nat.reduceBNe, Int.reduceLT, Int.reduceLE, Int.reduceToNat, Int.reduceAdd, Int.reduceSub, Int.reduceMul, Int.reduceNeg, Int.reducePow, Int.reduceEq, Int.reduceNe, Int.reduceDiv, Int.reduceMod, Int.reduceTDiv, Int.reduceTMod, UInt8.reduceToNat, UInt8.reduceOfNat, hgi, still]) | with_reducible refine condP_d (fun _ => ?_) (fun _ => ?_) | with_reducible refine guardP_d0 (fun _ => ?_) (fun _ => ?_) | with_reducible refine guardP_d1 (fun _ => ?_) (fun _ => ?_) | with_reducible refine condP_any ?_ ?_ | (refine Ends_rq [] ?_; simp (disch := (first | omega | (simp only [List.length_set, List.length_append, List.length_cons, List.length_nil, List.length_take, List.length_drop, List.length_map, List.length_replicate]; omega))) only [↓pvd, pv0, pv1, pv2, pv3, pv4, pv5, pv6, pv7, pvc0, pvc1, pvc2, buildC, evP, evR, evE, Pv.get, Pv.put, putO, bin2, int2, binB2, un1, cells, boundO, AV.flat, bv, rowOne, pvf, rvs_1, rvs_2, rvL, rvX, liveB, setParts, szOk, notStr, lim, dedup, place, ent, Pv.new, Pv.newVar, Pv.newVec, setCells, AV.ones, AV.one, resX, entry, layL, layC, layA, lay, List.map, List.foldl, List.replicate, List.length_replicate, ↓reduceIte, reduceCtorEq, Nat.reduceEqDiff, Nat.reduceLT, Nat.reduceLeDiff, Nat.reduceAdd, Nat.reduceSub, Nat.reduceMul, Nat.reducePow, Nat.reduceDiv, Nat.reduceMod, Nat.reduceBEq, Nat.reduceBNe, Int.reduceLT, Int.reduceLE, Int.reduceToNat, Int.reduceAdd, Int.reduceSub, Int.reduceMul, Int.reduceNeg, Int.reducePow, Int.reduceEq, Int.reduceNe, Int.reduceDiv, Int.reduceMod, Int.reduceTDiv, Int.reduceTMod, UInt8.reduceToNat, UInt8.reduceOfNat]; exact ⟨_, rfl, rfl, rfl⟩))
      exact ⟨k + 1, by rw [hs]; simp, hx, by omega⟩
  · have htk : l.take k = l := List.take_of_length_le (by omega)
    rw [htk]
    repeat' (first | (simp (disch := (first | omega | (simp only [List.length_set, List.length_append, List.length_cons, List.length_nil, List.length_take, List.length_drop, List.length_map, List.length_replicate]; omega))) only [↓pvd, pv0, pv1, pv2, pv3, pv4, pv5, pv6, pv7, pvc0, pvc1, pvc2, buildC, evP, evR, evE, Pv.get, Pv.put, putO, bin2, int2, binB2, un1, cells, boundO, AV.flat, bv, rowOne, pvf, rvs_1, rvs_2, rvL, rvX, liveB, setParts, szOk, notStr, lim, dedup, place, ent, Pv.new, Pv.newVar, Pv.newVec, setCells, AV.ones, AV.one, resX, entry, layL, layC, layA, lay, List.map, List.foldl, List.replicate, List.length_replicate, ↓reduceIte, reduceCtorEq, Nat.reduceEqDiff, Nat.reduceLT, Nat.reduceLeDiff, Nat.reduceAdd, Nat.reduceSub, Nat.reduceMul, Nat.reducePow, Nat.reduceDiv, Nat.reduceMod, Nat.reduceBEq, Nat.reduceBNe, Int.reduceLT, Int.reduceLE, Int.reduceToNat, Int.reduceAdd, Int.reduceSub, Int.reduceMul, Int.reduceNeg, Int.reducePow, Int.reduceEq, Int.reduceNe, Int.reduceDiv, Int.reduceMod, Int.reduceTDiv, Int.reduceTMod, UInt8.reduceToNat, UInt8.reduceOfNat, still]) | with_reducible refine condP_d (fun _ => ?_) (fun _ => ?_) | with_reducible refine guardP_d0 (fun _ => ?_) (fun _ => ?_) | with_reducible refine guardP_d1 (fun _ => ?_) (fun _ => ?_) | with_reducible refine condP_any ?_ ?_ | (refine Ends_rq [] ?_; simp (disch := (first | omega | (simp only [List.length_set, List.length_append, List.length_cons, List.length_nil, List.length_take, List.length_drop, List.length_map, List.length_replicate]; omega))) only [↓pvd, pv0, pv1, pv2, pv3, pv4, pv5, pv6, pv7, pvc0, pvc1, pvc2, buildC, evP, evR, evE, Pv.get, Pv.put, putO, bin2, int2, binB2, un1, cells, boundO, AV.flat, bv, rowOne, pvf, rvs_1, rvs_2, rvL, rvX, liveB, setParts, szOk, notStr, lim, dedup, place, ent, Pv.new, Pv.newVar, Pv.newVec, setCells, AV.ones, AV.one, resX, entry, layL, layC, layA, lay, List.map, List.foldl, List.replicate, List.length_replicate, ↓reduceIte, reduceCtorEq, Nat.reduceEqDiff, Nat.reduceLT, Nat.reduceLeDiff, Nat.reduceAdd, Nat.reduceSub, Nat.reduceMul, Nat.reducePow, Nat.reduceDiv, Nat.reduceMod, Nat.reduceBEq, Nat.reduceBNe, Int.reduceLT, Int.reduceLE, Int.reduceToNat, Int.reduceAdd, Int.reduceSub, Int.reduceMul, Int.reduceNeg, Int.reducePow, Int.reduceEq, Int.reduceNe, Int.reduceDiv, Int.reduceMod, Int.reduceTDiv, Int.reduceTMod, UInt8.reduceToNat, UInt8.reduceOfNat]; exact ⟨_, rfl, rfl, rfl⟩))
end Go.Proofs
