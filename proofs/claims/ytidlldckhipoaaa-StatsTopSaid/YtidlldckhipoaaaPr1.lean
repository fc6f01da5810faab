/- The proofs of what the functions of this seat do. -/
import Derived.Test.YtidlldckhipoaaaRfCodeA
import Derived.BigRegionIn
import Derived.Deep.RegionLaw
import Derived.LoopIn
import Derived.LoopNIn
import Derived.LoopTactic
import Derived.Maps.OwnIn
import Derived.Maps.OwnOps
import Derived.Maps.OwnSet
import Derived.OwnWalkIn
import Derived.RegionIn
import Derived.Shelf.Abstract
import Derived.Shelf.RegionOpen
import Derived.Shelf.SlIterI.Nil
import Derived.Shelf.SortM.Plain
import Derived.Shelf.SortM.SortNone
import Derived.Shelf.Spec.SlicesGrow
import Derived.TacticsInMore
import Derived.WalkKit
/- maps.Keys, slices.Sorted and slices.Sort at this seat's program: their contracts, laid. (Printed by a program of ours.) -/
namespace Go.Proofs
open Go.RowKit Go.Maps Go.Sort Go.Shelf
def Try.keysAT (n : Nat) : Nat :=
  if n = 0 then 0 else if n = 1 then 1 else if n = 2 then 2 else if n = 3 then 27 else if n = 4 then 4 else if n = 5 then 5 else if n = 6 then 6 else if n = 7 then 7 else if n = 8 then 8 else if n = 9 then 9 else if n = 10 then 10 else if n = 11 then 11 else if n = 12 then 12 else if n = 13 then 13 else if n = 14 then 14 else if n = 15 then 15 else if n = 16 then 16 else if n = 17 then 17 else if n = 18 then 18 else if n = 19 then 19 else if n = 20 then 20 else if n = 21 then 21 else if n = 22 then 64 else if n = 23 then 65 else if n = 24 then 91 else if n = 25 then 92 else if n = 26 then 3 else if n = 27 then 93 else if n = 28 then 94 else if n = 29 then 95 else if n = 32 then 100 else if n = 33 then 101 else if n = 34 then 104 else if n = 35 then 105 else if n = 36 then 106 else if n = 37 then 87 else if n = 38 then 107 else if n = 39 then 108 else if n = 40 then 109 else if n = 41 then 110 else if n = 42 then 111 else if n = 43 then 99 else if n = 44 then 112 else if n = 45 then 113 else if n = 46 then 114 else if n = 47 then 115 else if n = 48 then 116 else if n = 49 then 117 else if n = 50 then 33 else if n = 51 then 118 else if n = 52 then 119 else if n = 53 then 120 else if n = 54 then 121 else if n = 55 then 122 else if n = 56 then 123 else if n = 57 then 124 else if n = 58 then 48 else if n = 59 then 125 else if n = 60 then 79 else if n = 61 then 126 else if n = 62 then 127 else if n = 63 then 128 else if n = 64 then 129 else if n = 65 then 130 else if n = 66 then 57 else if n = 67 then 131 else if n = 68 then 132 else if n = 69 then 133 else if n = 70 then 97 else if n = 71 then 134 else if n = 72 then 135 else if n = 73 then 136 else if n = 74 then 137 else if n = 75 then 102 else n
def Try.keysAF (n : Nat) : Nat :=
  if n = 6 then 41 else if n = 7 then 42 else if n = 8 then 46 else if n = 9 then 47 else if n = 10 then 48 else if n = 11 then 50 else if n = 12 then 51 else if n = 13 then 52 else if n = 14 then 53 else if n = 15 then 54 else if n = 16 then 55 else if n = 17 then 56 else if n = 18 then 57 else if n = 19 then 58 else if n = 20 then 59 else if n = 21 then 60 else if n = 22 then 61 else if n = 23 then 62 else if n = 24 then 63 else if n = 25 then 64 else if n = 26 then 65 else if n = 27 then 66 else if n = 28 then 67 else if n = 29 then 68 else if n = 30 then 69 else if n = 31 then 70 else if n = 32 then 71 else if n = 33 then 72 else if n = 34 then 73 else if n = 35 then 74 else if n = 36 then 75 else if n = 37 then 76 else if n = 38 then 77 else if n = 39 then 78 else if n = 40 then 79 else if n = 41 then 80 else if n = 42 then 81 else if n = 43 then 82 else if n = 44 then 83 else if n = 45 then 85 else if n = 46 then 86 else if n = 47 then 93 else n
def Try.keysAR : Ren := ⟨Try.keysAF, Try.keysAT, fun n => n⟩
theorem Try.keysA : SlLaysZI.n7 Try.prog Try.keysAR where
  mixed := Try.mixed
  f7 := ⟨"maps.Keys[paling/stats.tally,int,paling/stats.Count]", by kernel_rfl, by kernel_rfl⟩
  f10 := ⟨"maps.Keys[paling/stats.tally,int,paling/stats.Count]$1", by kernel_rfl, by kernel_rfl⟩
  t0 := Try.underlying0
  a0 := Try.isAgg0
  z0 := Try.sizeOf0
  v0 := Try.zeroValue0
  t4 := Try.underlying4
  a4 := Try.isAgg4
  z4 := Try.sizeOf4
  v4 := Try.zeroValue4
  t23 := Try.underlying65
  a23 := Try.isAgg65
  z23 := Try.sizeOf65
  v23 := Try.zeroValue65
  t26 := Try.underlying3
  a26 := Try.isAgg3
  z26 := Try.sizeOf3
  v26 := Try.zeroValue3
  t27 := Try.underlying93
  a27 := Try.isAgg93
  z27 := Try.sizeOf93
  v27 := Try.zeroValue93
  t28 := Try.underlying94
  a28 := Try.isAgg94
  z28 := Try.sizeOf94
  v28 := Try.zeroValue94
  t33 := Try.underlying101
  a33 := Try.isAgg101
  z33 := Try.sizeOf101
  v33 := Try.zeroValue101
def Try.sortedAT (n : Nat) : Nat :=
  if n = 0 then 0 else if n = 1 then 1 else if n = 2 then 2 else if n = 3 then 3 else if n = 4 then 4 else if n = 5 then 5 else if n = 6 then 6 else if n = 7 then 7 else if n = 8 then 8 else if n = 9 then 9 else if n = 10 then 10 else if n = 11 then 11 else if n = 12 then 12 else if n = 13 then 13 else if n = 14 then 14 else if n = 15 then 15 else if n = 16 then 16 else if n = 17 then 17 else if n = 18 then 18 else if n = 19 then 19 else if n = 20 then 20 else if n = 21 then 21 else if n = 23 then 65 else if n = 24 then 91 else if n = 25 then 92 else if n = 26 then 3 else if n = 27 then 93 else if n = 28 then 94 else if n = 29 then 95 else if n = 32 then 100 else if n = 33 then 101 else if n = 34 then 104 else if n = 35 then 105 else if n = 36 then 106 else if n = 37 then 87 else if n = 38 then 107 else if n = 39 then 108 else if n = 40 then 109 else if n = 41 then 110 else if n = 42 then 111 else if n = 43 then 99 else if n = 44 then 112 else if n = 45 then 113 else if n = 46 then 114 else if n = 47 then 115 else if n = 48 then 116 else if n = 49 then 117 else if n = 50 then 33 else if n = 51 then 118 else if n = 52 then 119 else if n = 53 then 120 else if n = 54 then 121 else if n = 55 then 122 else if n = 56 then 123 else if n = 57 then 124 else if n = 58 then 48 else if n = 59 then 125 else if n = 60 then 79 else if n = 61 then 126 else if n = 62 then 127 else if n = 63 then 128 else if n = 64 then 129 else if n = 65 then 130 else if n = 66 then 57 else if n = 67 then 131 else if n = 68 then 132 else if n = 69 then 133 else if n = 70 then 97 else if n = 71 then 134 else if n = 72 then 135 else if n = 73 then 136 else if n = 74 then 137 else if n = 75 then 102 else n
def Try.sortedAF (n : Nat) : Nat :=
  if n = 6 then 41 else if n = 7 then 42 else if n = 8 then 46 else if n = 9 then 47 else if n = 10 then 48 else if n = 11 then 50 else if n = 12 then 51 else if n = 13 then 52 else if n = 14 then 53 else if n = 15 then 54 else if n = 16 then 55 else if n = 17 then 56 else if n = 18 then 57 else if n = 19 then 58 else if n = 20 then 59 else if n = 21 then 60 else if n = 22 then 61 else if n = 23 then 62 else if n = 24 then 63 else if n = 25 then 64 else if n = 26 then 65 else if n = 27 then 66 else if n = 28 then 67 else if n = 29 then 68 else if n = 30 then 69 else if n = 31 then 70 else if n = 32 then 71 else if n = 33 then 72 else if n = 34 then 73 else if n = 35 then 74 else if n = 36 then 75 else if n = 37 then 76 else if n = 38 then 77 else if n = 39 then 78 else if n = 40 then 79 else if n = 41 then 80 else if n = 42 then 81 else if n = 43 then 82 else if n = 44 then 83 else if n = 45 then 85 else if n = 46 then 86 else if n = 47 then 93 else n
def Try.sortedAR : Ren := ⟨Try.sortedAF, Try.sortedAT, fun n => n⟩
theorem Try.sortedA : SlLaysZI.n6 Try.prog Try.sortedAR where
  mixed := Try.mixed
  f6 := ⟨"slices.Sorted[int]", by kernel_rfl, by kernel_rfl⟩
  f8 := ⟨"slices.Collect[int]", by kernel_rfl, by kernel_rfl⟩
  f11 := ⟨"slices.AppendSeq[[]int,int]", by kernel_rfl, by kernel_rfl⟩
  t0 := Try.underlying0
  a0 := Try.isAgg0
  z0 := Try.sizeOf0
  v0 := Try.zeroValue0
  t24 := Try.underlying91
  a24 := Try.isAgg91
  z24 := Try.sizeOf91
  v24 := Try.zeroValue91
  t26 := Try.underlying3
  a26 := Try.isAgg3
  z26 := Try.sizeOf3
  v26 := Try.zeroValue3
  t28 := Try.underlying94
  a28 := Try.isAgg94
  z28 := Try.sizeOf94
  v28 := Try.zeroValue94
  i26 := by kernel_rfl
def Try.sortAT (n : Nat) : Nat :=
  if n = 0 then 0 else if n = 1 then 1 else if n = 2 then 2 else if n = 3 then 3 else if n = 4 then 4 else if n = 5 then 5 else if n = 6 then 6 else if n = 7 then 7 else if n = 8 then 8 else if n = 9 then 9 else if n = 10 then 10 else if n = 11 then 11 else if n = 12 then 12 else if n = 13 then 13 else if n = 14 then 14 else if n = 15 then 15 else if n = 16 then 16 else if n = 17 then 17 else if n = 18 then 18 else if n = 19 then 19 else if n = 20 then 20 else if n = 21 then 21 else if n = 22 then 91 else if n = 23 then 91 else if n = 24 then 100 else if n = 25 then 3 else if n = 30 then 105 else if n = 31 then 106 else if n = 32 then 87 else if n = 34 then 107 else if n = 35 then 108 else if n = 36 then 109 else if n = 37 then 110 else if n = 38 then 111 else if n = 39 then 99 else if n = 40 then 112 else if n = 41 then 113 else if n = 42 then 114 else if n = 43 then 115 else if n = 44 then 116 else if n = 45 then 117 else if n = 46 then 33 else if n = 53 then 118 else if n = 54 then 119 else if n = 55 then 120 else if n = 56 then 121 else if n = 57 then 122 else if n = 58 then 123 else if n = 59 then 101 else if n = 63 then 124 else if n = 64 then 48 else if n = 65 then 125 else if n = 67 then 79 else if n = 68 then 126 else if n = 69 then 127 else if n = 70 then 128 else if n = 71 then 129 else if n = 72 then 130 else if n = 73 then 57 else if n = 74 then 131 else if n = 75 then 132 else if n = 76 then 133 else if n = 77 then 97 else if n = 78 then 134 else if n = 79 then 135 else if n = 80 then 136 else if n = 81 then 137 else if n = 82 then 102 else n
def Try.sortAF (n : Nat) : Nat :=
  if n = 5 then 47 else if n = 7 then 51 else if n = 8 then 52 else if n = 10 then 53 else if n = 11 then 54 else if n = 12 then 55 else if n = 13 then 56 else if n = 14 then 57 else if n = 15 then 58 else if n = 16 then 59 else if n = 17 then 60 else if n = 18 then 61 else if n = 19 then 62 else if n = 20 then 63 else if n = 30 then 64 else if n = 31 then 65 else if n = 32 then 66 else if n = 33 then 67 else if n = 34 then 68 else if n = 35 then 69 else if n = 40 then 70 else if n = 42 then 71 else if n = 43 then 72 else if n = 44 then 73 else if n = 45 then 74 else if n = 46 then 75 else if n = 47 then 76 else if n = 48 then 77 else if n = 49 then 78 else if n = 50 then 79 else if n = 51 then 80 else if n = 52 then 81 else if n = 53 then 82 else if n = 54 then 83 else if n = 55 then 85 else if n = 56 then 86 else if n = 57 then 93 else n
def Try.sortAR : Ren := ⟨Try.sortAF, Try.sortAT, fun n => n⟩
theorem Try.sortA : SlLaysM.n5 Try.prog Try.sortAR where
  mixed := Try.mixed
  f5 := ⟨"slices.Sort[[]int,int]", by kernel_rfl, by kernel_rfl⟩
  f7 := ⟨"slices.pdqsortOrdered[int]", by kernel_rfl, by kernel_rfl⟩
  f8 := by kernel_rfl
  f10 := ⟨"slices.insertionSortOrdered[int]", by kernel_rfl, by kernel_rfl⟩
  f11 := ⟨"slices.heapSortOrdered[int]", by kernel_rfl, by kernel_rfl⟩
  f12 := ⟨"slices.breakPatternsOrdered[int]", by kernel_rfl, by kernel_rfl⟩
  f13 := ⟨"slices.choosePivotOrdered[int]", by kernel_rfl, by kernel_rfl⟩
  f14 := ⟨"slices.reverseRangeOrdered[int]", by kernel_rfl, by kernel_rfl⟩
  f15 := ⟨"slices.partialInsertionSortOrdered[int]", by kernel_rfl, by kernel_rfl⟩
  f16 := ⟨"cmp.Less[int]", by kernel_rfl, by kernel_rfl⟩
  f17 := ⟨"slices.partitionEqualOrdered[int]", by kernel_rfl, by kernel_rfl⟩
  f18 := ⟨"slices.partitionOrdered[int]", by kernel_rfl, by kernel_rfl⟩
  f19 := by kernel_rfl
  f20 := by kernel_rfl
  f30 := ⟨"slices.siftDownOrdered[int]", by kernel_rfl, by kernel_rfl⟩
  f31 := by kernel_rfl
  f32 := by kernel_rfl
  f33 := ⟨"slices.medianAdjacentOrdered[int]", by kernel_rfl, by kernel_rfl⟩
  f34 := ⟨"slices.medianOrdered[int]", by kernel_rfl, by kernel_rfl⟩
  f35 := ⟨"cmp.isNaN[int]", by kernel_rfl, by kernel_rfl⟩
  f40 := ⟨"slices.order2Ordered[int]", by kernel_rfl, by kernel_rfl⟩
  t0 := Try.underlying0
  a0 := Try.isAgg0
  z0 := Try.sizeOf0
  v0 := Try.zeroValue0
  t3 := Try.underlying3
  a3 := Try.isAgg3
  z3 := Try.sizeOf3
  v3 := Try.zeroValue3
  t4 := Try.underlying4
  a4 := Try.isAgg4
  z4 := Try.sizeOf4
  v4 := Try.zeroValue4
  t5 := Try.underlying5
  a5 := Try.isAgg5
  z5 := Try.sizeOf5
  v5 := Try.zeroValue5
  t9 := Try.underlying9
  a9 := Try.isAgg9
  z9 := Try.sizeOf9
  v9 := Try.zeroValue9
  t22 := Try.underlying91
  a22 := Try.isAgg91
  z22 := Try.sizeOf91
  v22 := Try.zeroValue91
  t23 := Try.underlying91
  a23 := Try.isAgg91
  z23 := Try.sizeOf91
  v23 := Try.zeroValue91
  t25 := Try.underlying3
  a25 := Try.isAgg3
  z25 := Try.sizeOf3
  v25 := Try.zeroValue3
  t32 := Try.underlying87
  a32 := Try.isAgg87
  z32 := Try.sizeOf87
  v32 := Try.zeroValue87
  t35 := Try.underlying108
  a35 := Try.isAgg108
  z35 := Try.sizeOf108
  v35 := Try.zeroValue108
  t36 := Try.underlying109
  a36 := Try.isAgg109
  z36 := Try.sizeOf109
  v36 := Try.zeroValue109
  t41 := Try.underlying113
  a41 := Try.isAgg113
  z41 := Try.sizeOf113
  v41 := Try.zeroValue113
  t44 := Try.underlying116
  a44 := Try.isAgg116
  z44 := Try.sizeOf116
  v44 := Try.zeroValue116
  t46 := Try.underlying33
  a46 := Try.isAgg33
  z46 := Try.sizeOf33
  v46 := Try.zeroValue33
  t53 := Try.underlying118
  a53 := Try.isAgg118
  z53 := Try.sizeOf118
  v53 := Try.zeroValue118
  t57 := Try.underlying122
  a57 := Try.isAgg122
  z57 := Try.sizeOf122
  v57 := Try.zeroValue122
  t63 := Try.underlying124
  a63 := Try.isAgg124
  z63 := Try.sizeOf124
  v63 := Try.zeroValue124
  t64 := Try.underlying48
  a64 := Try.isAgg48
  z64 := Try.sizeOf48
  v64 := Try.zeroValue48
def Try.growAT (n : Nat) : Nat :=
  if n = 0 then 0 else if n = 1 then 1 else if n = 2 then 2 else if n = 3 then 3 else if n = 4 then 4 else if n = 5 then 5 else if n = 6 then 6 else if n = 7 then 7 else if n = 8 then 8 else if n = 9 then 9 else if n = 10 then 10 else if n = 11 then 11 else if n = 12 then 12 else if n = 13 then 13 else if n = 14 then 14 else if n = 15 then 15 else if n = 16 then 16 else if n = 17 then 17 else if n = 18 then 18 else if n = 19 then 19 else if n = 20 then 20 else if n = 21 then 21 else if n = 22 then 22 else if n = 23 then 24 else if n = 25 then 27 else if n = 26 then 79 else if n = 27 then 126 else if n = 28 then 127 else if n = 29 then 128 else if n = 30 then 129 else if n = 31 then 130 else if n = 32 then 57 else if n = 33 then 116 else if n = 34 then 131 else if n = 35 then 132 else if n = 36 then 133 else if n = 37 then 97 else if n = 38 then 134 else if n = 39 then 135 else if n = 40 then 136 else if n = 41 then 137 else if n = 42 then 102 else n
def Try.growAF (n : Nat) : Nat :=
  if n = 4 then 43 else if n = 5 then 71 else if n = 6 then 72 else if n = 7 then 73 else if n = 8 then 74 else if n = 9 then 75 else if n = 10 then 76 else if n = 11 then 77 else if n = 12 then 78 else if n = 13 then 79 else if n = 14 then 80 else if n = 15 then 81 else if n = 16 then 82 else if n = 17 then 83 else if n = 18 then 85 else if n = 19 then 86 else if n = 20 then 93 else n
def Try.growAR : Ren := ⟨Try.growAF, Try.growAT, fun n => n⟩
theorem Try.growA : Lays8.n4 Try.prog Try.growAR where
  mixed := Try.mixed
  f4 := ⟨"slices.Grow[[]paling/stats.Count,paling/stats.Count]", by kernel_rfl, by kernel_rfl⟩
  t0 := Try.underlying0
  a0 := Try.isAgg0
  z0 := Try.sizeOf0
  v0 := Try.zeroValue0
  t3 := Try.underlying3
  a3 := Try.isAgg3
  z3 := Try.sizeOf3
  v3 := Try.zeroValue3
  t4 := Try.underlying4
  a4 := Try.isAgg4
  z4 := Try.sizeOf4
  v4 := Try.zeroValue4
  t9 := Try.underlying9
  a9 := Try.isAgg9
  z9 := Try.sizeOf9
  v9 := Try.zeroValue9
  t20 := Try.underlying20
  a20 := Try.isAgg20
  z20 := Try.sizeOf20
  v20 := Try.zeroValue20
  t22 := Try.underlying22
  a22 := Try.isAgg22
  z22 := Try.sizeOf22
  v22 := Try.zeroValue22
end Go.Proofs
/-
  Heaps in lists, and what is taken from them. (No program in sight.)
-/
namespace Go.Pv.Hq
structure Ord {α : Type} (lt : α → α → Bool) : Prop where
  tr : ∀ a b c, lt a b = false → lt b c = false → lt a c = false
  asy : ∀ a b, lt a b = true → lt b a = false
theorem Ord.irr {α : Type} {lt : α → α → Bool} (o : Ord lt) (a : α) : lt a a = false := by
  cases h : lt a a with
  | false => rfl
  | true => have := o.asy a a h; rw [h] at this; exact this
variable {α : Type} [Inhabited α]
def swq (l : List α) (i j : Nat) : List α := (l.set i l[j]!).set j l[i]!
theorem swq_len (l : List α) (i j : Nat) : (swq l i j).length = l.length := by simp [swq]
theorem swq_perm {l : List α} {i j : Nat} (hi : i < l.length) (hj : j < l.length) : (swq l i j).Perm l := by
  unfold swq; rw [getElem!_pos l i hi, getElem!_pos l j hj]; exact List.set_set_perm hi hj
theorem swq_get {l : List α} {i j k : Nat} (hk : k < l.length) : (swq l i j)[k]! = if k = j then l[i]! else if k = i then l[j]! else l[k]! := by
  rw [getElem!_pos _ k (by rw [swq_len]; exact hk)]
  simp only [swq,List.getElem_set]
  by_cases h1 : k = j
  · rw [if_pos h1, if_pos h1.symm]
  · rw [if_neg h1, if_neg (fun h => h1 h.symm)]
    by_cases h2 : k = i
    · rw [if_pos h2, if_pos h2.symm]
    · rw [if_neg h2, if_neg (fun h => h2 h.symm), getElem!_pos l k hk]
theorem app_get {A B : List α} {k : Nat} (hk : k < A.length) : (A ++ B)[k]! = A[k]! := by
  rw [getElem!_pos (A ++ B) k (by simp; omega), getElem!_pos A k hk, List.getElem_append_left hk]
theorem swq_app {A B : List α} {i j : Nat} (hi : i < A.length) (hj : j < A.length) : swq (A ++ B) i j = swq A i j ++ B := by
  unfold swq
  rw [app_get hi, app_get hj, List.set_append_left _ _ hi, List.set_append_left _ _ (by simpa using hj)]
def par (k : Nat) : Nat := (k - 1) / 2
def Heap (lt : α → α → Bool) (l : List α) : Prop := ∀ k, 0 < k → k < l.length → lt l[k]! l[par k]! = false
def UpOk (lt : α → α → Bool) (l : List α) (j : Nat) : Prop :=
  (∀ k, 0 < k → k < l.length → k ≠ j → lt l[k]! l[par k]! = false) ∧ (∀ k, 0 < k → k < l.length → par k = j → 0 < j → lt l[k]! l[par j]! = false)
def DownOk (lt : α → α → Bool) (l : List α) (i : Nat) : Prop :=
  (∀ k, 0 < k → k < l.length → par k ≠ i → lt l[k]! l[par k]! = false) ∧ (∀ k, 0 < k → k < l.length → par k = i → 0 < i → lt l[k]! l[par i]! = false)
variable {lt : α → α → Bool}
theorem up_stop {l : List α} {j : Nat} (h : UpOk lt l j) (hj : j = 0 ∨ lt l[j]! l[par j]! = false) : Heap lt l := by
  intro k h0 hk
  by_cases e : k = j
  · subst e
    rcases hj with rfl | hj
    · omega
    · exact hj
  · exact h.1 k h0 hk e
theorem up_step (o : Ord lt) {l : List α} {j : Nat} (h : UpOk lt l j) (h0 : 0 < j) (hj : j < l.length) (hl : lt l[j]! l[par j]! = true) : UpOk lt (swq l (par j) j) (par j) := by
  have hp : par j < j := by unfold par; omega
  have hpl : par j < l.length := by omega
  refine ⟨fun k k0 hk hne => ?_, fun k k0 hk hkp hp0 => ?_⟩
  · rw [swq_len] at hk
    have hpk : par k < k := by unfold par; omega
    rw [swq_get hk, swq_get (by omega : par k < l.length)]
    by_cases e1 : k = j
    · subst e1
      rw [if_pos rfl, if_neg (by omega), if_pos rfl]
      exact o.asy _ _ hl
    · rw [if_neg e1, if_neg hne]
      by_cases e2 : par k = j
      · rw [if_pos e2]
        exact h.2 k k0 hk e2 h0
      · rw [if_neg e2]
        by_cases e3 : par k = par j
        · rw [if_pos e3]
          have hkj := h.1 k k0 hk e1
          rw [e3] at hkj
          exact o.tr _ _ _ hkj (o.asy _ _ hl)
        · rw [if_neg e3]
          exact h.1 k k0 hk e1
  · rw [swq_len] at hk
    have hpp : par (par j) < par j := by unfold par at *; omega
    rw [swq_get hk, swq_get (by omega : par (par j) < l.length)]
    rw [if_neg (by omega : par (par j) ≠ j), if_neg (by omega : par (par j) ≠ par j)]
    have hpj : lt l[par j]! l[par (par j)]! = false := h.1 (par j) hp0 hpl (by omega)
    by_cases e1 : k = j
    · rw [if_pos e1]; exact hpj
    · rw [if_neg e1]
      have hkne : k ≠ par j := by intro e; rw [e] at hkp; omega
      rw [if_neg hkne]
      have hkj := h.1 k k0 hk e1
      rw [hkp] at hkj
      exact o.tr _ _ _ hkj hpj
theorem up_push {l : List α} (h : Heap lt l) (x : α) : UpOk lt (l ++ [x]) l.length := by
  refine ⟨fun k k0 hk hne => ?_, fun k k0 hk hkp _ => ?_⟩
  · simp only [List.length_append,List.length_singleton] at hk
    have hpk : par k < k := by unfold par; omega
    rw [app_get (by omega), app_get (by omega)]
    exact h k k0 (by omega)
  · simp only [List.length_append,List.length_singleton] at hk
    have hpk : par k < k := by unfold par; omega
    omega
theorem down_stop0 {l : List α} {i : Nat} (h : DownOk lt l i) (hi : l.length ≤ 2 * i + 1) : Heap lt l := fun k k0 hk => h.1 k k0 hk (by unfold par; omega)
theorem down_stop (o : Ord lt) {l : List α} {i j : Nat} (h : DownOk lt l i) (hj : lt l[j]! l[i]! = false)
    (hb : ∀ k, 0 < k → k < l.length → par k = i → lt l[k]! l[j]! = false) : Heap lt l := by
  intro k k0 hk
  by_cases e : par k = i
  · rw [e]; exact o.tr _ _ _ (hb k k0 hk e) hj
  · exact h.1 k k0 hk e
theorem down_step (o : Ord lt) {l : List α} {i j : Nat} (h : DownOk lt l i) (h0 : 0 < j) (hjl : j < l.length) (hp : par j = i) (hj : lt l[j]! l[i]! = true)
    (hb : ∀ k, 0 < k → k < l.length → par k = i → lt l[k]! l[j]! = false) : DownOk lt (swq l i j) j := by
  have hpj : par j < j := by unfold par; omega
  refine ⟨fun k k0 hk hne => ?_, fun k k0 hk hkp _ => ?_⟩
  · rw [swq_len] at hk
    have hpk : par k < k := by unfold par; omega
    rw [swq_get hk, swq_get (by omega : par k < l.length), if_neg hne]
    by_cases e1 : k = j
    · subst e1
      rw [if_pos rfl, if_pos hp]
      exact o.asy _ _ hj
    · rw [if_neg e1]
      by_cases e2 : k = i
      · rw [if_pos e2, if_neg (by omega)]
        by_cases ei : i = 0
        · omega
        · have := h.2 j h0 hjl hp (by omega)
          rw [e2]; exact this
      · rw [if_neg e2]
        by_cases e3 : par k = i
        · rw [if_pos e3]; exact hb k k0 hk e3
        · rw [if_neg e3]; exact h.1 k k0 hk e3
  · rw [swq_len] at hk
    have hpk : par k < k := by unfold par; omega
    rw [swq_get hk, swq_get (by omega : par j < l.length), if_neg (by omega : par j ≠ j), if_pos hp, if_neg (by omega : k ≠ j), if_neg (by omega : k ≠ i)]
    have := h.1 k k0 hk (by omega)
    rwa [hkp] at this
theorem best2 (o : Ord lt) {l : List α} {i j : Nat} (h1 : 2 * i + 1 < l.length)
    (hj : (j = 2 * i + 2 ∧ 2 * i + 2 < l.length ∧ lt l[2 * i + 2]! l[2 * i + 1]! = true) ∨ (j = 2 * i + 1 ∧ (l.length ≤ 2 * i + 2 ∨ lt l[2 * i + 2]! l[2 * i + 1]! = false))) :
    0 < j ∧ j < l.length ∧ par j = i ∧ ∀ k, 0 < k → k < l.length → par k = i → lt l[k]! l[j]! = false := by
  have key : ∀ k, 0 < k → par k = i → k = 2 * i + 1 ∨ k = 2 * i + 2 := fun k h0 h => by unfold par at h; omega
  rcases hj with ⟨rfl, h2, h3⟩ | ⟨rfl, h2⟩
  · refine ⟨by omega, h2, by unfold par; omega, fun k k0 hk hp => ?_⟩
    rcases key k k0 hp with rfl | rfl
    · exact o.asy _ _ h3
    · exact o.irr _
  · refine ⟨by omega, h1, by unfold par; omega, fun k k0 hk hp => ?_⟩
    rcases key k k0 hp with rfl | rfl
    · exact o.irr _
    · rcases h2 with h2 | h2
      · omega
      · exact h2
theorem heap_top (o : Ord lt) {l : List α} (h : Heap lt l) : ∀ k, k < l.length → lt l[k]! l[0]! = false := by
  intro k
  induction k using Nat.strongRecOn with
  | ind k ih =>
    intro hk
    rcases Nat.eq_zero_or_pos k with rfl | k0
    · exact o.irr _
    · have hp : par k < k := by unfold par; omega
      exact o.tr _ _ _ (h k k0 hk) (ih _ hp (by omega))
theorem pop_down {A : List α} {x : α} (h : Heap lt (A ++ [x])) (_hA : A ≠ []) : DownOk lt (A.set 0 x) 0 := by
  refine ⟨fun k k0 hk hne => ?_, fun k k0 hk _ h0 => absurd h0 (Nat.lt_irrefl 0)⟩
  rw [List.length_set] at hk
  have hpk : par k < k := by unfold par; omega
  have e : ∀ m, m < A.length → m ≠ 0 → (A.set 0 x)[m]! = (A ++ [x])[m]! := fun m hm h0 => by
    rw [app_get hm, getElem!_pos _ m (by simpa using hm), List.getElem_set_ne (by omega), getElem!_pos A m hm]
  rw [e k hk (by omega), e (par k) (by omega) hne]
  exact h k k0 (by simp; omega)
theorem pop_swq {A : List α} {x : α} (hA : A ≠ []) : swq (A ++ [x]) 0 A.length = A.set 0 x ++ [A[0]!] := by
  have h0 : 0 < A.length := List.length_pos_iff.2 hA
  unfold swq
  have e : (A ++ [x])[A.length]! = x := by rw [getElem!_pos _ _ (by simp)]; simp
  rw [e, app_get h0, List.set_append_left _ _ h0, List.set_append_right _ _ (by simp)]
  simp
end Go.Pv.Hq
/-
  Counts: lists of them by rising ports, and which one comes ahead. (No program in sight.)
-/
namespace Go.Pv.Hq
structure Cn where
  p : Int
  f : Int
  b : Int
  s : Int
  e : Int
deriving DecidableEq, Inhabited
def wr (x : Int) : Int := IntKind.i64.wrap x
def upd (x c : Cn) : Cn := ⟨x.p, wr (x.f + c.f), wr (x.b + c.b), min x.s c.s, max x.e c.e⟩
def findC (L : List Cn) (p : Int) : Option Cn := L.find? fun x => x.p == p
def putC : List Cn → Cn → List Cn
  | [], c => [c]
  | x :: r, c => if x.p = c.p then c :: r else if c.p < x.p then c :: x :: r else x :: putC r c
def addC (L : List Cn) (c : Cn) : Cn := match findC L c.p with
  | some x => upd x c
  | none => c
def addS (L : List Cn) (c : Cn) : List Cn := putC L (addC L c)
def Srt (L : List Cn) : Prop := L.Pairwise fun x y => x.p < y.p
theorem putC_mem {L : List Cn} {c x : Cn} (h : x ∈ putC L c) : x = c ∨ x ∈ L := by
  induction L with
  | nil => simpa [putC] using h
  | cons y r ih =>
    unfold putC at h
    split at h
    · rcases List.mem_cons.1 h with h | h
      · exact .inl h
      · exact .inr (List.mem_cons_of_mem _ h)
    · split at h
      · rcases List.mem_cons.1 h with h | h
        · exact .inl h
        · exact .inr h
      · rcases List.mem_cons.1 h with h | h
        · exact .inr (by rw [h]; exact List.mem_cons_self)
        · rcases ih h with h | h
          · exact .inl h
          · exact .inr (List.mem_cons_of_mem _ h)
theorem putC_srt {L : List Cn} (hL : Srt L) (c : Cn) : Srt (putC L c) := by
  induction L with
  | nil => simp [putC, Srt]
  | cons y r ih =>
    obtain ⟨h1, h2⟩ := List.pairwise_cons.1 hL
    unfold putC
    split
    · rename_i e
      exact List.pairwise_cons.2 ⟨fun z hz => by rw [← e]; exact h1 z hz, h2⟩
    · split
      · rename_i hne hlt
        refine List.pairwise_cons.2 ⟨fun z hz => ?_, hL⟩
        rcases List.mem_cons.1 hz with rfl | hz
        · exact hlt
        · exact Int.lt_trans hlt (h1 z hz)
      · rename_i hne hlt
        refine List.pairwise_cons.2 ⟨fun z hz => ?_, ih h2⟩
        rcases putC_mem hz with rfl | hz
        · omega
        · exact h1 z hz
theorem addC_p (L : List Cn) (c : Cn) : (addC L c).p = c.p := by
  unfold addC
  split
  · rename_i x hx
    have := List.find?_some hx
    simpa [upd] using this
  · rfl
theorem addS_srt {L : List Cn} (hL : Srt L) (c : Cn) : Srt (addS L c) := putC_srt hL _
theorem putC_len (L : List Cn) (c : Cn) : (putC L c).length ≤ L.length + 1 := by
  induction L with
  | nil => simp [putC]
  | cons y r ih =>
    unfold putC
    split
    · simp
    · split
      · simp
      · simp; omega
def ahead (x y : Cn) : Bool := if x.f ≠ y.f then decide (y.f < x.f) else if x.b ≠ y.b then decide (y.b < x.b) else decide (x.p < y.p)
def less (x y : Cn × Int) : Bool := if x.1.f ≠ y.1.f then decide (y.1.f < x.1.f) else if x.1.b ≠ y.1.b then decide (y.1.b < x.1.b) else if x.1.p ≠ y.1.p then decide (x.1.p < y.1.p) else decide (x.2 < y.2)
theorem less_iff (x y : Cn × Int) : less x y = true ↔ y.1.f < x.1.f ∨ (x.1.f = y.1.f ∧ (y.1.b < x.1.b ∨ (x.1.b = y.1.b ∧ (x.1.p < y.1.p ∨ (x.1.p = y.1.p ∧ x.2 < y.2))))) := by
  unfold less
  by_cases h1 : x.1.f = y.1.f <;> by_cases h2 : x.1.b = y.1.b <;> by_cases h3 : x.1.p = y.1.p <;> simp [h1, h2, h3] <;> omega
theorem less_ff (x y : Cn × Int) : less x y = false ↔ ¬ (y.1.f < x.1.f ∨ (x.1.f = y.1.f ∧ (y.1.b < x.1.b ∨ (x.1.b = y.1.b ∧ (x.1.p < y.1.p ∨ (x.1.p = y.1.p ∧ x.2 < y.2)))))) := by
  rw [← less_iff, Bool.not_eq_true]
theorem less_ord : Ord less where
  tr := fun a b c h1 h2 => by
    rw [less_ff] at h1 h2 ⊢; omega
  asy := fun a b h => by
    rw [less_iff] at h; rw [less_ff]; omega
theorem less_tot {x y : Cn × Int} (hne : x.2 ≠ y.2) (h : less y x = false) : less x y = true := by
  rw [less_ff] at h; rw [less_iff]; omega
end Go.Pv.Hq
set_option linter.unusedSimpArgs false
set_option linter.unusedVariables false
namespace Go.Proofs
open Go.Pv Go.RowKit Go.Shelf Go.Maps Go.Pv.Hq
attribute [local go_sem] Oper.semAt_some
def cV (c : Cn) : Value := .agg #[.int .i64 c.p, .int .i64 c.f, .int .i64 c.b, .int .i64 c.s, .int .i64 c.e]
def dC (c : Cn) : DataW Unit := .agg [.lit (.int .i64 c.p), .lit (.int .i64 c.f), .lit (.int .i64 c.b), .lit (.int .i64 c.s), .lit (.int .i64 c.e)]
def cR : Value → Option (DataW Unit × List MemPlace)
  | .agg ⟨[.int .i64 p, .int .i64 f, .int .i64 b, .int .i64 s, .int .i64 e]⟩ => some (dC ⟨p, f, b, s, e⟩, [])
  | _ => none
theorem cR_inv {v : Value} {d : DataW Unit} {ps : List MemPlace} (h : cR v = some (d, ps)) : ∃ c, v = cV c ∧ d = dC c := by
  unfold cR at h
  split at h
  · rename_i p f b s e
    cases h
    exact ⟨⟨p, f, b, s, e⟩, rfl, rfl⟩
  · cases h
theorem dC_inj {c c' : Cn} (h : dC c = dC c') : c = c' := by
  cases c; cases c'
  simp only [dC,DataW.agg.injEq,List.cons.injEq,DataW.lit.injEq,Lit.int.injEq,true_and,and_true] at h
  obtain ⟨rfl, rfl, rfl, rfl, rfl⟩ := h
  rfl
def mE (L : List Cn) : List (Lit × DataW Unit) := L.map fun c => (.int .i64 c.p, dC c)
def mD (L : List Cn) : DataW Unit := .map (mE L)
def zC : Cn := ⟨0, 0, 0, 0, 0⟩
def getC (L : List Cn) (p : Int) : Cn := (findC L p).getD zC
theorem sameK (a b : Int) : (Lit.int .i64 a).sameKey (.int .i64 b) = (a == b) := by
  simp [Lit.sameKey, Bool.beq_eq_decide_eq]
theorem mD_has (L : List Cn) (p : Int) : Maps.has (mD L) (.int .i64 p) = (findC L p).isSome := by
  unfold mD mE findC
  rw [Maps.has_eq, List.any_map]
  apply Bool.eq_iff_iff.2
  rw [List.any_eq_true, List.find?_isSome]
  simp only [Function.comp_def,sameK]
theorem mD_at (L : List Cn) (p : Int) : (mD L).atKey (.int .i64 p) (dC zC) = dC (getC L p) := by
  unfold mD mE getC findC DataW.atKey
  simp only [List.find?_map,Function.comp_def,sameK]
  cases L.find? fun x => x.p == p <;> rfl
theorem ins_eq {L : List Cn} (hL : Srt L) (c : Cn) : ChangeMaps.putKey (.int .i64 c.p) (dC c) (mE L) = mE (putC L c) := by
  unfold ChangeMaps.putKey
  induction L with
  | nil => rfl
  | cons x r ih =>
    obtain ⟨h1, h2⟩ := List.pairwise_cons.1 hL
    have hf : ∀ {q : List Cn}, (∀ z ∈ q, c.p < z.p) → (mE q).filter (ChangeMaps.notKey (.int .i64 c.p)) = mE q := by
      intro q hq
      rw [List.filter_eq_self]
      intro z hz
      obtain ⟨y, hy, rfl⟩ := List.mem_map.1 hz
      have := hq y hy
      simp only [ChangeMaps.notKey,sameK]
      simp; omega
    have hi : ∀ {q : List Cn}, (∀ z ∈ q, c.p < z.p) → DataW.insert (.int .i64 c.p, dC c) (mE q) = mE (c :: q) := by
      intro q hq
      cases q with
      | nil => rfl
      | cons z q =>
        have := hq z List.mem_cons_self
        simp only [mE,List.map_cons,DataW.insert,Lit.before,decide_eq_true this,if_true]
    show DataW.insert _ (((Lit.int .i64 x.p, dC x) :: mE r).filter _) = _
    unfold putC
    by_cases e : x.p = c.p
    · rw [if_pos e, List.filter_cons_of_neg (by simp [ChangeMaps.notKey, sameK, e]), hf (fun z hz => by rw [← e]; exact h1 z hz), hi (fun z hz => by rw [← e]; exact h1 z hz)]
    · rw [if_neg e, List.filter_cons_of_pos (by simp [ChangeMaps.notKey, sameK, e])]
      by_cases hlt : c.p < x.p
      · rw [if_pos hlt, hf (fun z hz => Int.lt_trans hlt (h1 z hz))]
        simp only [DataW.insert,Lit.before,decide_eq_true hlt,if_true]
        rfl
      · rw [if_neg hlt]
        simp only [DataW.insert,Lit.before,decide_eq_false hlt]
        exact congrArg (_ :: ·) (ih h2)
theorem mD_put {L : List Cn} (hL : Srt L) (c : Cn) : (mD L).put (.int .i64 c.p) (dC c) = mD (putC L c) := by
  unfold mD
  rw [DataW.put_eq, ins_eq hL]
theorem mD_keys (L : List Cn) : intKeys (mD L) = L.map (·.p) := by
  simp [intKeys, mD, mE, Function.comp_def]
  intro a _; rfl
section
variable {F : Fence} {nF : Nat} (w : World) {ops : Array Oper} {rest : List Oper} {o : Oper} {a : Act} {Q : Exit → Act → World → Prop}
theorem wpListIn_look_cn (hg : o.guard = none) (m x : Operand) (hop : o.op = Op.lookup 65 m x true) (b n : Nat) (L : List Cn) (hm : a.eval m = .map (some b)) (hown : w.ownsMap Try.prog 3 cR b n (mD L))
    (p : Int) (hx : a.eval x = .int .i64 p) (hw : (Lit.int .i64 p).wf = true)
    (hK : wpListIn F nF Try.prog ops Q rest (a.put o.dst (.tuple #[.agg #[.int .i64 (getC L p).p, .int .i64 (getC L p).f, .int .i64 (getC L p).b, .int .i64 (getC L p).s, .int .i64 (getC L p).e], .bool (findC L p).isSome])) w) : wpListIn F nF Try.prog ops Q (o :: rest) a w := by
  refine wpListIn_lookup_own_ok w hg m x 65 hop 3 27 (int_keyed Try.underlying3) Try.underlying65 cR (Try.zeroValue27 _) (dC zC) [] rfl b n (mD L) hm hown _ _ hx (keyOf_int_mk Try.underlying3 hw) ?_
  intro v ps hv
  rw [mD_at] at hv
  obtain ⟨c, rfl, hc⟩ := cR_inv hv
  rw [mD_has, ← dC_inj hc] 
  exact hK
theorem wpListIn_get_cn (hg : o.guard = none) (m x : Operand) (hop : o.op = Op.lookup 65 m x false) (b n : Nat) (L : List Cn) (hm : a.eval m = .map (some b)) (hown : w.ownsMap Try.prog 3 cR b n (mD L))
    (p : Int) (hx : a.eval x = .int .i64 p) (hw : (Lit.int .i64 p).wf = true)
    (hK : wpListIn F nF Try.prog ops Q rest (a.put o.dst (.agg #[.int .i64 (getC L p).p, .int .i64 (getC L p).f, .int .i64 (getC L p).b, .int .i64 (getC L p).s, .int .i64 (getC L p).e])) w) : wpListIn F nF Try.prog ops Q (o :: rest) a w := by
  refine wpListIn_plain hg fun K' hK' => ?_
  obtain ⟨v, ps, hrun, hv⟩ := hown.lookup (int_keyed Try.underlying3) Try.underlying65 (Try.zeroValue27 _) (zd := dC zC) (zp := []) rfl (keyOf_int_mk Try.underlying3 hw)
  rw [mD_at] at hv
  obtain ⟨c, rfl, hc⟩ := cR_inv hv
  rw [← dC_inj hc] at hrun
  unfold Oper.wpIn
  refine ⟨by simp [Oper.about, hop], ?_⟩
  rw [Oper.semAt_plain F _ _ (by rw [hop]; intro c hc'; cases hc')]
  simp [execOp, hop, hm, hx, hrun, Result.andThen]
  exact hK' _ _ hK
theorem wpListIn_put_cn (hg : o.guard = none) (m x v : Operand) (hop : o.op = Op.mapUpdate 65 m x v) (b n : Nat) (L : List Cn) (hL : Srt L) (hm : a.eval m = .map (some b)) (hown : w.ownsMap Try.prog 3 cR b n (mD L)) (hn : n < maxLen)
    (c : Cn) (hx : a.eval x = .int .i64 c.p) (hw : (Lit.int .i64 c.p).wf = true) (hv : a.eval v = .agg #[.int .i64 c.p, .int .i64 c.f, .int .i64 c.b, .int .i64 c.s, .int .i64 c.e])
    (hK : ∀ w', w'.ownsMap Try.prog 3 cR b (n + 1) (mD (putC L c)) → w.grownBy w' (some b) → wpListIn F nF Try.prog ops Q rest (a.put o.dst undef) w') : wpListIn F nF Try.prog ops Q (o :: rest) a w := by
  refine wpListIn_mapUpdate_own w hg m x v 65 hop 3 27 (int_keyed Try.underlying3) Try.underlying65 cR b n (mD L) hm hown hn _ _ _ hx hv (keyOf_int_mk Try.underlying3 hw) (dC c) [] rfl ?_
  rw [mD_put hL]
  exact hK
end
end Go.Proofs
set_option linter.unusedSimpArgs false
set_option linter.unusedVariables false
namespace Go.Proofs
open Go.Pv Go.RowKit Go.Shelf Go.Maps Go.Pv.Hq
attribute [local go_sem] Oper.semAt_some
theorem grown_drew {w w' : World} {r : Option Nat} (h : w.drew.grownBy w' r) : w.grownBy w' r := ⟨h.os, h.tape, h.output, h.size, h.block⟩
theorem wpListIn_upd_cn {F : Fence} {nF : Nat} (w : World) {ops : Array Oper} {rest : List Oper} {o : Oper} {a : Act} {Q : Exit → Act → World → Prop} (hg : o.guard = none) (m k v : Operand) (hop : o.op = Op.mapUpdate 65 m k v) (b n : Nat) (L : List Cn) (hL : Srt L)
    (hm : a.eval m = .map (some b)) (hown : w.ownsMap Try.prog 3 cR b n (mD L)) (hn : n < maxLen) (x c : Cn) (hx : x.p = c.p) (hk : a.eval k = .int .i64 c.p) (hw : (Lit.int .i64 c.p).wf = true)
    (hv : a.eval v = .agg #[.int .i64 c.p, .int .i64 (wrap64 (x.f + c.f)), .int .i64 (wrap64 (x.b + c.b)), .int .i64 (min x.s c.s), .int .i64 (max x.e c.e)])
    (hK : ∀ w', w'.ownsMap Try.prog 3 cR b (n + 1) (mD (putC L (upd x c))) → w.grownBy w' (some b) → wpListIn F nF Try.prog ops Q rest (a.put o.dst undef) w') : wpListIn F nF Try.prog ops Q (o :: rest) a w :=
  wpListIn_put_cn w hg m k v hop b n L hL hm hown hn (upd x c) (by rw [hk, show (upd x c).p = c.p from hx]) (by rw [show (upd x c).p = c.p from hx]; exact hw) (by rw [hv]; simp only [upd,wr,IntWalk.i64_left,hx]) hK
set_option maxRecDepth 100000 in
set_option maxHeartbeats 2000000 in
theorem add_calls (b n : Nat) (L : List Cn) (hL : Srt L) (c : Cn) (hw : (Lit.int .i64 c.p).wf = true) (w : World) (hown : w.ownsMap Try.prog 3 cR b n (mD L)) (hn : n < maxLen) :
    Calls Try.prog 28 #[.map (some b), .agg #[.int .i64 c.p, .int .i64 c.f, .int .i64 c.b, .int .i64 c.s, .int .i64 c.e]] w fun e W => (∃ v, e = .returned v) ∧ W.ownsMap Try.prog 3 cR b (n + 1) (mD (addS L c)) ∧ w.grownBy W (some b) := by
  refine (callsIn_wide (n := 6)).1 ?_
  refine callsIn_of_wp Try.func28 rfl trivial ?_ rfl
  simp only [Try.ntmps28,List.size_toArray,List.length_cons,List.length_nil,Nat.reduceAdd,Nat.reduceSub,Array.replicate_succ,Array.replicate_zero,List.push_toArray,List.append_toArray,List.nil_append,List.cons_append]
  have ho1 := hown.alloc (.cells #[.int .i64 c.p, .int .i64 c.f, .int .i64 c.b, .int .i64 c.s, .int .i64 c.e] 27)
  have ho2 := ho1.alloc (.cells #[.int .i64 (getC L c.p).p, .int .i64 (getC L c.p).f, .int .i64 (getC L c.p).b, .int .i64 (getC L c.p).s, .int .i64 (getC L c.p).e] 27)
  cases hf : findC L c.p with
  | none =>
    have hs : (findC L c.p).isSome = false := by rw [hf]; rfl
    have ha : addS L c = putC L c := by unfold addS addC; rw [hf]
    gi_wp2_with (first
      | (gi_at_lookup; refine wpListIn_look_cn _ rfl _ _ rfl b n L rfl ho1 c.p rfl hw ?_; rw [hs])
      | (gi_at_mapUpdate; refine wpListIn_put_cn _ rfl _ _ _ rfl b n L hL rfl ho2 hn c rfl hw rfl ?_; intro w1 hown1 hgrow1)
      | gi_in)
    refine bodyPost_ret (results_none rfl _ _ _) rfl ?_
    exact ⟨⟨_, rfl⟩, by first | exact hown1 | (rw [ha]; exact hown1), ((World.grownBy_alloc w _ _).trans ((World.grownBy_alloc _ _ _).trans hgrow1))⟩
  | some x =>
    have hs : (findC L c.p).isSome = true := by rw [hf]; rfl
    have hg : getC L c.p = x := by unfold getC; rw [hf]; rfl
    have hx : x.p = c.p := by simpa using List.find?_some hf
    have ha : addS L c = putC L (upd x c) := by unfold addS addC; rw [hf]
    rw [hg] at ho2
    gi_wp2_with (first
      | (gi_at_lookup; refine wpListIn_look_cn _ rfl _ _ rfl b n L rfl ho1 c.p rfl hw ?_; rw [hs, hg])
      | gi_in)
    gi_region
    have ho3 := (ho1.alloc (.cells #[.int .i64 c.p, .int .i64 (wrap64 (x.f + c.f)), .int .i64 (wrap64 (x.b + c.b)), .int .i64 (min x.s c.s), .int .i64 (max x.e c.e)] 27)).drew
    gi_wp2_with (first
      | (gi_at_mapUpdate; refine wpListIn_upd_cn _ rfl _ _ _ rfl b n L hL rfl ho3 hn x c hx rfl hw rfl ?_; intro w1 hown1 hgrow1)
      | gi_in)
    refine bodyPost_end (results_none rfl _ _ _) rfl ?_
    exact ⟨⟨_, rfl⟩, by first | exact hown1 | (rw [ha]; exact hown1), ((World.grownBy_alloc w (.cells #[.int .i64 c.p, .int .i64 c.f, .int .i64 c.b, .int .i64 c.s, .int .i64 c.e] 27) _).trans ((World.grownBy_alloc _ (.cells #[.int .i64 c.p, .int .i64 (wrap64 (x.f + c.f)), .int .i64 (wrap64 (x.b + c.b)), .int .i64 (min x.s c.s), .int .i64 (max x.e c.e)] 27) _).trans (grown_drew hgrow1)))⟩
end Go.Proofs
set_option linter.unusedSimpArgs false
set_option linter.unusedVariables false
namespace Go.Proofs
open Go.Pv Go.RowKit Go.Shelf Go.Maps Go.Pv.Hq Go.Sort
attribute [local go_sem] Oper.semAt_some
theorem Try.sortsA (m : Nat) : AnyZI.SortsIn Try.prog Try.sortedAR Fence.wide m :=
  ⟨fun blk off cap ss W hH hblk hsz => callsIn_wide.2 (AnyM.slices_Sort_int Try.sortA blk off cap ss W hH hblk hsz),
   fun p cap W => callsIn_wide.2 (AnyM.slices_Sort_int_none Try.sortA p cap W)⟩
def cs (c : Cn) : List Value := [.int .i64 c.p, .int .i64 c.f, .int .i64 c.b, .int .i64 c.s, .int .i64 c.e]
theorem perm_sorted {l : List Int} {ss : List Int} (hl : l.Pairwise (· < ·)) (h : ss.Perm l) : ss.mergeSort (fun x y => decide (x ≤ y)) = l := by
  have h1 := List.mergeSort_perm ss (fun x y => decide (x ≤ y))
  have h2 : (ss.mergeSort (fun x y => decide (x ≤ y))).Pairwise (fun a b => decide (a ≤ b) = true) := List.pairwise_mergeSort (fun a b c h1 h2 => by simp at *; omega) (fun a b => by simp; omega) ss
  refine List.Perm.eq_of_pairwise (le := fun a b => decide (a ≤ b) = true) (fun a b _ _ h1 h2 => by simp at h1 h2; omega) h2 (hl.imp fun h => by simp; omega) (h1.trans h)
theorem owns_at {w : World} {base : Nat} {e : TypeId} {s : Nat} {v : Value} {n : Nat} {xs : List Value} (h : w.ownsRow base e s v n xs) : ∃ A cap, v = .slice A n cap ∧
    ∀ j, j < n * s → ∃ g, A = some ⟨g, 0, none⟩ ∧ base ≤ g ∧ g < w.heap.size ∧ w.cell? ⟨g, j, none⟩ = xs[j]? := by
  obtain ⟨hl, ⟨rfl, rfl⟩ | ⟨g, cap, cur, rfl, hb, hh, hn, hm, hc, hx⟩⟩ := h
  · exact ⟨none, 0, rfl, fun j hj => by omega⟩
  · refine ⟨_, cap, rfl, fun j hj => ⟨g, rfl, hb, (Array.getElem?_eq_some_iff.1 hh).1, ?_⟩⟩
    have : n * s ≤ cap * s := Nat.mul_le_mul_right _ hn
    rw [← hx, List.getElem?_take_of_lt hj]
    simp [World.cell?, hh]
theorem map_below {H : Type} {P : Program} {k : TypeId} {R : Value → Option (DataW H × List MemPlace)} {w w' : World} {b n m : Nat} {D : DataW H} (h : w.ownsMap P k R b n D) (hb : Below m w w') (hm : b < m) : w'.ownsMap P k R b n D := by
  obtain ⟨es, clock, hh, r⟩ := h
  exact ⟨es, clock, (hb.block b hm).trans hh, r⟩
theorem info27 : ∃ i, Try.prog.info? 27 = some i ∧ i.zero = some (.agg #[.int .i64 0, .int .i64 0, .int .i64 0, .int .i64 0, .int .i64 0]) ∧ i.size = 5 ∧ i.bytes = 40 := by
  have h : (Try.prog.info? 27).map (fun i => (i.zero, i.size, i.bytes)) = some (some (.agg #[.int .i64 0, .int .i64 0, .int .i64 0, .int .i64 0, .int .i64 0]), 5, 40) := by kernel_rfl
  cases hi : Try.prog.info? 27 with
  | none => rw [hi] at h; cases h
  | some i =>
    rw [hi] at h
    simp only [Option.map_some,Option.some.injEq,Prod.mk.injEq] at h
    exact ⟨i, rfl, h.1, h.2.1, h.2.2⟩
theorem find_mem {L : List Cn} (hL : Srt L) {x : Cn} (hx : x ∈ L) : findC L x.p = some x := by
  induction L with
  | nil => cases hx
  | cons y r ih =>
    obtain ⟨h1, h2⟩ := List.pairwise_cons.1 hL
    unfold findC
    rcases List.mem_cons.1 hx with rfl | hx
    · rw [List.find?_cons_of_pos (by simp)]
    · have := h1 x hx
      rw [List.find?_cons_of_neg (by simp; omega)]
      exact ih h2 hx
theorem cs_new (W : World) (c : Cn) (t : TypeId) : ∀ j u, (cs c)[j]? = some u → (W.alloc (.cells #[.int .i64 c.p, .int .i64 c.f, .int .i64 c.b, .int .i64 c.s, .int .i64 c.e] t)).cell? ((⟨W.heap.size, 0, none⟩ : Addr).add j) = some u := by
  intro j u h
  have hn := World.alloc_heap_new W (.cells #[.int .i64 c.p, .int .i64 c.f, .int .i64 c.b, .int .i64 c.s, .int .i64 c.e] t)
  have ha : (⟨W.heap.size, 0, none⟩ : Addr).add j = ⟨W.heap.size, j, none⟩ := by
    unfold Addr.add
    split
    · rename_i e; rw [e]
    · simp
  rw [ha]
  simp only [World.cell?,hn]
  simpa [cs] using h
theorem cs_one (c : Cn) : ∀ u ∈ cs c, u.oneCell' = true := by
  intro u h
  simp only [cs,List.mem_cons,List.not_mem_nil,or_false] at h
  rcases h with rfl | rfl | rfl | rfl | rfl <;> rfl
theorem take_cs {L : List Cn} {k : Nat} (h : k < L.length) : (L.take (k + 1)).flatMap cs = (L.take k).flatMap cs ++ cs L[k]! := by
  rw [getElem!_pos L k h, List.take_succ_eq_append_getElem h, List.flatMap_append]; simp
theorem grown_below {w w' : World} {r : Option Nat} {m : Nat} (h : w.grownBy w' r) (hr : ∀ b, r = some b → m ≤ b) (hm : m ≤ w.heap.size) : Below m w w' := ⟨h.os, h.tape, h.output, h.size, fun k hk => h.block k (by omega) (fun e => by have := hr k e.symm; omega)⟩
set_option maxRecDepth 100000 in
set_option maxHeartbeats 2000000 in
theorem list_calls (b n : Nat) (L : List Cn) (hL : Srt L) (hwf : ∀ x ∈ L, (Lit.int .i64 x.p).wf = true) (hlen : L.length ≤ 100000) (w : World) (hown : w.ownsMap Try.prog 3 cR b n (mD L)) :
    Calls Try.prog 29 #[.map (some b)] w fun e W => ∃ v, e = .returned v ∧ W.ownsRow w.heap.size 27 5 v L.length (L.flatMap cs) ∧ Below w.heap.size w W := by
  refine (callsIn_wide (n := 6)).1 ?_
  have hbl := hown.lt
  have hsz : Maps.size (mD L) = L.length := by simp [mD, mE, Maps.size_eq]
  have hseq : SeqGives Fence.wide 2 Try.prog 48 #[.pointer (some ⟨w.heap.size, 0, none⟩)] encZ (fun ss => ss.Perm (intKeys (mD L))) (Maps.size (mD L)) (w.alloc (.cells #[.map (some b)] 65)) :=
    AnyZI.keys_gives (ρ := Try.keysAR) { Try.keysA with } Fence.wide _ trivial rfl (by omega) w.heap.size b n (mD L) _ (by simp) (by simp) (hown.alloc _)
  have cK : ∀ mb W, CallsIn Fence.wide 5 Try.prog 42 #[.map mb] W fun e w' => e = .returned (.func (.func 48) #[] #[.pointer (some ⟨W.heap.size, 0, none⟩)]) ∧ w' = W.alloc (.cells #[.map mb] 65) := fun mb W => AnyZI.keys_in Try.keysA Fence.wide 5 trivial rfl mb W
  have cS := AnyZI.sorted_in Try.sortedA Fence.wide 5 trivial trivial trivial trivial rfl (by omega) (Try.sortsA _) (enters_of Try.func47 (by kernel_rfl) rfl) 48 #[.pointer (some ⟨w.heap.size, 0, none⟩)] trivial (enters_of Try.func48 (by kernel_rfl) rfl) _ _ (by rw [hsz]; unfold maxLen; omega) (by rw [hsz]; omega) _ hseq
  change CallsIn _ _ Try.prog 41 _ _ _ at cS
  refine callsIn_of_wp Try.func29 rfl trivial ?_ rfl
  simp only [Try.ntmps29,List.size_toArray,List.length_cons,List.length_nil,Nat.reduceAdd,Nat.reduceSub,Array.replicate_succ,Array.replicate_zero,List.push_toArray,List.append_toArray,List.nil_append,List.cons_append]
  gi_wp2_with (first
    | (refine ⟨trivial, ?_⟩; gi_at_call 42; refine (cK _ _).mono ?_; rintro e w' ⟨rfl, rfl⟩)
    | (refine ⟨trivial, ?_⟩; gi_at_call 41; refine cS.mono ?_; rintro e W1 ⟨v1, ss, rfl, hS, hrow, hnil, hb⟩))
  rw [mD_keys] at hS
  have hkp : (L.map (·.p)).Pairwise (· < ·) := List.pairwise_map.2 hL
  rw [perm_sorted hkp hS, hS.length_eq, List.length_map] at hrow
  obtain ⟨A, cap, rfl, hA⟩ := owns_at hrow
  obtain ⟨i0, hi, hz0, hz1, hz2⟩ := info27
  have hB1 : Below w.heap.size w W1 := ((Below.refl _ w).alloc (Nat.le_refl _) _).trans (hb.mono (by simp))
  have hm1 := map_below hown hB1 hbl
  have hk1 : ∀ k, k < L.length → ∃ g, A = some ⟨g, 0, none⟩ ∧ g < W1.heap.size ∧ W1.cell? ⟨g, k, none⟩ = some (.int .i64 L[k]!.p) := fun k hk => by
    obtain ⟨g, e, _, h2, h3⟩ := hA k (by omega)
    refine ⟨g, e, h2, ?_⟩
    rw [h3, List.getElem?_map, List.getElem?_map, List.getElem?_eq_getElem hk, getElem!_pos L k hk]; rfl
  have hln : (Builtin.len_ #[91] 3 #[.slice A L.length cap]).run Try.prog W1 = .ok (.int .i64 L.length) W1 := by simp [Builtin.len_, run_underlying Try.underlying91, goInt, Result.andThen]
  clear hA hrow hseq cK cS hb hS hnil
  rw [hln]
  gi_wp2
  gi_loopw [3, 10] (fun v3 i wr => ∃ k : Nat, i = .int .i64 k ∧ k ≤ L.length ∧ wr.ownsRow W1.heap.size 27 5 v3 k ((L.take k).flatMap cs) ∧ Below W1.heap.size W1 wr) (fun _ i _ => L.length - (intOf i).toNat)
  case atStart => exact ⟨0, rfl, Nat.zero_le _, by simpa using World.ownsRow_nil W1 W1.heap.size 27 5, Below.refl _ W1⟩
  case round =>
    rename_i Q1 K1 hK
    obtain ⟨k, rfl, hk, ho, hB⟩ := hrel
    by_cases hx : k < L.length
    · obtain ⟨g, rfl, hg, hc⟩ := hk1 k hx
      have hmem : L[k]! ∈ L := by rw [getElem!_pos L k hx]; exact List.getElem_mem hx
      have hgc : getC L L[k]!.p = L[k]! := by unfold getC; rw [find_mem hL hmem]; rfl
      have hwc := hwf _ hmem
      have hts := take_cs hx
      have hc' : wr.cell? ⟨g, k, none⟩ = some (.int .i64 L[k]!.p) := (hB.cell (p := ⟨g, k, none⟩) hg).trans hc
      have hm2 := map_below hm1 hB (by have := hm1.lt; omega)
      have hz := hB.size
      clear hk1 hc hmem
      generalize L[k]! = c at *
      gi_wp2_with (first
        | (gi_at_lookup; refine wpListIn_get_cn _ rfl _ _ rfl b n L rfl hm2 c.p rfl hwc ?_; rw [hgc])
        | (gi_at_builtin; refine wpListIn_append_own _ rfl _ _ 22 rfl W1.heap.size 27 i0 _ 5 40 Try.underlying22 hi hz0 hz1 hz2 rfl (by decide) _ k _ rfl (ho.alloc _) ⟨wr.heap.size, 0, none⟩ 1 1 (cs c) rfl rfl (cs_new _ _ _) (cs_one c) (by unfold maxLen; omega) (by omega) (by simp; omega) ?_; intro v' w5 hown5 hgrow5 hnil5))
      exact ⟨⟨k + 1, by go_num, hx, by rw [hts]; exact hown5, hB.trans (grown_below ((World.grownBy_alloc wr _ _).trans hgrow5) (fun b hb => (ho.lt b hb).1) hz)⟩, by simp [intOf]; omega⟩
    · have e : k = L.length := by omega
      rw [e, List.take_of_length_le (Nat.le_refl _)] at ho
      have hz := hB1.size
      gi_wp2
      go_ret
      exact ⟨_, rfl, ownsRow_base_a ho hz, hB1.trans (hB.mono hz)⟩
end Go.Proofs
set_option linter.unusedSimpArgs false
set_option linter.unusedVariables false
namespace Go.Proofs
open Go.Pv Go.RowKit Go.Shelf Go.Maps Go.Pv.Hq Go.Sort
attribute [local go_sem] Oper.semAt_some
theorem wpListIn_len_sl {F : Fence} {nF : Nat} {P : Program} (w : World) {ops : Array Oper} {rest : List Oper} {o : Oper} {a : Act} {Q : Exit → Act → World → Prop} (hg : o.guard = none) (x : Operand) (t e : TypeId)
    (hop : o.op = Op.call { callee := Callee.builtin Builtin.len, args := #[x], argTypes := #[t] }) (ht : P.underlying t = some (.slice e)) (A : Option Addr) (n c : Nat) (hx : a.eval x = .slice A n c)
    (hK : wpListIn F nF P ops Q rest (a.put o.dst (.int .i64 n)) w) : wpListIn F nF P ops Q (o :: rest) a w := by
  refine wpListIn_plain hg fun K' hK' => ?_
  have hrun : ∀ ty, (Builtin.len_ #[t] ty #[.slice A n c]).run P w = .ok (.int .i64 n) w := fun ty => by simp [Builtin.len_, run_underlying ht, goInt, Result.andThen]
  unfold Oper.wpIn
  refine ⟨by simp [Oper.about, hop, resolve, Target.leads, Sem.run_pure], ?_⟩
  rw [Oper.semAt_plain F _ _ (by rw [hop]; intro c hc'; cases hc')]
  simp [execOp, hop, resolve, invoke, builtin, hx, hrun, Result.andThen]
  exact hK' _ _ hK
def seenC (l : List (Int × Nat)) (i : Nat) : Cn := ⟨l[i]!.1, 1, l[i]!.2, i, i⟩
def portsK (l : List (Int × Nat)) : Nat → List Cn
  | 0 => []
  | k + 1 => addS (portsK l k) (seenC l k)
def portsS (l : List (Int × Nat)) : List Cn := portsK l l.length
theorem portsK_srt (l : List (Int × Nat)) (k : Nat) : Srt (portsK l k) := by
  induction k with
  | zero => exact List.Pairwise.nil
  | succ k ih => exact addS_srt ih _
theorem addS_mem {L : List Cn} {c x : Cn} (h : x ∈ addS L c) : x.p = c.p ∨ x ∈ L := by
  rcases putC_mem h with rfl | h
  · exact .inl (addC_p L c)
  · exact .inr h
theorem portsK_wf {l : List (Int × Nat)} (hw : ∀ e ∈ l, (Lit.int .i64 e.1).wf = true) {k : Nat} (hk : k ≤ l.length) : ∀ x ∈ portsK l k, (Lit.int .i64 x.p).wf = true := by
  induction k with
  | zero => intro x hx; cases hx
  | succ k ih =>
    intro x hx
    rcases addS_mem hx with h | h
    · rw [h]
      show (Lit.int .i64 l[k]!.1).wf = true
      rw [getElem!_pos l k hk]
      exact hw _ (List.getElem_mem hk)
    · exact ih (by omega) x h
theorem portsK_len (l : List (Int × Nat)) (k : Nat) : (portsK l k).length ≤ k := by
  induction k with
  | zero => simp [portsK]
  | succ k ih =>
    have := putC_len (portsK l k) (addC (portsK l k) (seenC l k))
    show (addS _ _).length ≤ _
    unfold addS; omega
set_option maxRecDepth 100000 in
set_option maxHeartbeats 2000000 in
theorem ports_calls (l : List (Int × Nat)) (hw : ∀ e ∈ l, (Lit.int .i64 e.1).wf = true) (hl : l.length ≤ 100000) (a : Option Addr) (cap : Nat) (w : World)
    (hc : ∀ k, k < l.length → ∃ bk o, a = some ⟨bk, o, none⟩ ∧ bk < w.heap.size ∧ w.cell? ⟨bk, o + k * 3, none⟩ = some (.int .i64 l[k]!.1) ∧ (∃ z, w.cell? ⟨bk, o + k * 3 + 1, none⟩ = some (.int .i64 z)) ∧ ∃ A c, w.cell? ⟨bk, o + k * 3 + 2, none⟩ = some (.slice A l[k]!.2 c)) :
    Calls Try.prog 14 #[.slice a l.length cap] w fun e W => ∃ v, e = .returned v ∧ W.ownsRow w.heap.size 27 5 v (portsS l).length ((portsS l).flatMap cs) ∧ Below w.heap.size w W := by
  refine (callsIn_wide (n := 6)).1 ?_
  refine callsIn_of_wp Try.func14 rfl trivial ?_ rfl
  simp only [Try.ntmps14,List.size_toArray,List.length_cons,List.length_nil,Nat.reduceAdd,Nat.reduceSub,Array.replicate_succ,Array.replicate_zero,List.push_toArray,List.append_toArray,List.nil_append,List.cons_append]
  have hmk : (Instr.makeMap 65 none).run Try.prog w = .ok (.map (some w.heap.size)) (w.alloc (.map #[] 0)) := run_makeMap _ _
  gi_wp2_with (gi_at_builtin; refine wpListIn_len_sl _ rfl _ 29 47 rfl Try.underlying29 a l.length cap rfl ?_)
  have hm0 := World.ownsMap_made (H := Unit) w Try.prog 3 cR
  gi_loopw [9] (fun i wr => ∃ k : Nat, i = .int .i64 k ∧ k ≤ l.length ∧ wr.ownsMap Try.prog 3 cR w.heap.size k (mD (portsK l k)) ∧ Below w.heap.size w wr) (fun i _ => l.length - (intOf i).toNat)
  case atStart => exact ⟨0, rfl, Nat.zero_le _, hm0, (Below.refl _ w).alloc (Nat.le_refl _) _⟩
  case round =>
    rename_i Q1 K1 hK
    obtain ⟨k, rfl, hk, ho, hB⟩ := hrel
    by_cases hx : k < l.length
    · obtain ⟨bk, o, rfl, hbk, c0, ⟨z, c1⟩, A, c, c2⟩ := hc k hx
      have h0 : wr.cell? ⟨bk, o + k * 3, none⟩ = some (.int .i64 l[k]!.1) := (hB.cell (p := ⟨bk, o + k * 3, none⟩) hbk).trans c0
      have h1 : wr.cell? ⟨bk, o + k * 3 + 1, none⟩ = some (.int .i64 z) := (hB.cell (p := ⟨bk, o + k * 3 + 1, none⟩) hbk).trans c1
      have h2 : wr.cell? ⟨bk, o + k * 3 + 2, none⟩ = some (.slice A l[k]!.2 c) := (hB.cell (p := ⟨bk, o + k * 3 + 2, none⟩) hbk).trans c2
      have hz := hB.size
      have hsr := portsK_srt l k
      have hsn : portsK l (k + 1) = addS (portsK l k) (seenC l k) := rfl
      have hwk : (Lit.int .i64 l[k]!.1).wf = true := by rw [getElem!_pos l k hx]; exact hw _ (List.getElem_mem hx)
      have hsc : seenC l k = ⟨l[k]!.1, 1, l[k]!.2, k, k⟩ := rfl
      rw [hsc] at hsn
      have hoa := ho.alloc (.cells #[.int .i64 l[k]!.1, .int .i64 z, .slice A l[k]!.2 c] 47)
      clear hc c0 c1 c2 hsc
      generalize l[k]!.1 = p at *
      generalize l[k]!.2 = m at *
      gi_wp2_with (first
        | (gi_at_builtin; refine wpListIn_len_sl _ rfl _ 45 5 rfl Try.underlying45 A m c rfl ?_)
        | (refine ⟨trivial, ?_⟩; gi_at_call 28; refine (callsIn_wide.2 (add_calls w.heap.size k (portsK l k) hsr ⟨p, 1, m, k, k⟩ hwk _ hoa (by unfold maxLen; omega))).mono ?_; rintro e W5 ⟨⟨v, rfl⟩, hown5, hg5⟩))
      exact ⟨⟨k + 1, by go_num, hx, by rw [hsn]; exact hown5, hB.trans (grown_below ((World.grownBy_alloc wr _ _).trans hg5) (fun b hb => by cases hb; exact Nat.le_refl _) hz)⟩, by simp [intOf]; omega⟩
    · have e : k = l.length := by omega
      have hz := hB.size
      have hwf := portsK_wf hw hk
      have hln := portsK_len l k
      gi_wp2_with (refine ⟨trivial, ?_⟩; gi_at_call 29; refine (callsIn_wide.2 (list_calls w.heap.size k (portsK l k) (portsK_srt l k) hwf (by omega) _ ho)).mono ?_; rintro e W5 ⟨v, rfl, hrow, hB5⟩)
      go_ret
      exact ⟨v, rfl, by unfold portsS; rw [← e]; exact ownsRow_base_a hrow hz, hB.trans (hB5.mono hz)⟩
end Go.Proofs
set_option linter.unusedSimpArgs false
set_option linter.unusedVariables false
namespace Go.Proofs
open Go.Pv Go.RowKit Go.Shelf Go.Maps Go.Pv.Hq Go.Sort
attribute [local go_sem] Oper.semAt_some
theorem cs_len (L : List Cn) : (L.flatMap cs).length = L.length * 5 := by
  induction L with
  | nil => rfl
  | cons x r ih => simp only [List.flatMap_cons,List.length_append,ih,List.length_cons]; simp [cs]; omega
def CnAt (w : World) (A : Option Addr) (L : List Cn) : Prop := L.length ≠ 0 → ∃ bk o, A = some ⟨bk, o, none⟩ ∧ bk < w.heap.size ∧ ∀ j u, (L.flatMap cs)[j]? = some u → w.cell? ⟨bk, o + j, none⟩ = some u
theorem addr_add (bk o j : Nat) : (⟨bk, o, none⟩ : Addr).add j = ⟨bk, o + j, none⟩ := by
  unfold Addr.add
  split
  · rename_i e; rw [e]; rfl
  · rfl
theorem CnAt.below {w w' : World} {A : Option Addr} {L : List Cn} (h : CnAt w A L) (hb : Below w.heap.size w w') : L.length ≠ 0 → ∃ ad, A = some ad ∧ ∀ j u, (L.flatMap cs)[j]? = some u → w'.cell? (ad.add j) = some u := fun hn => by
  obtain ⟨bk, o, e, hlt, hc⟩ := h hn
  refine ⟨_, e, fun j u hu => ?_⟩
  rw [addr_add]
  exact (hb.cell (p := ⟨bk, o + j, none⟩) hlt).trans (hc j u hu)
end Go.Proofs
set_option linter.unusedSimpArgs false
set_option linter.unusedVariables false
namespace Go.Proofs
open Go.Pv Go.RowKit Go.Shelf Go.Maps Go.Pv.Hq Go.Sort
attribute [local go_sem] Oper.semAt_some
theorem css_at (L : List Cn) (k : Nat) (hk : k < L.length) : (L.flatMap cs)[k * 5 + 0]? = some (.int .i64 L[k]!.p) ∧ (L.flatMap cs)[k * 5 + 1]? = some (.int .i64 L[k]!.f) ∧ (L.flatMap cs)[k * 5 + 2]? = some (.int .i64 L[k]!.b) ∧
    (L.flatMap cs)[k * 5 + 3]? = some (.int .i64 L[k]!.s) ∧ (L.flatMap cs)[k * 5 + 4]? = some (.int .i64 L[k]!.e) := by
  have e : L.flatMap cs = (L.take k).flatMap cs ++ (cs L[k]! ++ (L.drop (k + 1)).flatMap cs) := by
    conv => lhs; rw [← List.take_append_drop k L]
    rw [List.flatMap_append, List.drop_eq_getElem_cons hk, List.flatMap_cons, getElem!_pos L k hk]
  have hl : ((L.take k).flatMap cs).length = k * 5 := by rw [cs_len, List.length_take, Nat.min_eq_left (by omega)]
  have key : ∀ j u, j < 5 → (cs L[k]!)[j]? = some u → (L.flatMap cs)[k * 5 + j]? = some u := fun j u hj hu => by
    rw [e, List.getElem?_append_right (by omega), hl, Nat.add_sub_cancel_left, List.getElem?_append_left (by simp [cs]; omega)]
    exact hu
  exact ⟨key 0 _ (by omega) rfl, key 1 _ (by omega) rfl, key 2 _ (by omega) rfl, key 3 _ (by omega) rfl, key 4 _ (by omega) rfl⟩
end Go.Proofs
/-
  The machine of plain values, 34: loops of few rounds, run round by round.
-/
set_option linter.unusedVariables false
namespace Go.Pv
set_option linter.unusedSectionVars false
variable [Lq]
section
variable {P : Program} {tr : Option Trim} {b : AC} {K : AE → St → Prop} {n : Nat} {fr : Fr} {hp : Hp} {σ : St}
end
end Go.Pv
set_option linter.unusedSimpArgs false
set_option linter.unusedVariables false
set_option maxHeartbeats 2000000
set_option maxRecDepth 20000
namespace Go.Proofs
open Go.Pv Go.Pv.Hq
def plR (x : Cn × Int) : AV := .agg [.int .i64 x.1.p, .int .i64 x.1.f, .int .i64 x.1.b, .int .i64 x.1.s, .int .i64 x.1.e, .int .i64 x.2]
set_option maxHeartbeats 4000000 in
theorem less_run (L : List (Cn × Int)) (i j : Nat) (hi : i < L.length) (hj : j < L.length) (full : Bool) (hl : L.length ≤ 100000) : Run Try.prog 87 [.sl 6 (L.map plR) full, .int .i64 i, .int .i64 j] (.bool (less L[i]! L[j]!)) := by
  refine Try.run87 (by simp) ?_
  unfold Try.c87
  have hgi : (L.map plR)[i]? = some (.agg [.int .i64 L[i]!.1.p, .int .i64 L[i]!.1.f, .int .i64 L[i]!.1.b, .int .i64 L[i]!.1.s, .int .i64 L[i]!.1.e, .int .i64 L[i]!.2]) := map_get hi
  have hgj : (L.map plR)[j]? = some (.agg [.int .i64 L[j]!.1.p, .int .i64 L[j]!.1.f, .int .i64 L[j]!.1.b, .int .i64 L[j]!.1.s, .int .i64 L[j]!.1.e, .int .i64 L[j]!.2]) := map_get hj
  have hlr : (L.map plR).length = L.length := List.length_map _
  generalize L.map plR = row at *
  generalize L[i]! = x at *
  generalize L[j]! = y at *
  obtain ⟨⟨xp, xf, xb, xs, xe⟩, xa⟩ := x
  obtain ⟨⟨yp, yf, yb, ys, ye⟩, ya⟩ := y
  simp only at hgi hgj
  by_cases h1 : xf = yf
  · by_cases h2 : xb = yb
    · by_cases h3 : xp = yp
      · rw [show less (⟨xp, xf, xb, xs, xe⟩, xa) (⟨yp, yf, yb, ys, ye⟩, ya) = decide (xa < ya) by simp [less, h1, h2, h3]]
        repeat' (first | (simp (disch := first|omega|(simp only[pvl];omega)) only [↓pvd,pva,Pv.put,bin2,int2,binB2,un1,AV.flat,pvf,szOk,notStr,setCells,AV.one,resX,layC,layA,lay,List.map,List.replicate,List.length_replicate,pve,seval,reduceCtorEq,hgi,hgj,hlr,still]) | with_reducible refine condP_d (fun _ => ?_) (fun _ => ?_) | with_reducible refine guardP_d0 (fun _ => ?_) (fun _ => ?_) | with_reducible refine guardP_d1 (fun _ => ?_) (fun _ => ?_) | with_reducible refine condP_any ?_ ?_ | (refine Ends_rq [] ?_; simp (disch := first|omega|(simp only[pvl];omega)) only [↓pvd,pva,Pv.put,bin2,int2,binB2,un1,AV.flat,pvf,szOk,notStr,setCells,AV.one,resX,layC,layA,lay,List.map,List.replicate,List.length_replicate,pve,seval,reduceCtorEq]; exact ⟨_,rfl,rfl,rfl⟩))
      · rw [show less (⟨xp, xf, xb, xs, xe⟩, xa) (⟨yp, yf, yb, ys, ye⟩, ya) = decide (xp < yp) by simp [less, h1, h2, h3]]
        repeat' (first | (simp (disch := first|omega|(simp only[pvl];omega)) only [↓pvd,pva,Pv.put,bin2,int2,binB2,un1,AV.flat,pvf,szOk,notStr,setCells,AV.one,resX,layC,layA,lay,List.map,List.replicate,List.length_replicate,pve,seval,reduceCtorEq,hgi,hgj,hlr,still]) | with_reducible refine condP_d (fun _ => ?_) (fun _ => ?_) | with_reducible refine guardP_d0 (fun _ => ?_) (fun _ => ?_) | with_reducible refine guardP_d1 (fun _ => ?_) (fun _ => ?_) | with_reducible refine condP_any ?_ ?_ | (refine Ends_rq [] ?_; simp (disch := first|omega|(simp only[pvl];omega)) only [↓pvd,pva,Pv.put,bin2,int2,binB2,un1,AV.flat,pvf,szOk,notStr,setCells,AV.one,resX,layC,layA,lay,List.map,List.replicate,List.length_replicate,pve,seval,reduceCtorEq]; exact ⟨_,rfl,rfl,rfl⟩))
    · rw [show less (⟨xp, xf, xb, xs, xe⟩, xa) (⟨yp, yf, yb, ys, ye⟩, ya) = decide (yb < xb) by simp [less, h1, h2]]
      repeat' (first | (simp (disch := first|omega|(simp only[pvl];omega)) only [↓pvd,pva,Pv.put,bin2,int2,binB2,un1,AV.flat,pvf,szOk,notStr,setCells,AV.one,resX,layC,layA,lay,List.map,List.replicate,List.length_replicate,pve,seval,reduceCtorEq,hgi,hgj,hlr,still]) | with_reducible refine condP_d (fun _ => ?_) (fun _ => ?_) | with_reducible refine guardP_d0 (fun _ => ?_) (fun _ => ?_) | with_reducible refine guardP_d1 (fun _ => ?_) (fun _ => ?_) | with_reducible refine condP_any ?_ ?_ | (refine Ends_rq [] ?_; simp (disch := first|omega|(simp only[pvl];omega)) only [↓pvd,pva,Pv.put,bin2,int2,binB2,un1,AV.flat,pvf,szOk,notStr,setCells,AV.one,resX,layC,layA,lay,List.map,List.replicate,List.length_replicate,pve,seval,reduceCtorEq]; exact ⟨_,rfl,rfl,rfl⟩))
  · rw [show less (⟨xp, xf, xb, xs, xe⟩, xa) (⟨yp, yf, yb, ys, ye⟩, ya) = decide (yf < xf) by simp [less, h1]]
    repeat' (first | (simp (disch := first|omega|(simp only[pvl];omega)) only [↓pvd,pva,Pv.put,bin2,int2,binB2,un1,AV.flat,pvf,szOk,notStr,setCells,AV.one,resX,layC,layA,lay,List.map,List.replicate,List.length_replicate,pve,seval,reduceCtorEq,hgi,hgj,hlr,still]) | with_reducible refine condP_d (fun _ => ?_) (fun _ => ?_) | with_reducible refine guardP_d0 (fun _ => ?_) (fun _ => ?_) | with_reducible refine guardP_d1 (fun _ => ?_) (fun _ => ?_) | with_reducible refine condP_any ?_ ?_ | (refine Ends_rq [] ?_; simp (disch := first|omega|(simp only[pvl];omega)) only [↓pvd,pva,Pv.put,bin2,int2,binB2,un1,AV.flat,pvf,szOk,notStr,setCells,AV.one,resX,layC,layA,lay,List.map,List.replicate,List.length_replicate,pve,seval,reduceCtorEq]; exact ⟨_,rfl,rfl,rfl⟩))
end Go.Proofs
set_option linter.unusedSimpArgs false
set_option linter.unusedVariables false
namespace Go.Proofs
open Go.Pv Go.RowKit Go.Shelf Go.Pv.Hq
attribute [local go_sem] Oper.semAt_some
def ps (x : Cn × Int) : List Value := [.int .i64 x.1.p, .int .i64 x.1.f, .int .i64 x.1.b, .int .i64 x.1.s, .int .i64 x.1.e, .int .i64 x.2]
theorem ps_len (L : List (Cn × Int)) : (L.flatMap ps).length = L.length * 6 := by
  induction L with
  | nil => rfl
  | cons x r ih => simp only [List.flatMap_cons,List.length_append,ih,List.length_cons]; simp [ps]; omega
theorem ps_at (L : List (Cn × Int)) (k : Nat) (hk : k < L.length) (j : Nat) (hj : j < 6) : (L.flatMap ps)[k * 6 + j]? = (ps L[k]!)[j]? := by
  have e : L.flatMap ps = (L.take k).flatMap ps ++ (ps L[k]! ++ (L.drop (k + 1)).flatMap ps) := by
    conv => lhs; rw [← List.take_append_drop k L]
    rw [List.flatMap_append, List.drop_eq_getElem_cons hk, List.flatMap_cons, getElem!_pos L k hk]
  have hl : ((L.take k).flatMap ps).length = k * 6 := by rw [ps_len, List.length_take, Nat.min_eq_left (by omega)]
  rw [e, List.getElem?_append_right (by omega), hl, Nat.add_sub_cancel_left, List.getElem?_append_left (by simp [ps]; omega)]
theorem less_calls {B : Nat} {v : Value} (L : List (Cn × Int)) (i j : Nat) (hi : i < L.length) (hj : j < L.length) (hl : L.length ≤ 100000) (w : World) (hown : w.ownsRow B 56 6 v L.length (L.flatMap ps)) :
    Calls Try.prog 87 #[v, .int .i64 i, .int .i64 j] w fun e W => e = .returned (.bool (less L[i]! L[j]!)) ∧ Below w.heap.size w W := by
  obtain ⟨A, cap, rfl, hA⟩ := owns_at hown
  obtain ⟨g, rfl, _, hg, _⟩ := hA 0 (by omega)
  have hc : ∀ k, k < L.length * 6 → w.cell? ⟨g, k, none⟩ = (L.flatMap ps)[k]? := fun k hk => by
    obtain ⟨g', e, _, _, h⟩ := hA k hk
    cases e; exact h
  have hcap : L.length ≤ cap := by
    rcases hown.2 with ⟨h, _⟩ | ⟨g', c', cur, h, _, _, h2, _⟩
    · cases h
    · cases h; exact h2
  have hr := less_run L i j hi hj false hl
  have hlr : (L.map plR).length = L.length := List.length_map _
  have hs : Sim w (bareG (· = g)) (.sl 6 (L.map plR) false) (.slice (some ⟨g, 0, none⟩) (L.map plR).length cap) := by
    refine .sl 6 (L.map plR) false g 0 cap (fun k m => ((ps L[k]!)[m]?).getD undef) (by omega) (by omega) (fun h => by cases h) hg rfl ?_ ?_ ?_
    · intro x hx
      obtain ⟨y, _, rfl⟩ := List.mem_map.1 hx
      rfl
    · intro k x m y hx hy
      have hk : k < L.length := by have := (List.getElem?_eq_some_iff.1 hx).1; omega
      have hxe : x = plR L[k]! := by
        rw [List.getElem?_map, List.getElem?_eq_getElem hk] at hx
        rw [getElem!_pos L k hk]; exact (Option.some.inj hx).symm
      subst hxe
      have hm : m < 6 := (List.getElem?_eq_some_iff.1 hy).1
      rw [Nat.zero_add, hc _ (by omega), ps_at L k hk m hm]
      have hp : (ps L[k]!).length = 6 := rfl
      rw [List.getElem?_eq_getElem (by omega)]
      refine ⟨rfl, ?_⟩
      match m, hm with
      | 0, _ => rfl
      | 1, _ => rfl
      | 2, _ => rfl
      | 3, _ => rfl
      | 4, _ => rfl
      | 5, _ => rfl
    · intro k x m y hx hy
      have hk : k < L.length := by have := (List.getElem?_eq_some_iff.1 hx).1; omega
      have hxe : x = plR L[k]! := by
        rw [List.getElem?_map, List.getElem?_eq_getElem hk] at hx
        rw [getElem!_pos L k hk]; exact (Option.some.inj hx).symm
      subst hxe
      have hm : m < 6 := (List.getElem?_eq_some_iff.1 hy).1
      match m, hm with
      | 0, _ => cases hy; exact .int _ _
      | 1, _ => cases hy; exact .int _ _
      | 2, _ => cases hy; exact .int _ _
      | 3, _ => cases hy; exact .int _ _
      | 4, _ => cases hy; exact .int _ _
      | 5, _ => cases hy; exact .int _ _
  rw [hlr] at hs
  refine (hr.2 w (fun b => b = g) [] _ trivial ⟨fun b h => ⟨by rw [h]; exact hg, blks_nil b⟩, fun b h => absurd h (blks_nil b), .nil⟩ (.cons (os := []) (os' := []) ⟨rfl, hs⟩ (.cons (os := []) (os' := []) ⟨rfl, .int .i64 i⟩ (.cons (os := []) (os' := []) ⟨rfl, .int .i64 j⟩ .nil)))).mono ?_
  rintro e W ⟨v, I', os', rfl, ht, hok, hst⟩
  refine ⟨?_, hst.osk, hst.tape, hst.output, hst.size, fun b hb => hst.keep b hb (blks_nil b)⟩
  cases bool_inv ht.2
  rfl
end Go.Proofs
set_option linter.unusedSimpArgs false
set_option linter.unusedVariables false
namespace Go.Proofs
open Go.Pv Go.RowKit Go.Shelf Go.Pv.Hq
attribute [local go_sem] Oper.semAt_some
theorem owns_fz {w : World} {base : Nat} {e : TypeId} {s : Nat} {g n cap : Nat} {xs : List Value} (h : w.ownsRow base e s (.slice (some ⟨g, 0, none⟩) n cap) n xs) (j : Nat) : w.frozen? ⟨g, j, none⟩ = false := by
  rcases h.2 with ⟨h', _⟩ | ⟨g', cap', cur, h', hb, hg, _⟩
  · cases h'
  · cases h'
    simp [World.frozen?, hg]
theorem set6 (L : List (Cn × Int)) (i : Nat) (hi : i < L.length) (y : Cn × Int) :
    ((((((L.flatMap ps).set (i * 6) (.int .i64 y.1.p)).set (i * 6 + 1) (.int .i64 y.1.f)).set (i * 6 + 2) (.int .i64 y.1.b)).set (i * 6 + 3) (.int .i64 y.1.s)).set (i * 6 + 4) (.int .i64 y.1.e)).set (i * 6 + 5) (.int .i64 y.2) = (L.set i y).flatMap ps := by
  have hl : ((L.take i).flatMap ps).length = i * 6 := by rw [ps_len, List.length_take, Nat.min_eq_left (by omega)]
  have e : L.flatMap ps = (L.take i).flatMap ps ++ (ps L[i]! ++ (L.drop (i + 1)).flatMap ps) := by
    conv => lhs; rw [← List.take_append_drop i L]
    rw [List.flatMap_append, List.drop_eq_getElem_cons hi, List.flatMap_cons, getElem!_pos L i hi]
  have e2 : (L.set i y).flatMap ps = (L.take i).flatMap ps ++ (ps y ++ (L.drop (i + 1)).flatMap ps) := by
    rw [List.set_eq_take_append_cons_drop, if_pos hi, List.flatMap_append, List.flatMap_cons]
  rw [e, e2]
  generalize (L.take i).flatMap ps = pre at *
  generalize (L.drop (i + 1)).flatMap ps = post at *
  have key : ∀ (m : Nat) (u : Value) (q : List Value), (pre ++ q).set (i * 6 + m) u = pre ++ q.set m u := fun m u q => by
    rw [List.set_append_right _ _ (by omega), hl, Nat.add_sub_cancel_left]
  have k0 := key 0
  rw [Nat.add_zero] at k0
  rw [k0, key, key, key, key, key]
  rfl
theorem stored6 {w : World} {B g cap : Nat} {L : List (Cn × Int)} (h : w.ownsRow B 56 6 (.slice (some ⟨g, 0, none⟩) L.length cap) L.length (L.flatMap ps)) (i : Nat) (hi : i < L.length) (y : Cn × Int) :
    let W := (((((w.setCell ⟨g, i * 6, none⟩ (.int .i64 y.1.p)).setCell ⟨g, i * 6 + 1, none⟩ (.int .i64 y.1.f)).setCell ⟨g, i * 6 + 2, none⟩ (.int .i64 y.1.b)).setCell ⟨g, i * 6 + 3, none⟩ (.int .i64 y.1.s)).setCell ⟨g, i * 6 + 4, none⟩ (.int .i64 y.1.e)).setCell ⟨g, i * 6 + 5, none⟩ (.int .i64 y.2)
    W.ownsRow B 56 6 (.slice (some ⟨g, 0, none⟩) (L.set i y).length cap) (L.set i y).length ((L.set i y).flatMap ps) ∧ w.grownBy W (some g) ∧ W.heap.size = w.heap.size := by
  have h0 := h.stored (i * 6) (.int .i64 y.1.p)
  have h1 := h0.1.stored (i * 6 + 1) (.int .i64 y.1.f)
  have h2 := h1.1.stored (i * 6 + 2) (.int .i64 y.1.b)
  have h3 := h2.1.stored (i * 6 + 3) (.int .i64 y.1.s)
  have h4 := h3.1.stored (i * 6 + 4) (.int .i64 y.1.e)
  have h5 := h4.1.stored (i * 6 + 5) (.int .i64 y.2)
  refine ⟨?_, h0.2.trans (h1.2.trans (h2.2.trans (h3.2.trans (h4.2.trans h5.2)))), by simp⟩
  rw [List.length_set, ← set6 L i hi y]
  exact h5.1
theorem swap_end {w W : World} {B g cap n : Nat} {xs : List Value} (h1 : W.ownsRow B 56 6 (.slice (some ⟨g, 0, none⟩) n cap) n xs) (h2 : w.grownBy W (some g)) (h3 : W.heap.size = w.heap.size) :
    (∃ u, Ending.returned (.tuple #[]) = Ending.returned u) ∧ W.drew.ownsRow B 56 6 (.slice (some ⟨g, 0, none⟩) n cap) n xs ∧ w.grownBy W.drew (Value.slice (some ⟨g, 0, none⟩) n cap).ownBlock ∧ W.drew.heap.size = w.heap.size :=
  ⟨⟨_, rfl⟩, h1, ⟨h2.os, h2.tape, h2.output, h2.size, h2.block⟩, h3⟩
set_option maxRecDepth 100000 in
set_option maxHeartbeats 400000 in
theorem swap_calls {B : Nat} {v : Value} (L : List (Cn × Int)) (i j : Nat) (hi : i < L.length) (hj : j < L.length) (hl : L.length ≤ 100000) (w : World) (hown : w.ownsRow B 56 6 v L.length (L.flatMap ps)) :
    Calls Try.prog 90 #[v, .int .i64 i, .int .i64 j] w fun e W => (∃ u, e = .returned u) ∧ W.ownsRow B 56 6 v L.length ((swq L i j).flatMap ps) ∧ w.grownBy W v.ownBlock ∧ W.heap.size = w.heap.size := by
  obtain ⟨A, cap, rfl, hA⟩ := owns_at hown
  obtain ⟨g, rfl, _, hg, _⟩ := hA 0 (by omega)
  have hc : ∀ k, k < L.length → ∀ m, m < 6 → w.cell? ⟨g, k * 6 + m, none⟩ = (ps L[k]!)[m]? := fun k hk m hm => by
    obtain ⟨g', e, _, _, h⟩ := hA (k * 6 + m) (by omega)
    cases e; rw [h, ps_at L k hk m hm]
  have f := owns_fz hown
  have i0 := hc i hi 0 (by omega)
  have i1 := hc i hi 1 (by omega)
  have i2 := hc i hi 2 (by omega)
  have i3 := hc i hi 3 (by omega)
  have i4 := hc i hi 4 (by omega)
  have i5 := hc i hi 5 (by omega)
  have j0 := hc j hj 0 (by omega)
  have j1 := hc j hj 1 (by omega)
  have j2 := hc j hj 2 (by omega)
  have j3 := hc j hj 3 (by omega)
  have j4 := hc j hj 4 (by omega)
  have j5 := hc j hj 5 (by omega)
  simp only [ps,List.getElem?_cons_zero,List.getElem?_cons_succ,Nat.add_zero] at i0 i1 i2 i3 i4 i5 j0 j1 j2 j3 j4 j5
  generalize hx : L[i]! = x at *
  generalize hy : L[j]! = y at *
  obtain ⟨⟨xp, xf, xb, xs, xe⟩, xa⟩ := x
  obtain ⟨⟨yp, yf, yb, ys, ye⟩, ya⟩ := y
  simp only at i0 i1 i2 i3 i4 i5 j0 j1 j2 j3 j4 j5
  clear hc hA
  refine (callsIn_wide (n := 6)).1 ?_
  refine callsIn_of_wp Try.func90 rfl trivial ?_ rfl
  simp only [Try.ntmps90,List.size_toArray,List.length_cons,List.length_nil,Nat.reduceAdd,Nat.reduceSub,Array.replicate_succ,Array.replicate_zero,List.push_toArray,List.append_toArray,List.nil_append,List.cons_append]
  have hsw : swq L i j = (L.set i (⟨yp, yf, yb, ys, ye⟩, ya)).set j (⟨xp, xf, xb, xs, xe⟩, xa) := by unfold swq; rw [hx, hy]
  have s1 := stored6 hown i hi (⟨yp, yf, yb, ys, ye⟩, ya)
  have s2 := stored6 s1.1 j (by simpa using hj) (⟨xp, xf, xb, xs, xe⟩, xa)
  rw [← hsw] at s2
  simp only [List.length_set,swq_len] at s2
  clear hsw
  by_cases hij : i = j
  · subst hij
    rw [hx] at hy
    cases hy
    gi_region
    refine bodyPost_end (results_none rfl _ _ _) rfl ?_
    exact swap_end s2.1 (s1.2.1.trans s2.2.1) (s2.2.2.trans s1.2.2)
  · have n0 : ∀ a b : Nat, a < 6 → b < 6 → i * 6 + a ≠ j * 6 + b := fun a b h1 h2 => by omega
    gi_region
    refine bodyPost_end (results_none rfl _ _ _) rfl ?_
    exact swap_end s2.1 (s1.2.1.trans s2.2.1) (s2.2.2.trans s1.2.2)
end Go.Proofs
set_option linter.unusedSimpArgs false
set_option linter.unusedVariables false
namespace Go.Proofs
open Go.Pv Go.RowKit Go.Shelf Go.Pv.Hq
attribute [local go_sem] Oper.semAt_some
structure QV (w : World) (B qb : Nat) (v : Value) (L : List (Cn × Int)) : Prop where
  base : B ≤ qb
  box : w.heap[qb]? = some (.cells #[v] 53 (0, 0))
  row : w.ownsRow B 56 6 v L.length (L.flatMap ps)
  ap : v.ownBlock ≠ some qb
abbrev qif (qb : Nat) : Value := .iface 51 (.pointer (some ⟨qb, 0, none⟩))
theorem QV.cell {w : World} {B qb : Nat} {v : Value} {L : List (Cn × Int)} (h : QV w B qb v L) : w.cell? ⟨qb, 0, none⟩ = some v := by simp [World.cell?, h.box]
theorem QV.grown {w w' : World} {B qb : Nat} {v : Value} {L : List (Cn × Int)} (h : QV w B qb v L) (hg : w.grownBy w' none) : QV w' B qb v L := by
  have hlt : qb < w.heap.size := (Array.getElem?_eq_some_iff.1 h.box).1
  exact ⟨h.base, (hg.block qb hlt (by simp)).trans h.box, h.row.kept hg (by cases v.ownBlock <;> simp), h.ap⟩
theorem QV.turn {w w' : World} {B qb : Nat} {v : Value} {L L2 : List (Cn × Int)} (h : QV w B qb v L) (hr : w'.ownsRow B 56 6 v L.length (L2.flatMap ps)) (hl : L2.length = L.length) (hg : w.grownBy w' v.ownBlock) : QV w' B qb v L2 := by
  have hlt : qb < w.heap.size := (Array.getElem?_eq_some_iff.1 h.box).1
  exact ⟨h.base, (hg.block qb hlt (fun e => h.ap e.symm)).trans h.box, by rw [hl]; exact hr, h.ap⟩
theorem below_grown {w w' : World} (h : Below w.heap.size w w') (r : Option Nat) : w.grownBy w' r := ⟨h.os, h.tape, h.output, h.size, fun k hk _ => h.block k hk⟩
theorem less_callsI {B : Nat} {v : Value} (L : List (Cn × Int)) (I J : Int) (i j : Nat) (hI : I = i) (hJ : J = j) (hi : i < L.length) (hj : j < L.length) (hl : L.length ≤ 100000) (w : World) (hown : w.ownsRow B 56 6 v L.length (L.flatMap ps)) (c : Bool) (hc : less L[i]! L[j]! = c) :
    Calls Try.prog 87 #[v, .int .i64 I, .int .i64 J] w fun e W => e = .returned (.bool c) ∧ Below w.heap.size w W := by
  subst hI hJ hc
  exact less_calls L i j hi hj hl w hown
theorem swap_callsI {B : Nat} {v : Value} (L : List (Cn × Int)) (I J : Int) (i j : Nat) (hI : I = i) (hJ : J = j) (hi : i < L.length) (hj : j < L.length) (hl : L.length ≤ 100000) (w : World) (hown : w.ownsRow B 56 6 v L.length (L.flatMap ps)) :
    Calls Try.prog 90 #[v, .int .i64 I, .int .i64 J] w fun e W => (∃ u, e = .returned u) ∧ W.ownsRow B 56 6 v L.length ((swq L i j).flatMap ps) ∧ w.grownBy W v.ownBlock ∧ W.heap.size = w.heap.size := by
  subst hI hJ
  exact swap_calls L i j hi hj hl w hown
theorem meth_get {nm : String} {pr : Option (FuncId × Bool)} (hm : (Try.prog.info? 51).bind (fun i => (i.methods.find? (·.name == nm)).map fun m => (m.path, m.func)) = some (#[], pr)) :
    ∃ i m, Try.prog.info? 51 = some i ∧ i.methods.find? (·.name == nm) = some m ∧ m.path = #[] ∧ m.func = pr := by
  cases hi : Try.prog.info? 51 with
  | none => rw [hi] at hm; cases hm
  | some i =>
    rw [hi] at hm
    simp only [Option.bind_some] at hm
    cases hf : i.methods.find? (·.name == nm) with
    | none => rw [hf] at hm; cases hm
    | some m =>
      rw [hf] at hm
      simp only [Option.map_some,Option.some.injEq,Prod.mk.injEq] at hm
      exact ⟨i, m, rfl, hf, hm.1, hm.2⟩
theorem meth_val (nm : String) (f : FuncId) (hm : (Try.prog.info? 51).bind (fun i => (i.methods.find? (·.name == nm)).map fun m => (m.path, m.func)) = some (#[], some (f, false))) (fuel qb : Nat) (v : Value) (W : World)
    (h : W.cell? ⟨qb, 0, none⟩ = some v) : (method (fuel + 1) 51 (.pointer (some ⟨qb, 0, none⟩)) nm).run Try.prog W = .ok (f, v) W := by
  obtain ⟨i, m, h1, h2, h3, h4⟩ := meth_get hm
  have hs : ∀ (s t : ByteArray), (Builtin.ssaWrapNilChk_ #[51] 51 #[.pointer (some ⟨qb, 0, none⟩), .string s, .string t]).run Try.prog W = .ok (.pointer (some ⟨qb, 0, none⟩)) W := fun s t => rfl
  simp [method, typeInfo, h1, h2, h3, h4, follow, receiverAt, run_underlying Try.underlying51, Place.get, hs, strVal, loadVar, asAddr, Try.isAgg53, go_sem, h]
theorem meth_ptr (nm : String) (f : FuncId) (hm : (Try.prog.info? 51).bind (fun i => (i.methods.find? (·.name == nm)).map fun m => (m.path, m.func)) = some (#[], some (f, true))) (fuel : Nat) (p : Value) (W : World) :
    (method (fuel + 1) 51 p nm).run Try.prog W = .ok (f, p) W := by
  obtain ⟨i, m, h1, h2, h3, h4⟩ := meth_get hm
  simp [method, typeInfo, h1, h2, h3, h4, follow, receiverAt, run_underlying Try.underlying51, Place.get, go_sem]
theorem mLess : (Try.prog.info? 51).bind (fun i => (i.methods.find? (·.name == "Less")).map fun m => (m.path, m.func)) = some (#[], some (87, false)) := by kernel_rfl
theorem mSwap : (Try.prog.info? 51).bind (fun i => (i.methods.find? (·.name == "Swap")).map fun m => (m.path, m.func)) = some (#[], some (90, false)) := by kernel_rfl
theorem mLen : (Try.prog.info? 51).bind (fun i => (i.methods.find? (·.name == "Len")).map fun m => (m.path, m.func)) = some (#[], some (23, false)) := by kernel_rfl
theorem mPush : (Try.prog.info? 51).bind (fun i => (i.methods.find? (·.name == "Push")).map fun m => (m.path, m.func)) = some (#[], some (89, true)) := by kernel_rfl
theorem mPop : (Try.prog.info? 51).bind (fun i => (i.methods.find? (·.name == "Pop")).map fun m => (m.path, m.func)) = some (#[], some (88, true)) := by kernel_rfl
set_option maxRecDepth 100000 in
set_option maxHeartbeats 1000000 in
theorem up_calls {B qb : Nat} {v : Value} (L : List (Cn × Int)) (j : Nat) (hj : j < L.length) (hl : L.length ≤ 100000) (w : World) (hq : QV w B qb v L) (hu : UpOk less L j) :
    Calls Try.prog 37 #[qif qb, .int .i64 j] w fun e W => (∃ u, e = .returned u) ∧ ∃ L' : List (Cn × Int), L'.Perm L ∧ Heap less L' ∧ QV W B qb v L' ∧ w.grownBy W v.ownBlock := by
  go_enter Try.func37, Try.ntmps37
  go_wp2
  go_loopw [1] (fun i wr => ∃ (k : Nat) (L' : List (Cn × Int)), i = .int .i64 k ∧ k < L'.length ∧ L'.Perm L ∧ UpOk less L' k ∧ QV wr B qb v L' ∧ w.grownBy wr v.ownBlock) (fun i _ => (intOf i).toNat)
  case atStart => exact ⟨j, L, rfl, hj, .refl _, hu, hq, ⟨rfl, rfl, rfl, Nat.le_refl _, fun _ _ _ => rfl⟩⟩
  case round =>
    obtain ⟨k, L', rfl, hk, hp, huk, hqk, hG⟩ := hrel
    have hc := hqk.cell
    have hml := meth_val "Less" 87 mLess 237 qb v wr hc
    have hln : L'.length ≤ 100000 := by rw [hp.length_eq]; exact hl
    by_cases h0 : k = 0
    · subst h0
      go_wp2
      refine bodyPost_end (results_none rfl _ _ _) rfl ?_
      exact ⟨⟨_, rfl⟩, L', hp, up_stop huk (.inl rfl), hqk, hG⟩
    · have e1 : ((k : Int) - 1) / 2 = ((par k : Nat) : Int) := by unfold par; omega
      have hpk : par k < k := by unfold par; omega
      have hne : ((par k : Nat) : Int) ≠ (k : Int) := by omega
      cases hls : less L'[k]! L'[par k]! with
      | false =>
        go_wp2_with (go_at_call 87; refine (less_calls L' k (par k) hk (by omega) hln _ hqk.row).mono ?_; rintro e W1 ⟨rfl, hB1⟩; rw [hls])
        refine bodyPost_end (results_none rfl _ _ _) rfl ?_
        exact ⟨⟨_, rfl⟩, L', hp, up_stop huk (.inr hls), hqk.grown (below_grown hB1 _), hG.trans (below_grown hB1 _)⟩
      | true =>
        go_wp2_with (first
          | (go_at_call 87; refine (less_calls L' k (par k) hk (by omega) hln _ hqk.row).mono ?_; rintro e W1 ⟨rfl, hB1⟩; rw [hls]; have hq1 := hqk.grown (below_grown hB1 none); have hms := meth_val "Swap" 90 mSwap 237 qb v W1 hq1.cell)
          | (go_at_call 90; refine (swap_calls L' (par k) k (by omega) hk hln _ hq1.row).mono ?_; rintro e W2 ⟨⟨u, rfl⟩, hr2, hG2, hs2⟩))
        exact ⟨⟨par k, swq L' (par k) k, rfl, by rw [swq_len]; omega, (swq_perm (by omega) hk).trans hp, up_step less_ord huk (by omega) hk hls, hq1.turn hr2 (swq_len _ _ _) hG2, hG.trans ((below_grown hB1 _).trans hG2)⟩, by simp [intOf]; omega⟩
set_option maxRecDepth 100000 in
set_option maxHeartbeats 1000000 in
theorem down_calls {B qb : Nat} {v : Value} (A : List (Cn × Int)) (x : Cn × Int) (hl : A.length ≤ 10000) (w : World) (hq : QV w B qb v (A ++ [x])) (hu : DownOk less A 0) :
    Calls Try.prog 38 #[qif qb, .int .i64 0, .int .i64 A.length] w fun e W => (∃ u, e = .returned u) ∧ ∃ A' : List (Cn × Int), A'.Perm A ∧ Heap less A' ∧ QV W B qb v (A' ++ [x]) ∧ w.grownBy W v.ownBlock := by
  go_enter Try.func38, Try.ntmps38
  go_wp2
  go_loopw [7] (fun i wr => ∃ (k : Nat) (A' : List (Cn × Int)), i = .int .i64 k ∧ A'.Perm A ∧ (k = 0 ∨ k < A'.length) ∧ DownOk less A' k ∧ QV wr B qb v (A' ++ [x]) ∧ w.grownBy wr v.ownBlock) (fun i _ => A.length - (intOf i).toNat)
  case atStart => exact ⟨0, A, rfl, .refl _, .inl rfl, hu, hq, ⟨rfl, rfl, rfl, Nat.le_refl _, fun _ _ _ => rfl⟩⟩
  case round =>
    obtain ⟨k, A', rfl, hp, hk, huk, hqk, hG⟩ := hrel
    have hc := hqk.cell
    have hml := meth_val "Less" 87 mLess 237 qb v wr hc
    have hln := hp.length_eq
    have hla : (A' ++ [x]).length = A'.length + 1 := by simp
    have hg : ∀ m, m < A'.length → (A' ++ [x])[m]! = A'[m]! := fun m hm => app_get hm
    by_cases h1 : 2 * k + 1 < A.length
    · by_cases h2 : 2 * k + 1 + 1 < A.length
      · cases h3 : less (A' ++ [x])[2 * k + 2]! (A' ++ [x])[2 * k + 1]! with
        | true =>
          have h3' : less A'[2 * k + 2]! A'[2 * k + 1]! = true := by rw [← hg _ (by omega), ← hg (2 * k + 1) (by omega)]; exact h3
          have hb := best2 less_ord (l := A') (i := k) (j := 2 * k + 2) (by omega) (by first | exact .inl ⟨rfl, by omega, h3'⟩ | exact .inr ⟨rfl, .inr h3'⟩ | exact .inr ⟨rfl, .inl (by omega)⟩)
          obtain ⟨hj0, hjl, hpj, hb⟩ := hb
          cases h4 : less (A' ++ [x])[2 * k + 2]! (A' ++ [x])[k]! with
          | false =>
            have hj : less A'[2 * k + 2]! A'[k]! = false := by rw [← hg _ hjl, ← hg k (by omega)]; exact h4
            go_wp2_with (first | (go_at_call 87; refine (less_callsI (A' ++ [x]) _ _ (2 * k + 2) (2 * k + 1) (by omega) (by omega) (by omega) (by omega) (by omega) _ hqk.row _ h3).mono ?_; rintro e W1 ⟨rfl, p⟩; have pq := hqk.grown (below_grown p none); have pm := meth_val "Less" 87 mLess 237 qb v W1 pq.cell; have ps := meth_val "Swap" 90 mSwap 237 qb v W1 pq.cell) | (go_at_call 87; refine (less_callsI (A' ++ [x]) _ _ (2 * k + 2) (k) (by omega) (by omega) (by omega) (by omega) (by omega) _ pq.row _ h4).mono ?_; rintro e W2 ⟨rfl, q⟩; have qq := pq.grown (below_grown q none); have qm := meth_val "Less" 87 mLess 237 qb v W2 qq.cell; have qs := meth_val "Swap" 90 mSwap 237 qb v W2 qq.cell))
            go_ret
            exact ⟨⟨_, rfl⟩, A', hp, down_stop less_ord huk hj hb, qq, hG.trans ((below_grown p _).trans (below_grown q _))⟩
          | true =>
            have hj : less A'[2 * k + 2]! A'[k]! = true := by rw [← hg _ hjl, ← hg k (by omega)]; exact h4
            go_wp2_with (first | (go_at_call 87; refine (less_callsI (A' ++ [x]) _ _ (2 * k + 2) (2 * k + 1) (by omega) (by omega) (by omega) (by omega) (by omega) _ hqk.row _ h3).mono ?_; rintro e W1 ⟨rfl, p⟩; have pq := hqk.grown (below_grown p none); have pm := meth_val "Less" 87 mLess 237 qb v W1 pq.cell; have ps := meth_val "Swap" 90 mSwap 237 qb v W1 pq.cell) | (go_at_call 87; refine (less_callsI (A' ++ [x]) _ _ (2 * k + 2) (k) (by omega) (by omega) (by omega) (by omega) (by omega) _ pq.row _ h4).mono ?_; rintro e W2 ⟨rfl, q⟩; have qq := pq.grown (below_grown q none); have qm := meth_val "Less" 87 mLess 237 qb v W2 qq.cell; have qs := meth_val "Swap" 90 mSwap 237 qb v W2 qq.cell) | (go_at_call 90; refine (swap_callsI (A' ++ [x]) _ _ k (2 * k + 2) (by omega) (by omega) (by omega) (by omega) (by omega) _ qq.row).mono ?_; rintro e W3 ⟨⟨u, rfl⟩, hr3, hG3, hs3⟩))
            exact ⟨⟨2 * k + 2, swq A' k (2 * k + 2), by simp only [Value.int.injEq,true_and]; omega, (swq_perm (by omega) (by omega)).trans hp, .inr (by rw [swq_len]; omega), down_step less_ord huk hj0 hjl hpj hj hb, by rw [← swq_app (by omega) (by omega)]; exact qq.turn hr3 (swq_len _ _ _) hG3, (hG.trans ((below_grown p _).trans (below_grown q _))).trans hG3⟩, by simp [intOf]; omega⟩
        | false =>
          have h3' : less A'[2 * k + 2]! A'[2 * k + 1]! = false := by rw [← hg _ (by omega), ← hg (2 * k + 1) (by omega)]; exact h3
          have hb := best2 less_ord (l := A') (i := k) (j := 2 * k + 1) (by omega) (by first | exact .inl ⟨rfl, by omega, h3'⟩ | exact .inr ⟨rfl, .inr h3'⟩ | exact .inr ⟨rfl, .inl (by omega)⟩)
          obtain ⟨hj0, hjl, hpj, hb⟩ := hb
          cases h4 : less (A' ++ [x])[2 * k + 1]! (A' ++ [x])[k]! with
          | false =>
            have hj : less A'[2 * k + 1]! A'[k]! = false := by rw [← hg _ hjl, ← hg k (by omega)]; exact h4
            go_wp2_with (first | (go_at_call 87; refine (less_callsI (A' ++ [x]) _ _ (2 * k + 2) (2 * k + 1) (by omega) (by omega) (by omega) (by omega) (by omega) _ hqk.row _ h3).mono ?_; rintro e W1 ⟨rfl, p⟩; have pq := hqk.grown (below_grown p none); have pm := meth_val "Less" 87 mLess 237 qb v W1 pq.cell; have ps := meth_val "Swap" 90 mSwap 237 qb v W1 pq.cell) | (go_at_call 87; refine (less_callsI (A' ++ [x]) _ _ (2 * k + 1) (k) (by omega) (by omega) (by omega) (by omega) (by omega) _ pq.row _ h4).mono ?_; rintro e W2 ⟨rfl, q⟩; have qq := pq.grown (below_grown q none); have qm := meth_val "Less" 87 mLess 237 qb v W2 qq.cell; have qs := meth_val "Swap" 90 mSwap 237 qb v W2 qq.cell))
            go_ret
            exact ⟨⟨_, rfl⟩, A', hp, down_stop less_ord huk hj hb, qq, hG.trans ((below_grown p _).trans (below_grown q _))⟩
          | true =>
            have hj : less A'[2 * k + 1]! A'[k]! = true := by rw [← hg _ hjl, ← hg k (by omega)]; exact h4
            go_wp2_with (first | (go_at_call 87; refine (less_callsI (A' ++ [x]) _ _ (2 * k + 2) (2 * k + 1) (by omega) (by omega) (by omega) (by omega) (by omega) _ hqk.row _ h3).mono ?_; rintro e W1 ⟨rfl, p⟩; have pq := hqk.grown (below_grown p none); have pm := meth_val "Less" 87 mLess 237 qb v W1 pq.cell; have ps := meth_val "Swap" 90 mSwap 237 qb v W1 pq.cell) | (go_at_call 87; refine (less_callsI (A' ++ [x]) _ _ (2 * k + 1) (k) (by omega) (by omega) (by omega) (by omega) (by omega) _ pq.row _ h4).mono ?_; rintro e W2 ⟨rfl, q⟩; have qq := pq.grown (below_grown q none); have qm := meth_val "Less" 87 mLess 237 qb v W2 qq.cell; have qs := meth_val "Swap" 90 mSwap 237 qb v W2 qq.cell) | (go_at_call 90; refine (swap_callsI (A' ++ [x]) _ _ k (2 * k + 1) (by omega) (by omega) (by omega) (by omega) (by omega) _ qq.row).mono ?_; rintro e W3 ⟨⟨u, rfl⟩, hr3, hG3, hs3⟩))
            exact ⟨⟨2 * k + 1, swq A' k (2 * k + 1), by simp only [Value.int.injEq,true_and]; omega, (swq_perm (by omega) (by omega)).trans hp, .inr (by rw [swq_len]; omega), down_step less_ord huk hj0 hjl hpj hj hb, by rw [← swq_app (by omega) (by omega)]; exact qq.turn hr3 (swq_len _ _ _) hG3, (hG.trans ((below_grown p _).trans (below_grown q _))).trans hG3⟩, by simp [intOf]; omega⟩
      · 
        have hb := best2 less_ord (l := A') (i := k) (j := 2 * k + 1) (by omega) (by first | exact .inl ⟨rfl, by omega, h3'⟩ | exact .inr ⟨rfl, .inr h3'⟩ | exact .inr ⟨rfl, .inl (by omega)⟩)
        obtain ⟨hj0, hjl, hpj, hb⟩ := hb
        cases h4 : less (A' ++ [x])[2 * k + 1]! (A' ++ [x])[k]! with
        | false =>
          have hj : less A'[2 * k + 1]! A'[k]! = false := by rw [← hg _ hjl, ← hg k (by omega)]; exact h4
          go_wp2_with (first | (go_at_call 87; refine (less_callsI (A' ++ [x]) _ _ (2 * k + 1) (k) (by omega) (by omega) (by omega) (by omega) (by omega) _ hqk.row _ h4).mono ?_; rintro e W2 ⟨rfl, q⟩; have qq := hqk.grown (below_grown q none); have qm := meth_val "Less" 87 mLess 237 qb v W2 qq.cell; have qs := meth_val "Swap" 90 mSwap 237 qb v W2 qq.cell))
          go_ret
          exact ⟨⟨_, rfl⟩, A', hp, down_stop less_ord huk hj hb, qq, hG.trans (below_grown q _)⟩
        | true =>
          have hj : less A'[2 * k + 1]! A'[k]! = true := by rw [← hg _ hjl, ← hg k (by omega)]; exact h4
          go_wp2_with (first | (go_at_call 87; refine (less_callsI (A' ++ [x]) _ _ (2 * k + 1) (k) (by omega) (by omega) (by omega) (by omega) (by omega) _ hqk.row _ h4).mono ?_; rintro e W2 ⟨rfl, q⟩; have qq := hqk.grown (below_grown q none); have qm := meth_val "Less" 87 mLess 237 qb v W2 qq.cell; have qs := meth_val "Swap" 90 mSwap 237 qb v W2 qq.cell) | (go_at_call 90; refine (swap_callsI (A' ++ [x]) _ _ k (2 * k + 1) (by omega) (by omega) (by omega) (by omega) (by omega) _ qq.row).mono ?_; rintro e W3 ⟨⟨u, rfl⟩, hr3, hG3, hs3⟩))
          exact ⟨⟨2 * k + 1, swq A' k (2 * k + 1), by simp only [Value.int.injEq,true_and]; omega, (swq_perm (by omega) (by omega)).trans hp, .inr (by rw [swq_len]; omega), down_step less_ord huk hj0 hjl hpj hj hb, by rw [← swq_app (by omega) (by omega)]; exact qq.turn hr3 (swq_len _ _ _) hG3, (hG.trans (below_grown q _)).trans hG3⟩, by simp [intOf]; omega⟩
    · go_wp2
      go_ret
      exact ⟨⟨_, rfl⟩, A', hp, down_stop0 huk (by omega), hqk, hG⟩
end Go.Proofs
set_option linter.unusedSimpArgs false
set_option linter.unusedVariables false
namespace Go.Proofs
open Go.Pv Go.RowKit Go.Shelf Go.Pv.Hq
attribute [local go_sem] Oper.semAt_some
theorem info56 : ∃ i, Try.prog.info? 56 = some i ∧ i.zero = some (.agg #[.int .i64 0, .int .i64 0, .int .i64 0, .int .i64 0, .int .i64 0, .int .i64 0]) ∧ i.size = 6 ∧ i.bytes = 48 := by
  have h : (Try.prog.info? 56).map (fun i => (i.zero, i.size, i.bytes)) = some (some (.agg #[.int .i64 0, .int .i64 0, .int .i64 0, .int .i64 0, .int .i64 0, .int .i64 0]), 6, 48) := by kernel_rfl
  cases hi : Try.prog.info? 56 with
  | none => rw [hi] at h; cases h
  | some i =>
    rw [hi] at h
    simp only [Option.map_some,Option.some.injEq,Prod.mk.injEq] at h
    exact ⟨i, rfl, h.1, h.2.1, h.2.2⟩
theorem step_append_q {ops : Array Oper} {o : Oper} {a : Act} {w : World} {K : Act → World → Prop} {Q : Exit → Act → World → Prop} {E : Prop}
    (hg : o.guard = none) (s x : Operand) (hop : o.op = Op.call { callee := Callee.builtin Builtin.append, args := #[s, x], argTypes := #[53, 53] })
    {B qb : Nat} {v : Value} {L : List (Cn × Int)} (hs : a.eval s = v) (hq : QV w B qb v L) (hl : L.length ≤ 100000) (y : Cn × Int) (ad : Addr) (c : Nat) (hx : a.eval x = .slice (some ad) 1 c)
    (hc : ∀ j u, (ps y)[j]? = some u → w.cell? (ad.add j) = some u) (hB : B ≤ w.heap.size)
    (hK : ∀ g' cap' w', w'.ownsRow B 56 6 (.slice (some ⟨g', 0, none⟩) (L ++ [y]).length cap') (L ++ [y]).length ((L ++ [y]).flatMap ps) → g' ≠ qb → w.grownBy w' v.ownBlock → w'.heap[qb]? = some (.cells #[v] 53 (0, 0)) → w'.cell? ⟨qb, 0, none⟩ = some v → w'.frozen? ⟨qb, 0, none⟩ = false →
      K (a.put o.dst (.slice (some ⟨g', 0, none⟩) (L.length + 1) cap')) w') :
    if Region.wanted o (yielded ops a.tmps) = true then Oper.wp Try.prog o a w K Q else E := by
  have hw : Region.wanted o (yielded ops a.tmps) = true := by simp [Region.wanted, hg]
  rw [if_pos hw]
  obtain ⟨i0, hi, hz0, hz1, hz2⟩ := info56
  have h1c : ∀ u ∈ ps y, u.oneCell' = true := by
    intro u h
    simp only [ps,List.mem_cons,List.not_mem_nil,or_false] at h
    rcases h with rfl | rfl | rfl | rfl | rfl | rfl <;> rfl
  obtain ⟨v', w', hrun, r1, r2, r3, r4⟩ := run_append_own_at (P := Try.prog) w B 53 o.type 56 i0 _ 6 48 Try.underlying53 hi hz0 hz1 hz2 rfl (by decide) v L.length _ hq.row ad 1 c (ps y) rfl hc h1c (by unfold maxLen; omega) (by omega) hB
  have hlt : qb < w.heap.size := (Array.getElem?_eq_some_iff.1 hq.box).1
  have hbox := (r2.block qb hlt (fun e => hq.ap e.symm)).trans hq.box
  have e1 : (L ++ [y]).flatMap ps = L.flatMap ps ++ ps y := by simp
  have e2 : (L ++ [y]).length = L.length + 1 := by simp
  rcases r1.2 with ⟨_, h0⟩ | ⟨g', cap', cur, rfl, _⟩
  · omega
  · have hne : g' ≠ qb := by
      rintro rfl
      rcases r4 with h | h
      · exact hq.ap h.symm
      · have : g' = w.heap.size := by simpa [Value.ownBlock] using h
        omega
    unfold Oper.wp
    simp [execOp, hop, resolve, invoke, builtin, hs, hx, hrun, Result.andThen]
    exact hK g' cap' w' (by rw [e1, e2]; exact r1) hne r2 hbox (by simp [World.cell?, hbox]) (by simp [World.frozen?, hbox])
theorem ps_new (W : World) (y : Cn × Int) (t : TypeId) : ∀ j u, (ps y)[j]? = some u → (W.alloc (.cells #[.int .i64 y.1.p, .int .i64 y.1.f, .int .i64 y.1.b, .int .i64 y.1.s, .int .i64 y.1.e, .int .i64 y.2] t)).cell? ((⟨W.heap.size, 0, none⟩ : Addr).add j) = some u := by
  intro j u h
  have hn := World.alloc_heap_new W (.cells #[.int .i64 y.1.p, .int .i64 y.1.f, .int .i64 y.1.b, .int .i64 y.1.s, .int .i64 y.1.e, .int .i64 y.2] t)
  rw [addr_add, Nat.zero_add]
  simp only [World.cell?,hn]
  simpa [ps] using h
theorem set_grown (w : World) (b : Nat) (u : Value) : w.grownBy (w.setCell ⟨b, 0, none⟩ u) (some b) :=
  ⟨rfl, rfl, rfl, by simp, fun k _ hk => Below.heap_setCell _ _ _ _ (fun e => hk (by rw [show k = b from e]))⟩
theorem set_box {w : World} {b : Nat} {v : Value} {t : TypeId} (h : w.heap[b]? = some (.cells #[v] t (0, 0))) (u : Value) : (w.setCell ⟨b, 0, none⟩ u).heap[b]? = some (.cells #[u] t (0, 0)) := by
  simp only [World.setCell,Array.getElem?_modify,h]
  simp
theorem push_end {w W2 w' : World} {B qb g' cap' : Nat} {v : Value} {L : List (Cn × Int)} {y : Cn × Int} (hq : QV w B qb v L) (hg2 : w.grownBy W2 none) (hgrow : W2.grownBy w' v.ownBlock)
    (hown : w'.ownsRow B 56 6 (.slice (some ⟨g', 0, none⟩) (L ++ [y]).length cap') (L ++ [y]).length ((L ++ [y]).flatMap ps)) (hne : g' ≠ qb) (hb : w'.heap[qb]? = some (.cells #[v] 53 (0, 0))) (hB : B ≤ w.heap.size) :
    (∃ u, Ending.returned (.tuple #[]) = Ending.returned u) ∧ (∃ v', QV (w'.setCell ⟨qb, 0, none⟩ (.slice (some ⟨g', 0, none⟩) (L.length + 1) cap')) B qb v' (L ++ [y])) ∧
      Below B w (w'.setCell ⟨qb, 0, none⟩ (.slice (some ⟨g', 0, none⟩) (L.length + 1) cap')) := by
  have e2 : (L ++ [y]).length = L.length + 1 := by simp
  refine ⟨⟨_, rfl⟩, ⟨_, hq.base, set_box hb _, ?_, ?_⟩, ?_⟩
  · rw [← e2]
    exact hown.kept (set_grown w' qb _) (.inr (by simpa [Value.ownBlock] using hne))
  · simpa [Value.ownBlock] using hne
  · refine (grown_below (hg2) (fun b h => by cases h) hB).trans ((grown_below hgrow (fun b h => (hq.row.lt b h).1) (Nat.le_trans hB hg2.size)).trans ?_)
    exact grown_below (set_grown w' qb _) (fun b h => by cases h; exact hq.base) (Nat.le_trans hB (Nat.le_trans hg2.size hgrow.size))
set_option maxRecDepth 100000 in
set_option maxHeartbeats 1000000 in
theorem push_calls {B qb : Nat} {v : Value} (L : List (Cn × Int)) (y : Cn × Int) (hl : L.length ≤ 10000) (w : World) (hq : QV w B qb v L) (hB : B ≤ w.heap.size) :
    Calls Try.prog 89 #[.pointer (some ⟨qb, 0, none⟩), .iface 56 (.agg #[.int .i64 y.1.p, .int .i64 y.1.f, .int .i64 y.1.b, .int .i64 y.1.s, .int .i64 y.1.e, .int .i64 y.2])] w fun e W =>
      (∃ u, e = .returned u) ∧ (∃ v', QV W B qb v' (L ++ [y])) ∧ Below B w W := by
  have hc := hq.cell
  have hta : ∀ (x : Value) (W : World), (Instr.typeAssert (.iface 56 x) 20 56 true).run Try.prog W = .ok (.tuple #[x, .bool true]) W := fun x W => by
    simp [Instr.typeAssert, run_underlying Try.underlying56]
  go_enter Try.func89, Try.ntmps89
  have hg1 : w.grownBy ((w.alloc (.cells #[.int .i64 y.1.p, .int .i64 y.1.f, .int .i64 y.1.b, .int .i64 y.1.s, .int .i64 y.1.e, .int .i64 y.2] 56)).drew) none := (World.grownBy_alloc w (.cells #[.int .i64 y.1.p, .int .i64 y.1.f, .int .i64 y.1.b, .int .i64 y.1.s, .int .i64 y.1.e, .int .i64 y.2] 56) none).trans ⟨rfl, rfl, rfl, by simp, fun k hk _ => rfl⟩
  have hg2 : w.grownBy (((w.alloc (.cells #[.int .i64 y.1.p, .int .i64 y.1.f, .int .i64 y.1.b, .int .i64 y.1.s, .int .i64 y.1.e, .int .i64 y.2] 56)).alloc (.cells #[.int .i64 y.1.p, .int .i64 y.1.f, .int .i64 y.1.b, .int .i64 y.1.s, .int .i64 y.1.e, .int .i64 y.2] 56)).drew) none := (World.grownBy_alloc w (.cells #[.int .i64 y.1.p, .int .i64 y.1.f, .int .i64 y.1.b, .int .i64 y.1.s, .int .i64 y.1.e, .int .i64 y.2] 56) none).trans ((World.grownBy_alloc _ (.cells #[.int .i64 y.1.p, .int .i64 y.1.f, .int .i64 y.1.b, .int .i64 y.1.s, .int .i64 y.1.e, .int .i64 y.2] 56) none).trans ⟨rfl, rfl, rfl, by simp, fun k hk _ => rfl⟩)
  have hq2 := hq.grown hg2
  have hc1 := (hq.grown hg1).cell
  have hc2 := hq2.cell
  have hnw : ∀ j u, (ps y)[j]? = some u → (((w.alloc (.cells #[.int .i64 y.1.p, .int .i64 y.1.f, .int .i64 y.1.b, .int .i64 y.1.s, .int .i64 y.1.e, .int .i64 y.2] 56)).alloc (.cells #[.int .i64 y.1.p, .int .i64 y.1.f, .int .i64 y.1.b, .int .i64 y.1.s, .int .i64 y.1.e, .int .i64 y.2] 56)).drew).cell? ((⟨w.heap.size + 1, 0, none⟩ : Addr).add j) = some u := by
    have h := ps_new (w.alloc (.cells #[.int .i64 y.1.p, .int .i64 y.1.f, .int .i64 y.1.b, .int .i64 y.1.s, .int .i64 y.1.e, .int .i64 y.2] 56)) y 56
    have hsz : (w.alloc (.cells #[.int .i64 y.1.p, .int .i64 y.1.f, .int .i64 y.1.b, .int .i64 y.1.s, .int .i64 y.1.e, .int .i64 y.2] 56)).heap.size = w.heap.size + 1 := by simp
    rw [hsz] at h
    exact h
  go_wp2
  go_region_law (refine step_append_q rfl (.tmp 15) (.tmp 17) rfl (by simp [Act.eval, Act.put]) hq2 (by omega) y ⟨w.heap.size + 1, 0, none⟩ 1 (by simp [Act.eval, Act.put]) hnw (by simp; omega) ?_; intro g' cap' w' hown hne hgrow hb5 hc5 hf5)
  all_goals refine bodyPost_end (results_none rfl _ _ _) rfl ?_
  all_goals exact push_end hq hg2 hgrow hown hne hb5 hB
end Go.Proofs
