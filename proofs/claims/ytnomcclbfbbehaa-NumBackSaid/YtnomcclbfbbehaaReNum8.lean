/- A part of the proofs of this seat: ReNum8. -/
import Derived.Test.YtnomcclbfbbehaaReNum6
set_option linter.unusedSimpArgs false
set_option linter.unusedVariables false
set_option maxHeartbeats 2000000
set_option maxRecDepth 20000
namespace Go.Proofs
open Go.Pv
theorem vF_app (a b : List UInt8) : ∀ k, k ≤ a.length → vF (a ++ b) k = vF a k
  | 0, _ => rfl
  | k + 1, h => by
    rw [vF, vF, vF_app a b k (by omega), getElem!_pos (a ++ b) k (by simp; omega), getElem!_pos a k (by omega), List.getElem_append_left (by omega)]
theorem vF_snoc (a : List UInt8) (d : UInt8) : vF (a ++ [d]) (a ++ [d]).length = 10 * vF a a.length + ((d.toNat : Int) - 48) := by
  rw [List.length_append, List.length_singleton, vF, vF_app a [d] a.length (Nat.le_refl _), getElem!_pos (a ++ [d]) a.length (by simp), List.getElem_append_right (Nat.le_refl _)]
  simp
theorem vF_zero (ds : List UInt8) : ∀ k, vF (48 :: ds) (k + 1) = vF ds k
  | 0 => by simp [vF]
  | k + 1 => by
    rw [vF, vF_zero ds k, vF]
    congr 3
theorem u8i_dig {k : Nat} (h : k < 10) : ((u8i (48 + (k : Int))).toNat : Int) = 48 + k := by
  simp only [u8i]
  rw [UInt8.toNat_ofNat']
  omega
theorem dig_ok (n : Nat) : (digF n).all isD = true ∧ vF (digF n) (digF n).length = n := by
  by_cases h : n < 10
  · rw [digF_lt h]
    have := u8i_dig h
    constructor
    · simp [isD]; omega
    · simp [vF]; omega
  · have ih := dig_ok (n / 10)
    rw [digF_ge (by omega)]
    have := u8i_dig (show n % 10 < 10 by omega)
    constructor
    · rw [List.all_append, ih.1, Bool.true_and, List.all_cons, List.all_nil, Bool.and_true]
      exact decide_eq_true (by omega)
    · rw [vF_snoc, ih.2, this]
      omega
termination_by n
decreasing_by omega
theorem dig_first (n : Nat) : ¬ (digF n)[0]? = some 45 := by
  intro h
  have h1 := (dig_ok n).1
  rw [List.all_eq_true] at h1
  have := h1 45 (List.mem_of_getElem? h)
  simp [isD] at this
/-- A number of at most ten digits is read as it was written. -/
theorem rd_tx (n lo hi : Int) (h : n.natAbs < 10000000000) : rdF (txF n) lo hi = if n < lo then (0, false) else if hi < n then (0, false) else (n, true) := by
  have hl := digF_len n.natAbs 9 (by simpa using h)
  have hp := List.length_pos_iff.2 (digF_ne n.natAbs)
  have ho := dig_ok n.natAbs
  have hf := dig_first n.natAbs
  unfold rdF
  by_cases hn : n < 0
  · have e : txF n = 45 :: digF n.natAbs := by
      unfold txF; rw [if_pos hn, show (-n).toNat = n.natAbs by omega]
    rw [e, if_pos (by simp)]
    unfold rdG
    rw [List.drop_succ_cons, List.drop_zero, if_neg (by omega), if_neg (by rw [ho.1]; simp), if_pos rfl, ho.2, show -(n.natAbs : Int) = n by omega, ← e]
    dsimp only
    rw [if_neg (show ¬ (txF n ≠ txF n) by simp)]
  · have e : txF n = digF n.natAbs := by
      unfold txF; rw [if_neg hn, show n.toNat = n.natAbs by omega]
    rw [e, if_neg hf]
    unfold rdG
    rw [if_neg (by omega), if_neg (by rw [ho.1]; simp), if_neg (show ¬ (false = true) by simp), ho.2, show (n.natAbs : Int) = n by omega, ← e]
    dsimp only
    rw [if_neg (show ¬ (txF n ≠ txF n) by simp)]
/-- With a 0 ahead it is none. -/
theorem rd_zero (n lo hi : Int) : (rdF (48 :: txF n) lo hi).2 = false := by
  unfold rdF
  rw [if_neg (by simp)]
  unfold rdG
  split
  · rfl
  split
  · rfl
  rename_i h1 h2
  by_cases hn : n < 0
  · exfalso
    apply h2
    unfold txF
    rw [if_pos hn]
    simp [isD]
  · have e : txF n = digF n.natAbs := by
      unfold txF; rw [if_neg hn, show n.toNat = n.natAbs by omega]
    rw [e]
    dsimp only
    rw [if_neg (show ¬ (false = true) by simp), List.length_cons, vF_zero, (dig_ok n.natAbs).2, show (n.natAbs : Int) = n by omega, ← e]
    split
    · rfl
    split
    · rfl
    rw [if_pos]
    intro h
    have := congrArg List.length h
    simp at this
end Go.Proofs
