/- A part of the proofs of this seat: RdLine15. -/
import Derived.Test.YtabenkmiojjiiaaRdLine13
set_option linter.unusedSimpArgs false
set_option linter.unusedVariables false
set_option maxHeartbeats 2000000
set_option maxRecDepth 20000
namespace Go.Proofs
open Go.Pv
/-- A word's end. -/
def finF (cur : List UInt8) (out : List (List UInt8)) : List (List UInt8) := if cur = [] then out else out ++ [cur]
/-- The words of what is left of a row. -/
def wsF : List UInt8 → List (List UInt8) → List UInt8 → List (List UInt8)
  | cur, out, [] => finF cur out
  | cur, out, c :: t => if c = 35 then finF cur out else if c = 32 ∨ c = 9 then wsF [] (finF cur out) t else wsF (cur ++ [c]) out t
theorem swF_ws (w : List UInt8) : ∀ (n i fr : Nat) (out : List (List UInt8)), w.length - i = n → fr ≤ i → i ≤ w.length → swF w (w.length + 1 - i) i fr out = wsF ((w.take i).drop fr) out (w.drop i) := by
  intro n
  induction n with
  | zero =>
    intro i fr out hn hf hi
    rw [swF_stop w _ i fr out (fun h => by omega), enO_sub w i fr out hi, List.drop_eq_nil_of_le (show w.length ≤ i by omega)]
    rfl
  | succ n ih =>
    intro i fr out hn hf hi
    have hx : i < w.length := by omega
    have hd : w.drop i = w[i]! :: w.drop (i + 1) := by rw [getElem!_pos w i hx, ← List.drop_eq_getElem_cons hx]
    rw [hd, wsF]
    by_cases h35 : w[i]! = 35
    · rw [if_pos h35, swF_stop w _ i fr out (fun _ => h35), enO_sub w i fr out hi]
      rfl
    · rw [if_neg h35]
      by_cases hb : w[i]! = 32 ∨ w[i]! = 9
      · rw [if_pos hb, swF_blank w i fr out hx h35 hb, ih (i + 1) (i + 1) _ (by omega) (Nat.le_refl _) (by omega), enO_sub w i fr out hi]
        rw [show (w.take (i + 1)).drop (i + 1) = [] by simp]
        rfl
      · rw [if_neg hb, swF_other w i fr out hx h35 hb, ih (i + 1) fr out (by omega) (by omega) (by omega), take_drop_snoc w i fr hx hf]
theorem swV_ws (w : List UInt8) : swV w = wsF [] [] w := by
  have := swF_ws w w.length 0 0 [] (by omega) (Nat.le_refl _) (Nat.zero_le _)
  simpa [swV] using this
theorem okB_ne {c : UInt8} (h : okB c = true) : ¬ c = 35 ∧ ¬ (c = 32 ∨ c = 9) := by
  have h2 := of_decide_eq_true h
  refine ⟨fun e => ?_, fun e => ?_⟩
  · rw [e] at h2; simp at h2
  · rcases e with e | e <;> rw [e] at h2 <;> simp at h2
theorem wsF_word : ∀ (x cur : List UInt8) (out : List (List UInt8)) (t : List UInt8), x.all okB = true → wsF cur out (x ++ t) = wsF (cur ++ x) out t
  | [], cur, out, t, _ => by simp
  | c :: x, cur, out, t, h => by
    rw [List.all_cons, Bool.and_eq_true] at h
    have h1 := okB_ne h.1
    rw [List.cons_append, wsF, if_neg h1.1, if_neg h1.2, wsF_word x (cur ++ [c]) out t h.2]
    simp
theorem okW_all {x : List UInt8} (h : okW x = true) : x.all okB = true ∧ x ≠ [] ∧ x.length ≤ 40 := by
  unfold okW at h
  rw [Bool.and_eq_true] at h
  exact ⟨h.1, of_decide_eq_true h.2⟩
theorem wsF_tail (rem : List UInt8) : ∀ (r : List (List UInt8)) (x : List UInt8) (out : List (List UInt8)), x ≠ [] → (∀ y ∈ r, okW y = true) → wsF x out (Lib.joinTail [32] r ++ 32 :: 35 :: rem) = out ++ x :: r
  | [], x, out, hx, _ => by
    rw [show Lib.joinTail [32] ([] : List (List UInt8)) = [] from rfl, List.nil_append, wsF, if_neg (by decide), if_pos (by decide), wsF, if_pos rfl]
    simp [finF, hx]
  | y :: r, x, out, hx, h => by
    have hy := okW_all (h y (by simp))
    rw [show Lib.joinTail [32] (y :: r) = 32 :: (y ++ Lib.joinTail [32] r) by simp [Lib.joinTail], List.cons_append, wsF, if_neg (by decide), if_pos (by decide), List.append_assoc, wsF_word y [] _ _ hy.1, List.nil_append, wsF_tail rem r y _ hy.2.1 (fun z hz => h z (by simp [hz]))]
    simp [finF, hx]
/-- Words that are joined, with a remark behind, are told as they were. -/
theorem back_words (ws : List (List UInt8)) (rem : List UInt8) (h : ∀ y ∈ ws, okW y = true) : swV (9 :: Lib.join ws [32] ++ 32 :: 35 :: rem) = ws := by
  rw [swV_ws, List.cons_append, wsF, if_neg (by decide), if_pos (by decide)]
  cases ws with
  | nil =>
    rw [Lib.join_nil, List.nil_append, wsF, if_neg (by decide), if_pos (by decide), wsF, if_pos rfl]
    rfl
  | cons x r =>
    have hx := okW_all (h x (by simp))
    rw [Lib.join_cons, List.append_assoc, wsF_word x [] _ _ hx.1, List.nil_append, wsF_tail rem r x _ hx.2.1 (fun z hz => h z (by simp [hz]))]
    simp [finF]
theorem lens_le (ws : List (List UInt8)) (h : ∀ y ∈ ws, y.length ≤ 40) : Lib.lens ws ≤ 40 * ws.length := by
  induction ws with
  | nil => simp [Lib.lens]
  | cons x r ih =>
    have h1 := h x (by simp)
    have h2 := ih (fun y hy => h y (by simp [hy]))
    simp only [Lib.lens, List.map_cons, List.sum_cons, List.length_cons] at *
    omega
theorem join_le (xs : List (List UInt8)) : (Lib.join xs [32]).length ≤ Lib.lens xs + xs.length := by
  cases xs with
  | nil => simp [Lib.join_nil]
  | cons x r =>
    rw [Lib.join_cons, List.length_append, Lib.joinTail_length]
    simp [Lib.lens]
    omega
end Go.Proofs
