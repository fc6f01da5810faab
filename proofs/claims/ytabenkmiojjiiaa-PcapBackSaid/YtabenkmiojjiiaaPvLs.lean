/-
  The machine of plain values, 32: rows of plain elements; plain lists.
-/
import Derived.Test.YtabenkmiojjiiaaPvZG
set_option linter.unusedVariables false
namespace Go.Pv
theorem take_snoc {α : Type} [Inhabited α] {l : List α} {k : Nat} (h : k < l.length) : l.take (k + 1) = l.take k ++ [l[k]!] := by
  rw [List.take_succ_eq_append_getElem h]
  simp [h]
theorem map_snoc {α β : Type} {f : α → β} {l : List α} {x : α} : l.map f ++ [f x] = (l ++ [x]).map f := by simp
theorem map_app {α β : Type} {f : α → β} {l m : List α} : l.map f ++ m.map f = (l ++ m).map f := by simp
theorem take_next {α : Type} [Inhabited α] {l m : List α} {k : Nat} (h : l.take k = m.take k) (hl : k < l.length) (hm : k < m.length) (e : l[k]! = m[k]!) : l.take (k + 1) = m.take (k + 1) := by
  rw [take_snoc hl, take_snoc hm, h, e]
theorem take_ne {α : Type} [Inhabited α] {l m : List α} {k : Nat} (hl : k < l.length) (hm : k < m.length) (e : l[k]! ≠ m[k]!) : l ≠ m := by
  rintro rfl; exact e rfl
theorem take_full {α : Type} {l m : List α} {k : Nat} (h : l.take k = m.take k) (hl : l.length ≤ k) (hm : m.length ≤ k) : l = m := by
  rwa [List.take_of_length_le hl, List.take_of_length_le hm] at h
theorem cons_of {n : Nat} {b : List UInt8} (h : n + 1 ≤ b.length) : ∃ x r, b = x :: r ∧ n ≤ r.length := by
  cases b with
  | nil => simp at h
  | cons x r => exact ⟨x, r, rfl, by simpa using h⟩
theorem u8i_of {n : Int} {x : UInt8} (h : n % 256 = x.toNat) : u8i n = x := by
  apply UInt8.toNat_inj.1
  have := u8i_nat (n := n)
  omega
theorem replicate_one {α : Type} {x : α} : List.replicate 1 x = [x] := rfl
theorem b_beq (s : Bool) : (s == s) = true := by simp
theorem snp_fn0 {hp : Hp} {n : Nat} {f : FuncId} : snap hp (n + 1) (.fn f []) = some (.fn f []) := (rfl)
theorem rws_fn0 {hp : Hp} {n : Nat} {f : FuncId} : rows hp (n + 1) (.fn f []) = [] := (rfl)
theorem snp_fn {hp : Hp} {n : Nat} {f : FuncId} {cs : List AV} : snap hp (n + 1) (.fn f cs) = (mapO (snap hp n) cs).map (.fn f) := (rfl)
theorem rws_fn {hp : Hp} {n : Nat} {f : FuncId} {cs : List AV} : rows hp (n + 1) (.fn f cs) = cs.flatMap (rows hp n) := (rfl)
theorem snp_eptr {hp : Hp} {n id i off : Nat} : snap hp (n + 1) (.eptr id i off) = (ent hp id).bind fun e => (e.es[i]?).bind fun x => (snap hp n x).map fun x => .rptr x off := (rfl)
theorem rws_eptr {hp : Hp} {n id i off : Nat} : rows hp (n + 1) (.eptr id i off) = id :: (((ent hp id).bind fun e => e.es[i]?).toList).flatMap (rows hp n) := (rfl)
theorem fi_stop {α : Type} [Inhabited α] {p : α → Bool} {l : List α} {k : Nat} (hk : k ≤ l.findIdx p) (hl : k < l.length) (h : p l[k]! = true) : l.findIdx p = k := by
  rcases Nat.lt_or_ge k (l.findIdx p) with hlt | hge
  · have := List.not_of_lt_findIdx hlt
    rw [getElem!_pos l k hl] at h
    rw [h] at this; cases this
  · omega
theorem fi_go {α : Type} [Inhabited α] {p : α → Bool} {l : List α} {k : Nat} (hk : k ≤ l.findIdx p) (hl : k < l.length) (h : p l[k]! = false) : k + 1 ≤ l.findIdx p := by
  rcases Nat.lt_or_ge k (l.findIdx p) with hlt | hge
  · exact hlt
  · have e : l.findIdx p = k := by omega
    have hw : l.findIdx p < l.length := by omega
    have := List.findIdx_getElem (xs := l) (p := p) (w := hw)
    rw [getElem!_pos l k hl] at h
    simp only [e] at this
    rw [h] at this; cases this
theorem fi_le {α : Type} {p : α → Bool} {l : List α} : l.findIdx p ≤ l.length := List.findIdx_le_length
theorem fi_at {α : Type} [Inhabited α] {p : α → Bool} {l : List α} (h : l.findIdx p < l.length) : p l[l.findIdx p]! = true := by
  rw [getElem!_pos l _ h]; exact List.findIdx_getElem
theorem fi_lt {α : Type} [Inhabited α] {p : α → Bool} {l : List α} {k : Nat} (h : k < l.findIdx p) : p l[k]! = false := by
  have hl : k < l.length := Nat.lt_of_lt_of_le h fi_le
  rw [getElem!_pos l k hl]
  have := List.not_of_lt_findIdx h
  exact Bool.eq_false_iff.2 (by simpa using this)
theorem all_range {p : Nat → Bool} {n : Nat} : (List.range n).all p = true ↔ ∀ i, i < n → p i = true := by simp
/-- Without the one at a place. -/
def rmA {α : Type} (l : List α) (a : Int) : List α := if a < 0 then l else l.take a.toNat ++ l.drop (a.toNat + 1)
theorem rmA_snoc {α : Type} (t : List α) (x : α) (a : Int) : rmA (t ++ [x]) a = if (t.length : Int) = a then rmA t a else rmA t a ++ [x] := by
  unfold rmA
  by_cases h0 : a < 0
  · rw [if_pos h0, if_pos h0, if_neg (by omega)]
  rw [if_neg h0, if_neg h0]
  obtain ⟨n, rfl⟩ := Int.eq_ofNat_of_zero_le (show 0 ≤ a by omega)
  rw [Int.toNat_natCast]
  rcases Nat.lt_trichotomy n t.length with h | h | h
  · rw [if_neg (by omega), List.take_append_of_le_length (by omega), List.drop_append_of_le_length (by omega), List.append_assoc]
  · subst h
    simp
  · rw [if_neg (by omega), List.take_of_length_le (by simp; omega), List.drop_eq_nil_of_le (by simp; omega), List.take_of_length_le (by omega), List.drop_eq_nil_of_le (by omega)]
    simp
theorem rmA_len {α : Type} (l : List α) (a : Int) : (rmA l a).length ≤ l.length := by
  unfold rmA; split
  · exact Nat.le_refl _
  · simp only [List.length_append, List.length_take, List.length_drop]; omega
theorem get_of_drop {α : Type} [Inhabited α] {l m : List α} {k : Nat} (h : l.drop k = m.drop k) (hk : k < l.length) (hm : k < m.length) : l[k]! = m[k]! ∧ l.drop (k + 1) = m.drop (k + 1) := by
  rw [List.drop_eq_getElem_cons hk, List.drop_eq_getElem_cons hm] at h
  simp only [List.cons.injEq] at h
  rw [getElem!_pos l k hk, getElem!_pos m k hm]
  exact h
theorem snp_rptr {hp : Hp} {n : Nat} {x : AV} {o : Nat} : snap hp (n + 1) (.rptr x o) = some (.rptr x o) := (rfl)
theorem rws_rptr {hp : Hp} {n : Nat} {x : AV} {o : Nat} : rows hp (n + 1) (.rptr x o) = [] := (rfl)
theorem filter_snoc {α : Type} {q : α → Bool} {l : List α} {x : α} : (l ++ [x]).filter q = if q x = true then l.filter q ++ [x] else l.filter q := by
  rw [List.filter_append]; by_cases h : q x = true <;> simp [h]
theorem get_mem {α : Type} [Inhabited α] {l : List α} {k : Nat} (h : k < l.length) : l[k]! ∈ l := by
  rw [List.getElem!_eq_getElem?_getD, List.getElem?_eq_getElem h]; exact List.getElem_mem h
end Go.Pv
