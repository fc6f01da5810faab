/-
  The machine of plain values, 32: rows of plain elements; plain lists.
-/
import Derived.Test.YtimibefpfenelaaPvZG
set_option linter.unusedVariables false
namespace Go.Pv
theorem take_snoc {α : Type} [Inhabited α] {l : List α} {k : Nat} (h : k < l.length) : l.take (k + 1) = l.take k ++ [l[k]!] := by
  rw [List.take_succ_eq_append_getElem h]
  simp [h]
theorem map_snoc {α β : Type} {f : α → β} {l : List α} {x : α} : l.map f ++ [f x] = (l ++ [x]).map f := by simp
theorem map_app {α β : Type} {f : α → β} {l m : List α} : l.map f ++ m.map f = (l ++ m).map f := by simp
theorem take_next {α : Type} [Inhabited α] {l m : List α} {k : Nat} (h : l.take k = m.take k) (hl : k < l.length) (hm : k < m.length) (e : l[k]! = m[k]!) : l.take (k + 1) = m.take (k + 1) := by
  rw [take_snoc hl, take_snoc hm, h, e]
theorem take_ne {α : Type} [Inhabited α] {l m : List α} {k : Nat} (hl : k < l.length) (hm : k < m.length) (e : l[k]! ≠ m[k]!) : l ≠ m := by
  rintro rfl; exact e rfl
theorem take_full {α : Type} {l m : List α} {k : Nat} (h : l.take k = m.take k) (hl : l.length ≤ k) (hm : m.length ≤ k) : l = m := by
  rwa [List.take_of_length_le hl, List.take_of_length_le hm] at h
theorem cons_of {n : Nat} {b : List UInt8} (h : n + 1 ≤ b.length) : ∃ x r, b = x :: r ∧ n ≤ r.length := by
  cases b with
  | nil => simp at h
  | cons x r => exact ⟨x, r, rfl, by simpa using h⟩
theorem u8i_of {n : Int} {x : UInt8} (h : n % 256 = x.toNat) : u8i n = x := by
  apply UInt8.toNat_inj.1
  have := u8i_nat (n := n)
  omega
theorem replicate_one {α : Type} {x : α} : List.replicate 1 x = [x] := rfl
theorem b_beq (s : Bool) : (s == s) = true := by simp
theorem snp_fn0 {hp : Hp} {n : Nat} {f : FuncId} : snap hp (n + 1) (.fn f []) = some (.fn f []) := (rfl)
theorem rws_fn0 {hp : Hp} {n : Nat} {f : FuncId} : rows hp (n + 1) (.fn f []) = [] := (rfl)
theorem snp_fn {hp : Hp} {n : Nat} {f : FuncId} {cs : List AV} : snap hp (n + 1) (.fn f cs) = (mapO (snap hp n) cs).map (.fn f) := (rfl)
theorem rws_fn {hp : Hp} {n : Nat} {f : FuncId} {cs : List AV} : rows hp (n + 1) (.fn f cs) = cs.flatMap (rows hp n) := (rfl)
theorem snp_eptr {hp : Hp} {n id i off : Nat} : snap hp (n + 1) (.eptr id i off) = (ent hp id).bind fun e => (e.es[i]?).bind fun x => (snap hp n x).map fun x => .rptr x off := (rfl)
theorem rws_eptr {hp : Hp} {n id i off : Nat} : rows hp (n + 1) (.eptr id i off) = id :: (((ent hp id).bind fun e => e.es[i]?).toList).flatMap (rows hp n) := (rfl)
theorem fi_stop {α : Type} [Inhabited α] {p : α → Bool} {l : List α} {k : Nat} (hk : k ≤ l.findIdx p) (hl : k < l.length) (h : p l[k]! = true) : l.findIdx p = k := by
  rcases Nat.lt_or_ge k (l.findIdx p) with hlt | hge
  · have := List.not_of_lt_findIdx hlt
    rw [getElem!_pos l k hl] at h
    rw [h] at this; cases this
  · omega
theorem fi_go {α : Type} [Inhabited α] {p : α → Bool} {l : List α} {k : Nat} (hk : k ≤ l.findIdx p) (hl : k < l.length) (h : p l[k]! = false) : k + 1 ≤ l.findIdx p := by
  rcases Nat.lt_or_ge k (l.findIdx p) with hlt | hge
  · exact hlt
  · have e : l.findIdx p = k := by omega
    have hw : l.findIdx p < l.length := by omega
    have := List.findIdx_getElem (xs := l) (p := p) (w := hw)
    rw [getElem!_pos l k hl] at h
    simp only [e] at this
    rw [h] at this; cases this
theorem fi_le {α : Type} {p : α → Bool} {l : List α} : l.findIdx p ≤ l.length := List.findIdx_le_length
theorem fi_at {α : Type} [Inhabited α] {p : α → Bool} {l : List α} (h : l.findIdx p < l.length) : p l[l.findIdx p]! = true := by
  rw [getElem!_pos l _ h]; exact List.findIdx_getElem
theorem fi_lt {α : Type} [Inhabited α] {p : α → Bool} {l : List α} {k : Nat} (h : k < l.findIdx p) : p l[k]! = false := by
  have hl : k < l.length := Nat.lt_of_lt_of_le h fi_le
  rw [getElem!_pos l k hl]
  have := List.not_of_lt_findIdx h
  exact Bool.eq_false_iff.2 (by simpa using this)
theorem all_range {p : Nat → Bool} {n : Nat} : (List.range n).all p = true ↔ ∀ i, i < n → p i = true := by simp
theorem get_mem {α : Type} [Inhabited α] {l : List α} {k : Nat} (h : k < l.length) : l[k]! ∈ l := by
  rw [List.getElem!_eq_getElem?_getD, List.getElem?_eq_getElem h]; exact List.getElem_mem h
end Go.Pv
