/-
  The machine of plain values, 34: loops of few rounds, run round by round.
-/
import Derived.Test.YtabenkmiojjiiaaPvLs
set_option linter.unusedVariables false
namespace Go.Pv
def unr (P : Program) (tr : Option Trim) (b : AC) (K : AE → St → Prop) : Nat → St → Prop
  | 0, _ => False
  | n + 1, σ => aw P b (andThen (fun σ' => unr P tr b K n (trim tr σ')) K) σ
def unrT (P : Program) (tr : Option Trim) (b : AC) (K : AE → St → Prop) (n : Nat) (σ : St) : Prop := unr P tr b K n (trim tr σ)
section
variable {P : Program} {tr : Option Trim} {b : AC} {K : AE → St → Prop} {n : Nat} {fr : Fr} {hp : Hp} {σ : St}
theorem unr_s : unr P tr b K (n + 1) ⟨fr, hp⟩ = aw P b (andThen (unrT P tr b K n) K) ⟨fr, hp⟩ := (rfl)
theorem unrT_e : unrT P tr b K n ⟨fr, hp⟩ = unr P tr b K n (trim tr ⟨fr, hp⟩) := (rfl)
/-- A loop of at most n rounds (the last one leaves it). -/
theorem aw_unroll (n : Nat) (h : unr P tr b K n (trim tr σ)) : aw P (.loop tr b) K σ := by
  refine ⟨fun n σ => unr P tr b K n σ, ⟨n, h⟩, ?_⟩
  rintro n σ hn
  cases n with
  | zero => exact hn.elim
  | succ n =>
    refine aw_mono b _ _ _ ?_ hn
    intro e σ' hx
    cases e with
    | normal => exact ⟨n, Nat.lt_succ_self n, hx⟩
    | exit i => exact hx
    | ret => exact hx
end
theorem or2_comm {k : IntKind} {a b : Int} : or2 k a b = or2 k b a := by unfold or2; rw [BitVec.or_comm]
theorem or2_zero {a : Int} (h : 0 ≤ a) (h' : a < 9223372036854775808) : or2 .i64 0 a = a := by
  have := or2_two (k := .i64) (j := 0) (a := a) (b := 0) h (by simpa [IntKind.bits] using h') (by omega) (by simp) (by decide) (by simp [Int.emod_one])
  rw [or2_comm, this]; omega
end Go.Pv
