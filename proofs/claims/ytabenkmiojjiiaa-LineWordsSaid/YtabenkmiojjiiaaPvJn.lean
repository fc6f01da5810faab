/-
  The machine of plain values: the library's strings.Join, from its contract.
-/
import Derived.Test.YtabenkmiojjiiaaPvZG
import Derived.Lib.Join
import Derived.Below
namespace Go.Pv
open Go.RowKit
theorem flat_str (s : List UInt8) : (AV.str s).flat = [AV.str s] := by simp [AV.flat]
theorem run_join {P : Program} {f : FuncId} (hc : Can P f)
    (hj : ∀ (bk o c : Nat) (xs : List ByteArray) (sep : ByteArray) (w : World), (∀ (j : Nat) x, xs[j]? = some x → w.cell? ⟨bk, o + j, none⟩ = some (.string x)) → bk < w.heap.size → xs.length ≤ 140737488355328 → xs.length ≤ c →
      (Lib.join (xs.map (·.data.toList)) sep.data.toList).length ≤ 140737488355328 →
      Calls P f #[.slice (some ⟨bk, o, none⟩) xs.length c, .string sep] w fun e w' => e = .returned (.string ⟨(Lib.join (xs.map (·.data.toList)) sep.data.toList).toArray⟩) ∧ Below w.heap.size w w')
    (hn : ∀ (a : Option Addr) (c : Nat) (sep : ByteArray) (w : World), Calls P f #[.slice a 0 c, .string sep] w fun e w' => e = .returned (.string ⟨#[]⟩) ∧ w' = w)
    (xs : List (List UInt8)) (sep : List UInt8) (full : Bool) (h1 : xs.length ≤ 100000) (h2 : (Lib.join xs sep).length ≤ 100000000) :
    Run P f [.sl 1 (xs.map .str) full, .str sep] (.str (Lib.join xs sep)) := by
  refine ⟨hc, ?_⟩
  intro w I os args hos ho
  obtain ⟨args⟩ := args
  generalize hes : xs.map AV.str = es at ho
  generalize hxs : [AV.sl 1 es full, AV.str sep] = ys at ho
  cases ho with
  | nil => cases hxs
  | cons ha ho =>
    cases hxs
    cases ho with
    | cons hb ho =>
      cases ho with
      | nil =>
        unfold OwnC at ha hb
        obtain ⟨rfl, ha⟩ := ha
        obtain ⟨rfl, hb⟩ := hb
        cases hb
        have fin : ∀ (W : World) (r : List UInt8), Below w.heap.size w W → ∃ v I' os', Ending.returned (.string ⟨r.toArray⟩) = .returned v ∧ OwnT W I' os' (.str r) v ∧ OsOk W I' os' ∧ StepB I ([] ++ ([] ++ [])) I' os' w W := by
          intro W r hB
          refine ⟨_, I, [], rfl, ?_, ⟨fun b h => ⟨Nat.lt_of_lt_of_le (hos.imm b h).1 hB.size, blks_nil b⟩, fun b h => absurd h (blks_nil b), .nil⟩, ⟨hB.os, hB.tape, hB.output, hB.size, fun b h _ => hB.block b h, fun b h => absurd h (blks_nil b), fun b h => h, fun b h => .inl h⟩⟩
          exact ⟨rfl, .str r⟩
        cases ha with
        | sl0 _ _ A cap h =>
          have : xs = [] := by simpa using hes
          subst this
          refine (hn A cap ⟨sep.toArray⟩ w).mono ?_
          rintro e W ⟨rfl, rfl⟩
          exact fin _ [] (Below.refl _ _)
        | sl _ _ _ b off cap U hp hcp hf hbk hi hz hcell hs =>
          subst hes
          have hq := hj b off cap (xs.map fun s => ⟨s.toArray⟩) ⟨sep.toArray⟩ w ?_ hbk (by simp; omega) (by simpa using hcp) ?_
          · simp only [List.map_map, List.length_map] at hq
            have e1 : xs.map ((fun x : ByteArray => x.data.toList) ∘ fun s => ⟨s.toArray⟩) = xs := by
              conv => rhs; rw [← List.map_id xs]
              exact List.map_congr_left fun s _ => rfl
            rw [e1] at hq
            rw [List.length_map]
            refine hq.mono ?_
            rintro e W ⟨rfl, hB⟩
            exact fin W _ hB
          · intro j x hx
            rw [List.getElem?_map] at hx
            cases hxj : xs[j]? with
            | none => rw [hxj] at hx; cases hx
            | some s =>
              rw [hxj] at hx
              cases hx
              have e : (xs.map AV.str)[j]? = some (.str s) := by rw [List.getElem?_map, hxj]; rfl
              have g1 := (hcell j (.str s) 0 (.str s) e (by rw [flat_str]; rfl)).1
              have g2 := hs j (.str s) 0 (.str s) e (by rw [flat_str]; rfl)
              rw [Nat.mul_one, Nat.add_zero] at g1
              rw [g1]
              generalize U j 0 = u at g2
              cases g2
              rfl
          · have e1 : (xs.map fun s => (⟨s.toArray⟩ : ByteArray)).map (fun x => x.data.toList) = xs := by
              rw [List.map_map]
              conv => rhs; rw [← List.map_id xs]
              exact List.map_congr_left fun s _ => rfl
            rw [e1]
            have : (⟨sep.toArray⟩ : ByteArray).data.toList = sep := rfl
            rw [this]
            omega
end Go.Pv
