/- A part of the proofs of this seat: ReNum7. -/
import Derived.Test.YtnomcclbfbbehaaReNum6
set_option linter.unusedSimpArgs false
set_option linter.unusedVariables false
set_option maxHeartbeats 2000000
set_option maxRecDepth 20000
namespace Go.Proofs
open Go.Pv
theorem numNumbers_all : ∀ xs, DatL Try.prog 6 Try.f3.params.toList xs → Run Try.prog 3 xs (.bool true) := by
  intro xs h
  rw [show Try.f3.params.toList = [9, 3, 3, 3] from rfl] at h
  obtain ⟨y1, y2, y3, y4, rfl, h1, h2, h3, h4⟩ := datL4 h
  obtain ⟨s, rfl, ws⟩ := dat_str Try.underlying9 h1
  obtain ⟨a, rfl, wa⟩ := dat_int Try.underlying3 h2
  obtain ⟨b, rfl, wb⟩ := dat_int Try.underlying3 h3
  obtain ⟨n, rfl, wn⟩ := dat_int Try.underlying3 h4
  have := wf_i64 wn
  exact numNumbers_run s a b n ws (by omega) (by omega)
end Go.Proofs
