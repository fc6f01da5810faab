/- The compiled code of this seat, and the rules that run it. (Printed by a program of ours.) -/
import Derived.Test.YtppdpcfmkmnfjaaDoorRgCodeA
namespace Go.Proofs
open Go.Pv
set_option maxHeartbeats 4000000
/-! 113 internal/stringslite.HasPrefix : params [9, 9], results [4], free 0, zeros [(.string ⟨#[]⟩), (.string ⟨#[]⟩)] -/
def Tryd.c113 : AC :=
 (.seq
  (.region 0 [⟨(some 4), none, (.p (.mv (.c (.bool false)))), false, []⟩] (some ⟨[0, 1], [], false⟩))
  (.seq
   (.region 0 [⟨(some 5), none, (.p (.mv (.t 0))), false, []⟩,
     ⟨(some 6), none, (.p (.lenS (.t 5))), false, []⟩,
     ⟨(some 7), none, (.p (.mv (.t 1))), false, []⟩,
     ⟨(some 8), none, (.p (.lenS (.t 7))), false, []⟩,
     ⟨(some 9), none, (.p (.bin .geq (.t 6) (.t 8))), false, []⟩,
     ⟨(some 10), none, (.p (.mv (.t 9))), false, []⟩,
     ⟨(some 11), (some (10, true)), (.p (.mv (.t 0))), false, []⟩,
     ⟨(some 12), (some (10, true)), (.p (.mv (.t 1))), false, []⟩,
     ⟨(some 13), (some (10, true)), (.p (.lenS (.t 12))), false, []⟩,
     ⟨(some 14), (some (10, true)), (.p (.slices (.t 11) none (some (.t 13)))), false, []⟩,
     ⟨(some 15), (some (10, true)), (.p (.mv (.t 1))), false, []⟩,
     ⟨(some 16), (some (10, true)), (.p (.bin .eql (.t 14) (.t 15))), false, []⟩,
     ⟨(some 17), none, (.p (.pick (.t 10) (.t 16) (.c (.bool false)))), false, []⟩,
     ⟨(some 4), none, (.p (.mv (.t 17))), false, []⟩] (some ⟨[4], [], false⟩))
   .ret))
theorem Tryd.run113 {xs : List AV} {r : AV} (hl : xs.length ≤ 18) (h : aw Tryd.prog Tryd.c113 (Pv.Ends [4] r) (entry xs)) : Run Tryd.prog 113 xs r :=
  run_of (fun _ _ => drawOk Tryd.mixed) Tryd.func113 rfl rfl rfl (by kernel_rfl) (by kernel_rfl) hl h
end Go.Proofs
