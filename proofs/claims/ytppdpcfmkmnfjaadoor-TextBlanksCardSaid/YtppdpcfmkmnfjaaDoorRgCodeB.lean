/- The compiled code of this seat, and the rules that run it. (Printed by a program of ours.) -/
import Derived.Test.YtppdpcfmkmnfjaaDoorRgCodeA
namespace Go.Proofs
open Go.Pv
set_option maxHeartbeats 4000000
/-! 101 strings.Index : params [9, 9], results [3], free 0, zeros [(.string ⟨#[]⟩), (.string ⟨#[]⟩)] -/
def Tryd.c101 : AC :=
 (.seq
  (.region 0 [⟨(some 4), none, (.p (.mv (.c (.int .i64 0)))), false, []⟩] (some ⟨[0, 1], [], false⟩))
  (.seq
   (.region 0 [⟨(some 5), none, (.p (.mv (.t 0))), false, []⟩,
     ⟨(some 6), none, (.p (.mv (.t 1))), false, []⟩,
     ⟨(some 7), none, (.call 94 [(.t 5), (.t 6)] false), false, []⟩,
     ⟨(some 4), none, (.p (.mv (.t 7))), false, []⟩] (some ⟨[4], [], false⟩))
   .ret))
theorem Tryd.run101 {xs : List AV} {r : AV} (hl : xs.length ≤ 8) (h : aw Tryd.prog Tryd.c101 (Pv.Ends [4] r) (entry xs)) : Run Tryd.prog 101 xs r :=
  run_of (fun _ _ => drawOk Tryd.mixed) Tryd.func101 rfl rfl rfl (by kernel_rfl) (by kernel_rfl) hl h
/-! 102 paling/mac.shift : params [3], results [98], free 0, zeros [(.int .i64 (0))] -/
def Tryd.c102 : AC :=
 (.seq
  (.region 0 [⟨(some 2), none, (.p (.mv (.c (.int .u64 0)))), false, []⟩] (some ⟨[0], [], false⟩))
  (.seq
   (.region 0 [⟨(some 3), none, (.p (.mv (.t 0))), false, []⟩,
     ⟨(some 4), none, (.p (.bin .sub (.c (.int .i64 5)) (.t 3))), false, []⟩,
     ⟨(some 5), none, (.p (.bin .mul (.c (.int .i64 8)) (.t 4))), false, []⟩,
     ⟨(some 6), none, (.p (.convI .u64 (.t 5))), false, []⟩,
     ⟨(some 2), none, (.p (.mv (.t 6))), false, []⟩] (some ⟨[2], [], false⟩))
   .ret))
theorem Tryd.run102 {xs : List AV} {r : AV} (hl : xs.length ≤ 7) (h : aw Tryd.prog Tryd.c102 (Pv.Ends [2] r) (entry xs)) : Run Tryd.prog 102 xs r :=
  run_of (fun _ _ => drawOk Tryd.mixed) Tryd.func102 rfl rfl rfl (by kernel_rfl) (by kernel_rfl) hl h
/-! 103 paling/addr.put : params [26, 3], results [26], free 0, zeros [(.slice none 0 0), (.int .i64 (0))] -/
def Tryd.c103 : AC :=
 (.seq
  (.region 0 [⟨(some 4), none, (.p (.mv (.c (.sl 0 [] true)))), false, []⟩] (some ⟨[0, 1], [], false⟩))
  (.seq
   (.seq
    (.region 0 [⟨(some 5), none, (.p (.mv (.t 1))), false, []⟩,
      ⟨(some 6), none, (.p (.bin .geq (.t 5) (.c (.int .i64 10)))), false, []⟩] (some ⟨[0, 1, 6], [], false⟩))
    (.cond (.t 6)
     (.region 0 [⟨(some 7), none, (.p (.mv (.t 0))), false, []⟩,
       ⟨(some 8), none, (.p (.mv (.t 1))), false, []⟩,
       ⟨(some 9), none, (.p (.bin .quo (.t 8) (.c (.int .i64 10)))), false, []⟩,
       ⟨(some 10), none, (.call 103 [(.t 7), (.t 9)] false), false, []⟩,
       ⟨(some 0), none, (.p (.mv (.t 10))), false, []⟩] (some ⟨[0, 1], [], false⟩))
     .skip))
   (.seq
    (.region 0 [⟨(some 11), none, (.p (.mv (.t 0))), false, []⟩,
      ⟨(some 12), none, (.p (.mv (.t 1))), false, []⟩,
      ⟨(some 13), none, (.p (.bin .rem (.t 12) (.c (.int .i64 10)))), false, []⟩,
      ⟨(some 14), none, (.p (.bin .add (.c (.int .i64 48)) (.t 13))), false, []⟩,
      ⟨(some 15), none, (.p (.convI .u8 (.t 14))), false, []⟩,
      ⟨(some 16), none, (.e (.mks 5 1 (.int .u8 0) 1 [(0, (.t 15))]) none), false, []⟩,
      ⟨(some 17), none, (.e (.append 5 1 140737488355328 (.t 11) (.t 16)) none), false, []⟩,
      ⟨(some 4), none, (.p (.mv (.t 17))), false, []⟩] (some ⟨[4], [], false⟩))
    .ret)))
theorem Tryd.run103 {xs : List AV} {r : AV} (hl : xs.length ≤ 18) (h : aw Tryd.prog Tryd.c103 (Pv.Ends [4] r) (entry xs)) : Run Tryd.prog 103 xs r :=
  run_of (fun _ _ => drawOk Tryd.mixed) Tryd.func103 rfl rfl rfl (by kernel_rfl) (by kernel_rfl) hl h
/-! 109 internal/stringslite.IndexByte : params [9, 5], results [3], free 0, zeros [(.string ⟨#[]⟩), (.int .u8 (0))] -/
def Tryd.c109 : AC :=
 (.seq
  (.region 0 [⟨(some 4), none, (.p (.mv (.c (.int .i64 0)))), false, []⟩] (some ⟨[0, 1], [], false⟩))
  (.seq
   (.region 0 [⟨(some 5), none, (.p (.mv (.t 0))), false, []⟩,
     ⟨(some 6), none, (.p (.mv (.t 1))), false, []⟩,
     ⟨(some 7), none, (.p (.idxb (.t 5) (.t 6))), false, []⟩,
     ⟨(some 4), none, (.p (.mv (.t 7))), false, []⟩] (some ⟨[4], [], false⟩))
   .ret))
theorem Tryd.run109 {xs : List AV} {r : AV} (hl : xs.length ≤ 8) (h : aw Tryd.prog Tryd.c109 (Pv.Ends [4] r) (entry xs)) : Run Tryd.prog 109 xs r :=
  run_of (fun _ _ => drawOk Tryd.mixed) Tryd.func109 rfl rfl rfl (by kernel_rfl) (by kernel_rfl) hl h
/-! 113 internal/stringslite.HasPrefix : params [9, 9], results [4], free 0, zeros [(.string ⟨#[]⟩), (.string ⟨#[]⟩)] -/
def Tryd.c113 : AC :=
 (.seq
  (.region 0 [⟨(some 4), none, (.p (.mv (.c (.bool false)))), false, []⟩] (some ⟨[0, 1], [], false⟩))
  (.seq
   (.region 0 [⟨(some 5), none, (.p (.mv (.t 0))), false, []⟩,
     ⟨(some 6), none, (.p (.lenS (.t 5))), false, []⟩,
     ⟨(some 7), none, (.p (.mv (.t 1))), false, []⟩,
     ⟨(some 8), none, (.p (.lenS (.t 7))), false, []⟩,
     ⟨(some 9), none, (.p (.bin .geq (.t 6) (.t 8))), false, []⟩,
     ⟨(some 10), none, (.p (.mv (.t 9))), false, []⟩,
     ⟨(some 11), (some (10, true)), (.p (.mv (.t 0))), false, []⟩,
     ⟨(some 12), (some (10, true)), (.p (.mv (.t 1))), false, []⟩,
     ⟨(some 13), (some (10, true)), (.p (.lenS (.t 12))), false, []⟩,
     ⟨(some 14), (some (10, true)), (.p (.slices (.t 11) none (some (.t 13)))), false, []⟩,
     ⟨(some 15), (some (10, true)), (.p (.mv (.t 1))), false, []⟩,
     ⟨(some 16), (some (10, true)), (.p (.bin .eql (.t 14) (.t 15))), false, []⟩,
     ⟨(some 17), none, (.p (.pick (.t 10) (.t 16) (.c (.bool false)))), false, []⟩,
     ⟨(some 4), none, (.p (.mv (.t 17))), false, []⟩] (some ⟨[4], [], false⟩))
   .ret))
theorem Tryd.run113 {xs : List AV} {r : AV} (hl : xs.length ≤ 18) (h : aw Tryd.prog Tryd.c113 (Pv.Ends [4] r) (entry xs)) : Run Tryd.prog 113 xs r :=
  run_of (fun _ _ => drawOk Tryd.mixed) Tryd.func113 rfl rfl rfl (by kernel_rfl) (by kernel_rfl) hl h
end Go.Proofs
