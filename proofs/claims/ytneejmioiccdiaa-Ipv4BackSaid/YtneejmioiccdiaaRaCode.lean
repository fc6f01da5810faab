/-
  The compiled code of this seat's functions, with what is live kept, and the rules that run it. (Printed by a program of ours.)
-/
import Derived.Test.YtneejmioiccdiaaPvZE
import Derived.Test.YtneejmioiccdiaaProg
namespace Go.Proofs
open Go.Pv
theorem Try.mixed : Try.prog.follows .mixedOrders = true := by kernel_rfl
/-! 2 gosem.cut.init : params [], results [], free 0, zeros [] -/
def Try.c2 : AC :=
 (.region 0 [⟨(some 0), none, (.call 1 [] false), false, []⟩] (some ⟨[], [], false⟩))
theorem Try.run2 {xs : List AV} {r : AV} (hl : xs.length ≤ 1) (h : aw Try.prog Try.c2 (Pv.Ends [] r) (entry xs)) : Run Try.prog 2 xs r :=
  run_of (fun _ _ => drawOk Try.mixed) Try.func2 rfl rfl rfl (by kernel_rfl) (by kernel_rfl) hl h
/-! 3 paling/palinglaw06.SumTells : params [22], results [4], free 0, zeros [(.slice none 0 0)] -/
def Try.c3 : AC :=
 (.seq
  (.region 0 [⟨(some 2), none, (.p (.mv (.c (.bool false)))), false, []⟩] (some ⟨[0], [], false⟩))
  (.seq
   (.region 0 [⟨(some 3), none, (.p (.mv (.t 0))), false, []⟩,
     ⟨(some 4), none, (.p (.len (.t 3))), false, []⟩,
     ⟨(some 5), none, (.p (.bin .gtr (.t 4) (.c (.int .i64 4000)))), false, []⟩,
     ⟨(some 6), none, (.p (.mv (.t 5))), false, []⟩,
     ⟨(some 7), (some (6, false)), (.p (.mv (.t 0))), false, []⟩,
     ⟨(some 8), (some (6, false)), (.call 15 [(.t 7)] false), false, []⟩,
     ⟨(some 9), (some (6, false)), (.p (.mv (.t 0))), false, []⟩,
     ⟨(some 10), (some (6, false)), (.call 16 [(.t 9)] false), false, []⟩,
     ⟨(some 11), (some (6, false)), (.p (.bin .eql (.t 8) (.t 10))), false, []⟩,
     ⟨(some 12), (some (6, false)), (.p (.mv (.t 11))), false, []⟩,
     ⟨(some 13), (some (12, true)), (.p (.mv (.t 0))), false, []⟩,
     ⟨(some 14), (some (12, true)), (.call 17 [(.t 13)] false), false, []⟩,
     ⟨(some 15), (some (12, true)), (.p (.mv (.t 0))), false, []⟩,
     ⟨(some 16), (some (12, true)), (.call 18 [(.t 15)] false), false, []⟩,
     ⟨(some 17), (some (12, true)), (.p (.binB .eql (.t 14) (.t 16))), false, []⟩,
     ⟨(some 18), (some (6, false)), (.p (.pick (.t 12) (.t 17) (.c (.bool false)))), false, []⟩,
     ⟨(some 19), (some (6, false)), (.p (.mv (.t 18))), false, []⟩,
     ⟨(some 20), (some (19, true)), (.call 19 [] false), false, []⟩,
     ⟨(some 21), (some (6, false)), (.p (.pick (.t 19) (.t 20) (.c (.bool false)))), false, []⟩,
     ⟨(some 22), none, (.p (.pick (.t 6) (.c (.bool true)) (.t 21))), false, []⟩,
     ⟨(some 2), none, (.p (.mv (.t 22))), false, []⟩] (some ⟨[2], [], false⟩))
   .ret))
theorem Try.run3 {xs : List AV} {r : AV} (hl : xs.length ≤ 23) (h : aw Try.prog Try.c3 (Pv.Ends [2] r) (entry xs)) : Run Try.prog 3 xs r :=
  run_of (fun _ _ => drawOk Try.mixed) Try.func3 rfl rfl rfl (by kernel_rfl) (by kernel_rfl) hl h
/-! 4 paling/palinglaw06.SumTurns : params [3, 3, 3], results [4], free 0, zeros [(.int .i64 (0)), (.int .i64 (0)), (.int .i64 (0))] -/
def Try.c4 : AC :=
 (.seq
  (.region 0 [⟨(some 6), none, (.p (.mv (.c (.bool false)))), false, []⟩] (some ⟨[0, 1, 2], [], false⟩))
  (.seq
   (.region 0 [⟨(some 7), none, (.p (.mv (.t 0))), false, []⟩,
     ⟨(some 8), none, (.p (.mv (.t 1))), false, []⟩,
     ⟨(some 9), none, (.p (.mv (.t 2))), false, []⟩,
     ⟨(some 10), none, (.call 20 [(.t 7), (.t 8), (.t 9)] false), false, []⟩,
     ⟨(some 11), none, (.p (.mv (.t 0))), false, []⟩,
     ⟨(some 12), none, (.p (.mv (.t 1))), false, []⟩,
     ⟨(some 13), none, (.p (.mv (.t 2))), false, []⟩,
     ⟨(some 14), none, (.call 21 [(.t 11), (.t 12), (.t 13)] false), false, []⟩,
     ⟨(some 15), none, (.p (.bin .eql (.t 10) (.t 14))), false, []⟩,
     ⟨(some 16), none, (.p (.mv (.t 15))), false, []⟩,
     ⟨(some 17), (some (16, true)), (.call 19 [] false), false, []⟩,
     ⟨(some 18), none, (.p (.pick (.t 16) (.t 17) (.c (.bool false)))), false, []⟩,
     ⟨(some 6), none, (.p (.mv (.t 18))), false, []⟩] (some ⟨[6], [], false⟩))
   .ret))
theorem Try.run4 {xs : List AV} {r : AV} (hl : xs.length ≤ 19) (h : aw Try.prog Try.c4 (Pv.Ends [6] r) (entry xs)) : Run Try.prog 4 xs r :=
  run_of (fun _ _ => drawOk Try.mixed) Try.func4 rfl rfl rfl (by kernel_rfl) (by kernel_rfl) hl h
/-! 5 paling/palinglaw06.SumBack : params [22, 28, 5], results [4], free 0, zeros [(.slice none 0 0), (.int .u16 (0)), (.int .u8 (0))] -/
def Try.c5 : AC :=
 (.seq
  (.region 0 [⟨(some 6), none, (.p (.mv (.c (.bool false)))), false, []⟩] (some ⟨[0, 1, 2], [], false⟩))
  (.seq
   (.seq
    (.region 0 [⟨(some 10), none, (.call 19 [] false), false, []⟩,
      ⟨(some 11), none, (.p (.un .not (.t 10))), false, []⟩] (some ⟨[0, 1, 2, 11], [], false⟩))
    (.cond (.t 11)
     (.seq
      (.region 0 [⟨(some 6), none, (.p (.mv (.c (.bool false)))), false, []⟩] (some ⟨[6], [], false⟩))
      .ret)
     .skip))
   (.seq
    (.seq
     (.region 0 [⟨(some 12), none, (.p (.mv (.t 0))), false, []⟩,
       ⟨(some 13), none, (.p (.len (.t 12))), false, []⟩,
       ⟨(some 14), none, (.p (.bin .rem (.t 13) (.c (.int .i64 2)))), false, []⟩,
       ⟨(some 15), none, (.p (.bin .eql (.t 14) (.c (.int .i64 1)))), false, []⟩,
       ⟨(some 16), none, (.p (.mv (.t 15))), false, []⟩,
       ⟨(some 17), (some (16, false)), (.p (.mv (.t 0))), false, []⟩,
       ⟨(some 18), (some (16, false)), (.p (.len (.t 17))), false, []⟩,
       ⟨(some 19), (some (16, false)), (.p (.bin .gtr (.t 18) (.c (.int .i64 3000)))), false, []⟩,
       ⟨(some 20), none, (.p (.pick (.t 16) (.c (.bool true)) (.t 19))), false, []⟩] (some ⟨[0, 1, 2, 20], [], false⟩))
     (.cond (.t 20)
      (.seq
       (.region 0 [⟨(some 6), none, (.p (.mv (.c (.bool true)))), false, []⟩] (some ⟨[6], [], false⟩))
       .ret)
      .skip))
    (.seq
     (.region 0 [⟨(some 21), none, (.p (.mv (.t 0))), false, []⟩,
       ⟨(some 22), none, (.call 15 [(.t 21)] false), false, []⟩,
       ⟨(some 7), none, (.p (.mv (.t 22))), false, []⟩] (some ⟨[0, 1, 2, 7], [], false⟩))
     (.seq
      (.region 0 [⟨(some 23), none, (.e (.mks 5 1 (.int .u8 0) 0 []) none), false, []⟩,
        ⟨(some 24), none, (.p (.mv (.t 0))), false, []⟩,
        ⟨(some 25), none, (.e (.append 5 1 (.t 23) (.t 24)) none), false, []⟩,
        ⟨(some 26), none, (.p (.mv (.t 7))), false, []⟩,
        ⟨(some 27), none, (.p (.bin .shr (.t 26) (.c (.int .u64 8)))), false, []⟩,
        ⟨(some 28), none, (.p (.convI .u8 (.t 27))), false, []⟩,
        ⟨(some 29), none, (.p (.mv (.t 7))), false, []⟩,
        ⟨(some 30), none, (.p (.convI .u8 (.t 29))), false, []⟩,
        ⟨(some 31), none, (.e (.mks 5 1 (.int .u8 0) 2 [(0, (.t 28)), (1, (.t 30))]) none), false, []⟩,
        ⟨(some 32), none, (.e (.append 5 1 (.t 25) (.t 31)) none), false, []⟩,
        ⟨(some 8), none, (.p (.mv (.t 32))), false, []⟩] (some ⟨[1, 2, 7, 8], [], false⟩))
      (.seq
       (.seq
        (.region 0 [⟨(some 33), none, (.p (.mv (.t 7))), false, []⟩,
          ⟨(some 34), none, (.p (.bin .lss (.t 33) (.c (.int .i64 0)))), false, []⟩,
          ⟨(some 35), none, (.p (.mv (.t 34))), false, []⟩,
          ⟨(some 36), (some (35, false)), (.p (.mv (.t 7))), false, []⟩,
          ⟨(some 37), (some (35, false)), (.p (.bin .gtr (.t 36) (.c (.int .i64 65535)))), false, []⟩,
          ⟨(some 38), none, (.p (.pick (.t 35) (.c (.bool true)) (.t 37))), false, []⟩,
          ⟨(some 39), none, (.p (.mv (.t 38))), false, []⟩,
          ⟨(some 40), (some (39, false)), (.p (.mv (.t 8))), false, []⟩,
          ⟨(some 41), (some (39, false)), (.call 17 [(.t 40)] false), false, []⟩,
          ⟨(some 42), (some (39, false)), (.p (.un .not (.t 41))), false, []⟩,
          ⟨(some 43), none, (.p (.pick (.t 39) (.c (.bool true)) (.t 42))), false, []⟩] (some ⟨[1, 2, 8, 43], [], false⟩))
        (.cond (.t 43)
         (.seq
          (.region 0 [⟨(some 6), none, (.p (.mv (.c (.bool false)))), false, []⟩] (some ⟨[6], [], false⟩))
          .ret)
         .skip))
       (.seq
        (.region 0 [⟨(some 44), none, (.p (.mv (.t 1))), false, []⟩,
          ⟨(some 45), none, (.p (.convI .i64 (.t 44))), false, []⟩,
          ⟨(some 46), none, (.p (.mv (.t 8))), false, []⟩,
          ⟨(some 47), none, (.p (.len (.t 46))), false, []⟩,
          ⟨(some 48), none, (.p (.bin .rem (.t 45) (.t 47))), false, []⟩,
          ⟨(some 9), none, (.p (.mv (.t 48))), false, []⟩] (some ⟨[2, 8, 9], [], false⟩))
        (.seq
         (.region 0 [⟨(some 49), none, (.p (.mv (.t 8))), false, []⟩,
           ⟨(some 50), none, (.p (.mv (.t 9))), false, []⟩,
           ⟨(some 51), none, (.p (.iaddr 1 (.t 49) (.t 50))), false, []⟩,
           ⟨(some 52), none, (.r (.load 1 false (.t 51))), false, []⟩,
           ⟨(some 53), none, (.p (.mv (.t 2))), false, []⟩,
           ⟨(some 54), none, (.p (.bin .rem (.t 53) (.c (.int .u8 8)))), false, []⟩,
           ⟨(some 55), none, (.p (.bin .shl (.c (.int .u8 1)) (.t 54))), false, []⟩,
           ⟨(some 56), none, (.p (.bin .xor (.t 52) (.t 55))), false, []⟩,
           ⟨(some 57), none, (.p (.iaddr 1 (.t 49) (.t 50))), false, []⟩,
           ⟨none, none, (.e (.store 1 (.t 57) (.t 56)) none), false, []⟩] (some ⟨[8], [], false⟩))
         (.seq
          (.region 0 [⟨(some 58), none, (.p (.mv (.t 8))), false, []⟩,
            ⟨(some 59), none, (.call 17 [(.t 58)] false), false, []⟩,
            ⟨(some 60), none, (.p (.un .not (.t 59))), false, []⟩,
            ⟨(some 6), none, (.p (.mv (.t 60))), false, []⟩] (some ⟨[6], [], false⟩))
          .ret)))))))))
theorem Try.run5 {xs : List AV} {r : AV} (hl : xs.length ≤ 61) (h : aw Try.prog Try.c5 (Pv.Ends [6] r) (entry xs)) : Run Try.prog 5 xs r :=
  run_of (fun _ _ => drawOk Try.mixed) Try.func5 rfl rfl rfl (by kernel_rfl) (by kernel_rfl) hl h
/-! 6 paling/palinglaw06.SumChange : params [22, 28, 28], results [4], free 0, zeros [(.slice none 0 0), (.int .u16 (0)), (.int .u16 (0))] -/
def Try.c6b0 : AC :=
 (.seq
  (.region 0 [⟨(some 53), none, (.p (.bin .lss (.t 52) (.t 51))), false, []⟩] (some ⟨[0, 2, 7, 8, 9, 50, 51, 52, 53], [], false⟩))
  (.seq
   (.cond (.t 53)
    .skip
    (.exit 0))
   (.seq
    (.block 1
     (.seq
      (.region 0 [⟨(some 54), none, (.p (.iaddr 1 (.t 50) (.t 52))), false, []⟩,
        ⟨(some 55), none, (.r (.load 1 false (.t 54))), false, []⟩,
        ⟨(some 11), none, (.p (.mv (.t 55))), false, []⟩] (some ⟨[0, 2, 7, 8, 9, 11, 50, 51, 52], [], false⟩))
      (.region 0 [⟨(some 56), none, (.p (.mv (.t 9))), false, []⟩,
        ⟨(some 57), none, (.p (.mv (.t 56))), false, []⟩,
        ⟨(some 58), (some (57, false)), (.p (.mv (.t 11))), false, []⟩,
        ⟨(some 59), (some (57, false)), (.p (.bin .neq (.t 58) (.c (.int .u8 0)))), false, []⟩,
        ⟨(some 60), none, (.p (.pick (.t 57) (.c (.bool true)) (.t 59))), false, []⟩,
        ⟨(some 9), none, (.p (.mv (.t 60))), false, []⟩] (some ⟨[0, 2, 7, 8, 9, 50, 51, 52], [], false⟩))))
    (.region 0 [⟨(some 61), none, (.p (.bin .add (.t 52) (.c (.int .i64 1)))), false, []⟩,
      ⟨(some 52), none, (.p (.mv (.t 61))), false, []⟩] (some ⟨[0, 2, 7, 8, 9, 50, 51, 52], [], false⟩)))))
def Try.c6 : AC :=
 (.seq
  (.region 0 [⟨(some 6), none, (.p (.mv (.c (.bool false)))), false, []⟩] (some ⟨[0, 1, 2], [], false⟩))
  (.seq
   (.seq
    (.region 0 [⟨(some 12), none, (.call 19 [] false), false, []⟩,
      ⟨(some 13), none, (.p (.un .not (.t 12))), false, []⟩] (some ⟨[0, 1, 2, 13], [], false⟩))
    (.cond (.t 13)
     (.seq
      (.region 0 [⟨(some 6), none, (.p (.mv (.c (.bool false)))), false, []⟩] (some ⟨[6], [], false⟩))
      .ret)
     .skip))
   (.seq
    (.seq
     (.region 0 [⟨(some 14), none, (.p (.mv (.t 0))), false, []⟩,
       ⟨(some 15), none, (.p (.len (.t 14))), false, []⟩,
       ⟨(some 16), none, (.p (.bin .rem (.t 15) (.c (.int .i64 2)))), false, []⟩,
       ⟨(some 17), none, (.p (.bin .eql (.t 16) (.c (.int .i64 1)))), false, []⟩,
       ⟨(some 18), none, (.p (.mv (.t 17))), false, []⟩,
       ⟨(some 19), (some (18, false)), (.p (.mv (.t 0))), false, []⟩,
       ⟨(some 20), (some (18, false)), (.p (.len (.t 19))), false, []⟩,
       ⟨(some 21), (some (18, false)), (.p (.bin .eql (.t 20) (.c (.int .i64 0)))), false, []⟩,
       ⟨(some 22), none, (.p (.pick (.t 18) (.c (.bool true)) (.t 21))), false, []⟩,
       ⟨(some 23), none, (.p (.mv (.t 22))), false, []⟩,
       ⟨(some 24), (some (23, false)), (.p (.mv (.t 0))), false, []⟩,
       ⟨(some 25), (some (23, false)), (.p (.len (.t 24))), false, []⟩,
       ⟨(some 26), (some (23, false)), (.p (.bin .gtr (.t 25) (.c (.int .i64 3000)))), false, []⟩,
       ⟨(some 27), none, (.p (.pick (.t 23) (.c (.bool true)) (.t 26))), false, []⟩] (some ⟨[0, 1, 2, 27], [], false⟩))
     (.cond (.t 27)
      (.seq
       (.region 0 [⟨(some 6), none, (.p (.mv (.c (.bool true)))), false, []⟩] (some ⟨[6], [], false⟩))
       .ret)
      .skip))
    (.seq
     (.region 0 [⟨(some 28), none, (.p (.mv (.t 1))), false, []⟩,
       ⟨(some 29), none, (.p (.convI .i64 (.t 28))), false, []⟩,
       ⟨(some 30), none, (.p (.mv (.t 0))), false, []⟩,
       ⟨(some 31), none, (.p (.len (.t 30))), false, []⟩,
       ⟨(some 32), none, (.p (.bin .quo (.t 31) (.c (.int .i64 2)))), false, []⟩,
       ⟨(some 33), none, (.p (.bin .rem (.t 29) (.t 32))), false, []⟩,
       ⟨(some 34), none, (.p (.bin .mul (.t 33) (.c (.int .i64 2)))), false, []⟩,
       ⟨(some 7), none, (.p (.mv (.t 34))), false, []⟩] (some ⟨[0, 2, 7], [], false⟩))
     (.seq
      (.region 0 [⟨(some 35), none, (.e (.mks 5 1 (.int .u8 0) 0 []) none), false, []⟩,
        ⟨(some 36), none, (.p (.mv (.t 0))), false, []⟩,
        ⟨(some 37), none, (.e (.append 5 1 (.t 35) (.t 36)) none), false, []⟩,
        ⟨(some 8), none, (.p (.mv (.t 37))), false, []⟩] (some ⟨[0, 2, 7, 8], [], false⟩))
      (.seq
       (.region 0 [⟨(some 38), none, (.p (.mv (.t 8))), false, []⟩,
         ⟨(some 39), none, (.p (.mv (.t 7))), false, []⟩,
         ⟨(some 40), none, (.p (.mv (.t 8))), false, []⟩,
         ⟨(some 41), none, (.p (.mv (.t 7))), false, []⟩,
         ⟨(some 42), none, (.p (.bin .add (.t 41) (.c (.int .i64 1)))), false, []⟩,
         ⟨(some 43), none, (.p (.mv (.t 2))), false, []⟩,
         ⟨(some 44), none, (.p (.bin .shr (.t 43) (.c (.int .u64 8)))), false, []⟩,
         ⟨(some 45), none, (.p (.convI .u8 (.t 44))), false, []⟩,
         ⟨(some 46), none, (.p (.mv (.t 2))), false, []⟩,
         ⟨(some 47), none, (.p (.convI .u8 (.t 46))), false, []⟩,
         ⟨(some 48), none, (.p (.iaddr 1 (.t 38) (.t 39))), false, []⟩,
         ⟨none, none, (.e (.store 1 (.t 48) (.t 45)) none), false, []⟩,
         ⟨(some 49), none, (.p (.iaddr 1 (.t 40) (.t 42))), false, []⟩,
         ⟨none, none, (.e (.store 1 (.t 49) (.t 47)) none), false, []⟩] (some ⟨[0, 2, 7, 8], [], false⟩))
       (.seq
        (.region 0 [⟨(some 9), none, (.p (.mv (.c (.bool false)))), false, []⟩] (some ⟨[0, 2, 7, 8, 9], [], false⟩))
        (.seq
         (.seq
          (.region 0 [⟨(some 50), none, (.p (.mv (.t 8))), false, []⟩,
            ⟨(some 51), none, (.p (.len (.t 50))), false, []⟩,
            ⟨(some 52), none, (.p (.mv (.c (.int .i64 0)))), false, []⟩] (some ⟨[0, 2, 7, 8, 9, 50, 51, 52], [], false⟩))
          (.block 0
           (.loop (some ⟨[0, 2, 7, 8, 9, 50, 51, 52], [], true⟩) Try.c6b0)))
         (.seq
          (.region 26 [⟨(some 62), none, (.p (.mv (.t 9))), false, []⟩,
            ⟨(some 63), none, (.p (.un .not (.t 62))), false, []⟩,
            ⟨(some 64), none, (.p (.mv (.t 63))), false, []⟩,
            ⟨(some 65), (some (64, false)), (.p (.mv (.t 0))), false, []⟩,
            ⟨(some 67), (some (64, false)), (.p (.mv (.t 0))), false, []⟩,
            ⟨(some 68), (some (64, false)), (.p (.mv (.t 7))), false, []⟩,
            ⟨(some 69), (some (64, false)), (.p (.iaddr 1 (.t 67) (.t 68))), false, []⟩,
            ⟨(some 70), (some (64, false)), (.r (.load 1 false (.t 69))), false, []⟩,
            ⟨(some 71), (some (64, false)), (.p (.convI .i64 (.t 70))), false, []⟩,
            ⟨(some 72), (some (64, false)), (.p (.bin .shl (.t 71) (.c (.int .u64 8)))), false, []⟩,
            ⟨(some 73), (some (64, false)), (.p (.mv (.t 0))), false, []⟩,
            ⟨(some 74), (some (64, false)), (.p (.mv (.t 7))), false, []⟩,
            ⟨(some 75), (some (64, false)), (.p (.bin .add (.t 74) (.c (.int .i64 1)))), false, []⟩,
            ⟨(some 76), (some (64, false)), (.p (.iaddr 1 (.t 73) (.t 75))), false, []⟩,
            ⟨(some 77), (some (64, false)), (.r (.load 1 false (.t 76))), false, []⟩,
            ⟨(some 78), (some (64, false)), (.p (.convI .i64 (.t 77))), false, []⟩,
            ⟨(some 79), (some (64, false)), (.p (.bin .or (.t 72) (.t 78))), false, []⟩,
            ⟨(some 80), (some (64, false)), (.p (.mv (.t 2))), false, []⟩,
            ⟨(some 81), (some (64, false)), (.p (.convI .i64 (.t 80))), false, []⟩,
            ⟨(some 83), (some (64, false)), (.p (.mv (.t 8))), false, []⟩,
            ⟨(some 66), (some (64, false)), (.call 15 [(.t 65)] true), false, []⟩,
            ⟨(some 82), (some (64, false)), (.call 20 [(.t 66), (.t 79), (.t 81)] true), false, []⟩,
            ⟨(some 84), (some (64, false)), (.call 15 [(.t 83)] true), false, []⟩,
            ⟨(some 85), (some (64, false)), (.p (.bin .eql (.t 82) (.t 84))), false, []⟩,
            ⟨(some 86), none, (.p (.pick (.t 64) (.c (.bool true)) (.t 85))), false, []⟩,
            ⟨(some 6), none, (.p (.mv (.t 86))), false, []⟩] (some ⟨[6], [], true⟩))
          .ret)))))))))
theorem Try.run6 {xs : List AV} {r : AV} (hl : xs.length ≤ 87) (h : aw Try.prog Try.c6 (Pv.Ends [6] r) (entry xs)) : Run Try.prog 6 xs r :=
  run_of (fun _ _ => drawOk Try.mixed) Try.func6 rfl rfl rfl (by kernel_rfl) (by kernel_rfl) hl h
/-! 7 paling/palinglaw08.UdpTakes : params [22, 32, 32], results [4], free 0, zeros [(.slice none 0 0), (.int .u64 (0)), (.int .u64 (0))] -/
def Try.c7 : AC :=
 (.seq
  (.region 0 [⟨(some 6), none, (.p (.mv (.c (.bool false)))), false, []⟩] (some ⟨[0, 1, 2], [], false⟩))
  (.seq
   (.seq
    (.region 0 [⟨(some 15), none, (.p (.mv (.t 0))), false, []⟩,
      ⟨(some 16), none, (.p (.len (.t 15))), false, []⟩,
      ⟨(some 17), none, (.p (.bin .gtr (.t 16) (.c (.int .i64 4000)))), false, []⟩] (some ⟨[0, 1, 2, 17], [], false⟩))
    (.cond (.t 17)
     (.seq
      (.region 0 [⟨(some 18), none, (.call 22 [] false), false, []⟩,
        ⟨(some 6), none, (.p (.mv (.t 18))), false, []⟩] (some ⟨[6], [], false⟩))
      .ret)
     .skip))
   (.seq
    (.region 0 [⟨(some 20), none, (.p (.mv (.t 0))), false, []⟩,
      ⟨(some 21), none, (.call 23 [(.t 20)] false), false, []⟩,
      ⟨(some 19), none, (.p (.mv (.t 21))), false, []⟩,
      ⟨(some 22), none, (.p (.ext (.t 19) 0)), false, []⟩,
      ⟨(some 23), none, (.p (.ext (.t 19) 1)), false, []⟩,
      ⟨(some 24), none, (.p (.ext (.t 19) 2)), false, []⟩,
      ⟨(some 25), none, (.p (.ext (.t 19) 3)), false, []⟩,
      ⟨(some 7), none, (.p (.mv (.t 22))), false, []⟩,
      ⟨(some 8), none, (.p (.mv (.t 23))), false, []⟩,
      ⟨(some 9), none, (.p (.mv (.t 24))), false, []⟩,
      ⟨(some 10), none, (.p (.mv (.t 25))), false, []⟩] (some ⟨[0, 1, 2, 7, 8, 9, 10], [], false⟩))
    (.seq
     (.region 0 [⟨(some 27), none, (.p (.mv (.t 0))), false, []⟩,
       ⟨(some 28), none, (.call 24 [(.t 27)] false), false, []⟩,
       ⟨(some 26), none, (.p (.mv (.t 28))), false, []⟩,
       ⟨(some 29), none, (.p (.ext (.t 26) 0)), false, []⟩,
       ⟨(some 30), none, (.p (.ext (.t 26) 1)), false, []⟩,
       ⟨(some 31), none, (.p (.ext (.t 26) 2)), false, []⟩,
       ⟨(some 32), none, (.p (.ext (.t 26) 3)), false, []⟩,
       ⟨(some 11), none, (.p (.mv (.t 29))), false, []⟩,
       ⟨(some 12), none, (.p (.mv (.t 30))), false, []⟩,
       ⟨(some 13), none, (.p (.mv (.t 31))), false, []⟩,
       ⟨(some 14), none, (.p (.mv (.t 32))), false, []⟩] (some ⟨[1, 2, 7, 8, 9, 10, 11, 12, 13, 14], [], false⟩))
     (.seq
      (.region 0 [⟨(some 33), none, (.p (.mv (.t 7))), false, []⟩,
        ⟨(some 34), none, (.p (.mv (.t 11))), false, []⟩,
        ⟨(some 35), none, (.p (.bin .eql (.t 33) (.t 34))), false, []⟩,
        ⟨(some 36), none, (.p (.mv (.t 35))), false, []⟩,
        ⟨(some 37), (some (36, true)), (.p (.mv (.t 8))), false, []⟩,
        ⟨(some 38), (some (36, true)), (.p (.mv (.t 12))), false, []⟩,
        ⟨(some 39), (some (36, true)), (.p (.bin .eql (.t 37) (.t 38))), false, []⟩,
        ⟨(some 40), none, (.p (.pick (.t 36) (.t 39) (.c (.bool false)))), false, []⟩,
        ⟨(some 41), none, (.p (.mv (.t 40))), false, []⟩,
        ⟨(some 42), (some (41, true)), (.p (.mv (.t 9))), false, []⟩,
        ⟨(some 43), (some (41, true)), (.r (.b2s (.t 42))), false, []⟩,
        ⟨(some 44), (some (41, true)), (.p (.mv (.t 13))), false, []⟩,
        ⟨(some 45), (some (41, true)), (.r (.b2s (.t 44))), false, []⟩,
        ⟨(some 46), (some (41, true)), (.p (.bin .eql (.t 43) (.t 45))), false, []⟩,
        ⟨(some 47), none, (.p (.pick (.t 41) (.t 46) (.c (.bool false)))), false, []⟩,
        ⟨(some 48), none, (.p (.mv (.t 47))), false, []⟩,
        ⟨(some 49), (some (48, true)), (.p (.mv (.t 10))), false, []⟩,
        ⟨(some 50), (some (48, true)), (.p (.mv (.t 14))), false, []⟩,
        ⟨(some 51), (some (48, true)), (.p (.bin .eql (.t 49) (.t 50))), false, []⟩,
        ⟨(some 52), none, (.p (.pick (.t 48) (.t 51) (.c (.bool false)))), false, []⟩,
        ⟨(some 53), none, (.p (.mv (.t 52))), false, []⟩,
        ⟨(some 54), (some (53, true)), (.p (.mv (.t 1))), false, []⟩,
        ⟨(some 55), (some (53, true)), (.p (.mv (.t 2))), false, []⟩,
        ⟨(some 56), (some (53, true)), (.call 25 [(.t 54), (.t 55)] false), false, []⟩,
        ⟨(some 57), (some (53, true)), (.p (.mv (.t 1))), false, []⟩,
        ⟨(some 58), (some (53, true)), (.p (.mv (.t 2))), false, []⟩,
        ⟨(some 59), (some (53, true)), (.call 26 [(.t 57), (.t 58)] false), false, []⟩,
        ⟨(some 60), (some (53, true)), (.p (.bin .eql (.t 56) (.t 59))), false, []⟩,
        ⟨(some 61), none, (.p (.pick (.t 53) (.t 60) (.c (.bool false)))), false, []⟩,
        ⟨(some 62), none, (.p (.mv (.t 61))), false, []⟩,
        ⟨(some 63), (some (62, true)), (.call 22 [] false), false, []⟩,
        ⟨(some 64), none, (.p (.pick (.t 62) (.t 63) (.c (.bool false)))), false, []⟩,
        ⟨(some 6), none, (.p (.mv (.t 64))), false, []⟩] (some ⟨[6], [], false⟩))
      .ret)))))
theorem Try.run7 {xs : List AV} {r : AV} (hl : xs.length ≤ 65) (h : aw Try.prog Try.c7 (Pv.Ends [6] r) (entry xs)) : Run Try.prog 7 xs r :=
  run_of (fun _ _ => drawOk Try.mixed) Try.func7 rfl rfl rfl (by kernel_rfl) (by kernel_rfl) hl h
/-! 8 paling/palinglaw08.UdpPuts : params [3, 3, 22], results [4], free 0, zeros [(.int .i64 (0)), (.int .i64 (0)), (.slice none 0 0)] -/
def Try.c8 : AC :=
 (.seq
  (.region 0 [⟨(some 6), none, (.p (.mv (.c (.bool false)))), false, []⟩] (some ⟨[0, 1, 2], [], false⟩))
  (.seq
   (.seq
    (.region 0 [⟨(some 11), none, (.p (.mv (.t 2))), false, []⟩,
      ⟨(some 12), none, (.p (.len (.t 11))), false, []⟩,
      ⟨(some 13), none, (.p (.bin .gtr (.t 12) (.c (.int .i64 4000)))), false, []⟩] (some ⟨[0, 1, 2, 13], [], false⟩))
    (.cond (.t 13)
     (.seq
      (.region 0 [⟨(some 14), none, (.call 22 [] false), false, []⟩,
        ⟨(some 6), none, (.p (.mv (.t 14))), false, []⟩] (some ⟨[6], [], false⟩))
      .ret)
     .skip))
   (.seq
    (.region 0 [⟨(some 16), none, (.p (.mv (.t 0))), false, []⟩,
      ⟨(some 17), none, (.p (.mv (.t 1))), false, []⟩,
      ⟨(some 18), none, (.p (.mv (.t 2))), false, []⟩,
      ⟨(some 19), none, (.call 27 [(.t 16), (.t 17), (.t 18)] false), false, []⟩,
      ⟨(some 15), none, (.p (.mv (.t 19))), false, []⟩,
      ⟨(some 20), none, (.p (.ext (.t 15) 0)), false, []⟩,
      ⟨(some 21), none, (.p (.ext (.t 15) 1)), false, []⟩,
      ⟨(some 7), none, (.p (.mv (.t 20))), false, []⟩,
      ⟨(some 8), none, (.p (.mv (.t 21))), false, []⟩] (some ⟨[0, 1, 2, 7, 8], [], false⟩))
    (.seq
     (.region 0 [⟨(some 23), none, (.p (.mv (.t 0))), false, []⟩,
       ⟨(some 24), none, (.p (.mv (.t 1))), false, []⟩,
       ⟨(some 25), none, (.p (.mv (.t 2))), false, []⟩,
       ⟨(some 26), none, (.call 28 [(.t 23), (.t 24), (.t 25)] false), false, []⟩,
       ⟨(some 22), none, (.p (.mv (.t 26))), false, []⟩,
       ⟨(some 27), none, (.p (.ext (.t 22) 0)), false, []⟩,
       ⟨(some 28), none, (.p (.ext (.t 22) 1)), false, []⟩,
       ⟨(some 9), none, (.p (.mv (.t 27))), false, []⟩,
       ⟨(some 10), none, (.p (.mv (.t 28))), false, []⟩] (some ⟨[7, 8, 9, 10], [], false⟩))
     (.seq
      (.region 0 [⟨(some 29), none, (.p (.mv (.t 7))), false, []⟩,
        ⟨(some 30), none, (.r (.b2s (.t 29))), false, []⟩,
        ⟨(some 31), none, (.p (.mv (.t 9))), false, []⟩,
        ⟨(some 32), none, (.r (.b2s (.t 31))), false, []⟩,
        ⟨(some 33), none, (.p (.bin .eql (.t 30) (.t 32))), false, []⟩,
        ⟨(some 34), none, (.p (.mv (.t 33))), false, []⟩,
        ⟨(some 35), (some (34, true)), (.p (.mv (.t 8))), false, []⟩,
        ⟨(some 36), (some (34, true)), (.p (.mv (.t 10))), false, []⟩,
        ⟨(some 37), (some (34, true)), (.p (.bin .eql (.t 35) (.t 36))), false, []⟩,
        ⟨(some 38), none, (.p (.pick (.t 34) (.t 37) (.c (.bool false)))), false, []⟩,
        ⟨(some 39), none, (.p (.mv (.t 38))), false, []⟩,
        ⟨(some 40), (some (39, true)), (.call 22 [] false), false, []⟩,
        ⟨(some 41), none, (.p (.pick (.t 39) (.t 40) (.c (.bool false)))), false, []⟩,
        ⟨(some 6), none, (.p (.mv (.t 41))), false, []⟩] (some ⟨[6], [], false⟩))
      .ret)))))
theorem Try.run8 {xs : List AV} {r : AV} (hl : xs.length ≤ 42) (h : aw Try.prog Try.c8 (Pv.Ends [6] r) (entry xs)) : Run Try.prog 8 xs r :=
  run_of (fun _ _ => drawOk Try.mixed) Try.func8 rfl rfl rfl (by kernel_rfl) (by kernel_rfl) hl h
/-! 9 paling/palinglaw08.UdpBack : params [28, 28, 22, 22, 22], results [4], free 0, zeros [(.int .u16 (0)), (.int .u16 (0)), (.slice none 0 0), (.slice none 0 0), (.slice none 0 0)] -/
def Try.c9 : AC :=
 (.seq
  (.region 0 [⟨(some 10), none, (.p (.mv (.c (.bool false)))), false, []⟩] (some ⟨[0, 1, 2, 3, 4], [], false⟩))
  (.seq
   (.seq
    (.region 0 [⟨(some 20), none, (.call 22 [] false), false, []⟩,
      ⟨(some 21), none, (.p (.un .not (.t 20))), false, []⟩] (some ⟨[0, 1, 2, 3, 4, 21], [], false⟩))
    (.cond (.t 21)
     (.seq
      (.region 0 [⟨(some 10), none, (.p (.mv (.c (.bool false)))), false, []⟩] (some ⟨[10], [], false⟩))
      .ret)
     .skip))
   (.seq
    (.seq
     (.region 0 [⟨(some 22), none, (.p (.mv (.t 2))), false, []⟩,
       ⟨(some 23), none, (.p (.len (.t 22))), false, []⟩,
       ⟨(some 24), none, (.p (.bin .gtr (.t 23) (.c (.int .i64 1472)))), false, []⟩,
       ⟨(some 25), none, (.p (.mv (.t 24))), false, []⟩,
       ⟨(some 26), (some (25, false)), (.p (.mv (.t 3))), false, []⟩,
       ⟨(some 27), (some (25, false)), (.p (.len (.t 26))), false, []⟩,
       ⟨(some 28), (some (25, false)), (.p (.bin .gtr (.t 27) (.c (.int .i64 4000)))), false, []⟩,
       ⟨(some 29), none, (.p (.pick (.t 25) (.c (.bool true)) (.t 28))), false, []⟩,
       ⟨(some 30), none, (.p (.mv (.t 29))), false, []⟩,
       ⟨(some 31), (some (30, false)), (.p (.mv (.t 4))), false, []⟩,
       ⟨(some 32), (some (30, false)), (.p (.len (.t 31))), false, []⟩,
       ⟨(some 33), (some (30, false)), (.p (.bin .gtr (.t 32) (.c (.int .i64 4000)))), false, []⟩,
       ⟨(some 34), none, (.p (.pick (.t 30) (.c (.bool true)) (.t 33))), false, []⟩] (some ⟨[0, 1, 2, 3, 4, 34], [], false⟩))
     (.cond (.t 34)
      (.seq
       (.region 0 [⟨(some 10), none, (.p (.mv (.c (.bool true)))), false, []⟩] (some ⟨[10], [], false⟩))
       .ret)
      .skip))
    (.seq
     (.region 0 [⟨(some 36), none, (.p (.mv (.t 0))), false, []⟩,
       ⟨(some 37), none, (.p (.convI .i64 (.t 36))), false, []⟩,
       ⟨(some 38), none, (.p (.mv (.t 1))), false, []⟩,
       ⟨(some 39), none, (.p (.convI .i64 (.t 38))), false, []⟩,
       ⟨(some 40), none, (.p (.mv (.t 2))), false, []⟩,
       ⟨(some 41), none, (.call 27 [(.t 37), (.t 39), (.t 40)] false), false, []⟩,
       ⟨(some 35), none, (.p (.mv (.t 41))), false, []⟩,
       ⟨(some 42), none, (.p (.ext (.t 35) 0)), false, []⟩,
       ⟨(some 43), none, (.p (.ext (.t 35) 1)), false, []⟩,
       ⟨(some 11), none, (.p (.mv (.t 42))), false, []⟩,
       ⟨(some 12), none, (.p (.mv (.t 43))), false, []⟩] (some ⟨[0, 1, 2, 3, 4, 11, 12], [], false⟩))
     (.seq
      (.region 0 [⟨(some 45), none, (.p (.mv (.t 11))), false, []⟩,
        ⟨(some 46), none, (.p (.mv (.t 3))), false, []⟩,
        ⟨(some 47), none, (.e (.append 5 1 (.t 45) (.t 46)) none), false, []⟩,
        ⟨(some 48), none, (.call 23 [(.t 47)] false), false, []⟩,
        ⟨(some 44), none, (.p (.mv (.t 48))), false, []⟩,
        ⟨(some 49), none, (.p (.ext (.t 44) 0)), false, []⟩,
        ⟨(some 50), none, (.p (.ext (.t 44) 1)), false, []⟩,
        ⟨(some 51), none, (.p (.ext (.t 44) 2)), false, []⟩,
        ⟨(some 52), none, (.p (.ext (.t 44) 3)), false, []⟩,
        ⟨(some 13), none, (.p (.mv (.t 49))), false, []⟩,
        ⟨(some 14), none, (.p (.mv (.t 50))), false, []⟩,
        ⟨(some 15), none, (.p (.mv (.t 51))), false, []⟩,
        ⟨(some 16), none, (.p (.mv (.t 52))), false, []⟩] (some ⟨[0, 1, 2, 4, 12, 13, 14, 15, 16], [], false⟩))
      (.seq
       (.seq
        (.region 0 [⟨(some 53), none, (.p (.mv (.t 12))), false, []⟩,
          ⟨(some 54), none, (.p (.bin .neq (.t 53) (.c (.int .i64 0)))), false, []⟩,
          ⟨(some 55), none, (.p (.mv (.t 54))), false, []⟩,
          ⟨(some 56), (some (55, false)), (.p (.mv (.t 16))), false, []⟩,
          ⟨(some 57), (some (55, false)), (.p (.bin .neq (.t 56) (.c (.int .i64 0)))), false, []⟩,
          ⟨(some 58), none, (.p (.pick (.t 55) (.c (.bool true)) (.t 57))), false, []⟩,
          ⟨(some 59), none, (.p (.mv (.t 58))), false, []⟩,
          ⟨(some 60), (some (59, false)), (.p (.mv (.t 13))), false, []⟩,
          ⟨(some 61), (some (59, false)), (.p (.mv (.t 0))), false, []⟩,
          ⟨(some 62), (some (59, false)), (.p (.convI .i64 (.t 61))), false, []⟩,
          ⟨(some 63), (some (59, false)), (.p (.bin .neq (.t 60) (.t 62))), false, []⟩,
          ⟨(some 64), none, (.p (.pick (.t 59) (.c (.bool true)) (.t 63))), false, []⟩,
          ⟨(some 65), none, (.p (.mv (.t 64))), false, []⟩,
          ⟨(some 66), (some (65, false)), (.p (.mv (.t 14))), false, []⟩,
          ⟨(some 67), (some (65, false)), (.p (.mv (.t 1))), false, []⟩,
          ⟨(some 68), (some (65, false)), (.p (.convI .i64 (.t 67))), false, []⟩,
          ⟨(some 69), (some (65, false)), (.p (.bin .neq (.t 66) (.t 68))), false, []⟩,
          ⟨(some 70), none, (.p (.pick (.t 65) (.c (.bool true)) (.t 69))), false, []⟩,
          ⟨(some 71), none, (.p (.mv (.t 70))), false, []⟩,
          ⟨(some 72), (some (71, false)), (.p (.mv (.t 15))), false, []⟩,
          ⟨(some 73), (some (71, false)), (.r (.b2s (.t 72))), false, []⟩,
          ⟨(some 74), (some (71, false)), (.p (.mv (.t 2))), false, []⟩,
          ⟨(some 75), (some (71, false)), (.r (.b2s (.t 74))), false, []⟩,
          ⟨(some 76), (some (71, false)), (.p (.bin .neq (.t 73) (.t 75))), false, []⟩,
          ⟨(some 77), none, (.p (.pick (.t 71) (.c (.bool true)) (.t 76))), false, []⟩] (some ⟨[0, 1, 4, 77], [], false⟩))
        (.cond (.t 77)
         (.seq
          (.region 0 [⟨(some 10), none, (.p (.mv (.c (.bool false)))), false, []⟩] (some ⟨[10], [], false⟩))
          .ret)
         .skip))
       (.seq
        (.region 0 [⟨(some 79), none, (.p (.mv (.t 4))), false, []⟩,
          ⟨(some 80), none, (.call 23 [(.t 79)] false), false, []⟩,
          ⟨(some 78), none, (.p (.mv (.t 80))), false, []⟩,
          ⟨(some 81), none, (.p (.ext (.t 78) 0)), false, []⟩,
          ⟨(some 82), none, (.p (.ext (.t 78) 1)), false, []⟩,
          ⟨(some 83), none, (.p (.ext (.t 78) 2)), false, []⟩,
          ⟨(some 84), none, (.p (.ext (.t 78) 3)), false, []⟩,
          ⟨(some 13), none, (.p (.mv (.t 81))), false, []⟩,
          ⟨(some 14), none, (.p (.mv (.t 82))), false, []⟩,
          ⟨(some 15), none, (.p (.mv (.t 83))), false, []⟩,
          ⟨(some 16), none, (.p (.mv (.t 84))), false, []⟩] (some ⟨[0, 1, 4, 13, 14, 15, 16], [], false⟩))
        (.seq
         (.seq
          (.region 0 [⟨(some 85), none, (.p (.mv (.t 16))), false, []⟩,
            ⟨(some 86), none, (.p (.bin .neq (.t 85) (.c (.int .i64 0)))), false, []⟩] (some ⟨[0, 1, 4, 13, 14, 15, 86], [], false⟩))
          (.cond (.t 86)
           (.seq
            (.region 0 [⟨(some 87), none, (.p (.mv (.t 13))), false, []⟩,
              ⟨(some 88), none, (.p (.bin .eql (.t 87) (.c (.int .i64 0)))), false, []⟩,
              ⟨(some 89), none, (.p (.mv (.t 88))), false, []⟩,
              ⟨(some 90), (some (89, true)), (.p (.mv (.t 14))), false, []⟩,
              ⟨(some 91), (some (89, true)), (.p (.bin .eql (.t 90) (.c (.int .i64 0)))), false, []⟩,
              ⟨(some 92), none, (.p (.pick (.t 89) (.t 91) (.c (.bool false)))), false, []⟩,
              ⟨(some 93), none, (.p (.mv (.t 92))), false, []⟩,
              ⟨(some 94), (some (93, true)), (.p (.mv (.t 15))), false, []⟩,
              ⟨(some 95), (some (93, true)), (.p (.len (.t 94))), false, []⟩,
              ⟨(some 96), (some (93, true)), (.p (.bin .eql (.t 95) (.c (.int .i64 0)))), false, []⟩,
              ⟨(some 97), none, (.p (.pick (.t 93) (.t 96) (.c (.bool false)))), false, []⟩,
              ⟨(some 10), none, (.p (.mv (.t 97))), false, []⟩] (some ⟨[10], [], false⟩))
            .ret)
           .skip))
         (.seq
          (.region 0 [⟨(some 99), none, (.p (.mv (.t 13))), false, []⟩,
            ⟨(some 100), none, (.p (.mv (.t 14))), false, []⟩,
            ⟨(some 101), none, (.p (.mv (.t 15))), false, []⟩,
            ⟨(some 102), none, (.call 27 [(.t 99), (.t 100), (.t 101)] false), false, []⟩,
            ⟨(some 98), none, (.p (.mv (.t 102))), false, []⟩,
            ⟨(some 103), none, (.p (.ext (.t 98) 0)), false, []⟩,
            ⟨(some 104), none, (.p (.ext (.t 98) 1)), false, []⟩,
            ⟨(some 17), none, (.p (.mv (.t 103))), false, []⟩,
            ⟨(some 18), none, (.p (.mv (.t 104))), false, []⟩] (some ⟨[0, 1, 4, 15, 17, 18], [], false⟩))
          (.seq
           (.region 0 [⟨(some 105), none, (.p (.mv (.t 0))), false, []⟩,
             ⟨(some 106), none, (.p (.convI .u64 (.t 105))), false, []⟩,
             ⟨(some 107), none, (.p (.mv (.t 1))), false, []⟩,
             ⟨(some 108), none, (.p (.convI .u64 (.t 107))), false, []⟩,
             ⟨(some 109), none, (.call 25 [(.t 106), (.t 108)] false), false, []⟩,
             ⟨(some 19), none, (.p (.mv (.t 109))), false, []⟩] (some ⟨[0, 1, 4, 15, 17, 18, 19], [], false⟩))
           (.seq
            (.region 46 [⟨(some 110), none, (.p (.mv (.t 15))), false, []⟩,
              ⟨(some 111), none, (.p (.len (.t 110))), false, []⟩,
              ⟨(some 112), none, (.p (.bin .gtr (.t 111) (.c (.int .i64 1472)))), false, []⟩,
              ⟨(some 113), none, (.p (.mv (.t 112))), false, []⟩,
              ⟨(some 114), (some (113, true)), (.p (.mv (.t 18))), false, []⟩,
              ⟨(some 115), (some (113, true)), (.p (.bin .eql (.t 114) (.c (.int .i64 14)))), false, []⟩,
              ⟨(some 116), none, (.p (.pick (.t 113) (.t 115) (.c (.bool false)))), false, []⟩,
              ⟨(some 117), none, (.p (.mv (.t 116))), false, []⟩,
              ⟨(some 118), (some (117, false)), (.p (.mv (.t 18))), false, []⟩,
              ⟨(some 119), (some (117, false)), (.p (.bin .eql (.t 118) (.c (.int .i64 0)))), false, []⟩,
              ⟨(some 120), (some (117, false)), (.p (.mv (.t 119))), false, []⟩,
              ⟨(some 121), (some (120, true)), (.p (.mv (.t 17))), false, []⟩,
              ⟨(some 122), (some (120, true)), (.p (.len (.t 121))), false, []⟩,
              ⟨(some 123), (some (120, true)), (.p (.mv (.t 4))), false, []⟩,
              ⟨(some 124), (some (120, true)), (.p (.len (.t 123))), false, []⟩,
              ⟨(some 125), (some (120, true)), (.p (.bin .leq (.t 122) (.t 124))), false, []⟩,
              ⟨(some 126), (some (117, false)), (.p (.pick (.t 120) (.t 125) (.c (.bool false)))), false, []⟩,
              ⟨(some 127), (some (117, false)), (.p (.mv (.t 126))), false, []⟩,
              ⟨(some 128), (some (127, true)), (.p (.mv (.t 17))), false, []⟩,
              ⟨(some 129), (some (127, true)), (.r (.b2s (.t 128))), false, []⟩,
              ⟨(some 130), (some (127, true)), (.p (.mv (.t 4))), false, []⟩,
              ⟨(some 131), (some (127, true)), (.p (.mv (.t 17))), false, []⟩,
              ⟨(some 132), (some (127, true)), (.p (.len (.t 131))), false, []⟩,
              ⟨(some 133), (some (127, true)), (.p (.slicev 1 (.t 130) none (some (.t 132)) none)), false, []⟩,
              ⟨(some 134), (some (127, true)), (.r (.b2s (.t 133))), false, []⟩,
              ⟨(some 135), (some (127, true)), (.p (.bin .eql (.t 129) (.t 134))), false, []⟩,
              ⟨(some 136), (some (117, false)), (.p (.pick (.t 127) (.t 135) (.c (.bool false)))), false, []⟩,
              ⟨(some 137), none, (.p (.pick (.t 117) (.c (.bool true)) (.t 136))), false, []⟩,
              ⟨(some 138), none, (.p (.mv (.t 137))), false, []⟩,
              ⟨(some 139), (some (138, true)), (.p (.mv (.t 19))), false, []⟩,
              ⟨(some 140), (some (138, true)), (.p (.mv (.t 1))), false, []⟩,
              ⟨(some 141), (some (138, true)), (.p (.convI .u64 (.t 140))), false, []⟩,
              ⟨(some 142), (some (138, true)), (.p (.mv (.t 0))), false, []⟩,
              ⟨(some 143), (some (138, true)), (.p (.convI .u64 (.t 142))), false, []⟩,
              ⟨(some 144), (some (138, true)), (.call 25 [(.t 141), (.t 143)] true), false, []⟩,
              ⟨(some 145), (some (138, true)), (.p (.bin .eql (.t 139) (.t 144))), false, []⟩,
              ⟨(some 146), none, (.p (.pick (.t 138) (.t 145) (.c (.bool false)))), false, []⟩,
              ⟨(some 147), none, (.p (.mv (.t 146))), false, []⟩,
              ⟨(some 148), (some (147, true)), (.p (.mv (.t 19))), false, []⟩,
              ⟨(some 149), (some (147, true)), (.p (.bin .geq (.t 148) (.c (.int .i64 49152)))), false, []⟩,
              ⟨(some 150), none, (.p (.pick (.t 147) (.t 149) (.c (.bool false)))), false, []⟩,
              ⟨(some 151), none, (.p (.mv (.t 150))), false, []⟩,
              ⟨(some 152), (some (151, true)), (.p (.mv (.t 19))), false, []⟩,
              ⟨(some 153), (some (151, true)), (.p (.bin .leq (.t 152) (.c (.int .i64 65535)))), false, []⟩,
              ⟨(some 154), none, (.p (.pick (.t 151) (.t 153) (.c (.bool false)))), false, []⟩,
              ⟨(some 10), none, (.p (.mv (.t 154))), false, []⟩] (some ⟨[10], [], true⟩))
            .ret)))))))))))
theorem Try.run9 {xs : List AV} {r : AV} (hl : xs.length ≤ 155) (h : aw Try.prog Try.c9 (Pv.Ends [10] r) (entry xs)) : Run Try.prog 9 xs r :=
  run_of (fun _ _ => drawOk Try.mixed) Try.func9 rfl rfl rfl (by kernel_rfl) (by kernel_rfl) hl h
/-! 10 paling/palinglaw07.Ipv4Takes : params [22], results [4], free 0, zeros [(.slice none 0 0)] -/
def Try.c10 : AC :=
 (.seq
  (.region 0 [⟨(some 2), none, (.p (.mv (.c (.bool false)))), false, []⟩] (some ⟨[0], [], false⟩))
  (.seq
   (.seq
    (.region 0 [⟨(some 7), none, (.p (.mv (.t 0))), false, []⟩,
      ⟨(some 8), none, (.p (.len (.t 7))), false, []⟩,
      ⟨(some 9), none, (.p (.bin .gtr (.t 8) (.c (.int .i64 4000)))), false, []⟩] (some ⟨[0, 9], [], false⟩))
    (.cond (.t 9)
     (.seq
      (.region 0 [⟨(some 10), none, (.call 29 [] false), false, []⟩,
        ⟨(some 2), none, (.p (.mv (.t 10))), false, []⟩] (some ⟨[2], [], false⟩))
      .ret)
     .skip))
   (.seq
    (.region 0 [⟨(some 12), none, (.p (.mv (.t 0))), false, []⟩,
      ⟨(some 13), none, (.call 30 [(.t 12)] false), false, []⟩,
      ⟨(some 11), none, (.p (.mv (.t 13))), false, []⟩,
      ⟨(some 14), none, (.p (.ext (.t 11) 0)), false, []⟩,
      ⟨(some 15), none, (.p (.ext (.t 11) 1)), false, []⟩,
      ⟨(some 3), none, (.e (.alloc 48 (.agg [(.int .i64 0), (.int .i64 0), (.int .i64 0), (.int .i64 0), (.int .u32 0), (.int .u32 0), (.sl 0 [] true)])) none), false, []⟩,
      ⟨none, none, (.e (.store 7 (.t 3) (.t 14)) none), false, []⟩,
      ⟨(some 4), none, (.p (.mv (.t 15))), false, []⟩] (some ⟨[0, 3, 4], [], false⟩))
    (.seq
     (.region 0 [⟨(some 17), none, (.p (.mv (.t 0))), false, []⟩,
       ⟨(some 18), none, (.call 31 [(.t 17)] false), false, []⟩,
       ⟨(some 16), none, (.p (.mv (.t 18))), false, []⟩,
       ⟨(some 19), none, (.p (.ext (.t 16) 0)), false, []⟩,
       ⟨(some 20), none, (.p (.ext (.t 16) 1)), false, []⟩,
       ⟨(some 5), none, (.e (.alloc 48 (.agg [(.int .i64 0), (.int .i64 0), (.int .i64 0), (.int .i64 0), (.int .u32 0), (.int .u32 0), (.sl 0 [] true)])) none), false, []⟩,
       ⟨none, none, (.e (.store 7 (.t 5) (.t 19)) none), false, []⟩,
       ⟨(some 6), none, (.p (.mv (.t 20))), false, []⟩] (some ⟨[3, 4, 5, 6], [], false⟩))
     (.seq
      (.region 0 [⟨(some 21), none, (.r (.load 7 true (.t 3))), false, []⟩,
        ⟨(some 22), none, (.r (.load 7 true (.t 5))), false, []⟩,
        ⟨(some 23), none, (.call 32 [(.t 21), (.t 22)] false), false, []⟩,
        ⟨(some 24), none, (.p (.mv (.t 23))), false, []⟩,
        ⟨(some 25), (some (24, true)), (.p (.mv (.t 4))), false, []⟩,
        ⟨(some 26), (some (24, true)), (.p (.mv (.t 6))), false, []⟩,
        ⟨(some 27), (some (24, true)), (.p (.bin .eql (.t 25) (.t 26))), false, []⟩,
        ⟨(some 28), none, (.p (.pick (.t 24) (.t 27) (.c (.bool false)))), false, []⟩,
        ⟨(some 29), none, (.p (.mv (.t 28))), false, []⟩,
        ⟨(some 30), (some (29, true)), (.call 29 [] false), false, []⟩,
        ⟨(some 31), none, (.p (.pick (.t 29) (.t 30) (.c (.bool false)))), false, []⟩,
        ⟨(some 2), none, (.p (.mv (.t 31))), false, []⟩] (some ⟨[2], [], false⟩))
      .ret)))))
theorem Try.run10 {xs : List AV} {r : AV} (hl : xs.length ≤ 32) (h : aw Try.prog Try.c10 (Pv.Ends [2] r) (entry xs)) : Run Try.prog 10 xs r :=
  run_of (fun _ _ => drawOk Try.mixed) Try.func10 rfl rfl rfl (by kernel_rfl) (by kernel_rfl) hl h
/-! 11 paling/palinglaw07.Ipv4Bits : params [48, 5, 5], results [4], free 0, zeros [(.agg #[(.int .i64 (0)), (.int .i64 (0)), (.int .i64 (0)), (.int .i64 (0)), (.int .u32 (0)), (.int .u32 (0)), (.slice none 0 0)]), (.int .u8 (0)), (.int .u8 (0))] -/
def Try.c11 : AC :=
 (.seq
  (.region 0 [⟨(some 3), none, (.e (.box 48 (.t 0)) none), false, []⟩,
    ⟨(some 6), none, (.p (.mv (.c (.bool false)))), false, []⟩] (some ⟨[1, 2, 3], [], false⟩))
  (.seq
   (.seq
    (.region 0 [⟨(some 11), none, (.call 29 [] false), false, []⟩,
      ⟨(some 12), none, (.p (.un .not (.t 11))), false, []⟩] (some ⟨[1, 2, 3, 12], [], false⟩))
    (.cond (.t 12)
     (.seq
      (.region 0 [⟨(some 6), none, (.p (.mv (.c (.bool false)))), false, []⟩] (some ⟨[6], [], false⟩))
      .ret)
     .skip))
   (.seq
    (.region 0 [⟨(some 14), none, (.r (.load 7 true (.t 3))), false, []⟩,
      ⟨(some 15), none, (.call 33 [(.t 14)] false), false, []⟩,
      ⟨(some 13), none, (.p (.mv (.t 15))), false, []⟩,
      ⟨(some 16), none, (.p (.ext (.t 13) 0)), false, []⟩,
      ⟨(some 17), none, (.p (.ext (.t 13) 1)), false, []⟩,
      ⟨(some 7), none, (.p (.mv (.t 16))), false, []⟩,
      ⟨(some 8), none, (.p (.mv (.t 17))), false, []⟩] (some ⟨[1, 2, 7, 8], [], false⟩))
    (.seq
     (.seq
      (.region 0 [⟨(some 18), none, (.p (.mv (.t 8))), false, []⟩,
        ⟨(some 19), none, (.p (.bin .neq (.t 18) (.c (.int .i64 0)))), false, []⟩,
        ⟨(some 20), none, (.p (.mv (.t 19))), false, []⟩,
        ⟨(some 21), (some (20, false)), (.p (.mv (.t 7))), false, []⟩,
        ⟨(some 22), (some (20, false)), (.p (.len (.t 21))), false, []⟩,
        ⟨(some 23), (some (20, false)), (.p (.bin .lss (.t 22) (.c (.int .i64 20)))), false, []⟩,
        ⟨(some 24), none, (.p (.pick (.t 20) (.c (.bool true)) (.t 23))), false, []⟩] (some ⟨[1, 2, 7, 8, 24], [], false⟩))
      (.cond (.t 24)
       (.seq
        (.region 0 [⟨(some 25), none, (.p (.mv (.t 8))), false, []⟩,
          ⟨(some 26), none, (.p (.bin .neq (.t 25) (.c (.int .i64 0)))), false, []⟩,
          ⟨(some 6), none, (.p (.mv (.t 26))), false, []⟩] (some ⟨[6], [], false⟩))
        .ret)
       .skip))
     (.seq
      (.region 0 [⟨(some 27), none, (.p (.mv (.t 7))), false, []⟩,
        ⟨(some 28), none, (.p (.mv (.t 1))), false, []⟩,
        ⟨(some 29), none, (.p (.bin .rem (.t 28) (.c (.int .u8 20)))), false, []⟩,
        ⟨(some 30), none, (.p (.iaddr 1 (.t 27) (.t 29))), false, []⟩,
        ⟨(some 31), none, (.r (.load 1 false (.t 30))), false, []⟩,
        ⟨(some 32), none, (.p (.mv (.t 2))), false, []⟩,
        ⟨(some 33), none, (.p (.bin .rem (.t 32) (.c (.int .u8 8)))), false, []⟩,
        ⟨(some 34), none, (.p (.bin .shl (.c (.int .u8 1)) (.t 33))), false, []⟩,
        ⟨(some 35), none, (.p (.bin .xor (.t 31) (.t 34))), false, []⟩,
        ⟨(some 36), none, (.p (.iaddr 1 (.t 27) (.t 29))), false, []⟩,
        ⟨none, none, (.e (.store 1 (.t 36) (.t 35)) none), false, []⟩] (some ⟨[7], [], false⟩))
      (.seq
       (.region 0 [⟨(some 38), none, (.p (.mv (.t 7))), false, []⟩,
         ⟨(some 39), none, (.call 30 [(.t 38)] false), false, []⟩,
         ⟨(some 37), none, (.p (.mv (.t 39))), false, []⟩,
         ⟨(some 40), none, (.p (.ext (.t 37) 0)), false, []⟩,
         ⟨(some 41), none, (.p (.ext (.t 37) 1)), false, []⟩,
         ⟨(some 9), none, (.e (.alloc 48 (.agg [(.int .i64 0), (.int .i64 0), (.int .i64 0), (.int .i64 0), (.int .u32 0), (.int .u32 0), (.sl 0 [] true)])) none), false, []⟩,
         ⟨none, none, (.e (.store 7 (.t 9) (.t 40)) none), false, []⟩,
         ⟨(some 10), none, (.p (.mv (.t 41))), false, []⟩] (some ⟨[10], [], false⟩))
       (.seq
        (.region 0 [⟨(some 42), none, (.p (.mv (.t 10))), false, []⟩,
          ⟨(some 43), none, (.p (.bin .eql (.t 42) (.c (.int .i64 11)))), false, []⟩,
          ⟨(some 44), none, (.p (.mv (.t 43))), false, []⟩,
          ⟨(some 45), (some (44, false)), (.p (.mv (.t 10))), false, []⟩,
          ⟨(some 46), (some (44, false)), (.p (.bin .eql (.t 45) (.c (.int .i64 10)))), false, []⟩,
          ⟨(some 47), none, (.p (.pick (.t 44) (.c (.bool true)) (.t 46))), false, []⟩,
          ⟨(some 48), none, (.p (.mv (.t 47))), false, []⟩,
          ⟨(some 49), (some (48, false)), (.p (.mv (.t 10))), false, []⟩,
          ⟨(some 50), (some (48, false)), (.p (.bin .eql (.t 49) (.c (.int .i64 12)))), false, []⟩,
          ⟨(some 51), none, (.p (.pick (.t 48) (.c (.bool true)) (.t 50))), false, []⟩,
          ⟨(some 6), none, (.p (.mv (.t 51))), false, []⟩] (some ⟨[6], [], false⟩))
        .ret)))))))
theorem Try.run11 {xs : List AV} {r : AV} (hl : xs.length ≤ 52) (h : aw Try.prog Try.c11 (Pv.Ends [6] r) (entry xs)) : Run Try.prog 11 xs r :=
  run_of (fun _ _ => drawOk Try.mixed) Try.func11 rfl rfl rfl (by kernel_rfl) (by kernel_rfl) hl h
/-! 12 paling/palinglaw07.Ipv4Back : params [48, 22, 22], results [4], free 0, zeros [(.agg #[(.int .i64 (0)), (.int .i64 (0)), (.int .i64 (0)), (.int .i64 (0)), (.int .u32 (0)), (.int .u32 (0)), (.slice none 0 0)]), (.slice none 0 0), (.slice none 0 0)] -/
def Try.c12 : AC :=
 (.seq
  (.region 0 [⟨(some 3), none, (.e (.box 48 (.t 0)) none), false, []⟩,
    ⟨(some 6), none, (.p (.mv (.c (.bool false)))), false, []⟩] (some ⟨[1, 2, 3], [], false⟩))
  (.seq
   (.seq
    (.region 0 [⟨(some 15), none, (.call 29 [] false), false, []⟩,
      ⟨(some 16), none, (.p (.un .not (.t 15))), false, []⟩] (some ⟨[1, 2, 3, 16], [], false⟩))
    (.cond (.t 16)
     (.seq
      (.region 0 [⟨(some 6), none, (.p (.mv (.c (.bool false)))), false, []⟩] (some ⟨[6], [], false⟩))
      .ret)
     .skip))
   (.seq
    (.seq
     (.region 0 [⟨(some 17), none, (.p (.faddr 6 (.t 3))), false, []⟩,
       ⟨(some 18), none, (.r (.load 1 false (.t 17))), false, []⟩,
       ⟨(some 19), none, (.p (.len (.t 18))), false, []⟩,
       ⟨(some 20), none, (.p (.bin .gtr (.t 19) (.c (.int .i64 4000)))), false, []⟩,
       ⟨(some 21), none, (.p (.mv (.t 20))), false, []⟩,
       ⟨(some 22), (some (21, false)), (.p (.mv (.t 1))), false, []⟩,
       ⟨(some 23), (some (21, false)), (.p (.len (.t 22))), false, []⟩,
       ⟨(some 24), (some (21, false)), (.p (.bin .gtr (.t 23) (.c (.int .i64 4000)))), false, []⟩,
       ⟨(some 25), none, (.p (.pick (.t 21) (.c (.bool true)) (.t 24))), false, []⟩,
       ⟨(some 26), none, (.p (.mv (.t 25))), false, []⟩,
       ⟨(some 27), (some (26, false)), (.p (.mv (.t 2))), false, []⟩,
       ⟨(some 28), (some (26, false)), (.p (.len (.t 27))), false, []⟩,
       ⟨(some 29), (some (26, false)), (.p (.bin .gtr (.t 28) (.c (.int .i64 4000)))), false, []⟩,
       ⟨(some 30), none, (.p (.pick (.t 26) (.c (.bool true)) (.t 29))), false, []⟩] (some ⟨[1, 2, 3, 30], [], false⟩))
     (.cond (.t 30)
      (.seq
       (.region 0 [⟨(some 6), none, (.p (.mv (.c (.bool true)))), false, []⟩] (some ⟨[6], [], false⟩))
       .ret)
      .skip))
    (.seq
     (.seq
      (.region 0 [⟨(some 32), none, (.r (.load 7 true (.t 3))), false, []⟩,
        ⟨(some 33), none, (.call 33 [(.t 32)] false), false, []⟩,
        ⟨(some 31), none, (.p (.mv (.t 33))), false, []⟩,
        ⟨(some 34), none, (.p (.ext (.t 31) 0)), false, []⟩,
        ⟨(some 35), none, (.p (.ext (.t 31) 1)), false, []⟩,
        ⟨(some 7), none, (.p (.mv (.t 34))), false, []⟩,
        ⟨(some 8), none, (.p (.mv (.t 35))), false, []⟩] (some ⟨[1, 2, 3, 7, 8], [], false⟩))
      (.seq
       (.region 0 [⟨(some 36), none, (.p (.mv (.t 8))), false, []⟩,
         ⟨(some 37), none, (.p (.bin .eql (.t 36) (.c (.int .i64 0)))), false, []⟩] (some ⟨[1, 2, 3, 7, 37], [], false⟩))
       (.cond (.t 37)
        (.seq
         (.region 0 [⟨(some 39), none, (.p (.mv (.t 7))), false, []⟩,
           ⟨(some 40), none, (.p (.mv (.t 1))), false, []⟩,
           ⟨(some 41), none, (.e (.append 5 1 (.t 39) (.t 40)) none), false, []⟩,
           ⟨(some 42), none, (.call 30 [(.t 41)] false), false, []⟩,
           ⟨(some 38), none, (.p (.mv (.t 42))), false, []⟩,
           ⟨(some 43), none, (.p (.ext (.t 38) 0)), false, []⟩,
           ⟨(some 44), none, (.p (.ext (.t 38) 1)), false, []⟩,
           ⟨(some 9), none, (.e (.alloc 48 (.agg [(.int .i64 0), (.int .i64 0), (.int .i64 0), (.int .i64 0), (.int .u32 0), (.int .u32 0), (.sl 0 [] true)])) none), false, []⟩,
           ⟨none, none, (.e (.store 7 (.t 9) (.t 43)) none), false, []⟩,
           ⟨(some 10), none, (.p (.mv (.t 44))), false, []⟩] (some ⟨[2, 3, 9, 10], [], false⟩))
         (.seq
          (.region 0 [⟨(some 45), none, (.p (.mv (.t 10))), false, []⟩,
            ⟨(some 46), none, (.p (.bin .neq (.t 45) (.c (.int .i64 0)))), false, []⟩,
            ⟨(some 47), none, (.p (.mv (.t 46))), false, []⟩,
            ⟨(some 48), (some (47, false)), (.r (.load 7 true (.t 3))), false, []⟩,
            ⟨(some 49), (some (47, false)), (.r (.load 7 true (.t 9))), false, []⟩,
            ⟨(some 50), (some (47, false)), (.call 34 [(.t 48), (.t 49)] false), false, []⟩,
            ⟨(some 51), (some (47, false)), (.p (.un .not (.t 50))), false, []⟩,
            ⟨(some 52), none, (.p (.pick (.t 47) (.c (.bool true)) (.t 51))), false, []⟩] (some ⟨[2, 52], [], false⟩))
          (.cond (.t 52)
           (.seq
            (.region 0 [⟨(some 6), none, (.p (.mv (.c (.bool false)))), false, []⟩] (some ⟨[6], [], false⟩))
            .ret)
           .skip)))
        .skip)))
     (.seq
      (.region 0 [⟨(some 54), none, (.p (.mv (.t 2))), false, []⟩,
        ⟨(some 55), none, (.call 30 [(.t 54)] false), false, []⟩,
        ⟨(some 53), none, (.p (.mv (.t 55))), false, []⟩,
        ⟨(some 56), none, (.p (.ext (.t 53) 0)), false, []⟩,
        ⟨(some 57), none, (.p (.ext (.t 53) 1)), false, []⟩,
        ⟨(some 11), none, (.e (.alloc 48 (.agg [(.int .i64 0), (.int .i64 0), (.int .i64 0), (.int .i64 0), (.int .u32 0), (.int .u32 0), (.sl 0 [] true)])) none), false, []⟩,
        ⟨none, none, (.e (.store 7 (.t 11) (.t 56)) none), false, []⟩,
        ⟨(some 12), none, (.p (.mv (.t 57))), false, []⟩] (some ⟨[2, 11, 12], [], false⟩))
      (.seq
       (.seq
        (.region 0 [⟨(some 58), none, (.p (.mv (.t 12))), false, []⟩,
          ⟨(some 59), none, (.p (.bin .neq (.t 58) (.c (.int .i64 0)))), false, []⟩] (some ⟨[2, 11, 59], [], false⟩))
        (.cond (.t 59)
         (.seq
          (.region 0 [⟨(some 60), none, (.r (.load 7 true (.t 11))), false, []⟩,
            ⟨(some 61), none, (.p (.build [(.int .i64 0), (.int .i64 0), (.int .i64 0), (.int .i64 0), (.int .u32 0), (.int .u32 0), (.sl 0 [] true)] [])), false, []⟩,
            ⟨(some 62), none, (.call 34 [(.t 60), (.t 61)] false), false, []⟩,
            ⟨(some 6), none, (.p (.mv (.t 62))), false, []⟩] (some ⟨[6], [], false⟩))
          .ret)
         .skip))
       (.seq
        (.region 0 [⟨(some 64), none, (.r (.load 7 true (.t 11))), false, []⟩,
          ⟨(some 65), none, (.call 33 [(.t 64)] false), false, []⟩,
          ⟨(some 63), none, (.p (.mv (.t 65))), false, []⟩,
          ⟨(some 66), none, (.p (.ext (.t 63) 0)), false, []⟩,
          ⟨(some 67), none, (.p (.ext (.t 63) 1)), false, []⟩,
          ⟨(some 13), none, (.p (.mv (.t 66))), false, []⟩,
          ⟨(some 14), none, (.p (.mv (.t 67))), false, []⟩] (some ⟨[2, 11, 13, 14], [], false⟩))
        (.seq
         (.seq
          (.region 0 [⟨(some 68), none, (.p (.faddr 6 (.t 11))), false, []⟩,
            ⟨(some 69), none, (.r (.load 1 false (.t 68))), false, []⟩,
            ⟨(some 70), none, (.p (.len (.t 69))), false, []⟩,
            ⟨(some 71), none, (.p (.bin .gtr (.t 70) (.c (.int .i64 1480)))), false, []⟩] (some ⟨[2, 13, 14, 71], [], false⟩))
          (.cond (.t 71)
           (.seq
            (.region 0 [⟨(some 72), none, (.p (.mv (.t 14))), false, []⟩,
              ⟨(some 73), none, (.p (.bin .eql (.t 72) (.c (.int .i64 14)))), false, []⟩,
              ⟨(some 6), none, (.p (.mv (.t 73))), false, []⟩] (some ⟨[6], [], false⟩))
            .ret)
           .skip))
         (.seq
          (.region 40 [⟨(some 74), none, (.p (.mv (.t 14))), false, []⟩,
            ⟨(some 75), none, (.p (.bin .eql (.t 74) (.c (.int .i64 0)))), false, []⟩,
            ⟨(some 76), none, (.p (.mv (.t 75))), false, []⟩,
            ⟨(some 77), (some (76, true)), (.p (.mv (.t 13))), false, []⟩,
            ⟨(some 78), (some (76, true)), (.p (.len (.t 77))), false, []⟩,
            ⟨(some 79), (some (76, true)), (.p (.bin .geq (.t 78) (.c (.int .i64 20)))), false, []⟩,
            ⟨(some 80), none, (.p (.pick (.t 76) (.t 79) (.c (.bool false)))), false, []⟩,
            ⟨(some 81), none, (.p (.mv (.t 80))), false, []⟩,
            ⟨(some 82), (some (81, true)), (.p (.mv (.t 13))), false, []⟩,
            ⟨(some 83), (some (81, true)), (.p (.len (.t 82))), false, []⟩,
            ⟨(some 84), (some (81, true)), (.p (.mv (.t 2))), false, []⟩,
            ⟨(some 85), (some (81, true)), (.p (.len (.t 84))), false, []⟩,
            ⟨(some 86), (some (81, true)), (.p (.bin .leq (.t 83) (.t 85))), false, []⟩,
            ⟨(some 87), none, (.p (.pick (.t 81) (.t 86) (.c (.bool false)))), false, []⟩,
            ⟨(some 88), none, (.p (.mv (.t 87))), false, []⟩,
            ⟨(some 89), (some (88, true)), (.p (.mv (.t 13))), false, []⟩,
            ⟨(some 90), (some (88, true)), (.r (.b2s (.t 89))), false, []⟩,
            ⟨(some 91), (some (88, true)), (.p (.mv (.t 2))), false, []⟩,
            ⟨(some 92), (some (88, true)), (.p (.mv (.t 13))), false, []⟩,
            ⟨(some 93), (some (88, true)), (.p (.len (.t 92))), false, []⟩,
            ⟨(some 94), (some (88, true)), (.p (.slicev 1 (.t 91) none (some (.t 93)) none)), false, []⟩,
            ⟨(some 95), (some (88, true)), (.r (.b2s (.t 94))), false, []⟩,
            ⟨(some 96), (some (88, true)), (.p (.bin .eql (.t 90) (.t 95))), false, []⟩,
            ⟨(some 97), (some (88, true)), (.p (.mv (.t 96))), false, []⟩,
            ⟨(some 98), (some (97, false)), (.p (.mv (.t 2))), false, []⟩,
            ⟨(some 99), (some (97, false)), (.p (.iaddr 1 (.t 98) (.c (.int .i64 10)))), false, []⟩,
            ⟨(some 100), (some (97, false)), (.r (.load 1 false (.t 99))), false, []⟩,
            ⟨(some 101), (some (97, false)), (.p (.mv (.t 2))), false, []⟩,
            ⟨(some 102), (some (97, false)), (.p (.iaddr 1 (.t 101) (.c (.int .i64 11)))), false, []⟩,
            ⟨(some 103), (some (97, false)), (.r (.load 1 false (.t 102))), false, []⟩,
            ⟨(some 104), (some (97, false)), (.p (.mv (.t 13))), false, []⟩,
            ⟨(some 105), (some (97, false)), (.p (.iaddr 1 (.t 104) (.c (.int .i64 10)))), false, []⟩,
            ⟨(some 106), (some (97, false)), (.r (.load 1 false (.t 105))), false, []⟩,
            ⟨(some 107), (some (97, false)), (.p (.mv (.t 13))), false, []⟩,
            ⟨(some 108), (some (97, false)), (.p (.iaddr 1 (.t 107) (.c (.int .i64 11)))), false, []⟩,
            ⟨(some 109), (some (97, false)), (.r (.load 1 false (.t 108))), false, []⟩,
            ⟨(some 110), (some (97, false)), (.call 35 [(.t 100), (.t 103), (.t 106), (.t 109)] true), false, []⟩,
            ⟨(some 111), (some (88, true)), (.p (.pick (.t 97) (.c (.bool true)) (.t 110))), false, []⟩,
            ⟨(some 112), none, (.p (.pick (.t 88) (.t 111) (.c (.bool false)))), false, []⟩,
            ⟨(some 6), none, (.p (.mv (.t 112))), false, []⟩] (some ⟨[6], [], true⟩))
          .ret)))))))))
theorem Try.run12 {xs : List AV} {r : AV} (hl : xs.length ≤ 113) (h : aw Try.prog Try.c12 (Pv.Ends [6] r) (entry xs)) : Run Try.prog 12 xs r :=
  run_of (fun _ _ => drawOk Try.mixed) Try.func12 rfl rfl rfl (by kernel_rfl) (by kernel_rfl) hl h
/-! 13 paling/palinglaw07.Ipv4Puts : params [48, 48], results [4], free 0, zeros [(.agg #[(.int .i64 (0)), (.int .i64 (0)), (.int .i64 (0)), (.int .i64 (0)), (.int .u32 (0)), (.int .u32 (0)), (.slice none 0 0)]), (.agg #[(.int .i64 (0)), (.int .i64 (0)), (.int .i64 (0)), (.int .i64 (0)), (.int .u32 (0)), (.int .u32 (0)), (.slice none 0 0)])] -/
def Try.c13 : AC :=
 (.seq
  (.region 0 [⟨(some 2), none, (.e (.box 48 (.t 0)) none), false, []⟩,
    ⟨(some 3), none, (.e (.box 48 (.t 1)) none), false, []⟩,
    ⟨(some 4), none, (.p (.mv (.c (.bool false)))), false, []⟩] (some ⟨[2, 3], [], false⟩))
  (.seq
   (.seq
    (.region 0 [⟨(some 13), none, (.p (.faddr 6 (.t 2))), false, []⟩,
      ⟨(some 14), none, (.r (.load 1 false (.t 13))), false, []⟩,
      ⟨(some 15), none, (.p (.len (.t 14))), false, []⟩,
      ⟨(some 16), none, (.p (.bin .gtr (.t 15) (.c (.int .i64 4000)))), false, []⟩,
      ⟨(some 17), none, (.p (.mv (.t 16))), false, []⟩,
      ⟨(some 18), (some (17, false)), (.p (.faddr 6 (.t 3))), false, []⟩,
      ⟨(some 19), (some (17, false)), (.r (.load 1 false (.t 18))), false, []⟩,
      ⟨(some 20), (some (17, false)), (.p (.len (.t 19))), false, []⟩,
      ⟨(some 21), (some (17, false)), (.p (.bin .gtr (.t 20) (.c (.int .i64 4000)))), false, []⟩,
      ⟨(some 22), none, (.p (.pick (.t 17) (.c (.bool true)) (.t 21))), false, []⟩] (some ⟨[2, 3, 22], [], false⟩))
    (.cond (.t 22)
     (.seq
      (.region 0 [⟨(some 23), none, (.call 29 [] false), false, []⟩,
        ⟨(some 4), none, (.p (.mv (.t 23))), false, []⟩] (some ⟨[4], [], false⟩))
      .ret)
     .skip))
   (.seq
    (.region 0 [⟨(some 25), none, (.r (.load 7 true (.t 2))), false, []⟩,
      ⟨(some 26), none, (.call 33 [(.t 25)] false), false, []⟩,
      ⟨(some 24), none, (.p (.mv (.t 26))), false, []⟩,
      ⟨(some 27), none, (.p (.ext (.t 24) 0)), false, []⟩,
      ⟨(some 28), none, (.p (.ext (.t 24) 1)), false, []⟩,
      ⟨(some 5), none, (.p (.mv (.t 27))), false, []⟩,
      ⟨(some 6), none, (.p (.mv (.t 28))), false, []⟩] (some ⟨[2, 3, 5, 6], [], false⟩))
    (.seq
     (.region 0 [⟨(some 30), none, (.r (.load 7 true (.t 2))), false, []⟩,
       ⟨(some 31), none, (.call 36 [(.t 30)] false), false, []⟩,
       ⟨(some 29), none, (.p (.mv (.t 31))), false, []⟩,
       ⟨(some 32), none, (.p (.ext (.t 29) 0)), false, []⟩,
       ⟨(some 33), none, (.p (.ext (.t 29) 1)), false, []⟩,
       ⟨(some 7), none, (.p (.mv (.t 32))), false, []⟩,
       ⟨(some 8), none, (.p (.mv (.t 33))), false, []⟩] (some ⟨[2, 3, 5, 6, 7, 8], [], false⟩))
     (.seq
      (.region 0 [⟨(some 35), none, (.r (.load 7 true (.t 2))), false, []⟩,
        ⟨(some 36), none, (.call 37 [(.t 35)] false), false, []⟩,
        ⟨(some 34), none, (.p (.mv (.t 36))), false, []⟩,
        ⟨(some 37), none, (.p (.ext (.t 34) 0)), false, []⟩,
        ⟨(some 38), none, (.p (.ext (.t 34) 1)), false, []⟩,
        ⟨(some 9), none, (.e (.alloc 48 (.agg [(.int .i64 0), (.int .i64 0), (.int .i64 0), (.int .i64 0), (.int .u32 0), (.int .u32 0), (.sl 0 [] true)])) none), false, []⟩,
        ⟨none, none, (.e (.store 7 (.t 9) (.t 37)) none), false, []⟩,
        ⟨(some 10), none, (.p (.mv (.t 38))), false, []⟩] (some ⟨[2, 3, 5, 6, 7, 8, 9, 10], [], false⟩))
      (.seq
       (.region 0 [⟨(some 40), none, (.r (.load 7 true (.t 2))), false, []⟩,
         ⟨(some 41), none, (.call 38 [(.t 40)] false), false, []⟩,
         ⟨(some 39), none, (.p (.mv (.t 41))), false, []⟩,
         ⟨(some 42), none, (.p (.ext (.t 39) 0)), false, []⟩,
         ⟨(some 43), none, (.p (.ext (.t 39) 1)), false, []⟩,
         ⟨(some 11), none, (.e (.alloc 48 (.agg [(.int .i64 0), (.int .i64 0), (.int .i64 0), (.int .i64 0), (.int .u32 0), (.int .u32 0), (.sl 0 [] true)])) none), false, []⟩,
         ⟨none, none, (.e (.store 7 (.t 11) (.t 42)) none), false, []⟩,
         ⟨(some 12), none, (.p (.mv (.t 43))), false, []⟩] (some ⟨[2, 3, 5, 6, 7, 8, 9, 10, 11, 12], [], false⟩))
       (.seq
        (.region 33 [⟨(some 44), none, (.p (.mv (.t 5))), false, []⟩,
          ⟨(some 45), none, (.r (.b2s (.t 44))), false, []⟩,
          ⟨(some 46), none, (.p (.mv (.t 7))), false, []⟩,
          ⟨(some 47), none, (.r (.b2s (.t 46))), false, []⟩,
          ⟨(some 48), none, (.p (.bin .eql (.t 45) (.t 47))), false, []⟩,
          ⟨(some 49), none, (.p (.mv (.t 48))), false, []⟩,
          ⟨(some 50), (some (49, true)), (.p (.mv (.t 6))), false, []⟩,
          ⟨(some 51), (some (49, true)), (.p (.mv (.t 8))), false, []⟩,
          ⟨(some 52), (some (49, true)), (.p (.bin .eql (.t 50) (.t 51))), false, []⟩,
          ⟨(some 53), none, (.p (.pick (.t 49) (.t 52) (.c (.bool false)))), false, []⟩,
          ⟨(some 54), none, (.p (.mv (.t 53))), false, []⟩,
          ⟨(some 55), (some (54, true)), (.r (.load 7 true (.t 9))), false, []⟩,
          ⟨(some 56), (some (54, true)), (.r (.load 7 true (.t 11))), false, []⟩,
          ⟨(some 57), (some (54, true)), (.call 32 [(.t 55), (.t 56)] true), false, []⟩,
          ⟨(some 58), none, (.p (.pick (.t 54) (.t 57) (.c (.bool false)))), false, []⟩,
          ⟨(some 59), none, (.p (.mv (.t 58))), false, []⟩,
          ⟨(some 60), (some (59, true)), (.p (.mv (.t 10))), false, []⟩,
          ⟨(some 61), (some (59, true)), (.p (.mv (.t 12))), false, []⟩,
          ⟨(some 62), (some (59, true)), (.p (.bin .eql (.t 60) (.t 61))), false, []⟩,
          ⟨(some 63), none, (.p (.pick (.t 59) (.t 62) (.c (.bool false)))), false, []⟩,
          ⟨(some 64), none, (.p (.mv (.t 63))), false, []⟩,
          ⟨(some 65), (some (64, true)), (.r (.load 7 true (.t 2))), false, []⟩,
          ⟨(some 66), (some (64, true)), (.r (.load 7 true (.t 3))), false, []⟩,
          ⟨(some 68), (some (64, true)), (.r (.load 7 true (.t 2))), false, []⟩,
          ⟨(some 69), (some (64, true)), (.r (.load 7 true (.t 3))), false, []⟩,
          ⟨(some 67), (some (64, true)), (.call 34 [(.t 65), (.t 66)] true), false, []⟩,
          ⟨(some 70), (some (64, true)), (.call 32 [(.t 68), (.t 69)] true), false, []⟩,
          ⟨(some 71), (some (64, true)), (.p (.binB .eql (.t 67) (.t 70))), false, []⟩,
          ⟨(some 72), none, (.p (.pick (.t 64) (.t 71) (.c (.bool false)))), false, []⟩,
          ⟨(some 73), none, (.p (.mv (.t 72))), false, []⟩,
          ⟨(some 74), (some (73, true)), (.call 29 [] true), false, []⟩,
          ⟨(some 75), none, (.p (.pick (.t 73) (.t 74) (.c (.bool false)))), false, []⟩,
          ⟨(some 4), none, (.p (.mv (.t 75))), false, []⟩] (some ⟨[4], [], true⟩))
        .ret)))))))
theorem Try.run13 {xs : List AV} {r : AV} (hl : xs.length ≤ 76) (h : aw Try.prog Try.c13 (Pv.Ends [4] r) (entry xs)) : Run Try.prog 13 xs r :=
  run_of (fun _ _ => drawOk Try.mixed) Try.func13 rfl rfl rfl (by kernel_rfl) (by kernel_rfl) hl h
/-! 14 paling/palinglaw07.Ipv4Hops : params [48], results [4], free 0, zeros [(.agg #[(.int .i64 (0)), (.int .i64 (0)), (.int .i64 (0)), (.int .i64 (0)), (.int .u32 (0)), (.int .u32 (0)), (.slice none 0 0)])] -/
def Try.c14 : AC :=
 (.seq
  (.region 0 [⟨(some 1), none, (.e (.box 48 (.t 0)) none), false, []⟩,
    ⟨(some 2), none, (.p (.mv (.c (.bool false)))), false, []⟩] (some ⟨[1], [], false⟩))
  (.seq
   (.seq
    (.region 0 [⟨(some 11), none, (.call 29 [] false), false, []⟩,
      ⟨(some 12), none, (.p (.un .not (.t 11))), false, []⟩] (some ⟨[1, 12], [], false⟩))
    (.cond (.t 12)
     (.seq
      (.region 0 [⟨(some 2), none, (.p (.mv (.c (.bool false)))), false, []⟩] (some ⟨[2], [], false⟩))
      .ret)
     .skip))
   (.seq
    (.region 0 [⟨(some 14), none, (.r (.load 7 true (.t 1))), false, []⟩,
      ⟨(some 15), none, (.call 33 [(.t 14)] false), false, []⟩,
      ⟨(some 13), none, (.p (.mv (.t 15))), false, []⟩,
      ⟨(some 16), none, (.p (.ext (.t 13) 0)), false, []⟩,
      ⟨(some 17), none, (.p (.ext (.t 13) 1)), false, []⟩,
      ⟨(some 3), none, (.p (.mv (.t 16))), false, []⟩,
      ⟨(some 4), none, (.p (.mv (.t 17))), false, []⟩] (some ⟨[1, 3, 4], [], false⟩))
    (.seq
     (.region 0 [⟨(some 19), none, (.r (.load 7 true (.t 1))), false, []⟩,
       ⟨(some 20), none, (.call 37 [(.t 19)] false), false, []⟩,
       ⟨(some 18), none, (.p (.mv (.t 20))), false, []⟩,
       ⟨(some 21), none, (.p (.ext (.t 18) 0)), false, []⟩,
       ⟨(some 22), none, (.p (.ext (.t 18) 1)), false, []⟩,
       ⟨(some 5), none, (.e (.alloc 48 (.agg [(.int .i64 0), (.int .i64 0), (.int .i64 0), (.int .i64 0), (.int .u32 0), (.int .u32 0), (.sl 0 [] true)])) none), false, []⟩,
       ⟨none, none, (.e (.store 7 (.t 5) (.t 21)) none), false, []⟩,
       ⟨(some 6), none, (.p (.mv (.t 22))), false, []⟩] (some ⟨[1, 3, 4, 5, 6], [], false⟩))
     (.seq
      (.seq
       (.region 0 [⟨(some 23), none, (.p (.mv (.t 4))), false, []⟩,
         ⟨(some 24), none, (.p (.bin .neq (.t 23) (.c (.int .i64 0)))), false, []⟩] (some ⟨[1, 3, 5, 6, 24], [], false⟩))
       (.cond (.t 24)
        (.seq
         (.region 0 [⟨(some 2), none, (.p (.mv (.c (.bool true)))), false, []⟩] (some ⟨[2], [], false⟩))
         .ret)
        .skip))
      (.seq
       (.seq
        (.region 0 [⟨(some 25), none, (.p (.mv (.t 6))), false, []⟩,
          ⟨(some 26), none, (.p (.bin .neq (.t 25) (.c (.int .i64 0)))), false, []⟩] (some ⟨[1, 3, 5, 6, 26], [], false⟩))
        (.cond (.t 26)
         (.seq
          (.region 0 [⟨(some 27), none, (.p (.mv (.t 6))), false, []⟩,
            ⟨(some 28), none, (.p (.bin .eql (.t 27) (.c (.int .i64 13)))), false, []⟩,
            ⟨(some 29), none, (.p (.mv (.t 28))), false, []⟩,
            ⟨(some 30), (some (29, true)), (.p (.faddr 2 (.t 1))), false, []⟩,
            ⟨(some 31), (some (29, true)), (.r (.load 1 false (.t 30))), false, []⟩,
            ⟨(some 32), (some (29, true)), (.p (.bin .leq (.t 31) (.c (.int .i64 1)))), false, []⟩,
            ⟨(some 33), none, (.p (.pick (.t 29) (.t 32) (.c (.bool false)))), false, []⟩,
            ⟨(some 2), none, (.p (.mv (.t 33))), false, []⟩] (some ⟨[2], [], false⟩))
          .ret)
         .skip))
       (.seq
        (.region 0 [⟨(some 35), none, (.r (.load 7 true (.t 5))), false, []⟩,
          ⟨(some 36), none, (.call 33 [(.t 35)] false), false, []⟩,
          ⟨(some 34), none, (.p (.mv (.t 36))), false, []⟩,
          ⟨(some 37), none, (.p (.ext (.t 34) 0)), false, []⟩,
          ⟨(some 38), none, (.p (.ext (.t 34) 1)), false, []⟩,
          ⟨(some 7), none, (.p (.mv (.t 37))), false, []⟩,
          ⟨(some 8), none, (.p (.mv (.t 38))), false, []⟩] (some ⟨[1, 3, 7, 8], [], false⟩))
        (.seq
         (.seq
          (.region 0 [⟨(some 39), none, (.p (.mv (.t 8))), false, []⟩,
            ⟨(some 40), none, (.p (.bin .neq (.t 39) (.c (.int .i64 0)))), false, []⟩,
            ⟨(some 41), none, (.p (.mv (.t 40))), false, []⟩,
            ⟨(some 42), (some (41, false)), (.p (.mv (.t 3))), false, []⟩,
            ⟨(some 43), (some (41, false)), (.p (.len (.t 42))), false, []⟩,
            ⟨(some 44), (some (41, false)), (.p (.mv (.t 7))), false, []⟩,
            ⟨(some 45), (some (41, false)), (.p (.len (.t 44))), false, []⟩,
            ⟨(some 46), (some (41, false)), (.p (.bin .neq (.t 43) (.t 45))), false, []⟩,
            ⟨(some 47), none, (.p (.pick (.t 41) (.c (.bool true)) (.t 46))), false, []⟩,
            ⟨(some 48), none, (.p (.mv (.t 47))), false, []⟩,
            ⟨(some 49), (some (48, false)), (.p (.mv (.t 3))), false, []⟩,
            ⟨(some 50), (some (48, false)), (.p (.len (.t 49))), false, []⟩,
            ⟨(some 51), (some (48, false)), (.p (.bin .lss (.t 50) (.c (.int .i64 20)))), false, []⟩,
            ⟨(some 52), none, (.p (.pick (.t 48) (.c (.bool true)) (.t 51))), false, []⟩,
            ⟨(some 53), none, (.p (.mv (.t 52))), false, []⟩,
            ⟨(some 54), (some (53, false)), (.p (.faddr 2 (.t 1))), false, []⟩,
            ⟨(some 55), (some (53, false)), (.r (.load 1 false (.t 54))), false, []⟩,
            ⟨(some 56), (some (53, false)), (.p (.bin .leq (.t 55) (.c (.int .i64 1)))), false, []⟩,
            ⟨(some 57), none, (.p (.pick (.t 53) (.c (.bool true)) (.t 56))), false, []⟩] (some ⟨[3, 7, 57], [], false⟩))
          (.cond (.t 57)
           (.seq
            (.region 0 [⟨(some 2), none, (.p (.mv (.c (.bool false)))), false, []⟩] (some ⟨[2], [], false⟩))
            .ret)
           .skip))
         (.seq
          (.region 22 [⟨(some 58), none, (.p (.mv (.t 3))), false, []⟩,
            ⟨(some 59), none, (.p (.iaddr 1 (.t 58) (.c (.int .i64 8)))), false, []⟩,
            ⟨(some 60), none, (.r (.load 1 false (.t 59))), false, []⟩,
            ⟨(some 61), none, (.p (.convI .i64 (.t 60))), false, []⟩,
            ⟨(some 62), none, (.p (.bin .shl (.t 61) (.c (.int .u64 8)))), false, []⟩,
            ⟨(some 63), none, (.p (.mv (.t 3))), false, []⟩,
            ⟨(some 64), none, (.p (.iaddr 1 (.t 63) (.c (.int .i64 9)))), false, []⟩,
            ⟨(some 65), none, (.r (.load 1 false (.t 64))), false, []⟩,
            ⟨(some 66), none, (.p (.convI .i64 (.t 65))), false, []⟩,
            ⟨(some 67), none, (.p (.bin .or (.t 62) (.t 66))), false, []⟩,
            ⟨(some 68), none, (.p (.mv (.t 7))), false, []⟩,
            ⟨(some 69), none, (.p (.iaddr 1 (.t 68) (.c (.int .i64 8)))), false, []⟩,
            ⟨(some 70), none, (.r (.load 1 false (.t 69))), false, []⟩,
            ⟨(some 71), none, (.p (.convI .i64 (.t 70))), false, []⟩,
            ⟨(some 72), none, (.p (.bin .shl (.t 71) (.c (.int .u64 8)))), false, []⟩,
            ⟨(some 73), none, (.p (.mv (.t 7))), false, []⟩,
            ⟨(some 74), none, (.p (.iaddr 1 (.t 73) (.c (.int .i64 9)))), false, []⟩,
            ⟨(some 75), none, (.r (.load 1 false (.t 74))), false, []⟩,
            ⟨(some 76), none, (.p (.convI .i64 (.t 75))), false, []⟩,
            ⟨(some 77), none, (.p (.bin .or (.t 72) (.t 76))), false, []⟩,
            ⟨(some 9), none, (.p (.mv (.t 67))), false, []⟩,
            ⟨(some 10), none, (.p (.mv (.t 77))), false, []⟩] (some ⟨[3, 7, 9, 10], [], true⟩))
          (.seq
           (.region 49 [⟨(some 78), none, (.p (.mv (.t 9))), false, []⟩,
             ⟨(some 79), none, (.p (.mv (.t 10))), false, []⟩,
             ⟨(some 80), none, (.p (.bin .sub (.t 78) (.t 79))), false, []⟩,
             ⟨(some 81), none, (.p (.bin .eql (.t 80) (.c (.int .i64 256)))), false, []⟩,
             ⟨(some 82), none, (.p (.mv (.t 81))), false, []⟩,
             ⟨(some 83), (some (82, true)), (.p (.mv (.t 3))), false, []⟩,
             ⟨(some 84), (some (82, true)), (.p (.iaddr 1 (.t 83) (.c (.int .i64 10)))), false, []⟩,
             ⟨(some 85), (some (82, true)), (.r (.load 1 false (.t 84))), false, []⟩,
             ⟨(some 86), (some (82, true)), (.p (.convI .i64 (.t 85))), false, []⟩,
             ⟨(some 87), (some (82, true)), (.p (.bin .shl (.t 86) (.c (.int .u64 8)))), false, []⟩,
             ⟨(some 88), (some (82, true)), (.p (.mv (.t 3))), false, []⟩,
             ⟨(some 89), (some (82, true)), (.p (.iaddr 1 (.t 88) (.c (.int .i64 11)))), false, []⟩,
             ⟨(some 90), (some (82, true)), (.r (.load 1 false (.t 89))), false, []⟩,
             ⟨(some 91), (some (82, true)), (.p (.convI .i64 (.t 90))), false, []⟩,
             ⟨(some 92), (some (82, true)), (.p (.bin .or (.t 87) (.t 91))), false, []⟩,
             ⟨(some 93), (some (82, true)), (.p (.mv (.t 9))), false, []⟩,
             ⟨(some 94), (some (82, true)), (.p (.mv (.t 10))), false, []⟩,
             ⟨(some 96), (some (82, true)), (.p (.mv (.t 7))), false, []⟩,
             ⟨(some 97), (some (82, true)), (.p (.iaddr 1 (.t 96) (.c (.int .i64 10)))), false, []⟩,
             ⟨(some 98), (some (82, true)), (.r (.load 1 false (.t 97))), false, []⟩,
             ⟨(some 99), (some (82, true)), (.p (.convI .i64 (.t 98))), false, []⟩,
             ⟨(some 100), (some (82, true)), (.p (.bin .shl (.t 99) (.c (.int .u64 8)))), false, []⟩,
             ⟨(some 101), (some (82, true)), (.p (.mv (.t 7))), false, []⟩,
             ⟨(some 102), (some (82, true)), (.p (.iaddr 1 (.t 101) (.c (.int .i64 11)))), false, []⟩,
             ⟨(some 103), (some (82, true)), (.r (.load 1 false (.t 102))), false, []⟩,
             ⟨(some 104), (some (82, true)), (.p (.convI .i64 (.t 103))), false, []⟩,
             ⟨(some 105), (some (82, true)), (.p (.bin .or (.t 100) (.t 104))), false, []⟩,
             ⟨(some 95), (some (82, true)), (.call 20 [(.t 92), (.t 93), (.t 94)] true), false, []⟩,
             ⟨(some 106), (some (82, true)), (.p (.bin .eql (.t 95) (.t 105))), false, []⟩,
             ⟨(some 107), none, (.p (.pick (.t 82) (.t 106) (.c (.bool false)))), false, []⟩,
             ⟨(some 108), none, (.p (.mv (.t 107))), false, []⟩,
             ⟨(some 109), (some (108, true)), (.p (.mv (.t 3))), false, []⟩,
             ⟨(some 110), (some (108, true)), (.p (.slicev 1 (.t 109) none (some (.c (.int .i64 8))) none)), false, []⟩,
             ⟨(some 111), (some (108, true)), (.r (.b2s (.t 110))), false, []⟩,
             ⟨(some 112), (some (108, true)), (.p (.mv (.t 7))), false, []⟩,
             ⟨(some 113), (some (108, true)), (.p (.slicev 1 (.t 112) none (some (.c (.int .i64 8))) none)), false, []⟩,
             ⟨(some 114), (some (108, true)), (.r (.b2s (.t 113))), false, []⟩,
             ⟨(some 115), (some (108, true)), (.p (.bin .eql (.t 111) (.t 114))), false, []⟩,
             ⟨(some 116), none, (.p (.pick (.t 108) (.t 115) (.c (.bool false)))), false, []⟩,
             ⟨(some 117), none, (.p (.mv (.t 116))), false, []⟩,
             ⟨(some 118), (some (117, true)), (.p (.mv (.t 3))), false, []⟩,
             ⟨(some 119), (some (117, true)), (.p (.slicev 1 (.t 118) (some (.c (.int .i64 12))) none none)), false, []⟩,
             ⟨(some 120), (some (117, true)), (.r (.b2s (.t 119))), false, []⟩,
             ⟨(some 121), (some (117, true)), (.p (.mv (.t 7))), false, []⟩,
             ⟨(some 122), (some (117, true)), (.p (.slicev 1 (.t 121) (some (.c (.int .i64 12))) none none)), false, []⟩,
             ⟨(some 123), (some (117, true)), (.r (.b2s (.t 122))), false, []⟩,
             ⟨(some 124), (some (117, true)), (.p (.bin .eql (.t 120) (.t 123))), false, []⟩,
             ⟨(some 125), none, (.p (.pick (.t 117) (.t 124) (.c (.bool false)))), false, []⟩,
             ⟨(some 2), none, (.p (.mv (.t 125))), false, []⟩] (some ⟨[2], [], true⟩))
           .ret))))))))))
theorem Try.run14 {xs : List AV} {r : AV} (hl : xs.length ≤ 126) (h : aw Try.prog Try.c14 (Pv.Ends [2] r) (entry xs)) : Run Try.prog 14 xs r :=
  run_of (fun _ _ => drawOk Try.mixed) Try.func14 rfl rfl rfl (by kernel_rfl) (by kernel_rfl) hl h
/-! 15 paling/sum.Of : params [22], results [3], free 0, zeros [(.slice none 0 0)] -/
def Try.c15 : AC :=
 (.seq
  (.region 0 [⟨(some 2), none, (.p (.mv (.c (.int .i64 0)))), false, []⟩] (some ⟨[0], [], false⟩))
  (.seq
   (.region 0 [⟨(some 3), none, (.p (.mv (.t 0))), false, []⟩,
     ⟨(some 4), none, (.call 39 [(.t 3)] false), false, []⟩,
     ⟨(some 5), none, (.p (.bin .sub (.c (.int .i64 65535)) (.t 4))), false, []⟩,
     ⟨(some 2), none, (.p (.mv (.t 5))), false, []⟩] (some ⟨[2], [], false⟩))
   .ret))
theorem Try.run15 {xs : List AV} {r : AV} (hl : xs.length ≤ 6) (h : aw Try.prog Try.c15 (Pv.Ends [2] r) (entry xs)) : Run Try.prog 15 xs r :=
  run_of (fun _ _ => drawOk Try.mixed) Try.func15 rfl rfl rfl (by kernel_rfl) (by kernel_rfl) hl h
/-! 16 paling/palingref06.Of : params [22], results [3], free 0, zeros [(.slice none 0 0)] -/
def Try.c16 : AC :=
 (.seq
  (.region 0 [⟨(some 2), none, (.p (.mv (.c (.int .i64 0)))), false, []⟩] (some ⟨[0], [], false⟩))
  (.seq
   (.region 0 [⟨(some 3), none, (.p (.mv (.t 0))), false, []⟩,
     ⟨(some 4), none, (.call 40 [(.t 3)] false), false, []⟩,
     ⟨(some 5), none, (.p (.bin .sub (.c (.int .i64 65535)) (.t 4))), false, []⟩,
     ⟨(some 2), none, (.p (.mv (.t 5))), false, []⟩] (some ⟨[2], [], false⟩))
   .ret))
theorem Try.run16 {xs : List AV} {r : AV} (hl : xs.length ≤ 6) (h : aw Try.prog Try.c16 (Pv.Ends [2] r) (entry xs)) : Run Try.prog 16 xs r :=
  run_of (fun _ _ => drawOk Try.mixed) Try.func16 rfl rfl rfl (by kernel_rfl) (by kernel_rfl) hl h
/-! 17 paling/sum.Right : params [22], results [4], free 0, zeros [(.slice none 0 0)] -/
def Try.c17 : AC :=
 (.seq
  (.region 0 [⟨(some 2), none, (.p (.mv (.c (.bool false)))), false, []⟩] (some ⟨[0], [], false⟩))
  (.seq
   (.region 0 [⟨(some 3), none, (.p (.mv (.t 0))), false, []⟩,
     ⟨(some 4), none, (.call 39 [(.t 3)] false), false, []⟩,
     ⟨(some 5), none, (.p (.bin .eql (.t 4) (.c (.int .i64 65535)))), false, []⟩,
     ⟨(some 2), none, (.p (.mv (.t 5))), false, []⟩] (some ⟨[2], [], false⟩))
   .ret))
theorem Try.run17 {xs : List AV} {r : AV} (hl : xs.length ≤ 6) (h : aw Try.prog Try.c17 (Pv.Ends [2] r) (entry xs)) : Run Try.prog 17 xs r :=
  run_of (fun _ _ => drawOk Try.mixed) Try.func17 rfl rfl rfl (by kernel_rfl) (by kernel_rfl) hl h
/-! 18 paling/palingref06.Right : params [22], results [4], free 0, zeros [(.slice none 0 0)] -/
def Try.c18 : AC :=
 (.seq
  (.region 0 [⟨(some 2), none, (.p (.mv (.c (.bool false)))), false, []⟩] (some ⟨[0], [], false⟩))
  (.seq
   (.region 0 [⟨(some 3), none, (.p (.mv (.t 0))), false, []⟩,
     ⟨(some 4), none, (.call 40 [(.t 3)] false), false, []⟩,
     ⟨(some 5), none, (.p (.bin .eql (.t 4) (.c (.int .i64 65535)))), false, []⟩,
     ⟨(some 2), none, (.p (.mv (.t 5))), false, []⟩] (some ⟨[2], [], false⟩))
   .ret))
theorem Try.run18 {xs : List AV} {r : AV} (hl : xs.length ≤ 6) (h : aw Try.prog Try.c18 (Pv.Ends [2] r) (entry xs)) : Run Try.prog 18 xs r :=
  run_of (fun _ _ => drawOk Try.mixed) Try.func18 rfl rfl rfl (by kernel_rfl) (by kernel_rfl) hl h
/-! 19 paling/palinglaw06.works : params [], results [4], free 0, zeros [] -/
def Try.c19 : AC :=
 (.seq
  (.region 0 [⟨(some 0), none, (.p (.mv (.c (.bool false)))), false, []⟩] (some ⟨[], [], false⟩))
  (.seq
   (.region 0 [⟨(some 1), none, (.e (.mks 5 1 (.int .u8 0) 3 [(0, (.c (.int .u8 1))), (1, (.c (.int .u8 2))), (2, (.c (.int .u8 3)))]) none), false, []⟩,
     ⟨(some 2), none, (.call 15 [(.t 1)] false), false, []⟩,
     ⟨(some 3), none, (.p (.bin .eql (.t 2) (.c (.int .i64 64509)))), false, []⟩,
     ⟨(some 4), none, (.p (.mv (.t 3))), false, []⟩,
     ⟨(some 5), (some (4, true)), (.e (.mks 5 1 (.int .u8 0) 2 [(0, (.c (.int .u8 255))), (1, (.c (.int .u8 255)))]) none), false, []⟩,
     ⟨(some 6), (some (4, true)), (.call 17 [(.t 5)] false), false, []⟩,
     ⟨(some 7), none, (.p (.pick (.t 4) (.t 6) (.c (.bool false)))), false, []⟩,
     ⟨(some 8), none, (.p (.mv (.t 7))), false, []⟩,
     ⟨(some 9), (some (8, true)), (.call 17 [(.c (.sl 0 [] true))] false), false, []⟩,
     ⟨(some 10), (some (8, true)), (.p (.un .not (.t 9))), false, []⟩,
     ⟨(some 11), none, (.p (.pick (.t 8) (.t 10) (.c (.bool false)))), false, []⟩,
     ⟨(some 12), none, (.p (.mv (.t 11))), false, []⟩,
     ⟨(some 13), (some (12, true)), (.call 20 [(.c (.int .i64 (-1))), (.c (.int .i64 0)), (.c (.int .i64 0))] false), false, []⟩,
     ⟨(some 14), (some (12, true)), (.p (.bin .eql (.t 13) (.c (.int .i64 (-1))))), false, []⟩,
     ⟨(some 15), none, (.p (.pick (.t 12) (.t 14) (.c (.bool false)))), false, []⟩,
     ⟨(some 0), none, (.p (.mv (.t 15))), false, []⟩] (some ⟨[0], [], false⟩))
   .ret))
theorem Try.run19 {xs : List AV} {r : AV} (hl : xs.length ≤ 16) (h : aw Try.prog Try.c19 (Pv.Ends [0] r) (entry xs)) : Run Try.prog 19 xs r :=
  run_of (fun _ _ => drawOk Try.mixed) Try.func19 rfl rfl rfl (by kernel_rfl) (by kernel_rfl) hl h
/-! 20 paling/sum.Turn : params [3, 3, 3], results [3], free 0, zeros [(.int .i64 (0)), (.int .i64 (0)), (.int .i64 (0))] -/
def Try.c20b0 : AC :=
 (.seq
  (.region 0 [⟨(some 15), none, (.p (.bin .lss (.t 14) (.t 13))), false, []⟩] (some ⟨[0, 1, 2, 12, 13, 14, 15], [], false⟩))
  (.seq
   (.cond (.t 15)
    .skip
    (.exit 0))
   (.seq
    (.block 1
     (.seq
      (.region 0 [⟨(some 16), none, (.p (.iaddr 1 (.t 12) (.t 14))), false, []⟩,
        ⟨(some 17), none, (.r (.load 1 false (.t 16))), false, []⟩,
        ⟨(some 8), none, (.p (.mv (.t 17))), false, []⟩] (some ⟨[0, 1, 2, 8, 12, 13, 14], [], false⟩))
      (.seq
       (.region 0 [⟨(some 18), none, (.p (.mv (.t 8))), false, []⟩,
         ⟨(some 19), none, (.p (.bin .lss (.t 18) (.c (.int .i64 0)))), false, []⟩,
         ⟨(some 20), none, (.p (.mv (.t 19))), false, []⟩,
         ⟨(some 21), (some (20, false)), (.p (.mv (.t 8))), false, []⟩,
         ⟨(some 22), (some (20, false)), (.p (.bin .gtr (.t 21) (.c (.int .i64 65535)))), false, []⟩,
         ⟨(some 23), none, (.p (.pick (.t 20) (.c (.bool true)) (.t 22))), false, []⟩] (some ⟨[0, 1, 2, 12, 13, 14, 23], [], false⟩))
       (.cond (.t 23)
        (.seq
         (.region 0 [⟨(some 6), none, (.p (.mv (.c (.int .i64 (-1))))), false, []⟩] (some ⟨[6], [], false⟩))
         .ret)
        .skip))))
    (.region 0 [⟨(some 24), none, (.p (.bin .add (.t 14) (.c (.int .i64 1)))), false, []⟩,
      ⟨(some 14), none, (.p (.mv (.t 24))), false, []⟩] (some ⟨[0, 1, 2, 12, 13, 14], [], false⟩)))))
def Try.c20 : AC :=
 (.seq
  (.region 0 [⟨(some 6), none, (.p (.mv (.c (.int .i64 0)))), false, []⟩] (some ⟨[0, 1, 2], [], false⟩))
  (.seq
   (.seq
    (.region 0 [⟨(some 9), none, (.p (.mv (.t 0))), false, []⟩,
      ⟨(some 10), none, (.p (.mv (.t 1))), false, []⟩,
      ⟨(some 11), none, (.p (.mv (.t 2))), false, []⟩,
      ⟨(some 12), none, (.e (.mks 3 1 (.int .i64 0) 3 [(0, (.t 9)), (1, (.t 10)), (2, (.t 11))]) none), false, []⟩,
      ⟨(some 13), none, (.p (.len (.t 12))), false, []⟩,
      ⟨(some 14), none, (.p (.mv (.c (.int .i64 0)))), false, []⟩] (some ⟨[0, 1, 2, 12, 13, 14], [], false⟩))
    (.block 0
     (.loop (some ⟨[0, 1, 2, 12, 13, 14], [], true⟩) Try.c20b0)))
   (.seq
    (.region 0 [⟨(some 25), none, (.p (.mv (.t 0))), false, []⟩,
      ⟨(some 26), none, (.p (.bin .sub (.c (.int .i64 65535)) (.t 25))), false, []⟩,
      ⟨(some 27), none, (.p (.bin .add (.t 26) (.c (.int .i64 65535)))), false, []⟩,
      ⟨(some 28), none, (.p (.mv (.t 1))), false, []⟩,
      ⟨(some 29), none, (.p (.bin .sub (.t 27) (.t 28))), false, []⟩,
      ⟨(some 30), none, (.p (.mv (.t 2))), false, []⟩,
      ⟨(some 31), none, (.p (.bin .add (.t 29) (.t 30))), false, []⟩,
      ⟨(some 32), none, (.call 41 [(.t 31)] false), false, []⟩,
      ⟨(some 33), none, (.p (.bin .sub (.c (.int .i64 65535)) (.t 32))), false, []⟩,
      ⟨(some 6), none, (.p (.mv (.t 33))), false, []⟩] (some ⟨[6], [], false⟩))
    .ret)))
theorem Try.run20 {xs : List AV} {r : AV} (hl : xs.length ≤ 34) (h : aw Try.prog Try.c20 (Pv.Ends [6] r) (entry xs)) : Run Try.prog 20 xs r :=
  run_of (fun _ _ => drawOk Try.mixed) Try.func20 rfl rfl rfl (by kernel_rfl) (by kernel_rfl) hl h
/-! 21 paling/palingref06.Turn : params [3, 3, 3], results [3], free 0, zeros [(.int .i64 (0)), (.int .i64 (0)), (.int .i64 (0))] -/
def Try.c21b0 : AC :=
 (.seq
  (.seq
   (.region 0 [⟨(some 37), none, (.p (.mv (.t 7))), false, []⟩,
     ⟨(some 38), none, (.p (.bin .gtr (.t 37) (.c (.int .i64 65535)))), false, []⟩] (some ⟨[7, 38], [], false⟩))
   (.cond (.t 38)
    .skip
    (.exit 0)))
  (.block 1
   (.region 0 [⟨(some 39), none, (.p (.mv (.t 7))), false, []⟩,
     ⟨(some 40), none, (.p (.bin .rem (.t 39) (.c (.int .i64 65536)))), false, []⟩,
     ⟨(some 41), none, (.p (.mv (.t 7))), false, []⟩,
     ⟨(some 42), none, (.p (.bin .quo (.t 41) (.c (.int .i64 65536)))), false, []⟩,
     ⟨(some 43), none, (.p (.bin .add (.t 40) (.t 42))), false, []⟩,
     ⟨(some 7), none, (.p (.mv (.t 43))), false, []⟩] (some ⟨[7], [], false⟩))))
def Try.c21 : AC :=
 (.seq
  (.region 0 [⟨(some 6), none, (.p (.mv (.c (.int .i64 0)))), false, []⟩] (some ⟨[0, 1, 2], [], false⟩))
  (.seq
   (.seq
    (.region 0 [⟨(some 8), none, (.p (.mv (.t 0))), false, []⟩,
      ⟨(some 9), none, (.p (.bin .lss (.t 8) (.c (.int .i64 0)))), false, []⟩,
      ⟨(some 10), none, (.p (.mv (.t 9))), false, []⟩,
      ⟨(some 11), (some (10, false)), (.p (.mv (.t 1))), false, []⟩,
      ⟨(some 12), (some (10, false)), (.p (.bin .lss (.t 11) (.c (.int .i64 0)))), false, []⟩,
      ⟨(some 13), none, (.p (.pick (.t 10) (.c (.bool true)) (.t 12))), false, []⟩,
      ⟨(some 14), none, (.p (.mv (.t 13))), false, []⟩,
      ⟨(some 15), (some (14, false)), (.p (.mv (.t 2))), false, []⟩,
      ⟨(some 16), (some (14, false)), (.p (.bin .lss (.t 15) (.c (.int .i64 0)))), false, []⟩,
      ⟨(some 17), none, (.p (.pick (.t 14) (.c (.bool true)) (.t 16))), false, []⟩,
      ⟨(some 18), none, (.p (.mv (.t 17))), false, []⟩,
      ⟨(some 19), (some (18, false)), (.p (.mv (.t 0))), false, []⟩,
      ⟨(some 20), (some (18, false)), (.p (.bin .gtr (.t 19) (.c (.int .i64 65535)))), false, []⟩,
      ⟨(some 21), none, (.p (.pick (.t 18) (.c (.bool true)) (.t 20))), false, []⟩,
      ⟨(some 22), none, (.p (.mv (.t 21))), false, []⟩,
      ⟨(some 23), (some (22, false)), (.p (.mv (.t 1))), false, []⟩,
      ⟨(some 24), (some (22, false)), (.p (.bin .gtr (.t 23) (.c (.int .i64 65535)))), false, []⟩,
      ⟨(some 25), none, (.p (.pick (.t 22) (.c (.bool true)) (.t 24))), false, []⟩,
      ⟨(some 26), none, (.p (.mv (.t 25))), false, []⟩,
      ⟨(some 27), (some (26, false)), (.p (.mv (.t 2))), false, []⟩,
      ⟨(some 28), (some (26, false)), (.p (.bin .gtr (.t 27) (.c (.int .i64 65535)))), false, []⟩,
      ⟨(some 29), none, (.p (.pick (.t 26) (.c (.bool true)) (.t 28))), false, []⟩] (some ⟨[0, 1, 2, 29], [], false⟩))
    (.cond (.t 29)
     (.seq
      (.region 0 [⟨(some 6), none, (.p (.mv (.c (.int .i64 (-1))))), false, []⟩] (some ⟨[6], [], false⟩))
      .ret)
     .skip))
   (.seq
    (.region 0 [⟨(some 30), none, (.p (.mv (.t 0))), false, []⟩,
      ⟨(some 31), none, (.p (.bin .sub (.c (.int .i64 65535)) (.t 30))), false, []⟩,
      ⟨(some 32), none, (.p (.mv (.t 1))), false, []⟩,
      ⟨(some 33), none, (.p (.bin .sub (.c (.int .i64 65535)) (.t 32))), false, []⟩,
      ⟨(some 34), none, (.p (.bin .add (.t 31) (.t 33))), false, []⟩,
      ⟨(some 35), none, (.p (.mv (.t 2))), false, []⟩,
      ⟨(some 36), none, (.p (.bin .add (.t 34) (.t 35))), false, []⟩,
      ⟨(some 7), none, (.p (.mv (.t 36))), false, []⟩] (some ⟨[7], [], false⟩))
    (.seq
     (.block 0
      (.loop (some ⟨[7], [], true⟩) Try.c21b0))
     (.seq
      (.region 0 [⟨(some 44), none, (.p (.mv (.t 7))), false, []⟩,
        ⟨(some 45), none, (.p (.bin .sub (.c (.int .i64 65535)) (.t 44))), false, []⟩,
        ⟨(some 6), none, (.p (.mv (.t 45))), false, []⟩] (some ⟨[6], [], false⟩))
      .ret)))))
theorem Try.run21 {xs : List AV} {r : AV} (hl : xs.length ≤ 46) (h : aw Try.prog Try.c21 (Pv.Ends [6] r) (entry xs)) : Run Try.prog 21 xs r :=
  run_of (fun _ _ => drawOk Try.mixed) Try.func21 rfl rfl rfl (by kernel_rfl) (by kernel_rfl) hl h
/-! 22 paling/palinglaw08.works : params [], results [4], free 0, zeros [] -/
def Try.c22 : AC :=
 (.seq
  (.region 0 [⟨(some 0), none, (.p (.mv (.c (.bool false)))), false, []⟩] (some ⟨[], [], false⟩))
  (.seq
   (.region 0 [⟨(some 8), none, (.e (.mks 5 1 (.int .u8 0) 1 [(0, (.c (.int .u8 97)))]) none), false, []⟩,
     ⟨(some 9), none, (.e (.mark (.t 8)) none), false, []⟩,
     ⟨(some 10), none, (.call 27 [(.c (.int .i64 1)), (.c (.int .i64 2)), (.t 9)] false), false, []⟩,
     ⟨(some 7), none, (.p (.mv (.t 10))), false, []⟩,
     ⟨(some 11), none, (.p (.ext (.t 7) 0)), false, []⟩,
     ⟨(some 12), none, (.p (.ext (.t 7) 1)), false, []⟩,
     ⟨(some 1), none, (.p (.mv (.t 11))), false, []⟩,
     ⟨(some 2), none, (.p (.mv (.t 12))), false, []⟩] (some ⟨[1, 2], [], false⟩))
   (.seq
    (.region 0 [⟨(some 14), none, (.p (.mv (.t 1))), false, []⟩,
      ⟨(some 15), none, (.p (.mv (.t 1))), false, []⟩,
      ⟨(some 16), none, (.p (.len (.t 15))), false, []⟩,
      ⟨(some 17), none, (.p (.bin .quo (.t 16) (.c (.int .i64 2)))), false, []⟩,
      ⟨(some 18), none, (.p (.slicev 1 (.t 14) none (some (.t 17)) none)), false, []⟩,
      ⟨(some 19), none, (.call 23 [(.t 18)] false), false, []⟩,
      ⟨(some 13), none, (.p (.mv (.t 19))), false, []⟩,
      ⟨(some 20), none, (.p (.ext (.t 13) 0)), false, []⟩,
      ⟨(some 21), none, (.p (.ext (.t 13) 1)), false, []⟩,
      ⟨(some 22), none, (.p (.ext (.t 13) 2)), false, []⟩,
      ⟨(some 23), none, (.p (.ext (.t 13) 3)), false, []⟩,
      ⟨(some 3), none, (.p (.mv (.t 20))), false, []⟩,
      ⟨(some 4), none, (.p (.mv (.t 21))), false, []⟩,
      ⟨(some 5), none, (.p (.mv (.t 22))), false, []⟩,
      ⟨(some 6), none, (.p (.mv (.t 23))), false, []⟩] (some ⟨[1, 2, 6], [], false⟩))
    (.seq
     (.region 0 [⟨(some 24), none, (.p (.mv (.t 2))), false, []⟩,
       ⟨(some 25), none, (.p (.bin .eql (.t 24) (.c (.int .i64 0)))), false, []⟩,
       ⟨(some 26), none, (.p (.mv (.t 25))), false, []⟩,
       ⟨(some 27), (some (26, true)), (.p (.mv (.t 1))), false, []⟩,
       ⟨(some 28), (some (26, true)), (.r (.b2s (.t 27))), false, []⟩,
       ⟨(some 29), (some (26, true)), (.p (.bin .eql (.t 28) (.c (.str [0, 1, 0, 2, 0, 9, 0, 0, 97])))), false, []⟩,
       ⟨(some 30), none, (.p (.pick (.t 26) (.t 29) (.c (.bool false)))), false, []⟩,
       ⟨(some 31), none, (.p (.mv (.t 30))), false, []⟩,
       ⟨(some 32), (some (31, true)), (.p (.mv (.t 6))), false, []⟩,
       ⟨(some 33), (some (31, true)), (.p (.bin .eql (.t 32) (.c (.int .i64 10)))), false, []⟩,
       ⟨(some 34), none, (.p (.pick (.t 31) (.t 33) (.c (.bool false)))), false, []⟩,
       ⟨(some 35), none, (.p (.mv (.t 34))), false, []⟩,
       ⟨(some 36), (some (35, true)), (.call 25 [(.c (.int .u64 5)), (.c (.int .u64 5))] false), false, []⟩,
       ⟨(some 37), (some (35, true)), (.p (.bin .eql (.t 36) (.c (.int .i64 49152)))), false, []⟩,
       ⟨(some 38), none, (.p (.pick (.t 35) (.t 37) (.c (.bool false)))), false, []⟩,
       ⟨(some 0), none, (.p (.mv (.t 38))), false, []⟩] (some ⟨[0], [], false⟩))
     .ret))))
theorem Try.run22 {xs : List AV} {r : AV} (hl : xs.length ≤ 39) (h : aw Try.prog Try.c22 (Pv.Ends [0] r) (entry xs)) : Run Try.prog 22 xs r :=
  run_of (fun _ _ => drawOk Try.mixed) Try.func22 rfl rfl rfl (by kernel_rfl) (by kernel_rfl) hl h
/-! 23 paling/udp.Take : params [22], results [3, 3, 22, 33], free 0, zeros [(.slice none 0 0)] -/
def Try.c23b0 : AC :=
 (.seq
  (.region 0 [⟨(some 12), none, (.p (.bin .lss (.t 11) (.c (.int .i64 4)))), false, []⟩] (some ⟨[0, 6, 11, 12], [], false⟩))
  (.seq
   (.cond (.t 12)
    .skip
    (.exit 0))
   (.seq
    (.block 1
     (.seq
      (.region 0 [⟨(some 13), none, (.p (.mv (.t 11))), false, []⟩,
        ⟨(some 7), none, (.p (.mv (.t 13))), false, []⟩] (some ⟨[0, 6, 7, 11], [], false⟩))
      (.region 18 [⟨(some 14), none, (.p (.mv (.t 7))), false, []⟩,
        ⟨(some 15), none, (.p (.mv (.t 0))), false, []⟩,
        ⟨(some 16), none, (.p (.mv (.t 7))), false, []⟩,
        ⟨(some 17), none, (.p (.bin .mul (.c (.int .i64 2)) (.t 16))), false, []⟩,
        ⟨(some 18), none, (.p (.iaddr 1 (.t 15) (.t 17))), false, []⟩,
        ⟨(some 19), none, (.r (.load 1 false (.t 18))), false, []⟩,
        ⟨(some 20), none, (.p (.convI .i64 (.t 19))), false, []⟩,
        ⟨(some 21), none, (.p (.bin .shl (.t 20) (.c (.int .u64 8)))), false, []⟩,
        ⟨(some 22), none, (.p (.mv (.t 0))), false, []⟩,
        ⟨(some 23), none, (.p (.mv (.t 7))), false, []⟩,
        ⟨(some 24), none, (.p (.bin .mul (.c (.int .i64 2)) (.t 23))), false, []⟩,
        ⟨(some 25), none, (.p (.bin .add (.t 24) (.c (.int .i64 1)))), false, []⟩,
        ⟨(some 26), none, (.p (.iaddr 1 (.t 22) (.t 25))), false, []⟩,
        ⟨(some 27), none, (.r (.load 1 false (.t 26))), false, []⟩,
        ⟨(some 28), none, (.p (.convI .i64 (.t 27))), false, []⟩,
        ⟨(some 29), none, (.p (.bin .or (.t 21) (.t 28))), false, []⟩,
        ⟨(some 30), none, (.p (.aaddr 4 1 (.t 6) (.t 14))), false, []⟩,
        ⟨none, none, (.e (.store 1 (.t 30) (.t 29)) (some 17)), false, []⟩] (some ⟨[0, 6, 11], [], true⟩))))
    (.region 0 [⟨(some 31), none, (.p (.bin .add (.t 11) (.c (.int .i64 1)))), false, []⟩,
      ⟨(some 11), none, (.p (.mv (.t 31))), false, []⟩] (some ⟨[0, 6, 11], [], false⟩)))))
def Try.c23 : AC :=
 (.seq
  (.region 0 [⟨(some 2), none, (.p (.mv (.c (.int .i64 0)))), false, []⟩,
    ⟨(some 3), none, (.p (.mv (.c (.int .i64 0)))), false, []⟩,
    ⟨(some 4), none, (.p (.mv (.c (.sl 0 [] true)))), false, []⟩,
    ⟨(some 5), none, (.p (.mv (.c (.int .i64 0)))), false, []⟩] (some ⟨[0], [], false⟩))
  (.seq
   (.seq
    (.region 0 [⟨(some 8), none, (.p (.mv (.t 0))), false, []⟩,
      ⟨(some 9), none, (.p (.len (.t 8))), false, []⟩,
      ⟨(some 10), none, (.p (.bin .lss (.t 9) (.c (.int .i64 8)))), false, []⟩] (some ⟨[0, 10], [], false⟩))
    (.cond (.t 10)
     (.seq
      (.region 0 [⟨(some 2), none, (.p (.mv (.c (.int .i64 0)))), false, []⟩,
        ⟨(some 3), none, (.p (.mv (.c (.int .i64 0)))), false, []⟩,
        ⟨(some 4), none, (.p (.mv (.c (.sl 0 [] true)))), false, []⟩,
        ⟨(some 5), none, (.p (.mv (.c (.int .i64 10)))), false, []⟩] (some ⟨[2, 3, 4, 5], [], false⟩))
      .ret)
     .skip))
   (.seq
    (.region 0 [⟨(some 6), none, (.e (.alloc 64 (.agg [(.int .i64 0), (.int .i64 0), (.int .i64 0), (.int .i64 0)])) none), false, []⟩] (some ⟨[0, 6], [], false⟩))
    (.seq
     (.seq
      (.region 0 [⟨(some 11), none, (.p (.mv (.c (.int .i64 0)))), false, []⟩] (some ⟨[0, 6, 11], [], false⟩))
      (.block 0
       (.loop (some ⟨[0, 6, 11], [], true⟩) Try.c23b0)))
     (.seq
      (.block 2
       (.seq
        (.region 0 [⟨(some 33), none, (.p (.aaddr 4 1 (.t 6) (.c (.int .i64 2)))), false, []⟩,
          ⟨(some 34), none, (.r (.load 1 false (.t 33))), false, []⟩,
          ⟨(some 35), none, (.p (.bin .lss (.t 34) (.c (.int .i64 8)))), false, []⟩,
          ⟨(some 32), none, (.p (.mv (.t 35))), false, []⟩] (some ⟨[0, 6, 32], [], false⟩))
        (.cond (.t 32)
         (.seq
          (.region 0 [⟨(some 2), none, (.p (.mv (.c (.int .i64 0)))), false, []⟩,
            ⟨(some 3), none, (.p (.mv (.c (.int .i64 0)))), false, []⟩,
            ⟨(some 4), none, (.p (.mv (.c (.sl 0 [] true)))), false, []⟩,
            ⟨(some 5), none, (.p (.mv (.c (.int .i64 11)))), false, []⟩] (some ⟨[2, 3, 4, 5], [], false⟩))
          .ret)
         (.seq
          (.region 0 [⟨(some 37), none, (.p (.aaddr 4 1 (.t 6) (.c (.int .i64 2)))), false, []⟩,
            ⟨(some 38), none, (.r (.load 1 false (.t 37))), false, []⟩,
            ⟨(some 39), none, (.p (.mv (.t 0))), false, []⟩,
            ⟨(some 40), none, (.p (.len (.t 39))), false, []⟩,
            ⟨(some 41), none, (.p (.bin .gtr (.t 38) (.t 40))), false, []⟩,
            ⟨(some 36), none, (.p (.mv (.t 41))), false, []⟩] (some ⟨[0, 6, 36], [], false⟩))
          (.cond (.t 36)
           (.seq
            (.region 0 [⟨(some 2), none, (.p (.mv (.c (.int .i64 0)))), false, []⟩,
              ⟨(some 3), none, (.p (.mv (.c (.int .i64 0)))), false, []⟩,
              ⟨(some 4), none, (.p (.mv (.c (.sl 0 [] true)))), false, []⟩,
              ⟨(some 5), none, (.p (.mv (.c (.int .i64 10)))), false, []⟩] (some ⟨[2, 3, 4, 5], [], false⟩))
            .ret)
           (.seq
            (.region 0 [⟨(some 43), none, (.p (.aaddr 4 1 (.t 6) (.c (.int .i64 3)))), false, []⟩,
              ⟨(some 44), none, (.r (.load 1 false (.t 43))), false, []⟩,
              ⟨(some 45), none, (.p (.bin .neq (.t 44) (.c (.int .i64 0)))), false, []⟩,
              ⟨(some 42), none, (.p (.mv (.t 45))), false, []⟩] (some ⟨[0, 6, 42], [], false⟩))
            (.cond (.t 42)
             (.seq
              (.region 0 [⟨(some 2), none, (.p (.mv (.c (.int .i64 0)))), false, []⟩,
                ⟨(some 3), none, (.p (.mv (.c (.int .i64 0)))), false, []⟩,
                ⟨(some 4), none, (.p (.mv (.c (.sl 0 [] true)))), false, []⟩,
                ⟨(some 5), none, (.p (.mv (.c (.int .i64 12)))), false, []⟩] (some ⟨[2, 3, 4, 5], [], false⟩))
              .ret)
             .skip)))))))
      (.seq
       (.region 13 [⟨(some 46), none, (.p (.aaddr 4 1 (.t 6) (.c (.int .i64 0)))), false, []⟩,
         ⟨(some 47), none, (.r (.load 1 false (.t 46))), false, []⟩,
         ⟨(some 48), none, (.p (.aaddr 4 1 (.t 6) (.c (.int .i64 1)))), false, []⟩,
         ⟨(some 49), none, (.r (.load 1 false (.t 48))), false, []⟩,
         ⟨(some 50), none, (.p (.mv (.t 0))), false, []⟩,
         ⟨(some 51), none, (.p (.aaddr 4 1 (.t 6) (.c (.int .i64 2)))), false, []⟩,
         ⟨(some 52), none, (.r (.load 1 false (.t 51))), false, []⟩,
         ⟨(some 53), none, (.p (.slicev 1 (.t 50) (some (.c (.int .i64 8))) (some (.t 52)) none)), false, []⟩,
         ⟨(some 54), none, (.call 42 [(.t 53)] true), false, []⟩,
         ⟨(some 2), none, (.p (.mv (.t 47))), false, []⟩,
         ⟨(some 3), none, (.p (.mv (.t 49))), false, []⟩,
         ⟨(some 4), none, (.p (.mv (.t 54))), false, []⟩,
         ⟨(some 5), none, (.p (.mv (.c (.int .i64 0)))), false, []⟩] (some ⟨[2, 3, 4, 5], [], true⟩))
       .ret))))))
theorem Try.run23 {xs : List AV} {r : AV} (hl : xs.length ≤ 55) (h : aw Try.prog Try.c23 (Pv.Ends [2, 3, 4, 5] r) (entry xs)) : Run Try.prog 23 xs r :=
  run_of (fun _ _ => drawOk Try.mixed) Try.func23 rfl rfl rfl (by kernel_rfl) (by kernel_rfl) hl h
/-! 24 paling/palingref08.Take : params [22], results [3, 3, 22, 3], free 0, zeros [(.slice none 0 0)] -/
def Try.c24 : AC :=
 (.seq
  (.region 0 [⟨(some 2), none, (.p (.mv (.c (.int .i64 0)))), false, []⟩,
    ⟨(some 3), none, (.p (.mv (.c (.int .i64 0)))), false, []⟩,
    ⟨(some 4), none, (.p (.mv (.c (.sl 0 [] true)))), false, []⟩,
    ⟨(some 5), none, (.p (.mv (.c (.int .i64 0)))), false, []⟩] (some ⟨[0], [], false⟩))
  (.seq
   (.seq
    (.region 0 [⟨(some 7), none, (.p (.mv (.t 0))), false, []⟩,
      ⟨(some 8), none, (.p (.len (.t 7))), false, []⟩,
      ⟨(some 9), none, (.p (.bin .lss (.t 8) (.c (.int .i64 8)))), false, []⟩] (some ⟨[0, 9], [], false⟩))
    (.cond (.t 9)
     (.seq
      (.region 0 [⟨(some 2), none, (.p (.mv (.c (.int .i64 0)))), false, []⟩,
        ⟨(some 3), none, (.p (.mv (.c (.int .i64 0)))), false, []⟩,
        ⟨(some 4), none, (.p (.mv (.c (.sl 0 [] true)))), false, []⟩,
        ⟨(some 5), none, (.p (.mv (.c (.int .i64 10)))), false, []⟩] (some ⟨[2, 3, 4, 5], [], false⟩))
      .ret)
     .skip))
   (.seq
    (.region 11 [⟨(some 10), none, (.p (.mv (.t 0))), false, []⟩,
      ⟨(some 11), none, (.p (.iaddr 1 (.t 10) (.c (.int .i64 4)))), false, []⟩,
      ⟨(some 12), none, (.r (.load 1 false (.t 11))), false, []⟩,
      ⟨(some 13), none, (.p (.convI .i64 (.t 12))), false, []⟩,
      ⟨(some 14), none, (.p (.bin .mul (.t 13) (.c (.int .i64 256)))), false, []⟩,
      ⟨(some 15), none, (.p (.mv (.t 0))), false, []⟩,
      ⟨(some 16), none, (.p (.iaddr 1 (.t 15) (.c (.int .i64 5)))), false, []⟩,
      ⟨(some 17), none, (.r (.load 1 false (.t 16))), false, []⟩,
      ⟨(some 18), none, (.p (.convI .i64 (.t 17))), false, []⟩,
      ⟨(some 19), none, (.p (.bin .add (.t 14) (.t 18))), false, []⟩,
      ⟨(some 6), none, (.p (.mv (.t 19))), false, []⟩] (some ⟨[0, 6], [], true⟩))
    (.seq
     (.seq
      (.region 0 [⟨(some 20), none, (.p (.mv (.t 6))), false, []⟩,
        ⟨(some 21), none, (.p (.bin .lss (.t 20) (.c (.int .i64 8)))), false, []⟩] (some ⟨[0, 6, 21], [], false⟩))
      (.cond (.t 21)
       (.seq
        (.region 0 [⟨(some 2), none, (.p (.mv (.c (.int .i64 0)))), false, []⟩,
          ⟨(some 3), none, (.p (.mv (.c (.int .i64 0)))), false, []⟩,
          ⟨(some 4), none, (.p (.mv (.c (.sl 0 [] true)))), false, []⟩,
          ⟨(some 5), none, (.p (.mv (.c (.int .i64 11)))), false, []⟩] (some ⟨[2, 3, 4, 5], [], false⟩))
        .ret)
       .skip))
     (.seq
      (.seq
       (.region 0 [⟨(some 22), none, (.p (.mv (.t 6))), false, []⟩,
         ⟨(some 23), none, (.p (.mv (.t 0))), false, []⟩,
         ⟨(some 24), none, (.p (.len (.t 23))), false, []⟩,
         ⟨(some 25), none, (.p (.bin .gtr (.t 22) (.t 24))), false, []⟩] (some ⟨[0, 6, 25], [], false⟩))
       (.cond (.t 25)
        (.seq
         (.region 0 [⟨(some 2), none, (.p (.mv (.c (.int .i64 0)))), false, []⟩,
           ⟨(some 3), none, (.p (.mv (.c (.int .i64 0)))), false, []⟩,
           ⟨(some 4), none, (.p (.mv (.c (.sl 0 [] true)))), false, []⟩,
           ⟨(some 5), none, (.p (.mv (.c (.int .i64 10)))), false, []⟩] (some ⟨[2, 3, 4, 5], [], false⟩))
         .ret)
        .skip))
      (.seq
       (.seq
        (.region 0 [⟨(some 26), none, (.p (.mv (.t 0))), false, []⟩,
          ⟨(some 27), none, (.p (.iaddr 1 (.t 26) (.c (.int .i64 6)))), false, []⟩,
          ⟨(some 28), none, (.r (.load 1 false (.t 27))), false, []⟩,
          ⟨(some 29), none, (.p (.bin .neq (.t 28) (.c (.int .u8 0)))), false, []⟩,
          ⟨(some 30), none, (.p (.mv (.t 29))), false, []⟩,
          ⟨(some 31), (some (30, false)), (.p (.mv (.t 0))), false, []⟩,
          ⟨(some 32), (some (30, false)), (.p (.iaddr 1 (.t 31) (.c (.int .i64 7)))), false, []⟩,
          ⟨(some 33), (some (30, false)), (.r (.load 1 false (.t 32))), false, []⟩,
          ⟨(some 34), (some (30, false)), (.p (.bin .neq (.t 33) (.c (.int .u8 0)))), false, []⟩,
          ⟨(some 35), none, (.p (.pick (.t 30) (.c (.bool true)) (.t 34))), false, []⟩] (some ⟨[0, 6, 35], [], false⟩))
        (.cond (.t 35)
         (.seq
          (.region 0 [⟨(some 2), none, (.p (.mv (.c (.int .i64 0)))), false, []⟩,
            ⟨(some 3), none, (.p (.mv (.c (.int .i64 0)))), false, []⟩,
            ⟨(some 4), none, (.p (.mv (.c (.sl 0 [] true)))), false, []⟩,
            ⟨(some 5), none, (.p (.mv (.c (.int .i64 12)))), false, []⟩] (some ⟨[2, 3, 4, 5], [], false⟩))
          .ret)
         .skip))
       (.seq
        (.region 29 [⟨(some 36), none, (.p (.mv (.t 0))), true, [5]⟩,
          ⟨(some 37), none, (.p (.iaddr 1 (.t 36) (.c (.int .i64 0)))), true, [5]⟩,
          ⟨(some 38), none, (.r (.load 1 false (.t 37))), true, [5]⟩,
          ⟨(some 39), none, (.p (.convI .i64 (.t 38))), true, [5]⟩,
          ⟨(some 40), none, (.p (.bin .mul (.t 39) (.c (.int .i64 256)))), true, [5]⟩,
          ⟨(some 41), none, (.p (.mv (.t 0))), true, [5]⟩,
          ⟨(some 42), none, (.p (.iaddr 1 (.t 41) (.c (.int .i64 1)))), true, [5]⟩,
          ⟨(some 43), none, (.r (.load 1 false (.t 42))), true, [5]⟩,
          ⟨(some 44), none, (.p (.convI .i64 (.t 43))), true, [5]⟩,
          ⟨(some 45), none, (.p (.bin .add (.t 40) (.t 44))), true, [5]⟩,
          ⟨(some 46), none, (.p (.mv (.t 0))), true, [5]⟩,
          ⟨(some 47), none, (.p (.iaddr 1 (.t 46) (.c (.int .i64 2)))), true, [5]⟩,
          ⟨(some 48), none, (.r (.load 1 false (.t 47))), true, [5]⟩,
          ⟨(some 49), none, (.p (.convI .i64 (.t 48))), true, [5]⟩,
          ⟨(some 50), none, (.p (.bin .mul (.t 49) (.c (.int .i64 256)))), true, [5]⟩,
          ⟨(some 51), none, (.p (.mv (.t 0))), true, [5]⟩,
          ⟨(some 52), none, (.p (.iaddr 1 (.t 51) (.c (.int .i64 3)))), true, [5]⟩,
          ⟨(some 53), none, (.r (.load 1 false (.t 52))), true, [5]⟩,
          ⟨(some 54), none, (.p (.convI .i64 (.t 53))), true, [5]⟩,
          ⟨(some 55), none, (.p (.bin .add (.t 50) (.t 54))), true, [5]⟩,
          ⟨(some 57), none, (.p (.mv (.t 0))), true, [5]⟩,
          ⟨(some 58), none, (.p (.mv (.t 6))), true, [5]⟩,
          ⟨(some 59), none, (.p (.slicev 1 (.t 57) (some (.c (.int .i64 8))) (some (.t 58)) none)), true, [5]⟩,
          ⟨(some 56), none, (.e (.mks 5 1 (.int .u8 0) 0 []) (some 20)), true, [5]⟩,
          ⟨(some 60), none, (.e (.append 5 1 (.t 56) (.t 59)) (some 24)), true, [5]⟩,
          ⟨(some 2), none, (.p (.mv (.t 45))), true, [5]⟩,
          ⟨(some 3), none, (.p (.mv (.t 55))), true, [5]⟩,
          ⟨(some 4), none, (.p (.mv (.t 60))), true, [5]⟩,
          ⟨(some 5), none, (.p (.mv (.c (.int .i64 0)))), true, [5]⟩] (some ⟨[2, 3, 4, 5], [], true⟩))
        .ret)))))))
theorem Try.run24 {xs : List AV} {r : AV} (hl : xs.length ≤ 61) (h : aw Try.prog Try.c24 (Pv.Ends [2, 3, 4, 5] r) (entry xs)) : Run Try.prog 24 xs r :=
  run_of (fun _ _ => drawOk Try.mixed) Try.func24 rfl rfl rfl (by kernel_rfl) (by kernel_rfl) hl h
/-! 25 paling/udp.Port : params [32, 32], results [3], free 0, zeros [(.int .u64 (0)), (.int .u64 (0))] -/
def Try.c25 : AC :=
 (.seq
  (.region 0 [⟨(some 4), none, (.p (.mv (.c (.int .i64 0)))), false, []⟩] (some ⟨[0, 1], [], false⟩))
  (.seq
   (.region 0 [⟨(some 5), none, (.p (.mv (.t 0))), false, []⟩,
     ⟨(some 6), none, (.p (.mv (.t 1))), false, []⟩,
     ⟨(some 7), none, (.p (.bin .xor (.t 5) (.t 6))), false, []⟩,
     ⟨(some 8), none, (.p (.bin .rem (.t 7) (.c (.int .u64 16384)))), false, []⟩,
     ⟨(some 9), none, (.p (.convI .i64 (.t 8))), false, []⟩,
     ⟨(some 10), none, (.p (.bin .add (.c (.int .i64 49152)) (.t 9))), false, []⟩,
     ⟨(some 4), none, (.p (.mv (.t 10))), false, []⟩] (some ⟨[4], [], false⟩))
   .ret))
theorem Try.run25 {xs : List AV} {r : AV} (hl : xs.length ≤ 11) (h : aw Try.prog Try.c25 (Pv.Ends [4] r) (entry xs)) : Run Try.prog 25 xs r :=
  run_of (fun _ _ => drawOk Try.mixed) Try.func25 rfl rfl rfl (by kernel_rfl) (by kernel_rfl) hl h
/-! 26 paling/palingref08.Port : params [32, 32], results [3], free 0, zeros [(.int .u64 (0)), (.int .u64 (0))] -/
def Try.c26b0 : AC :=
 (.seq
  (.seq
   (.region 0 [⟨(some 8), none, (.p (.mv (.t 7))), false, []⟩,
     ⟨(some 9), none, (.p (.bin .lss (.t 8) (.c (.int .i64 14)))), false, []⟩] (some ⟨[0, 1, 5, 6, 7, 9], [], false⟩))
   (.cond (.t 9)
    .skip
    (.exit 0)))
  (.seq
   (.block 1
    (.seq
     (.seq
      (.region 0 [⟨(some 12), none, (.p (.mv (.t 0))), false, []⟩,
        ⟨(some 13), none, (.p (.bin .rem (.t 12) (.c (.int .u64 2)))), false, []⟩,
        ⟨(some 14), none, (.p (.mv (.t 1))), false, []⟩,
        ⟨(some 15), none, (.p (.bin .rem (.t 14) (.c (.int .u64 2)))), false, []⟩,
        ⟨(some 16), none, (.p (.bin .neq (.t 13) (.t 15))), false, []⟩] (some ⟨[0, 1, 5, 6, 7, 16], [], false⟩))
      (.cond (.t 16)
       (.region 0 [⟨(some 17), none, (.p (.mv (.t 5))), false, []⟩,
         ⟨(some 18), none, (.p (.mv (.t 6))), false, []⟩,
         ⟨(some 19), none, (.p (.bin .add (.t 17) (.t 18))), false, []⟩,
         ⟨(some 5), none, (.p (.mv (.t 19))), false, []⟩] (some ⟨[0, 1, 5, 6, 7], [], false⟩))
       .skip))
     (.seq
      (.region 0 [⟨(some 20), none, (.p (.mv (.t 0))), false, []⟩,
        ⟨(some 21), none, (.p (.bin .quo (.t 20) (.c (.int .u64 2)))), false, []⟩,
        ⟨(some 0), none, (.p (.mv (.t 21))), false, []⟩] (some ⟨[0, 1, 5, 6, 7], [], false⟩))
      (.seq
       (.region 0 [⟨(some 22), none, (.p (.mv (.t 1))), false, []⟩,
         ⟨(some 23), none, (.p (.bin .quo (.t 22) (.c (.int .u64 2)))), false, []⟩,
         ⟨(some 1), none, (.p (.mv (.t 23))), false, []⟩] (some ⟨[0, 1, 5, 6, 7], [], false⟩))
       (.region 0 [⟨(some 24), none, (.p (.mv (.t 6))), false, []⟩,
         ⟨(some 25), none, (.p (.bin .mul (.t 24) (.c (.int .i64 2)))), false, []⟩,
         ⟨(some 6), none, (.p (.mv (.t 25))), false, []⟩] (some ⟨[0, 1, 5, 6, 7], [], false⟩))))))
   (.region 0 [⟨(some 10), none, (.p (.mv (.t 7))), false, []⟩,
     ⟨(some 11), none, (.p (.bin .add (.t 10) (.c (.int .i64 1)))), false, []⟩,
     ⟨(some 7), none, (.p (.mv (.t 11))), false, []⟩] (some ⟨[0, 1, 5, 6, 7], [], false⟩))))
def Try.c26 : AC :=
 (.seq
  (.region 0 [⟨(some 4), none, (.p (.mv (.c (.int .i64 0)))), false, []⟩] (some ⟨[0, 1], [], false⟩))
  (.seq
   (.region 0 [⟨(some 5), none, (.p (.mv (.c (.int .i64 0)))), false, []⟩] (some ⟨[0, 1, 5], [], false⟩))
   (.seq
    (.region 0 [⟨(some 6), none, (.p (.mv (.c (.int .i64 1)))), false, []⟩] (some ⟨[0, 1, 5, 6], [], false⟩))
    (.seq
     (.seq
      (.region 0 [⟨(some 7), none, (.p (.mv (.c (.int .i64 0)))), false, []⟩] (some ⟨[0, 1, 5, 6, 7], [], false⟩))
      (.block 0
       (.loop (some ⟨[0, 1, 5, 6, 7], [], true⟩) Try.c26b0)))
     (.seq
      (.region 0 [⟨(some 26), none, (.p (.mv (.t 5))), false, []⟩,
        ⟨(some 27), none, (.p (.bin .add (.c (.int .i64 49152)) (.t 26))), false, []⟩,
        ⟨(some 4), none, (.p (.mv (.t 27))), false, []⟩] (some ⟨[4], [], false⟩))
      .ret)))))
theorem Try.run26 {xs : List AV} {r : AV} (hl : xs.length ≤ 28) (h : aw Try.prog Try.c26 (Pv.Ends [4] r) (entry xs)) : Run Try.prog 26 xs r :=
  run_of (fun _ _ => drawOk Try.mixed) Try.func26 rfl rfl rfl (by kernel_rfl) (by kernel_rfl) hl h
/-! 27 paling/udp.Put : params [3, 3, 22], results [22, 33], free 0, zeros [(.int .i64 (0)), (.int .i64 (0)), (.slice none 0 0)] -/
def Try.c27b0 : AC :=
 (.seq
  (.region 0 [⟨(some 37), none, (.p (.bin .lss (.t 36) (.c (.int .i64 4)))), false, []⟩] (some ⟨[2, 8, 35, 36, 37], [], false⟩))
  (.seq
   (.cond (.t 37)
    .skip
    (.exit 1))
   (.seq
    (.block 2
     (.seq
      (.region 0 [⟨(some 38), none, (.p (.idxa 4 1 false (.t 35) (.t 36))), false, []⟩,
        ⟨(some 10), none, (.p (.mv (.t 38))), false, []⟩] (some ⟨[2, 8, 10, 35, 36], [], false⟩))
      (.region 0 [⟨(some 39), none, (.p (.mv (.t 8))), false, []⟩,
        ⟨(some 40), none, (.p (.mv (.t 10))), false, []⟩,
        ⟨(some 41), none, (.p (.bin .shr (.t 40) (.c (.int .u64 8)))), false, []⟩,
        ⟨(some 42), none, (.p (.convI .u8 (.t 41))), false, []⟩,
        ⟨(some 43), none, (.p (.mv (.t 10))), false, []⟩,
        ⟨(some 44), none, (.p (.convI .u8 (.t 43))), false, []⟩,
        ⟨(some 45), none, (.e (.mks 5 1 (.int .u8 0) 2 [(0, (.t 42)), (1, (.t 44))]) none), false, []⟩,
        ⟨(some 46), none, (.e (.append 5 1 (.t 39) (.t 45)) none), false, []⟩,
        ⟨(some 8), none, (.p (.mv (.t 46))), false, []⟩] (some ⟨[2, 8, 35, 36], [], false⟩))))
    (.region 0 [⟨(some 47), none, (.p (.bin .add (.t 36) (.c (.int .i64 1)))), false, []⟩,
      ⟨(some 36), none, (.p (.mv (.t 47))), false, []⟩] (some ⟨[2, 8, 35, 36], [], false⟩)))))
def Try.c27 : AC :=
 (.seq
  (.region 0 [⟨(some 6), none, (.p (.mv (.c (.sl 0 [] true)))), false, []⟩,
    ⟨(some 7), none, (.p (.mv (.c (.int .i64 0)))), false, []⟩] (some ⟨[0, 1, 2], [], false⟩))
  (.seq
   (.block 0
    (.seq
     (.region 0 [⟨(some 12), none, (.p (.mv (.t 0))), false, []⟩,
       ⟨(some 13), none, (.p (.bin .lss (.t 12) (.c (.int .i64 0)))), false, []⟩,
       ⟨(some 14), none, (.p (.mv (.t 13))), false, []⟩,
       ⟨(some 15), (some (14, false)), (.p (.mv (.t 0))), false, []⟩,
       ⟨(some 16), (some (14, false)), (.p (.bin .gtr (.t 15) (.c (.int .i64 65535)))), false, []⟩,
       ⟨(some 17), none, (.p (.pick (.t 14) (.c (.bool true)) (.t 16))), false, []⟩,
       ⟨(some 18), none, (.p (.mv (.t 17))), false, []⟩,
       ⟨(some 19), (some (18, false)), (.p (.mv (.t 1))), false, []⟩,
       ⟨(some 20), (some (18, false)), (.p (.bin .lss (.t 19) (.c (.int .i64 0)))), false, []⟩,
       ⟨(some 21), none, (.p (.pick (.t 18) (.c (.bool true)) (.t 20))), false, []⟩,
       ⟨(some 22), none, (.p (.mv (.t 21))), false, []⟩,
       ⟨(some 23), (some (22, false)), (.p (.mv (.t 1))), false, []⟩,
       ⟨(some 24), (some (22, false)), (.p (.bin .gtr (.t 23) (.c (.int .i64 65535)))), false, []⟩,
       ⟨(some 25), none, (.p (.pick (.t 22) (.c (.bool true)) (.t 24))), false, []⟩,
       ⟨(some 11), none, (.p (.mv (.t 25))), false, []⟩] (some ⟨[0, 1, 2, 11], [], false⟩))
     (.cond (.t 11)
      (.seq
       (.region 0 [⟨(some 6), none, (.p (.mv (.c (.sl 0 [] true)))), false, []⟩,
         ⟨(some 7), none, (.p (.mv (.c (.int .i64 11)))), false, []⟩] (some ⟨[6, 7], [], false⟩))
       .ret)
      (.seq
       (.region 0 [⟨(some 27), none, (.p (.mv (.t 2))), false, []⟩,
         ⟨(some 28), none, (.p (.len (.t 27))), false, []⟩,
         ⟨(some 29), none, (.p (.bin .gtr (.t 28) (.c (.int .i64 1472)))), false, []⟩,
         ⟨(some 26), none, (.p (.mv (.t 29))), false, []⟩] (some ⟨[0, 1, 2, 26], [], false⟩))
       (.cond (.t 26)
        (.seq
         (.region 0 [⟨(some 6), none, (.p (.mv (.c (.sl 0 [] true)))), false, []⟩,
           ⟨(some 7), none, (.p (.mv (.c (.int .i64 14)))), false, []⟩] (some ⟨[6, 7], [], false⟩))
         .ret)
        .skip)))))
   (.seq
    (.region 0 [⟨(some 8), none, (.p (.mv (.c (.sl 0 [] true)))), false, []⟩] (some ⟨[0, 1, 2, 8], [], false⟩))
    (.seq
     (.seq
      (.region 0 [⟨(some 30), none, (.p (.mv (.t 0))), false, []⟩,
        ⟨(some 31), none, (.p (.mv (.t 1))), false, []⟩,
        ⟨(some 32), none, (.p (.mv (.t 2))), false, []⟩,
        ⟨(some 33), none, (.p (.len (.t 32))), false, []⟩,
        ⟨(some 34), none, (.p (.bin .add (.c (.int .i64 8)) (.t 33))), false, []⟩,
        ⟨(some 35), none, (.p (.build [(.int .i64 0), (.int .i64 0), (.int .i64 0), (.int .i64 0)] [(0, 1, (.t 30)), (1, 1, (.t 31)), (2, 1, (.t 34)), (3, 1, (.c (.int .i64 0)))])), false, []⟩,
        ⟨(some 36), none, (.p (.mv (.c (.int .i64 0)))), false, []⟩] (some ⟨[2, 8, 35, 36], [], false⟩))
      (.block 1
       (.loop (some ⟨[2, 8, 35, 36], [(8, (1, 5))], true⟩) Try.c27b0)))
     (.seq
      (.region 0 [⟨(some 48), none, (.p (.mv (.t 8))), false, []⟩,
        ⟨(some 49), none, (.p (.mv (.t 2))), false, []⟩,
        ⟨(some 50), none, (.e (.append 5 1 (.t 48) (.t 49)) none), false, []⟩,
        ⟨(some 6), none, (.p (.mv (.t 50))), false, []⟩,
        ⟨(some 7), none, (.p (.mv (.c (.int .i64 0)))), false, []⟩] (some ⟨[6, 7], [], false⟩))
      .ret)))))
theorem Try.run27 {xs : List AV} {r : AV} (hl : xs.length ≤ 51) (h : aw Try.prog Try.c27 (Pv.Ends [6, 7] r) (entry xs)) : Run Try.prog 27 xs r :=
  run_of (fun _ _ => drawOk Try.mixed) Try.func27 rfl rfl rfl (by kernel_rfl) (by kernel_rfl) hl h
/-! 28 paling/palingref08.Put : params [3, 3, 22], results [22, 3], free 0, zeros [(.int .i64 (0)), (.int .i64 (0)), (.slice none 0 0)] -/
def Try.c28 : AC :=
 (.seq
  (.region 0 [⟨(some 6), none, (.p (.mv (.c (.sl 0 [] true)))), false, []⟩,
    ⟨(some 7), none, (.p (.mv (.c (.int .i64 0)))), false, []⟩] (some ⟨[0, 1, 2], [], false⟩))
  (.seq
   (.seq
    (.region 0 [⟨(some 10), none, (.p (.mv (.t 0))), false, []⟩,
      ⟨(some 11), none, (.p (.bin .lss (.t 10) (.c (.int .i64 0)))), false, []⟩,
      ⟨(some 12), none, (.p (.mv (.t 11))), false, []⟩,
      ⟨(some 13), (some (12, false)), (.p (.mv (.t 1))), false, []⟩,
      ⟨(some 14), (some (12, false)), (.p (.bin .lss (.t 13) (.c (.int .i64 0)))), false, []⟩,
      ⟨(some 15), none, (.p (.pick (.t 12) (.c (.bool true)) (.t 14))), false, []⟩,
      ⟨(some 16), none, (.p (.mv (.t 15))), false, []⟩,
      ⟨(some 17), (some (16, false)), (.p (.mv (.t 0))), false, []⟩,
      ⟨(some 18), (some (16, false)), (.p (.bin .geq (.t 17) (.c (.int .i64 65536)))), false, []⟩,
      ⟨(some 19), none, (.p (.pick (.t 16) (.c (.bool true)) (.t 18))), false, []⟩,
      ⟨(some 20), none, (.p (.mv (.t 19))), false, []⟩,
      ⟨(some 21), (some (20, false)), (.p (.mv (.t 1))), false, []⟩,
      ⟨(some 22), (some (20, false)), (.p (.bin .geq (.t 21) (.c (.int .i64 65536)))), false, []⟩,
      ⟨(some 23), none, (.p (.pick (.t 20) (.c (.bool true)) (.t 22))), false, []⟩] (some ⟨[0, 1, 2, 23], [], false⟩))
    (.cond (.t 23)
     (.seq
      (.region 0 [⟨(some 6), none, (.p (.mv (.c (.sl 0 [] true)))), false, []⟩,
        ⟨(some 7), none, (.p (.mv (.c (.int .i64 11)))), false, []⟩] (some ⟨[6, 7], [], false⟩))
      .ret)
     .skip))
   (.seq
    (.seq
     (.region 0 [⟨(some 24), none, (.p (.mv (.t 2))), false, []⟩,
       ⟨(some 25), none, (.p (.len (.t 24))), false, []⟩,
       ⟨(some 26), none, (.p (.bin .gtr (.t 25) (.c (.int .i64 1472)))), false, []⟩] (some ⟨[0, 1, 2, 26], [], false⟩))
     (.cond (.t 26)
      (.seq
       (.region 0 [⟨(some 6), none, (.p (.mv (.c (.sl 0 [] true)))), false, []⟩,
         ⟨(some 7), none, (.p (.mv (.c (.int .i64 14)))), false, []⟩] (some ⟨[6, 7], [], false⟩))
       .ret)
      .skip))
    (.seq
     (.region 0 [⟨(some 27), none, (.p (.mv (.t 2))), false, []⟩,
       ⟨(some 28), none, (.p (.len (.t 27))), false, []⟩,
       ⟨(some 29), none, (.p (.bin .add (.c (.int .i64 8)) (.t 28))), false, []⟩,
       ⟨(some 8), none, (.p (.mv (.t 29))), false, []⟩] (some ⟨[0, 1, 2, 8], [], false⟩))
     (.seq
      (.region 0 [⟨(some 30), none, (.p (.mv (.t 0))), false, []⟩,
        ⟨(some 31), none, (.p (.bin .quo (.t 30) (.c (.int .i64 256)))), false, []⟩,
        ⟨(some 32), none, (.p (.convI .u8 (.t 31))), false, []⟩,
        ⟨(some 33), none, (.p (.mv (.t 0))), false, []⟩,
        ⟨(some 34), none, (.p (.bin .rem (.t 33) (.c (.int .i64 256)))), false, []⟩,
        ⟨(some 35), none, (.p (.convI .u8 (.t 34))), false, []⟩,
        ⟨(some 36), none, (.p (.mv (.t 1))), false, []⟩,
        ⟨(some 37), none, (.p (.bin .quo (.t 36) (.c (.int .i64 256)))), false, []⟩,
        ⟨(some 38), none, (.p (.convI .u8 (.t 37))), false, []⟩,
        ⟨(some 39), none, (.p (.mv (.t 1))), false, []⟩,
        ⟨(some 40), none, (.p (.bin .rem (.t 39) (.c (.int .i64 256)))), false, []⟩,
        ⟨(some 41), none, (.p (.convI .u8 (.t 40))), false, []⟩,
        ⟨(some 42), none, (.p (.mv (.t 8))), false, []⟩,
        ⟨(some 43), none, (.p (.bin .quo (.t 42) (.c (.int .i64 256)))), false, []⟩,
        ⟨(some 44), none, (.p (.convI .u8 (.t 43))), false, []⟩,
        ⟨(some 45), none, (.p (.mv (.t 8))), false, []⟩,
        ⟨(some 46), none, (.p (.bin .rem (.t 45) (.c (.int .i64 256)))), false, []⟩,
        ⟨(some 47), none, (.p (.convI .u8 (.t 46))), false, []⟩,
        ⟨(some 48), none, (.e (.mks 5 1 (.int .u8 0) 8 [(0, (.t 32)), (1, (.t 35)), (2, (.t 38)), (3, (.t 41)), (4, (.t 44)), (5, (.t 47)), (6, (.c (.int .u8 0))), (7, (.c (.int .u8 0)))]) none), false, []⟩,
        ⟨(some 9), none, (.p (.mv (.t 48))), false, []⟩] (some ⟨[2, 9], [], false⟩))
      (.seq
       (.region 0 [⟨(some 49), none, (.p (.mv (.t 9))), false, []⟩,
         ⟨(some 50), none, (.p (.mv (.t 2))), false, []⟩,
         ⟨(some 51), none, (.e (.append 5 1 (.t 49) (.t 50)) none), false, []⟩,
         ⟨(some 6), none, (.p (.mv (.t 51))), false, []⟩,
         ⟨(some 7), none, (.p (.mv (.c (.int .i64 0)))), false, []⟩] (some ⟨[6, 7], [], false⟩))
       .ret))))))
theorem Try.run28 {xs : List AV} {r : AV} (hl : xs.length ≤ 52) (h : aw Try.prog Try.c28 (Pv.Ends [6, 7] r) (entry xs)) : Run Try.prog 28 xs r :=
  run_of (fun _ _ => drawOk Try.mixed) Try.func28 rfl rfl rfl (by kernel_rfl) (by kernel_rfl) hl h
/-! 29 paling/palinglaw07.works : params [], results [4], free 0, zeros [] -/
def Try.c29 : AC :=
 (.seq
  (.region 0 [⟨(some 0), none, (.p (.mv (.c (.bool false)))), false, []⟩] (some ⟨[], [], false⟩))
  (.seq
   (.region 0 [⟨(some 6), none, (.e (.make 5 1 (.int .u8 0) (.c (.int .i64 95)) (.c (.int .i64 95))) none), false, []⟩,
     ⟨(some 7), none, (.p (.build [(.int .i64 0), (.int .i64 0), (.int .i64 0), (.int .i64 0), (.int .u32 0), (.int .u32 0), (.sl 0 [] true)] [(2, 1, (.c (.int .i64 64))), (3, 1, (.c (.int .i64 17))), (4, 1, (.c (.int .u32 3232235521))), (5, 1, (.c (.int .u32 3232235719))), (6, 1, (.t 6))])), false, []⟩,
     ⟨(some 8), none, (.call 33 [(.t 7)] false), false, []⟩,
     ⟨(some 5), none, (.p (.mv (.t 8))), false, []⟩,
     ⟨(some 9), none, (.p (.ext (.t 5) 0)), false, []⟩,
     ⟨(some 10), none, (.p (.ext (.t 5) 1)), false, []⟩,
     ⟨(some 1), none, (.p (.mv (.t 9))), false, []⟩,
     ⟨(some 2), none, (.p (.mv (.t 10))), false, []⟩] (some ⟨[1, 2], [], false⟩))
   (.seq
    (.region 0 [⟨(some 12), none, (.call 30 [(.c (.sl 0 [] true))] false), false, []⟩,
      ⟨(some 11), none, (.p (.mv (.t 12))), false, []⟩,
      ⟨(some 13), none, (.p (.ext (.t 11) 0)), false, []⟩,
      ⟨(some 14), none, (.p (.ext (.t 11) 1)), false, []⟩,
      ⟨(some 3), none, (.e (.alloc 48 (.agg [(.int .i64 0), (.int .i64 0), (.int .i64 0), (.int .i64 0), (.int .u32 0), (.int .u32 0), (.sl 0 [] true)])) none), false, []⟩,
      ⟨none, none, (.e (.store 7 (.t 3) (.t 13)) none), false, []⟩,
      ⟨(some 4), none, (.p (.mv (.t 14))), false, []⟩] (some ⟨[1, 2, 4], [], false⟩))
    (.seq
     (.region 0 [⟨(some 15), none, (.p (.mv (.t 2))), false, []⟩,
       ⟨(some 16), none, (.p (.bin .eql (.t 15) (.c (.int .i64 0)))), false, []⟩,
       ⟨(some 17), none, (.p (.mv (.t 16))), false, []⟩,
       ⟨(some 18), (some (17, true)), (.p (.mv (.t 1))), false, []⟩,
       ⟨(some 19), (some (17, true)), (.p (.len (.t 18))), false, []⟩,
       ⟨(some 20), (some (17, true)), (.p (.bin .eql (.t 19) (.c (.int .i64 115)))), false, []⟩,
       ⟨(some 21), none, (.p (.pick (.t 17) (.t 20) (.c (.bool false)))), false, []⟩,
       ⟨(some 22), none, (.p (.mv (.t 21))), false, []⟩,
       ⟨(some 23), (some (22, true)), (.p (.mv (.t 1))), false, []⟩,
       ⟨(some 24), (some (22, true)), (.p (.iaddr 1 (.t 23) (.c (.int .i64 10)))), false, []⟩,
       ⟨(some 25), (some (22, true)), (.r (.load 1 false (.t 24))), false, []⟩,
       ⟨(some 26), (some (22, true)), (.p (.bin .eql (.t 25) (.c (.int .u8 248)))), false, []⟩,
       ⟨(some 27), none, (.p (.pick (.t 22) (.t 26) (.c (.bool false)))), false, []⟩,
       ⟨(some 28), none, (.p (.mv (.t 27))), false, []⟩,
       ⟨(some 29), (some (28, true)), (.p (.mv (.t 1))), false, []⟩,
       ⟨(some 30), (some (28, true)), (.p (.iaddr 1 (.t 29) (.c (.int .i64 11)))), false, []⟩,
       ⟨(some 31), (some (28, true)), (.r (.load 1 false (.t 30))), false, []⟩,
       ⟨(some 32), (some (28, true)), (.p (.bin .eql (.t 31) (.c (.int .u8 97)))), false, []⟩,
       ⟨(some 33), none, (.p (.pick (.t 28) (.t 32) (.c (.bool false)))), false, []⟩,
       ⟨(some 34), none, (.p (.mv (.t 33))), false, []⟩,
       ⟨(some 35), (some (34, true)), (.p (.mv (.t 4))), false, []⟩,
       ⟨(some 36), (some (34, true)), (.p (.bin .eql (.t 35) (.c (.int .i64 10)))), false, []⟩,
       ⟨(some 37), none, (.p (.pick (.t 34) (.t 36) (.c (.bool false)))), false, []⟩,
       ⟨(some 0), none, (.p (.mv (.t 37))), false, []⟩] (some ⟨[0], [], false⟩))
     .ret))))
theorem Try.run29 {xs : List AV} {r : AV} (hl : xs.length ≤ 38) (h : aw Try.prog Try.c29 (Pv.Ends [0] r) (entry xs)) : Run Try.prog 29 xs r :=
  run_of (fun _ _ => drawOk Try.mixed) Try.func29 rfl rfl rfl (by kernel_rfl) (by kernel_rfl) hl h
/-! 30 paling/ipv4.Take : params [22], results [48, 33], free 0, zeros [(.slice none 0 0)] -/
def Try.c30 : AC :=
 (.seq
  (.region 0 [⟨(some 2), none, (.e (.alloc 48 (.agg [(.int .i64 0), (.int .i64 0), (.int .i64 0), (.int .i64 0), (.int .u32 0), (.int .u32 0), (.sl 0 [] true)])) none), false, []⟩,
    ⟨(some 3), none, (.p (.mv (.c (.int .i64 0)))), false, []⟩] (some ⟨[0, 2], [], false⟩))
  (.seq
   (.block 0
    (.seq
     (.region 0 [⟨(some 5), none, (.p (.mv (.t 0))), false, []⟩,
       ⟨(some 6), none, (.p (.len (.t 5))), false, []⟩,
       ⟨(some 7), none, (.p (.bin .lss (.t 6) (.c (.int .i64 20)))), false, []⟩,
       ⟨(some 4), none, (.p (.mv (.t 7))), false, []⟩] (some ⟨[0, 2, 4], [], false⟩))
     (.cond (.t 4)
      (.seq
       (.region 0 [⟨(some 8), none, (.p (.build [(.int .i64 0), (.int .i64 0), (.int .i64 0), (.int .i64 0), (.int .u32 0), (.int .u32 0), (.sl 0 [] true)] [])), false, []⟩,
         ⟨none, none, (.e (.store 7 (.t 2) (.t 8)) none), false, []⟩,
         ⟨(some 3), none, (.p (.mv (.c (.int .i64 10)))), false, []⟩] (some ⟨[2, 3], [], false⟩))
       .ret)
      (.seq
       (.region 0 [⟨(some 10), none, (.p (.mv (.t 0))), false, []⟩,
         ⟨(some 11), none, (.p (.iaddr 1 (.t 10) (.c (.int .i64 0)))), false, []⟩,
         ⟨(some 12), none, (.r (.load 1 false (.t 11))), false, []⟩,
         ⟨(some 13), none, (.p (.bin .neq (.t 12) (.c (.int .u8 69)))), false, []⟩,
         ⟨(some 14), none, (.p (.mv (.t 13))), false, []⟩,
         ⟨(some 15), (some (14, false)), (.p (.mv (.t 0))), false, []⟩,
         ⟨(some 16), (some (14, false)), (.call 43 [(.t 15), (.c (.int .i64 2))] false), false, []⟩,
         ⟨(some 17), (some (14, false)), (.p (.bin .lss (.t 16) (.c (.int .i64 20)))), false, []⟩,
         ⟨(some 18), none, (.p (.pick (.t 14) (.c (.bool true)) (.t 17))), false, []⟩,
         ⟨(some 9), none, (.p (.mv (.t 18))), false, []⟩] (some ⟨[0, 2, 9], [], false⟩))
       (.cond (.t 9)
        (.seq
         (.region 0 [⟨(some 19), none, (.p (.build [(.int .i64 0), (.int .i64 0), (.int .i64 0), (.int .i64 0), (.int .u32 0), (.int .u32 0), (.sl 0 [] true)] [])), false, []⟩,
           ⟨none, none, (.e (.store 7 (.t 2) (.t 19)) none), false, []⟩,
           ⟨(some 3), none, (.p (.mv (.c (.int .i64 11)))), false, []⟩] (some ⟨[2, 3], [], false⟩))
         .ret)
        (.seq
         (.region 0 [⟨(some 21), none, (.p (.mv (.t 0))), false, []⟩,
           ⟨(some 22), none, (.call 43 [(.t 21), (.c (.int .i64 2))] false), false, []⟩,
           ⟨(some 23), none, (.p (.mv (.t 0))), false, []⟩,
           ⟨(some 24), none, (.p (.len (.t 23))), false, []⟩,
           ⟨(some 25), none, (.p (.bin .gtr (.t 22) (.t 24))), false, []⟩,
           ⟨(some 20), none, (.p (.mv (.t 25))), false, []⟩] (some ⟨[0, 2, 20], [], false⟩))
         (.cond (.t 20)
          (.seq
           (.region 0 [⟨(some 26), none, (.p (.build [(.int .i64 0), (.int .i64 0), (.int .i64 0), (.int .i64 0), (.int .u32 0), (.int .u32 0), (.sl 0 [] true)] [])), false, []⟩,
             ⟨none, none, (.e (.store 7 (.t 2) (.t 26)) none), false, []⟩,
             ⟨(some 3), none, (.p (.mv (.c (.int .i64 10)))), false, []⟩] (some ⟨[2, 3], [], false⟩))
           .ret)
          (.seq
           (.region 0 [⟨(some 28), none, (.p (.mv (.t 0))), false, []⟩,
             ⟨(some 29), none, (.call 43 [(.t 28), (.c (.int .i64 6))] false), false, []⟩,
             ⟨(some 30), none, (.p (.bin .neq (.t 29) (.c (.int .i64 0)))), false, []⟩,
             ⟨(some 27), none, (.p (.mv (.t 30))), false, []⟩] (some ⟨[0, 2, 27], [], false⟩))
           (.cond (.t 27)
            (.seq
             (.region 0 [⟨(some 31), none, (.p (.build [(.int .i64 0), (.int .i64 0), (.int .i64 0), (.int .i64 0), (.int .u32 0), (.int .u32 0), (.sl 0 [] true)] [])), false, []⟩,
               ⟨none, none, (.e (.store 7 (.t 2) (.t 31)) none), false, []⟩,
               ⟨(some 3), none, (.p (.mv (.c (.int .i64 11)))), false, []⟩] (some ⟨[2, 3], [], false⟩))
             .ret)
            (.seq
             (.region 0 [⟨(some 33), none, (.p (.mv (.t 0))), false, []⟩,
               ⟨(some 34), none, (.p (.slicev 1 (.t 33) none (some (.c (.int .i64 20))) none)), false, []⟩,
               ⟨(some 35), none, (.call 17 [(.t 34)] false), false, []⟩,
               ⟨(some 36), none, (.p (.un .not (.t 35))), false, []⟩,
               ⟨(some 32), none, (.p (.mv (.t 36))), false, []⟩] (some ⟨[0, 2, 32], [], false⟩))
             (.cond (.t 32)
              (.seq
               (.region 0 [⟨(some 37), none, (.p (.build [(.int .i64 0), (.int .i64 0), (.int .i64 0), (.int .i64 0), (.int .u32 0), (.int .u32 0), (.sl 0 [] true)] [])), false, []⟩,
                 ⟨none, none, (.e (.store 7 (.t 2) (.t 37)) none), false, []⟩,
                 ⟨(some 3), none, (.p (.mv (.c (.int .i64 12)))), false, []⟩] (some ⟨[2, 3], [], false⟩))
               .ret)
              .skip)))))))))))
   (.seq
    (.region 26 [⟨(some 38), none, (.p (.mv (.t 0))), false, []⟩,
      ⟨(some 39), none, (.p (.iaddr 1 (.t 38) (.c (.int .i64 1)))), false, []⟩,
      ⟨(some 40), none, (.r (.load 1 false (.t 39))), false, []⟩,
      ⟨(some 41), none, (.p (.convI .i64 (.t 40))), false, []⟩,
      ⟨(some 42), none, (.p (.mv (.t 0))), false, []⟩,
      ⟨(some 44), none, (.p (.mv (.t 0))), false, []⟩,
      ⟨(some 45), none, (.p (.iaddr 1 (.t 44) (.c (.int .i64 8)))), false, []⟩,
      ⟨(some 46), none, (.r (.load 1 false (.t 45))), false, []⟩,
      ⟨(some 47), none, (.p (.convI .i64 (.t 46))), false, []⟩,
      ⟨(some 48), none, (.p (.mv (.t 0))), false, []⟩,
      ⟨(some 49), none, (.p (.iaddr 1 (.t 48) (.c (.int .i64 9)))), false, []⟩,
      ⟨(some 50), none, (.r (.load 1 false (.t 49))), false, []⟩,
      ⟨(some 51), none, (.p (.convI .i64 (.t 50))), false, []⟩,
      ⟨(some 52), none, (.p (.mv (.t 0))), false, []⟩,
      ⟨(some 54), none, (.p (.mv (.t 0))), false, []⟩,
      ⟨(some 56), none, (.p (.mv (.t 0))), false, []⟩,
      ⟨(some 57), none, (.p (.mv (.t 0))), false, []⟩,
      ⟨(some 43), none, (.call 43 [(.t 42), (.c (.int .i64 4))] true), false, []⟩,
      ⟨(some 53), none, (.call 44 [(.t 52), (.c (.int .i64 12))] true), false, []⟩,
      ⟨(some 55), none, (.call 44 [(.t 54), (.c (.int .i64 16))] true), false, []⟩,
      ⟨(some 58), none, (.call 43 [(.t 57), (.c (.int .i64 2))] true), false, []⟩,
      ⟨(some 59), none, (.p (.slicev 1 (.t 56) (some (.c (.int .i64 20))) (some (.t 58)) none)), false, []⟩,
      ⟨(some 60), none, (.call 42 [(.t 59)] true), false, []⟩,
      ⟨(some 61), none, (.p (.build [(.int .i64 0), (.int .i64 0), (.int .i64 0), (.int .i64 0), (.int .u32 0), (.int .u32 0), (.sl 0 [] true)] [(0, 1, (.t 41)), (1, 1, (.t 43)), (2, 1, (.t 47)), (3, 1, (.t 51)), (4, 1, (.t 53)), (5, 1, (.t 55)), (6, 1, (.t 60))])), false, []⟩,
      ⟨none, none, (.e (.store 7 (.t 2) (.t 61)) (some 24)), false, []⟩,
      ⟨(some 3), none, (.p (.mv (.c (.int .i64 0)))), false, []⟩] (some ⟨[2, 3], [], true⟩))
    .ret)))
theorem Try.run30 {xs : List AV} {r : AV} (hl : xs.length ≤ 62) (h : aw Try.prog Try.c30 (Pv.EndsX (rvs [.c 2 7 true, .t 3]) r) (entry xs)) : Run Try.prog 30 xs r :=
  run_ofC (fun _ _ => drawOk Try.mixed) Try.func30 rfl rfl (by kernel_rfl) (by kernel_rfl) (by kernel_rfl) hl h
/-! 31 paling/palingref07.Take : params [22], results [48, 3], free 0, zeros [(.slice none 0 0)] -/
def Try.c31 : AC :=
 (.seq
  (.region 0 [⟨(some 2), none, (.e (.alloc 48 (.agg [(.int .i64 0), (.int .i64 0), (.int .i64 0), (.int .i64 0), (.int .u32 0), (.int .u32 0), (.sl 0 [] true)])) none), false, []⟩,
    ⟨(some 3), none, (.p (.mv (.c (.int .i64 0)))), false, []⟩] (some ⟨[0, 2], [], false⟩))
  (.seq
   (.seq
    (.region 0 [⟨(some 6), none, (.p (.mv (.t 0))), false, []⟩,
      ⟨(some 7), none, (.p (.len (.t 6))), false, []⟩,
      ⟨(some 8), none, (.p (.bin .lss (.t 7) (.c (.int .i64 20)))), false, []⟩] (some ⟨[0, 2, 8], [], false⟩))
    (.cond (.t 8)
     (.seq
      (.region 0 [⟨(some 9), none, (.p (.build [(.int .i64 0), (.int .i64 0), (.int .i64 0), (.int .i64 0), (.int .u32 0), (.int .u32 0), (.sl 0 [] true)] [])), false, []⟩,
        ⟨none, none, (.e (.store 7 (.t 2) (.t 9)) none), false, []⟩,
        ⟨(some 3), none, (.p (.mv (.c (.int .i64 10)))), false, []⟩] (some ⟨[2, 3], [], false⟩))
      .ret)
     .skip))
   (.seq
    (.region 0 [⟨(some 10), none, (.p (.mv (.t 0))), false, []⟩,
      ⟨(some 11), none, (.p (.slicev 1 (.t 10) (some (.c (.int .i64 2))) (some (.c (.int .i64 4))) none)), false, []⟩,
      ⟨(some 12), none, (.call 45 [(.t 11)] false), false, []⟩,
      ⟨(some 4), none, (.p (.mv (.t 12))), false, []⟩] (some ⟨[0, 2, 4], [], false⟩))
    (.seq
     (.seq
      (.region 0 [⟨(some 13), none, (.p (.mv (.t 0))), false, []⟩,
        ⟨(some 14), none, (.p (.iaddr 1 (.t 13) (.c (.int .i64 0)))), false, []⟩,
        ⟨(some 15), none, (.r (.load 1 false (.t 14))), false, []⟩,
        ⟨(some 16), none, (.p (.bin .neq (.t 15) (.c (.int .u8 69)))), false, []⟩,
        ⟨(some 17), none, (.p (.mv (.t 16))), false, []⟩,
        ⟨(some 18), (some (17, false)), (.p (.mv (.t 4))), false, []⟩,
        ⟨(some 19), (some (17, false)), (.p (.bin .lss (.t 18) (.c (.int .i64 20)))), false, []⟩,
        ⟨(some 20), none, (.p (.pick (.t 17) (.c (.bool true)) (.t 19))), false, []⟩] (some ⟨[0, 2, 4, 20], [], false⟩))
      (.cond (.t 20)
       (.seq
        (.region 0 [⟨(some 21), none, (.p (.build [(.int .i64 0), (.int .i64 0), (.int .i64 0), (.int .i64 0), (.int .u32 0), (.int .u32 0), (.sl 0 [] true)] [])), false, []⟩,
          ⟨none, none, (.e (.store 7 (.t 2) (.t 21)) none), false, []⟩,
          ⟨(some 3), none, (.p (.mv (.c (.int .i64 11)))), false, []⟩] (some ⟨[2, 3], [], false⟩))
        .ret)
       .skip))
     (.seq
      (.seq
       (.region 0 [⟨(some 22), none, (.p (.mv (.t 4))), false, []⟩,
         ⟨(some 23), none, (.p (.mv (.t 0))), false, []⟩,
         ⟨(some 24), none, (.p (.len (.t 23))), false, []⟩,
         ⟨(some 25), none, (.p (.bin .gtr (.t 22) (.t 24))), false, []⟩] (some ⟨[0, 2, 4, 25], [], false⟩))
       (.cond (.t 25)
        (.seq
         (.region 0 [⟨(some 26), none, (.p (.build [(.int .i64 0), (.int .i64 0), (.int .i64 0), (.int .i64 0), (.int .u32 0), (.int .u32 0), (.sl 0 [] true)] [])), false, []⟩,
           ⟨none, none, (.e (.store 7 (.t 2) (.t 26)) none), false, []⟩,
           ⟨(some 3), none, (.p (.mv (.c (.int .i64 10)))), false, []⟩] (some ⟨[2, 3], [], false⟩))
         .ret)
        .skip))
      (.seq
       (.seq
        (.region 0 [⟨(some 27), none, (.p (.mv (.t 0))), false, []⟩,
          ⟨(some 28), none, (.p (.slicev 1 (.t 27) (some (.c (.int .i64 6))) (some (.c (.int .i64 8))) none)), false, []⟩,
          ⟨(some 29), none, (.call 45 [(.t 28)] false), false, []⟩,
          ⟨(some 30), none, (.p (.bin .neq (.t 29) (.c (.int .i64 0)))), false, []⟩] (some ⟨[0, 2, 4, 30], [], false⟩))
        (.cond (.t 30)
         (.seq
          (.region 0 [⟨(some 31), none, (.p (.build [(.int .i64 0), (.int .i64 0), (.int .i64 0), (.int .i64 0), (.int .u32 0), (.int .u32 0), (.sl 0 [] true)] [])), false, []⟩,
            ⟨none, none, (.e (.store 7 (.t 2) (.t 31)) none), false, []⟩,
            ⟨(some 3), none, (.p (.mv (.c (.int .i64 11)))), false, []⟩] (some ⟨[2, 3], [], false⟩))
          .ret)
         .skip))
       (.seq
        (.seq
         (.region 0 [⟨(some 32), none, (.p (.mv (.t 0))), false, []⟩,
           ⟨(some 33), none, (.p (.slicev 1 (.t 32) none (some (.c (.int .i64 20))) none)), false, []⟩,
           ⟨(some 34), none, (.call 18 [(.t 33)] false), false, []⟩,
           ⟨(some 35), none, (.p (.un .not (.t 34))), false, []⟩] (some ⟨[0, 2, 4, 35], [], false⟩))
         (.cond (.t 35)
          (.seq
           (.region 0 [⟨(some 36), none, (.p (.build [(.int .i64 0), (.int .i64 0), (.int .i64 0), (.int .i64 0), (.int .u32 0), (.int .u32 0), (.sl 0 [] true)] [])), false, []⟩,
             ⟨none, none, (.e (.store 7 (.t 2) (.t 36)) none), false, []⟩,
             ⟨(some 3), none, (.p (.mv (.c (.int .i64 12)))), false, []⟩] (some ⟨[2, 3], [], false⟩))
           .ret)
          .skip))
        (.seq
         (.region 18 [⟨(some 37), none, (.p (.mv (.t 0))), true, []⟩,
           ⟨(some 38), none, (.p (.iaddr 1 (.t 37) (.c (.int .i64 1)))), true, []⟩,
           ⟨(some 39), none, (.r (.load 1 false (.t 38))), true, []⟩,
           ⟨(some 40), none, (.p (.convI .i64 (.t 39))), true, []⟩,
           ⟨(some 41), none, (.p (.mv (.t 0))), true, []⟩,
           ⟨(some 42), none, (.p (.slicev 1 (.t 41) (some (.c (.int .i64 4))) (some (.c (.int .i64 6))) none)), true, []⟩,
           ⟨(some 44), none, (.p (.mv (.t 0))), true, []⟩,
           ⟨(some 45), none, (.p (.iaddr 1 (.t 44) (.c (.int .i64 8)))), true, []⟩,
           ⟨(some 46), none, (.r (.load 1 false (.t 45))), true, []⟩,
           ⟨(some 47), none, (.p (.convI .i64 (.t 46))), true, []⟩,
           ⟨(some 48), none, (.p (.mv (.t 0))), true, []⟩,
           ⟨(some 49), none, (.p (.iaddr 1 (.t 48) (.c (.int .i64 9)))), true, []⟩,
           ⟨(some 50), none, (.r (.load 1 false (.t 49))), true, []⟩,
           ⟨(some 51), none, (.p (.convI .i64 (.t 50))), true, []⟩,
           ⟨(some 43), none, (.call 45 [(.t 42)] true), true, []⟩,
           ⟨(some 52), none, (.p (.build [(.int .i64 0), (.int .i64 0), (.int .i64 0), (.int .i64 0), (.int .u32 0), (.int .u32 0), (.sl 0 [] true)] [(0, 1, (.t 40)), (1, 1, (.t 43)), (2, 1, (.t 47)), (3, 1, (.t 51))])), true, []⟩,
           ⟨(some 5), none, (.e (.alloc 48 (.agg [(.int .i64 0), (.int .i64 0), (.int .i64 0), (.int .i64 0), (.int .u32 0), (.int .u32 0), (.sl 0 [] true)])) (some 16)), true, []⟩,
           ⟨none, none, (.e (.store 7 (.t 5) (.t 52)) (some 17)), true, []⟩] (some ⟨[0, 2, 4, 5], [], true⟩))
         (.seq
          (.region 0 [⟨(some 53), none, (.p (.mv (.t 0))), false, []⟩,
            ⟨(some 54), none, (.p (.slicev 1 (.t 53) (some (.c (.int .i64 12))) (some (.c (.int .i64 16))) none)), false, []⟩,
            ⟨(some 55), none, (.call 45 [(.t 54)] false), false, []⟩,
            ⟨(some 56), none, (.p (.convI .u32 (.t 55))), false, []⟩,
            ⟨(some 57), none, (.p (.faddr 4 (.t 5))), false, []⟩,
            ⟨none, none, (.e (.store 1 (.t 57) (.t 56)) none), false, []⟩] (some ⟨[0, 2, 4, 5], [], false⟩))
          (.seq
           (.region 0 [⟨(some 58), none, (.p (.mv (.t 0))), false, []⟩,
             ⟨(some 59), none, (.p (.slicev 1 (.t 58) (some (.c (.int .i64 16))) (some (.c (.int .i64 20))) none)), false, []⟩,
             ⟨(some 60), none, (.call 45 [(.t 59)] false), false, []⟩,
             ⟨(some 61), none, (.p (.convI .u32 (.t 60))), false, []⟩,
             ⟨(some 62), none, (.p (.faddr 5 (.t 5))), false, []⟩,
             ⟨none, none, (.e (.store 1 (.t 62) (.t 61)) none), false, []⟩] (some ⟨[0, 2, 4, 5], [], false⟩))
           (.seq
            (.region 0 [⟨(some 63), none, (.e (.mks 5 1 (.int .u8 0) 0 []) none), false, []⟩,
              ⟨(some 64), none, (.p (.mv (.t 0))), false, []⟩,
              ⟨(some 65), none, (.p (.mv (.t 4))), false, []⟩,
              ⟨(some 66), none, (.p (.slicev 1 (.t 64) (some (.c (.int .i64 20))) (some (.t 65)) none)), false, []⟩,
              ⟨(some 67), none, (.e (.append 5 1 (.t 63) (.t 66)) none), false, []⟩,
              ⟨(some 68), none, (.p (.faddr 6 (.t 5))), false, []⟩,
              ⟨none, none, (.e (.store 1 (.t 68) (.t 67)) none), false, []⟩] (some ⟨[2, 5], [], false⟩))
            (.seq
             (.region 0 [⟨(some 69), none, (.r (.load 7 true (.t 5))), false, []⟩,
               ⟨none, none, (.e (.store 7 (.t 2) (.t 69)) none), false, []⟩,
               ⟨(some 3), none, (.p (.mv (.c (.int .i64 0)))), false, []⟩] (some ⟨[2, 3], [], false⟩))
             .ret))))))))))))
theorem Try.run31 {xs : List AV} {r : AV} (hl : xs.length ≤ 70) (h : aw Try.prog Try.c31 (Pv.EndsX (rvs [.c 2 7 true, .t 3]) r) (entry xs)) : Run Try.prog 31 xs r :=
  run_ofC (fun _ _ => drawOk Try.mixed) Try.func31 rfl rfl (by kernel_rfl) (by kernel_rfl) (by kernel_rfl) hl h
/-! 32 paling/palingref07.Same : params [48, 48], results [4], free 0, zeros [(.agg #[(.int .i64 (0)), (.int .i64 (0)), (.int .i64 (0)), (.int .i64 (0)), (.int .u32 (0)), (.int .u32 (0)), (.slice none 0 0)]), (.agg #[(.int .i64 (0)), (.int .i64 (0)), (.int .i64 (0)), (.int .i64 (0)), (.int .u32 (0)), (.int .u32 (0)), (.slice none 0 0)])] -/
def Try.c32 : AC :=
 (.seq
  (.region 0 [⟨(some 2), none, (.e (.box 48 (.t 0)) none), false, []⟩,
    ⟨(some 3), none, (.e (.box 48 (.t 1)) none), false, []⟩,
    ⟨(some 4), none, (.p (.mv (.c (.bool false)))), false, []⟩] (some ⟨[2, 3], [], false⟩))
  (.seq
   (.region 0 [⟨(some 5), none, (.p (.faddr 0 (.t 2))), false, []⟩,
     ⟨(some 6), none, (.r (.load 1 false (.t 5))), false, []⟩,
     ⟨(some 7), none, (.p (.faddr 0 (.t 3))), false, []⟩,
     ⟨(some 8), none, (.r (.load 1 false (.t 7))), false, []⟩,
     ⟨(some 9), none, (.p (.bin .eql (.t 6) (.t 8))), false, []⟩,
     ⟨(some 10), none, (.p (.mv (.t 9))), false, []⟩,
     ⟨(some 11), (some (10, true)), (.p (.faddr 1 (.t 2))), false, []⟩,
     ⟨(some 12), (some (10, true)), (.r (.load 1 false (.t 11))), false, []⟩,
     ⟨(some 13), (some (10, true)), (.p (.faddr 1 (.t 3))), false, []⟩,
     ⟨(some 14), (some (10, true)), (.r (.load 1 false (.t 13))), false, []⟩,
     ⟨(some 15), (some (10, true)), (.p (.bin .eql (.t 12) (.t 14))), false, []⟩,
     ⟨(some 16), none, (.p (.pick (.t 10) (.t 15) (.c (.bool false)))), false, []⟩,
     ⟨(some 17), none, (.p (.mv (.t 16))), false, []⟩,
     ⟨(some 18), (some (17, true)), (.p (.faddr 2 (.t 2))), false, []⟩,
     ⟨(some 19), (some (17, true)), (.r (.load 1 false (.t 18))), false, []⟩,
     ⟨(some 20), (some (17, true)), (.p (.faddr 2 (.t 3))), false, []⟩,
     ⟨(some 21), (some (17, true)), (.r (.load 1 false (.t 20))), false, []⟩,
     ⟨(some 22), (some (17, true)), (.p (.bin .eql (.t 19) (.t 21))), false, []⟩,
     ⟨(some 23), none, (.p (.pick (.t 17) (.t 22) (.c (.bool false)))), false, []⟩,
     ⟨(some 24), none, (.p (.mv (.t 23))), false, []⟩,
     ⟨(some 25), (some (24, true)), (.p (.faddr 3 (.t 2))), false, []⟩,
     ⟨(some 26), (some (24, true)), (.r (.load 1 false (.t 25))), false, []⟩,
     ⟨(some 27), (some (24, true)), (.p (.faddr 3 (.t 3))), false, []⟩,
     ⟨(some 28), (some (24, true)), (.r (.load 1 false (.t 27))), false, []⟩,
     ⟨(some 29), (some (24, true)), (.p (.bin .eql (.t 26) (.t 28))), false, []⟩,
     ⟨(some 30), none, (.p (.pick (.t 24) (.t 29) (.c (.bool false)))), false, []⟩,
     ⟨(some 31), none, (.p (.mv (.t 30))), false, []⟩,
     ⟨(some 32), (some (31, true)), (.p (.faddr 4 (.t 2))), false, []⟩,
     ⟨(some 33), (some (31, true)), (.r (.load 1 false (.t 32))), false, []⟩,
     ⟨(some 34), (some (31, true)), (.p (.faddr 4 (.t 3))), false, []⟩,
     ⟨(some 35), (some (31, true)), (.r (.load 1 false (.t 34))), false, []⟩,
     ⟨(some 36), (some (31, true)), (.p (.bin .eql (.t 33) (.t 35))), false, []⟩,
     ⟨(some 37), none, (.p (.pick (.t 31) (.t 36) (.c (.bool false)))), false, []⟩,
     ⟨(some 38), none, (.p (.mv (.t 37))), false, []⟩,
     ⟨(some 39), (some (38, true)), (.p (.faddr 5 (.t 2))), false, []⟩,
     ⟨(some 40), (some (38, true)), (.r (.load 1 false (.t 39))), false, []⟩,
     ⟨(some 41), (some (38, true)), (.p (.faddr 5 (.t 3))), false, []⟩,
     ⟨(some 42), (some (38, true)), (.r (.load 1 false (.t 41))), false, []⟩,
     ⟨(some 43), (some (38, true)), (.p (.bin .eql (.t 40) (.t 42))), false, []⟩,
     ⟨(some 44), none, (.p (.pick (.t 38) (.t 43) (.c (.bool false)))), false, []⟩,
     ⟨(some 45), none, (.p (.mv (.t 44))), false, []⟩,
     ⟨(some 46), (some (45, true)), (.p (.faddr 6 (.t 2))), false, []⟩,
     ⟨(some 47), (some (45, true)), (.r (.load 1 false (.t 46))), false, []⟩,
     ⟨(some 48), (some (45, true)), (.r (.b2s (.t 47))), false, []⟩,
     ⟨(some 49), (some (45, true)), (.p (.faddr 6 (.t 3))), false, []⟩,
     ⟨(some 50), (some (45, true)), (.r (.load 1 false (.t 49))), false, []⟩,
     ⟨(some 51), (some (45, true)), (.r (.b2s (.t 50))), false, []⟩,
     ⟨(some 52), (some (45, true)), (.p (.bin .eql (.t 48) (.t 51))), false, []⟩,
     ⟨(some 53), none, (.p (.pick (.t 45) (.t 52) (.c (.bool false)))), false, []⟩,
     ⟨(some 4), none, (.p (.mv (.t 53))), false, []⟩] (some ⟨[4], [], false⟩))
   .ret))
theorem Try.run32 {xs : List AV} {r : AV} (hl : xs.length ≤ 54) (h : aw Try.prog Try.c32 (Pv.Ends [4] r) (entry xs)) : Run Try.prog 32 xs r :=
  run_of (fun _ _ => drawOk Try.mixed) Try.func32 rfl rfl rfl (by kernel_rfl) (by kernel_rfl) hl h
/-! 33 paling/ipv4.Put : params [48], results [22, 33], free 0, zeros [(.agg #[(.int .i64 (0)), (.int .i64 (0)), (.int .i64 (0)), (.int .i64 (0)), (.int .u32 (0)), (.int .u32 (0)), (.slice none 0 0)])] -/
def Try.c33 : AC :=
 (.seq
  (.region 0 [⟨(some 1), none, (.e (.box 48 (.t 0)) none), false, []⟩,
    ⟨(some 2), none, (.p (.mv (.c (.sl 0 [] true)))), false, []⟩,
    ⟨(some 3), none, (.p (.mv (.c (.int .i64 0)))), false, []⟩] (some ⟨[1], [], false⟩))
  (.seq
   (.region 0 [⟨(some 4), none, (.p (.mv (.c (.fn 46 [])))), false, []⟩] (some ⟨[1, 4], [], false⟩))
   (.seq
    (.block 0
     (.seq
      (.region 0 [⟨(some 8), none, (.p (.mv (.t 4))), false, []⟩,
        ⟨(some 9), none, (.p (.faddr 0 (.t 1))), false, []⟩,
        ⟨(some 10), none, (.r (.load 1 false (.t 9))), false, []⟩,
        ⟨(some 11), none, (.callv (.t 8) [(.t 10), (.c (.int .i64 255))]), false, []⟩,
        ⟨(some 12), none, (.p (.un .not (.t 11))), false, []⟩,
        ⟨(some 13), none, (.p (.mv (.t 12))), false, []⟩,
        ⟨(some 14), (some (13, false)), (.p (.mv (.t 4))), false, []⟩,
        ⟨(some 15), (some (13, false)), (.p (.faddr 2 (.t 1))), false, []⟩,
        ⟨(some 16), (some (13, false)), (.r (.load 1 false (.t 15))), false, []⟩,
        ⟨(some 17), (some (13, false)), (.callv (.t 14) [(.t 16), (.c (.int .i64 255))]), false, []⟩,
        ⟨(some 18), (some (13, false)), (.p (.un .not (.t 17))), false, []⟩,
        ⟨(some 19), none, (.p (.pick (.t 13) (.c (.bool true)) (.t 18))), false, []⟩,
        ⟨(some 20), none, (.p (.mv (.t 19))), false, []⟩,
        ⟨(some 21), (some (20, false)), (.p (.mv (.t 4))), false, []⟩,
        ⟨(some 22), (some (20, false)), (.p (.faddr 3 (.t 1))), false, []⟩,
        ⟨(some 23), (some (20, false)), (.r (.load 1 false (.t 22))), false, []⟩,
        ⟨(some 24), (some (20, false)), (.callv (.t 21) [(.t 23), (.c (.int .i64 255))]), false, []⟩,
        ⟨(some 25), (some (20, false)), (.p (.un .not (.t 24))), false, []⟩,
        ⟨(some 26), none, (.p (.pick (.t 20) (.c (.bool true)) (.t 25))), false, []⟩,
        ⟨(some 27), none, (.p (.mv (.t 26))), false, []⟩,
        ⟨(some 28), (some (27, false)), (.p (.mv (.t 4))), false, []⟩,
        ⟨(some 29), (some (27, false)), (.p (.faddr 1 (.t 1))), false, []⟩,
        ⟨(some 30), (some (27, false)), (.r (.load 1 false (.t 29))), false, []⟩,
        ⟨(some 31), (some (27, false)), (.callv (.t 28) [(.t 30), (.c (.int .i64 65535))]), false, []⟩,
        ⟨(some 32), (some (27, false)), (.p (.un .not (.t 31))), false, []⟩,
        ⟨(some 33), none, (.p (.pick (.t 27) (.c (.bool true)) (.t 32))), false, []⟩,
        ⟨(some 7), none, (.p (.mv (.t 33))), false, []⟩] (some ⟨[1, 7], [], false⟩))
      (.cond (.t 7)
       (.seq
        (.region 0 [⟨(some 2), none, (.p (.mv (.c (.sl 0 [] true)))), false, []⟩,
          ⟨(some 3), none, (.p (.mv (.c (.int .i64 11)))), false, []⟩] (some ⟨[2, 3], [], false⟩))
        .ret)
       (.seq
        (.region 0 [⟨(some 35), none, (.p (.faddr 6 (.t 1))), false, []⟩,
          ⟨(some 36), none, (.r (.load 1 false (.t 35))), false, []⟩,
          ⟨(some 37), none, (.p (.len (.t 36))), false, []⟩,
          ⟨(some 38), none, (.p (.bin .gtr (.t 37) (.c (.int .i64 1480)))), false, []⟩,
          ⟨(some 34), none, (.p (.mv (.t 38))), false, []⟩] (some ⟨[1, 34], [], false⟩))
        (.cond (.t 34)
         (.seq
          (.region 0 [⟨(some 2), none, (.p (.mv (.c (.sl 0 [] true)))), false, []⟩,
            ⟨(some 3), none, (.p (.mv (.c (.int .i64 14)))), false, []⟩] (some ⟨[2, 3], [], false⟩))
          .ret)
         .skip)))))
    (.seq
     (.region 0 [⟨(some 39), none, (.p (.faddr 0 (.t 1))), false, []⟩,
       ⟨(some 40), none, (.r (.load 1 false (.t 39))), false, []⟩,
       ⟨(some 41), none, (.p (.bin .or (.c (.int .i64 17664)) (.t 40))), false, []⟩,
       ⟨(some 42), none, (.p (.faddr 6 (.t 1))), false, []⟩,
       ⟨(some 43), none, (.r (.load 1 false (.t 42))), false, []⟩,
       ⟨(some 44), none, (.p (.len (.t 43))), false, []⟩,
       ⟨(some 45), none, (.p (.bin .add (.c (.int .i64 20)) (.t 44))), false, []⟩,
       ⟨(some 46), none, (.p (.faddr 1 (.t 1))), false, []⟩,
       ⟨(some 47), none, (.r (.load 1 false (.t 46))), false, []⟩,
       ⟨(some 48), none, (.p (.faddr 2 (.t 1))), false, []⟩,
       ⟨(some 49), none, (.r (.load 1 false (.t 48))), false, []⟩,
       ⟨(some 50), none, (.p (.bin .shl (.t 49) (.c (.int .u64 8)))), false, []⟩,
       ⟨(some 51), none, (.p (.faddr 3 (.t 1))), false, []⟩,
       ⟨(some 52), none, (.r (.load 1 false (.t 51))), false, []⟩,
       ⟨(some 53), none, (.p (.bin .or (.t 50) (.t 52))), false, []⟩,
       ⟨(some 54), none, (.p (.faddr 4 (.t 1))), false, []⟩,
       ⟨(some 55), none, (.r (.load 1 false (.t 54))), false, []⟩,
       ⟨(some 56), none, (.p (.bin .shr (.t 55) (.c (.int .u64 16)))), false, []⟩,
       ⟨(some 57), none, (.p (.convI .i64 (.t 56))), false, []⟩,
       ⟨(some 58), none, (.p (.faddr 4 (.t 1))), false, []⟩,
       ⟨(some 59), none, (.r (.load 1 false (.t 58))), false, []⟩,
       ⟨(some 60), none, (.p (.convI .i64 (.t 59))), false, []⟩,
       ⟨(some 61), none, (.p (.faddr 5 (.t 1))), false, []⟩,
       ⟨(some 62), none, (.r (.load 1 false (.t 61))), false, []⟩,
       ⟨(some 63), none, (.p (.bin .shr (.t 62) (.c (.int .u64 16)))), false, []⟩,
       ⟨(some 64), none, (.p (.convI .i64 (.t 63))), false, []⟩,
       ⟨(some 65), none, (.p (.faddr 5 (.t 1))), false, []⟩,
       ⟨(some 66), none, (.r (.load 1 false (.t 65))), false, []⟩,
       ⟨(some 67), none, (.p (.convI .i64 (.t 66))), false, []⟩,
       ⟨(some 68), none, (.e (.mks 3 1 (.int .i64 0) 10 [(0, (.t 41)), (1, (.t 45)), (2, (.t 47)), (3, (.c (.int .i64 0))), (4, (.t 53)), (5, (.c (.int .i64 0))), (6, (.t 57)), (7, (.t 60)), (8, (.t 64)), (9, (.t 67))]) none), false, []⟩,
       ⟨(some 69), none, (.call 47 [(.c (.sl 0 [] true)), (.t 68)] false), false, []⟩,
       ⟨(some 5), none, (.p (.mv (.t 69))), false, []⟩] (some ⟨[1, 5], [], false⟩))
     (.seq
      (.region 0 [⟨(some 70), none, (.p (.mv (.t 5))), false, []⟩,
        ⟨(some 71), none, (.call 15 [(.t 70)] false), false, []⟩,
        ⟨(some 6), none, (.p (.mv (.t 71))), false, []⟩] (some ⟨[1, 5, 6], [], false⟩))
      (.seq
       (.region 0 [⟨(some 72), none, (.p (.mv (.t 5))), false, []⟩,
         ⟨(some 73), none, (.p (.mv (.t 5))), false, []⟩,
         ⟨(some 74), none, (.p (.mv (.t 6))), false, []⟩,
         ⟨(some 75), none, (.p (.bin .shr (.t 74) (.c (.int .u64 8)))), false, []⟩,
         ⟨(some 76), none, (.p (.convI .u8 (.t 75))), false, []⟩,
         ⟨(some 77), none, (.p (.mv (.t 6))), false, []⟩,
         ⟨(some 78), none, (.p (.convI .u8 (.t 77))), false, []⟩,
         ⟨(some 79), none, (.p (.iaddr 1 (.t 72) (.c (.int .i64 10)))), false, []⟩,
         ⟨none, none, (.e (.store 1 (.t 79) (.t 76)) none), false, []⟩,
         ⟨(some 80), none, (.p (.iaddr 1 (.t 73) (.c (.int .i64 11)))), false, []⟩,
         ⟨none, none, (.e (.store 1 (.t 80) (.t 78)) none), false, []⟩] (some ⟨[1, 5], [], false⟩))
       (.seq
        (.region 0 [⟨(some 81), none, (.p (.mv (.t 5))), false, []⟩,
          ⟨(some 82), none, (.p (.faddr 6 (.t 1))), false, []⟩,
          ⟨(some 83), none, (.r (.load 1 false (.t 82))), false, []⟩,
          ⟨(some 84), none, (.e (.append 5 1 (.t 81) (.t 83)) none), false, []⟩,
          ⟨(some 2), none, (.p (.mv (.t 84))), false, []⟩,
          ⟨(some 3), none, (.p (.mv (.c (.int .i64 0)))), false, []⟩] (some ⟨[2, 3], [], false⟩))
        .ret)))))))
theorem Try.run33 {xs : List AV} {r : AV} (hl : xs.length ≤ 85) (h : aw Try.prog Try.c33 (Pv.Ends [2, 3] r) (entry xs)) : Run Try.prog 33 xs r :=
  run_of (fun _ _ => drawOk Try.mixed) Try.func33 rfl rfl rfl (by kernel_rfl) (by kernel_rfl) hl h
/-! 34 paling/ipv4.Same : params [48, 48], results [4], free 0, zeros [(.agg #[(.int .i64 (0)), (.int .i64 (0)), (.int .i64 (0)), (.int .i64 (0)), (.int .u32 (0)), (.int .u32 (0)), (.slice none 0 0)]), (.agg #[(.int .i64 (0)), (.int .i64 (0)), (.int .i64 (0)), (.int .i64 (0)), (.int .u32 (0)), (.int .u32 (0)), (.slice none 0 0)])] -/
def Try.c34 : AC :=
 (.seq
  (.region 0 [⟨(some 2), none, (.e (.box 48 (.t 0)) none), false, []⟩,
    ⟨(some 3), none, (.e (.box 48 (.t 1)) none), false, []⟩,
    ⟨(some 4), none, (.p (.mv (.c (.bool false)))), false, []⟩] (some ⟨[2, 3], [], false⟩))
  (.seq
   (.region 0 [⟨(some 5), none, (.p (.faddr 0 (.t 2))), false, []⟩,
     ⟨(some 6), none, (.r (.load 1 false (.t 5))), false, []⟩,
     ⟨(some 7), none, (.p (.faddr 0 (.t 3))), false, []⟩,
     ⟨(some 8), none, (.r (.load 1 false (.t 7))), false, []⟩,
     ⟨(some 9), none, (.p (.bin .eql (.t 6) (.t 8))), false, []⟩,
     ⟨(some 10), none, (.p (.mv (.t 9))), false, []⟩,
     ⟨(some 11), (some (10, true)), (.p (.faddr 1 (.t 2))), false, []⟩,
     ⟨(some 12), (some (10, true)), (.r (.load 1 false (.t 11))), false, []⟩,
     ⟨(some 13), (some (10, true)), (.p (.faddr 1 (.t 3))), false, []⟩,
     ⟨(some 14), (some (10, true)), (.r (.load 1 false (.t 13))), false, []⟩,
     ⟨(some 15), (some (10, true)), (.p (.bin .eql (.t 12) (.t 14))), false, []⟩,
     ⟨(some 16), none, (.p (.pick (.t 10) (.t 15) (.c (.bool false)))), false, []⟩,
     ⟨(some 17), none, (.p (.mv (.t 16))), false, []⟩,
     ⟨(some 18), (some (17, true)), (.p (.faddr 2 (.t 2))), false, []⟩,
     ⟨(some 19), (some (17, true)), (.r (.load 1 false (.t 18))), false, []⟩,
     ⟨(some 20), (some (17, true)), (.p (.faddr 2 (.t 3))), false, []⟩,
     ⟨(some 21), (some (17, true)), (.r (.load 1 false (.t 20))), false, []⟩,
     ⟨(some 22), (some (17, true)), (.p (.bin .eql (.t 19) (.t 21))), false, []⟩,
     ⟨(some 23), none, (.p (.pick (.t 17) (.t 22) (.c (.bool false)))), false, []⟩,
     ⟨(some 24), none, (.p (.mv (.t 23))), false, []⟩,
     ⟨(some 25), (some (24, true)), (.p (.faddr 3 (.t 2))), false, []⟩,
     ⟨(some 26), (some (24, true)), (.r (.load 1 false (.t 25))), false, []⟩,
     ⟨(some 27), (some (24, true)), (.p (.faddr 3 (.t 3))), false, []⟩,
     ⟨(some 28), (some (24, true)), (.r (.load 1 false (.t 27))), false, []⟩,
     ⟨(some 29), (some (24, true)), (.p (.bin .eql (.t 26) (.t 28))), false, []⟩,
     ⟨(some 30), none, (.p (.pick (.t 24) (.t 29) (.c (.bool false)))), false, []⟩,
     ⟨(some 31), none, (.p (.mv (.t 30))), false, []⟩,
     ⟨(some 32), (some (31, true)), (.p (.faddr 4 (.t 2))), false, []⟩,
     ⟨(some 33), (some (31, true)), (.r (.load 1 false (.t 32))), false, []⟩,
     ⟨(some 34), (some (31, true)), (.p (.faddr 4 (.t 3))), false, []⟩,
     ⟨(some 35), (some (31, true)), (.r (.load 1 false (.t 34))), false, []⟩,
     ⟨(some 36), (some (31, true)), (.p (.bin .eql (.t 33) (.t 35))), false, []⟩,
     ⟨(some 37), none, (.p (.pick (.t 31) (.t 36) (.c (.bool false)))), false, []⟩,
     ⟨(some 38), none, (.p (.mv (.t 37))), false, []⟩,
     ⟨(some 39), (some (38, true)), (.p (.faddr 5 (.t 2))), false, []⟩,
     ⟨(some 40), (some (38, true)), (.r (.load 1 false (.t 39))), false, []⟩,
     ⟨(some 41), (some (38, true)), (.p (.faddr 5 (.t 3))), false, []⟩,
     ⟨(some 42), (some (38, true)), (.r (.load 1 false (.t 41))), false, []⟩,
     ⟨(some 43), (some (38, true)), (.p (.bin .eql (.t 40) (.t 42))), false, []⟩,
     ⟨(some 44), none, (.p (.pick (.t 38) (.t 43) (.c (.bool false)))), false, []⟩,
     ⟨(some 45), none, (.p (.mv (.t 44))), false, []⟩,
     ⟨(some 46), (some (45, true)), (.p (.faddr 6 (.t 2))), false, []⟩,
     ⟨(some 47), (some (45, true)), (.r (.load 1 false (.t 46))), false, []⟩,
     ⟨(some 48), (some (45, true)), (.r (.b2s (.t 47))), false, []⟩,
     ⟨(some 49), (some (45, true)), (.p (.faddr 6 (.t 3))), false, []⟩,
     ⟨(some 50), (some (45, true)), (.r (.load 1 false (.t 49))), false, []⟩,
     ⟨(some 51), (some (45, true)), (.r (.b2s (.t 50))), false, []⟩,
     ⟨(some 52), (some (45, true)), (.p (.bin .eql (.t 48) (.t 51))), false, []⟩,
     ⟨(some 53), none, (.p (.pick (.t 45) (.t 52) (.c (.bool false)))), false, []⟩,
     ⟨(some 4), none, (.p (.mv (.t 53))), false, []⟩] (some ⟨[4], [], false⟩))
   .ret))
theorem Try.run34 {xs : List AV} {r : AV} (hl : xs.length ≤ 54) (h : aw Try.prog Try.c34 (Pv.Ends [4] r) (entry xs)) : Run Try.prog 34 xs r :=
  run_of (fun _ _ => drawOk Try.mixed) Try.func34 rfl rfl rfl (by kernel_rfl) (by kernel_rfl) hl h
/-! 35 paling/palinglaw07.zero : params [5, 5, 5, 5], results [4], free 0, zeros [(.int .u8 (0)), (.int .u8 (0)), (.int .u8 (0)), (.int .u8 (0))] -/
def Try.c35 : AC :=
 (.seq
  (.region 0 [⟨(some 8), none, (.p (.mv (.c (.bool false)))), false, []⟩] (some ⟨[0, 1, 2, 3], [], false⟩))
  (.seq
   (.region 0 [⟨(some 9), none, (.p (.mv (.t 0))), false, []⟩,
     ⟨(some 10), none, (.p (.mv (.t 1))), false, []⟩,
     ⟨(some 11), none, (.p (.bin .eql (.t 9) (.t 10))), false, []⟩,
     ⟨(some 12), none, (.p (.mv (.t 11))), false, []⟩,
     ⟨(some 13), (some (12, true)), (.p (.mv (.t 2))), false, []⟩,
     ⟨(some 14), (some (12, true)), (.p (.mv (.t 3))), false, []⟩,
     ⟨(some 15), (some (12, true)), (.p (.bin .eql (.t 13) (.t 14))), false, []⟩,
     ⟨(some 16), none, (.p (.pick (.t 12) (.t 15) (.c (.bool false)))), false, []⟩,
     ⟨(some 17), none, (.p (.mv (.t 16))), false, []⟩,
     ⟨(some 18), (some (17, true)), (.p (.mv (.t 0))), false, []⟩,
     ⟨(some 19), (some (17, true)), (.p (.bin .eql (.t 18) (.c (.int .u8 0)))), false, []⟩,
     ⟨(some 20), (some (17, true)), (.p (.mv (.t 19))), false, []⟩,
     ⟨(some 21), (some (20, true)), (.p (.mv (.t 2))), false, []⟩,
     ⟨(some 22), (some (20, true)), (.p (.bin .eql (.t 21) (.c (.int .u8 255)))), false, []⟩,
     ⟨(some 23), (some (17, true)), (.p (.pick (.t 20) (.t 22) (.c (.bool false)))), false, []⟩,
     ⟨(some 24), (some (17, true)), (.p (.mv (.t 23))), false, []⟩,
     ⟨(some 25), (some (24, false)), (.p (.mv (.t 0))), false, []⟩,
     ⟨(some 26), (some (24, false)), (.p (.bin .eql (.t 25) (.c (.int .u8 255)))), false, []⟩,
     ⟨(some 27), (some (24, false)), (.p (.mv (.t 26))), false, []⟩,
     ⟨(some 28), (some (27, true)), (.p (.mv (.t 2))), false, []⟩,
     ⟨(some 29), (some (27, true)), (.p (.bin .eql (.t 28) (.c (.int .u8 0)))), false, []⟩,
     ⟨(some 30), (some (24, false)), (.p (.pick (.t 27) (.t 29) (.c (.bool false)))), false, []⟩,
     ⟨(some 31), (some (17, true)), (.p (.pick (.t 24) (.c (.bool true)) (.t 30))), false, []⟩,
     ⟨(some 32), none, (.p (.pick (.t 17) (.t 31) (.c (.bool false)))), false, []⟩,
     ⟨(some 8), none, (.p (.mv (.t 32))), false, []⟩] (some ⟨[8], [], false⟩))
   .ret))
theorem Try.run35 {xs : List AV} {r : AV} (hl : xs.length ≤ 33) (h : aw Try.prog Try.c35 (Pv.Ends [8] r) (entry xs)) : Run Try.prog 35 xs r :=
  run_of (fun _ _ => drawOk Try.mixed) Try.func35 rfl rfl rfl (by kernel_rfl) (by kernel_rfl) hl h
/-! 36 paling/palingref07.Put : params [48], results [22, 3], free 0, zeros [(.agg #[(.int .i64 (0)), (.int .i64 (0)), (.int .i64 (0)), (.int .i64 (0)), (.int .u32 (0)), (.int .u32 (0)), (.slice none 0 0)])] -/
def Try.c36 : AC :=
 (.seq
  (.region 0 [⟨(some 1), none, (.e (.box 48 (.t 0)) none), false, []⟩,
    ⟨(some 2), none, (.p (.mv (.c (.sl 0 [] true)))), false, []⟩,
    ⟨(some 3), none, (.p (.mv (.c (.int .i64 0)))), false, []⟩] (some ⟨[1], [], false⟩))
  (.seq
   (.seq
    (.region 0 [⟨(some 8), none, (.p (.faddr 0 (.t 1))), false, []⟩,
      ⟨(some 9), none, (.r (.load 1 false (.t 8))), false, []⟩,
      ⟨(some 10), none, (.call 48 [(.t 9), (.c (.int .i64 255))] false), false, []⟩,
      ⟨(some 11), none, (.p (.mv (.t 10))), false, []⟩,
      ⟨(some 12), (some (11, false)), (.p (.faddr 2 (.t 1))), false, []⟩,
      ⟨(some 13), (some (11, false)), (.r (.load 1 false (.t 12))), false, []⟩,
      ⟨(some 14), (some (11, false)), (.call 48 [(.t 13), (.c (.int .i64 255))] false), false, []⟩,
      ⟨(some 15), none, (.p (.pick (.t 11) (.c (.bool true)) (.t 14))), false, []⟩,
      ⟨(some 16), none, (.p (.mv (.t 15))), false, []⟩,
      ⟨(some 17), (some (16, false)), (.p (.faddr 3 (.t 1))), false, []⟩,
      ⟨(some 18), (some (16, false)), (.r (.load 1 false (.t 17))), false, []⟩,
      ⟨(some 19), (some (16, false)), (.call 48 [(.t 18), (.c (.int .i64 255))] false), false, []⟩,
      ⟨(some 20), none, (.p (.pick (.t 16) (.c (.bool true)) (.t 19))), false, []⟩,
      ⟨(some 21), none, (.p (.mv (.t 20))), false, []⟩,
      ⟨(some 22), (some (21, false)), (.p (.faddr 1 (.t 1))), false, []⟩,
      ⟨(some 23), (some (21, false)), (.r (.load 1 false (.t 22))), false, []⟩,
      ⟨(some 24), (some (21, false)), (.call 48 [(.t 23), (.c (.int .i64 65535))] false), false, []⟩,
      ⟨(some 25), none, (.p (.pick (.t 21) (.c (.bool true)) (.t 24))), false, []⟩] (some ⟨[1, 25], [], false⟩))
    (.cond (.t 25)
     (.seq
      (.region 0 [⟨(some 2), none, (.p (.mv (.c (.sl 0 [] true)))), false, []⟩,
        ⟨(some 3), none, (.p (.mv (.c (.int .i64 11)))), false, []⟩] (some ⟨[2, 3], [], false⟩))
      .ret)
     .skip))
   (.seq
    (.seq
     (.region 0 [⟨(some 26), none, (.p (.faddr 6 (.t 1))), false, []⟩,
       ⟨(some 27), none, (.r (.load 1 false (.t 26))), false, []⟩,
       ⟨(some 28), none, (.p (.len (.t 27))), false, []⟩,
       ⟨(some 29), none, (.p (.bin .gtr (.t 28) (.c (.int .i64 1480)))), false, []⟩] (some ⟨[1, 29], [], false⟩))
     (.cond (.t 29)
      (.seq
       (.region 0 [⟨(some 2), none, (.p (.mv (.c (.sl 0 [] true)))), false, []⟩,
         ⟨(some 3), none, (.p (.mv (.c (.int .i64 14)))), false, []⟩] (some ⟨[2, 3], [], false⟩))
       .ret)
      .skip))
    (.seq
     (.region 0 [⟨(some 30), none, (.p (.faddr 0 (.t 1))), false, []⟩,
       ⟨(some 31), none, (.r (.load 1 false (.t 30))), false, []⟩,
       ⟨(some 32), none, (.p (.convI .u8 (.t 31))), false, []⟩,
       ⟨(some 33), none, (.e (.mks 5 1 (.int .u8 0) 2 [(0, (.c (.int .u8 69))), (1, (.t 32))]) none), false, []⟩,
       ⟨(some 4), none, (.p (.mv (.t 33))), false, []⟩] (some ⟨[1, 4], [], false⟩))
     (.seq
      (.region 0 [⟨(some 34), none, (.p (.mv (.t 4))), false, []⟩,
        ⟨(some 35), none, (.p (.faddr 6 (.t 1))), false, []⟩,
        ⟨(some 36), none, (.r (.load 1 false (.t 35))), false, []⟩,
        ⟨(some 37), none, (.p (.len (.t 36))), false, []⟩,
        ⟨(some 38), none, (.p (.bin .add (.c (.int .i64 20)) (.t 37))), false, []⟩,
        ⟨(some 39), none, (.call 49 [(.t 38), (.c (.int .i64 2))] false), false, []⟩,
        ⟨(some 40), none, (.e (.append 5 1 (.t 34) (.t 39)) none), false, []⟩,
        ⟨(some 4), none, (.p (.mv (.t 40))), false, []⟩] (some ⟨[1, 4], [], false⟩))
      (.seq
       (.region 0 [⟨(some 41), none, (.p (.mv (.t 4))), false, []⟩,
         ⟨(some 42), none, (.p (.faddr 1 (.t 1))), false, []⟩,
         ⟨(some 43), none, (.r (.load 1 false (.t 42))), false, []⟩,
         ⟨(some 44), none, (.call 49 [(.t 43), (.c (.int .i64 2))] false), false, []⟩,
         ⟨(some 45), none, (.e (.append 5 1 (.t 41) (.t 44)) none), false, []⟩,
         ⟨(some 4), none, (.p (.mv (.t 45))), false, []⟩] (some ⟨[1, 4], [], false⟩))
       (.seq
        (.region 0 [⟨(some 46), none, (.p (.mv (.t 4))), false, []⟩,
          ⟨(some 47), none, (.p (.faddr 2 (.t 1))), false, []⟩,
          ⟨(some 48), none, (.r (.load 1 false (.t 47))), false, []⟩,
          ⟨(some 49), none, (.p (.convI .u8 (.t 48))), false, []⟩,
          ⟨(some 50), none, (.p (.faddr 3 (.t 1))), false, []⟩,
          ⟨(some 51), none, (.r (.load 1 false (.t 50))), false, []⟩,
          ⟨(some 52), none, (.p (.convI .u8 (.t 51))), false, []⟩,
          ⟨(some 53), none, (.e (.mks 5 1 (.int .u8 0) 4 [(0, (.c (.int .u8 0))), (1, (.c (.int .u8 0))), (2, (.t 49)), (3, (.t 52))]) none), false, []⟩,
          ⟨(some 54), none, (.e (.append 5 1 (.t 46) (.t 53)) none), false, []⟩,
          ⟨(some 4), none, (.p (.mv (.t 54))), false, []⟩] (some ⟨[1, 4], [], false⟩))
        (.seq
         (.region 10 [⟨(some 55), none, (.p (.faddr 4 (.t 1))), false, [5]⟩,
           ⟨(some 56), none, (.r (.load 1 false (.t 55))), false, [5]⟩,
           ⟨(some 57), none, (.p (.convI .i64 (.t 56))), false, [5]⟩,
           ⟨(some 59), none, (.p (.faddr 5 (.t 1))), false, [5]⟩,
           ⟨(some 60), none, (.r (.load 1 false (.t 59))), false, [5]⟩,
           ⟨(some 61), none, (.p (.convI .i64 (.t 60))), false, [5]⟩,
           ⟨(some 58), none, (.call 49 [(.t 57), (.c (.int .i64 4))] true), false, [5]⟩,
           ⟨(some 62), none, (.call 49 [(.t 61), (.c (.int .i64 4))] true), false, [5]⟩,
           ⟨(some 63), none, (.e (.append 5 1 (.t 58) (.t 62)) (some 8)), false, [5]⟩,
           ⟨(some 5), none, (.p (.mv (.t 63))), false, [5]⟩] (some ⟨[1, 4, 5], [], true⟩))
         (.seq
          (.region 0 [⟨(some 64), none, (.e (.mks 5 1 (.int .u8 0) 0 []) none), false, []⟩,
            ⟨(some 65), none, (.p (.mv (.t 4))), false, []⟩,
            ⟨(some 66), none, (.e (.append 5 1 (.t 64) (.t 65)) none), false, []⟩,
            ⟨(some 67), none, (.p (.mv (.t 5))), false, []⟩,
            ⟨(some 68), none, (.e (.append 5 1 (.t 66) (.t 67)) none), false, []⟩,
            ⟨(some 69), none, (.call 16 [(.t 68)] false), false, []⟩,
            ⟨(some 6), none, (.p (.mv (.t 69))), false, []⟩] (some ⟨[1, 4, 5, 6], [], false⟩))
          (.seq
           (.region 0 [⟨(some 70), none, (.p (.mv (.t 4))), false, []⟩,
             ⟨(some 71), none, (.p (.mv (.t 6))), false, []⟩,
             ⟨(some 72), none, (.call 49 [(.t 71), (.c (.int .i64 2))] false), false, []⟩,
             ⟨(some 73), none, (.e (.append 5 1 (.t 70) (.t 72)) none), false, []⟩,
             ⟨(some 74), none, (.p (.mv (.t 5))), false, []⟩,
             ⟨(some 75), none, (.e (.append 5 1 (.t 73) (.t 74)) none), false, []⟩,
             ⟨(some 7), none, (.p (.mv (.t 75))), false, []⟩] (some ⟨[1, 7], [], false⟩))
           (.seq
            (.region 0 [⟨(some 76), none, (.p (.mv (.t 7))), false, []⟩,
              ⟨(some 77), none, (.p (.faddr 6 (.t 1))), false, []⟩,
              ⟨(some 78), none, (.r (.load 1 false (.t 77))), false, []⟩,
              ⟨(some 79), none, (.e (.append 5 1 (.t 76) (.t 78)) none), false, []⟩,
              ⟨(some 2), none, (.p (.mv (.t 79))), false, []⟩,
              ⟨(some 3), none, (.p (.mv (.c (.int .i64 0)))), false, []⟩] (some ⟨[2, 3], [], false⟩))
            .ret)))))))))))
theorem Try.run36 {xs : List AV} {r : AV} (hl : xs.length ≤ 80) (h : aw Try.prog Try.c36 (Pv.Ends [2, 3] r) (entry xs)) : Run Try.prog 36 xs r :=
  run_of (fun _ _ => drawOk Try.mixed) Try.func36 rfl rfl rfl (by kernel_rfl) (by kernel_rfl) hl h
/-! 37 paling/ipv4.Hop : params [48], results [48, 33], free 0, zeros [(.agg #[(.int .i64 (0)), (.int .i64 (0)), (.int .i64 (0)), (.int .i64 (0)), (.int .u32 (0)), (.int .u32 (0)), (.slice none 0 0)])] -/
def Try.c37 : AC :=
 (.seq
  (.region 0 [⟨(some 1), none, (.e (.box 48 (.t 0)) none), false, []⟩,
    ⟨(some 2), none, (.e (.alloc 48 (.agg [(.int .i64 0), (.int .i64 0), (.int .i64 0), (.int .i64 0), (.int .u32 0), (.int .u32 0), (.sl 0 [] true)])) none), false, []⟩,
    ⟨(some 3), none, (.p (.mv (.c (.int .i64 0)))), false, []⟩] (some ⟨[1, 2], [], false⟩))
  (.seq
   (.seq
    (.region 0 [⟨(some 4), none, (.p (.faddr 2 (.t 1))), false, []⟩,
      ⟨(some 5), none, (.r (.load 1 false (.t 4))), false, []⟩,
      ⟨(some 6), none, (.p (.bin .leq (.t 5) (.c (.int .i64 1)))), false, []⟩] (some ⟨[1, 2, 6], [], false⟩))
    (.cond (.t 6)
     (.seq
      (.region 0 [⟨(some 7), none, (.p (.build [(.int .i64 0), (.int .i64 0), (.int .i64 0), (.int .i64 0), (.int .u32 0), (.int .u32 0), (.sl 0 [] true)] [])), false, []⟩,
        ⟨none, none, (.e (.store 7 (.t 2) (.t 7)) none), false, []⟩,
        ⟨(some 3), none, (.p (.mv (.c (.int .i64 13)))), false, []⟩] (some ⟨[2, 3], [], false⟩))
      .ret)
     .skip))
   (.seq
    (.region 0 [⟨(some 8), none, (.p (.faddr 2 (.t 1))), false, []⟩,
      ⟨(some 9), none, (.r (.load 1 false (.t 8))), false, []⟩,
      ⟨(some 10), none, (.p (.bin .sub (.t 9) (.c (.int .i64 1)))), false, []⟩,
      ⟨(some 11), none, (.p (.faddr 2 (.t 1))), false, []⟩,
      ⟨none, none, (.e (.store 1 (.t 11) (.t 10)) none), false, []⟩] (some ⟨[1, 2], [], false⟩))
    (.seq
     (.region 0 [⟨(some 12), none, (.p (.faddr 6 (.t 1))), false, []⟩,
       ⟨(some 13), none, (.r (.load 1 false (.t 12))), false, []⟩,
       ⟨(some 14), none, (.call 42 [(.t 13)] false), false, []⟩,
       ⟨(some 15), none, (.p (.faddr 6 (.t 1))), false, []⟩,
       ⟨none, none, (.e (.store 1 (.t 15) (.t 14)) none), false, []⟩] (some ⟨[1, 2], [], false⟩))
     (.seq
      (.region 0 [⟨(some 16), none, (.r (.load 7 true (.t 1))), false, []⟩,
        ⟨none, none, (.e (.store 7 (.t 2) (.t 16)) none), false, []⟩,
        ⟨(some 3), none, (.p (.mv (.c (.int .i64 0)))), false, []⟩] (some ⟨[2, 3], [], false⟩))
      .ret)))))
theorem Try.run37 {xs : List AV} {r : AV} (hl : xs.length ≤ 17) (h : aw Try.prog Try.c37 (Pv.EndsX (rvs [.c 2 7 true, .t 3]) r) (entry xs)) : Run Try.prog 37 xs r :=
  run_ofC (fun _ _ => drawOk Try.mixed) Try.func37 rfl rfl (by kernel_rfl) (by kernel_rfl) (by kernel_rfl) hl h
/-! 38 paling/palingref07.Hop : params [48], results [48, 3], free 0, zeros [(.agg #[(.int .i64 (0)), (.int .i64 (0)), (.int .i64 (0)), (.int .i64 (0)), (.int .u32 (0)), (.int .u32 (0)), (.slice none 0 0)])] -/
def Try.c38 : AC :=
 (.seq
  (.region 0 [⟨(some 1), none, (.e (.box 48 (.t 0)) none), false, []⟩,
    ⟨(some 2), none, (.e (.alloc 48 (.agg [(.int .i64 0), (.int .i64 0), (.int .i64 0), (.int .i64 0), (.int .u32 0), (.int .u32 0), (.sl 0 [] true)])) none), false, []⟩,
    ⟨(some 3), none, (.p (.mv (.c (.int .i64 0)))), false, []⟩] (some ⟨[1, 2], [], false⟩))
  (.seq
   (.seq
    (.region 0 [⟨(some 4), none, (.p (.faddr 2 (.t 1))), false, []⟩,
      ⟨(some 5), none, (.r (.load 1 false (.t 4))), false, []⟩,
      ⟨(some 6), none, (.p (.bin .leq (.t 5) (.c (.int .i64 1)))), false, []⟩] (some ⟨[1, 2, 6], [], false⟩))
    (.cond (.t 6)
     (.seq
      (.region 0 [⟨(some 7), none, (.p (.build [(.int .i64 0), (.int .i64 0), (.int .i64 0), (.int .i64 0), (.int .u32 0), (.int .u32 0), (.sl 0 [] true)] [])), false, []⟩,
        ⟨none, none, (.e (.store 7 (.t 2) (.t 7)) none), false, []⟩,
        ⟨(some 3), none, (.p (.mv (.c (.int .i64 13)))), false, []⟩] (some ⟨[2, 3], [], false⟩))
      .ret)
     .skip))
   (.seq
    (.region 0 [⟨(some 8), none, (.p (.faddr 2 (.t 1))), false, []⟩,
      ⟨(some 9), none, (.r (.load 1 false (.t 8))), false, []⟩,
      ⟨(some 10), none, (.p (.bin .sub (.t 9) (.c (.int .i64 1)))), false, []⟩,
      ⟨(some 11), none, (.p (.faddr 2 (.t 1))), false, []⟩,
      ⟨none, none, (.e (.store 1 (.t 11) (.t 10)) none), false, []⟩] (some ⟨[1, 2], [], false⟩))
    (.seq
     (.region 0 [⟨(some 12), none, (.r (.load 7 true (.t 1))), false, []⟩,
       ⟨none, none, (.e (.store 7 (.t 2) (.t 12)) none), false, []⟩,
       ⟨(some 3), none, (.p (.mv (.c (.int .i64 0)))), false, []⟩] (some ⟨[2, 3], [], false⟩))
     .ret))))
theorem Try.run38 {xs : List AV} {r : AV} (hl : xs.length ≤ 13) (h : aw Try.prog Try.c38 (Pv.EndsX (rvs [.c 2 7 true, .t 3]) r) (entry xs)) : Run Try.prog 38 xs r :=
  run_ofC (fun _ _ => drawOk Try.mixed) Try.func38 rfl rfl (by kernel_rfl) (by kernel_rfl) (by kernel_rfl) hl h
/-! 39 paling/sum.add : params [22], results [3], free 0, zeros [(.slice none 0 0)] -/
def Try.c39b0 : AC :=
 (.seq
  (.seq
   (.region 0 [⟨(some 5), none, (.p (.mv (.t 4))), false, []⟩,
     ⟨(some 6), none, (.p (.bin .add (.t 5) (.c (.int .i64 1)))), false, []⟩,
     ⟨(some 7), none, (.p (.mv (.t 0))), false, []⟩,
     ⟨(some 8), none, (.p (.len (.t 7))), false, []⟩,
     ⟨(some 9), none, (.p (.bin .lss (.t 6) (.t 8))), false, []⟩] (some ⟨[0, 3, 4, 9], [], false⟩))
   (.cond (.t 9)
    .skip
    (.exit 0)))
  (.seq
   (.block 1
    (.region 16 [⟨(some 12), none, (.p (.mv (.t 3))), false, []⟩,
      ⟨(some 13), none, (.p (.mv (.t 0))), false, []⟩,
      ⟨(some 14), none, (.p (.mv (.t 4))), false, []⟩,
      ⟨(some 15), none, (.p (.iaddr 1 (.t 13) (.t 14))), false, []⟩,
      ⟨(some 16), none, (.r (.load 1 false (.t 15))), false, []⟩,
      ⟨(some 17), none, (.p (.convI .i64 (.t 16))), false, []⟩,
      ⟨(some 18), none, (.p (.bin .shl (.t 17) (.c (.int .u64 8)))), false, []⟩,
      ⟨(some 19), none, (.p (.mv (.t 0))), false, []⟩,
      ⟨(some 20), none, (.p (.mv (.t 4))), false, []⟩,
      ⟨(some 21), none, (.p (.bin .add (.t 20) (.c (.int .i64 1)))), false, []⟩,
      ⟨(some 22), none, (.p (.iaddr 1 (.t 19) (.t 21))), false, []⟩,
      ⟨(some 23), none, (.r (.load 1 false (.t 22))), false, []⟩,
      ⟨(some 24), none, (.p (.convI .i64 (.t 23))), false, []⟩,
      ⟨(some 25), none, (.p (.bin .or (.t 18) (.t 24))), false, []⟩,
      ⟨(some 26), none, (.p (.bin .add (.t 12) (.t 25))), false, []⟩,
      ⟨(some 3), none, (.p (.mv (.t 26))), false, []⟩] (some ⟨[0, 3, 4], [], true⟩)))
   (.region 0 [⟨(some 10), none, (.p (.mv (.t 4))), false, []⟩,
     ⟨(some 11), none, (.p (.bin .add (.t 10) (.c (.int .i64 2)))), false, []⟩,
     ⟨(some 4), none, (.p (.mv (.t 11))), false, []⟩] (some ⟨[0, 3, 4], [], false⟩))))
def Try.c39 : AC :=
 (.seq
  (.region 0 [⟨(some 2), none, (.p (.mv (.c (.int .i64 0)))), false, []⟩] (some ⟨[0], [], false⟩))
  (.seq
   (.region 0 [⟨(some 3), none, (.p (.mv (.c (.int .i64 0)))), false, []⟩] (some ⟨[0, 3], [], false⟩))
   (.seq
    (.seq
     (.region 0 [⟨(some 4), none, (.p (.mv (.c (.int .i64 0)))), false, []⟩] (some ⟨[0, 3, 4], [], false⟩))
     (.block 0
      (.loop (some ⟨[0, 3, 4], [], true⟩) Try.c39b0)))
    (.seq
     (.seq
      (.region 0 [⟨(some 27), none, (.p (.mv (.t 0))), false, []⟩,
        ⟨(some 28), none, (.p (.len (.t 27))), false, []⟩,
        ⟨(some 29), none, (.p (.bin .and (.t 28) (.c (.int .i64 1)))), false, []⟩,
        ⟨(some 30), none, (.p (.bin .eql (.t 29) (.c (.int .i64 1)))), false, []⟩] (some ⟨[0, 3, 30], [], false⟩))
      (.cond (.t 30)
       (.region 0 [⟨(some 31), none, (.p (.mv (.t 3))), false, []⟩,
         ⟨(some 32), none, (.p (.mv (.t 0))), false, []⟩,
         ⟨(some 33), none, (.p (.mv (.t 0))), false, []⟩,
         ⟨(some 34), none, (.p (.len (.t 33))), false, []⟩,
         ⟨(some 35), none, (.p (.bin .sub (.t 34) (.c (.int .i64 1)))), false, []⟩,
         ⟨(some 36), none, (.p (.iaddr 1 (.t 32) (.t 35))), false, []⟩,
         ⟨(some 37), none, (.r (.load 1 false (.t 36))), false, []⟩,
         ⟨(some 38), none, (.p (.convI .i64 (.t 37))), false, []⟩,
         ⟨(some 39), none, (.p (.bin .shl (.t 38) (.c (.int .u64 8)))), false, []⟩,
         ⟨(some 40), none, (.p (.bin .add (.t 31) (.t 39))), false, []⟩,
         ⟨(some 3), none, (.p (.mv (.t 40))), false, []⟩] (some ⟨[3], [], false⟩))
       .skip))
     (.seq
      (.region 0 [⟨(some 41), none, (.p (.mv (.t 3))), false, []⟩,
        ⟨(some 42), none, (.call 41 [(.t 41)] false), false, []⟩,
        ⟨(some 2), none, (.p (.mv (.t 42))), false, []⟩] (some ⟨[2], [], false⟩))
      .ret)))))
theorem Try.run39 {xs : List AV} {r : AV} (hl : xs.length ≤ 43) (h : aw Try.prog Try.c39 (Pv.Ends [2] r) (entry xs)) : Run Try.prog 39 xs r :=
  run_of (fun _ _ => drawOk Try.mixed) Try.func39 rfl rfl rfl (by kernel_rfl) (by kernel_rfl) hl h
/-! 40 paling/palingref06.Sum : params [22], results [3], free 0, zeros [(.slice none 0 0)] -/
def Try.c40b0 : AC :=
 (.seq
  (.seq
   (.region 0 [⟨(some 6), none, (.p (.mv (.t 4))), false, []⟩,
     ⟨(some 7), none, (.p (.mv (.t 0))), false, []⟩,
     ⟨(some 8), none, (.p (.len (.t 7))), false, []⟩,
     ⟨(some 9), none, (.p (.bin .lss (.t 6) (.t 8))), false, []⟩] (some ⟨[0, 3, 4, 9], [], false⟩))
   (.cond (.t 9)
    .skip
    (.exit 0)))
  (.seq
   (.block 1
    (.seq
     (.region 0 [⟨(some 12), none, (.p (.mv (.t 0))), false, []⟩,
       ⟨(some 13), none, (.p (.mv (.t 4))), false, []⟩,
       ⟨(some 14), none, (.p (.iaddr 1 (.t 12) (.t 13))), false, []⟩,
       ⟨(some 15), none, (.r (.load 1 false (.t 14))), false, []⟩,
       ⟨(some 16), none, (.p (.convI .i64 (.t 15))), false, []⟩,
       ⟨(some 17), none, (.p (.bin .mul (.t 16) (.c (.int .i64 256)))), false, []⟩,
       ⟨(some 5), none, (.p (.mv (.t 17))), false, []⟩] (some ⟨[0, 3, 4, 5], [], false⟩))
     (.seq
      (.seq
       (.region 0 [⟨(some 18), none, (.p (.mv (.t 4))), false, []⟩,
         ⟨(some 19), none, (.p (.bin .add (.t 18) (.c (.int .i64 1)))), false, []⟩,
         ⟨(some 20), none, (.p (.mv (.t 0))), false, []⟩,
         ⟨(some 21), none, (.p (.len (.t 20))), false, []⟩,
         ⟨(some 22), none, (.p (.bin .lss (.t 19) (.t 21))), false, []⟩] (some ⟨[0, 3, 4, 5, 22], [], false⟩))
       (.cond (.t 22)
        (.region 0 [⟨(some 23), none, (.p (.mv (.t 5))), false, []⟩,
          ⟨(some 24), none, (.p (.mv (.t 0))), false, []⟩,
          ⟨(some 25), none, (.p (.mv (.t 4))), false, []⟩,
          ⟨(some 26), none, (.p (.bin .add (.t 25) (.c (.int .i64 1)))), false, []⟩,
          ⟨(some 27), none, (.p (.iaddr 1 (.t 24) (.t 26))), false, []⟩,
          ⟨(some 28), none, (.r (.load 1 false (.t 27))), false, []⟩,
          ⟨(some 29), none, (.p (.convI .i64 (.t 28))), false, []⟩,
          ⟨(some 30), none, (.p (.bin .add (.t 23) (.t 29))), false, []⟩,
          ⟨(some 5), none, (.p (.mv (.t 30))), false, []⟩] (some ⟨[0, 3, 4, 5], [], false⟩))
        .skip))
      (.seq
       (.region 0 [⟨(some 31), none, (.p (.mv (.t 3))), false, []⟩,
         ⟨(some 32), none, (.p (.mv (.t 5))), false, []⟩,
         ⟨(some 33), none, (.p (.bin .add (.t 31) (.t 32))), false, []⟩,
         ⟨(some 3), none, (.p (.mv (.t 33))), false, []⟩] (some ⟨[0, 3, 4], [], false⟩))
       (.seq
        (.region 0 [⟨(some 34), none, (.p (.mv (.t 3))), false, []⟩,
          ⟨(some 35), none, (.p (.bin .gtr (.t 34) (.c (.int .i64 65535)))), false, []⟩] (some ⟨[0, 3, 4, 35], [], false⟩))
        (.cond (.t 35)
         (.region 0 [⟨(some 36), none, (.p (.mv (.t 3))), false, []⟩,
           ⟨(some 37), none, (.p (.bin .sub (.t 36) (.c (.int .i64 65535)))), false, []⟩,
           ⟨(some 3), none, (.p (.mv (.t 37))), false, []⟩] (some ⟨[0, 3, 4], [], false⟩))
         .skip))))))
   (.region 0 [⟨(some 10), none, (.p (.mv (.t 4))), false, []⟩,
     ⟨(some 11), none, (.p (.bin .add (.t 10) (.c (.int .i64 2)))), false, []⟩,
     ⟨(some 4), none, (.p (.mv (.t 11))), false, []⟩] (some ⟨[0, 3, 4], [], false⟩))))
def Try.c40 : AC :=
 (.seq
  (.region 0 [⟨(some 2), none, (.p (.mv (.c (.int .i64 0)))), false, []⟩] (some ⟨[0], [], false⟩))
  (.seq
   (.region 0 [⟨(some 3), none, (.p (.mv (.c (.int .i64 0)))), false, []⟩] (some ⟨[0, 3], [], false⟩))
   (.seq
    (.seq
     (.region 0 [⟨(some 4), none, (.p (.mv (.c (.int .i64 0)))), false, []⟩] (some ⟨[0, 3, 4], [], false⟩))
     (.block 0
      (.loop (some ⟨[0, 3, 4], [], true⟩) Try.c40b0)))
    (.seq
     (.region 0 [⟨(some 38), none, (.p (.mv (.t 3))), false, []⟩,
       ⟨(some 2), none, (.p (.mv (.t 38))), false, []⟩] (some ⟨[2], [], false⟩))
     .ret))))
theorem Try.run40 {xs : List AV} {r : AV} (hl : xs.length ≤ 39) (h : aw Try.prog Try.c40 (Pv.Ends [2] r) (entry xs)) : Run Try.prog 40 xs r :=
  run_of (fun _ _ => drawOk Try.mixed) Try.func40 rfl rfl rfl (by kernel_rfl) (by kernel_rfl) hl h
/-! 41 paling/sum.down : params [3], results [3], free 0, zeros [(.int .i64 (0))] -/
def Try.c41b0 : AC :=
 (.seq
  (.seq
   (.region 0 [⟨(some 5), none, (.r (.load 1 false (.t 1))), false, []⟩,
     ⟨(some 6), none, (.p (.bin .gtr (.t 5) (.c (.int .i64 65535)))), false, []⟩] (some ⟨[1, 3, 6], [], false⟩))
   (.cond (.t 6)
    .skip
    (.exit 0)))
  (.block 1
   (.region 0 [⟨(some 7), none, (.p (.mv (.t 3))), false, []⟩,
     ⟨(some 8), none, (.callv (.t 7) []), false, []⟩] (some ⟨[1, 3], [], false⟩))))
def Try.c41 : AC :=
 (.seq
  (.region 0 [⟨(some 1), none, (.e (.box 3 (.t 0)) none), false, []⟩,
    ⟨(some 2), none, (.p (.mv (.c (.int .i64 0)))), false, []⟩] (some ⟨[1], [], false⟩))
  (.seq
   (.region 0 [⟨(some 4), none, (.p (.mkfn 50 [(.t 1)])), false, []⟩,
     ⟨(some 3), none, (.p (.mv (.t 4))), false, []⟩] (some ⟨[1, 3], [], false⟩))
   (.seq
    (.block 0
     (.loop (some ⟨[1, 3], [], true⟩) Try.c41b0))
    (.seq
     (.region 0 [⟨(some 9), none, (.r (.load 1 false (.t 1))), false, []⟩,
       ⟨(some 2), none, (.p (.mv (.t 9))), false, []⟩] (some ⟨[2], [], false⟩))
     .ret))))
theorem Try.run41 {xs : List AV} {r : AV} (hl : xs.length ≤ 10) (h : aw Try.prog Try.c41 (Pv.Ends [2] r) (entry xs)) : Run Try.prog 41 xs r :=
  run_of (fun _ _ => drawOk Try.mixed) Try.func41 rfl rfl rfl (by kernel_rfl) (by kernel_rfl) hl h
/-! 42 slices.Clone[[]byte,byte] : params [22], results [22], free 0, zeros [(.slice none 0 0)] -/
def Try.c42 : AC :=
 (.seq
  (.region 0 [⟨(some 2), none, (.p (.mv (.c (.sl 0 [] true)))), false, []⟩] (some ⟨[0], [], false⟩))
  (.seq
   (.seq
    (.region 0 [⟨(some 3), none, (.p (.mv (.t 0))), false, []⟩,
      ⟨(some 4), none, (.p (.isnil false (.t 3))), false, []⟩] (some ⟨[0, 4], [], false⟩))
    (.cond (.t 4)
     (.seq
      (.region 0 [⟨(some 2), none, (.p (.mv (.c (.sl 0 [] true)))), false, []⟩] (some ⟨[2], [], false⟩))
      .ret)
     .skip))
   (.seq
    (.region 0 [⟨(some 5), none, (.e (.mks 5 1 (.int .u8 0) 0 []) none), false, []⟩,
      ⟨(some 6), none, (.p (.mv (.t 0))), false, []⟩,
      ⟨(some 7), none, (.e (.append 5 1 (.t 5) (.t 6)) none), false, []⟩,
      ⟨(some 2), none, (.p (.mv (.t 7))), false, []⟩] (some ⟨[2], [], false⟩))
    .ret)))
theorem Try.run42 {xs : List AV} {r : AV} (hl : xs.length ≤ 8) (h : aw Try.prog Try.c42 (Pv.Ends [2] r) (entry xs)) : Run Try.prog 42 xs r :=
  run_of (fun _ _ => drawOk Try.mixed) Try.func42 rfl rfl rfl (by kernel_rfl) (by kernel_rfl) hl h
/-! 43 paling/ipv4.pair : params [22, 3], results [3], free 0, zeros [(.slice none 0 0), (.int .i64 (0))] -/
def Try.c43 : AC :=
 (.seq
  (.region 0 [⟨(some 4), none, (.p (.mv (.c (.int .i64 0)))), false, []⟩] (some ⟨[0, 1], [], false⟩))
  (.seq
   (.region 14 [⟨(some 5), none, (.p (.mv (.t 0))), false, []⟩,
     ⟨(some 6), none, (.p (.mv (.t 1))), false, []⟩,
     ⟨(some 7), none, (.p (.iaddr 1 (.t 5) (.t 6))), false, []⟩,
     ⟨(some 8), none, (.r (.load 1 false (.t 7))), false, []⟩,
     ⟨(some 9), none, (.p (.convI .i64 (.t 8))), false, []⟩,
     ⟨(some 10), none, (.p (.bin .shl (.t 9) (.c (.int .u64 8)))), false, []⟩,
     ⟨(some 11), none, (.p (.mv (.t 0))), false, []⟩,
     ⟨(some 12), none, (.p (.mv (.t 1))), false, []⟩,
     ⟨(some 13), none, (.p (.bin .add (.t 12) (.c (.int .i64 1)))), false, []⟩,
     ⟨(some 14), none, (.p (.iaddr 1 (.t 11) (.t 13))), false, []⟩,
     ⟨(some 15), none, (.r (.load 1 false (.t 14))), false, []⟩,
     ⟨(some 16), none, (.p (.convI .i64 (.t 15))), false, []⟩,
     ⟨(some 17), none, (.p (.bin .or (.t 10) (.t 16))), false, []⟩,
     ⟨(some 4), none, (.p (.mv (.t 17))), false, []⟩] (some ⟨[4], [], true⟩))
   .ret))
theorem Try.run43 {xs : List AV} {r : AV} (hl : xs.length ≤ 18) (h : aw Try.prog Try.c43 (Pv.Ends [4] r) (entry xs)) : Run Try.prog 43 xs r :=
  run_of (fun _ _ => drawOk Try.mixed) Try.func43 rfl rfl rfl (by kernel_rfl) (by kernel_rfl) hl h
/-! 44 paling/ipv4.four : params [22, 3], results [46], free 0, zeros [(.slice none 0 0), (.int .i64 (0))] -/
def Try.c44 : AC :=
 (.seq
  (.region 0 [⟨(some 4), none, (.p (.mv (.c (.int .u32 0)))), false, []⟩] (some ⟨[0, 1], [], false⟩))
  (.seq
   (.region 0 [⟨(some 5), none, (.p (.mv (.t 0))), false, []⟩,
     ⟨(some 6), none, (.p (.mv (.t 1))), false, []⟩,
     ⟨(some 7), none, (.call 43 [(.t 5), (.t 6)] false), false, []⟩,
     ⟨(some 8), none, (.p (.convI .u32 (.t 7))), false, []⟩,
     ⟨(some 9), none, (.p (.bin .shl (.t 8) (.c (.int .u64 16)))), false, []⟩,
     ⟨(some 10), none, (.p (.mv (.t 0))), false, []⟩,
     ⟨(some 11), none, (.p (.mv (.t 1))), false, []⟩,
     ⟨(some 12), none, (.p (.bin .add (.t 11) (.c (.int .i64 2)))), false, []⟩,
     ⟨(some 13), none, (.call 43 [(.t 10), (.t 12)] false), false, []⟩,
     ⟨(some 14), none, (.p (.convI .u32 (.t 13))), false, []⟩,
     ⟨(some 15), none, (.p (.bin .or (.t 9) (.t 14))), false, []⟩,
     ⟨(some 4), none, (.p (.mv (.t 15))), false, []⟩] (some ⟨[4], [], false⟩))
   .ret))
theorem Try.run44 {xs : List AV} {r : AV} (hl : xs.length ≤ 16) (h : aw Try.prog Try.c44 (Pv.Ends [4] r) (entry xs)) : Run Try.prog 44 xs r :=
  run_of (fun _ _ => drawOk Try.mixed) Try.func44 rfl rfl rfl (by kernel_rfl) (by kernel_rfl) hl h
/-! 45 paling/palingref07.number : params [22], results [3], free 0, zeros [(.slice none 0 0)] -/
def Try.c45b0 : AC :=
 (.seq
  (.seq
   (.region 0 [⟨(some 5), none, (.p (.mv (.t 4))), false, []⟩,
     ⟨(some 6), none, (.p (.mv (.t 0))), false, []⟩,
     ⟨(some 7), none, (.p (.len (.t 6))), false, []⟩,
     ⟨(some 8), none, (.p (.bin .lss (.t 5) (.t 7))), false, []⟩] (some ⟨[0, 3, 4, 8], [], false⟩))
   (.cond (.t 8)
    .skip
    (.exit 0)))
  (.seq
   (.block 1
    (.region 0 [⟨(some 11), none, (.p (.mv (.t 3))), false, []⟩,
      ⟨(some 12), none, (.p (.bin .mul (.t 11) (.c (.int .i64 256)))), false, []⟩,
      ⟨(some 13), none, (.p (.mv (.t 0))), false, []⟩,
      ⟨(some 14), none, (.p (.mv (.t 4))), false, []⟩,
      ⟨(some 15), none, (.p (.iaddr 1 (.t 13) (.t 14))), false, []⟩,
      ⟨(some 16), none, (.r (.load 1 false (.t 15))), false, []⟩,
      ⟨(some 17), none, (.p (.convI .i64 (.t 16))), false, []⟩,
      ⟨(some 18), none, (.p (.bin .add (.t 12) (.t 17))), false, []⟩,
      ⟨(some 3), none, (.p (.mv (.t 18))), false, []⟩] (some ⟨[0, 3, 4], [], false⟩)))
   (.region 0 [⟨(some 9), none, (.p (.mv (.t 4))), false, []⟩,
     ⟨(some 10), none, (.p (.bin .add (.t 9) (.c (.int .i64 1)))), false, []⟩,
     ⟨(some 4), none, (.p (.mv (.t 10))), false, []⟩] (some ⟨[0, 3, 4], [], false⟩))))
def Try.c45 : AC :=
 (.seq
  (.region 0 [⟨(some 2), none, (.p (.mv (.c (.int .i64 0)))), false, []⟩] (some ⟨[0], [], false⟩))
  (.seq
   (.region 0 [⟨(some 3), none, (.p (.mv (.c (.int .i64 0)))), false, []⟩] (some ⟨[0, 3], [], false⟩))
   (.seq
    (.seq
     (.region 0 [⟨(some 4), none, (.p (.mv (.c (.int .i64 0)))), false, []⟩] (some ⟨[0, 3, 4], [], false⟩))
     (.block 0
      (.loop (some ⟨[0, 3, 4], [], true⟩) Try.c45b0)))
    (.seq
     (.region 0 [⟨(some 19), none, (.p (.mv (.t 3))), false, []⟩,
       ⟨(some 2), none, (.p (.mv (.t 19))), false, []⟩] (some ⟨[2], [], false⟩))
     .ret))))
theorem Try.run45 {xs : List AV} {r : AV} (hl : xs.length ≤ 20) (h : aw Try.prog Try.c45 (Pv.Ends [2] r) (entry xs)) : Run Try.prog 45 xs r :=
  run_of (fun _ _ => drawOk Try.mixed) Try.func45 rfl rfl rfl (by kernel_rfl) (by kernel_rfl) hl h
/-! 46 paling/ipv4.Put.1 : params [3, 3], results [4], free 0, zeros [(.int .i64 (0)), (.int .i64 (0))] -/
def Try.c46 : AC :=
 (.seq
  (.region 0 [⟨(some 4), none, (.p (.mv (.c (.bool false)))), false, []⟩] (some ⟨[0, 1], [], false⟩))
  (.seq
   (.region 0 [⟨(some 5), none, (.p (.mv (.t 0))), false, []⟩,
     ⟨(some 6), none, (.p (.bin .geq (.t 5) (.c (.int .i64 0)))), false, []⟩,
     ⟨(some 7), none, (.p (.mv (.t 6))), false, []⟩,
     ⟨(some 8), (some (7, true)), (.p (.mv (.t 0))), false, []⟩,
     ⟨(some 9), (some (7, true)), (.p (.mv (.t 1))), false, []⟩,
     ⟨(some 10), (some (7, true)), (.p (.bin .leq (.t 8) (.t 9))), false, []⟩,
     ⟨(some 11), none, (.p (.pick (.t 7) (.t 10) (.c (.bool false)))), false, []⟩,
     ⟨(some 4), none, (.p (.mv (.t 11))), false, []⟩] (some ⟨[4], [], false⟩))
   .ret))
theorem Try.run46 {xs : List AV} {r : AV} (hl : xs.length ≤ 12) (h : aw Try.prog Try.c46 (Pv.Ends [4] r) (entry xs)) : Run Try.prog 46 xs r :=
  run_of (fun _ _ => drawOk Try.mixed) Try.func46 rfl rfl rfl (by kernel_rfl) (by kernel_rfl) hl h
/-! 47 paling/ipv4.put : params [22, 62], results [22], free 0, zeros [(.slice none 0 0), (.slice none 0 0)] -/
def Try.c47b0 : AC :=
 (.seq
  (.region 0 [⟨(some 10), none, (.p (.bin .lss (.t 9) (.t 8))), false, []⟩] (some ⟨[0, 7, 8, 9, 10], [], false⟩))
  (.seq
   (.cond (.t 10)
    .skip
    (.exit 0))
   (.seq
    (.block 1
     (.seq
      (.region 0 [⟨(some 11), none, (.p (.iaddr 1 (.t 7) (.t 9))), false, []⟩,
        ⟨(some 12), none, (.r (.load 1 false (.t 11))), false, []⟩,
        ⟨(some 6), none, (.p (.mv (.t 12))), false, []⟩] (some ⟨[0, 6, 7, 8, 9], [], false⟩))
      (.region 0 [⟨(some 13), none, (.p (.mv (.t 0))), false, []⟩,
        ⟨(some 14), none, (.p (.mv (.t 6))), false, []⟩,
        ⟨(some 15), none, (.p (.bin .shr (.t 14) (.c (.int .u64 8)))), false, []⟩,
        ⟨(some 16), none, (.p (.convI .u8 (.t 15))), false, []⟩,
        ⟨(some 17), none, (.p (.mv (.t 6))), false, []⟩,
        ⟨(some 18), none, (.p (.convI .u8 (.t 17))), false, []⟩,
        ⟨(some 19), none, (.e (.mks 5 1 (.int .u8 0) 2 [(0, (.t 16)), (1, (.t 18))]) none), false, []⟩,
        ⟨(some 20), none, (.e (.append 5 1 (.t 13) (.t 19)) none), false, []⟩,
        ⟨(some 0), none, (.p (.mv (.t 20))), false, []⟩] (some ⟨[0, 7, 8, 9], [], false⟩))))
    (.region 0 [⟨(some 21), none, (.p (.bin .add (.t 9) (.c (.int .i64 1)))), false, []⟩,
      ⟨(some 9), none, (.p (.mv (.t 21))), false, []⟩] (some ⟨[0, 7, 8, 9], [], false⟩)))))
def Try.c47 : AC :=
 (.seq
  (.region 0 [⟨(some 4), none, (.p (.mv (.c (.sl 0 [] true)))), false, []⟩] (some ⟨[0, 1], [], false⟩))
  (.seq
   (.seq
    (.region 0 [⟨(some 7), none, (.p (.mv (.t 1))), false, []⟩,
      ⟨(some 8), none, (.p (.len (.t 7))), false, []⟩,
      ⟨(some 9), none, (.p (.mv (.c (.int .i64 0)))), false, []⟩] (some ⟨[0, 7, 8, 9], [], false⟩))
    (.block 0
     (.loop (some ⟨[0, 7, 8, 9], [(0, (1, 5))], true⟩) Try.c47b0)))
   (.seq
    (.region 0 [⟨(some 22), none, (.p (.mv (.t 0))), false, []⟩,
      ⟨(some 4), none, (.p (.mv (.t 22))), false, []⟩] (some ⟨[4], [], false⟩))
    .ret)))
theorem Try.run47 {xs : List AV} {r : AV} (hl : xs.length ≤ 23) (h : aw Try.prog Try.c47 (Pv.Ends [4] r) (entry xs)) : Run Try.prog 47 xs r :=
  run_of (fun _ _ => drawOk Try.mixed) Try.func47 rfl rfl rfl (by kernel_rfl) (by kernel_rfl) hl h
/-! 48 paling/palingref07.out : params [3, 3], results [4], free 0, zeros [(.int .i64 (0)), (.int .i64 (0))] -/
def Try.c48 : AC :=
 (.seq
  (.region 0 [⟨(some 4), none, (.p (.mv (.c (.bool false)))), false, []⟩] (some ⟨[0, 1], [], false⟩))
  (.seq
   (.region 0 [⟨(some 5), none, (.p (.mv (.t 0))), false, []⟩,
     ⟨(some 6), none, (.p (.bin .lss (.t 5) (.c (.int .i64 0)))), false, []⟩,
     ⟨(some 7), none, (.p (.mv (.t 6))), false, []⟩,
     ⟨(some 8), (some (7, false)), (.p (.mv (.t 0))), false, []⟩,
     ⟨(some 9), (some (7, false)), (.p (.mv (.t 1))), false, []⟩,
     ⟨(some 10), (some (7, false)), (.p (.bin .gtr (.t 8) (.t 9))), false, []⟩,
     ⟨(some 11), none, (.p (.pick (.t 7) (.c (.bool true)) (.t 10))), false, []⟩,
     ⟨(some 4), none, (.p (.mv (.t 11))), false, []⟩] (some ⟨[4], [], false⟩))
   .ret))
theorem Try.run48 {xs : List AV} {r : AV} (hl : xs.length ≤ 12) (h : aw Try.prog Try.c48 (Pv.Ends [4] r) (entry xs)) : Run Try.prog 48 xs r :=
  run_of (fun _ _ => drawOk Try.mixed) Try.func48 rfl rfl rfl (by kernel_rfl) (by kernel_rfl) hl h
/-! 49 paling/palingref07.bytes : params [3, 3], results [22], free 0, zeros [(.int .i64 (0)), (.int .i64 (0))] -/
def Try.c49b0 : AC :=
 (.seq
  (.seq
   (.region 0 [⟨(some 9), none, (.p (.mv (.t 6))), false, []⟩,
     ⟨(some 10), none, (.p (.mv (.t 1))), false, []⟩,
     ⟨(some 11), none, (.p (.bin .lss (.t 9) (.t 10))), false, []⟩] (some ⟨[0, 1, 5, 6, 11], [], false⟩))
   (.cond (.t 11)
    .skip
    (.exit 0)))
  (.seq
   (.block 1
    (.seq
     (.region 0 [⟨(some 14), none, (.p (.mv (.t 5))), false, []⟩,
       ⟨(some 15), none, (.p (.mv (.t 1))), false, []⟩,
       ⟨(some 16), none, (.p (.bin .sub (.t 15) (.c (.int .i64 1)))), false, []⟩,
       ⟨(some 17), none, (.p (.mv (.t 6))), false, []⟩,
       ⟨(some 18), none, (.p (.bin .sub (.t 16) (.t 17))), false, []⟩,
       ⟨(some 19), none, (.p (.mv (.t 0))), false, []⟩,
       ⟨(some 20), none, (.p (.bin .rem (.t 19) (.c (.int .i64 256)))), false, []⟩,
       ⟨(some 21), none, (.p (.convI .u8 (.t 20))), false, []⟩,
       ⟨(some 22), none, (.p (.iaddr 1 (.t 14) (.t 18))), false, []⟩,
       ⟨none, none, (.e (.store 1 (.t 22) (.t 21)) none), false, []⟩] (some ⟨[0, 1, 5, 6], [], false⟩))
     (.region 0 [⟨(some 23), none, (.p (.mv (.t 0))), false, []⟩,
       ⟨(some 24), none, (.p (.bin .quo (.t 23) (.c (.int .i64 256)))), false, []⟩,
       ⟨(some 0), none, (.p (.mv (.t 24))), false, []⟩] (some ⟨[0, 1, 5, 6], [], false⟩))))
   (.region 0 [⟨(some 12), none, (.p (.mv (.t 6))), false, []⟩,
     ⟨(some 13), none, (.p (.bin .add (.t 12) (.c (.int .i64 1)))), false, []⟩,
     ⟨(some 6), none, (.p (.mv (.t 13))), false, []⟩] (some ⟨[0, 1, 5, 6], [], false⟩))))
def Try.c49 : AC :=
 (.seq
  (.region 0 [⟨(some 4), none, (.p (.mv (.c (.sl 0 [] true)))), false, []⟩] (some ⟨[0, 1], [], false⟩))
  (.seq
   (.region 0 [⟨(some 7), none, (.p (.mv (.t 1))), false, []⟩,
     ⟨(some 8), none, (.e (.make 5 1 (.int .u8 0) (.t 7) (.t 7)) none), false, []⟩,
     ⟨(some 5), none, (.p (.mv (.t 8))), false, []⟩] (some ⟨[0, 1, 5], [], false⟩))
   (.seq
    (.seq
     (.region 0 [⟨(some 6), none, (.p (.mv (.c (.int .i64 0)))), false, []⟩] (some ⟨[0, 1, 5, 6], [], false⟩))
     (.block 0
      (.loop (some ⟨[0, 1, 5, 6], [], true⟩) Try.c49b0)))
    (.seq
     (.region 0 [⟨(some 25), none, (.p (.mv (.t 5))), false, []⟩,
       ⟨(some 4), none, (.p (.mv (.t 25))), false, []⟩] (some ⟨[4], [], false⟩))
     .ret))))
theorem Try.run49 {xs : List AV} {r : AV} (hl : xs.length ≤ 26) (h : aw Try.prog Try.c49 (Pv.Ends [4] r) (entry xs)) : Run Try.prog 49 xs r :=
  run_of (fun _ _ => drawOk Try.mixed) Try.func49 rfl rfl rfl (by kernel_rfl) (by kernel_rfl) hl h
/-! 50 paling/sum.down.1 : params [], results [], free 1, zeros [] -/
def Try.c50 : AC :=
 (.region 0 [⟨(some 1), none, (.r (.load 1 false (.t 0))), false, []⟩,
   ⟨(some 2), none, (.p (.bin .shr (.t 1) (.c (.int .u64 16)))), false, []⟩,
   ⟨(some 3), none, (.r (.load 1 false (.t 0))), false, []⟩,
   ⟨(some 4), none, (.p (.bin .and (.t 3) (.c (.int .i64 65535)))), false, []⟩,
   ⟨(some 5), none, (.p (.bin .add (.t 2) (.t 4))), false, []⟩,
   ⟨none, none, (.e (.store 1 (.t 0) (.t 5)) none), false, []⟩] (some ⟨[], [], false⟩))
theorem Try.run50 {xs : List AV} {r : AV} (hl : xs.length ≤ 6) (h : aw Try.prog Try.c50 (Pv.Ends [] r) (entry xs)) : Run Try.prog 50 xs r :=
  run_of (fun _ _ => drawOk Try.mixed) Try.func50 rfl rfl rfl (by kernel_rfl) (by kernel_rfl) hl h
theorem Try.gen50 {xs : List AV} {r : AV} {H H' : Hp} (hl : xs.length ≤ 6) (h : aw Try.prog Try.c50 (Pv.EndsG [] r H') ⟨xs.zipIdx.map fun p => (p.2, p.1), H⟩) : Gen Try.prog 50 xs H r H' :=
  gen_of (fun _ _ => drawOk Try.mixed) Try.func50 rfl rfl rfl (by kernel_rfl) (by kernel_rfl) hl h
end Go.Proofs
