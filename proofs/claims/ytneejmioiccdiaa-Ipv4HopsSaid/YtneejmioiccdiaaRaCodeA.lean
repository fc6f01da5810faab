/- The compiled code of this seat, and the rules that run it. (Printed by a program of ours.) -/
import Derived.Test.YtneejmioiccdiaaPvM3
import Derived.Test.YtneejmioiccdiaaProg
namespace Go.Proofs

open Go.Pv
set_option maxHeartbeats 4000000
theorem Try.mixed : Try.prog.follows .mixedOrders = true := by kernel_rfl
/-! 14 paling/palinglaw07.Ipv4Hops : params [48], results [4], free 0, zeros [(.agg #[(.int .i64 (0)), (.int .i64 (0)), (.int .i64 (0)), (.int .i64 (0)), (.int .u32 (0)), (.int .u32 (0)), (.slice none 0 0)])] -/
def Try.c14 : AC :=
 (.seq
  (.region 0 [⟨(some 1), none, (.e (.box 48 (.t 0)) none), false, []⟩,
    ⟨(some 2), none, (.p (.mv (.c (.bool false)))), false, []⟩] (some ⟨[1], [], false⟩))
  (.seq
   (.seq
    (.region 0 [⟨(some 11), none, (.call 29 [] false), false, []⟩,
      ⟨(some 12), none, (.p (.un .not (.t 11))), false, []⟩] (some ⟨[1, 12], [], false⟩))
    (.cond (.t 12)
     (.seq
      (.region 0 [⟨(some 2), none, (.p (.mv (.c (.bool false)))), false, []⟩] (some ⟨[2], [], false⟩))
      .ret)
     .skip))
   (.seq
    (.region 0 [⟨(some 14), none, (.r (.load 7 true (.t 1))), false, []⟩,
      ⟨(some 15), none, (.call 33 [(.t 14)] false), false, []⟩,
      ⟨(some 13), none, (.p (.mv (.t 15))), false, []⟩,
      ⟨(some 16), none, (.p (.ext (.t 13) 0)), false, []⟩,
      ⟨(some 17), none, (.p (.ext (.t 13) 1)), false, []⟩,
      ⟨(some 3), none, (.p (.mv (.t 16))), false, []⟩,
      ⟨(some 4), none, (.p (.mv (.t 17))), false, []⟩] (some ⟨[1, 3, 4], [], false⟩))
    (.seq
     (.region 0 [⟨(some 19), none, (.r (.load 7 true (.t 1))), false, []⟩,
       ⟨(some 20), none, (.call 37 [(.t 19)] false), false, []⟩,
       ⟨(some 18), none, (.p (.mv (.t 20))), false, []⟩,
       ⟨(some 21), none, (.p (.ext (.t 18) 0)), false, []⟩,
       ⟨(some 22), none, (.p (.ext (.t 18) 1)), false, []⟩,
       ⟨(some 5), none, (.e (.alloc 48 (.agg [(.int .i64 0), (.int .i64 0), (.int .i64 0), (.int .i64 0), (.int .u32 0), (.int .u32 0), (.sl 0 [] true)])) none), false, []⟩,
       ⟨none, none, (.e (.store 7 (.t 5) (.t 21)) none), false, []⟩,
       ⟨(some 6), none, (.p (.mv (.t 22))), false, []⟩] (some ⟨[1, 3, 4, 5, 6], [], false⟩))
     (.seq
      (.seq
       (.region 0 [⟨(some 23), none, (.p (.mv (.t 4))), false, []⟩,
         ⟨(some 24), none, (.p (.bin .neq (.t 23) (.c (.int .i64 0)))), false, []⟩] (some ⟨[1, 3, 5, 6, 24], [], false⟩))
       (.cond (.t 24)
        (.seq
         (.region 0 [⟨(some 2), none, (.p (.mv (.c (.bool true)))), false, []⟩] (some ⟨[2], [], false⟩))
         .ret)
        .skip))
      (.seq
       (.seq
        (.region 0 [⟨(some 25), none, (.p (.mv (.t 6))), false, []⟩,
          ⟨(some 26), none, (.p (.bin .neq (.t 25) (.c (.int .i64 0)))), false, []⟩] (some ⟨[1, 3, 5, 6, 26], [], false⟩))
        (.cond (.t 26)
         (.seq
          (.region 0 [⟨(some 27), none, (.p (.mv (.t 6))), false, []⟩,
            ⟨(some 28), none, (.p (.bin .eql (.t 27) (.c (.int .i64 13)))), false, []⟩,
            ⟨(some 29), none, (.p (.mv (.t 28))), false, []⟩,
            ⟨(some 30), (some (29, true)), (.p (.faddr 2 (.t 1))), false, []⟩,
            ⟨(some 31), (some (29, true)), (.r (.load 1 false (.t 30))), false, []⟩,
            ⟨(some 32), (some (29, true)), (.p (.bin .leq (.t 31) (.c (.int .i64 1)))), false, []⟩,
            ⟨(some 33), none, (.p (.pick (.t 29) (.t 32) (.c (.bool false)))), false, []⟩,
            ⟨(some 2), none, (.p (.mv (.t 33))), false, []⟩] (some ⟨[2], [], false⟩))
          .ret)
         .skip))
       (.seq
        (.region 0 [⟨(some 35), none, (.r (.load 7 true (.t 5))), false, []⟩,
          ⟨(some 36), none, (.call 33 [(.t 35)] false), false, []⟩,
          ⟨(some 34), none, (.p (.mv (.t 36))), false, []⟩,
          ⟨(some 37), none, (.p (.ext (.t 34) 0)), false, []⟩,
          ⟨(some 38), none, (.p (.ext (.t 34) 1)), false, []⟩,
          ⟨(some 7), none, (.p (.mv (.t 37))), false, []⟩,
          ⟨(some 8), none, (.p (.mv (.t 38))), false, []⟩] (some ⟨[1, 3, 7, 8], [], false⟩))
        (.seq
         (.seq
          (.region 0 [⟨(some 39), none, (.p (.mv (.t 8))), false, []⟩,
            ⟨(some 40), none, (.p (.bin .neq (.t 39) (.c (.int .i64 0)))), false, []⟩,
            ⟨(some 41), none, (.p (.mv (.t 40))), false, []⟩,
            ⟨(some 42), (some (41, false)), (.p (.mv (.t 3))), false, []⟩,
            ⟨(some 43), (some (41, false)), (.p (.len (.t 42))), false, []⟩,
            ⟨(some 44), (some (41, false)), (.p (.mv (.t 7))), false, []⟩,
            ⟨(some 45), (some (41, false)), (.p (.len (.t 44))), false, []⟩,
            ⟨(some 46), (some (41, false)), (.p (.bin .neq (.t 43) (.t 45))), false, []⟩,
            ⟨(some 47), none, (.p (.pick (.t 41) (.c (.bool true)) (.t 46))), false, []⟩,
            ⟨(some 48), none, (.p (.mv (.t 47))), false, []⟩,
            ⟨(some 49), (some (48, false)), (.p (.mv (.t 3))), false, []⟩,
            ⟨(some 50), (some (48, false)), (.p (.len (.t 49))), false, []⟩,
            ⟨(some 51), (some (48, false)), (.p (.bin .lss (.t 50) (.c (.int .i64 20)))), false, []⟩,
            ⟨(some 52), none, (.p (.pick (.t 48) (.c (.bool true)) (.t 51))), false, []⟩,
            ⟨(some 53), none, (.p (.mv (.t 52))), false, []⟩,
            ⟨(some 54), (some (53, false)), (.p (.faddr 2 (.t 1))), false, []⟩,
            ⟨(some 55), (some (53, false)), (.r (.load 1 false (.t 54))), false, []⟩,
            ⟨(some 56), (some (53, false)), (.p (.bin .leq (.t 55) (.c (.int .i64 1)))), false, []⟩,
            ⟨(some 57), none, (.p (.pick (.t 53) (.c (.bool true)) (.t 56))), false, []⟩] (some ⟨[3, 7, 57], [], false⟩))
          (.cond (.t 57)
           (.seq
            (.region 0 [⟨(some 2), none, (.p (.mv (.c (.bool false)))), false, []⟩] (some ⟨[2], [], false⟩))
            .ret)
           .skip))
         (.seq
          (.region 22 [⟨(some 58), none, (.p (.mv (.t 3))), false, []⟩,
            ⟨(some 59), none, (.p (.iaddr 1 (.t 58) (.c (.int .i64 8)))), false, []⟩,
            ⟨(some 60), none, (.r (.load 1 false (.t 59))), false, []⟩,
            ⟨(some 61), none, (.p (.convI .i64 (.t 60))), false, []⟩,
            ⟨(some 62), none, (.p (.bin .shl (.t 61) (.c (.int .u64 8)))), false, []⟩,
            ⟨(some 63), none, (.p (.mv (.t 3))), false, []⟩,
            ⟨(some 64), none, (.p (.iaddr 1 (.t 63) (.c (.int .i64 9)))), false, []⟩,
            ⟨(some 65), none, (.r (.load 1 false (.t 64))), false, []⟩,
            ⟨(some 66), none, (.p (.convI .i64 (.t 65))), false, []⟩,
            ⟨(some 67), none, (.p (.bin .or (.t 62) (.t 66))), false, []⟩,
            ⟨(some 68), none, (.p (.mv (.t 7))), false, []⟩,
            ⟨(some 69), none, (.p (.iaddr 1 (.t 68) (.c (.int .i64 8)))), false, []⟩,
            ⟨(some 70), none, (.r (.load 1 false (.t 69))), false, []⟩,
            ⟨(some 71), none, (.p (.convI .i64 (.t 70))), false, []⟩,
            ⟨(some 72), none, (.p (.bin .shl (.t 71) (.c (.int .u64 8)))), false, []⟩,
            ⟨(some 73), none, (.p (.mv (.t 7))), false, []⟩,
            ⟨(some 74), none, (.p (.iaddr 1 (.t 73) (.c (.int .i64 9)))), false, []⟩,
            ⟨(some 75), none, (.r (.load 1 false (.t 74))), false, []⟩,
            ⟨(some 76), none, (.p (.convI .i64 (.t 75))), false, []⟩,
            ⟨(some 77), none, (.p (.bin .or (.t 72) (.t 76))), false, []⟩,
            ⟨(some 9), none, (.p (.mv (.t 67))), false, []⟩,
            ⟨(some 10), none, (.p (.mv (.t 77))), false, []⟩] (some ⟨[3, 7, 9, 10], [], true⟩))
          (.seq
           (.region 49 [⟨(some 78), none, (.p (.mv (.t 9))), false, []⟩,
             ⟨(some 79), none, (.p (.mv (.t 10))), false, []⟩,
             ⟨(some 80), none, (.p (.bin .sub (.t 78) (.t 79))), false, []⟩,
             ⟨(some 81), none, (.p (.bin .eql (.t 80) (.c (.int .i64 256)))), false, []⟩,
             ⟨(some 82), none, (.p (.mv (.t 81))), false, []⟩,
             ⟨(some 83), (some (82, true)), (.p (.mv (.t 3))), false, []⟩,
             ⟨(some 84), (some (82, true)), (.p (.iaddr 1 (.t 83) (.c (.int .i64 10)))), false, []⟩,
             ⟨(some 85), (some (82, true)), (.r (.load 1 false (.t 84))), false, []⟩,
             ⟨(some 86), (some (82, true)), (.p (.convI .i64 (.t 85))), false, []⟩,
             ⟨(some 87), (some (82, true)), (.p (.bin .shl (.t 86) (.c (.int .u64 8)))), false, []⟩,
             ⟨(some 88), (some (82, true)), (.p (.mv (.t 3))), false, []⟩,
             ⟨(some 89), (some (82, true)), (.p (.iaddr 1 (.t 88) (.c (.int .i64 11)))), false, []⟩,
             ⟨(some 90), (some (82, true)), (.r (.load 1 false (.t 89))), false, []⟩,
             ⟨(some 91), (some (82, true)), (.p (.convI .i64 (.t 90))), false, []⟩,
             ⟨(some 92), (some (82, true)), (.p (.bin .or (.t 87) (.t 91))), false, []⟩,
             ⟨(some 93), (some (82, true)), (.p (.mv (.t 9))), false, []⟩,
             ⟨(some 94), (some (82, true)), (.p (.mv (.t 10))), false, []⟩,
             ⟨(some 96), (some (82, true)), (.p (.mv (.t 7))), false, []⟩,
             ⟨(some 97), (some (82, true)), (.p (.iaddr 1 (.t 96) (.c (.int .i64 10)))), false, []⟩,
             ⟨(some 98), (some (82, true)), (.r (.load 1 false (.t 97))), false, []⟩,
             ⟨(some 99), (some (82, true)), (.p (.convI .i64 (.t 98))), false, []⟩,
             ⟨(some 100), (some (82, true)), (.p (.bin .shl (.t 99) (.c (.int .u64 8)))), false, []⟩,
             ⟨(some 101), (some (82, true)), (.p (.mv (.t 7))), false, []⟩,
             ⟨(some 102), (some (82, true)), (.p (.iaddr 1 (.t 101) (.c (.int .i64 11)))), false, []⟩,
             ⟨(some 103), (some (82, true)), (.r (.load 1 false (.t 102))), false, []⟩,
             ⟨(some 104), (some (82, true)), (.p (.convI .i64 (.t 103))), false, []⟩,
             ⟨(some 105), (some (82, true)), (.p (.bin .or (.t 100) (.t 104))), false, []⟩,
             ⟨(some 95), (some (82, true)), (.call 20 [(.t 92), (.t 93), (.t 94)] true), false, []⟩,
             ⟨(some 106), (some (82, true)), (.p (.bin .eql (.t 95) (.t 105))), false, []⟩,
             ⟨(some 107), none, (.p (.pick (.t 82) (.t 106) (.c (.bool false)))), false, []⟩,
             ⟨(some 108), none, (.p (.mv (.t 107))), false, []⟩,
             ⟨(some 109), (some (108, true)), (.p (.mv (.t 3))), false, []⟩,
             ⟨(some 110), (some (108, true)), (.p (.slicev 1 (.t 109) none (some (.c (.int .i64 8))) none)), false, []⟩,
             ⟨(some 111), (some (108, true)), (.r (.b2s (.t 110))), false, []⟩,
             ⟨(some 112), (some (108, true)), (.p (.mv (.t 7))), false, []⟩,
             ⟨(some 113), (some (108, true)), (.p (.slicev 1 (.t 112) none (some (.c (.int .i64 8))) none)), false, []⟩,
             ⟨(some 114), (some (108, true)), (.r (.b2s (.t 113))), false, []⟩,
             ⟨(some 115), (some (108, true)), (.p (.bin .eql (.t 111) (.t 114))), false, []⟩,
             ⟨(some 116), none, (.p (.pick (.t 108) (.t 115) (.c (.bool false)))), false, []⟩,
             ⟨(some 117), none, (.p (.mv (.t 116))), false, []⟩,
             ⟨(some 118), (some (117, true)), (.p (.mv (.t 3))), false, []⟩,
             ⟨(some 119), (some (117, true)), (.p (.slicev 1 (.t 118) (some (.c (.int .i64 12))) none none)), false, []⟩,
             ⟨(some 120), (some (117, true)), (.r (.b2s (.t 119))), false, []⟩,
             ⟨(some 121), (some (117, true)), (.p (.mv (.t 7))), false, []⟩,
             ⟨(some 122), (some (117, true)), (.p (.slicev 1 (.t 121) (some (.c (.int .i64 12))) none none)), false, []⟩,
             ⟨(some 123), (some (117, true)), (.r (.b2s (.t 122))), false, []⟩,
             ⟨(some 124), (some (117, true)), (.p (.bin .eql (.t 120) (.t 123))), false, []⟩,
             ⟨(some 125), none, (.p (.pick (.t 117) (.t 124) (.c (.bool false)))), false, []⟩,
             ⟨(some 2), none, (.p (.mv (.t 125))), false, []⟩] (some ⟨[2], [], true⟩))
           .ret))))))))))
theorem Try.run14 {xs : List AV} {r : AV} (hl : xs.length ≤ 126) (h : aw Try.prog Try.c14 (Pv.Ends [2] r) (entry xs)) : Run Try.prog 14 xs r :=
  run_of (fun _ _ => drawOk Try.mixed) Try.func14 rfl rfl rfl (by kernel_rfl) (by kernel_rfl) hl h
/-! 15 paling/sum.Of : params [22], results [3], free 0, zeros [(.slice none 0 0)] -/
def Try.c15 : AC :=
 (.seq
  (.region 0 [⟨(some 2), none, (.p (.mv (.c (.int .i64 0)))), false, []⟩] (some ⟨[0], [], false⟩))
  (.seq
   (.region 0 [⟨(some 3), none, (.p (.mv (.t 0))), false, []⟩,
     ⟨(some 4), none, (.call 39 [(.t 3)] false), false, []⟩,
     ⟨(some 5), none, (.p (.bin .sub (.c (.int .i64 65535)) (.t 4))), false, []⟩,
     ⟨(some 2), none, (.p (.mv (.t 5))), false, []⟩] (some ⟨[2], [], false⟩))
   .ret))
theorem Try.run15 {xs : List AV} {r : AV} (hl : xs.length ≤ 6) (h : aw Try.prog Try.c15 (Pv.Ends [2] r) (entry xs)) : Run Try.prog 15 xs r :=
  run_of (fun _ _ => drawOk Try.mixed) Try.func15 rfl rfl rfl (by kernel_rfl) (by kernel_rfl) hl h
/-! 17 paling/sum.Right : params [22], results [4], free 0, zeros [(.slice none 0 0)] -/
def Try.c17 : AC :=
 (.seq
  (.region 0 [⟨(some 2), none, (.p (.mv (.c (.bool false)))), false, []⟩] (some ⟨[0], [], false⟩))
  (.seq
   (.region 0 [⟨(some 3), none, (.p (.mv (.t 0))), false, []⟩,
     ⟨(some 4), none, (.call 39 [(.t 3)] false), false, []⟩,
     ⟨(some 5), none, (.p (.bin .eql (.t 4) (.c (.int .i64 65535)))), false, []⟩,
     ⟨(some 2), none, (.p (.mv (.t 5))), false, []⟩] (some ⟨[2], [], false⟩))
   .ret))
theorem Try.run17 {xs : List AV} {r : AV} (hl : xs.length ≤ 6) (h : aw Try.prog Try.c17 (Pv.Ends [2] r) (entry xs)) : Run Try.prog 17 xs r :=
  run_of (fun _ _ => drawOk Try.mixed) Try.func17 rfl rfl rfl (by kernel_rfl) (by kernel_rfl) hl h
/-! 20 paling/sum.Turn : params [3, 3, 3], results [3], free 0, zeros [(.int .i64 (0)), (.int .i64 (0)), (.int .i64 (0))] -/
def Try.c20b0 : AC :=
 (.seq
  (.region 0 [⟨(some 15), none, (.p (.bin .lss (.t 14) (.t 13))), false, []⟩] (some ⟨[0, 1, 2, 12, 13, 14, 15], [], false⟩))
  (.seq
   (.cond (.t 15)
    .skip
    (.exit 0))
   (.seq
    (.block 1
     (.seq
      (.region 0 [⟨(some 16), none, (.p (.iaddr 1 (.t 12) (.t 14))), false, []⟩,
        ⟨(some 17), none, (.r (.load 1 false (.t 16))), false, []⟩,
        ⟨(some 8), none, (.p (.mv (.t 17))), false, []⟩] (some ⟨[0, 1, 2, 8, 12, 13, 14], [], false⟩))
      (.seq
       (.region 0 [⟨(some 18), none, (.p (.mv (.t 8))), false, []⟩,
         ⟨(some 19), none, (.p (.bin .lss (.t 18) (.c (.int .i64 0)))), false, []⟩,
         ⟨(some 20), none, (.p (.mv (.t 19))), false, []⟩,
         ⟨(some 21), (some (20, false)), (.p (.mv (.t 8))), false, []⟩,
         ⟨(some 22), (some (20, false)), (.p (.bin .gtr (.t 21) (.c (.int .i64 65535)))), false, []⟩,
         ⟨(some 23), none, (.p (.pick (.t 20) (.c (.bool true)) (.t 22))), false, []⟩] (some ⟨[0, 1, 2, 12, 13, 14, 23], [], false⟩))
       (.cond (.t 23)
        (.seq
         (.region 0 [⟨(some 6), none, (.p (.mv (.c (.int .i64 (-1))))), false, []⟩] (some ⟨[6], [], false⟩))
         .ret)
        .skip))))
    (.region 0 [⟨(some 24), none, (.p (.bin .add (.t 14) (.c (.int .i64 1)))), false, []⟩,
      ⟨(some 14), none, (.p (.mv (.t 24))), false, []⟩] (some ⟨[0, 1, 2, 12, 13, 14], [], false⟩)))))
def Try.c20 : AC :=
 (.seq
  (.region 0 [⟨(some 6), none, (.p (.mv (.c (.int .i64 0)))), false, []⟩] (some ⟨[0, 1, 2], [], false⟩))
  (.seq
   (.seq
    (.region 0 [⟨(some 9), none, (.p (.mv (.t 0))), false, []⟩,
      ⟨(some 10), none, (.p (.mv (.t 1))), false, []⟩,
      ⟨(some 11), none, (.p (.mv (.t 2))), false, []⟩,
      ⟨(some 12), none, (.e (.mks 3 1 (.int .i64 0) 3 [(0, (.t 9)), (1, (.t 10)), (2, (.t 11))]) none), false, []⟩,
      ⟨(some 13), none, (.p (.len (.t 12))), false, []⟩,
      ⟨(some 14), none, (.p (.mv (.c (.int .i64 0)))), false, []⟩] (some ⟨[0, 1, 2, 12, 13, 14], [], false⟩))
    (.block 0
     (.loop (some ⟨[0, 1, 2, 12, 13, 14], [], true⟩) Try.c20b0)))
   (.seq
    (.region 0 [⟨(some 25), none, (.p (.mv (.t 0))), false, []⟩,
      ⟨(some 26), none, (.p (.bin .sub (.c (.int .i64 65535)) (.t 25))), false, []⟩,
      ⟨(some 27), none, (.p (.bin .add (.t 26) (.c (.int .i64 65535)))), false, []⟩,
      ⟨(some 28), none, (.p (.mv (.t 1))), false, []⟩,
      ⟨(some 29), none, (.p (.bin .sub (.t 27) (.t 28))), false, []⟩,
      ⟨(some 30), none, (.p (.mv (.t 2))), false, []⟩,
      ⟨(some 31), none, (.p (.bin .add (.t 29) (.t 30))), false, []⟩,
      ⟨(some 32), none, (.call 41 [(.t 31)] false), false, []⟩,
      ⟨(some 33), none, (.p (.bin .sub (.c (.int .i64 65535)) (.t 32))), false, []⟩,
      ⟨(some 6), none, (.p (.mv (.t 33))), false, []⟩] (some ⟨[6], [], false⟩))
    .ret)))
theorem Try.run20 {xs : List AV} {r : AV} (hl : xs.length ≤ 34) (h : aw Try.prog Try.c20 (Pv.Ends [6] r) (entry xs)) : Run Try.prog 20 xs r :=
  run_of (fun _ _ => drawOk Try.mixed) Try.func20 rfl rfl rfl (by kernel_rfl) (by kernel_rfl) hl h
/-! 29 paling/palinglaw07.works : params [], results [4], free 0, zeros [] -/
def Try.c29 : AC :=
 (.seq
  (.region 0 [⟨(some 0), none, (.p (.mv (.c (.bool false)))), false, []⟩] (some ⟨[], [], false⟩))
  (.seq
   (.region 0 [⟨(some 6), none, (.e (.make 5 1 (.int .u8 0) (.c (.int .i64 95)) (.c (.int .i64 95))) none), false, []⟩,
     ⟨(some 7), none, (.p (.build [(.int .i64 0), (.int .i64 0), (.int .i64 0), (.int .i64 0), (.int .u32 0), (.int .u32 0), (.sl 0 [] true)] [(2, 1, (.c (.int .i64 64))), (3, 1, (.c (.int .i64 17))), (4, 1, (.c (.int .u32 3232235521))), (5, 1, (.c (.int .u32 3232235719))), (6, 1, (.t 6))])), false, []⟩,
     ⟨(some 8), none, (.call 33 [(.t 7)] false), false, []⟩,
     ⟨(some 5), none, (.p (.mv (.t 8))), false, []⟩,
     ⟨(some 9), none, (.p (.ext (.t 5) 0)), false, []⟩,
     ⟨(some 10), none, (.p (.ext (.t 5) 1)), false, []⟩,
     ⟨(some 1), none, (.p (.mv (.t 9))), false, []⟩,
     ⟨(some 2), none, (.p (.mv (.t 10))), false, []⟩] (some ⟨[1, 2], [], false⟩))
   (.seq
    (.region 0 [⟨(some 12), none, (.call 30 [(.c (.sl 0 [] true))] false), false, []⟩,
      ⟨(some 11), none, (.p (.mv (.t 12))), false, []⟩,
      ⟨(some 13), none, (.p (.ext (.t 11) 0)), false, []⟩,
      ⟨(some 14), none, (.p (.ext (.t 11) 1)), false, []⟩,
      ⟨(some 3), none, (.e (.alloc 48 (.agg [(.int .i64 0), (.int .i64 0), (.int .i64 0), (.int .i64 0), (.int .u32 0), (.int .u32 0), (.sl 0 [] true)])) none), false, []⟩,
      ⟨none, none, (.e (.store 7 (.t 3) (.t 13)) none), false, []⟩,
      ⟨(some 4), none, (.p (.mv (.t 14))), false, []⟩] (some ⟨[1, 2, 4], [], false⟩))
    (.seq
     (.region 0 [⟨(some 15), none, (.p (.mv (.t 2))), false, []⟩,
       ⟨(some 16), none, (.p (.bin .eql (.t 15) (.c (.int .i64 0)))), false, []⟩,
       ⟨(some 17), none, (.p (.mv (.t 16))), false, []⟩,
       ⟨(some 18), (some (17, true)), (.p (.mv (.t 1))), false, []⟩,
       ⟨(some 19), (some (17, true)), (.p (.len (.t 18))), false, []⟩,
       ⟨(some 20), (some (17, true)), (.p (.bin .eql (.t 19) (.c (.int .i64 115)))), false, []⟩,
       ⟨(some 21), none, (.p (.pick (.t 17) (.t 20) (.c (.bool false)))), false, []⟩,
       ⟨(some 22), none, (.p (.mv (.t 21))), false, []⟩,
       ⟨(some 23), (some (22, true)), (.p (.mv (.t 1))), false, []⟩,
       ⟨(some 24), (some (22, true)), (.p (.iaddr 1 (.t 23) (.c (.int .i64 10)))), false, []⟩,
       ⟨(some 25), (some (22, true)), (.r (.load 1 false (.t 24))), false, []⟩,
       ⟨(some 26), (some (22, true)), (.p (.bin .eql (.t 25) (.c (.int .u8 248)))), false, []⟩,
       ⟨(some 27), none, (.p (.pick (.t 22) (.t 26) (.c (.bool false)))), false, []⟩,
       ⟨(some 28), none, (.p (.mv (.t 27))), false, []⟩,
       ⟨(some 29), (some (28, true)), (.p (.mv (.t 1))), false, []⟩,
       ⟨(some 30), (some (28, true)), (.p (.iaddr 1 (.t 29) (.c (.int .i64 11)))), false, []⟩,
       ⟨(some 31), (some (28, true)), (.r (.load 1 false (.t 30))), false, []⟩,
       ⟨(some 32), (some (28, true)), (.p (.bin .eql (.t 31) (.c (.int .u8 97)))), false, []⟩,
       ⟨(some 33), none, (.p (.pick (.t 28) (.t 32) (.c (.bool false)))), false, []⟩,
       ⟨(some 34), none, (.p (.mv (.t 33))), false, []⟩,
       ⟨(some 35), (some (34, true)), (.p (.mv (.t 4))), false, []⟩,
       ⟨(some 36), (some (34, true)), (.p (.bin .eql (.t 35) (.c (.int .i64 10)))), false, []⟩,
       ⟨(some 37), none, (.p (.pick (.t 34) (.t 36) (.c (.bool false)))), false, []⟩,
       ⟨(some 0), none, (.p (.mv (.t 37))), false, []⟩] (some ⟨[0], [], false⟩))
     .ret))))
theorem Try.run29 {xs : List AV} {r : AV} (hl : xs.length ≤ 38) (h : aw Try.prog Try.c29 (Pv.Ends [0] r) (entry xs)) : Run Try.prog 29 xs r :=
  run_of (fun _ _ => drawOk Try.mixed) Try.func29 rfl rfl rfl (by kernel_rfl) (by kernel_rfl) hl h
/-! 30 paling/ipv4.Take : params [22], results [48, 33], free 0, zeros [(.slice none 0 0)] -/
def Try.c30 : AC :=
 (.seq
  (.region 0 [⟨(some 2), none, (.e (.alloc 48 (.agg [(.int .i64 0), (.int .i64 0), (.int .i64 0), (.int .i64 0), (.int .u32 0), (.int .u32 0), (.sl 0 [] true)])) none), false, []⟩,
    ⟨(some 3), none, (.p (.mv (.c (.int .i64 0)))), false, []⟩] (some ⟨[0, 2], [], false⟩))
  (.seq
   (.block 0
    (.seq
     (.region 0 [⟨(some 5), none, (.p (.mv (.t 0))), false, []⟩,
       ⟨(some 6), none, (.p (.len (.t 5))), false, []⟩,
       ⟨(some 7), none, (.p (.bin .lss (.t 6) (.c (.int .i64 20)))), false, []⟩,
       ⟨(some 4), none, (.p (.mv (.t 7))), false, []⟩] (some ⟨[0, 2, 4], [], false⟩))
     (.cond (.t 4)
      (.seq
       (.region 0 [⟨(some 8), none, (.p (.build [(.int .i64 0), (.int .i64 0), (.int .i64 0), (.int .i64 0), (.int .u32 0), (.int .u32 0), (.sl 0 [] true)] [])), false, []⟩,
         ⟨none, none, (.e (.store 7 (.t 2) (.t 8)) none), false, []⟩,
         ⟨(some 3), none, (.p (.mv (.c (.int .i64 10)))), false, []⟩] (some ⟨[2, 3], [], false⟩))
       .ret)
      (.seq
       (.region 0 [⟨(some 10), none, (.p (.mv (.t 0))), false, []⟩,
         ⟨(some 11), none, (.p (.iaddr 1 (.t 10) (.c (.int .i64 0)))), false, []⟩,
         ⟨(some 12), none, (.r (.load 1 false (.t 11))), false, []⟩,
         ⟨(some 13), none, (.p (.bin .neq (.t 12) (.c (.int .u8 69)))), false, []⟩,
         ⟨(some 14), none, (.p (.mv (.t 13))), false, []⟩,
         ⟨(some 15), (some (14, false)), (.p (.mv (.t 0))), false, []⟩,
         ⟨(some 16), (some (14, false)), (.call 43 [(.t 15), (.c (.int .i64 2))] false), false, []⟩,
         ⟨(some 17), (some (14, false)), (.p (.bin .lss (.t 16) (.c (.int .i64 20)))), false, []⟩,
         ⟨(some 18), none, (.p (.pick (.t 14) (.c (.bool true)) (.t 17))), false, []⟩,
         ⟨(some 9), none, (.p (.mv (.t 18))), false, []⟩] (some ⟨[0, 2, 9], [], false⟩))
       (.cond (.t 9)
        (.seq
         (.region 0 [⟨(some 19), none, (.p (.build [(.int .i64 0), (.int .i64 0), (.int .i64 0), (.int .i64 0), (.int .u32 0), (.int .u32 0), (.sl 0 [] true)] [])), false, []⟩,
           ⟨none, none, (.e (.store 7 (.t 2) (.t 19)) none), false, []⟩,
           ⟨(some 3), none, (.p (.mv (.c (.int .i64 11)))), false, []⟩] (some ⟨[2, 3], [], false⟩))
         .ret)
        (.seq
         (.region 0 [⟨(some 21), none, (.p (.mv (.t 0))), false, []⟩,
           ⟨(some 22), none, (.call 43 [(.t 21), (.c (.int .i64 2))] false), false, []⟩,
           ⟨(some 23), none, (.p (.mv (.t 0))), false, []⟩,
           ⟨(some 24), none, (.p (.len (.t 23))), false, []⟩,
           ⟨(some 25), none, (.p (.bin .gtr (.t 22) (.t 24))), false, []⟩,
           ⟨(some 20), none, (.p (.mv (.t 25))), false, []⟩] (some ⟨[0, 2, 20], [], false⟩))
         (.cond (.t 20)
          (.seq
           (.region 0 [⟨(some 26), none, (.p (.build [(.int .i64 0), (.int .i64 0), (.int .i64 0), (.int .i64 0), (.int .u32 0), (.int .u32 0), (.sl 0 [] true)] [])), false, []⟩,
             ⟨none, none, (.e (.store 7 (.t 2) (.t 26)) none), false, []⟩,
             ⟨(some 3), none, (.p (.mv (.c (.int .i64 10)))), false, []⟩] (some ⟨[2, 3], [], false⟩))
           .ret)
          (.seq
           (.region 0 [⟨(some 28), none, (.p (.mv (.t 0))), false, []⟩,
             ⟨(some 29), none, (.call 43 [(.t 28), (.c (.int .i64 6))] false), false, []⟩,
             ⟨(some 30), none, (.p (.bin .neq (.t 29) (.c (.int .i64 0)))), false, []⟩,
             ⟨(some 27), none, (.p (.mv (.t 30))), false, []⟩] (some ⟨[0, 2, 27], [], false⟩))
           (.cond (.t 27)
            (.seq
             (.region 0 [⟨(some 31), none, (.p (.build [(.int .i64 0), (.int .i64 0), (.int .i64 0), (.int .i64 0), (.int .u32 0), (.int .u32 0), (.sl 0 [] true)] [])), false, []⟩,
               ⟨none, none, (.e (.store 7 (.t 2) (.t 31)) none), false, []⟩,
               ⟨(some 3), none, (.p (.mv (.c (.int .i64 11)))), false, []⟩] (some ⟨[2, 3], [], false⟩))
             .ret)
            (.seq
             (.region 0 [⟨(some 33), none, (.p (.mv (.t 0))), false, []⟩,
               ⟨(some 34), none, (.p (.slicev 1 (.t 33) none (some (.c (.int .i64 20))) none)), false, []⟩,
               ⟨(some 35), none, (.call 17 [(.t 34)] false), false, []⟩,
               ⟨(some 36), none, (.p (.un .not (.t 35))), false, []⟩,
               ⟨(some 32), none, (.p (.mv (.t 36))), false, []⟩] (some ⟨[0, 2, 32], [], false⟩))
             (.cond (.t 32)
              (.seq
               (.region 0 [⟨(some 37), none, (.p (.build [(.int .i64 0), (.int .i64 0), (.int .i64 0), (.int .i64 0), (.int .u32 0), (.int .u32 0), (.sl 0 [] true)] [])), false, []⟩,
                 ⟨none, none, (.e (.store 7 (.t 2) (.t 37)) none), false, []⟩,
                 ⟨(some 3), none, (.p (.mv (.c (.int .i64 12)))), false, []⟩] (some ⟨[2, 3], [], false⟩))
               .ret)
              .skip)))))))))))
   (.seq
    (.region 26 [⟨(some 38), none, (.p (.mv (.t 0))), false, []⟩,
      ⟨(some 39), none, (.p (.iaddr 1 (.t 38) (.c (.int .i64 1)))), false, []⟩,
      ⟨(some 40), none, (.r (.load 1 false (.t 39))), false, [5]⟩,
      ⟨(some 41), none, (.p (.convI .i64 (.t 40))), false, []⟩,
      ⟨(some 42), none, (.p (.mv (.t 0))), false, []⟩,
      ⟨(some 44), none, (.p (.mv (.t 0))), false, []⟩,
      ⟨(some 45), none, (.p (.iaddr 1 (.t 44) (.c (.int .i64 8)))), false, []⟩,
      ⟨(some 46), none, (.r (.load 1 false (.t 45))), false, [5]⟩,
      ⟨(some 47), none, (.p (.convI .i64 (.t 46))), false, []⟩,
      ⟨(some 48), none, (.p (.mv (.t 0))), false, []⟩,
      ⟨(some 49), none, (.p (.iaddr 1 (.t 48) (.c (.int .i64 9)))), false, []⟩,
      ⟨(some 50), none, (.r (.load 1 false (.t 49))), false, [5]⟩,
      ⟨(some 51), none, (.p (.convI .i64 (.t 50))), false, []⟩,
      ⟨(some 52), none, (.p (.mv (.t 0))), false, []⟩,
      ⟨(some 54), none, (.p (.mv (.t 0))), false, []⟩,
      ⟨(some 56), none, (.p (.mv (.t 0))), false, []⟩,
      ⟨(some 57), none, (.p (.mv (.t 0))), false, []⟩,
      ⟨(some 43), none, (.call 43 [(.t 42), (.c (.int .i64 4))] true), false, []⟩,
      ⟨(some 53), none, (.call 44 [(.t 52), (.c (.int .i64 12))] true), false, []⟩,
      ⟨(some 55), none, (.call 44 [(.t 54), (.c (.int .i64 16))] true), false, []⟩,
      ⟨(some 58), none, (.call 43 [(.t 57), (.c (.int .i64 2))] true), false, []⟩,
      ⟨(some 59), none, (.p (.slicev 1 (.t 56) (some (.c (.int .i64 20))) (some (.t 58)) none)), false, []⟩,
      ⟨(some 60), none, (.call 42 [(.t 59)] true), false, [5]⟩,
      ⟨(some 61), none, (.p (.build [(.int .i64 0), (.int .i64 0), (.int .i64 0), (.int .i64 0), (.int .u32 0), (.int .u32 0), (.sl 0 [] true)] [(0, 1, (.t 41)), (1, 1, (.t 43)), (2, 1, (.t 47)), (3, 1, (.t 51)), (4, 1, (.t 53)), (5, 1, (.t 55)), (6, 1, (.t 60))])), false, []⟩,
      ⟨none, none, (.e (.store 7 (.t 2) (.t 61)) (some 24)), false, []⟩,
      ⟨(some 3), none, (.p (.mv (.c (.int .i64 0)))), false, []⟩] (some ⟨[2, 3], [], true⟩))
    .ret)))
theorem Try.run30 {xs : List AV} {r : AV} (hl : xs.length ≤ 62) (h : aw Try.prog Try.c30 (Pv.EndsX (rvs [.c 2 7 true, .t 3]) r) (entry xs)) : Run Try.prog 30 xs r :=
  run_ofC (fun _ _ => drawOk Try.mixed) Try.func30 rfl rfl (by kernel_rfl) (by kernel_rfl) (by kernel_rfl) hl h
/-! 33 paling/ipv4.Put : params [48], results [22, 33], free 0, zeros [(.agg #[(.int .i64 (0)), (.int .i64 (0)), (.int .i64 (0)), (.int .i64 (0)), (.int .u32 (0)), (.int .u32 (0)), (.slice none 0 0)])] -/
def Try.c33 : AC :=
 (.seq
  (.region 0 [⟨(some 1), none, (.e (.box 48 (.t 0)) none), false, []⟩,
    ⟨(some 2), none, (.p (.mv (.c (.sl 0 [] true)))), false, []⟩,
    ⟨(some 3), none, (.p (.mv (.c (.int .i64 0)))), false, []⟩] (some ⟨[1], [], false⟩))
  (.seq
   (.region 0 [⟨(some 4), none, (.p (.mv (.c (.fn 46 [])))), false, []⟩] (some ⟨[1, 4], [], false⟩))
   (.seq
    (.block 0
     (.seq
      (.region 0 [⟨(some 8), none, (.p (.mv (.t 4))), false, []⟩,
        ⟨(some 9), none, (.p (.faddr 0 (.t 1))), false, []⟩,
        ⟨(some 10), none, (.r (.load 1 false (.t 9))), false, []⟩,
        ⟨(some 11), none, (.callv (.t 8) [(.t 10), (.c (.int .i64 255))]), false, []⟩,
        ⟨(some 12), none, (.p (.un .not (.t 11))), false, []⟩,
        ⟨(some 13), none, (.p (.mv (.t 12))), false, []⟩,
        ⟨(some 14), (some (13, false)), (.p (.mv (.t 4))), false, []⟩,
        ⟨(some 15), (some (13, false)), (.p (.faddr 2 (.t 1))), false, []⟩,
        ⟨(some 16), (some (13, false)), (.r (.load 1 false (.t 15))), false, []⟩,
        ⟨(some 17), (some (13, false)), (.callv (.t 14) [(.t 16), (.c (.int .i64 255))]), false, []⟩,
        ⟨(some 18), (some (13, false)), (.p (.un .not (.t 17))), false, []⟩,
        ⟨(some 19), none, (.p (.pick (.t 13) (.c (.bool true)) (.t 18))), false, []⟩,
        ⟨(some 20), none, (.p (.mv (.t 19))), false, []⟩,
        ⟨(some 21), (some (20, false)), (.p (.mv (.t 4))), false, []⟩,
        ⟨(some 22), (some (20, false)), (.p (.faddr 3 (.t 1))), false, []⟩,
        ⟨(some 23), (some (20, false)), (.r (.load 1 false (.t 22))), false, []⟩,
        ⟨(some 24), (some (20, false)), (.callv (.t 21) [(.t 23), (.c (.int .i64 255))]), false, []⟩,
        ⟨(some 25), (some (20, false)), (.p (.un .not (.t 24))), false, []⟩,
        ⟨(some 26), none, (.p (.pick (.t 20) (.c (.bool true)) (.t 25))), false, []⟩,
        ⟨(some 27), none, (.p (.mv (.t 26))), false, []⟩,
        ⟨(some 28), (some (27, false)), (.p (.mv (.t 4))), false, []⟩,
        ⟨(some 29), (some (27, false)), (.p (.faddr 1 (.t 1))), false, []⟩,
        ⟨(some 30), (some (27, false)), (.r (.load 1 false (.t 29))), false, []⟩,
        ⟨(some 31), (some (27, false)), (.callv (.t 28) [(.t 30), (.c (.int .i64 65535))]), false, []⟩,
        ⟨(some 32), (some (27, false)), (.p (.un .not (.t 31))), false, []⟩,
        ⟨(some 33), none, (.p (.pick (.t 27) (.c (.bool true)) (.t 32))), false, []⟩,
        ⟨(some 7), none, (.p (.mv (.t 33))), false, []⟩] (some ⟨[1, 7], [], false⟩))
      (.cond (.t 7)
       (.seq
        (.region 0 [⟨(some 2), none, (.p (.mv (.c (.sl 0 [] true)))), false, []⟩,
          ⟨(some 3), none, (.p (.mv (.c (.int .i64 11)))), false, []⟩] (some ⟨[2, 3], [], false⟩))
        .ret)
       (.seq
        (.region 0 [⟨(some 35), none, (.p (.faddr 6 (.t 1))), false, []⟩,
          ⟨(some 36), none, (.r (.load 1 false (.t 35))), false, []⟩,
          ⟨(some 37), none, (.p (.len (.t 36))), false, []⟩,
          ⟨(some 38), none, (.p (.bin .gtr (.t 37) (.c (.int .i64 1480)))), false, []⟩,
          ⟨(some 34), none, (.p (.mv (.t 38))), false, []⟩] (some ⟨[1, 34], [], false⟩))
        (.cond (.t 34)
         (.seq
          (.region 0 [⟨(some 2), none, (.p (.mv (.c (.sl 0 [] true)))), false, []⟩,
            ⟨(some 3), none, (.p (.mv (.c (.int .i64 14)))), false, []⟩] (some ⟨[2, 3], [], false⟩))
          .ret)
         .skip)))))
    (.seq
     (.region 0 [⟨(some 39), none, (.p (.faddr 0 (.t 1))), false, []⟩,
       ⟨(some 40), none, (.r (.load 1 false (.t 39))), false, []⟩,
       ⟨(some 41), none, (.p (.bin .or (.c (.int .i64 17664)) (.t 40))), false, []⟩,
       ⟨(some 42), none, (.p (.faddr 6 (.t 1))), false, []⟩,
       ⟨(some 43), none, (.r (.load 1 false (.t 42))), false, []⟩,
       ⟨(some 44), none, (.p (.len (.t 43))), false, []⟩,
       ⟨(some 45), none, (.p (.bin .add (.c (.int .i64 20)) (.t 44))), false, []⟩,
       ⟨(some 46), none, (.p (.faddr 1 (.t 1))), false, []⟩,
       ⟨(some 47), none, (.r (.load 1 false (.t 46))), false, []⟩,
       ⟨(some 48), none, (.p (.faddr 2 (.t 1))), false, []⟩,
       ⟨(some 49), none, (.r (.load 1 false (.t 48))), false, []⟩,
       ⟨(some 50), none, (.p (.bin .shl (.t 49) (.c (.int .u64 8)))), false, []⟩,
       ⟨(some 51), none, (.p (.faddr 3 (.t 1))), false, []⟩,
       ⟨(some 52), none, (.r (.load 1 false (.t 51))), false, []⟩,
       ⟨(some 53), none, (.p (.bin .or (.t 50) (.t 52))), false, []⟩,
       ⟨(some 54), none, (.p (.faddr 4 (.t 1))), false, []⟩,
       ⟨(some 55), none, (.r (.load 1 false (.t 54))), false, []⟩,
       ⟨(some 56), none, (.p (.bin .shr (.t 55) (.c (.int .u64 16)))), false, []⟩,
       ⟨(some 57), none, (.p (.convI .i64 (.t 56))), false, []⟩,
       ⟨(some 58), none, (.p (.faddr 4 (.t 1))), false, []⟩,
       ⟨(some 59), none, (.r (.load 1 false (.t 58))), false, []⟩,
       ⟨(some 60), none, (.p (.convI .i64 (.t 59))), false, []⟩,
       ⟨(some 61), none, (.p (.faddr 5 (.t 1))), false, []⟩,
       ⟨(some 62), none, (.r (.load 1 false (.t 61))), false, []⟩,
       ⟨(some 63), none, (.p (.bin .shr (.t 62) (.c (.int .u64 16)))), false, []⟩,
       ⟨(some 64), none, (.p (.convI .i64 (.t 63))), false, []⟩,
       ⟨(some 65), none, (.p (.faddr 5 (.t 1))), false, []⟩,
       ⟨(some 66), none, (.r (.load 1 false (.t 65))), false, []⟩,
       ⟨(some 67), none, (.p (.convI .i64 (.t 66))), false, []⟩,
       ⟨(some 68), none, (.e (.mks 3 1 (.int .i64 0) 10 [(0, (.t 41)), (1, (.t 45)), (2, (.t 47)), (3, (.c (.int .i64 0))), (4, (.t 53)), (5, (.c (.int .i64 0))), (6, (.t 57)), (7, (.t 60)), (8, (.t 64)), (9, (.t 67))]) none), false, []⟩,
       ⟨(some 69), none, (.call 47 [(.c (.sl 0 [] true)), (.t 68)] false), false, []⟩,
       ⟨(some 5), none, (.p (.mv (.t 69))), false, []⟩] (some ⟨[1, 5], [], false⟩))
     (.seq
      (.region 0 [⟨(some 70), none, (.p (.mv (.t 5))), false, []⟩,
        ⟨(some 71), none, (.call 15 [(.t 70)] false), false, []⟩,
        ⟨(some 6), none, (.p (.mv (.t 71))), false, []⟩] (some ⟨[1, 5, 6], [], false⟩))
      (.seq
       (.region 0 [⟨(some 72), none, (.p (.mv (.t 5))), false, []⟩,
         ⟨(some 73), none, (.p (.mv (.t 5))), false, []⟩,
         ⟨(some 74), none, (.p (.mv (.t 6))), false, []⟩,
         ⟨(some 75), none, (.p (.bin .shr (.t 74) (.c (.int .u64 8)))), false, []⟩,
         ⟨(some 76), none, (.p (.convI .u8 (.t 75))), false, []⟩,
         ⟨(some 77), none, (.p (.mv (.t 6))), false, []⟩,
         ⟨(some 78), none, (.p (.convI .u8 (.t 77))), false, []⟩,
         ⟨(some 79), none, (.p (.iaddr 1 (.t 72) (.c (.int .i64 10)))), false, []⟩,
         ⟨none, none, (.e (.store 1 (.t 79) (.t 76)) none), false, []⟩,
         ⟨(some 80), none, (.p (.iaddr 1 (.t 73) (.c (.int .i64 11)))), false, []⟩,
         ⟨none, none, (.e (.store 1 (.t 80) (.t 78)) none), false, []⟩] (some ⟨[1, 5], [], false⟩))
       (.seq
        (.region 0 [⟨(some 81), none, (.p (.mv (.t 5))), false, []⟩,
          ⟨(some 82), none, (.p (.faddr 6 (.t 1))), false, []⟩,
          ⟨(some 83), none, (.r (.load 1 false (.t 82))), false, []⟩,
          ⟨(some 84), none, (.e (.append 5 1 140737488355328 (.t 81) (.t 83)) none), false, []⟩,
          ⟨(some 2), none, (.p (.mv (.t 84))), false, []⟩,
          ⟨(some 3), none, (.p (.mv (.c (.int .i64 0)))), false, []⟩] (some ⟨[2, 3], [], false⟩))
        .ret)))))))
theorem Try.run33 {xs : List AV} {r : AV} (hl : xs.length ≤ 85) (h : aw Try.prog Try.c33 (Pv.Ends [2, 3] r) (entry xs)) : Run Try.prog 33 xs r :=
  run_of (fun _ _ => drawOk Try.mixed) Try.func33 rfl rfl rfl (by kernel_rfl) (by kernel_rfl) hl h
/-! 37 paling/ipv4.Hop : params [48], results [48, 33], free 0, zeros [(.agg #[(.int .i64 (0)), (.int .i64 (0)), (.int .i64 (0)), (.int .i64 (0)), (.int .u32 (0)), (.int .u32 (0)), (.slice none 0 0)])] -/
def Try.c37 : AC :=
 (.seq
  (.region 0 [⟨(some 1), none, (.e (.box 48 (.t 0)) none), false, []⟩,
    ⟨(some 2), none, (.e (.alloc 48 (.agg [(.int .i64 0), (.int .i64 0), (.int .i64 0), (.int .i64 0), (.int .u32 0), (.int .u32 0), (.sl 0 [] true)])) none), false, []⟩,
    ⟨(some 3), none, (.p (.mv (.c (.int .i64 0)))), false, []⟩] (some ⟨[1, 2], [], false⟩))
  (.seq
   (.seq
    (.region 0 [⟨(some 4), none, (.p (.faddr 2 (.t 1))), false, []⟩,
      ⟨(some 5), none, (.r (.load 1 false (.t 4))), false, []⟩,
      ⟨(some 6), none, (.p (.bin .leq (.t 5) (.c (.int .i64 1)))), false, []⟩] (some ⟨[1, 2, 6], [], false⟩))
    (.cond (.t 6)
     (.seq
      (.region 0 [⟨(some 7), none, (.p (.build [(.int .i64 0), (.int .i64 0), (.int .i64 0), (.int .i64 0), (.int .u32 0), (.int .u32 0), (.sl 0 [] true)] [])), false, []⟩,
        ⟨none, none, (.e (.store 7 (.t 2) (.t 7)) none), false, []⟩,
        ⟨(some 3), none, (.p (.mv (.c (.int .i64 13)))), false, []⟩] (some ⟨[2, 3], [], false⟩))
      .ret)
     .skip))
   (.seq
    (.region 0 [⟨(some 8), none, (.p (.faddr 2 (.t 1))), false, []⟩,
      ⟨(some 9), none, (.r (.load 1 false (.t 8))), false, []⟩,
      ⟨(some 10), none, (.p (.bin .sub (.t 9) (.c (.int .i64 1)))), false, []⟩,
      ⟨(some 11), none, (.p (.faddr 2 (.t 1))), false, []⟩,
      ⟨none, none, (.e (.store 1 (.t 11) (.t 10)) none), false, []⟩] (some ⟨[1, 2], [], false⟩))
    (.seq
     (.region 0 [⟨(some 12), none, (.p (.faddr 6 (.t 1))), false, []⟩,
       ⟨(some 13), none, (.r (.load 1 false (.t 12))), false, []⟩,
       ⟨(some 14), none, (.call 42 [(.t 13)] false), false, []⟩,
       ⟨(some 15), none, (.p (.faddr 6 (.t 1))), false, []⟩,
       ⟨none, none, (.e (.store 1 (.t 15) (.t 14)) none), false, []⟩] (some ⟨[1, 2], [], false⟩))
     (.seq
      (.region 0 [⟨(some 16), none, (.r (.load 7 true (.t 1))), false, []⟩,
        ⟨none, none, (.e (.store 7 (.t 2) (.t 16)) none), false, []⟩,
        ⟨(some 3), none, (.p (.mv (.c (.int .i64 0)))), false, []⟩] (some ⟨[2, 3], [], false⟩))
      .ret)))))
theorem Try.run37 {xs : List AV} {r : AV} (hl : xs.length ≤ 17) (h : aw Try.prog Try.c37 (Pv.EndsX (rvs [.c 2 7 true, .t 3]) r) (entry xs)) : Run Try.prog 37 xs r :=
  run_ofC (fun _ _ => drawOk Try.mixed) Try.func37 rfl rfl (by kernel_rfl) (by kernel_rfl) (by kernel_rfl) hl h
/-! 39 paling/sum.add : params [22], results [3], free 0, zeros [(.slice none 0 0)] -/
def Try.c39b0 : AC :=
 (.seq
  (.seq
   (.region 0 [⟨(some 5), none, (.p (.mv (.t 4))), false, []⟩,
     ⟨(some 6), none, (.p (.bin .add (.t 5) (.c (.int .i64 1)))), false, []⟩,
     ⟨(some 7), none, (.p (.mv (.t 0))), false, []⟩,
     ⟨(some 8), none, (.p (.len (.t 7))), false, []⟩,
     ⟨(some 9), none, (.p (.bin .lss (.t 6) (.t 8))), false, []⟩] (some ⟨[0, 3, 4, 9], [], false⟩))
   (.cond (.t 9)
    .skip
    (.exit 0)))
  (.seq
   (.block 1
    (.region 16 [⟨(some 12), none, (.p (.mv (.t 3))), false, []⟩,
      ⟨(some 13), none, (.p (.mv (.t 0))), false, []⟩,
      ⟨(some 14), none, (.p (.mv (.t 4))), false, []⟩,
      ⟨(some 15), none, (.p (.iaddr 1 (.t 13) (.t 14))), false, []⟩,
      ⟨(some 16), none, (.r (.load 1 false (.t 15))), false, []⟩,
      ⟨(some 17), none, (.p (.convI .i64 (.t 16))), false, []⟩,
      ⟨(some 18), none, (.p (.bin .shl (.t 17) (.c (.int .u64 8)))), false, []⟩,
      ⟨(some 19), none, (.p (.mv (.t 0))), false, []⟩,
      ⟨(some 20), none, (.p (.mv (.t 4))), false, []⟩,
      ⟨(some 21), none, (.p (.bin .add (.t 20) (.c (.int .i64 1)))), false, []⟩,
      ⟨(some 22), none, (.p (.iaddr 1 (.t 19) (.t 21))), false, []⟩,
      ⟨(some 23), none, (.r (.load 1 false (.t 22))), false, []⟩,
      ⟨(some 24), none, (.p (.convI .i64 (.t 23))), false, []⟩,
      ⟨(some 25), none, (.p (.bin .or (.t 18) (.t 24))), false, []⟩,
      ⟨(some 26), none, (.p (.bin .add (.t 12) (.t 25))), false, []⟩,
      ⟨(some 3), none, (.p (.mv (.t 26))), false, []⟩] (some ⟨[0, 3, 4], [], true⟩)))
   (.region 0 [⟨(some 10), none, (.p (.mv (.t 4))), false, []⟩,
     ⟨(some 11), none, (.p (.bin .add (.t 10) (.c (.int .i64 2)))), false, []⟩,
     ⟨(some 4), none, (.p (.mv (.t 11))), false, []⟩] (some ⟨[0, 3, 4], [], false⟩))))
def Try.c39 : AC :=
 (.seq
  (.region 0 [⟨(some 2), none, (.p (.mv (.c (.int .i64 0)))), false, []⟩] (some ⟨[0], [], false⟩))
  (.seq
   (.region 0 [⟨(some 3), none, (.p (.mv (.c (.int .i64 0)))), false, []⟩] (some ⟨[0, 3], [], false⟩))
   (.seq
    (.seq
     (.region 0 [⟨(some 4), none, (.p (.mv (.c (.int .i64 0)))), false, []⟩] (some ⟨[0, 3, 4], [], false⟩))
     (.block 0
      (.loop (some ⟨[0, 3, 4], [], true⟩) Try.c39b0)))
    (.seq
     (.seq
      (.region 0 [⟨(some 27), none, (.p (.mv (.t 0))), false, []⟩,
        ⟨(some 28), none, (.p (.len (.t 27))), false, []⟩,
        ⟨(some 29), none, (.p (.bin .and (.t 28) (.c (.int .i64 1)))), false, []⟩,
        ⟨(some 30), none, (.p (.bin .eql (.t 29) (.c (.int .i64 1)))), false, []⟩] (some ⟨[0, 3, 30], [], false⟩))
      (.cond (.t 30)
       (.region 0 [⟨(some 31), none, (.p (.mv (.t 3))), false, []⟩,
         ⟨(some 32), none, (.p (.mv (.t 0))), false, []⟩,
         ⟨(some 33), none, (.p (.mv (.t 0))), false, []⟩,
         ⟨(some 34), none, (.p (.len (.t 33))), false, []⟩,
         ⟨(some 35), none, (.p (.bin .sub (.t 34) (.c (.int .i64 1)))), false, []⟩,
         ⟨(some 36), none, (.p (.iaddr 1 (.t 32) (.t 35))), false, []⟩,
         ⟨(some 37), none, (.r (.load 1 false (.t 36))), false, []⟩,
         ⟨(some 38), none, (.p (.convI .i64 (.t 37))), false, []⟩,
         ⟨(some 39), none, (.p (.bin .shl (.t 38) (.c (.int .u64 8)))), false, []⟩,
         ⟨(some 40), none, (.p (.bin .add (.t 31) (.t 39))), false, []⟩,
         ⟨(some 3), none, (.p (.mv (.t 40))), false, []⟩] (some ⟨[3], [], false⟩))
       .skip))
     (.seq
      (.region 0 [⟨(some 41), none, (.p (.mv (.t 3))), false, []⟩,
        ⟨(some 42), none, (.call 41 [(.t 41)] false), false, []⟩,
        ⟨(some 2), none, (.p (.mv (.t 42))), false, []⟩] (some ⟨[2], [], false⟩))
      .ret)))))
theorem Try.run39 {xs : List AV} {r : AV} (hl : xs.length ≤ 43) (h : aw Try.prog Try.c39 (Pv.Ends [2] r) (entry xs)) : Run Try.prog 39 xs r :=
  run_of (fun _ _ => drawOk Try.mixed) Try.func39 rfl rfl rfl (by kernel_rfl) (by kernel_rfl) hl h
/-! 41 paling/sum.down : params [3], results [3], free 0, zeros [(.int .i64 (0))] -/
def Try.c41b0 : AC :=
 (.seq
  (.seq
   (.region 0 [⟨(some 5), none, (.r (.load 1 false (.t 1))), false, []⟩,
     ⟨(some 6), none, (.p (.bin .gtr (.t 5) (.c (.int .i64 65535)))), false, []⟩] (some ⟨[1, 3, 6], [], false⟩))
   (.cond (.t 6)
    .skip
    (.exit 0)))
  (.block 1
   (.region 0 [⟨(some 7), none, (.p (.mv (.t 3))), false, []⟩,
     ⟨(some 8), none, (.callv (.t 7) []), false, []⟩] (some ⟨[1, 3], [], false⟩))))
def Try.c41 : AC :=
 (.seq
  (.region 0 [⟨(some 1), none, (.e (.box 3 (.t 0)) none), false, []⟩,
    ⟨(some 2), none, (.p (.mv (.c (.int .i64 0)))), false, []⟩] (some ⟨[1], [], false⟩))
  (.seq
   (.region 0 [⟨(some 4), none, (.p (.mkfn 50 [(.t 1)])), false, []⟩,
     ⟨(some 3), none, (.p (.mv (.t 4))), false, []⟩] (some ⟨[1, 3], [], false⟩))
   (.seq
    (.block 0
     (.loop (some ⟨[1, 3], [], true⟩) Try.c41b0))
    (.seq
     (.region 0 [⟨(some 9), none, (.r (.load 1 false (.t 1))), false, []⟩,
       ⟨(some 2), none, (.p (.mv (.t 9))), false, []⟩] (some ⟨[2], [], false⟩))
     .ret))))
theorem Try.run41 {xs : List AV} {r : AV} (hl : xs.length ≤ 10) (h : aw Try.prog Try.c41 (Pv.Ends [2] r) (entry xs)) : Run Try.prog 41 xs r :=
  run_of (fun _ _ => drawOk Try.mixed) Try.func41 rfl rfl rfl (by kernel_rfl) (by kernel_rfl) hl h
/-! 42 slices.Clone[[]byte,byte] : params [22], results [22], free 0, zeros [(.slice none 0 0)] -/
def Try.c42 : AC :=
 (.seq
  (.region 0 [⟨(some 2), none, (.p (.mv (.c (.sl 0 [] true)))), false, []⟩] (some ⟨[0], [], false⟩))
  (.seq
   (.seq
    (.region 0 [⟨(some 3), none, (.p (.mv (.t 0))), false, []⟩,
      ⟨(some 4), none, (.p (.isnil false (.t 3))), false, []⟩] (some ⟨[0, 4], [], false⟩))
    (.cond (.t 4)
     (.seq
      (.region 0 [⟨(some 2), none, (.p (.mv (.c (.sl 0 [] true)))), false, []⟩] (some ⟨[2], [], false⟩))
      .ret)
     .skip))
   (.seq
    (.region 0 [⟨(some 5), none, (.e (.mks 5 1 (.int .u8 0) 0 []) none), false, []⟩,
      ⟨(some 6), none, (.p (.mv (.t 0))), false, []⟩,
      ⟨(some 7), none, (.e (.append 5 1 140737488355328 (.t 5) (.t 6)) none), false, []⟩,
      ⟨(some 2), none, (.p (.mv (.t 7))), false, []⟩] (some ⟨[2], [], false⟩))
    .ret)))
theorem Try.run42 {xs : List AV} {r : AV} (hl : xs.length ≤ 8) (h : aw Try.prog Try.c42 (Pv.Ends [2] r) (entry xs)) : Run Try.prog 42 xs r :=
  run_of (fun _ _ => drawOk Try.mixed) Try.func42 rfl rfl rfl (by kernel_rfl) (by kernel_rfl) hl h
/-! 43 paling/ipv4.pair : params [22, 3], results [3], free 0, zeros [(.slice none 0 0), (.int .i64 (0))] -/
def Try.c43 : AC :=
 (.seq
  (.region 0 [⟨(some 4), none, (.p (.mv (.c (.int .i64 0)))), false, []⟩] (some ⟨[0, 1], [], false⟩))
  (.seq
   (.region 14 [⟨(some 5), none, (.p (.mv (.t 0))), false, []⟩,
     ⟨(some 6), none, (.p (.mv (.t 1))), false, []⟩,
     ⟨(some 7), none, (.p (.iaddr 1 (.t 5) (.t 6))), false, []⟩,
     ⟨(some 8), none, (.r (.load 1 false (.t 7))), false, []⟩,
     ⟨(some 9), none, (.p (.convI .i64 (.t 8))), false, []⟩,
     ⟨(some 10), none, (.p (.bin .shl (.t 9) (.c (.int .u64 8)))), false, []⟩,
     ⟨(some 11), none, (.p (.mv (.t 0))), false, []⟩,
     ⟨(some 12), none, (.p (.mv (.t 1))), false, []⟩,
     ⟨(some 13), none, (.p (.bin .add (.t 12) (.c (.int .i64 1)))), false, []⟩,
     ⟨(some 14), none, (.p (.iaddr 1 (.t 11) (.t 13))), false, []⟩,
     ⟨(some 15), none, (.r (.load 1 false (.t 14))), false, []⟩,
     ⟨(some 16), none, (.p (.convI .i64 (.t 15))), false, []⟩,
     ⟨(some 17), none, (.p (.bin .or (.t 10) (.t 16))), false, []⟩,
     ⟨(some 4), none, (.p (.mv (.t 17))), false, []⟩] (some ⟨[4], [], true⟩))
   .ret))
theorem Try.run43 {xs : List AV} {r : AV} (hl : xs.length ≤ 18) (h : aw Try.prog Try.c43 (Pv.Ends [4] r) (entry xs)) : Run Try.prog 43 xs r :=
  run_of (fun _ _ => drawOk Try.mixed) Try.func43 rfl rfl rfl (by kernel_rfl) (by kernel_rfl) hl h
/-! 44 paling/ipv4.four : params [22, 3], results [46], free 0, zeros [(.slice none 0 0), (.int .i64 (0))] -/
def Try.c44 : AC :=
 (.seq
  (.region 0 [⟨(some 4), none, (.p (.mv (.c (.int .u32 0)))), false, []⟩] (some ⟨[0, 1], [], false⟩))
  (.seq
   (.region 0 [⟨(some 5), none, (.p (.mv (.t 0))), false, []⟩,
     ⟨(some 6), none, (.p (.mv (.t 1))), false, []⟩,
     ⟨(some 7), none, (.call 43 [(.t 5), (.t 6)] false), false, []⟩,
     ⟨(some 8), none, (.p (.convI .u32 (.t 7))), false, []⟩,
     ⟨(some 9), none, (.p (.bin .shl (.t 8) (.c (.int .u64 16)))), false, []⟩,
     ⟨(some 10), none, (.p (.mv (.t 0))), false, []⟩,
     ⟨(some 11), none, (.p (.mv (.t 1))), false, []⟩,
     ⟨(some 12), none, (.p (.bin .add (.t 11) (.c (.int .i64 2)))), false, []⟩,
     ⟨(some 13), none, (.call 43 [(.t 10), (.t 12)] false), false, []⟩,
     ⟨(some 14), none, (.p (.convI .u32 (.t 13))), false, []⟩,
     ⟨(some 15), none, (.p (.bin .or (.t 9) (.t 14))), false, []⟩,
     ⟨(some 4), none, (.p (.mv (.t 15))), false, []⟩] (some ⟨[4], [], false⟩))
   .ret))
theorem Try.run44 {xs : List AV} {r : AV} (hl : xs.length ≤ 16) (h : aw Try.prog Try.c44 (Pv.Ends [4] r) (entry xs)) : Run Try.prog 44 xs r :=
  run_of (fun _ _ => drawOk Try.mixed) Try.func44 rfl rfl rfl (by kernel_rfl) (by kernel_rfl) hl h
/-! 46 paling/ipv4.Put.1 : params [3, 3], results [4], free 0, zeros [(.int .i64 (0)), (.int .i64 (0))] -/
def Try.c46 : AC :=
 (.seq
  (.region 0 [⟨(some 4), none, (.p (.mv (.c (.bool false)))), false, []⟩] (some ⟨[0, 1], [], false⟩))
  (.seq
   (.region 0 [⟨(some 5), none, (.p (.mv (.t 0))), false, []⟩,
     ⟨(some 6), none, (.p (.bin .geq (.t 5) (.c (.int .i64 0)))), false, []⟩,
     ⟨(some 7), none, (.p (.mv (.t 6))), false, []⟩,
     ⟨(some 8), (some (7, true)), (.p (.mv (.t 0))), false, []⟩,
     ⟨(some 9), (some (7, true)), (.p (.mv (.t 1))), false, []⟩,
     ⟨(some 10), (some (7, true)), (.p (.bin .leq (.t 8) (.t 9))), false, []⟩,
     ⟨(some 11), none, (.p (.pick (.t 7) (.t 10) (.c (.bool false)))), false, []⟩,
     ⟨(some 4), none, (.p (.mv (.t 11))), false, []⟩] (some ⟨[4], [], false⟩))
   .ret))
theorem Try.run46 {xs : List AV} {r : AV} (hl : xs.length ≤ 12) (h : aw Try.prog Try.c46 (Pv.Ends [4] r) (entry xs)) : Run Try.prog 46 xs r :=
  run_of (fun _ _ => drawOk Try.mixed) Try.func46 rfl rfl rfl (by kernel_rfl) (by kernel_rfl) hl h
/-! 47 paling/ipv4.put : params [22, 62], results [22], free 0, zeros [(.slice none 0 0), (.slice none 0 0)] -/
def Try.c47b0 : AC :=
 (.seq
  (.region 0 [⟨(some 10), none, (.p (.bin .lss (.t 9) (.t 8))), false, []⟩] (some ⟨[0, 7, 8, 9, 10], [], false⟩))
  (.seq
   (.cond (.t 10)
    .skip
    (.exit 0))
   (.seq
    (.block 1
     (.seq
      (.region 0 [⟨(some 11), none, (.p (.iaddr 1 (.t 7) (.t 9))), false, []⟩,
        ⟨(some 12), none, (.r (.load 1 false (.t 11))), false, []⟩,
        ⟨(some 6), none, (.p (.mv (.t 12))), false, []⟩] (some ⟨[0, 6, 7, 8, 9], [], false⟩))
      (.region 0 [⟨(some 13), none, (.p (.mv (.t 0))), false, []⟩,
        ⟨(some 14), none, (.p (.mv (.t 6))), false, []⟩,
        ⟨(some 15), none, (.p (.bin .shr (.t 14) (.c (.int .u64 8)))), false, []⟩,
        ⟨(some 16), none, (.p (.convI .u8 (.t 15))), false, []⟩,
        ⟨(some 17), none, (.p (.mv (.t 6))), false, []⟩,
        ⟨(some 18), none, (.p (.convI .u8 (.t 17))), false, []⟩,
        ⟨(some 19), none, (.e (.mks 5 1 (.int .u8 0) 2 [(0, (.t 16)), (1, (.t 18))]) none), false, []⟩,
        ⟨(some 20), none, (.e (.append 5 1 140737488355328 (.t 13) (.t 19)) none), false, []⟩,
        ⟨(some 0), none, (.p (.mv (.t 20))), false, []⟩] (some ⟨[0, 7, 8, 9], [], false⟩))))
    (.region 0 [⟨(some 21), none, (.p (.bin .add (.t 9) (.c (.int .i64 1)))), false, []⟩,
      ⟨(some 9), none, (.p (.mv (.t 21))), false, []⟩] (some ⟨[0, 7, 8, 9], [], false⟩)))))
def Try.c47 : AC :=
 (.seq
  (.region 0 [⟨(some 4), none, (.p (.mv (.c (.sl 0 [] true)))), false, []⟩] (some ⟨[0, 1], [], false⟩))
  (.seq
   (.seq
    (.region 0 [⟨(some 7), none, (.p (.mv (.t 1))), false, []⟩,
      ⟨(some 8), none, (.p (.len (.t 7))), false, []⟩,
      ⟨(some 9), none, (.p (.mv (.c (.int .i64 0)))), false, []⟩] (some ⟨[0, 7, 8, 9], [], false⟩))
    (.block 0
     (.loop (some ⟨[0, 7, 8, 9], [(0, (1, 5))], true⟩) Try.c47b0)))
   (.seq
    (.region 0 [⟨(some 22), none, (.p (.mv (.t 0))), false, []⟩,
      ⟨(some 4), none, (.p (.mv (.t 22))), false, []⟩] (some ⟨[4], [], false⟩))
    .ret)))
theorem Try.run47 {xs : List AV} {r : AV} (hl : xs.length ≤ 23) (h : aw Try.prog Try.c47 (Pv.Ends [4] r) (entry xs)) : Run Try.prog 47 xs r :=
  run_of (fun _ _ => drawOk Try.mixed) Try.func47 rfl rfl rfl (by kernel_rfl) (by kernel_rfl) hl h
/-! 50 paling/sum.down.1 : params [], results [], free 1, zeros [] -/
def Try.c50 : AC :=
 (.region 0 [⟨(some 1), none, (.r (.load 1 false (.t 0))), false, []⟩,
   ⟨(some 2), none, (.p (.bin .shr (.t 1) (.c (.int .u64 16)))), false, []⟩,
   ⟨(some 3), none, (.r (.load 1 false (.t 0))), false, []⟩,
   ⟨(some 4), none, (.p (.bin .and (.t 3) (.c (.int .i64 65535)))), false, []⟩,
   ⟨(some 5), none, (.p (.bin .add (.t 2) (.t 4))), false, []⟩,
   ⟨none, none, (.e (.store 1 (.t 0) (.t 5)) none), false, []⟩] (some ⟨[], [], false⟩))
theorem Try.run50 {xs : List AV} {r : AV} (hl : xs.length ≤ 6) (h : aw Try.prog Try.c50 (Pv.Ends [] r) (entry xs)) : Run Try.prog 50 xs r :=
  run_of (fun _ _ => drawOk Try.mixed) Try.func50 rfl rfl rfl (by kernel_rfl) (by kernel_rfl) hl h
theorem Try.gen50 {xs : List AV} {r : AV} {H H' : Hp} (hl : xs.length ≤ 6) (h : aw Try.prog Try.c50 (Pv.EndsG [] r H') ⟨xs.zipIdx.map fun p => (p.2, p.1), H⟩) : Gen Try.prog 50 xs H r H' :=
  gen_of (fun _ _ => drawOk Try.mixed) Try.func50 rfl rfl rfl (by kernel_rfl) (by kernel_rfl) hl h
end Go.Proofs
