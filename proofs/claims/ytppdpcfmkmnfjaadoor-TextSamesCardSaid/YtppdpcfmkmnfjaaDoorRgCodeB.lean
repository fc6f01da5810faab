/- The compiled code of this seat, and the rules that run it. (Printed by a program of ours.) -/
import Derived.Test.YtppdpcfmkmnfjaaDoorRgCodeA
namespace Go.Proofs
open Go.Pv
set_option maxHeartbeats 4000000
/-! 89 paling/addr.Text : params [31], results [9], free 0, zeros [(.int .u32 (0))] -/
def Tryd.c89b0 : AC :=
 (.seq
  (.region 0 [⟨(some 6), none, (.p (.bin .lss (.t 5) (.c (.int .i64 4)))), false, []⟩] (some ⟨[0, 3, 5, 6], [], false⟩))
  (.seq
   (.cond (.t 6)
    .skip
    (.exit 0))
   (.seq
    (.block 1
     (.seq
      (.region 0 [⟨(some 7), none, (.p (.mv (.t 5))), false, []⟩,
        ⟨(some 4), none, (.p (.mv (.t 7))), false, []⟩] (some ⟨[0, 3, 4, 5], [], false⟩))
      (.seq
       (.seq
        (.region 0 [⟨(some 8), none, (.p (.mv (.t 4))), false, []⟩,
          ⟨(some 9), none, (.p (.bin .gtr (.t 8) (.c (.int .i64 0)))), false, []⟩] (some ⟨[0, 3, 4, 5, 9], [], false⟩))
        (.cond (.t 9)
         (.region 0 [⟨(some 10), none, (.p (.mv (.t 3))), false, []⟩,
           ⟨(some 11), none, (.e (.mks 5 1 (.int .u8 0) 1 [(0, (.c (.int .u8 46)))]) none), false, []⟩,
           ⟨(some 12), none, (.e (.append 5 1 140737488355328 (.t 10) (.t 11)) none), false, []⟩,
           ⟨(some 3), none, (.p (.mv (.t 12))), false, []⟩] (some ⟨[0, 3, 4, 5], [], false⟩))
         .skip))
       (.region 0 [⟨(some 13), none, (.p (.mv (.t 3))), false, []⟩,
         ⟨(some 14), none, (.p (.mv (.t 0))), false, []⟩,
         ⟨(some 15), none, (.p (.mv (.t 4))), false, []⟩,
         ⟨(some 16), none, (.p (.bin .sub (.c (.int .i64 3)) (.t 15))), false, []⟩,
         ⟨(some 17), none, (.p (.bin .mul (.c (.int .i64 8)) (.t 16))), false, []⟩,
         ⟨(some 18), none, (.p (.bin .shr (.t 14) (.t 17))), false, []⟩,
         ⟨(some 19), none, (.p (.convI .u8 (.t 18))), false, []⟩,
         ⟨(some 20), none, (.p (.convI .i64 (.t 19))), false, []⟩,
         ⟨(some 21), none, (.call 103 [(.t 13), (.t 20)] false), false, []⟩,
         ⟨(some 3), none, (.p (.mv (.t 21))), false, []⟩] (some ⟨[0, 3, 5], [], false⟩)))))
    (.region 0 [⟨(some 22), none, (.p (.bin .add (.t 5) (.c (.int .i64 1)))), false, []⟩,
      ⟨(some 5), none, (.p (.mv (.t 22))), false, []⟩] (some ⟨[0, 3, 5], [], false⟩)))))
def Tryd.c89 : AC :=
 (.seq
  (.region 0 [⟨(some 2), none, (.p (.mv (.c (.str [])))), false, []⟩] (some ⟨[0], [], false⟩))
  (.seq
   (.region 0 [⟨(some 3), none, (.p (.mv (.c (.sl 0 [] true)))), false, []⟩] (some ⟨[0, 3], [], false⟩))
   (.seq
    (.seq
     (.region 0 [⟨(some 5), none, (.p (.mv (.c (.int .i64 0)))), false, []⟩] (some ⟨[0, 3, 5], [], false⟩))
     (.block 0
      (.loop (some ⟨[0, 3, 5], [(3, (1, 5))], true⟩) Tryd.c89b0)))
    (.seq
     (.region 0 [⟨(some 23), none, (.p (.mv (.t 3))), false, []⟩,
       ⟨(some 24), none, (.r (.b2s (.t 23))), false, []⟩,
       ⟨(some 2), none, (.p (.mv (.t 24))), false, []⟩] (some ⟨[2], [], false⟩))
     .ret))))
theorem Tryd.run89 {xs : List AV} {r : AV} (hl : xs.length ≤ 25) (h : aw Tryd.prog Tryd.c89 (Pv.Ends [2] r) (entry xs)) : Run Tryd.prog 89 xs r :=
  run_of (fun _ _ => drawOk Tryd.mixed) Tryd.func89 rfl rfl rfl (by kernel_rfl) (by kernel_rfl) hl h
/-! 94 internal/stringslite.Index : params [9, 9], results [3], free 0, zeros [(.string ⟨#[]⟩), (.string ⟨#[]⟩)] -/
def Tryd.c94b0 : AC :=
 (.seq
  (.seq
   (.region 0 [⟨(some 57), none, (.p (.mv (.t 8))), false, []⟩,
     ⟨(some 58), none, (.p (.mv (.t 9))), false, []⟩,
     ⟨(some 59), none, (.p (.bin .lss (.t 57) (.t 58))), false, []⟩] (some ⟨[0, 1, 5, 6, 7, 8, 9, 10, 59], [], false⟩))
   (.cond (.t 59)
    .skip
    (.exit 1)))
  (.block 2
   (.seq
    (.seq
     (.region 0 [⟨(some 60), none, (.p (.mv (.t 0))), false, []⟩,
       ⟨(some 61), none, (.p (.mv (.t 8))), false, []⟩,
       ⟨(some 62), none, (.p (.idxs (.t 60) (.t 61))), false, []⟩,
       ⟨(some 63), none, (.p (.mv (.t 6))), false, []⟩,
       ⟨(some 64), none, (.p (.bin .neq (.t 62) (.t 63))), false, []⟩] (some ⟨[0, 1, 5, 6, 7, 8, 9, 10, 64], [], false⟩))
     (.cond (.t 64)
      (.seq
       (.region 0 [⟨(some 65), none, (.p (.mv (.t 0))), false, []⟩,
         ⟨(some 66), none, (.p (.mv (.t 8))), false, []⟩,
         ⟨(some 67), none, (.p (.bin .add (.t 66) (.c (.int .i64 1)))), false, []⟩,
         ⟨(some 68), none, (.p (.mv (.t 9))), false, []⟩,
         ⟨(some 69), none, (.p (.slices (.t 65) (some (.t 67)) (some (.t 68)))), false, []⟩,
         ⟨(some 70), none, (.p (.mv (.t 6))), false, []⟩,
         ⟨(some 71), none, (.call 109 [(.t 69), (.t 70)] false), false, []⟩,
         ⟨(some 11), none, (.p (.mv (.t 71))), false, []⟩] (some ⟨[0, 1, 5, 6, 7, 8, 9, 10, 11], [], false⟩))
       (.seq
        (.seq
         (.region 0 [⟨(some 72), none, (.p (.mv (.t 11))), false, []⟩,
           ⟨(some 73), none, (.p (.bin .lss (.t 72) (.c (.int .i64 0)))), false, []⟩] (some ⟨[0, 1, 5, 6, 7, 8, 9, 10, 11, 73], [], false⟩))
         (.cond (.t 73)
          (.seq
           (.region 0 [⟨(some 4), none, (.p (.mv (.c (.int .i64 (-1))))), false, []⟩] (some ⟨[4], [], false⟩))
           .ret)
          .skip))
        (.region 0 [⟨(some 74), none, (.p (.mv (.t 8))), false, []⟩,
          ⟨(some 75), none, (.p (.mv (.t 11))), false, []⟩,
          ⟨(some 76), none, (.p (.bin .add (.t 75) (.c (.int .i64 1)))), false, []⟩,
          ⟨(some 77), none, (.p (.bin .add (.t 74) (.t 76))), false, []⟩,
          ⟨(some 8), none, (.p (.mv (.t 77))), false, []⟩] (some ⟨[0, 1, 5, 6, 7, 8, 9, 10], [], false⟩))))
      .skip))
    (.seq
     (.seq
      (.region 0 [⟨(some 78), none, (.p (.mv (.t 0))), false, []⟩,
        ⟨(some 79), none, (.p (.mv (.t 8))), false, []⟩,
        ⟨(some 80), none, (.p (.bin .add (.t 79) (.c (.int .i64 1)))), false, []⟩,
        ⟨(some 81), none, (.p (.idxs (.t 78) (.t 80))), false, []⟩,
        ⟨(some 82), none, (.p (.mv (.t 7))), false, []⟩,
        ⟨(some 83), none, (.p (.bin .eql (.t 81) (.t 82))), false, []⟩,
        ⟨(some 84), none, (.p (.mv (.t 83))), false, []⟩,
        ⟨(some 85), (some (84, true)), (.p (.mv (.t 0))), false, []⟩,
        ⟨(some 86), (some (84, true)), (.p (.mv (.t 8))), false, []⟩,
        ⟨(some 87), (some (84, true)), (.p (.mv (.t 8))), false, []⟩,
        ⟨(some 88), (some (84, true)), (.p (.mv (.t 5))), false, []⟩,
        ⟨(some 89), (some (84, true)), (.p (.bin .add (.t 87) (.t 88))), false, []⟩,
        ⟨(some 90), (some (84, true)), (.p (.slices (.t 85) (some (.t 86)) (some (.t 89)))), false, []⟩,
        ⟨(some 91), (some (84, true)), (.p (.mv (.t 1))), false, []⟩,
        ⟨(some 92), (some (84, true)), (.p (.bin .eql (.t 90) (.t 91))), false, []⟩,
        ⟨(some 93), none, (.p (.pick (.t 84) (.t 92) (.c (.bool false)))), false, []⟩] (some ⟨[0, 1, 5, 6, 7, 8, 9, 10, 93], [], false⟩))
      (.cond (.t 93)
       (.seq
        (.region 0 [⟨(some 94), none, (.p (.mv (.t 8))), false, []⟩,
          ⟨(some 4), none, (.p (.mv (.t 94))), false, []⟩] (some ⟨[4], [], false⟩))
        .ret)
       .skip))
     (.seq
      (.region 0 [⟨(some 95), none, (.p (.mv (.t 8))), false, []⟩,
        ⟨(some 96), none, (.p (.bin .add (.t 95) (.c (.int .i64 1)))), false, []⟩,
        ⟨(some 8), none, (.p (.mv (.t 96))), false, []⟩] (some ⟨[0, 1, 5, 6, 7, 8, 9, 10], [], false⟩))
      (.seq
       (.region 0 [⟨(some 97), none, (.p (.mv (.t 10))), false, []⟩,
         ⟨(some 98), none, (.p (.bin .add (.t 97) (.c (.int .i64 1)))), false, []⟩,
         ⟨(some 10), none, (.p (.mv (.t 98))), false, []⟩] (some ⟨[0, 1, 5, 6, 7, 8, 9, 10], [], false⟩))
       (.seq
        (.region 0 [⟨(some 99), none, (.p (.mv (.t 5))), false, []⟩,
          ⟨(some 100), none, (.r (.load 1 false (.c (.lit (.pointer (some ⟨2, 0, none⟩)))))), false, []⟩,
          ⟨(some 101), none, (.p (.bin .leq (.t 99) (.t 100))), false, []⟩,
          ⟨(some 102), none, (.p (.mv (.t 101))), false, []⟩,
          ⟨(some 103), (some (102, true)), (.p (.mv (.t 10))), false, []⟩,
          ⟨(some 104), (some (102, true)), (.p (.mv (.t 8))), false, []⟩,
          ⟨(some 105), (some (102, true)), (.call 111 [(.t 104)] false), false, []⟩,
          ⟨(some 106), (some (102, true)), (.p (.bin .gtr (.t 103) (.t 105))), false, []⟩,
          ⟨(some 107), none, (.p (.pick (.t 102) (.t 106) (.c (.bool false)))), false, []⟩] (some ⟨[0, 1, 5, 6, 7, 8, 9, 10, 107], [], false⟩))
        (.cond (.t 107)
         (.seq
          (.region 0 [⟨(some 108), none, (.p (.mv (.t 0))), false, []⟩,
            ⟨(some 109), none, (.p (.mv (.t 8))), false, []⟩,
            ⟨(some 110), none, (.p (.slices (.t 108) (some (.t 109)) none)), false, []⟩,
            ⟨(some 111), none, (.p (.mv (.t 1))), false, []⟩,
            ⟨(some 112), none, (.call 110 [(.t 110), (.t 111)] false), false, []⟩,
            ⟨(some 12), none, (.p (.mv (.t 112))), false, []⟩] (some ⟨[8, 12], [], false⟩))
          (.seq
           (.seq
            (.region 0 [⟨(some 113), none, (.p (.mv (.t 12))), false, []⟩,
              ⟨(some 114), none, (.p (.bin .geq (.t 113) (.c (.int .i64 0)))), false, []⟩] (some ⟨[8, 12, 114], [], false⟩))
            (.cond (.t 114)
             (.seq
              (.region 0 [⟨(some 115), none, (.p (.mv (.t 12))), false, []⟩,
                ⟨(some 116), none, (.p (.mv (.t 8))), false, []⟩,
                ⟨(some 117), none, (.p (.bin .add (.t 115) (.t 116))), false, []⟩,
                ⟨(some 4), none, (.p (.mv (.t 117))), false, []⟩] (some ⟨[4], [], false⟩))
              .ret)
             .skip))
           (.seq
            (.region 0 [⟨(some 4), none, (.p (.mv (.c (.int .i64 (-1))))), false, []⟩] (some ⟨[4], [], false⟩))
            .ret)))
         (.seq
          (.region 0 [⟨(some 118), none, (.p (.mv (.t 5))), false, []⟩,
            ⟨(some 119), none, (.r (.load 1 false (.c (.lit (.pointer (some ⟨2, 0, none⟩)))))), false, []⟩,
            ⟨(some 120), none, (.p (.bin .gtr (.t 118) (.t 119))), false, []⟩,
            ⟨(some 121), none, (.p (.mv (.t 120))), false, []⟩,
            ⟨(some 122), (some (121, true)), (.p (.mv (.t 10))), false, []⟩,
            ⟨(some 123), (some (121, true)), (.p (.mv (.t 8))), false, []⟩,
            ⟨(some 124), (some (121, true)), (.p (.bin .shr (.t 123) (.c (.int .u64 4)))), false, []⟩,
            ⟨(some 125), (some (121, true)), (.p (.bin .add (.c (.int .i64 4)) (.t 124))), false, []⟩,
            ⟨(some 126), (some (121, true)), (.p (.bin .geq (.t 122) (.t 125))), false, []⟩,
            ⟨(some 127), none, (.p (.pick (.t 121) (.t 126) (.c (.bool false)))), false, []⟩,
            ⟨(some 128), none, (.p (.mv (.t 127))), false, []⟩,
            ⟨(some 129), (some (128, true)), (.p (.mv (.t 8))), false, []⟩,
            ⟨(some 130), (some (128, true)), (.p (.mv (.t 9))), false, []⟩,
            ⟨(some 131), (some (128, true)), (.p (.bin .lss (.t 129) (.t 130))), false, []⟩,
            ⟨(some 132), none, (.p (.pick (.t 128) (.t 131) (.c (.bool false)))), false, []⟩] (some ⟨[0, 1, 5, 6, 7, 8, 9, 10, 132], [], false⟩))
          (.cond (.t 132)
           (.seq
            (.region 0 [⟨(some 133), none, (.p (.mv (.t 0))), false, []⟩,
              ⟨(some 134), none, (.p (.mv (.t 8))), false, []⟩,
              ⟨(some 135), none, (.p (.slices (.t 133) (some (.t 134)) none)), false, []⟩,
              ⟨(some 136), none, (.p (.mv (.t 1))), false, []⟩,
              ⟨(some 137), none, (.call 112 [(.t 135), (.t 136)] false), false, []⟩,
              ⟨(some 13), none, (.p (.mv (.t 137))), false, []⟩] (some ⟨[8, 13], [], false⟩))
            (.seq
             (.seq
              (.region 0 [⟨(some 138), none, (.p (.mv (.t 13))), false, []⟩,
                ⟨(some 139), none, (.p (.bin .lss (.t 138) (.c (.int .i64 0)))), false, []⟩] (some ⟨[8, 13, 139], [], false⟩))
              (.cond (.t 139)
               (.seq
                (.region 0 [⟨(some 4), none, (.p (.mv (.c (.int .i64 (-1))))), false, []⟩] (some ⟨[4], [], false⟩))
                .ret)
               .skip))
             (.seq
              (.region 0 [⟨(some 140), none, (.p (.mv (.t 8))), false, []⟩,
                ⟨(some 141), none, (.p (.mv (.t 13))), false, []⟩,
                ⟨(some 142), none, (.p (.bin .add (.t 140) (.t 141))), false, []⟩,
                ⟨(some 4), none, (.p (.mv (.t 142))), false, []⟩] (some ⟨[4], [], false⟩))
              .ret)))
           .skip))))))))))
def Tryd.c94 : AC :=
 (.seq
  (.region 0 [⟨(some 4), none, (.p (.mv (.c (.int .i64 0)))), false, []⟩] (some ⟨[0, 1], [], false⟩))
  (.seq
   (.region 0 [⟨(some 14), none, (.p (.mv (.t 1))), false, []⟩,
     ⟨(some 15), none, (.p (.lenS (.t 14))), false, []⟩,
     ⟨(some 5), none, (.p (.mv (.t 15))), false, []⟩] (some ⟨[0, 1, 5], [], false⟩))
   (.seq
    (.block 0
     (.seq
      (.region 0 [⟨(some 17), none, (.p (.mv (.t 5))), false, []⟩,
        ⟨(some 18), none, (.p (.bin .eql (.t 17) (.c (.int .i64 0)))), false, []⟩,
        ⟨(some 19), none, (.p (.mv (.t 18))), false, []⟩,
        ⟨(some 20), (some (19, false)), (.p (.mv (.t 1))), false, []⟩,
        ⟨(some 21), (some (19, false)), (.p (.mv (.t 0))), false, []⟩,
        ⟨(some 22), (some (19, false)), (.p (.bin .eql (.t 20) (.t 21))), false, []⟩,
        ⟨(some 23), none, (.p (.pick (.t 19) (.c (.bool true)) (.t 22))), false, []⟩,
        ⟨(some 16), none, (.p (.mv (.t 23))), false, []⟩] (some ⟨[0, 1, 5, 16], [], false⟩))
      (.cond (.t 16)
       (.seq
        (.region 0 [⟨(some 4), none, (.p (.mv (.c (.int .i64 0)))), false, []⟩] (some ⟨[4], [], false⟩))
        .ret)
       (.seq
        (.region 0 [⟨(some 25), none, (.p (.mv (.t 5))), false, []⟩,
          ⟨(some 26), none, (.p (.bin .eql (.t 25) (.c (.int .i64 1)))), false, []⟩,
          ⟨(some 24), none, (.p (.mv (.t 26))), false, []⟩] (some ⟨[0, 1, 5, 24], [], false⟩))
        (.cond (.t 24)
         (.seq
          (.region 0 [⟨(some 27), none, (.p (.mv (.t 0))), false, []⟩,
            ⟨(some 28), none, (.p (.mv (.t 1))), false, []⟩,
            ⟨(some 29), none, (.p (.idxs (.t 28) (.c (.int .i64 0)))), false, []⟩,
            ⟨(some 30), none, (.call 109 [(.t 27), (.t 29)] false), false, []⟩,
            ⟨(some 4), none, (.p (.mv (.t 30))), false, []⟩] (some ⟨[4], [], false⟩))
          .ret)
         (.seq
          (.region 0 [⟨(some 32), none, (.p (.mv (.t 5))), false, []⟩,
            ⟨(some 33), none, (.p (.mv (.t 0))), false, []⟩,
            ⟨(some 34), none, (.p (.lenS (.t 33))), false, []⟩,
            ⟨(some 35), none, (.p (.bin .geq (.t 32) (.t 34))), false, []⟩,
            ⟨(some 31), none, (.p (.mv (.t 35))), false, []⟩] (some ⟨[0, 1, 5, 31], [], false⟩))
          (.cond (.t 31)
           (.seq
            (.region 0 [⟨(some 4), none, (.p (.mv (.c (.int .i64 (-1))))), false, []⟩] (some ⟨[4], [], false⟩))
            .ret)
           (.seq
            (.region 0 [⟨(some 37), none, (.p (.mv (.t 5))), false, []⟩,
              ⟨(some 38), none, (.r (.load 1 false (.c (.lit (.pointer (some ⟨2, 0, none⟩)))))), false, []⟩,
              ⟨(some 39), none, (.p (.bin .leq (.t 37) (.t 38))), false, []⟩,
              ⟨(some 40), none, (.p (.mv (.t 39))), false, []⟩,
              ⟨(some 41), (some (40, true)), (.p (.mv (.t 0))), false, []⟩,
              ⟨(some 42), (some (40, true)), (.p (.lenS (.t 41))), false, []⟩,
              ⟨(some 43), (some (40, true)), (.p (.bin .leq (.t 42) (.c (.int .i64 64)))), false, []⟩,
              ⟨(some 44), none, (.p (.pick (.t 40) (.t 43) (.c (.bool false)))), false, []⟩,
              ⟨(some 36), none, (.p (.mv (.t 44))), false, []⟩] (some ⟨[0, 1, 5, 36], [], false⟩))
            (.cond (.t 36)
             (.seq
              (.region 0 [⟨(some 45), none, (.p (.mv (.t 0))), false, []⟩,
                ⟨(some 46), none, (.p (.mv (.t 1))), false, []⟩,
                ⟨(some 47), none, (.call 110 [(.t 45), (.t 46)] false), false, []⟩,
                ⟨(some 4), none, (.p (.mv (.t 47))), false, []⟩] (some ⟨[4], [], false⟩))
              .ret)
             .skip)))))))))
    (.seq
     (.region 0 [⟨(some 48), none, (.p (.mv (.t 1))), false, []⟩,
       ⟨(some 49), none, (.p (.idxs (.t 48) (.c (.int .i64 0)))), false, []⟩,
       ⟨(some 6), none, (.p (.mv (.t 49))), false, []⟩] (some ⟨[0, 1, 5, 6], [], false⟩))
     (.seq
      (.region 0 [⟨(some 50), none, (.p (.mv (.t 1))), false, []⟩,
        ⟨(some 51), none, (.p (.idxs (.t 50) (.c (.int .i64 1)))), false, []⟩,
        ⟨(some 7), none, (.p (.mv (.t 51))), false, []⟩] (some ⟨[0, 1, 5, 6, 7], [], false⟩))
      (.seq
       (.region 0 [⟨(some 8), none, (.p (.mv (.c (.int .i64 0)))), false, []⟩] (some ⟨[0, 1, 5, 6, 7, 8], [], false⟩))
       (.seq
        (.region 0 [⟨(some 52), none, (.p (.mv (.t 0))), false, []⟩,
          ⟨(some 53), none, (.p (.lenS (.t 52))), false, []⟩,
          ⟨(some 54), none, (.p (.mv (.t 5))), false, []⟩,
          ⟨(some 55), none, (.p (.bin .sub (.t 53) (.t 54))), false, []⟩,
          ⟨(some 56), none, (.p (.bin .add (.t 55) (.c (.int .i64 1)))), false, []⟩,
          ⟨(some 9), none, (.p (.mv (.t 56))), false, []⟩] (some ⟨[0, 1, 5, 6, 7, 8, 9], [], false⟩))
        (.seq
         (.region 0 [⟨(some 10), none, (.p (.mv (.c (.int .i64 0)))), false, []⟩] (some ⟨[0, 1, 5, 6, 7, 8, 9, 10], [], false⟩))
         (.seq
          (.block 1
           (.loop (some ⟨[0, 1, 5, 6, 7, 8, 9, 10], [], true⟩) Tryd.c94b0))
          (.seq
           (.region 0 [⟨(some 4), none, (.p (.mv (.c (.int .i64 (-1))))), false, []⟩] (some ⟨[4], [], false⟩))
           .ret))))))))))
theorem Tryd.run94 {xs : List AV} {r : AV} (hl : xs.length ≤ 143) (h : aw Tryd.prog Tryd.c94 (Pv.Ends [4] r) (entry xs)) : Run Tryd.prog 94 xs r :=
  run_of (fun _ _ => drawOk Tryd.mixed) Tryd.func94 rfl rfl rfl (by kernel_rfl) (by kernel_rfl) hl h
/-! 97 internal/stringslite.TrimPrefix : params [9, 9], results [9], free 0, zeros [(.string ⟨#[]⟩), (.string ⟨#[]⟩)] -/
def Tryd.c97 : AC :=
 (.seq
  (.region 0 [⟨(some 4), none, (.p (.mv (.c (.str [])))), false, []⟩] (some ⟨[0, 1], [], false⟩))
  (.seq
   (.seq
    (.region 0 [⟨(some 5), none, (.p (.mv (.t 0))), false, []⟩,
      ⟨(some 6), none, (.p (.mv (.t 1))), false, []⟩,
      ⟨(some 7), none, (.call 113 [(.t 5), (.t 6)] false), false, []⟩] (some ⟨[0, 1, 7], [], false⟩))
    (.cond (.t 7)
     (.seq
      (.region 0 [⟨(some 8), none, (.p (.mv (.t 0))), false, []⟩,
        ⟨(some 9), none, (.p (.mv (.t 1))), false, []⟩,
        ⟨(some 10), none, (.p (.lenS (.t 9))), false, []⟩,
        ⟨(some 11), none, (.p (.slices (.t 8) (some (.t 10)) none)), false, []⟩,
        ⟨(some 4), none, (.p (.mv (.t 11))), false, []⟩] (some ⟨[4], [], false⟩))
      .ret)
     .skip))
   (.seq
    (.region 0 [⟨(some 12), none, (.p (.mv (.t 0))), false, []⟩,
      ⟨(some 4), none, (.p (.mv (.t 12))), false, []⟩] (some ⟨[4], [], false⟩))
    .ret)))
theorem Tryd.run97 {xs : List AV} {r : AV} (hl : xs.length ≤ 13) (h : aw Tryd.prog Tryd.c97 (Pv.Ends [4] r) (entry xs)) : Run Tryd.prog 97 xs r :=
  run_of (fun _ _ => drawOk Tryd.mixed) Tryd.func97 rfl rfl rfl (by kernel_rfl) (by kernel_rfl) hl h
/-! 98 slices.Index[[]int,int] : params [32, 3], results [3], free 0, zeros [(.slice none 0 0), (.int .i64 (0))] -/
def Tryd.c98b0 : AC :=
 (.seq
  (.region 0 [⟨(some 9), none, (.p (.bin .lss (.t 8) (.t 7))), false, []⟩] (some ⟨[0, 1, 7, 8, 9], [], false⟩))
  (.seq
   (.cond (.t 9)
    .skip
    (.exit 0))
   (.seq
    (.block 1
     (.seq
      (.region 0 [⟨(some 10), none, (.p (.mv (.t 8))), false, []⟩,
        ⟨(some 5), none, (.p (.mv (.t 10))), false, []⟩] (some ⟨[0, 1, 5, 7, 8], [], false⟩))
      (.seq
       (.region 0 [⟨(some 11), none, (.p (.mv (.t 1))), false, []⟩,
         ⟨(some 12), none, (.p (.mv (.t 0))), false, []⟩,
         ⟨(some 13), none, (.p (.mv (.t 5))), false, []⟩,
         ⟨(some 14), none, (.p (.iaddr 1 (.t 12) (.t 13))), false, []⟩,
         ⟨(some 15), none, (.r (.load 1 false (.t 14))), false, []⟩,
         ⟨(some 16), none, (.p (.bin .eql (.t 11) (.t 15))), false, []⟩] (some ⟨[0, 1, 5, 7, 8, 16], [], false⟩))
       (.cond (.t 16)
        (.seq
         (.region 0 [⟨(some 17), none, (.p (.mv (.t 5))), false, []⟩,
           ⟨(some 4), none, (.p (.mv (.t 17))), false, []⟩] (some ⟨[4], [], false⟩))
         .ret)
        .skip))))
    (.region 0 [⟨(some 18), none, (.p (.bin .add (.t 8) (.c (.int .i64 1)))), false, []⟩,
      ⟨(some 8), none, (.p (.mv (.t 18))), false, []⟩] (some ⟨[0, 1, 7, 8], [], false⟩)))))
def Tryd.c98 : AC :=
 (.seq
  (.region 0 [⟨(some 4), none, (.p (.mv (.c (.int .i64 0)))), false, []⟩] (some ⟨[0, 1], [], false⟩))
  (.seq
   (.seq
    (.region 0 [⟨(some 6), none, (.p (.mv (.t 0))), false, []⟩,
      ⟨(some 7), none, (.p (.len (.t 6))), false, []⟩,
      ⟨(some 8), none, (.p (.mv (.c (.int .i64 0)))), false, []⟩] (some ⟨[0, 1, 7, 8], [], false⟩))
    (.block 0
     (.loop (some ⟨[0, 1, 7, 8], [], true⟩) Tryd.c98b0)))
   (.seq
    (.region 0 [⟨(some 4), none, (.p (.mv (.c (.int .i64 (-1))))), false, []⟩] (some ⟨[4], [], false⟩))
    .ret)))
theorem Tryd.run98 {xs : List AV} {r : AV} (hl : xs.length ≤ 19) (h : aw Tryd.prog Tryd.c98 (Pv.Ends [4] r) (entry xs)) : Run Tryd.prog 98 xs r :=
  run_of (fun _ _ => drawOk Tryd.mixed) Tryd.func98 rfl rfl rfl (by kernel_rfl) (by kernel_rfl) hl h
/-! 101 strings.Index : params [9, 9], results [3], free 0, zeros [(.string ⟨#[]⟩), (.string ⟨#[]⟩)] -/
def Tryd.c101 : AC :=
 (.seq
  (.region 0 [⟨(some 4), none, (.p (.mv (.c (.int .i64 0)))), false, []⟩] (some ⟨[0, 1], [], false⟩))
  (.seq
   (.region 0 [⟨(some 5), none, (.p (.mv (.t 0))), false, []⟩,
     ⟨(some 6), none, (.p (.mv (.t 1))), false, []⟩,
     ⟨(some 7), none, (.call 94 [(.t 5), (.t 6)] false), false, []⟩,
     ⟨(some 4), none, (.p (.mv (.t 7))), false, []⟩] (some ⟨[4], [], false⟩))
   .ret))
theorem Tryd.run101 {xs : List AV} {r : AV} (hl : xs.length ≤ 8) (h : aw Tryd.prog Tryd.c101 (Pv.Ends [4] r) (entry xs)) : Run Tryd.prog 101 xs r :=
  run_of (fun _ _ => drawOk Tryd.mixed) Tryd.func101 rfl rfl rfl (by kernel_rfl) (by kernel_rfl) hl h
/-! 102 paling/mac.shift : params [3], results [98], free 0, zeros [(.int .i64 (0))] -/
def Tryd.c102 : AC :=
 (.seq
  (.region 0 [⟨(some 2), none, (.p (.mv (.c (.int .u64 0)))), false, []⟩] (some ⟨[0], [], false⟩))
  (.seq
   (.region 0 [⟨(some 3), none, (.p (.mv (.t 0))), false, []⟩,
     ⟨(some 4), none, (.p (.bin .sub (.c (.int .i64 5)) (.t 3))), false, []⟩,
     ⟨(some 5), none, (.p (.bin .mul (.c (.int .i64 8)) (.t 4))), false, []⟩,
     ⟨(some 6), none, (.p (.convI .u64 (.t 5))), false, []⟩,
     ⟨(some 2), none, (.p (.mv (.t 6))), false, []⟩] (some ⟨[2], [], false⟩))
   .ret))
theorem Tryd.run102 {xs : List AV} {r : AV} (hl : xs.length ≤ 7) (h : aw Tryd.prog Tryd.c102 (Pv.Ends [2] r) (entry xs)) : Run Tryd.prog 102 xs r :=
  run_of (fun _ _ => drawOk Tryd.mixed) Tryd.func102 rfl rfl rfl (by kernel_rfl) (by kernel_rfl) hl h
/-! 103 paling/addr.put : params [26, 3], results [26], free 0, zeros [(.slice none 0 0), (.int .i64 (0))] -/
def Tryd.c103 : AC :=
 (.seq
  (.region 0 [⟨(some 4), none, (.p (.mv (.c (.sl 0 [] true)))), false, []⟩] (some ⟨[0, 1], [], false⟩))
  (.seq
   (.seq
    (.region 0 [⟨(some 5), none, (.p (.mv (.t 1))), false, []⟩,
      ⟨(some 6), none, (.p (.bin .geq (.t 5) (.c (.int .i64 10)))), false, []⟩] (some ⟨[0, 1, 6], [], false⟩))
    (.cond (.t 6)
     (.region 0 [⟨(some 7), none, (.p (.mv (.t 0))), false, []⟩,
       ⟨(some 8), none, (.p (.mv (.t 1))), false, []⟩,
       ⟨(some 9), none, (.p (.bin .quo (.t 8) (.c (.int .i64 10)))), false, []⟩,
       ⟨(some 10), none, (.call 103 [(.t 7), (.t 9)] false), false, []⟩,
       ⟨(some 0), none, (.p (.mv (.t 10))), false, []⟩] (some ⟨[0, 1], [], false⟩))
     .skip))
   (.seq
    (.region 0 [⟨(some 11), none, (.p (.mv (.t 0))), false, []⟩,
      ⟨(some 12), none, (.p (.mv (.t 1))), false, []⟩,
      ⟨(some 13), none, (.p (.bin .rem (.t 12) (.c (.int .i64 10)))), false, []⟩,
      ⟨(some 14), none, (.p (.bin .add (.c (.int .i64 48)) (.t 13))), false, []⟩,
      ⟨(some 15), none, (.p (.convI .u8 (.t 14))), false, []⟩,
      ⟨(some 16), none, (.e (.mks 5 1 (.int .u8 0) 1 [(0, (.t 15))]) none), false, []⟩,
      ⟨(some 17), none, (.e (.append 5 1 140737488355328 (.t 11) (.t 16)) none), false, []⟩,
      ⟨(some 4), none, (.p (.mv (.t 17))), false, []⟩] (some ⟨[4], [], false⟩))
    .ret)))
theorem Tryd.run103 {xs : List AV} {r : AV} (hl : xs.length ≤ 18) (h : aw Tryd.prog Tryd.c103 (Pv.Ends [4] r) (entry xs)) : Run Tryd.prog 103 xs r :=
  run_of (fun _ _ => drawOk Tryd.mixed) Tryd.func103 rfl rfl rfl (by kernel_rfl) (by kernel_rfl) hl h
/-! 109 internal/stringslite.IndexByte : params [9, 5], results [3], free 0, zeros [(.string ⟨#[]⟩), (.int .u8 (0))] -/
def Tryd.c109 : AC :=
 (.seq
  (.region 0 [⟨(some 4), none, (.p (.mv (.c (.int .i64 0)))), false, []⟩] (some ⟨[0, 1], [], false⟩))
  (.seq
   (.region 0 [⟨(some 5), none, (.p (.mv (.t 0))), false, []⟩,
     ⟨(some 6), none, (.p (.mv (.t 1))), false, []⟩,
     ⟨(some 7), none, (.p (.idxb (.t 5) (.t 6))), false, []⟩,
     ⟨(some 4), none, (.p (.mv (.t 7))), false, []⟩] (some ⟨[4], [], false⟩))
   .ret))
theorem Tryd.run109 {xs : List AV} {r : AV} (hl : xs.length ≤ 8) (h : aw Tryd.prog Tryd.c109 (Pv.Ends [4] r) (entry xs)) : Run Tryd.prog 109 xs r :=
  run_of (fun _ _ => drawOk Tryd.mixed) Tryd.func109 rfl rfl rfl (by kernel_rfl) (by kernel_rfl) hl h
/-! 113 internal/stringslite.HasPrefix : params [9, 9], results [4], free 0, zeros [(.string ⟨#[]⟩), (.string ⟨#[]⟩)] -/
def Tryd.c113 : AC :=
 (.seq
  (.region 0 [⟨(some 4), none, (.p (.mv (.c (.bool false)))), false, []⟩] (some ⟨[0, 1], [], false⟩))
  (.seq
   (.region 0 [⟨(some 5), none, (.p (.mv (.t 0))), false, []⟩,
     ⟨(some 6), none, (.p (.lenS (.t 5))), false, []⟩,
     ⟨(some 7), none, (.p (.mv (.t 1))), false, []⟩,
     ⟨(some 8), none, (.p (.lenS (.t 7))), false, []⟩,
     ⟨(some 9), none, (.p (.bin .geq (.t 6) (.t 8))), false, []⟩,
     ⟨(some 10), none, (.p (.mv (.t 9))), false, []⟩,
     ⟨(some 11), (some (10, true)), (.p (.mv (.t 0))), false, []⟩,
     ⟨(some 12), (some (10, true)), (.p (.mv (.t 1))), false, []⟩,
     ⟨(some 13), (some (10, true)), (.p (.lenS (.t 12))), false, []⟩,
     ⟨(some 14), (some (10, true)), (.p (.slices (.t 11) none (some (.t 13)))), false, []⟩,
     ⟨(some 15), (some (10, true)), (.p (.mv (.t 1))), false, []⟩,
     ⟨(some 16), (some (10, true)), (.p (.bin .eql (.t 14) (.t 15))), false, []⟩,
     ⟨(some 17), none, (.p (.pick (.t 10) (.t 16) (.c (.bool false)))), false, []⟩,
     ⟨(some 4), none, (.p (.mv (.t 17))), false, []⟩] (some ⟨[4], [], false⟩))
   .ret))
theorem Tryd.run113 {xs : List AV} {r : AV} (hl : xs.length ≤ 18) (h : aw Tryd.prog Tryd.c113 (Pv.Ends [4] r) (entry xs)) : Run Tryd.prog 113 xs r :=
  run_of (fun _ _ => drawOk Tryd.mixed) Tryd.func113 rfl rfl rfl (by kernel_rfl) (by kernel_rfl) hl h
end Go.Proofs
