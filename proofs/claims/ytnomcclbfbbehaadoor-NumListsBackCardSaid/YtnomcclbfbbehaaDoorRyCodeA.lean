/- The compiled code of this seat, and the rules that run it. (Printed by a program of ours.) -/
import Derived.Test.YtnomcclbfbbehaaDoorPvM3
import Derived.Test.YtnomcclbfbbehaaDoorProg
namespace Go.Proofs

open Go.Pv
set_option maxHeartbeats 4000000
theorem Tryd.mixed : Tryd.prog.follows .mixedOrders = true := by kernel_rfl
/-! 7 paling/palinglaw03.NumListsBack : params [38, 39], results [4], free 0, zeros [(.slice none 0 0), (.slice none 0 0)] -/
def Tryd.c7b0 : AC :=
 (.seq
  (.seq
   (.region 0 [⟨(some 25), none, (.p (.mv (.t 6))), false, []⟩,
     ⟨(some 26), none, (.p (.mv (.t 0))), false, []⟩,
     ⟨(some 27), none, (.p (.len (.t 26))), false, []⟩,
     ⟨(some 28), none, (.p (.bin .lss (.t 25) (.t 27))), false, []⟩] (some ⟨[0, 1, 5, 6, 28], [], false⟩))
   (.cond (.t 28)
    .skip
    (.exit 0)))
  (.seq
   (.block 1
    (.seq
     (.region 17 [⟨(some 31), none, (.p (.mv (.t 5))), false, []⟩,
       ⟨(some 32), none, (.p (.len (.t 31))), false, []⟩,
       ⟨(some 33), none, (.p (.bin .eql (.t 32) (.c (.int .i64 0)))), false, []⟩,
       ⟨(some 34), none, (.p (.mv (.t 33))), false, []⟩,
       ⟨(some 35), (some (34, false)), (.p (.mv (.t 0))), false, []⟩,
       ⟨(some 36), (some (34, false)), (.p (.mv (.t 6))), false, []⟩,
       ⟨(some 37), (some (34, false)), (.p (.iaddr 1 (.t 35) (.t 36))), false, []⟩,
       ⟨(some 38), (some (34, false)), (.r (.load 1 false (.t 37))), false, []⟩,
       ⟨(some 39), (some (34, false)), (.p (.convI .i64 (.t 38))), false, []⟩,
       ⟨(some 40), (some (34, false)), (.p (.mv (.t 5))), false, []⟩,
       ⟨(some 41), (some (34, false)), (.p (.mv (.t 5))), false, []⟩,
       ⟨(some 42), (some (34, false)), (.p (.len (.t 41))), false, []⟩,
       ⟨(some 43), (some (34, false)), (.p (.bin .sub (.t 42) (.c (.int .i64 1)))), false, []⟩,
       ⟨(some 44), (some (34, false)), (.p (.iaddr 1 (.t 40) (.t 43))), false, []⟩,
       ⟨(some 45), (some (34, false)), (.r (.load 1 false (.t 44))), false, []⟩,
       ⟨(some 46), (some (34, false)), (.p (.bin .gtr (.t 39) (.t 45))), false, []⟩,
       ⟨(some 47), none, (.p (.pick (.t 34) (.c (.bool true)) (.t 46))), false, []⟩] (some ⟨[0, 1, 5, 6, 47], [], true⟩))
     (.cond (.t 47)
      (.region 0 [⟨(some 48), none, (.p (.mv (.t 5))), false, []⟩,
        ⟨(some 49), none, (.p (.mv (.t 0))), false, []⟩,
        ⟨(some 50), none, (.p (.mv (.t 6))), false, []⟩,
        ⟨(some 51), none, (.p (.iaddr 1 (.t 49) (.t 50))), false, []⟩,
        ⟨(some 52), none, (.r (.load 1 false (.t 51))), false, []⟩,
        ⟨(some 53), none, (.p (.convI .i64 (.t 52))), false, []⟩,
        ⟨(some 54), none, (.e (.mks 3 1 (.int .i64 0) 1 [(0, (.t 53))]) none), false, []⟩,
        ⟨(some 55), none, (.e (.append 3 1 1000000000 (.t 48) (.t 54)) none), false, []⟩,
        ⟨(some 5), none, (.p (.mv (.t 55))), false, []⟩] (some ⟨[0, 1, 5, 6], [], false⟩))
      .skip)))
   (.region 0 [⟨(some 29), none, (.p (.mv (.t 6))), false, []⟩,
     ⟨(some 30), none, (.p (.bin .add (.t 29) (.c (.int .i64 1)))), false, []⟩,
     ⟨(some 6), none, (.p (.mv (.t 30))), false, []⟩] (some ⟨[0, 1, 5, 6], [], false⟩))))
def Tryd.c7b1 : AC :=
 (.seq
  (.seq
   (.region 0 [⟨(some 56), none, (.p (.mv (.t 8))), false, []⟩,
     ⟨(some 57), none, (.p (.mv (.t 1))), false, []⟩,
     ⟨(some 58), none, (.p (.len (.t 57))), false, []⟩,
     ⟨(some 59), none, (.p (.bin .lss (.t 56) (.t 58))), false, []⟩] (some ⟨[1, 5, 7, 8, 59], [], false⟩))
   (.cond (.t 59)
    .skip
    (.exit 2)))
  (.seq
   (.block 3
    (.seq
     (.region 16 [⟨(some 62), none, (.p (.mv (.t 7))), false, []⟩,
       ⟨(some 63), none, (.p (.len (.t 62))), false, []⟩,
       ⟨(some 64), none, (.p (.bin .eql (.t 63) (.c (.int .i64 0)))), false, []⟩,
       ⟨(some 65), none, (.p (.mv (.t 64))), false, []⟩,
       ⟨(some 66), (some (65, false)), (.p (.mv (.t 1))), false, []⟩,
       ⟨(some 67), (some (65, false)), (.p (.mv (.t 8))), false, []⟩,
       ⟨(some 68), (some (65, false)), (.p (.iaddr 1 (.t 66) (.t 67))), false, []⟩,
       ⟨(some 69), (some (65, false)), (.r (.load 1 false (.t 68))), false, []⟩,
       ⟨(some 70), (some (65, false)), (.p (.mv (.t 7))), false, []⟩,
       ⟨(some 71), (some (65, false)), (.p (.mv (.t 7))), false, []⟩,
       ⟨(some 72), (some (65, false)), (.p (.len (.t 71))), false, []⟩,
       ⟨(some 73), (some (65, false)), (.p (.bin .sub (.t 72) (.c (.int .i64 1)))), false, []⟩,
       ⟨(some 74), (some (65, false)), (.p (.iaddr 1 (.t 70) (.t 73))), false, []⟩,
       ⟨(some 75), (some (65, false)), (.r (.load 1 false (.t 74))), false, []⟩,
       ⟨(some 76), (some (65, false)), (.p (.bin .gtr (.t 69) (.t 75))), false, []⟩,
       ⟨(some 77), none, (.p (.pick (.t 65) (.c (.bool true)) (.t 76))), false, []⟩] (some ⟨[1, 5, 7, 8, 77], [], true⟩))
     (.cond (.t 77)
      (.region 0 [⟨(some 78), none, (.p (.mv (.t 7))), false, []⟩,
        ⟨(some 79), none, (.p (.mv (.t 1))), false, []⟩,
        ⟨(some 80), none, (.p (.mv (.t 8))), false, []⟩,
        ⟨(some 81), none, (.p (.iaddr 1 (.t 79) (.t 80))), false, []⟩,
        ⟨(some 82), none, (.r (.load 1 false (.t 81))), false, []⟩,
        ⟨(some 83), none, (.e (.mks 22 1 (.int .u32 0) 1 [(0, (.t 82))]) none), false, []⟩,
        ⟨(some 84), none, (.e (.append 22 1 1000000000 (.t 78) (.t 83)) none), false, []⟩,
        ⟨(some 7), none, (.p (.mv (.t 84))), false, []⟩] (some ⟨[1, 5, 7, 8], [], false⟩))
      .skip)))
   (.region 0 [⟨(some 60), none, (.p (.mv (.t 8))), false, []⟩,
     ⟨(some 61), none, (.p (.bin .add (.t 60) (.c (.int .i64 1)))), false, []⟩,
     ⟨(some 8), none, (.p (.mv (.t 61))), false, []⟩] (some ⟨[1, 5, 7, 8], [], false⟩))))
def Tryd.c7b2 : AC :=
 (.seq
  (.region 0 [⟨(some 126), none, (.p (.bin .lss (.t 125) (.t 124))), false, []⟩] (some ⟨[5, 7, 9, 11, 124, 125, 126], [], false⟩))
  (.seq
   (.cond (.t 126)
    .skip
    (.exit 4))
   (.seq
    (.block 5
     (.seq
      (.region 0 [⟨(some 127), none, (.p (.mv (.t 125))), false, []⟩,
        ⟨(some 13), none, (.p (.mv (.t 127))), false, []⟩] (some ⟨[5, 7, 9, 11, 13, 124, 125], [], false⟩))
      (.seq
       (.region 9 [⟨(some 128), none, (.p (.mv (.t 9))), false, []⟩,
         ⟨(some 129), none, (.p (.mv (.t 13))), false, []⟩,
         ⟨(some 130), none, (.p (.iaddr 1 (.t 128) (.t 129))), false, []⟩,
         ⟨(some 131), none, (.r (.load 1 false (.t 130))), false, []⟩,
         ⟨(some 132), none, (.p (.mv (.t 5))), false, []⟩,
         ⟨(some 133), none, (.p (.mv (.t 13))), false, []⟩,
         ⟨(some 134), none, (.p (.iaddr 1 (.t 132) (.t 133))), false, []⟩,
         ⟨(some 135), none, (.r (.load 1 false (.t 134))), false, []⟩,
         ⟨(some 136), none, (.p (.bin .neq (.t 131) (.t 135))), false, []⟩] (some ⟨[5, 7, 9, 11, 124, 125, 136], [], true⟩))
       (.cond (.t 136)
        (.seq
         (.region 0 [⟨(some 4), none, (.p (.mv (.c (.bool false)))), false, []⟩] (some ⟨[4], [], false⟩))
         .ret)
        .skip))))
    (.region 0 [⟨(some 137), none, (.p (.bin .add (.t 125) (.c (.int .i64 1)))), false, []⟩,
      ⟨(some 125), none, (.p (.mv (.t 137))), false, []⟩] (some ⟨[5, 7, 9, 11, 124, 125], [], false⟩)))))
def Tryd.c7b3 : AC :=
 (.seq
  (.region 0 [⟨(some 141), none, (.p (.bin .lss (.t 140) (.t 139))), false, []⟩] (some ⟨[7, 11, 139, 140, 141], [], false⟩))
  (.seq
   (.cond (.t 141)
    .skip
    (.exit 6))
   (.seq
    (.block 7
     (.seq
      (.region 0 [⟨(some 142), none, (.p (.mv (.t 140))), false, []⟩,
        ⟨(some 14), none, (.p (.mv (.t 142))), false, []⟩] (some ⟨[7, 11, 14, 139, 140], [], false⟩))
      (.seq
       (.region 9 [⟨(some 143), none, (.p (.mv (.t 11))), false, []⟩,
         ⟨(some 144), none, (.p (.mv (.t 14))), false, []⟩,
         ⟨(some 145), none, (.p (.iaddr 1 (.t 143) (.t 144))), false, []⟩,
         ⟨(some 146), none, (.r (.load 1 false (.t 145))), false, []⟩,
         ⟨(some 147), none, (.p (.mv (.t 7))), false, []⟩,
         ⟨(some 148), none, (.p (.mv (.t 14))), false, []⟩,
         ⟨(some 149), none, (.p (.iaddr 1 (.t 147) (.t 148))), false, []⟩,
         ⟨(some 150), none, (.r (.load 1 false (.t 149))), false, []⟩,
         ⟨(some 151), none, (.p (.bin .neq (.t 146) (.t 150))), false, []⟩] (some ⟨[7, 11, 139, 140, 151], [], true⟩))
       (.cond (.t 151)
        (.seq
         (.region 0 [⟨(some 4), none, (.p (.mv (.c (.bool false)))), false, []⟩] (some ⟨[4], [], false⟩))
         .ret)
        .skip))))
    (.region 0 [⟨(some 152), none, (.p (.bin .add (.t 140) (.c (.int .i64 1)))), false, []⟩,
      ⟨(some 140), none, (.p (.mv (.t 152))), false, []⟩] (some ⟨[7, 11, 139, 140], [], false⟩)))))
def Tryd.c7 : AC :=
 (.seq
  (.region 0 [⟨(some 4), none, (.p (.mv (.c (.bool false)))), false, []⟩] (some ⟨[0, 1], [], false⟩))
  (.seq
   (.seq
    (.region 0 [⟨(some 15), none, (.call 28 [] false), false, []⟩,
      ⟨(some 16), none, (.p (.un .not (.t 15))), false, []⟩] (some ⟨[0, 1, 16], [], false⟩))
    (.cond (.t 16)
     (.seq
      (.region 0 [⟨(some 4), none, (.p (.mv (.c (.bool false)))), false, []⟩] (some ⟨[4], [], false⟩))
      .ret)
     .skip))
   (.seq
    (.seq
     (.region 0 [⟨(some 17), none, (.p (.mv (.t 0))), false, []⟩,
       ⟨(some 18), none, (.p (.len (.t 17))), false, []⟩,
       ⟨(some 19), none, (.p (.bin .gtr (.t 18) (.c (.int .i64 16)))), false, []⟩,
       ⟨(some 20), none, (.p (.mv (.t 19))), false, []⟩,
       ⟨(some 21), (some (20, false)), (.p (.mv (.t 1))), false, []⟩,
       ⟨(some 22), (some (20, false)), (.p (.len (.t 21))), false, []⟩,
       ⟨(some 23), (some (20, false)), (.p (.bin .gtr (.t 22) (.c (.int .i64 16)))), false, []⟩,
       ⟨(some 24), none, (.p (.pick (.t 20) (.c (.bool true)) (.t 23))), false, []⟩] (some ⟨[0, 1, 24], [], false⟩))
     (.cond (.t 24)
      (.seq
       (.region 0 [⟨(some 4), none, (.p (.mv (.c (.bool true)))), false, []⟩] (some ⟨[4], [], false⟩))
       .ret)
      .skip))
    (.seq
     (.region 0 [⟨(some 5), none, (.p (.mv (.c (.sl 0 [] true)))), false, []⟩] (some ⟨[0, 1, 5], [], false⟩))
     (.seq
      (.seq
       (.region 0 [⟨(some 6), none, (.p (.mv (.c (.int .i64 0)))), false, []⟩] (some ⟨[0, 1, 5, 6], [], false⟩))
       (.block 0
        (.loop (some ⟨[0, 1, 5, 6], [(5, (1, 3))], true⟩) Tryd.c7b0)))
      (.seq
       (.region 0 [⟨(some 7), none, (.p (.mv (.c (.sl 0 [] true)))), false, []⟩] (some ⟨[1, 5, 7], [], false⟩))
       (.seq
        (.seq
         (.region 0 [⟨(some 8), none, (.p (.mv (.c (.int .i64 0)))), false, []⟩] (some ⟨[1, 5, 7, 8], [], false⟩))
         (.block 2
          (.loop (some ⟨[1, 5, 7, 8], [(7, (1, 22))], true⟩) Tryd.c7b1)))
        (.seq
         (.region 0 [⟨(some 86), none, (.p (.mv (.t 5))), false, []⟩,
           ⟨(some 87), none, (.call 30 [(.t 86)] false), false, []⟩,
           ⟨(some 88), none, (.call 29 [(.t 87), (.c (.int .i64 (-2147483648))), (.c (.int .i64 2147483647))] false), false, []⟩,
           ⟨(some 85), none, (.p (.mv (.t 88))), false, []⟩,
           ⟨(some 89), none, (.p (.ext (.t 85) 0)), false, []⟩,
           ⟨(some 90), none, (.p (.ext (.t 85) 1)), false, []⟩,
           ⟨(some 9), none, (.p (.mv (.t 89))), false, []⟩,
           ⟨(some 10), none, (.p (.mv (.t 90))), false, []⟩] (some ⟨[5, 7, 9, 10], [], false⟩))
         (.seq
          (.region 0 [⟨(some 92), none, (.p (.mv (.t 7))), false, []⟩,
            ⟨(some 93), none, (.call 32 [(.t 92)] false), false, []⟩,
            ⟨(some 94), none, (.call 31 [(.t 93)] false), false, []⟩,
            ⟨(some 91), none, (.p (.mv (.t 94))), false, []⟩,
            ⟨(some 95), none, (.p (.ext (.t 91) 0)), false, []⟩,
            ⟨(some 96), none, (.p (.ext (.t 91) 1)), false, []⟩,
            ⟨(some 11), none, (.p (.mv (.t 95))), false, []⟩,
            ⟨(some 12), none, (.p (.mv (.t 96))), false, []⟩] (some ⟨[5, 7, 9, 10, 11, 12], [], false⟩))
          (.seq
           (.seq
            (.region 0 [⟨(some 97), none, (.p (.mv (.t 10))), false, []⟩,
              ⟨(some 98), none, (.p (.mv (.t 5))), false, []⟩,
              ⟨(some 99), none, (.p (.len (.t 98))), false, []⟩,
              ⟨(some 100), none, (.p (.bin .gtr (.t 99) (.c (.int .i64 0)))), false, []⟩,
              ⟨(some 101), none, (.p (.binB .neq (.t 97) (.t 100))), false, []⟩,
              ⟨(some 102), none, (.p (.mv (.t 101))), false, []⟩,
              ⟨(some 103), (some (102, false)), (.p (.mv (.t 12))), false, []⟩,
              ⟨(some 104), (some (102, false)), (.p (.mv (.t 7))), false, []⟩,
              ⟨(some 105), (some (102, false)), (.p (.len (.t 104))), false, []⟩,
              ⟨(some 106), (some (102, false)), (.p (.bin .gtr (.t 105) (.c (.int .i64 0)))), false, []⟩,
              ⟨(some 107), (some (102, false)), (.p (.binB .neq (.t 103) (.t 106))), false, []⟩,
              ⟨(some 108), none, (.p (.pick (.t 102) (.c (.bool true)) (.t 107))), false, []⟩,
              ⟨(some 109), none, (.p (.mv (.t 108))), false, []⟩,
              ⟨(some 110), (some (109, false)), (.p (.mv (.t 9))), false, []⟩,
              ⟨(some 111), (some (109, false)), (.p (.len (.t 110))), false, []⟩,
              ⟨(some 112), (some (109, false)), (.p (.mv (.t 5))), false, []⟩,
              ⟨(some 113), (some (109, false)), (.p (.len (.t 112))), false, []⟩,
              ⟨(some 114), (some (109, false)), (.p (.bin .neq (.t 111) (.t 113))), false, []⟩,
              ⟨(some 115), none, (.p (.pick (.t 109) (.c (.bool true)) (.t 114))), false, []⟩,
              ⟨(some 116), none, (.p (.mv (.t 115))), false, []⟩,
              ⟨(some 117), (some (116, false)), (.p (.mv (.t 11))), false, []⟩,
              ⟨(some 118), (some (116, false)), (.p (.len (.t 117))), false, []⟩,
              ⟨(some 119), (some (116, false)), (.p (.mv (.t 7))), false, []⟩,
              ⟨(some 120), (some (116, false)), (.p (.len (.t 119))), false, []⟩,
              ⟨(some 121), (some (116, false)), (.p (.bin .neq (.t 118) (.t 120))), false, []⟩,
              ⟨(some 122), none, (.p (.pick (.t 116) (.c (.bool true)) (.t 121))), false, []⟩] (some ⟨[5, 7, 9, 11, 122], [], false⟩))
            (.cond (.t 122)
             (.seq
              (.region 0 [⟨(some 4), none, (.p (.mv (.c (.bool false)))), false, []⟩] (some ⟨[4], [], false⟩))
              .ret)
             .skip))
           (.seq
            (.seq
             (.region 0 [⟨(some 123), none, (.p (.mv (.t 5))), false, []⟩,
               ⟨(some 124), none, (.p (.len (.t 123))), false, []⟩,
               ⟨(some 125), none, (.p (.mv (.c (.int .i64 0)))), false, []⟩] (some ⟨[5, 7, 9, 11, 124, 125], [], false⟩))
             (.block 4
              (.loop (some ⟨[5, 7, 9, 11, 124, 125], [], true⟩) Tryd.c7b2)))
            (.seq
             (.seq
              (.region 0 [⟨(some 138), none, (.p (.mv (.t 7))), false, []⟩,
                ⟨(some 139), none, (.p (.len (.t 138))), false, []⟩,
                ⟨(some 140), none, (.p (.mv (.c (.int .i64 0)))), false, []⟩] (some ⟨[7, 11, 139, 140], [], false⟩))
              (.block 6
               (.loop (some ⟨[7, 11, 139, 140], [], true⟩) Tryd.c7b3)))
             (.seq
              (.region 0 [⟨(some 4), none, (.p (.mv (.c (.bool true)))), false, []⟩] (some ⟨[4], [], false⟩))
              .ret)))))))))))))
theorem Tryd.run7 {xs : List AV} {r : AV} (hl : xs.length ≤ 153) (h : aw Tryd.prog Tryd.c7 (Pv.Ends [4] r) (entry xs)) : Run Tryd.prog 7 xs r :=
  run_of (fun _ _ => drawOk Tryd.mixed) Tryd.func7 rfl rfl rfl (by kernel_rfl) (by kernel_rfl) hl h
/-! 14 paling/addr.Text : params [22], results [9], free 0, zeros [(.int .u32 (0))] -/
def Tryd.c14b0 : AC :=
 (.seq
  (.region 0 [⟨(some 6), none, (.p (.bin .lss (.t 5) (.c (.int .i64 4)))), false, []⟩] (some ⟨[0, 3, 5, 6], [], false⟩))
  (.seq
   (.cond (.t 6)
    .skip
    (.exit 0))
   (.seq
    (.block 1
     (.seq
      (.region 0 [⟨(some 7), none, (.p (.mv (.t 5))), false, []⟩,
        ⟨(some 4), none, (.p (.mv (.t 7))), false, []⟩] (some ⟨[0, 3, 4, 5], [], false⟩))
      (.seq
       (.seq
        (.region 0 [⟨(some 8), none, (.p (.mv (.t 4))), false, []⟩,
          ⟨(some 9), none, (.p (.bin .gtr (.t 8) (.c (.int .i64 0)))), false, []⟩] (some ⟨[0, 3, 4, 5, 9], [], false⟩))
        (.cond (.t 9)
         (.region 0 [⟨(some 10), none, (.p (.mv (.t 3))), false, []⟩,
           ⟨(some 11), none, (.e (.mks 5 1 (.int .u8 0) 1 [(0, (.c (.int .u8 46)))]) none), false, []⟩,
           ⟨(some 12), none, (.e (.append 5 1 140737488355328 (.t 10) (.t 11)) none), false, []⟩,
           ⟨(some 3), none, (.p (.mv (.t 12))), false, []⟩] (some ⟨[0, 3, 4, 5], [], false⟩))
         .skip))
       (.region 0 [⟨(some 13), none, (.p (.mv (.t 3))), false, []⟩,
         ⟨(some 14), none, (.p (.mv (.t 0))), false, []⟩,
         ⟨(some 15), none, (.p (.mv (.t 4))), false, []⟩,
         ⟨(some 16), none, (.p (.bin .sub (.c (.int .i64 3)) (.t 15))), false, []⟩,
         ⟨(some 17), none, (.p (.bin .mul (.c (.int .i64 8)) (.t 16))), false, []⟩,
         ⟨(some 18), none, (.p (.bin .shr (.t 14) (.t 17))), false, []⟩,
         ⟨(some 19), none, (.p (.convI .u8 (.t 18))), false, []⟩,
         ⟨(some 20), none, (.p (.convI .i64 (.t 19))), false, []⟩,
         ⟨(some 21), none, (.call 45 [(.t 13), (.t 20)] false), false, []⟩,
         ⟨(some 3), none, (.p (.mv (.t 21))), false, []⟩] (some ⟨[0, 3, 5], [], false⟩)))))
    (.region 0 [⟨(some 22), none, (.p (.bin .add (.t 5) (.c (.int .i64 1)))), false, []⟩,
      ⟨(some 5), none, (.p (.mv (.t 22))), false, []⟩] (some ⟨[0, 3, 5], [], false⟩)))))
def Tryd.c14 : AC :=
 (.seq
  (.region 0 [⟨(some 2), none, (.p (.mv (.c (.str [])))), false, []⟩] (some ⟨[0], [], false⟩))
  (.seq
   (.region 0 [⟨(some 3), none, (.p (.mv (.c (.sl 0 [] true)))), false, []⟩] (some ⟨[0, 3], [], false⟩))
   (.seq
    (.seq
     (.region 0 [⟨(some 5), none, (.p (.mv (.c (.int .i64 0)))), false, []⟩] (some ⟨[0, 3, 5], [], false⟩))
     (.block 0
      (.loop (some ⟨[0, 3, 5], [(3, (1, 5))], true⟩) Tryd.c14b0)))
    (.seq
     (.region 0 [⟨(some 23), none, (.p (.mv (.t 3))), false, []⟩,
       ⟨(some 24), none, (.r (.b2s (.t 23))), false, []⟩,
       ⟨(some 2), none, (.p (.mv (.t 24))), false, []⟩] (some ⟨[2], [], false⟩))
     .ret))))
theorem Tryd.run14 {xs : List AV} {r : AV} (hl : xs.length ≤ 25) (h : aw Tryd.prog Tryd.c14 (Pv.Ends [2] r) (entry xs)) : Run Tryd.prog 14 xs r :=
  run_of (fun _ _ => drawOk Tryd.mixed) Tryd.func14 rfl rfl rfl (by kernel_rfl) (by kernel_rfl) hl h
/-! 28 paling/palinglaw03.works : params [], results [4], free 0, zeros [] -/
def Tryd.c28 : AC :=
 (.seq
  (.region 0 [⟨(some 0), none, (.p (.mv (.c (.bool false)))), false, []⟩] (some ⟨[], [], false⟩))
  (.seq
   (.region 0 [⟨(some 6), none, (.call 29 [(.c (.str [49, 48, 44, 50, 48])), (.c (.int .i64 1)), (.c (.int .i64 4094))] false), false, []⟩,
     ⟨(some 5), none, (.p (.mv (.t 6))), false, []⟩,
     ⟨(some 7), none, (.p (.ext (.t 5) 0)), false, []⟩,
     ⟨(some 8), none, (.p (.ext (.t 5) 1)), false, []⟩,
     ⟨(some 1), none, (.p (.mv (.t 7))), false, []⟩,
     ⟨(some 2), none, (.p (.mv (.t 8))), false, []⟩] (some ⟨[1, 2], [], false⟩))
   (.seq
    (.region 0 [⟨(some 10), none, (.call 29 [(.c (.str [50, 48, 44, 49, 48])), (.c (.int .i64 1)), (.c (.int .i64 4094))] false), false, []⟩,
      ⟨(some 9), none, (.p (.mv (.t 10))), false, []⟩,
      ⟨(some 11), none, (.p (.ext (.t 9) 0)), false, []⟩,
      ⟨(some 12), none, (.p (.ext (.t 9) 1)), false, []⟩,
      ⟨(some 3), none, (.p (.mv (.t 11))), false, []⟩,
      ⟨(some 4), none, (.p (.mv (.t 12))), false, []⟩] (some ⟨[1, 2, 4], [], false⟩))
    (.seq
     (.region 0 [⟨(some 13), none, (.p (.mv (.t 2))), false, []⟩,
       ⟨(some 14), none, (.p (.mv (.t 13))), false, []⟩,
       ⟨(some 15), (some (14, true)), (.p (.mv (.t 1))), false, []⟩,
       ⟨(some 16), (some (14, true)), (.p (.len (.t 15))), false, []⟩,
       ⟨(some 17), (some (14, true)), (.p (.bin .eql (.t 16) (.c (.int .i64 2)))), false, []⟩,
       ⟨(some 18), none, (.p (.pick (.t 14) (.t 17) (.c (.bool false)))), false, []⟩,
       ⟨(some 19), none, (.p (.mv (.t 18))), false, []⟩,
       ⟨(some 20), (some (19, true)), (.p (.mv (.t 1))), false, []⟩,
       ⟨(some 21), (some (19, true)), (.p (.iaddr 1 (.t 20) (.c (.int .i64 0)))), false, []⟩,
       ⟨(some 22), (some (19, true)), (.r (.load 1 false (.t 21))), false, []⟩,
       ⟨(some 23), (some (19, true)), (.p (.bin .eql (.t 22) (.c (.int .i64 10)))), false, []⟩,
       ⟨(some 24), none, (.p (.pick (.t 19) (.t 23) (.c (.bool false)))), false, []⟩,
       ⟨(some 25), none, (.p (.mv (.t 24))), false, []⟩,
       ⟨(some 26), (some (25, true)), (.p (.mv (.t 1))), false, []⟩,
       ⟨(some 27), (some (25, true)), (.p (.iaddr 1 (.t 26) (.c (.int .i64 1)))), false, []⟩,
       ⟨(some 28), (some (25, true)), (.r (.load 1 false (.t 27))), false, []⟩,
       ⟨(some 29), (some (25, true)), (.p (.bin .eql (.t 28) (.c (.int .i64 20)))), false, []⟩,
       ⟨(some 30), none, (.p (.pick (.t 25) (.t 29) (.c (.bool false)))), false, []⟩,
       ⟨(some 31), none, (.p (.mv (.t 30))), false, []⟩,
       ⟨(some 32), (some (31, true)), (.p (.mv (.t 4))), false, []⟩,
       ⟨(some 33), (some (31, true)), (.p (.un .not (.t 32))), false, []⟩,
       ⟨(some 34), none, (.p (.pick (.t 31) (.t 33) (.c (.bool false)))), false, []⟩,
       ⟨(some 35), none, (.p (.mv (.t 34))), false, []⟩,
       ⟨(some 36), (some (35, true)), (.call 49 [(.c (.int .i64 (-5)))] false), false, []⟩,
       ⟨(some 37), (some (35, true)), (.p (.bin .eql (.t 36) (.c (.str [45, 53])))), false, []⟩,
       ⟨(some 38), none, (.p (.pick (.t 35) (.t 37) (.c (.bool false)))), false, []⟩,
       ⟨(some 39), none, (.p (.mv (.t 38))), false, []⟩,
       ⟨(some 40), (some (39, true)), (.call 50 [(.c (.str [115, 119, 49]))] false), false, []⟩,
       ⟨(some 41), none, (.p (.pick (.t 39) (.t 40) (.c (.bool false)))), false, []⟩,
       ⟨(some 42), none, (.p (.mv (.t 41))), false, []⟩,
       ⟨(some 43), (some (42, true)), (.call 50 [(.c (.str [49, 115, 119]))] false), false, []⟩,
       ⟨(some 44), (some (42, true)), (.p (.un .not (.t 43))), false, []⟩,
       ⟨(some 45), none, (.p (.pick (.t 42) (.t 44) (.c (.bool false)))), false, []⟩,
       ⟨(some 0), none, (.p (.mv (.t 45))), false, []⟩] (some ⟨[0], [], false⟩))
     .ret))))
theorem Tryd.run28 {xs : List AV} {r : AV} (hl : xs.length ≤ 46) (h : aw Tryd.prog Tryd.c28 (Pv.Ends [0] r) (entry xs)) : Run Tryd.prog 28 xs r :=
  run_of (fun _ _ => drawOk Tryd.mixed) Tryd.func28 rfl rfl rfl (by kernel_rfl) (by kernel_rfl) hl h
/-! 29 paling/num.ReadList : params [9, 3, 3], results [40, 4], free 0, zeros [(.string ⟨#[]⟩), (.int .i64 (0)), (.int .i64 (0))] -/
def Tryd.c29 : AC :=
 (.seq
  (.region 0 [⟨(some 4), none, (.e (.box 3 (.t 1)) none), false, []⟩,
    ⟨(some 5), none, (.e (.box 3 (.t 2)) none), false, []⟩,
    ⟨(some 6), none, (.p (.mv (.c (.sl 0 [] true)))), false, []⟩,
    ⟨(some 7), none, (.p (.mv (.c (.bool false)))), false, []⟩] (some ⟨[0, 4, 5], [], false⟩))
  (.seq
   (.region 0 [⟨(some 8), none, (.p (.mv (.t 0))), false, []⟩,
     ⟨(some 9), none, (.p (.mkfn 52 [(.t 4), (.t 5)])), false, []⟩,
     ⟨(some 10), none, (.call 51 [(.t 8), (.t 9)] false), false, []⟩,
     ⟨(some 11), none, (.p (.ext (.t 10) 0)), false, []⟩,
     ⟨(some 12), none, (.p (.ext (.t 10) 1)), false, []⟩,
     ⟨(some 6), none, (.p (.mv (.t 11))), false, []⟩,
     ⟨(some 7), none, (.p (.mv (.t 12))), false, []⟩] (some ⟨[6, 7], [], false⟩))
   .ret))
theorem Tryd.run29 {xs : List AV} {r : AV} (hl : xs.length ≤ 13) (h : aw Tryd.prog Tryd.c29 (Pv.Ends [6, 7] r) (entry xs)) : Run Tryd.prog 29 xs r :=
  run_of (fun _ _ => drawOk Tryd.mixed) Tryd.func29 rfl rfl rfl (by kernel_rfl) (by kernel_rfl) hl h
/-! 30 paling/num.ListText : params [40], results [9], free 0, zeros [(.slice none 0 0)] -/
def Tryd.c30 : AC :=
 (.seq
  (.region 0 [⟨(some 2), none, (.p (.mv (.c (.str [])))), false, []⟩] (some ⟨[0], [], false⟩))
  (.seq
   (.region 0 [⟨(some 3), none, (.p (.mv (.t 0))), false, []⟩,
     ⟨(some 4), none, (.call 54 [(.t 3), (.c (.fn 49 []))] false), false, []⟩,
     ⟨(some 2), none, (.p (.mv (.t 4))), false, []⟩] (some ⟨[2], [], false⟩))
   .ret))
theorem Tryd.run30 {xs : List AV} {r : AV} (hl : xs.length ≤ 5) (h : aw Tryd.prog Tryd.c30 (Pv.Ends [2] r) (entry xs)) : Run Tryd.prog 30 xs r :=
  run_of (fun _ _ => drawOk Tryd.mixed) Tryd.func30 rfl rfl rfl (by kernel_rfl) (by kernel_rfl) hl h
/-! 31 paling/num.ReadAddrs : params [9], results [39, 4], free 0, zeros [(.string ⟨#[]⟩)] -/
def Tryd.c31 : AC :=
 (.seq
  (.region 0 [⟨(some 2), none, (.p (.mv (.c (.sl 0 [] true)))), false, []⟩,
    ⟨(some 3), none, (.p (.mv (.c (.bool false)))), false, []⟩] (some ⟨[0], [], false⟩))
  (.seq
   (.region 0 [⟨(some 4), none, (.p (.mv (.t 0))), false, []⟩,
     ⟨(some 5), none, (.call 55 [(.t 4), (.c (.fn 10 []))] false), false, []⟩,
     ⟨(some 6), none, (.p (.ext (.t 5) 0)), false, []⟩,
     ⟨(some 7), none, (.p (.ext (.t 5) 1)), false, []⟩,
     ⟨(some 2), none, (.p (.mv (.t 6))), false, []⟩,
     ⟨(some 3), none, (.p (.mv (.t 7))), false, []⟩] (some ⟨[2, 3], [], false⟩))
   .ret))
theorem Tryd.run31 {xs : List AV} {r : AV} (hl : xs.length ≤ 8) (h : aw Tryd.prog Tryd.c31 (Pv.Ends [2, 3] r) (entry xs)) : Run Tryd.prog 31 xs r :=
  run_of (fun _ _ => drawOk Tryd.mixed) Tryd.func31 rfl rfl rfl (by kernel_rfl) (by kernel_rfl) hl h
/-! 32 paling/num.AddrsText : params [39], results [9], free 0, zeros [(.slice none 0 0)] -/
def Tryd.c32 : AC :=
 (.seq
  (.region 0 [⟨(some 2), none, (.p (.mv (.c (.str [])))), false, []⟩] (some ⟨[0], [], false⟩))
  (.seq
   (.region 0 [⟨(some 3), none, (.p (.mv (.t 0))), false, []⟩,
     ⟨(some 4), none, (.call 56 [(.t 3), (.c (.fn 14 []))] false), false, []⟩,
     ⟨(some 2), none, (.p (.mv (.t 4))), false, []⟩] (some ⟨[2], [], false⟩))
   .ret))
theorem Tryd.run32 {xs : List AV} {r : AV} (hl : xs.length ≤ 5) (h : aw Tryd.prog Tryd.c32 (Pv.Ends [2] r) (entry xs)) : Run Tryd.prog 32 xs r :=
  run_of (fun _ _ => drawOk Tryd.mixed) Tryd.func32 rfl rfl rfl (by kernel_rfl) (by kernel_rfl) hl h
/-! 42 paling/addr.small : params [9, 3], results [3, 4], free 0, zeros [(.string ⟨#[]⟩), (.int .i64 (0))] -/
def Tryd.c42b0 : AC :=
 (.seq
  (.region 0 [⟨(some 29), none, (.p (.bin .lss (.t 28) (.t 27))), false, []⟩] (some ⟨[0, 1, 6, 27, 28, 29], [], false⟩))
  (.seq
   (.cond (.t 29)
    .skip
    (.exit 0))
   (.seq
    (.block 1
     (.seq
      (.region 0 [⟨(some 30), none, (.p (.mv (.t 28))), false, []⟩,
        ⟨(some 7), none, (.p (.mv (.t 30))), false, []⟩] (some ⟨[0, 1, 6, 7, 27, 28], [], false⟩))
      (.seq
       (.seq
        (.region 0 [⟨(some 31), none, (.p (.mv (.t 0))), false, []⟩,
          ⟨(some 32), none, (.p (.mv (.t 7))), false, []⟩,
          ⟨(some 33), none, (.p (.idxs (.t 31) (.t 32))), false, []⟩,
          ⟨(some 34), none, (.p (.bin .lss (.t 33) (.c (.int .u8 48)))), false, []⟩,
          ⟨(some 35), none, (.p (.mv (.t 34))), false, []⟩,
          ⟨(some 36), (some (35, false)), (.p (.mv (.t 0))), false, []⟩,
          ⟨(some 37), (some (35, false)), (.p (.mv (.t 7))), false, []⟩,
          ⟨(some 38), (some (35, false)), (.p (.idxs (.t 36) (.t 37))), false, []⟩,
          ⟨(some 39), (some (35, false)), (.p (.bin .gtr (.t 38) (.c (.int .u8 57)))), false, []⟩,
          ⟨(some 40), none, (.p (.pick (.t 35) (.c (.bool true)) (.t 39))), false, []⟩] (some ⟨[0, 1, 6, 7, 27, 28, 40], [], false⟩))
        (.cond (.t 40)
         (.seq
          (.region 0 [⟨(some 4), none, (.p (.mv (.c (.int .i64 0)))), false, []⟩,
            ⟨(some 5), none, (.p (.mv (.c (.bool false)))), false, []⟩] (some ⟨[4, 5], [], false⟩))
          .ret)
         .skip))
       (.region 0 [⟨(some 41), none, (.p (.mv (.t 6))), false, []⟩,
         ⟨(some 42), none, (.p (.bin .mul (.c (.int .i64 10)) (.t 41))), false, []⟩,
         ⟨(some 43), none, (.p (.mv (.t 0))), false, []⟩,
         ⟨(some 44), none, (.p (.mv (.t 7))), false, []⟩,
         ⟨(some 45), none, (.p (.idxs (.t 43) (.t 44))), false, []⟩,
         ⟨(some 46), none, (.p (.bin .sub (.t 45) (.c (.int .u8 48)))), false, []⟩,
         ⟨(some 47), none, (.p (.convI .i64 (.t 46))), false, []⟩,
         ⟨(some 48), none, (.p (.bin .add (.t 42) (.t 47))), false, []⟩,
         ⟨(some 6), none, (.p (.mv (.t 48))), false, []⟩] (some ⟨[0, 1, 6, 27, 28], [], false⟩)))))
    (.region 0 [⟨(some 49), none, (.p (.bin .add (.t 28) (.c (.int .i64 1)))), false, []⟩,
      ⟨(some 28), none, (.p (.mv (.t 49))), false, []⟩] (some ⟨[0, 1, 6, 27, 28], [], false⟩)))))
def Tryd.c42 : AC :=
 (.seq
  (.region 0 [⟨(some 4), none, (.p (.mv (.c (.int .i64 0)))), false, []⟩,
    ⟨(some 5), none, (.p (.mv (.c (.bool false)))), false, []⟩] (some ⟨[0, 1], [], false⟩))
  (.seq
   (.seq
    (.region 0 [⟨(some 8), none, (.p (.mv (.t 0))), false, []⟩,
      ⟨(some 9), none, (.p (.lenS (.t 8))), false, []⟩,
      ⟨(some 10), none, (.p (.bin .eql (.t 9) (.c (.int .i64 0)))), false, []⟩,
      ⟨(some 11), none, (.p (.mv (.t 10))), false, []⟩,
      ⟨(some 12), (some (11, false)), (.p (.mv (.t 0))), false, []⟩,
      ⟨(some 13), (some (11, false)), (.p (.lenS (.t 12))), false, []⟩,
      ⟨(some 14), (some (11, false)), (.p (.bin .gtr (.t 13) (.c (.int .i64 3)))), false, []⟩,
      ⟨(some 15), none, (.p (.pick (.t 11) (.c (.bool true)) (.t 14))), false, []⟩,
      ⟨(some 16), none, (.p (.mv (.t 15))), false, []⟩,
      ⟨(some 17), (some (16, false)), (.p (.mv (.t 0))), false, []⟩,
      ⟨(some 18), (some (16, false)), (.p (.lenS (.t 17))), false, []⟩,
      ⟨(some 19), (some (16, false)), (.p (.bin .gtr (.t 18) (.c (.int .i64 1)))), false, []⟩,
      ⟨(some 20), (some (16, false)), (.p (.mv (.t 19))), false, []⟩,
      ⟨(some 21), (some (20, true)), (.p (.mv (.t 0))), false, []⟩,
      ⟨(some 22), (some (20, true)), (.p (.idxs (.t 21) (.c (.int .i64 0)))), false, []⟩,
      ⟨(some 23), (some (20, true)), (.p (.bin .eql (.t 22) (.c (.int .u8 48)))), false, []⟩,
      ⟨(some 24), (some (16, false)), (.p (.pick (.t 20) (.t 23) (.c (.bool false)))), false, []⟩,
      ⟨(some 25), none, (.p (.pick (.t 16) (.c (.bool true)) (.t 24))), false, []⟩] (some ⟨[0, 1, 25], [], false⟩))
    (.cond (.t 25)
     (.seq
      (.region 0 [⟨(some 4), none, (.p (.mv (.c (.int .i64 0)))), false, []⟩,
        ⟨(some 5), none, (.p (.mv (.c (.bool false)))), false, []⟩] (some ⟨[4, 5], [], false⟩))
      .ret)
     .skip))
   (.seq
    (.region 0 [⟨(some 6), none, (.p (.mv (.c (.int .i64 0)))), false, []⟩] (some ⟨[0, 1, 6], [], false⟩))
    (.seq
     (.seq
      (.region 0 [⟨(some 26), none, (.p (.mv (.t 0))), false, []⟩,
        ⟨(some 27), none, (.p (.lenS (.t 26))), false, []⟩,
        ⟨(some 28), none, (.p (.mv (.c (.int .i64 0)))), false, []⟩] (some ⟨[0, 1, 6, 27, 28], [], false⟩))
      (.block 0
       (.loop (some ⟨[0, 1, 6, 27, 28], [], true⟩) Tryd.c42b0)))
     (.seq
      (.region 0 [⟨(some 50), none, (.p (.mv (.t 6))), false, []⟩,
        ⟨(some 51), none, (.p (.mv (.t 6))), false, []⟩,
        ⟨(some 52), none, (.p (.mv (.t 1))), false, []⟩,
        ⟨(some 53), none, (.p (.bin .leq (.t 51) (.t 52))), false, []⟩,
        ⟨(some 4), none, (.p (.mv (.t 50))), false, []⟩,
        ⟨(some 5), none, (.p (.mv (.t 53))), false, []⟩] (some ⟨[4, 5], [], false⟩))
      .ret)))))
theorem Tryd.run42 {xs : List AV} {r : AV} (hl : xs.length ≤ 54) (h : aw Tryd.prog Tryd.c42 (Pv.Ends [4, 5] r) (entry xs)) : Run Tryd.prog 42 xs r :=
  run_of (fun _ _ => drawOk Tryd.mixed) Tryd.func42 rfl rfl rfl (by kernel_rfl) (by kernel_rfl) hl h
/-! 44 strings.Cut : params [9, 9], results [9, 9, 4], free 0, zeros [(.string ⟨#[]⟩), (.string ⟨#[]⟩)] -/
def Tryd.c44 : AC :=
 (.seq
  (.region 0 [⟨(some 4), none, (.p (.mv (.c (.str [])))), false, []⟩,
    ⟨(some 5), none, (.p (.mv (.c (.str [])))), false, []⟩,
    ⟨(some 6), none, (.p (.mv (.c (.bool false)))), false, []⟩] (some ⟨[0, 1], [], false⟩))
  (.seq
   (.region 0 [⟨(some 7), none, (.p (.mv (.t 0))), false, []⟩,
     ⟨(some 8), none, (.p (.mv (.t 1))), false, []⟩,
     ⟨(some 9), none, (.call 61 [(.t 7), (.t 8)] false), false, []⟩,
     ⟨(some 10), none, (.p (.ext (.t 9) 0)), false, []⟩,
     ⟨(some 11), none, (.p (.ext (.t 9) 1)), false, []⟩,
     ⟨(some 12), none, (.p (.ext (.t 9) 2)), false, []⟩,
     ⟨(some 4), none, (.p (.mv (.t 10))), false, []⟩,
     ⟨(some 5), none, (.p (.mv (.t 11))), false, []⟩,
     ⟨(some 6), none, (.p (.mv (.t 12))), false, []⟩] (some ⟨[4, 5, 6], [], false⟩))
   .ret))
theorem Tryd.run44 {xs : List AV} {r : AV} (hl : xs.length ≤ 13) (h : aw Tryd.prog Tryd.c44 (Pv.Ends [4, 5, 6] r) (entry xs)) : Run Tryd.prog 44 xs r :=
  run_of (fun _ _ => drawOk Tryd.mixed) Tryd.func44 rfl rfl rfl (by kernel_rfl) (by kernel_rfl) hl h
/-! 45 paling/addr.put : params [61, 3], results [61], free 0, zeros [(.slice none 0 0), (.int .i64 (0))] -/
def Tryd.c45 : AC :=
 (.seq
  (.region 0 [⟨(some 4), none, (.p (.mv (.c (.sl 0 [] true)))), false, []⟩] (some ⟨[0, 1], [], false⟩))
  (.seq
   (.seq
    (.region 0 [⟨(some 5), none, (.p (.mv (.t 1))), false, []⟩,
      ⟨(some 6), none, (.p (.bin .geq (.t 5) (.c (.int .i64 10)))), false, []⟩] (some ⟨[0, 1, 6], [], false⟩))
    (.cond (.t 6)
     (.region 0 [⟨(some 7), none, (.p (.mv (.t 0))), false, []⟩,
       ⟨(some 8), none, (.p (.mv (.t 1))), false, []⟩,
       ⟨(some 9), none, (.p (.bin .quo (.t 8) (.c (.int .i64 10)))), false, []⟩,
       ⟨(some 10), none, (.call 45 [(.t 7), (.t 9)] false), false, []⟩,
       ⟨(some 0), none, (.p (.mv (.t 10))), false, []⟩] (some ⟨[0, 1], [], false⟩))
     .skip))
   (.seq
    (.region 0 [⟨(some 11), none, (.p (.mv (.t 0))), false, []⟩,
      ⟨(some 12), none, (.p (.mv (.t 1))), false, []⟩,
      ⟨(some 13), none, (.p (.bin .rem (.t 12) (.c (.int .i64 10)))), false, []⟩,
      ⟨(some 14), none, (.p (.bin .add (.c (.int .i64 48)) (.t 13))), false, []⟩,
      ⟨(some 15), none, (.p (.convI .u8 (.t 14))), false, []⟩,
      ⟨(some 16), none, (.e (.mks 5 1 (.int .u8 0) 1 [(0, (.t 15))]) none), false, []⟩,
      ⟨(some 17), none, (.e (.append 5 1 140737488355328 (.t 11) (.t 16)) none), false, []⟩,
      ⟨(some 4), none, (.p (.mv (.t 17))), false, []⟩] (some ⟨[4], [], false⟩))
    .ret)))
theorem Tryd.run45 {xs : List AV} {r : AV} (hl : xs.length ≤ 18) (h : aw Tryd.prog Tryd.c45 (Pv.Ends [4] r) (entry xs)) : Run Tryd.prog 45 xs r :=
  run_of (fun _ _ => drawOk Tryd.mixed) Tryd.func45 rfl rfl rfl (by kernel_rfl) (by kernel_rfl) hl h
/-! 49 paling/num.Text : params [3], results [9], free 0, zeros [(.int .i64 (0))] -/
def Tryd.c49b0 : AC :=
 (.seq
  (.seq
   (.region 0 [⟨(some 14), none, (.p (.mv (.t 5))), false, []⟩] (some ⟨[0, 3, 4, 14], [], false⟩))
   (.cond (.t 14)
    .skip
    (.exit 0)))
  (.seq
   (.block 1
    (.seq
     (.region 0 [⟨(some 17), none, (.p (.mv (.t 3))), false, []⟩,
       ⟨(some 18), none, (.p (.mv (.t 4))), false, []⟩,
       ⟨(some 19), none, (.p (.bin .rem (.t 18) (.c (.int .u64 10)))), false, []⟩,
       ⟨(some 20), none, (.p (.bin .add (.c (.int .u64 48)) (.t 19))), false, []⟩,
       ⟨(some 21), none, (.p (.convI .u8 (.t 20))), false, []⟩,
       ⟨(some 22), none, (.e (.mks 5 1 (.int .u8 0) 1 [(0, (.t 21))]) none), false, []⟩,
       ⟨(some 23), none, (.e (.append 5 1 140737488355328 (.t 17) (.t 22)) none), false, []⟩,
       ⟨(some 3), none, (.p (.mv (.t 23))), false, []⟩] (some ⟨[0, 3, 4], [], false⟩))
     (.region 0 [⟨(some 24), none, (.p (.mv (.t 4))), false, []⟩,
       ⟨(some 25), none, (.p (.bin .quo (.t 24) (.c (.int .u64 10)))), false, []⟩,
       ⟨(some 4), none, (.p (.mv (.t 25))), false, []⟩] (some ⟨[0, 3, 4], [], false⟩))))
   (.region 0 [⟨(some 15), none, (.p (.mv (.t 4))), false, []⟩,
     ⟨(some 16), none, (.p (.bin .gtr (.t 15) (.c (.int .u64 0)))), false, []⟩,
     ⟨(some 5), none, (.p (.mv (.t 16))), false, []⟩] (some ⟨[0, 3, 4, 5], [], false⟩))))
def Tryd.c49b1 : AC :=
 (.seq
  (.seq
   (.region 0 [⟨(some 34), none, (.p (.mv (.t 6))), false, []⟩,
     ⟨(some 35), none, (.p (.mv (.t 7))), false, []⟩,
     ⟨(some 36), none, (.p (.bin .lss (.t 34) (.t 35))), false, []⟩] (some ⟨[3, 6, 7, 36], [], false⟩))
   (.cond (.t 36)
    .skip
    (.exit 2)))
  (.seq
   (.block 3
    (.region 16 [⟨(some 41), none, (.p (.mv (.t 3))), false, []⟩,
      ⟨(some 42), none, (.p (.mv (.t 6))), false, []⟩,
      ⟨(some 43), none, (.p (.mv (.t 3))), false, []⟩,
      ⟨(some 44), none, (.p (.mv (.t 7))), false, []⟩,
      ⟨(some 45), none, (.p (.mv (.t 3))), false, []⟩,
      ⟨(some 46), none, (.p (.mv (.t 7))), false, []⟩,
      ⟨(some 47), none, (.p (.iaddr 1 (.t 45) (.t 46))), false, []⟩,
      ⟨(some 48), none, (.r (.load 1 false (.t 47))), false, []⟩,
      ⟨(some 49), none, (.p (.mv (.t 3))), false, []⟩,
      ⟨(some 50), none, (.p (.mv (.t 6))), false, []⟩,
      ⟨(some 51), none, (.p (.iaddr 1 (.t 49) (.t 50))), false, []⟩,
      ⟨(some 52), none, (.r (.load 1 false (.t 51))), false, []⟩,
      ⟨(some 53), none, (.p (.iaddr 1 (.t 41) (.t 42))), false, []⟩,
      ⟨none, none, (.e (.store 1 (.t 53) (.t 48)) (some 13)), false, []⟩,
      ⟨(some 54), none, (.p (.iaddr 1 (.t 43) (.t 44))), false, []⟩,
      ⟨none, none, (.e (.store 1 (.t 54) (.t 52)) (some 15)), false, []⟩] (some ⟨[3, 6, 7], [], true⟩)))
   (.region 0 [⟨(some 37), none, (.p (.mv (.t 6))), false, []⟩,
     ⟨(some 38), none, (.p (.bin .add (.t 37) (.c (.int .i64 1)))), false, []⟩,
     ⟨(some 39), none, (.p (.mv (.t 7))), false, []⟩,
     ⟨(some 40), none, (.p (.bin .sub (.t 39) (.c (.int .i64 1)))), false, []⟩,
     ⟨(some 6), none, (.p (.mv (.t 38))), false, []⟩,
     ⟨(some 7), none, (.p (.mv (.t 40))), false, []⟩] (some ⟨[3, 6, 7], [], false⟩))))
def Tryd.c49 : AC :=
 (.seq
  (.region 0 [⟨(some 2), none, (.p (.mv (.c (.str [])))), false, []⟩] (some ⟨[0], [], false⟩))
  (.seq
   (.region 0 [⟨(some 3), none, (.p (.mv (.c (.sl 0 [] true)))), false, []⟩] (some ⟨[0, 3], [], false⟩))
   (.seq
    (.region 0 [⟨(some 8), none, (.p (.mv (.t 0))), false, []⟩,
      ⟨(some 9), none, (.p (.convI .u64 (.t 8))), false, []⟩,
      ⟨(some 4), none, (.p (.mv (.t 9))), false, []⟩] (some ⟨[0, 3, 4], [], false⟩))
    (.seq
     (.seq
      (.region 0 [⟨(some 10), none, (.p (.mv (.t 0))), false, []⟩,
        ⟨(some 11), none, (.p (.bin .lss (.t 10) (.c (.int .i64 0)))), false, []⟩] (some ⟨[0, 3, 4, 11], [], false⟩))
      (.cond (.t 11)
       (.region 0 [⟨(some 12), none, (.p (.mv (.t 4))), false, []⟩,
         ⟨(some 13), none, (.p (.un .neg (.t 12))), false, []⟩,
         ⟨(some 4), none, (.p (.mv (.t 13))), false, []⟩] (some ⟨[0, 3, 4], [], false⟩))
       .skip))
     (.seq
      (.seq
       (.region 0 [⟨(some 5), none, (.p (.mv (.c (.bool true)))), false, []⟩] (some ⟨[0, 3, 4, 5], [], false⟩))
       (.block 0
        (.loop (some ⟨[0, 3, 4, 5], [(3, (1, 5))], true⟩) Tryd.c49b0)))
      (.seq
       (.seq
        (.region 0 [⟨(some 26), none, (.p (.mv (.t 0))), false, []⟩,
          ⟨(some 27), none, (.p (.bin .lss (.t 26) (.c (.int .i64 0)))), false, []⟩] (some ⟨[3, 27], [], false⟩))
        (.cond (.t 27)
         (.region 0 [⟨(some 28), none, (.p (.mv (.t 3))), false, []⟩,
           ⟨(some 29), none, (.e (.mks 5 1 (.int .u8 0) 1 [(0, (.c (.int .u8 45)))]) none), false, []⟩,
           ⟨(some 30), none, (.e (.append 5 1 140737488355328 (.t 28) (.t 29)) none), false, []⟩,
           ⟨(some 3), none, (.p (.mv (.t 30))), false, []⟩] (some ⟨[3], [], false⟩))
         .skip))
       (.seq
        (.seq
         (.region 0 [⟨(some 31), none, (.p (.mv (.t 3))), false, []⟩,
           ⟨(some 32), none, (.p (.len (.t 31))), false, []⟩,
           ⟨(some 33), none, (.p (.bin .sub (.t 32) (.c (.int .i64 1)))), false, []⟩,
           ⟨(some 6), none, (.p (.mv (.c (.int .i64 0)))), false, []⟩,
           ⟨(some 7), none, (.p (.mv (.t 33))), false, []⟩] (some ⟨[3, 6, 7], [], false⟩))
         (.block 2
          (.loop (some ⟨[3, 6, 7], [], true⟩) Tryd.c49b1)))
        (.seq
         (.region 0 [⟨(some 55), none, (.p (.mv (.t 3))), false, []⟩,
           ⟨(some 56), none, (.r (.b2s (.t 55))), false, []⟩,
           ⟨(some 2), none, (.p (.mv (.t 56))), false, []⟩] (some ⟨[2], [], false⟩))
         .ret))))))))
theorem Tryd.run49 {xs : List AV} {r : AV} (hl : xs.length ≤ 57) (h : aw Tryd.prog Tryd.c49 (Pv.Ends [2] r) (entry xs)) : Run Tryd.prog 49 xs r :=
  run_of (fun _ _ => drawOk Tryd.mixed) Tryd.func49 rfl rfl rfl (by kernel_rfl) (by kernel_rfl) hl h
/-! 50 paling/num.Name : params [9], results [4], free 0, zeros [(.string ⟨#[]⟩)] -/
def Tryd.c50b0 : AC :=
 (.seq
  (.region 0 [⟨(some 9), none, (.p (.bin .lss (.t 8) (.t 7))), false, []⟩] (some ⟨[0, 7, 8, 9], [], false⟩))
  (.seq
   (.cond (.t 9)
    .skip
    (.exit 0))
   (.seq
    (.block 1
     (.seq
      (.region 0 [⟨(some 10), none, (.p (.mv (.t 8))), false, []⟩,
        ⟨(some 3), none, (.p (.mv (.t 10))), false, []⟩] (some ⟨[0, 3, 7, 8], [], false⟩))
      (.seq
       (.region 22 [⟨(some 11), none, (.p (.mv (.t 0))), false, []⟩,
         ⟨(some 12), none, (.p (.mv (.t 3))), false, []⟩,
         ⟨(some 13), none, (.p (.idxs (.t 11) (.t 12))), false, []⟩,
         ⟨(some 14), none, (.p (.bin .geq (.t 13) (.c (.int .u8 97)))), false, []⟩,
         ⟨(some 15), none, (.p (.mv (.t 14))), false, []⟩,
         ⟨(some 16), (some (15, true)), (.p (.mv (.t 0))), false, []⟩,
         ⟨(some 17), (some (15, true)), (.p (.mv (.t 3))), false, []⟩,
         ⟨(some 18), (some (15, true)), (.p (.idxs (.t 16) (.t 17))), false, []⟩,
         ⟨(some 19), (some (15, true)), (.p (.bin .leq (.t 18) (.c (.int .u8 122)))), false, []⟩,
         ⟨(some 20), none, (.p (.pick (.t 15) (.t 19) (.c (.bool false)))), false, []⟩,
         ⟨(some 21), none, (.p (.mv (.t 0))), false, []⟩,
         ⟨(some 22), none, (.p (.mv (.t 3))), false, []⟩,
         ⟨(some 23), none, (.p (.idxs (.t 21) (.t 22))), false, []⟩,
         ⟨(some 24), none, (.p (.bin .geq (.t 23) (.c (.int .u8 48)))), false, []⟩,
         ⟨(some 25), none, (.p (.mv (.t 24))), false, []⟩,
         ⟨(some 26), (some (25, true)), (.p (.mv (.t 0))), false, []⟩,
         ⟨(some 27), (some (25, true)), (.p (.mv (.t 3))), false, []⟩,
         ⟨(some 28), (some (25, true)), (.p (.idxs (.t 26) (.t 27))), false, []⟩,
         ⟨(some 29), (some (25, true)), (.p (.bin .leq (.t 28) (.c (.int .u8 57)))), false, []⟩,
         ⟨(some 30), none, (.p (.pick (.t 25) (.t 29) (.c (.bool false)))), false, []⟩,
         ⟨(some 4), none, (.p (.mv (.t 20))), false, []⟩,
         ⟨(some 5), none, (.p (.mv (.t 30))), false, []⟩] (some ⟨[0, 3, 4, 5, 7, 8], [], true⟩))
       (.seq
        (.region 0 [⟨(some 31), none, (.p (.mv (.t 4))), false, []⟩,
          ⟨(some 32), none, (.p (.un .not (.t 31))), false, []⟩,
          ⟨(some 33), none, (.p (.mv (.t 32))), false, []⟩,
          ⟨(some 34), (some (33, true)), (.p (.mv (.t 5))), false, []⟩,
          ⟨(some 35), (some (33, true)), (.p (.un .not (.t 34))), false, []⟩,
          ⟨(some 36), (some (33, true)), (.p (.mv (.t 35))), false, []⟩,
          ⟨(some 37), (some (36, false)), (.p (.mv (.t 3))), false, []⟩,
          ⟨(some 38), (some (36, false)), (.p (.bin .eql (.t 37) (.c (.int .i64 0)))), false, []⟩,
          ⟨(some 39), (some (33, true)), (.p (.pick (.t 36) (.c (.bool true)) (.t 38))), false, []⟩,
          ⟨(some 40), none, (.p (.pick (.t 33) (.t 39) (.c (.bool false)))), false, []⟩] (some ⟨[0, 7, 8, 40], [], false⟩))
        (.cond (.t 40)
         (.seq
          (.region 0 [⟨(some 2), none, (.p (.mv (.c (.bool false)))), false, []⟩] (some ⟨[2], [], false⟩))
          .ret)
         .skip)))))
    (.region 0 [⟨(some 41), none, (.p (.bin .add (.t 8) (.c (.int .i64 1)))), false, []⟩,
      ⟨(some 8), none, (.p (.mv (.t 41))), false, []⟩] (some ⟨[0, 7, 8], [], false⟩)))))
def Tryd.c50 : AC :=
 (.seq
  (.region 0 [⟨(some 2), none, (.p (.mv (.c (.bool false)))), false, []⟩] (some ⟨[0], [], false⟩))
  (.seq
   (.seq
    (.region 0 [⟨(some 6), none, (.p (.mv (.t 0))), false, []⟩,
      ⟨(some 7), none, (.p (.lenS (.t 6))), false, []⟩,
      ⟨(some 8), none, (.p (.mv (.c (.int .i64 0)))), false, []⟩] (some ⟨[0, 7, 8], [], false⟩))
    (.block 0
     (.loop (some ⟨[0, 7, 8], [], true⟩) Tryd.c50b0)))
   (.seq
    (.region 0 [⟨(some 42), none, (.p (.mv (.t 0))), false, []⟩,
      ⟨(some 43), none, (.p (.lenS (.t 42))), false, []⟩,
      ⟨(some 44), none, (.p (.bin .gtr (.t 43) (.c (.int .i64 0)))), false, []⟩,
      ⟨(some 45), none, (.p (.mv (.t 44))), false, []⟩,
      ⟨(some 46), (some (45, true)), (.p (.mv (.t 0))), false, []⟩,
      ⟨(some 47), (some (45, true)), (.p (.lenS (.t 46))), false, []⟩,
      ⟨(some 48), (some (45, true)), (.p (.bin .leq (.t 47) (.c (.int .i64 12)))), false, []⟩,
      ⟨(some 49), none, (.p (.pick (.t 45) (.t 48) (.c (.bool false)))), false, []⟩,
      ⟨(some 2), none, (.p (.mv (.t 49))), false, []⟩] (some ⟨[2], [], false⟩))
    .ret)))
theorem Tryd.run50 {xs : List AV} {r : AV} (hl : xs.length ≤ 50) (h : aw Tryd.prog Tryd.c50 (Pv.Ends [2] r) (entry xs)) : Run Tryd.prog 50 xs r :=
  run_of (fun _ _ => drawOk Tryd.mixed) Tryd.func50 rfl rfl rfl (by kernel_rfl) (by kernel_rfl) hl h
/-! 51 paling/num.read[int] : params [9, 68], results [40, 4], free 0, zeros [(.string ⟨#[]⟩), .nilFunc] -/
def Tryd.c51b0 : AC :=
 (.seq
  (.seq
   (.region 0 [⟨(some 11), none, (.p (.mv (.t 7))), false, []⟩] (some ⟨[0, 1, 6, 11], [], false⟩))
   (.cond (.t 11)
    .skip
    (.exit 0)))
  (.block 1
   (.seq
    (.region 0 [⟨(some 8), none, (.p (.mv (.c (.str [])))), false, []⟩] (some ⟨[0, 1, 6], [], false⟩))
    (.seq
     (.region 0 [⟨(some 13), none, (.p (.mv (.t 0))), false, []⟩,
       ⟨(some 14), none, (.call 44 [(.t 13), (.c (.str [44]))] false), false, []⟩,
       ⟨(some 12), none, (.p (.mv (.t 14))), false, []⟩,
       ⟨(some 15), none, (.p (.ext (.t 12) 0)), false, []⟩,
       ⟨(some 16), none, (.p (.ext (.t 12) 1)), false, []⟩,
       ⟨(some 17), none, (.p (.ext (.t 12) 2)), false, []⟩,
       ⟨(some 8), none, (.p (.mv (.t 15))), false, []⟩,
       ⟨(some 0), none, (.p (.mv (.t 16))), false, []⟩,
       ⟨(some 7), none, (.p (.mv (.t 17))), false, []⟩] (some ⟨[0, 1, 6, 7, 8], [], false⟩))
     (.seq
      (.region 0 [⟨(some 19), none, (.p (.mv (.t 1))), false, []⟩,
        ⟨(some 20), none, (.p (.mv (.t 8))), false, []⟩,
        ⟨(some 21), none, (.callv (.t 19) [(.t 20)]), false, []⟩,
        ⟨(some 18), none, (.p (.mv (.t 21))), false, []⟩,
        ⟨(some 22), none, (.p (.ext (.t 18) 0)), false, []⟩,
        ⟨(some 23), none, (.p (.ext (.t 18) 1)), false, []⟩,
        ⟨(some 9), none, (.p (.mv (.t 22))), false, []⟩,
        ⟨(some 10), none, (.p (.mv (.t 23))), false, []⟩] (some ⟨[0, 1, 6, 7, 9, 10], [], false⟩))
      (.seq
       (.seq
        (.region 0 [⟨(some 24), none, (.p (.mv (.t 10))), false, []⟩,
          ⟨(some 25), none, (.p (.un .not (.t 24))), false, []⟩,
          ⟨(some 26), none, (.p (.mv (.t 25))), false, []⟩,
          ⟨(some 27), (some (26, false)), (.p (.mv (.t 6))), false, []⟩,
          ⟨(some 28), (some (26, false)), (.p (.len (.t 27))), false, []⟩,
          ⟨(some 29), (some (26, false)), (.p (.bin .eql (.t 28) (.c (.int .i64 16)))), false, []⟩,
          ⟨(some 30), none, (.p (.pick (.t 26) (.c (.bool true)) (.t 29))), false, []⟩,
          ⟨(some 31), none, (.p (.mv (.t 30))), false, []⟩,
          ⟨(some 32), (some (31, false)), (.p (.mv (.t 6))), false, []⟩,
          ⟨(some 33), (some (31, false)), (.p (.len (.t 32))), false, []⟩,
          ⟨(some 34), (some (31, false)), (.p (.bin .gtr (.t 33) (.c (.int .i64 0)))), false, []⟩,
          ⟨(some 35), (some (31, false)), (.p (.mv (.t 34))), false, []⟩,
          ⟨(some 36), (some (35, true)), (.p (.mv (.t 6))), false, []⟩,
          ⟨(some 37), (some (35, true)), (.p (.mv (.t 6))), false, []⟩,
          ⟨(some 38), (some (35, true)), (.p (.len (.t 37))), false, []⟩,
          ⟨(some 39), (some (35, true)), (.p (.bin .sub (.t 38) (.c (.int .i64 1)))), false, []⟩,
          ⟨(some 40), (some (35, true)), (.p (.iaddr 1 (.t 36) (.t 39))), false, []⟩,
          ⟨(some 41), (some (35, true)), (.r (.load 1 false (.t 40))), false, []⟩,
          ⟨(some 42), (some (35, true)), (.p (.mv (.t 9))), false, []⟩,
          ⟨(some 43), (some (35, true)), (.p (.bin .geq (.t 41) (.t 42))), false, []⟩,
          ⟨(some 44), (some (31, false)), (.p (.pick (.t 35) (.t 43) (.c (.bool false)))), false, []⟩,
          ⟨(some 45), none, (.p (.pick (.t 31) (.c (.bool true)) (.t 44))), false, []⟩] (some ⟨[0, 1, 6, 7, 9, 45], [], false⟩))
        (.cond (.t 45)
         (.seq
          (.region 0 [⟨(some 4), none, (.p (.mv (.c (.sl 0 [] true)))), false, []⟩,
            ⟨(some 5), none, (.p (.mv (.c (.bool false)))), false, []⟩] (some ⟨[4, 5], [], false⟩))
          .ret)
         .skip))
       (.region 0 [⟨(some 46), none, (.p (.mv (.t 6))), false, []⟩,
         ⟨(some 47), none, (.p (.mv (.t 9))), false, []⟩,
         ⟨(some 48), none, (.e (.mks 3 1 (.int .i64 0) 1 [(0, (.t 47))]) none), false, []⟩,
         ⟨(some 49), none, (.e (.append 3 1 1000000000 (.t 46) (.t 48)) none), false, []⟩,
         ⟨(some 6), none, (.p (.mv (.t 49))), false, []⟩] (some ⟨[0, 1, 6, 7], [], false⟩))))))))
def Tryd.c51 : AC :=
 (.seq
  (.region 0 [⟨(some 4), none, (.p (.mv (.c (.sl 0 [] true)))), false, []⟩,
    ⟨(some 5), none, (.p (.mv (.c (.bool false)))), false, []⟩] (some ⟨[0, 1], [], false⟩))
  (.seq
   (.region 0 [⟨(some 6), none, (.p (.mv (.c (.sl 0 [] true)))), false, []⟩] (some ⟨[0, 1, 6], [], false⟩))
   (.seq
    (.seq
     (.region 0 [⟨(some 7), none, (.p (.mv (.c (.bool true)))), false, []⟩] (some ⟨[0, 1, 6, 7], [], false⟩))
     (.block 0
      (.loop (some ⟨[0, 1, 6, 7], [(6, (1, 3))], true⟩) Tryd.c51b0)))
    (.seq
     (.region 0 [⟨(some 50), none, (.p (.mv (.t 6))), false, []⟩,
       ⟨(some 4), none, (.p (.mv (.t 50))), false, []⟩,
       ⟨(some 5), none, (.p (.mv (.c (.bool true)))), false, []⟩] (some ⟨[4, 5], [], false⟩))
     .ret))))
theorem Tryd.run51 {xs : List AV} {r : AV} (hl : xs.length ≤ 51) (h : aw Tryd.prog Tryd.c51 (Pv.Ends [4, 5] r) (entry xs)) : Run Tryd.prog 51 xs r :=
  run_of (fun _ _ => drawOk Tryd.mixed) Tryd.func51 rfl rfl rfl (by kernel_rfl) (by kernel_rfl) hl h
/-! 52 paling/num.ReadList.1 : params [9], results [3, 4], free 2, zeros [(.string ⟨#[]⟩)] -/
def Tryd.c52 : AC :=
 (.seq
  (.region 0 [⟨(some 4), none, (.p (.mv (.c (.int .i64 0)))), false, []⟩,
    ⟨(some 5), none, (.p (.mv (.c (.bool false)))), false, []⟩] (some ⟨[0, 1, 2], [], false⟩))
  (.seq
   (.region 0 [⟨(some 6), none, (.p (.mv (.t 0))), false, []⟩,
     ⟨(some 7), none, (.r (.load 1 false (.t 1))), false, []⟩,
     ⟨(some 8), none, (.r (.load 1 false (.t 2))), false, []⟩,
     ⟨(some 9), none, (.call 53 [(.t 6), (.t 7), (.t 8)] false), false, []⟩,
     ⟨(some 10), none, (.p (.ext (.t 9) 0)), false, []⟩,
     ⟨(some 11), none, (.p (.ext (.t 9) 1)), false, []⟩,
     ⟨(some 4), none, (.p (.mv (.t 10))), false, []⟩,
     ⟨(some 5), none, (.p (.mv (.t 11))), false, []⟩] (some ⟨[4, 5], [], false⟩))
   .ret))
theorem Tryd.run52 {xs : List AV} {r : AV} (hl : xs.length ≤ 12) (h : aw Tryd.prog Tryd.c52 (Pv.Ends [4, 5] r) (entry xs)) : Run Tryd.prog 52 xs r :=
  run_of (fun _ _ => drawOk Tryd.mixed) Tryd.func52 rfl rfl rfl (by kernel_rfl) (by kernel_rfl) hl h
theorem Tryd.gen52 {xs : List AV} {r : AV} {H H' : Hp} (hl : xs.length ≤ 12) (h : aw Tryd.prog Tryd.c52 (Pv.EndsG [4, 5] r H') ⟨xs.zipIdx.map fun p => (p.2, p.1), H⟩) : Gen Tryd.prog 52 xs H r H' :=
  gen_of (fun _ _ => drawOk Tryd.mixed) Tryd.func52 rfl rfl rfl (by kernel_rfl) (by kernel_rfl) hl h
/-! 53 paling/num.Read : params [9, 3, 3], results [3, 4], free 0, zeros [(.string ⟨#[]⟩), (.int .i64 (0)), (.int .i64 (0))] -/
def Tryd.c53b0 : AC :=
 (.seq
  (.region 0 [⟨(some 23), none, (.p (.bin .lss (.t 22) (.t 21))), false, []⟩] (some ⟨[0, 1, 2, 8, 9, 21, 22, 23], [], false⟩))
  (.seq
   (.cond (.t 23)
    .skip
    (.exit 0))
   (.seq
    (.block 1
     (.seq
      (.region 0 [⟨(some 24), none, (.p (.mv (.t 22))), false, []⟩,
        ⟨(some 10), none, (.p (.mv (.t 24))), false, []⟩] (some ⟨[0, 1, 2, 8, 9, 10, 21, 22], [], false⟩))
      (.seq
       (.seq
        (.region 0 [⟨(some 25), none, (.p (.mv (.t 8))), false, []⟩,
          ⟨(some 26), none, (.p (.mv (.t 10))), false, []⟩,
          ⟨(some 27), none, (.p (.idxs (.t 25) (.t 26))), false, []⟩,
          ⟨(some 28), none, (.p (.bin .lss (.t 27) (.c (.int .u8 48)))), false, []⟩,
          ⟨(some 29), none, (.p (.mv (.t 28))), false, []⟩,
          ⟨(some 30), (some (29, false)), (.p (.mv (.t 8))), false, []⟩,
          ⟨(some 31), (some (29, false)), (.p (.mv (.t 10))), false, []⟩,
          ⟨(some 32), (some (29, false)), (.p (.idxs (.t 30) (.t 31))), false, []⟩,
          ⟨(some 33), (some (29, false)), (.p (.bin .gtr (.t 32) (.c (.int .u8 57)))), false, []⟩,
          ⟨(some 34), none, (.p (.pick (.t 29) (.c (.bool true)) (.t 33))), false, []⟩] (some ⟨[0, 1, 2, 8, 9, 10, 21, 22, 34], [], false⟩))
        (.cond (.t 34)
         (.seq
          (.region 0 [⟨(some 6), none, (.p (.mv (.c (.int .i64 0)))), false, []⟩,
            ⟨(some 7), none, (.p (.mv (.c (.bool false)))), false, []⟩] (some ⟨[6, 7], [], false⟩))
          .ret)
         .skip))
       (.region 0 [⟨(some 35), none, (.p (.mv (.t 9))), false, []⟩,
         ⟨(some 36), none, (.p (.bin .mul (.c (.int .i64 10)) (.t 35))), false, []⟩,
         ⟨(some 37), none, (.p (.mv (.t 8))), false, []⟩,
         ⟨(some 38), none, (.p (.mv (.t 10))), false, []⟩,
         ⟨(some 39), none, (.p (.idxs (.t 37) (.t 38))), false, []⟩,
         ⟨(some 40), none, (.p (.bin .sub (.t 39) (.c (.int .u8 48)))), false, []⟩,
         ⟨(some 41), none, (.p (.convI .i64 (.t 40))), false, []⟩,
         ⟨(some 42), none, (.p (.bin .add (.t 36) (.t 41))), false, []⟩,
         ⟨(some 9), none, (.p (.mv (.t 42))), false, []⟩] (some ⟨[0, 1, 2, 8, 9, 21, 22], [], false⟩)))))
    (.region 0 [⟨(some 43), none, (.p (.bin .add (.t 22) (.c (.int .i64 1)))), false, []⟩,
      ⟨(some 22), none, (.p (.mv (.t 43))), false, []⟩] (some ⟨[0, 1, 2, 8, 9, 21, 22], [], false⟩)))))
def Tryd.c53 : AC :=
 (.seq
  (.region 0 [⟨(some 6), none, (.p (.mv (.c (.int .i64 0)))), false, []⟩,
    ⟨(some 7), none, (.p (.mv (.c (.bool false)))), false, []⟩] (some ⟨[0, 1, 2], [], false⟩))
  (.seq
   (.region 0 [⟨(some 11), none, (.p (.mv (.t 0))), false, []⟩,
     ⟨(some 12), none, (.call 62 [(.t 11), (.c (.str [45]))] false), false, []⟩,
     ⟨(some 8), none, (.p (.mv (.t 12))), false, []⟩] (some ⟨[0, 1, 2, 8], [], false⟩))
   (.seq
    (.seq
     (.region 0 [⟨(some 13), none, (.p (.mv (.t 8))), false, []⟩,
       ⟨(some 14), none, (.p (.bin .eql (.t 13) (.c (.str [])))), false, []⟩,
       ⟨(some 15), none, (.p (.mv (.t 14))), false, []⟩,
       ⟨(some 16), (some (15, false)), (.p (.mv (.t 8))), false, []⟩,
       ⟨(some 17), (some (15, false)), (.p (.lenS (.t 16))), false, []⟩,
       ⟨(some 18), (some (15, false)), (.p (.bin .gtr (.t 17) (.c (.int .i64 10)))), false, []⟩,
       ⟨(some 19), none, (.p (.pick (.t 15) (.c (.bool true)) (.t 18))), false, []⟩] (some ⟨[0, 1, 2, 8, 19], [], false⟩))
     (.cond (.t 19)
      (.seq
       (.region 0 [⟨(some 6), none, (.p (.mv (.c (.int .i64 0)))), false, []⟩,
         ⟨(some 7), none, (.p (.mv (.c (.bool false)))), false, []⟩] (some ⟨[6, 7], [], false⟩))
       .ret)
      .skip))
    (.seq
     (.region 0 [⟨(some 9), none, (.p (.mv (.c (.int .i64 0)))), false, []⟩] (some ⟨[0, 1, 2, 8, 9], [], false⟩))
     (.seq
      (.seq
       (.region 0 [⟨(some 20), none, (.p (.mv (.t 8))), false, []⟩,
         ⟨(some 21), none, (.p (.lenS (.t 20))), false, []⟩,
         ⟨(some 22), none, (.p (.mv (.c (.int .i64 0)))), false, []⟩] (some ⟨[0, 1, 2, 8, 9, 21, 22], [], false⟩))
       (.block 0
        (.loop (some ⟨[0, 1, 2, 8, 9, 21, 22], [], true⟩) Tryd.c53b0)))
      (.seq
       (.seq
        (.region 0 [⟨(some 44), none, (.p (.mv (.t 8))), false, []⟩,
          ⟨(some 45), none, (.p (.lenS (.t 44))), false, []⟩,
          ⟨(some 46), none, (.p (.mv (.t 0))), false, []⟩,
          ⟨(some 47), none, (.p (.lenS (.t 46))), false, []⟩,
          ⟨(some 48), none, (.p (.bin .lss (.t 45) (.t 47))), false, []⟩] (some ⟨[0, 1, 2, 9, 48], [], false⟩))
        (.cond (.t 48)
         (.region 0 [⟨(some 49), none, (.p (.mv (.t 9))), false, []⟩,
           ⟨(some 50), none, (.p (.un .neg (.t 49))), false, []⟩,
           ⟨(some 9), none, (.p (.mv (.t 50))), false, []⟩] (some ⟨[0, 1, 2, 9], [], false⟩))
         .skip))
       (.seq
        (.seq
         (.region 0 [⟨(some 51), none, (.p (.mv (.t 9))), false, []⟩,
           ⟨(some 52), none, (.p (.mv (.t 1))), false, []⟩,
           ⟨(some 53), none, (.p (.bin .lss (.t 51) (.t 52))), false, []⟩,
           ⟨(some 54), none, (.p (.mv (.t 53))), false, []⟩,
           ⟨(some 55), (some (54, false)), (.p (.mv (.t 9))), false, []⟩,
           ⟨(some 56), (some (54, false)), (.p (.mv (.t 2))), false, []⟩,
           ⟨(some 57), (some (54, false)), (.p (.bin .gtr (.t 55) (.t 56))), false, []⟩,
           ⟨(some 58), none, (.p (.pick (.t 54) (.c (.bool true)) (.t 57))), false, []⟩,
           ⟨(some 59), none, (.p (.mv (.t 58))), false, []⟩,
           ⟨(some 60), (some (59, false)), (.p (.mv (.t 9))), false, []⟩,
           ⟨(some 61), (some (59, false)), (.call 49 [(.t 60)] false), false, []⟩,
           ⟨(some 62), (some (59, false)), (.p (.mv (.t 0))), false, []⟩,
           ⟨(some 63), (some (59, false)), (.p (.bin .neq (.t 61) (.t 62))), false, []⟩,
           ⟨(some 64), none, (.p (.pick (.t 59) (.c (.bool true)) (.t 63))), false, []⟩] (some ⟨[9, 64], [], false⟩))
         (.cond (.t 64)
          (.seq
           (.region 0 [⟨(some 6), none, (.p (.mv (.c (.int .i64 0)))), false, []⟩,
             ⟨(some 7), none, (.p (.mv (.c (.bool false)))), false, []⟩] (some ⟨[6, 7], [], false⟩))
           .ret)
          .skip))
        (.seq
         (.region 0 [⟨(some 65), none, (.p (.mv (.t 9))), false, []⟩,
           ⟨(some 6), none, (.p (.mv (.t 65))), false, []⟩,
           ⟨(some 7), none, (.p (.mv (.c (.bool true)))), false, []⟩] (some ⟨[6, 7], [], false⟩))
         .ret))))))))
theorem Tryd.run53 {xs : List AV} {r : AV} (hl : xs.length ≤ 66) (h : aw Tryd.prog Tryd.c53 (Pv.Ends [6, 7] r) (entry xs)) : Run Tryd.prog 53 xs r :=
  run_of (fun _ _ => drawOk Tryd.mixed) Tryd.func53 rfl rfl rfl (by kernel_rfl) (by kernel_rfl) hl h
/-! 54 paling/num.write[int] : params [40, 63], results [9], free 0, zeros [(.slice none 0 0), .nilFunc] -/
def Tryd.c54b0 : AC :=
 (.seq
  (.region 0 [⟨(some 11), none, (.p (.bin .lss (.t 10) (.t 9))), false, []⟩] (some ⟨[1, 5, 8, 9, 10, 11], [], false⟩))
  (.seq
   (.cond (.t 11)
    .skip
    (.exit 0))
   (.seq
    (.block 1
     (.seq
      (.region 0 [⟨(some 12), none, (.p (.iaddr 1 (.t 8) (.t 10))), false, []⟩,
        ⟨(some 13), none, (.r (.load 1 false (.t 12))), false, []⟩,
        ⟨(some 7), none, (.p (.mv (.t 13))), false, []⟩] (some ⟨[1, 5, 7, 8, 9, 10], [], false⟩))
      (.region 0 [⟨(some 14), none, (.p (.mv (.t 5))), false, []⟩,
        ⟨(some 15), none, (.p (.mv (.t 1))), false, []⟩,
        ⟨(some 16), none, (.p (.mv (.t 7))), false, []⟩,
        ⟨(some 17), none, (.callv (.t 15) [(.t 16)]), false, []⟩,
        ⟨(some 18), none, (.e (.mks 9 1 (.str []) 1 [(0, (.t 17))]) none), false, []⟩,
        ⟨(some 19), none, (.e (.append 9 1 1000000000 (.t 14) (.t 18)) none), false, []⟩,
        ⟨(some 5), none, (.p (.mv (.t 19))), false, []⟩] (some ⟨[1, 5, 8, 9, 10], [], false⟩))))
    (.region 0 [⟨(some 20), none, (.p (.bin .add (.t 10) (.c (.int .i64 1)))), false, []⟩,
      ⟨(some 10), none, (.p (.mv (.t 20))), false, []⟩] (some ⟨[1, 5, 8, 9, 10], [], false⟩)))))
def Tryd.c54 : AC :=
 (.seq
  (.region 0 [⟨(some 4), none, (.p (.mv (.c (.str [])))), false, []⟩] (some ⟨[0, 1], [], false⟩))
  (.seq
   (.region 0 [⟨(some 5), none, (.p (.mv (.c (.sl 0 [] true)))), false, []⟩] (some ⟨[0, 1, 5], [], false⟩))
   (.seq
    (.seq
     (.region 0 [⟨(some 8), none, (.p (.mv (.t 0))), false, []⟩,
       ⟨(some 9), none, (.p (.len (.t 8))), false, []⟩,
       ⟨(some 10), none, (.p (.mv (.c (.int .i64 0)))), false, []⟩] (some ⟨[1, 5, 8, 9, 10], [], false⟩))
     (.block 0
      (.loop (some ⟨[1, 5, 8, 9, 10], [(5, (1, 9))], true⟩) Tryd.c54b0)))
    (.seq
     (.region 0 [⟨(some 21), none, (.p (.mv (.t 5))), false, []⟩,
       ⟨(some 22), none, (.call 63 [(.t 21), (.c (.str [44]))] false), false, []⟩,
       ⟨(some 4), none, (.p (.mv (.t 22))), false, []⟩] (some ⟨[4], [], false⟩))
     .ret))))
theorem Tryd.run54 {xs : List AV} {r : AV} (hl : xs.length ≤ 23) (h : aw Tryd.prog Tryd.c54 (Pv.Ends [4] r) (entry xs)) : Run Tryd.prog 54 xs r :=
  run_of (fun _ _ => drawOk Tryd.mixed) Tryd.func54 rfl rfl rfl (by kernel_rfl) (by kernel_rfl) hl h
/-! 55 paling/num.read[uint32] : params [9, 27], results [39, 4], free 0, zeros [(.string ⟨#[]⟩), .nilFunc] -/
def Tryd.c55b0 : AC :=
 (.seq
  (.seq
   (.region 0 [⟨(some 11), none, (.p (.mv (.t 7))), false, []⟩] (some ⟨[0, 1, 6, 11], [], false⟩))
   (.cond (.t 11)
    .skip
    (.exit 0)))
  (.block 1
   (.seq
    (.region 0 [⟨(some 8), none, (.p (.mv (.c (.str [])))), false, []⟩] (some ⟨[0, 1, 6], [], false⟩))
    (.seq
     (.region 0 [⟨(some 13), none, (.p (.mv (.t 0))), false, []⟩,
       ⟨(some 14), none, (.call 44 [(.t 13), (.c (.str [44]))] false), false, []⟩,
       ⟨(some 12), none, (.p (.mv (.t 14))), false, []⟩,
       ⟨(some 15), none, (.p (.ext (.t 12) 0)), false, []⟩,
       ⟨(some 16), none, (.p (.ext (.t 12) 1)), false, []⟩,
       ⟨(some 17), none, (.p (.ext (.t 12) 2)), false, []⟩,
       ⟨(some 8), none, (.p (.mv (.t 15))), false, []⟩,
       ⟨(some 0), none, (.p (.mv (.t 16))), false, []⟩,
       ⟨(some 7), none, (.p (.mv (.t 17))), false, []⟩] (some ⟨[0, 1, 6, 7, 8], [], false⟩))
     (.seq
      (.region 0 [⟨(some 19), none, (.p (.mv (.t 1))), false, []⟩,
        ⟨(some 20), none, (.p (.mv (.t 8))), false, []⟩,
        ⟨(some 21), none, (.callv (.t 19) [(.t 20)]), false, []⟩,
        ⟨(some 18), none, (.p (.mv (.t 21))), false, []⟩,
        ⟨(some 22), none, (.p (.ext (.t 18) 0)), false, []⟩,
        ⟨(some 23), none, (.p (.ext (.t 18) 1)), false, []⟩,
        ⟨(some 9), none, (.p (.mv (.t 22))), false, []⟩,
        ⟨(some 10), none, (.p (.mv (.t 23))), false, []⟩] (some ⟨[0, 1, 6, 7, 9, 10], [], false⟩))
      (.seq
       (.seq
        (.region 0 [⟨(some 24), none, (.p (.mv (.t 10))), false, []⟩,
          ⟨(some 25), none, (.p (.un .not (.t 24))), false, []⟩,
          ⟨(some 26), none, (.p (.mv (.t 25))), false, []⟩,
          ⟨(some 27), (some (26, false)), (.p (.mv (.t 6))), false, []⟩,
          ⟨(some 28), (some (26, false)), (.p (.len (.t 27))), false, []⟩,
          ⟨(some 29), (some (26, false)), (.p (.bin .eql (.t 28) (.c (.int .i64 16)))), false, []⟩,
          ⟨(some 30), none, (.p (.pick (.t 26) (.c (.bool true)) (.t 29))), false, []⟩,
          ⟨(some 31), none, (.p (.mv (.t 30))), false, []⟩,
          ⟨(some 32), (some (31, false)), (.p (.mv (.t 6))), false, []⟩,
          ⟨(some 33), (some (31, false)), (.p (.len (.t 32))), false, []⟩,
          ⟨(some 34), (some (31, false)), (.p (.bin .gtr (.t 33) (.c (.int .i64 0)))), false, []⟩,
          ⟨(some 35), (some (31, false)), (.p (.mv (.t 34))), false, []⟩,
          ⟨(some 36), (some (35, true)), (.p (.mv (.t 6))), false, []⟩,
          ⟨(some 37), (some (35, true)), (.p (.mv (.t 6))), false, []⟩,
          ⟨(some 38), (some (35, true)), (.p (.len (.t 37))), false, []⟩,
          ⟨(some 39), (some (35, true)), (.p (.bin .sub (.t 38) (.c (.int .i64 1)))), false, []⟩,
          ⟨(some 40), (some (35, true)), (.p (.iaddr 1 (.t 36) (.t 39))), false, []⟩,
          ⟨(some 41), (some (35, true)), (.r (.load 1 false (.t 40))), false, []⟩,
          ⟨(some 42), (some (35, true)), (.p (.mv (.t 9))), false, []⟩,
          ⟨(some 43), (some (35, true)), (.p (.bin .geq (.t 41) (.t 42))), false, []⟩,
          ⟨(some 44), (some (31, false)), (.p (.pick (.t 35) (.t 43) (.c (.bool false)))), false, []⟩,
          ⟨(some 45), none, (.p (.pick (.t 31) (.c (.bool true)) (.t 44))), false, []⟩] (some ⟨[0, 1, 6, 7, 9, 45], [], false⟩))
        (.cond (.t 45)
         (.seq
          (.region 0 [⟨(some 4), none, (.p (.mv (.c (.sl 0 [] true)))), false, []⟩,
            ⟨(some 5), none, (.p (.mv (.c (.bool false)))), false, []⟩] (some ⟨[4, 5], [], false⟩))
          .ret)
         .skip))
       (.region 0 [⟨(some 46), none, (.p (.mv (.t 6))), false, []⟩,
         ⟨(some 47), none, (.p (.mv (.t 9))), false, []⟩,
         ⟨(some 48), none, (.e (.mks 22 1 (.int .u32 0) 1 [(0, (.t 47))]) none), false, []⟩,
         ⟨(some 49), none, (.e (.append 22 1 1000000000 (.t 46) (.t 48)) none), false, []⟩,
         ⟨(some 6), none, (.p (.mv (.t 49))), false, []⟩] (some ⟨[0, 1, 6, 7], [], false⟩))))))))
def Tryd.c55 : AC :=
 (.seq
  (.region 0 [⟨(some 4), none, (.p (.mv (.c (.sl 0 [] true)))), false, []⟩,
    ⟨(some 5), none, (.p (.mv (.c (.bool false)))), false, []⟩] (some ⟨[0, 1], [], false⟩))
  (.seq
   (.region 0 [⟨(some 6), none, (.p (.mv (.c (.sl 0 [] true)))), false, []⟩] (some ⟨[0, 1, 6], [], false⟩))
   (.seq
    (.seq
     (.region 0 [⟨(some 7), none, (.p (.mv (.c (.bool true)))), false, []⟩] (some ⟨[0, 1, 6, 7], [], false⟩))
     (.block 0
      (.loop (some ⟨[0, 1, 6, 7], [(6, (1, 22))], true⟩) Tryd.c55b0)))
    (.seq
     (.region 0 [⟨(some 50), none, (.p (.mv (.t 6))), false, []⟩,
       ⟨(some 4), none, (.p (.mv (.t 50))), false, []⟩,
       ⟨(some 5), none, (.p (.mv (.c (.bool true)))), false, []⟩] (some ⟨[4, 5], [], false⟩))
     .ret))))
theorem Tryd.run55 {xs : List AV} {r : AV} (hl : xs.length ≤ 51) (h : aw Tryd.prog Tryd.c55 (Pv.Ends [4, 5] r) (entry xs)) : Run Tryd.prog 55 xs r :=
  run_of (fun _ _ => drawOk Tryd.mixed) Tryd.func55 rfl rfl rfl (by kernel_rfl) (by kernel_rfl) hl h
/-! 56 paling/num.write[uint32] : params [39, 30], results [9], free 0, zeros [(.slice none 0 0), .nilFunc] -/
def Tryd.c56b0 : AC :=
 (.seq
  (.region 0 [⟨(some 11), none, (.p (.bin .lss (.t 10) (.t 9))), false, []⟩] (some ⟨[1, 5, 8, 9, 10, 11], [], false⟩))
  (.seq
   (.cond (.t 11)
    .skip
    (.exit 0))
   (.seq
    (.block 1
     (.seq
      (.region 0 [⟨(some 12), none, (.p (.iaddr 1 (.t 8) (.t 10))), false, []⟩,
        ⟨(some 13), none, (.r (.load 1 false (.t 12))), false, []⟩,
        ⟨(some 7), none, (.p (.mv (.t 13))), false, []⟩] (some ⟨[1, 5, 7, 8, 9, 10], [], false⟩))
      (.region 0 [⟨(some 14), none, (.p (.mv (.t 5))), false, []⟩,
        ⟨(some 15), none, (.p (.mv (.t 1))), false, []⟩,
        ⟨(some 16), none, (.p (.mv (.t 7))), false, []⟩,
        ⟨(some 17), none, (.callv (.t 15) [(.t 16)]), false, []⟩,
        ⟨(some 18), none, (.e (.mks 9 1 (.str []) 1 [(0, (.t 17))]) none), false, []⟩,
        ⟨(some 19), none, (.e (.append 9 1 1000000000 (.t 14) (.t 18)) none), false, []⟩,
        ⟨(some 5), none, (.p (.mv (.t 19))), false, []⟩] (some ⟨[1, 5, 8, 9, 10], [], false⟩))))
    (.region 0 [⟨(some 20), none, (.p (.bin .add (.t 10) (.c (.int .i64 1)))), false, []⟩,
      ⟨(some 10), none, (.p (.mv (.t 20))), false, []⟩] (some ⟨[1, 5, 8, 9, 10], [], false⟩)))))
def Tryd.c56 : AC :=
 (.seq
  (.region 0 [⟨(some 4), none, (.p (.mv (.c (.str [])))), false, []⟩] (some ⟨[0, 1], [], false⟩))
  (.seq
   (.region 0 [⟨(some 5), none, (.p (.mv (.c (.sl 0 [] true)))), false, []⟩] (some ⟨[0, 1, 5], [], false⟩))
   (.seq
    (.seq
     (.region 0 [⟨(some 8), none, (.p (.mv (.t 0))), false, []⟩,
       ⟨(some 9), none, (.p (.len (.t 8))), false, []⟩,
       ⟨(some 10), none, (.p (.mv (.c (.int .i64 0)))), false, []⟩] (some ⟨[1, 5, 8, 9, 10], [], false⟩))
     (.block 0
      (.loop (some ⟨[1, 5, 8, 9, 10], [(5, (1, 9))], true⟩) Tryd.c56b0)))
    (.seq
     (.region 0 [⟨(some 21), none, (.p (.mv (.t 5))), false, []⟩,
       ⟨(some 22), none, (.call 63 [(.t 21), (.c (.str [44]))] false), false, []⟩,
       ⟨(some 4), none, (.p (.mv (.t 22))), false, []⟩] (some ⟨[4], [], false⟩))
     .ret))))
theorem Tryd.run56 {xs : List AV} {r : AV} (hl : xs.length ≤ 23) (h : aw Tryd.prog Tryd.c56 (Pv.Ends [4] r) (entry xs)) : Run Tryd.prog 56 xs r :=
  run_of (fun _ _ => drawOk Tryd.mixed) Tryd.func56 rfl rfl rfl (by kernel_rfl) (by kernel_rfl) hl h
/-! 61 internal/stringslite.Cut : params [9, 9], results [9, 9, 4], free 0, zeros [(.string ⟨#[]⟩), (.string ⟨#[]⟩)] -/
def Tryd.c61 : AC :=
 (.seq
  (.region 0 [⟨(some 4), none, (.p (.mv (.c (.str [])))), false, []⟩,
    ⟨(some 5), none, (.p (.mv (.c (.str [])))), false, []⟩,
    ⟨(some 6), none, (.p (.mv (.c (.bool false)))), false, []⟩] (some ⟨[0, 1], [], false⟩))
  (.seq
   (.seq
    (.region 0 [⟨(some 8), none, (.p (.mv (.t 0))), false, []⟩,
      ⟨(some 9), none, (.p (.mv (.t 1))), false, []⟩,
      ⟨(some 10), none, (.call 68 [(.t 8), (.t 9)] false), false, []⟩,
      ⟨(some 7), none, (.p (.mv (.t 10))), false, []⟩] (some ⟨[0, 1, 7], [], false⟩))
    (.seq
     (.region 0 [⟨(some 11), none, (.p (.mv (.t 7))), false, []⟩,
       ⟨(some 12), none, (.p (.bin .geq (.t 11) (.c (.int .i64 0)))), false, []⟩] (some ⟨[0, 1, 7, 12], [], false⟩))
     (.cond (.t 12)
      (.seq
       (.region 12 [⟨(some 13), none, (.p (.mv (.t 0))), false, []⟩,
         ⟨(some 14), none, (.p (.mv (.t 7))), false, []⟩,
         ⟨(some 15), none, (.p (.slices (.t 13) none (some (.t 14)))), false, []⟩,
         ⟨(some 16), none, (.p (.mv (.t 0))), false, []⟩,
         ⟨(some 17), none, (.p (.mv (.t 7))), false, []⟩,
         ⟨(some 18), none, (.p (.mv (.t 1))), false, []⟩,
         ⟨(some 19), none, (.p (.lenS (.t 18))), false, []⟩,
         ⟨(some 20), none, (.p (.bin .add (.t 17) (.t 19))), false, []⟩,
         ⟨(some 21), none, (.p (.slices (.t 16) (some (.t 20)) none)), false, []⟩,
         ⟨(some 4), none, (.p (.mv (.t 15))), false, []⟩,
         ⟨(some 5), none, (.p (.mv (.t 21))), false, []⟩,
         ⟨(some 6), none, (.p (.mv (.c (.bool true)))), false, []⟩] (some ⟨[4, 5, 6], [], true⟩))
       .ret)
      .skip)))
   (.seq
    (.region 0 [⟨(some 22), none, (.p (.mv (.t 0))), false, []⟩,
      ⟨(some 4), none, (.p (.mv (.t 22))), false, []⟩,
      ⟨(some 5), none, (.p (.mv (.c (.str [])))), false, []⟩,
      ⟨(some 6), none, (.p (.mv (.c (.bool false)))), false, []⟩] (some ⟨[4, 5, 6], [], false⟩))
    .ret)))
theorem Tryd.run61 {xs : List AV} {r : AV} (hl : xs.length ≤ 23) (h : aw Tryd.prog Tryd.c61 (Pv.Ends [4, 5, 6] r) (entry xs)) : Run Tryd.prog 61 xs r :=
  run_of (fun _ _ => drawOk Tryd.mixed) Tryd.func61 rfl rfl rfl (by kernel_rfl) (by kernel_rfl) hl h
/-! 62 strings.TrimPrefix : params [9, 9], results [9], free 0, zeros [(.string ⟨#[]⟩), (.string ⟨#[]⟩)] -/
def Tryd.c62 : AC :=
 (.seq
  (.region 0 [⟨(some 4), none, (.p (.mv (.c (.str [])))), false, []⟩] (some ⟨[0, 1], [], false⟩))
  (.seq
   (.region 0 [⟨(some 5), none, (.p (.mv (.t 0))), false, []⟩,
     ⟨(some 6), none, (.p (.mv (.t 1))), false, []⟩,
     ⟨(some 7), none, (.call 69 [(.t 5), (.t 6)] false), false, []⟩,
     ⟨(some 4), none, (.p (.mv (.t 7))), false, []⟩] (some ⟨[4], [], false⟩))
   .ret))
theorem Tryd.run62 {xs : List AV} {r : AV} (hl : xs.length ≤ 8) (h : aw Tryd.prog Tryd.c62 (Pv.Ends [4] r) (entry xs)) : Run Tryd.prog 62 xs r :=
  run_of (fun _ _ => drawOk Tryd.mixed) Tryd.func62 rfl rfl rfl (by kernel_rfl) (by kernel_rfl) hl h
/-! 67 strings.Index : params [9, 9], results [3], free 0, zeros [(.string ⟨#[]⟩), (.string ⟨#[]⟩)] -/
def Tryd.c67 : AC :=
 (.seq
  (.region 0 [⟨(some 4), none, (.p (.mv (.c (.int .i64 0)))), false, []⟩] (some ⟨[0, 1], [], false⟩))
  (.seq
   (.region 0 [⟨(some 5), none, (.p (.mv (.t 0))), false, []⟩,
     ⟨(some 6), none, (.p (.mv (.t 1))), false, []⟩,
     ⟨(some 7), none, (.call 68 [(.t 5), (.t 6)] false), false, []⟩,
     ⟨(some 4), none, (.p (.mv (.t 7))), false, []⟩] (some ⟨[4], [], false⟩))
   .ret))
theorem Tryd.run67 {xs : List AV} {r : AV} (hl : xs.length ≤ 8) (h : aw Tryd.prog Tryd.c67 (Pv.Ends [4] r) (entry xs)) : Run Tryd.prog 67 xs r :=
  run_of (fun _ _ => drawOk Tryd.mixed) Tryd.func67 rfl rfl rfl (by kernel_rfl) (by kernel_rfl) hl h
/-! 68 internal/stringslite.Index : params [9, 9], results [3], free 0, zeros [(.string ⟨#[]⟩), (.string ⟨#[]⟩)] -/
def Tryd.c68b0 : AC :=
 (.seq
  (.seq
   (.region 0 [⟨(some 57), none, (.p (.mv (.t 8))), false, []⟩,
     ⟨(some 58), none, (.p (.mv (.t 9))), false, []⟩,
     ⟨(some 59), none, (.p (.bin .lss (.t 57) (.t 58))), false, []⟩] (some ⟨[0, 1, 5, 6, 7, 8, 9, 10, 59], [], false⟩))
   (.cond (.t 59)
    .skip
    (.exit 1)))
  (.block 2
   (.seq
    (.seq
     (.region 0 [⟨(some 60), none, (.p (.mv (.t 0))), false, []⟩,
       ⟨(some 61), none, (.p (.mv (.t 8))), false, []⟩,
       ⟨(some 62), none, (.p (.idxs (.t 60) (.t 61))), false, []⟩,
       ⟨(some 63), none, (.p (.mv (.t 6))), false, []⟩,
       ⟨(some 64), none, (.p (.bin .neq (.t 62) (.t 63))), false, []⟩] (some ⟨[0, 1, 5, 6, 7, 8, 9, 10, 64], [], false⟩))
     (.cond (.t 64)
      (.seq
       (.region 0 [⟨(some 65), none, (.p (.mv (.t 0))), false, []⟩,
         ⟨(some 66), none, (.p (.mv (.t 8))), false, []⟩,
         ⟨(some 67), none, (.p (.bin .add (.t 66) (.c (.int .i64 1)))), false, []⟩,
         ⟨(some 68), none, (.p (.mv (.t 9))), false, []⟩,
         ⟨(some 69), none, (.p (.slices (.t 65) (some (.t 67)) (some (.t 68)))), false, []⟩,
         ⟨(some 70), none, (.p (.mv (.t 6))), false, []⟩,
         ⟨(some 71), none, (.call 74 [(.t 69), (.t 70)] false), false, []⟩,
         ⟨(some 11), none, (.p (.mv (.t 71))), false, []⟩] (some ⟨[0, 1, 5, 6, 7, 8, 9, 10, 11], [], false⟩))
       (.seq
        (.seq
         (.region 0 [⟨(some 72), none, (.p (.mv (.t 11))), false, []⟩,
           ⟨(some 73), none, (.p (.bin .lss (.t 72) (.c (.int .i64 0)))), false, []⟩] (some ⟨[0, 1, 5, 6, 7, 8, 9, 10, 11, 73], [], false⟩))
         (.cond (.t 73)
          (.seq
           (.region 0 [⟨(some 4), none, (.p (.mv (.c (.int .i64 (-1))))), false, []⟩] (some ⟨[4], [], false⟩))
           .ret)
          .skip))
        (.region 0 [⟨(some 74), none, (.p (.mv (.t 8))), false, []⟩,
          ⟨(some 75), none, (.p (.mv (.t 11))), false, []⟩,
          ⟨(some 76), none, (.p (.bin .add (.t 75) (.c (.int .i64 1)))), false, []⟩,
          ⟨(some 77), none, (.p (.bin .add (.t 74) (.t 76))), false, []⟩,
          ⟨(some 8), none, (.p (.mv (.t 77))), false, []⟩] (some ⟨[0, 1, 5, 6, 7, 8, 9, 10], [], false⟩))))
      .skip))
    (.seq
     (.seq
      (.region 0 [⟨(some 78), none, (.p (.mv (.t 0))), false, []⟩,
        ⟨(some 79), none, (.p (.mv (.t 8))), false, []⟩,
        ⟨(some 80), none, (.p (.bin .add (.t 79) (.c (.int .i64 1)))), false, []⟩,
        ⟨(some 81), none, (.p (.idxs (.t 78) (.t 80))), false, []⟩,
        ⟨(some 82), none, (.p (.mv (.t 7))), false, []⟩,
        ⟨(some 83), none, (.p (.bin .eql (.t 81) (.t 82))), false, []⟩,
        ⟨(some 84), none, (.p (.mv (.t 83))), false, []⟩,
        ⟨(some 85), (some (84, true)), (.p (.mv (.t 0))), false, []⟩,
        ⟨(some 86), (some (84, true)), (.p (.mv (.t 8))), false, []⟩,
        ⟨(some 87), (some (84, true)), (.p (.mv (.t 8))), false, []⟩,
        ⟨(some 88), (some (84, true)), (.p (.mv (.t 5))), false, []⟩,
        ⟨(some 89), (some (84, true)), (.p (.bin .add (.t 87) (.t 88))), false, []⟩,
        ⟨(some 90), (some (84, true)), (.p (.slices (.t 85) (some (.t 86)) (some (.t 89)))), false, []⟩,
        ⟨(some 91), (some (84, true)), (.p (.mv (.t 1))), false, []⟩,
        ⟨(some 92), (some (84, true)), (.p (.bin .eql (.t 90) (.t 91))), false, []⟩,
        ⟨(some 93), none, (.p (.pick (.t 84) (.t 92) (.c (.bool false)))), false, []⟩] (some ⟨[0, 1, 5, 6, 7, 8, 9, 10, 93], [], false⟩))
      (.cond (.t 93)
       (.seq
        (.region 0 [⟨(some 94), none, (.p (.mv (.t 8))), false, []⟩,
          ⟨(some 4), none, (.p (.mv (.t 94))), false, []⟩] (some ⟨[4], [], false⟩))
        .ret)
       .skip))
     (.seq
      (.region 0 [⟨(some 95), none, (.p (.mv (.t 8))), false, []⟩,
        ⟨(some 96), none, (.p (.bin .add (.t 95) (.c (.int .i64 1)))), false, []⟩,
        ⟨(some 8), none, (.p (.mv (.t 96))), false, []⟩] (some ⟨[0, 1, 5, 6, 7, 8, 9, 10], [], false⟩))
      (.seq
       (.region 0 [⟨(some 97), none, (.p (.mv (.t 10))), false, []⟩,
         ⟨(some 98), none, (.p (.bin .add (.t 97) (.c (.int .i64 1)))), false, []⟩,
         ⟨(some 10), none, (.p (.mv (.t 98))), false, []⟩] (some ⟨[0, 1, 5, 6, 7, 8, 9, 10], [], false⟩))
       (.seq
        (.region 0 [⟨(some 99), none, (.p (.mv (.t 5))), false, []⟩,
          ⟨(some 100), none, (.r (.load 1 false (.c (.lit (.pointer (some ⟨0, 0, none⟩)))))), false, []⟩,
          ⟨(some 101), none, (.p (.bin .leq (.t 99) (.t 100))), false, []⟩,
          ⟨(some 102), none, (.p (.mv (.t 101))), false, []⟩,
          ⟨(some 103), (some (102, true)), (.p (.mv (.t 10))), false, []⟩,
          ⟨(some 104), (some (102, true)), (.p (.mv (.t 8))), false, []⟩,
          ⟨(some 105), (some (102, true)), (.call 76 [(.t 104)] false), false, []⟩,
          ⟨(some 106), (some (102, true)), (.p (.bin .gtr (.t 103) (.t 105))), false, []⟩,
          ⟨(some 107), none, (.p (.pick (.t 102) (.t 106) (.c (.bool false)))), false, []⟩] (some ⟨[0, 1, 5, 6, 7, 8, 9, 10, 107], [], false⟩))
        (.cond (.t 107)
         (.seq
          (.region 0 [⟨(some 108), none, (.p (.mv (.t 0))), false, []⟩,
            ⟨(some 109), none, (.p (.mv (.t 8))), false, []⟩,
            ⟨(some 110), none, (.p (.slices (.t 108) (some (.t 109)) none)), false, []⟩,
            ⟨(some 111), none, (.p (.mv (.t 1))), false, []⟩,
            ⟨(some 112), none, (.call 75 [(.t 110), (.t 111)] false), false, []⟩,
            ⟨(some 12), none, (.p (.mv (.t 112))), false, []⟩] (some ⟨[8, 12], [], false⟩))
          (.seq
           (.seq
            (.region 0 [⟨(some 113), none, (.p (.mv (.t 12))), false, []⟩,
              ⟨(some 114), none, (.p (.bin .geq (.t 113) (.c (.int .i64 0)))), false, []⟩] (some ⟨[8, 12, 114], [], false⟩))
            (.cond (.t 114)
             (.seq
              (.region 0 [⟨(some 115), none, (.p (.mv (.t 12))), false, []⟩,
                ⟨(some 116), none, (.p (.mv (.t 8))), false, []⟩,
                ⟨(some 117), none, (.p (.bin .add (.t 115) (.t 116))), false, []⟩,
                ⟨(some 4), none, (.p (.mv (.t 117))), false, []⟩] (some ⟨[4], [], false⟩))
              .ret)
             .skip))
           (.seq
            (.region 0 [⟨(some 4), none, (.p (.mv (.c (.int .i64 (-1))))), false, []⟩] (some ⟨[4], [], false⟩))
            .ret)))
         (.seq
          (.region 0 [⟨(some 118), none, (.p (.mv (.t 5))), false, []⟩,
            ⟨(some 119), none, (.r (.load 1 false (.c (.lit (.pointer (some ⟨0, 0, none⟩)))))), false, []⟩,
            ⟨(some 120), none, (.p (.bin .gtr (.t 118) (.t 119))), false, []⟩,
            ⟨(some 121), none, (.p (.mv (.t 120))), false, []⟩,
            ⟨(some 122), (some (121, true)), (.p (.mv (.t 10))), false, []⟩,
            ⟨(some 123), (some (121, true)), (.p (.mv (.t 8))), false, []⟩,
            ⟨(some 124), (some (121, true)), (.p (.bin .shr (.t 123) (.c (.int .u64 4)))), false, []⟩,
            ⟨(some 125), (some (121, true)), (.p (.bin .add (.c (.int .i64 4)) (.t 124))), false, []⟩,
            ⟨(some 126), (some (121, true)), (.p (.bin .geq (.t 122) (.t 125))), false, []⟩,
            ⟨(some 127), none, (.p (.pick (.t 121) (.t 126) (.c (.bool false)))), false, []⟩,
            ⟨(some 128), none, (.p (.mv (.t 127))), false, []⟩,
            ⟨(some 129), (some (128, true)), (.p (.mv (.t 8))), false, []⟩,
            ⟨(some 130), (some (128, true)), (.p (.mv (.t 9))), false, []⟩,
            ⟨(some 131), (some (128, true)), (.p (.bin .lss (.t 129) (.t 130))), false, []⟩,
            ⟨(some 132), none, (.p (.pick (.t 128) (.t 131) (.c (.bool false)))), false, []⟩] (some ⟨[0, 1, 5, 6, 7, 8, 9, 10, 132], [], false⟩))
          (.cond (.t 132)
           (.seq
            (.region 0 [⟨(some 133), none, (.p (.mv (.t 0))), false, []⟩,
              ⟨(some 134), none, (.p (.mv (.t 8))), false, []⟩,
              ⟨(some 135), none, (.p (.slices (.t 133) (some (.t 134)) none)), false, []⟩,
              ⟨(some 136), none, (.p (.mv (.t 1))), false, []⟩,
              ⟨(some 137), none, (.call 77 [(.t 135), (.t 136)] false), false, []⟩,
              ⟨(some 13), none, (.p (.mv (.t 137))), false, []⟩] (some ⟨[8, 13], [], false⟩))
            (.seq
             (.seq
              (.region 0 [⟨(some 138), none, (.p (.mv (.t 13))), false, []⟩,
                ⟨(some 139), none, (.p (.bin .lss (.t 138) (.c (.int .i64 0)))), false, []⟩] (some ⟨[8, 13, 139], [], false⟩))
              (.cond (.t 139)
               (.seq
                (.region 0 [⟨(some 4), none, (.p (.mv (.c (.int .i64 (-1))))), false, []⟩] (some ⟨[4], [], false⟩))
                .ret)
               .skip))
             (.seq
              (.region 0 [⟨(some 140), none, (.p (.mv (.t 8))), false, []⟩,
                ⟨(some 141), none, (.p (.mv (.t 13))), false, []⟩,
                ⟨(some 142), none, (.p (.bin .add (.t 140) (.t 141))), false, []⟩,
                ⟨(some 4), none, (.p (.mv (.t 142))), false, []⟩] (some ⟨[4], [], false⟩))
              .ret)))
           .skip))))))))))
def Tryd.c68 : AC :=
 (.seq
  (.region 0 [⟨(some 4), none, (.p (.mv (.c (.int .i64 0)))), false, []⟩] (some ⟨[0, 1], [], false⟩))
  (.seq
   (.region 0 [⟨(some 14), none, (.p (.mv (.t 1))), false, []⟩,
     ⟨(some 15), none, (.p (.lenS (.t 14))), false, []⟩,
     ⟨(some 5), none, (.p (.mv (.t 15))), false, []⟩] (some ⟨[0, 1, 5], [], false⟩))
   (.seq
    (.block 0
     (.seq
      (.region 0 [⟨(some 17), none, (.p (.mv (.t 5))), false, []⟩,
        ⟨(some 18), none, (.p (.bin .eql (.t 17) (.c (.int .i64 0)))), false, []⟩,
        ⟨(some 19), none, (.p (.mv (.t 18))), false, []⟩,
        ⟨(some 20), (some (19, false)), (.p (.mv (.t 1))), false, []⟩,
        ⟨(some 21), (some (19, false)), (.p (.mv (.t 0))), false, []⟩,
        ⟨(some 22), (some (19, false)), (.p (.bin .eql (.t 20) (.t 21))), false, []⟩,
        ⟨(some 23), none, (.p (.pick (.t 19) (.c (.bool true)) (.t 22))), false, []⟩,
        ⟨(some 16), none, (.p (.mv (.t 23))), false, []⟩] (some ⟨[0, 1, 5, 16], [], false⟩))
      (.cond (.t 16)
       (.seq
        (.region 0 [⟨(some 4), none, (.p (.mv (.c (.int .i64 0)))), false, []⟩] (some ⟨[4], [], false⟩))
        .ret)
       (.seq
        (.region 0 [⟨(some 25), none, (.p (.mv (.t 5))), false, []⟩,
          ⟨(some 26), none, (.p (.bin .eql (.t 25) (.c (.int .i64 1)))), false, []⟩,
          ⟨(some 24), none, (.p (.mv (.t 26))), false, []⟩] (some ⟨[0, 1, 5, 24], [], false⟩))
        (.cond (.t 24)
         (.seq
          (.region 0 [⟨(some 27), none, (.p (.mv (.t 0))), false, []⟩,
            ⟨(some 28), none, (.p (.mv (.t 1))), false, []⟩,
            ⟨(some 29), none, (.p (.idxs (.t 28) (.c (.int .i64 0)))), false, []⟩,
            ⟨(some 30), none, (.call 74 [(.t 27), (.t 29)] false), false, []⟩,
            ⟨(some 4), none, (.p (.mv (.t 30))), false, []⟩] (some ⟨[4], [], false⟩))
          .ret)
         (.seq
          (.region 0 [⟨(some 32), none, (.p (.mv (.t 5))), false, []⟩,
            ⟨(some 33), none, (.p (.mv (.t 0))), false, []⟩,
            ⟨(some 34), none, (.p (.lenS (.t 33))), false, []⟩,
            ⟨(some 35), none, (.p (.bin .geq (.t 32) (.t 34))), false, []⟩,
            ⟨(some 31), none, (.p (.mv (.t 35))), false, []⟩] (some ⟨[0, 1, 5, 31], [], false⟩))
          (.cond (.t 31)
           (.seq
            (.region 0 [⟨(some 4), none, (.p (.mv (.c (.int .i64 (-1))))), false, []⟩] (some ⟨[4], [], false⟩))
            .ret)
           (.seq
            (.region 0 [⟨(some 37), none, (.p (.mv (.t 5))), false, []⟩,
              ⟨(some 38), none, (.r (.load 1 false (.c (.lit (.pointer (some ⟨0, 0, none⟩)))))), false, []⟩,
              ⟨(some 39), none, (.p (.bin .leq (.t 37) (.t 38))), false, []⟩,
              ⟨(some 40), none, (.p (.mv (.t 39))), false, []⟩,
              ⟨(some 41), (some (40, true)), (.p (.mv (.t 0))), false, []⟩,
              ⟨(some 42), (some (40, true)), (.p (.lenS (.t 41))), false, []⟩,
              ⟨(some 43), (some (40, true)), (.p (.bin .leq (.t 42) (.c (.int .i64 64)))), false, []⟩,
              ⟨(some 44), none, (.p (.pick (.t 40) (.t 43) (.c (.bool false)))), false, []⟩,
              ⟨(some 36), none, (.p (.mv (.t 44))), false, []⟩] (some ⟨[0, 1, 5, 36], [], false⟩))
            (.cond (.t 36)
             (.seq
              (.region 0 [⟨(some 45), none, (.p (.mv (.t 0))), false, []⟩,
                ⟨(some 46), none, (.p (.mv (.t 1))), false, []⟩,
                ⟨(some 47), none, (.call 75 [(.t 45), (.t 46)] false), false, []⟩,
                ⟨(some 4), none, (.p (.mv (.t 47))), false, []⟩] (some ⟨[4], [], false⟩))
              .ret)
             .skip)))))))))
    (.seq
     (.region 0 [⟨(some 48), none, (.p (.mv (.t 1))), false, []⟩,
       ⟨(some 49), none, (.p (.idxs (.t 48) (.c (.int .i64 0)))), false, []⟩,
       ⟨(some 6), none, (.p (.mv (.t 49))), false, []⟩] (some ⟨[0, 1, 5, 6], [], false⟩))
     (.seq
      (.region 0 [⟨(some 50), none, (.p (.mv (.t 1))), false, []⟩,
        ⟨(some 51), none, (.p (.idxs (.t 50) (.c (.int .i64 1)))), false, []⟩,
        ⟨(some 7), none, (.p (.mv (.t 51))), false, []⟩] (some ⟨[0, 1, 5, 6, 7], [], false⟩))
      (.seq
       (.region 0 [⟨(some 8), none, (.p (.mv (.c (.int .i64 0)))), false, []⟩] (some ⟨[0, 1, 5, 6, 7, 8], [], false⟩))
       (.seq
        (.region 0 [⟨(some 52), none, (.p (.mv (.t 0))), false, []⟩,
          ⟨(some 53), none, (.p (.lenS (.t 52))), false, []⟩,
          ⟨(some 54), none, (.p (.mv (.t 5))), false, []⟩,
          ⟨(some 55), none, (.p (.bin .sub (.t 53) (.t 54))), false, []⟩,
          ⟨(some 56), none, (.p (.bin .add (.t 55) (.c (.int .i64 1)))), false, []⟩,
          ⟨(some 9), none, (.p (.mv (.t 56))), false, []⟩] (some ⟨[0, 1, 5, 6, 7, 8, 9], [], false⟩))
        (.seq
         (.region 0 [⟨(some 10), none, (.p (.mv (.c (.int .i64 0)))), false, []⟩] (some ⟨[0, 1, 5, 6, 7, 8, 9, 10], [], false⟩))
         (.seq
          (.block 1
           (.loop (some ⟨[0, 1, 5, 6, 7, 8, 9, 10], [], true⟩) Tryd.c68b0))
          (.seq
           (.region 0 [⟨(some 4), none, (.p (.mv (.c (.int .i64 (-1))))), false, []⟩] (some ⟨[4], [], false⟩))
           .ret))))))))))
theorem Tryd.run68 {xs : List AV} {r : AV} (hl : xs.length ≤ 143) (h : aw Tryd.prog Tryd.c68 (Pv.Ends [4] r) (entry xs)) : Run Tryd.prog 68 xs r :=
  run_of (fun _ _ => drawOk Tryd.mixed) Tryd.func68 rfl rfl rfl (by kernel_rfl) (by kernel_rfl) hl h
/-! 69 internal/stringslite.TrimPrefix : params [9, 9], results [9], free 0, zeros [(.string ⟨#[]⟩), (.string ⟨#[]⟩)] -/
def Tryd.c69 : AC :=
 (.seq
  (.region 0 [⟨(some 4), none, (.p (.mv (.c (.str [])))), false, []⟩] (some ⟨[0, 1], [], false⟩))
  (.seq
   (.seq
    (.region 0 [⟨(some 5), none, (.p (.mv (.t 0))), false, []⟩,
      ⟨(some 6), none, (.p (.mv (.t 1))), false, []⟩,
      ⟨(some 7), none, (.call 78 [(.t 5), (.t 6)] false), false, []⟩] (some ⟨[0, 1, 7], [], false⟩))
    (.cond (.t 7)
     (.seq
      (.region 0 [⟨(some 8), none, (.p (.mv (.t 0))), false, []⟩,
        ⟨(some 9), none, (.p (.mv (.t 1))), false, []⟩,
        ⟨(some 10), none, (.p (.lenS (.t 9))), false, []⟩,
        ⟨(some 11), none, (.p (.slices (.t 8) (some (.t 10)) none)), false, []⟩,
        ⟨(some 4), none, (.p (.mv (.t 11))), false, []⟩] (some ⟨[4], [], false⟩))
      .ret)
     .skip))
   (.seq
    (.region 0 [⟨(some 12), none, (.p (.mv (.t 0))), false, []⟩,
      ⟨(some 4), none, (.p (.mv (.t 12))), false, []⟩] (some ⟨[4], [], false⟩))
    .ret)))
theorem Tryd.run69 {xs : List AV} {r : AV} (hl : xs.length ≤ 13) (h : aw Tryd.prog Tryd.c69 (Pv.Ends [4] r) (entry xs)) : Run Tryd.prog 69 xs r :=
  run_of (fun _ _ => drawOk Tryd.mixed) Tryd.func69 rfl rfl rfl (by kernel_rfl) (by kernel_rfl) hl h
/-! 74 internal/stringslite.IndexByte : params [9, 5], results [3], free 0, zeros [(.string ⟨#[]⟩), (.int .u8 (0))] -/
def Tryd.c74 : AC :=
 (.seq
  (.region 0 [⟨(some 4), none, (.p (.mv (.c (.int .i64 0)))), false, []⟩] (some ⟨[0, 1], [], false⟩))
  (.seq
   (.region 0 [⟨(some 5), none, (.p (.mv (.t 0))), false, []⟩,
     ⟨(some 6), none, (.p (.mv (.t 1))), false, []⟩,
     ⟨(some 7), none, (.p (.idxb (.t 5) (.t 6))), false, []⟩,
     ⟨(some 4), none, (.p (.mv (.t 7))), false, []⟩] (some ⟨[4], [], false⟩))
   .ret))
theorem Tryd.run74 {xs : List AV} {r : AV} (hl : xs.length ≤ 8) (h : aw Tryd.prog Tryd.c74 (Pv.Ends [4] r) (entry xs)) : Run Tryd.prog 74 xs r :=
  run_of (fun _ _ => drawOk Tryd.mixed) Tryd.func74 rfl rfl rfl (by kernel_rfl) (by kernel_rfl) hl h
/-! 78 internal/stringslite.HasPrefix : params [9, 9], results [4], free 0, zeros [(.string ⟨#[]⟩), (.string ⟨#[]⟩)] -/
def Tryd.c78 : AC :=
 (.seq
  (.region 0 [⟨(some 4), none, (.p (.mv (.c (.bool false)))), false, []⟩] (some ⟨[0, 1], [], false⟩))
  (.seq
   (.region 0 [⟨(some 5), none, (.p (.mv (.t 0))), false, []⟩,
     ⟨(some 6), none, (.p (.lenS (.t 5))), false, []⟩,
     ⟨(some 7), none, (.p (.mv (.t 1))), false, []⟩,
     ⟨(some 8), none, (.p (.lenS (.t 7))), false, []⟩,
     ⟨(some 9), none, (.p (.bin .geq (.t 6) (.t 8))), false, []⟩,
     ⟨(some 10), none, (.p (.mv (.t 9))), false, []⟩,
     ⟨(some 11), (some (10, true)), (.p (.mv (.t 0))), false, []⟩,
     ⟨(some 12), (some (10, true)), (.p (.mv (.t 1))), false, []⟩,
     ⟨(some 13), (some (10, true)), (.p (.lenS (.t 12))), false, []⟩,
     ⟨(some 14), (some (10, true)), (.p (.slices (.t 11) none (some (.t 13)))), false, []⟩,
     ⟨(some 15), (some (10, true)), (.p (.mv (.t 1))), false, []⟩,
     ⟨(some 16), (some (10, true)), (.p (.bin .eql (.t 14) (.t 15))), false, []⟩,
     ⟨(some 17), none, (.p (.pick (.t 10) (.t 16) (.c (.bool false)))), false, []⟩,
     ⟨(some 4), none, (.p (.mv (.t 17))), false, []⟩] (some ⟨[4], [], false⟩))
   .ret))
theorem Tryd.run78 {xs : List AV} {r : AV} (hl : xs.length ≤ 18) (h : aw Tryd.prog Tryd.c78 (Pv.Ends [4] r) (entry xs)) : Run Tryd.prog 78 xs r :=
  run_of (fun _ _ => drawOk Tryd.mixed) Tryd.func78 rfl rfl rfl (by kernel_rfl) (by kernel_rfl) hl h
end Go.Proofs
