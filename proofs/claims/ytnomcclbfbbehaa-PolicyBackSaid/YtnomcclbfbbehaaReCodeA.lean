/- The compiled code of this seat, and the rules that run it. (Printed by a program of ours.) -/
import Derived.Test.YtnomcclbfbbehaaPvM3
import Derived.Test.YtnomcclbfbbehaaProg
namespace Go.Proofs

open Go.Pv
set_option maxHeartbeats 4000000
theorem Try.mixed : Try.prog.follows .mixedOrders = true := by kernel_rfl
/-! 7 paling/palinglaw14.PolicyBack : params [31, 30], results [4], free 0, zeros [(.slice none 0 0), (.slice none 0 0)] -/
def Try.c7b0 : AC :=
 (.seq
  (.region 0 [⟨(some 56), none, (.p (.bin .lss (.t 55) (.t 54))), false, []⟩] (some ⟨[1, 7, 54, 55, 56], [], false⟩))
  (.seq
   (.cond (.t 56)
    .skip
    (.exit 0))
   (.seq
    (.block 1
     (.seq
      (.region 0 [⟨(some 57), none, (.p (.mv (.t 55))), false, []⟩,
        ⟨(some 10), none, (.p (.mv (.t 57))), false, []⟩] (some ⟨[1, 7, 10, 54, 55], [], false⟩))
      (.seq
       (.region 0 [⟨(some 58), none, (.p (.mv (.t 7))), false, []⟩,
         ⟨(some 59), none, (.p (.mv (.t 10))), false, []⟩,
         ⟨(some 60), none, (.p (.iaddr 4 (.t 58) (.t 59))), false, []⟩,
         ⟨(some 61), none, (.p (.faddr 0 (.t 60))), false, []⟩,
         ⟨(some 62), none, (.r (.load 1 false (.t 61))), false, []⟩,
         ⟨(some 63), none, (.p (.mv (.t 10))), false, []⟩,
         ⟨(some 64), none, (.p (.bin .add (.t 63) (.c (.int .i64 1)))), false, []⟩,
         ⟨(some 65), none, (.p (.bin .neq (.t 62) (.t 64))), false, []⟩,
         ⟨(some 66), none, (.p (.mv (.t 65))), false, []⟩,
         ⟨(some 67), (some (66, false)), (.p (.mv (.t 7))), false, []⟩,
         ⟨(some 68), (some (66, false)), (.p (.mv (.t 10))), false, []⟩,
         ⟨(some 69), (some (66, false)), (.p (.iaddr 4 (.t 67) (.t 68))), false, []⟩,
         ⟨(some 70), (some (66, false)), (.r (.load 4 true (.t 69))), false, []⟩,
         ⟨(some 71), (some (66, false)), (.call 22 [(.t 70)] false), false, []⟩,
         ⟨(some 72), (some (66, false)), (.p (.un .not (.t 71))), false, []⟩,
         ⟨(some 73), none, (.p (.pick (.t 66) (.c (.bool true)) (.t 72))), false, []⟩] (some ⟨[1, 7, 54, 55, 73], [], false⟩))
       (.cond (.t 73)
        (.seq
         (.region 0 [⟨(some 4), none, (.p (.mv (.c (.bool false)))), false, []⟩] (some ⟨[4], [], false⟩))
         .ret)
        .skip))))
    (.region 0 [⟨(some 74), none, (.p (.bin .add (.t 55) (.c (.int .i64 1)))), false, []⟩,
      ⟨(some 55), none, (.p (.mv (.t 74))), false, []⟩] (some ⟨[1, 7, 54, 55], [], false⟩)))))
def Try.c7 : AC :=
 (.seq
  (.region 0 [⟨(some 4), none, (.p (.mv (.c (.bool false)))), false, []⟩] (some ⟨[0, 1], [], false⟩))
  (.seq
   (.seq
    (.region 0 [⟨(some 19), none, (.call 15 [] false), false, []⟩,
      ⟨(some 20), none, (.p (.un .not (.t 19))), false, []⟩] (some ⟨[0, 1, 20], [], false⟩))
    (.cond (.t 20)
     (.seq
      (.region 0 [⟨(some 4), none, (.p (.mv (.c (.bool false)))), false, []⟩] (some ⟨[4], [], false⟩))
      .ret)
     .skip))
   (.seq
    (.seq
     (.region 0 [⟨(some 21), none, (.p (.mv (.t 0))), false, []⟩,
       ⟨(some 22), none, (.call 19 [(.t 21)] false), false, []⟩,
       ⟨(some 23), none, (.p (.mv (.t 22))), false, []⟩,
       ⟨(some 24), (some (23, false)), (.p (.mv (.t 1))), false, []⟩,
       ⟨(some 25), (some (23, false)), (.p (.len (.t 24))), false, []⟩,
       ⟨(some 26), (some (23, false)), (.p (.bin .gtr (.t 25) (.c (.int .i64 3000)))), false, []⟩,
       ⟨(some 27), none, (.p (.pick (.t 23) (.c (.bool true)) (.t 26))), false, []⟩] (some ⟨[0, 1, 27], [], false⟩))
     (.cond (.t 27)
      (.seq
       (.region 0 [⟨(some 4), none, (.p (.mv (.c (.bool true)))), false, []⟩] (some ⟨[4], [], false⟩))
       .ret)
      .skip))
    (.seq
     (.seq
      (.region 0 [⟨(some 29), none, (.p (.mv (.t 0))), false, []⟩,
        ⟨(some 30), none, (.call 20 [(.t 29)] false), false, []⟩,
        ⟨(some 28), none, (.p (.mv (.t 30))), false, []⟩,
        ⟨(some 31), none, (.p (.ext (.t 28) 0)), false, []⟩,
        ⟨(some 32), none, (.p (.ext (.t 28) 1)), false, []⟩,
        ⟨(some 5), none, (.p (.mv (.t 31))), false, []⟩,
        ⟨(some 6), none, (.p (.mv (.t 32))), false, []⟩] (some ⟨[0, 1, 5, 6], [], false⟩))
      (.seq
       (.region 0 [⟨(some 33), none, (.p (.mv (.t 6))), false, []⟩,
         ⟨(some 34), none, (.p (.bin .eql (.t 33) (.c (.int .i64 0)))), false, []⟩] (some ⟨[0, 1, 5, 34], [], false⟩))
       (.cond (.t 34)
        (.seq
         (.region 0 [⟨(some 36), none, (.p (.mv (.t 5))), false, []⟩,
           ⟨(some 37), none, (.call 16 [(.t 36)] false), false, []⟩,
           ⟨(some 35), none, (.p (.mv (.t 37))), false, []⟩,
           ⟨(some 38), none, (.p (.ext (.t 35) 0)), false, []⟩,
           ⟨(some 39), none, (.p (.ext (.t 35) 1)), false, []⟩,
           ⟨(some 40), none, (.p (.ext (.t 35) 2)), false, []⟩,
           ⟨(some 7), none, (.p (.mv (.t 38))), false, []⟩,
           ⟨(some 8), none, (.p (.mv (.t 39))), false, []⟩,
           ⟨(some 9), none, (.p (.mv (.t 40))), false, []⟩] (some ⟨[0, 1, 7, 8, 9], [], false⟩))
         (.seq
          (.seq
           (.region 0 [⟨(some 41), none, (.p (.mv (.t 9))), false, []⟩,
             ⟨(some 42), none, (.p (.bin .neq (.t 41) (.c (.int .i64 0)))), false, []⟩,
             ⟨(some 43), none, (.p (.mv (.t 42))), false, []⟩,
             ⟨(some 44), (some (43, false)), (.p (.mv (.t 8))), false, []⟩,
             ⟨(some 45), (some (43, false)), (.p (.bin .neq (.t 44) (.c (.int .i64 0)))), false, []⟩,
             ⟨(some 46), none, (.p (.pick (.t 43) (.c (.bool true)) (.t 45))), false, []⟩,
             ⟨(some 47), none, (.p (.mv (.t 46))), false, []⟩,
             ⟨(some 48), (some (47, false)), (.p (.mv (.t 0))), false, []⟩,
             ⟨(some 49), (some (47, false)), (.p (.mv (.t 7))), false, []⟩,
             ⟨(some 50), (some (47, false)), (.call 24 [(.t 48), (.t 49)] false), false, []⟩,
             ⟨(some 51), (some (47, false)), (.p (.un .not (.t 50))), false, []⟩,
             ⟨(some 52), none, (.p (.pick (.t 47) (.c (.bool true)) (.t 51))), false, []⟩] (some ⟨[1, 7, 52], [], false⟩))
           (.cond (.t 52)
            (.seq
             (.region 0 [⟨(some 4), none, (.p (.mv (.c (.bool false)))), false, []⟩] (some ⟨[4], [], false⟩))
             .ret)
            .skip))
          (.seq
           (.region 0 [⟨(some 53), none, (.p (.mv (.t 7))), false, []⟩,
             ⟨(some 54), none, (.p (.len (.t 53))), false, []⟩,
             ⟨(some 55), none, (.p (.mv (.c (.int .i64 0)))), false, []⟩] (some ⟨[1, 7, 54, 55], [], false⟩))
           (.block 0
            (.loop (some ⟨[1, 7, 54, 55], [], true⟩) Try.c7b0)))))
        .skip)))
     (.seq
      (.region 0 [⟨(some 76), none, (.p (.mv (.t 1))), false, []⟩,
        ⟨(some 77), none, (.call 16 [(.t 76)] false), false, []⟩,
        ⟨(some 75), none, (.p (.mv (.t 77))), false, []⟩,
        ⟨(some 78), none, (.p (.ext (.t 75) 0)), false, []⟩,
        ⟨(some 79), none, (.p (.ext (.t 75) 1)), false, []⟩,
        ⟨(some 80), none, (.p (.ext (.t 75) 2)), false, []⟩,
        ⟨(some 11), none, (.p (.mv (.t 78))), false, []⟩,
        ⟨(some 12), none, (.p (.mv (.t 79))), false, []⟩,
        ⟨(some 13), none, (.p (.mv (.t 80))), false, []⟩] (some ⟨[11, 12, 13], [], false⟩))
      (.seq
       (.seq
        (.region 0 [⟨(some 81), none, (.p (.mv (.t 13))), false, []⟩,
          ⟨(some 82), none, (.p (.bin .neq (.t 81) (.c (.int .i64 0)))), false, []⟩] (some ⟨[11, 12, 13, 82], [], false⟩))
        (.cond (.t 82)
         (.seq
          (.region 0 [⟨(some 83), none, (.p (.mv (.t 11))), false, []⟩,
            ⟨(some 84), none, (.p (.len (.t 83))), false, []⟩,
            ⟨(some 85), none, (.p (.bin .eql (.t 84) (.c (.int .i64 0)))), false, []⟩,
            ⟨(some 86), none, (.p (.mv (.t 85))), false, []⟩,
            ⟨(some 87), (some (86, true)), (.p (.mv (.t 12))), false, []⟩,
            ⟨(some 88), (some (86, true)), (.p (.bin .gtr (.t 87) (.c (.int .i64 0)))), false, []⟩,
            ⟨(some 89), (some (86, true)), (.p (.mv (.t 88))), false, []⟩,
            ⟨(some 90), (some (89, false)), (.p (.mv (.t 13))), false, []⟩,
            ⟨(some 91), (some (89, false)), (.p (.bin .eql (.t 90) (.c (.int .i64 3)))), false, []⟩,
            ⟨(some 92), (some (86, true)), (.p (.pick (.t 89) (.c (.bool true)) (.t 91))), false, []⟩,
            ⟨(some 93), none, (.p (.pick (.t 86) (.t 92) (.c (.bool false)))), false, []⟩,
            ⟨(some 4), none, (.p (.mv (.t 93))), false, []⟩] (some ⟨[4], [], false⟩))
          .ret)
         .skip))
       (.seq
        (.region 0 [⟨(some 95), none, (.p (.mv (.t 11))), false, []⟩,
          ⟨(some 96), none, (.call 20 [(.t 95)] false), false, []⟩,
          ⟨(some 94), none, (.p (.mv (.t 96))), false, []⟩,
          ⟨(some 97), none, (.p (.ext (.t 94) 0)), false, []⟩,
          ⟨(some 98), none, (.p (.ext (.t 94) 1)), false, []⟩,
          ⟨(some 14), none, (.p (.mv (.t 97))), false, []⟩,
          ⟨(some 15), none, (.p (.mv (.t 98))), false, []⟩] (some ⟨[11, 14, 15], [], false⟩))
        (.seq
         (.region 0 [⟨(some 100), none, (.p (.mv (.t 14))), false, []⟩,
           ⟨(some 101), none, (.call 16 [(.t 100)] false), false, []⟩,
           ⟨(some 99), none, (.p (.mv (.t 101))), false, []⟩,
           ⟨(some 102), none, (.p (.ext (.t 99) 0)), false, []⟩,
           ⟨(some 103), none, (.p (.ext (.t 99) 1)), false, []⟩,
           ⟨(some 104), none, (.p (.ext (.t 99) 2)), false, []⟩,
           ⟨(some 16), none, (.p (.mv (.t 102))), false, []⟩,
           ⟨(some 17), none, (.p (.mv (.t 103))), false, []⟩,
           ⟨(some 18), none, (.p (.mv (.t 104))), false, []⟩] (some ⟨[11, 15, 16, 18], [], false⟩))
         (.seq
          (.region 0 [⟨(some 105), none, (.p (.mv (.t 15))), false, []⟩,
            ⟨(some 106), none, (.p (.bin .eql (.t 105) (.c (.int .i64 0)))), false, []⟩,
            ⟨(some 107), none, (.p (.mv (.t 106))), false, []⟩,
            ⟨(some 108), (some (107, true)), (.p (.mv (.t 18))), false, []⟩,
            ⟨(some 109), (some (107, true)), (.p (.bin .eql (.t 108) (.c (.int .i64 0)))), false, []⟩,
            ⟨(some 110), none, (.p (.pick (.t 107) (.t 109) (.c (.bool false)))), false, []⟩,
            ⟨(some 111), none, (.p (.mv (.t 110))), false, []⟩,
            ⟨(some 112), (some (111, true)), (.p (.mv (.t 11))), false, []⟩,
            ⟨(some 113), (some (111, true)), (.p (.mv (.t 16))), false, []⟩,
            ⟨(some 114), (some (111, true)), (.call 24 [(.t 112), (.t 113)] false), false, []⟩,
            ⟨(some 115), none, (.p (.pick (.t 111) (.t 114) (.c (.bool false)))), false, []⟩,
            ⟨(some 4), none, (.p (.mv (.t 115))), false, []⟩] (some ⟨[4], [], false⟩))
          .ret)))))))))
theorem Try.run7 {xs : List AV} {r : AV} (hl : xs.length ≤ 116) (h : aw Try.prog Try.c7 (Pv.Ends [4] r) (entry xs)) : Run Try.prog 7 xs r :=
  run_of (fun _ _ => drawOk Try.mixed) Try.func7 rfl rfl rfl (by kernel_rfl) (by kernel_rfl) hl h
/-! 13 paling/num.Name : params [9], results [4], free 0, zeros [(.string ⟨#[]⟩)] -/
def Try.c13b0 : AC :=
 (.seq
  (.region 0 [⟨(some 9), none, (.p (.bin .lss (.t 8) (.t 7))), false, []⟩] (some ⟨[0, 7, 8, 9], [], false⟩))
  (.seq
   (.cond (.t 9)
    .skip
    (.exit 0))
   (.seq
    (.block 1
     (.seq
      (.region 0 [⟨(some 10), none, (.p (.mv (.t 8))), false, []⟩,
        ⟨(some 3), none, (.p (.mv (.t 10))), false, []⟩] (some ⟨[0, 3, 7, 8], [], false⟩))
      (.seq
       (.region 22 [⟨(some 11), none, (.p (.mv (.t 0))), false, []⟩,
         ⟨(some 12), none, (.p (.mv (.t 3))), false, []⟩,
         ⟨(some 13), none, (.p (.idxs (.t 11) (.t 12))), false, []⟩,
         ⟨(some 14), none, (.p (.bin .geq (.t 13) (.c (.int .u8 97)))), false, []⟩,
         ⟨(some 15), none, (.p (.mv (.t 14))), false, []⟩,
         ⟨(some 16), (some (15, true)), (.p (.mv (.t 0))), false, []⟩,
         ⟨(some 17), (some (15, true)), (.p (.mv (.t 3))), false, []⟩,
         ⟨(some 18), (some (15, true)), (.p (.idxs (.t 16) (.t 17))), false, []⟩,
         ⟨(some 19), (some (15, true)), (.p (.bin .leq (.t 18) (.c (.int .u8 122)))), false, []⟩,
         ⟨(some 20), none, (.p (.pick (.t 15) (.t 19) (.c (.bool false)))), false, []⟩,
         ⟨(some 21), none, (.p (.mv (.t 0))), false, []⟩,
         ⟨(some 22), none, (.p (.mv (.t 3))), false, []⟩,
         ⟨(some 23), none, (.p (.idxs (.t 21) (.t 22))), false, []⟩,
         ⟨(some 24), none, (.p (.bin .geq (.t 23) (.c (.int .u8 48)))), false, []⟩,
         ⟨(some 25), none, (.p (.mv (.t 24))), false, []⟩,
         ⟨(some 26), (some (25, true)), (.p (.mv (.t 0))), false, []⟩,
         ⟨(some 27), (some (25, true)), (.p (.mv (.t 3))), false, []⟩,
         ⟨(some 28), (some (25, true)), (.p (.idxs (.t 26) (.t 27))), false, []⟩,
         ⟨(some 29), (some (25, true)), (.p (.bin .leq (.t 28) (.c (.int .u8 57)))), false, []⟩,
         ⟨(some 30), none, (.p (.pick (.t 25) (.t 29) (.c (.bool false)))), false, []⟩,
         ⟨(some 4), none, (.p (.mv (.t 20))), false, []⟩,
         ⟨(some 5), none, (.p (.mv (.t 30))), false, []⟩] (some ⟨[0, 3, 4, 5, 7, 8], [], true⟩))
       (.seq
        (.region 0 [⟨(some 31), none, (.p (.mv (.t 4))), false, []⟩,
          ⟨(some 32), none, (.p (.un .not (.t 31))), false, []⟩,
          ⟨(some 33), none, (.p (.mv (.t 32))), false, []⟩,
          ⟨(some 34), (some (33, true)), (.p (.mv (.t 5))), false, []⟩,
          ⟨(some 35), (some (33, true)), (.p (.un .not (.t 34))), false, []⟩,
          ⟨(some 36), (some (33, true)), (.p (.mv (.t 35))), false, []⟩,
          ⟨(some 37), (some (36, false)), (.p (.mv (.t 3))), false, []⟩,
          ⟨(some 38), (some (36, false)), (.p (.bin .eql (.t 37) (.c (.int .i64 0)))), false, []⟩,
          ⟨(some 39), (some (33, true)), (.p (.pick (.t 36) (.c (.bool true)) (.t 38))), false, []⟩,
          ⟨(some 40), none, (.p (.pick (.t 33) (.t 39) (.c (.bool false)))), false, []⟩] (some ⟨[0, 7, 8, 40], [], false⟩))
        (.cond (.t 40)
         (.seq
          (.region 0 [⟨(some 2), none, (.p (.mv (.c (.bool false)))), false, []⟩] (some ⟨[2], [], false⟩))
          .ret)
         .skip)))))
    (.region 0 [⟨(some 41), none, (.p (.bin .add (.t 8) (.c (.int .i64 1)))), false, []⟩,
      ⟨(some 8), none, (.p (.mv (.t 41))), false, []⟩] (some ⟨[0, 7, 8], [], false⟩)))))
def Try.c13 : AC :=
 (.seq
  (.region 0 [⟨(some 2), none, (.p (.mv (.c (.bool false)))), false, []⟩] (some ⟨[0], [], false⟩))
  (.seq
   (.seq
    (.region 0 [⟨(some 6), none, (.p (.mv (.t 0))), false, []⟩,
      ⟨(some 7), none, (.p (.lenS (.t 6))), false, []⟩,
      ⟨(some 8), none, (.p (.mv (.c (.int .i64 0)))), false, []⟩] (some ⟨[0, 7, 8], [], false⟩))
    (.block 0
     (.loop (some ⟨[0, 7, 8], [], true⟩) Try.c13b0)))
   (.seq
    (.region 0 [⟨(some 42), none, (.p (.mv (.t 0))), false, []⟩,
      ⟨(some 43), none, (.p (.lenS (.t 42))), false, []⟩,
      ⟨(some 44), none, (.p (.bin .gtr (.t 43) (.c (.int .i64 0)))), false, []⟩,
      ⟨(some 45), none, (.p (.mv (.t 44))), false, []⟩,
      ⟨(some 46), (some (45, true)), (.p (.mv (.t 0))), false, []⟩,
      ⟨(some 47), (some (45, true)), (.p (.lenS (.t 46))), false, []⟩,
      ⟨(some 48), (some (45, true)), (.p (.bin .leq (.t 47) (.c (.int .i64 12)))), false, []⟩,
      ⟨(some 49), none, (.p (.pick (.t 45) (.t 48) (.c (.bool false)))), false, []⟩,
      ⟨(some 2), none, (.p (.mv (.t 49))), false, []⟩] (some ⟨[2], [], false⟩))
    .ret)))
theorem Try.run13 {xs : List AV} {r : AV} (hl : xs.length ≤ 50) (h : aw Try.prog Try.c13 (Pv.Ends [2] r) (entry xs)) : Run Try.prog 13 xs r :=
  run_of (fun _ _ => drawOk Try.mixed) Try.func13 rfl rfl rfl (by kernel_rfl) (by kernel_rfl) hl h
/-! 15 paling/palinglaw14.works : params [], results [4], free 0, zeros [] -/
def Try.c15 : AC :=
 (.seq
  (.region 0 [⟨(some 0), none, (.p (.mv (.c (.bool false)))), false, []⟩] (some ⟨[], [], false⟩))
  (.seq
   (.region 0 [⟨(some 8), none, (.e (.mks 5 1 (.int .u8 0) 28 [(0, (.c (.int .u8 35))), (1, (.c (.int .u8 32))), (2, (.c (.int .u8 120))), (3, (.c (.int .u8 10))), (4, (.c (.int .u8 116))), (5, (.c (.int .u8 101))), (6, (.c (.int .u8 110))), (7, (.c (.int .u8 97))), (8, (.c (.int .u8 110))), (9, (.c (.int .u8 116))), (10, (.c (.int .u8 32))), (11, (.c (.int .u8 114))), (12, (.c (.int .u8 101))), (13, (.c (.int .u8 100))), (14, (.c (.int .u8 32))), (15, (.c (.int .u8 115))), (16, (.c (.int .u8 119))), (17, (.c (.int .u8 49))), (18, (.c (.int .u8 46))), (19, (.c (.int .u8 112))), (20, (.c (.int .u8 49))), (21, (.c (.int .u8 32))), (22, (.c (.int .u8 115))), (23, (.c (.int .u8 119))), (24, (.c (.int .u8 50))), (25, (.c (.int .u8 46))), (26, (.c (.int .u8 112))), (27, (.c (.int .u8 52)))]) none), false, []⟩,
     ⟨(some 9), none, (.e (.mark (.t 8)) none), false, []⟩,
     ⟨(some 10), none, (.call 16 [(.t 9)] false), false, []⟩,
     ⟨(some 7), none, (.p (.mv (.t 10))), false, []⟩,
     ⟨(some 11), none, (.p (.ext (.t 7) 0)), false, []⟩,
     ⟨(some 12), none, (.p (.ext (.t 7) 1)), false, []⟩,
     ⟨(some 13), none, (.p (.ext (.t 7) 2)), false, []⟩,
     ⟨(some 1), none, (.p (.mv (.t 11))), false, []⟩,
     ⟨(some 2), none, (.p (.mv (.t 12))), false, []⟩,
     ⟨(some 3), none, (.p (.mv (.t 13))), false, []⟩] (some ⟨[1, 2, 3], [], false⟩))
   (.seq
    (.region 0 [⟨(some 15), none, (.e (.mks 5 1 (.int .u8 0) 10 [(0, (.c (.int .u8 116))), (1, (.c (.int .u8 101))), (2, (.c (.int .u8 110))), (3, (.c (.int .u8 97))), (4, (.c (.int .u8 110))), (5, (.c (.int .u8 116))), (6, (.c (.int .u8 32))), (7, (.c (.int .u8 114))), (8, (.c (.int .u8 101))), (9, (.c (.int .u8 100)))]) none), false, []⟩,
      ⟨(some 16), none, (.e (.mark (.t 15)) none), false, []⟩,
      ⟨(some 17), none, (.call 16 [(.t 16)] false), false, []⟩,
      ⟨(some 14), none, (.p (.mv (.t 17))), false, []⟩,
      ⟨(some 18), none, (.p (.ext (.t 14) 0)), false, []⟩,
      ⟨(some 19), none, (.p (.ext (.t 14) 1)), false, []⟩,
      ⟨(some 20), none, (.p (.ext (.t 14) 2)), false, []⟩,
      ⟨(some 4), none, (.p (.mv (.t 18))), false, []⟩,
      ⟨(some 5), none, (.p (.mv (.t 19))), false, []⟩,
      ⟨(some 6), none, (.p (.mv (.t 20))), false, []⟩] (some ⟨[1, 2, 3, 5, 6], [], false⟩))
    (.seq
     (.region 0 [⟨(some 21), none, (.p (.mv (.t 3))), false, []⟩,
       ⟨(some 22), none, (.p (.bin .eql (.t 21) (.c (.int .i64 0)))), false, []⟩,
       ⟨(some 23), none, (.p (.mv (.t 22))), false, []⟩,
       ⟨(some 24), (some (23, true)), (.p (.mv (.t 2))), false, []⟩,
       ⟨(some 25), (some (23, true)), (.p (.bin .eql (.t 24) (.c (.int .i64 0)))), false, []⟩,
       ⟨(some 26), none, (.p (.pick (.t 23) (.t 25) (.c (.bool false)))), false, []⟩,
       ⟨(some 27), none, (.p (.mv (.t 26))), false, []⟩,
       ⟨(some 28), (some (27, true)), (.p (.mv (.t 1))), false, []⟩,
       ⟨(some 29), (some (27, true)), (.p (.len (.t 28))), false, []⟩,
       ⟨(some 30), (some (27, true)), (.p (.bin .eql (.t 29) (.c (.int .i64 1)))), false, []⟩,
       ⟨(some 31), none, (.p (.pick (.t 27) (.t 30) (.c (.bool false)))), false, []⟩,
       ⟨(some 32), none, (.p (.mv (.t 31))), false, []⟩,
       ⟨(some 33), (some (32, true)), (.p (.mv (.t 1))), false, []⟩,
       ⟨(some 34), (some (32, true)), (.p (.iaddr 4 (.t 33) (.c (.int .i64 0)))), false, []⟩,
       ⟨(some 35), (some (32, true)), (.p (.faddr 0 (.t 34))), false, []⟩,
       ⟨(some 36), (some (32, true)), (.r (.load 1 false (.t 35))), false, []⟩,
       ⟨(some 37), (some (32, true)), (.p (.bin .eql (.t 36) (.c (.int .i64 2)))), false, []⟩,
       ⟨(some 38), none, (.p (.pick (.t 32) (.t 37) (.c (.bool false)))), false, []⟩,
       ⟨(some 39), none, (.p (.mv (.t 38))), false, []⟩,
       ⟨(some 40), (some (39, true)), (.p (.mv (.t 1))), false, []⟩,
       ⟨(some 41), (some (39, true)), (.p (.iaddr 4 (.t 40) (.c (.int .i64 0)))), false, []⟩,
       ⟨(some 42), (some (39, true)), (.p (.faddr 1 (.t 41))), false, []⟩,
       ⟨(some 43), (some (39, true)), (.r (.load 1 false (.t 42))), false, []⟩,
       ⟨(some 44), (some (39, true)), (.p (.bin .eql (.t 43) (.c (.str [114, 101, 100])))), false, []⟩,
       ⟨(some 45), none, (.p (.pick (.t 39) (.t 44) (.c (.bool false)))), false, []⟩,
       ⟨(some 46), none, (.p (.mv (.t 45))), false, []⟩,
       ⟨(some 47), (some (46, true)), (.p (.mv (.t 1))), false, []⟩,
       ⟨(some 48), (some (46, true)), (.p (.iaddr 4 (.t 47) (.c (.int .i64 0)))), false, []⟩,
       ⟨(some 49), (some (46, true)), (.p (.faddr 3 (.t 48))), false, []⟩,
       ⟨(some 50), (some (46, true)), (.r (.load 1 false (.t 49))), false, []⟩,
       ⟨(some 51), (some (46, true)), (.p (.len (.t 50))), false, []⟩,
       ⟨(some 52), (some (46, true)), (.p (.bin .eql (.t 51) (.c (.int .i64 2)))), false, []⟩,
       ⟨(some 53), none, (.p (.pick (.t 46) (.t 52) (.c (.bool false)))), false, []⟩,
       ⟨(some 54), none, (.p (.mv (.t 53))), false, []⟩,
       ⟨(some 55), (some (54, true)), (.p (.mv (.t 1))), false, []⟩,
       ⟨(some 56), (some (54, true)), (.p (.iaddr 4 (.t 55) (.c (.int .i64 0)))), false, []⟩,
       ⟨(some 57), (some (54, true)), (.p (.faddr 3 (.t 56))), false, []⟩,
       ⟨(some 58), (some (54, true)), (.r (.load 1 false (.t 57))), false, []⟩,
       ⟨(some 59), (some (54, true)), (.p (.iaddr 1 (.t 58) (.c (.int .i64 1)))), false, []⟩,
       ⟨(some 60), (some (54, true)), (.r (.load 1 false (.t 59))), false, []⟩,
       ⟨(some 61), (some (54, true)), (.p (.bin .eql (.t 60) (.c (.str [112, 52])))), false, []⟩,
       ⟨(some 62), none, (.p (.pick (.t 54) (.t 61) (.c (.bool false)))), false, []⟩,
       ⟨(some 63), none, (.p (.mv (.t 62))), false, []⟩,
       ⟨(some 64), (some (63, true)), (.p (.mv (.t 6))), false, []⟩,
       ⟨(some 65), (some (63, true)), (.p (.bin .eql (.t 64) (.c (.int .i64 22)))), false, []⟩,
       ⟨(some 66), none, (.p (.pick (.t 63) (.t 65) (.c (.bool false)))), false, []⟩,
       ⟨(some 67), none, (.p (.mv (.t 66))), false, []⟩,
       ⟨(some 68), (some (67, true)), (.p (.mv (.t 5))), false, []⟩,
       ⟨(some 69), (some (67, true)), (.p (.bin .eql (.t 68) (.c (.int .i64 1)))), false, []⟩,
       ⟨(some 70), none, (.p (.pick (.t 67) (.t 69) (.c (.bool false)))), false, []⟩,
       ⟨(some 0), none, (.p (.mv (.t 70))), false, []⟩] (some ⟨[0], [], false⟩))
     .ret))))
theorem Try.run15 {xs : List AV} {r : AV} (hl : xs.length ≤ 71) (h : Hold (aw Try.prog Try.c15 (Pv.Ends [0] r) (entry xs))) : Run Try.prog 15 xs r :=
  run_ofH (fun _ _ => drawOk Try.mixed) Try.func15 rfl rfl rfl (by kernel_rfl) (by kernel_rfl) hl h
/-! 16 paling/policy.Read : params [30], results [31, 3, 32], free 0, zeros [(.slice none 0 0)] -/
def Try.c16b0 : AC :=
 (.seq
  (.region 0 [⟨(some 22), none, (.p (.bin .lss (.t 21) (.t 20))), false, []⟩] (some ⟨[2, 19, 20, 21, 22], [], false⟩))
  (.seq
   (.cond (.t 22)
    .skip
    (.exit 0))
   (.seq
    (.block 1
     (.seq
      (.region 0 [⟨(some 23), none, (.p (.mv (.t 21))), false, []⟩,
        ⟨(some 24), none, (.p (.iaddr 1 (.t 19) (.t 21))), false, []⟩,
        ⟨(some 25), none, (.r (.load 1 false (.t 24))), false, []⟩,
        ⟨(some 6), none, (.p (.mv (.t 23))), false, []⟩,
        ⟨(some 7), none, (.p (.mv (.t 25))), false, []⟩] (some ⟨[2, 6, 7, 19, 20, 21], [], false⟩))
      (.seq
       (.region 0 [⟨(some 27), none, (.p (.mv (.t 7))), false, []⟩,
         ⟨(some 28), none, (.call 30 [(.t 27)] false), false, []⟩,
         ⟨(some 26), none, (.p (.mv (.t 28))), false, []⟩,
         ⟨(some 29), none, (.p (.ext (.t 26) 0)), false, []⟩,
         ⟨(some 30), none, (.p (.ext (.t 26) 1)), false, []⟩,
         ⟨(some 8), none, (.p (.mv (.t 29))), false, []⟩,
         ⟨(some 9), none, (.p (.mv (.t 30))), false, []⟩] (some ⟨[2, 6, 8, 9, 19, 20, 21], [], false⟩))
       (.seq
        (.seq
         (.region 0 [⟨(some 31), none, (.p (.mv (.t 9))), false, []⟩,
           ⟨(some 32), none, (.p (.bin .eql (.t 31) (.c (.int .i64 0)))), false, []⟩,
           ⟨(some 33), none, (.p (.mv (.t 32))), false, []⟩,
           ⟨(some 34), (some (33, true)), (.p (.mv (.t 8))), false, []⟩,
           ⟨(some 35), (some (33, true)), (.p (.len (.t 34))), false, []⟩,
           ⟨(some 36), (some (33, true)), (.p (.bin .eql (.t 35) (.c (.int .i64 0)))), false, []⟩,
           ⟨(some 37), none, (.p (.pick (.t 33) (.t 36) (.c (.bool false)))), false, []⟩] (some ⟨[2, 6, 8, 9, 19, 20, 21, 37], [], false⟩))
         (.cond (.t 37)
          (.exit 1)
          .skip))
        (.seq
         (.region 0 [⟨(some 10), none, (.e (.alloc 47 (.agg [(.int .i64 0), (.str []), (.sl 0 [] true), (.sl 0 [] true)])) none), false, []⟩] (some ⟨[2, 6, 8, 9, 10, 19, 20, 21], [], false⟩))
         (.seq
          (.seq
           (.region 0 [⟨(some 38), none, (.p (.mv (.t 9))), false, []⟩,
             ⟨(some 39), none, (.p (.bin .eql (.t 38) (.c (.int .i64 0)))), false, []⟩] (some ⟨[2, 6, 8, 9, 10, 19, 20, 21, 39], [], false⟩))
           (.cond (.t 39)
            (.region 0 [⟨(some 41), none, (.p (.mv (.t 8))), false, []⟩,
              ⟨(some 42), none, (.p (.mv (.t 6))), false, []⟩,
              ⟨(some 43), none, (.p (.bin .add (.t 42) (.c (.int .i64 1)))), false, []⟩,
              ⟨(some 44), none, (.call 31 [(.t 41), (.t 43)] false), false, []⟩,
              ⟨(some 40), none, (.p (.mv (.t 44))), false, []⟩,
              ⟨(some 45), none, (.p (.ext (.t 40) 0)), false, []⟩,
              ⟨(some 46), none, (.p (.ext (.t 40) 1)), false, []⟩,
              ⟨none, none, (.e (.store 4 (.t 10) (.t 45)) none), false, []⟩,
              ⟨(some 9), none, (.p (.mv (.t 46))), false, []⟩] (some ⟨[2, 6, 9, 10, 19, 20, 21], [], false⟩))
            .skip))
          (.seq
           (.seq
            (.region 0 [⟨(some 47), none, (.p (.mv (.t 9))), false, []⟩,
              ⟨(some 48), none, (.p (.bin .eql (.t 47) (.c (.int .i64 0)))), false, []⟩,
              ⟨(some 49), none, (.p (.mv (.t 48))), false, []⟩,
              ⟨(some 50), (some (49, true)), (.p (.mv (.t 2))), false, []⟩,
              ⟨(some 51), (some (49, true)), (.p (.len (.t 50))), false, []⟩,
              ⟨(some 52), (some (49, true)), (.p (.bin .eql (.t 51) (.c (.int .i64 10)))), false, []⟩,
              ⟨(some 53), none, (.p (.pick (.t 49) (.t 52) (.c (.bool false)))), false, []⟩] (some ⟨[2, 6, 9, 10, 19, 20, 21, 53], [], false⟩))
            (.cond (.t 53)
             (.region 0 [⟨(some 9), none, (.p (.mv (.c (.int .i64 3)))), false, []⟩] (some ⟨[2, 6, 9, 10, 19, 20, 21], [], false⟩))
             .skip))
           (.seq
            (.seq
             (.region 0 [⟨(some 54), none, (.p (.mv (.t 9))), false, []⟩,
               ⟨(some 55), none, (.p (.bin .neq (.t 54) (.c (.int .i64 0)))), false, []⟩] (some ⟨[2, 6, 9, 10, 19, 20, 21, 55], [], false⟩))
             (.cond (.t 55)
              (.seq
               (.region 0 [⟨(some 56), none, (.p (.mv (.t 6))), false, []⟩,
                 ⟨(some 57), none, (.p (.bin .add (.t 56) (.c (.int .i64 1)))), false, []⟩,
                 ⟨(some 58), none, (.p (.mv (.t 9))), false, []⟩,
                 ⟨(some 2), none, (.p (.mv (.c (.sl 0 [] true)))), false, []⟩,
                 ⟨(some 3), none, (.p (.mv (.t 57))), false, []⟩,
                 ⟨(some 4), none, (.p (.mv (.t 58))), false, []⟩] (some ⟨[2, 3, 4], [], false⟩))
               .ret)
              .skip))
            (.region 0 [⟨(some 59), none, (.p (.mv (.t 2))), false, []⟩,
              ⟨(some 60), none, (.r (.load 4 true (.t 10))), false, []⟩,
              ⟨(some 61), none, (.e (.mks 47 4 (.agg [(.int .i64 0), (.str []), (.sl 0 [] true), (.sl 0 [] true)]) 1 [(0, (.t 60))]) none), false, []⟩,
              ⟨(some 62), none, (.e (.append 47 4 (.t 59) (.t 61)) none), false, []⟩,
              ⟨(some 2), none, (.p (.mv (.t 62))), false, []⟩] (some ⟨[2, 19, 20, 21], [], false⟩))))))))))
    (.region 0 [⟨(some 63), none, (.p (.bin .add (.t 21) (.c (.int .i64 1)))), false, []⟩,
      ⟨(some 21), none, (.p (.mv (.t 63))), false, []⟩] (some ⟨[2, 19, 20, 21], [], false⟩)))))
def Try.c16 : AC :=
 (.seq
  (.region 0 [⟨(some 2), none, (.p (.mv (.c (.sl 0 [] true)))), false, []⟩,
    ⟨(some 3), none, (.p (.mv (.c (.int .i64 0)))), false, []⟩,
    ⟨(some 4), none, (.p (.mv (.c (.int .i64 0)))), false, []⟩] (some ⟨[0, 2], [], false⟩))
  (.seq
   (.region 0 [⟨(some 12), none, (.p (.mv (.t 0))), false, []⟩,
     ⟨(some 13), none, (.call 29 [(.t 12)] false), false, []⟩,
     ⟨(some 11), none, (.p (.mv (.t 13))), false, []⟩,
     ⟨(some 14), none, (.p (.ext (.t 11) 0)), false, []⟩,
     ⟨(some 15), none, (.p (.ext (.t 11) 1)), false, []⟩,
     ⟨(some 5), none, (.p (.mv (.t 14))), false, []⟩,
     ⟨(some 4), none, (.p (.mv (.t 15))), false, []⟩] (some ⟨[2, 4, 5], [], false⟩))
   (.seq
    (.seq
     (.region 0 [⟨(some 16), none, (.p (.mv (.t 4))), false, []⟩,
       ⟨(some 17), none, (.p (.bin .neq (.t 16) (.c (.int .i64 0)))), false, []⟩] (some ⟨[2, 4, 5, 17], [], false⟩))
     (.cond (.t 17)
      (.seq
       (.region 0 [⟨(some 18), none, (.p (.mv (.t 4))), false, []⟩,
         ⟨(some 2), none, (.p (.mv (.c (.sl 0 [] true)))), false, []⟩,
         ⟨(some 3), none, (.p (.mv (.c (.int .i64 0)))), false, []⟩,
         ⟨(some 4), none, (.p (.mv (.t 18))), false, []⟩] (some ⟨[2, 3, 4], [], false⟩))
       .ret)
      .skip))
    (.seq
     (.seq
      (.region 0 [⟨(some 19), none, (.p (.mv (.t 5))), false, []⟩,
        ⟨(some 20), none, (.p (.len (.t 19))), false, []⟩,
        ⟨(some 21), none, (.p (.mv (.c (.int .i64 0)))), false, []⟩] (some ⟨[2, 19, 20, 21], [], false⟩))
      (.block 0
       (.loop (some ⟨[2, 19, 20, 21], [(2, (4, 47))], true⟩) Try.c16b0)))
     (.seq
      (.region 0 [⟨(some 64), none, (.p (.mv (.t 2))), false, []⟩,
        ⟨(some 2), none, (.p (.mv (.t 64))), false, []⟩,
        ⟨(some 3), none, (.p (.mv (.c (.int .i64 0)))), false, []⟩,
        ⟨(some 4), none, (.p (.mv (.c (.int .i64 0)))), false, []⟩] (some ⟨[2, 3, 4], [], false⟩))
      .ret)))))
theorem Try.run16 {xs : List AV} {r : AV} (hl : xs.length ≤ 65) (h : aw Try.prog Try.c16 (Pv.Ends [2, 3, 4] r) (entry xs)) : Run Try.prog 16 xs r :=
  run_of (fun _ _ => drawOk Try.mixed) Try.func16 rfl rfl rfl (by kernel_rfl) (by kernel_rfl) hl h
/-! 19 paling/palinglaw14.Great : params [31], results [4], free 0, zeros [(.slice none 0 0)] -/
def Try.c19b0 : AC :=
 (.seq
  (.seq
   (.region 0 [⟨(some 40), none, (.p (.mv (.t 4))), false, []⟩,
     ⟨(some 41), none, (.p (.mv (.t 0))), false, []⟩,
     ⟨(some 42), none, (.p (.mv (.t 3))), false, []⟩,
     ⟨(some 43), none, (.p (.iaddr 4 (.t 41) (.t 42))), false, []⟩,
     ⟨(some 44), none, (.p (.faddr 2 (.t 43))), false, []⟩,
     ⟨(some 45), none, (.r (.load 1 false (.t 44))), false, []⟩,
     ⟨(some 46), none, (.p (.len (.t 45))), false, []⟩,
     ⟨(some 47), none, (.p (.bin .lss (.t 40) (.t 46))), false, []⟩] (some ⟨[0, 3, 4, 47], [], false⟩))
   (.cond (.t 47)
    .skip
    (.exit 2)))
  (.seq
   (.block 3
    (.seq
     (.region 0 [⟨(some 50), none, (.p (.mv (.t 0))), false, []⟩,
       ⟨(some 51), none, (.p (.mv (.t 3))), false, []⟩,
       ⟨(some 52), none, (.p (.iaddr 4 (.t 50) (.t 51))), false, []⟩,
       ⟨(some 53), none, (.p (.faddr 2 (.t 52))), false, []⟩,
       ⟨(some 54), none, (.r (.load 1 false (.t 53))), false, []⟩,
       ⟨(some 55), none, (.p (.mv (.t 4))), false, []⟩,
       ⟨(some 56), none, (.p (.iaddr 1 (.t 54) (.t 55))), false, []⟩,
       ⟨(some 57), none, (.r (.load 1 false (.t 56))), false, []⟩,
       ⟨(some 58), none, (.p (.lenS (.t 57))), false, []⟩,
       ⟨(some 59), none, (.p (.bin .gtr (.t 58) (.c (.int .i64 300)))), false, []⟩] (some ⟨[0, 3, 4, 59], [], false⟩))
     (.cond (.t 59)
      (.seq
       (.region 0 [⟨(some 2), none, (.p (.mv (.c (.bool true)))), false, []⟩] (some ⟨[2], [], false⟩))
       .ret)
      .skip)))
   (.region 0 [⟨(some 48), none, (.p (.mv (.t 4))), false, []⟩,
     ⟨(some 49), none, (.p (.bin .add (.t 48) (.c (.int .i64 1)))), false, []⟩,
     ⟨(some 4), none, (.p (.mv (.t 49))), false, []⟩] (some ⟨[0, 3, 4], [], false⟩))))
def Try.c19b1 : AC :=
 (.seq
  (.seq
   (.region 0 [⟨(some 60), none, (.p (.mv (.t 5))), false, []⟩,
     ⟨(some 61), none, (.p (.mv (.t 0))), false, []⟩,
     ⟨(some 62), none, (.p (.mv (.t 3))), false, []⟩,
     ⟨(some 63), none, (.p (.iaddr 4 (.t 61) (.t 62))), false, []⟩,
     ⟨(some 64), none, (.p (.faddr 3 (.t 63))), false, []⟩,
     ⟨(some 65), none, (.r (.load 1 false (.t 64))), false, []⟩,
     ⟨(some 66), none, (.p (.len (.t 65))), false, []⟩,
     ⟨(some 67), none, (.p (.bin .lss (.t 60) (.t 66))), false, []⟩] (some ⟨[0, 3, 5, 67], [], false⟩))
   (.cond (.t 67)
    .skip
    (.exit 4)))
  (.seq
   (.block 5
    (.seq
     (.region 0 [⟨(some 70), none, (.p (.mv (.t 0))), false, []⟩,
       ⟨(some 71), none, (.p (.mv (.t 3))), false, []⟩,
       ⟨(some 72), none, (.p (.iaddr 4 (.t 70) (.t 71))), false, []⟩,
       ⟨(some 73), none, (.p (.faddr 3 (.t 72))), false, []⟩,
       ⟨(some 74), none, (.r (.load 1 false (.t 73))), false, []⟩,
       ⟨(some 75), none, (.p (.mv (.t 5))), false, []⟩,
       ⟨(some 76), none, (.p (.iaddr 1 (.t 74) (.t 75))), false, []⟩,
       ⟨(some 77), none, (.r (.load 1 false (.t 76))), false, []⟩,
       ⟨(some 78), none, (.p (.lenS (.t 77))), false, []⟩,
       ⟨(some 79), none, (.p (.bin .gtr (.t 78) (.c (.int .i64 300)))), false, []⟩] (some ⟨[0, 3, 5, 79], [], false⟩))
     (.cond (.t 79)
      (.seq
       (.region 0 [⟨(some 2), none, (.p (.mv (.c (.bool true)))), false, []⟩] (some ⟨[2], [], false⟩))
       .ret)
      .skip)))
   (.region 0 [⟨(some 68), none, (.p (.mv (.t 5))), false, []⟩,
     ⟨(some 69), none, (.p (.bin .add (.t 68) (.c (.int .i64 1)))), false, []⟩,
     ⟨(some 5), none, (.p (.mv (.t 69))), false, []⟩] (some ⟨[0, 3, 5], [], false⟩))))
def Try.c19b2 : AC :=
 (.seq
  (.seq
   (.region 0 [⟨(some 9), none, (.p (.mv (.t 3))), false, []⟩,
     ⟨(some 10), none, (.p (.mv (.t 0))), false, []⟩,
     ⟨(some 11), none, (.p (.len (.t 10))), false, []⟩,
     ⟨(some 12), none, (.p (.bin .lss (.t 9) (.t 11))), false, []⟩] (some ⟨[0, 3, 12], [], false⟩))
   (.cond (.t 12)
    .skip
    (.exit 0)))
  (.seq
   (.block 1
    (.seq
     (.seq
      (.region 0 [⟨(some 15), none, (.p (.mv (.t 0))), false, []⟩,
        ⟨(some 16), none, (.p (.mv (.t 3))), false, []⟩,
        ⟨(some 17), none, (.p (.iaddr 4 (.t 15) (.t 16))), false, []⟩,
        ⟨(some 18), none, (.p (.faddr 1 (.t 17))), false, []⟩,
        ⟨(some 19), none, (.r (.load 1 false (.t 18))), false, []⟩,
        ⟨(some 20), none, (.p (.lenS (.t 19))), false, []⟩,
        ⟨(some 21), none, (.p (.bin .gtr (.t 20) (.c (.int .i64 300)))), false, []⟩,
        ⟨(some 22), none, (.p (.mv (.t 21))), false, []⟩,
        ⟨(some 23), (some (22, false)), (.p (.mv (.t 0))), false, []⟩,
        ⟨(some 24), (some (22, false)), (.p (.mv (.t 3))), false, []⟩,
        ⟨(some 25), (some (22, false)), (.p (.iaddr 4 (.t 23) (.t 24))), false, []⟩,
        ⟨(some 26), (some (22, false)), (.p (.faddr 2 (.t 25))), false, []⟩,
        ⟨(some 27), (some (22, false)), (.r (.load 1 false (.t 26))), false, []⟩,
        ⟨(some 28), (some (22, false)), (.p (.len (.t 27))), false, []⟩,
        ⟨(some 29), (some (22, false)), (.p (.bin .gtr (.t 28) (.c (.int .i64 40)))), false, []⟩,
        ⟨(some 30), none, (.p (.pick (.t 22) (.c (.bool true)) (.t 29))), false, []⟩,
        ⟨(some 31), none, (.p (.mv (.t 30))), false, []⟩,
        ⟨(some 32), (some (31, false)), (.p (.mv (.t 0))), false, []⟩,
        ⟨(some 33), (some (31, false)), (.p (.mv (.t 3))), false, []⟩,
        ⟨(some 34), (some (31, false)), (.p (.iaddr 4 (.t 32) (.t 33))), false, []⟩,
        ⟨(some 35), (some (31, false)), (.p (.faddr 3 (.t 34))), false, []⟩,
        ⟨(some 36), (some (31, false)), (.r (.load 1 false (.t 35))), false, []⟩,
        ⟨(some 37), (some (31, false)), (.p (.len (.t 36))), false, []⟩,
        ⟨(some 38), (some (31, false)), (.p (.bin .gtr (.t 37) (.c (.int .i64 40)))), false, []⟩,
        ⟨(some 39), none, (.p (.pick (.t 31) (.c (.bool true)) (.t 38))), false, []⟩] (some ⟨[0, 3, 39], [], false⟩))
      (.cond (.t 39)
       (.seq
        (.region 0 [⟨(some 2), none, (.p (.mv (.c (.bool true)))), false, []⟩] (some ⟨[2], [], false⟩))
        .ret)
       .skip))
     (.seq
      (.seq
       (.region 0 [⟨(some 4), none, (.p (.mv (.c (.int .i64 0)))), false, []⟩] (some ⟨[0, 3, 4], [], false⟩))
       (.block 2
        (.loop (some ⟨[0, 3, 4], [], true⟩) Try.c19b0)))
      (.seq
       (.region 0 [⟨(some 5), none, (.p (.mv (.c (.int .i64 0)))), false, []⟩] (some ⟨[0, 3, 5], [], false⟩))
       (.block 4
        (.loop (some ⟨[0, 3, 5], [], true⟩) Try.c19b1))))))
   (.region 0 [⟨(some 13), none, (.p (.mv (.t 3))), false, []⟩,
     ⟨(some 14), none, (.p (.bin .add (.t 13) (.c (.int .i64 1)))), false, []⟩,
     ⟨(some 3), none, (.p (.mv (.t 14))), false, []⟩] (some ⟨[0, 3], [], false⟩))))
def Try.c19 : AC :=
 (.seq
  (.region 0 [⟨(some 2), none, (.p (.mv (.c (.bool false)))), false, []⟩] (some ⟨[0], [], false⟩))
  (.seq
   (.seq
    (.region 0 [⟨(some 6), none, (.p (.mv (.t 0))), false, []⟩,
      ⟨(some 7), none, (.p (.len (.t 6))), false, []⟩,
      ⟨(some 8), none, (.p (.bin .gtr (.t 7) (.c (.int .i64 40)))), false, []⟩] (some ⟨[0, 8], [], false⟩))
    (.cond (.t 8)
     (.seq
      (.region 0 [⟨(some 2), none, (.p (.mv (.c (.bool true)))), false, []⟩] (some ⟨[2], [], false⟩))
      .ret)
     .skip))
   (.seq
    (.seq
     (.region 0 [⟨(some 3), none, (.p (.mv (.c (.int .i64 0)))), false, []⟩] (some ⟨[0, 3], [], false⟩))
     (.block 0
      (.loop (some ⟨[0, 3], [], true⟩) Try.c19b2)))
    (.seq
     (.region 0 [⟨(some 2), none, (.p (.mv (.c (.bool false)))), false, []⟩] (some ⟨[2], [], false⟩))
     .ret))))
theorem Try.run19 {xs : List AV} {r : AV} (hl : xs.length ≤ 80) (h : aw Try.prog Try.c19 (Pv.Ends [2] r) (entry xs)) : Run Try.prog 19 xs r :=
  run_of (fun _ _ => drawOk Try.mixed) Try.func19 rfl rfl rfl (by kernel_rfl) (by kernel_rfl) hl h
/-! 20 paling/policy.Text : params [31], results [30, 32], free 0, zeros [(.slice none 0 0)] -/
def Try.c20b0 : AC :=
 (.seq
  (.region 0 [⟨(some 26), none, (.p (.bin .lss (.t 25) (.t 24))), false, []⟩] (some ⟨[0, 4, 6, 7, 10, 11, 12, 23, 24, 25, 26], [], false⟩))
  (.seq
   (.cond (.t 26)
    .skip
    (.exit 2))
   (.seq
    (.block 3
     (.seq
      (.region 0 [⟨(some 27), none, (.p (.mv (.t 25))), false, []⟩,
        ⟨(some 28), none, (.p (.iaddr 1 (.t 23) (.t 25))), false, []⟩,
        ⟨(some 29), none, (.r (.load 1 false (.t 28))), false, []⟩,
        ⟨(some 8), none, (.p (.mv (.t 27))), false, []⟩,
        ⟨(some 9), none, (.p (.mv (.t 29))), false, []⟩] (some ⟨[0, 4, 6, 7, 8, 9, 10, 11, 12, 23, 24, 25], [], false⟩))
      (.region 0 [⟨(some 30), none, (.p (.mv (.t 7))), false, []⟩,
        ⟨(some 31), none, (.p (.mv (.t 9))), false, []⟩,
        ⟨(some 32), none, (.p (.bin .add (.t 31) (.c (.str [46])))), false, []⟩,
        ⟨(some 33), none, (.p (.faddr 3 (.t 6))), false, []⟩,
        ⟨(some 34), none, (.r (.load 1 false (.t 33))), false, []⟩,
        ⟨(some 35), none, (.p (.mv (.t 8))), false, []⟩,
        ⟨(some 36), none, (.p (.iaddr 1 (.t 34) (.t 35))), false, []⟩,
        ⟨(some 37), none, (.r (.load 1 false (.t 36))), false, []⟩,
        ⟨(some 38), none, (.p (.bin .add (.t 32) (.t 37))), false, []⟩,
        ⟨(some 39), none, (.e (.mks 9 1 (.str []) 1 [(0, (.t 38))]) none), false, []⟩,
        ⟨(some 40), none, (.e (.append 9 1 (.t 30) (.t 39)) none), false, []⟩,
        ⟨(some 7), none, (.p (.mv (.t 40))), false, []⟩] (some ⟨[0, 4, 6, 7, 10, 11, 12, 23, 24, 25], [], false⟩))))
    (.region 0 [⟨(some 41), none, (.p (.bin .add (.t 25) (.c (.int .i64 1)))), false, []⟩,
      ⟨(some 25), none, (.p (.mv (.t 41))), false, []⟩] (some ⟨[0, 4, 6, 7, 10, 11, 12, 23, 24, 25], [], false⟩)))))
def Try.c20b1 : AC :=
 (.seq
  (.region 0 [⟨(some 13), none, (.p (.bin .lss (.t 12) (.t 11))), false, []⟩] (some ⟨[0, 4, 10, 11, 12, 13], [], false⟩))
  (.seq
   (.cond (.t 13)
    .skip
    (.exit 0))
   (.seq
    (.block 1
     (.seq
      (.region 0 [⟨(some 14), none, (.p (.iaddr 4 (.t 10) (.t 12))), false, []⟩,
        ⟨(some 15), none, (.r (.load 4 true (.t 14))), false, []⟩,
        ⟨(some 6), none, (.e (.alloc 47 (.agg [(.int .i64 0), (.str []), (.sl 0 [] true), (.sl 0 [] true)])) none), false, []⟩,
        ⟨none, none, (.e (.store 4 (.t 6) (.t 15)) none), false, []⟩] (some ⟨[0, 4, 6, 10, 11, 12], [], false⟩))
      (.seq
       (.seq
        (.region 0 [⟨(some 16), none, (.r (.load 4 true (.t 6))), false, []⟩,
          ⟨(some 17), none, (.call 22 [(.t 16)] false), false, []⟩,
          ⟨(some 18), none, (.p (.un .not (.t 17))), false, []⟩] (some ⟨[0, 4, 6, 10, 11, 12, 18], [], false⟩))
        (.cond (.t 18)
         (.seq
          (.region 0 [⟨(some 2), none, (.p (.mv (.c (.sl 0 [] true)))), false, []⟩,
            ⟨(some 3), none, (.p (.mv (.c (.int .i64 2)))), false, []⟩] (some ⟨[2, 3], [], false⟩))
          .ret)
         .skip))
       (.seq
        (.region 0 [⟨(some 19), none, (.p (.faddr 1 (.t 6))), false, []⟩,
          ⟨(some 20), none, (.r (.load 1 false (.t 19))), false, []⟩,
          ⟨(some 21), none, (.e (.mks 9 1 (.str []) 2 [(0, (.c (.str [116, 101, 110, 97, 110, 116]))), (1, (.t 20))]) none), false, []⟩,
          ⟨(some 7), none, (.p (.mv (.t 21))), false, []⟩] (some ⟨[0, 4, 6, 7, 10, 11, 12], [], false⟩))
        (.seq
         (.seq
          (.region 0 [⟨(some 22), none, (.p (.faddr 2 (.t 6))), false, []⟩,
            ⟨(some 23), none, (.r (.load 1 false (.t 22))), false, []⟩,
            ⟨(some 24), none, (.p (.len (.t 23))), false, []⟩,
            ⟨(some 25), none, (.p (.mv (.c (.int .i64 0)))), false, []⟩] (some ⟨[0, 4, 6, 7, 10, 11, 12, 23, 24, 25], [], false⟩))
          (.block 2
           (.loop (some ⟨[0, 4, 6, 7, 10, 11, 12, 23, 24, 25], [(7, (1, 9))], true⟩) Try.c20b0)))
         (.region 0 [⟨(some 42), none, (.p (.mv (.t 4))), false, []⟩,
           ⟨(some 43), none, (.p (.mv (.t 7))), false, []⟩,
           ⟨(some 44), none, (.call 35 [(.t 43)] false), false, []⟩,
           ⟨(some 45), none, (.e (.append 5 1 (.t 42) (.t 44)) none), false, []⟩,
           ⟨(some 46), none, (.e (.mks 5 1 (.int .u8 0) 1 [(0, (.c (.int .u8 10)))]) none), false, []⟩,
           ⟨(some 47), none, (.e (.append 5 1 (.t 45) (.t 46)) none), false, []⟩,
           ⟨(some 4), none, (.p (.mv (.t 47))), false, []⟩] (some ⟨[0, 4, 10, 11, 12], [], false⟩)))))))
    (.region 0 [⟨(some 48), none, (.p (.bin .add (.t 12) (.c (.int .i64 1)))), false, []⟩,
      ⟨(some 12), none, (.p (.mv (.t 48))), false, []⟩] (some ⟨[0, 4, 10, 11, 12], [], false⟩)))))
def Try.c20 : AC :=
 (.seq
  (.region 0 [⟨(some 2), none, (.p (.mv (.c (.sl 0 [] true)))), false, []⟩,
    ⟨(some 3), none, (.p (.mv (.c (.int .i64 0)))), false, []⟩] (some ⟨[0], [], false⟩))
  (.seq
   (.region 0 [⟨(some 4), none, (.p (.mv (.c (.sl 0 [] true)))), false, []⟩] (some ⟨[0, 4], [], false⟩))
   (.seq
    (.seq
     (.region 0 [⟨(some 10), none, (.p (.mv (.t 0))), false, []⟩,
       ⟨(some 11), none, (.p (.len (.t 10))), false, []⟩,
       ⟨(some 12), none, (.p (.mv (.c (.int .i64 0)))), false, []⟩] (some ⟨[0, 4, 10, 11, 12], [], false⟩))
     (.block 0
      (.loop (some ⟨[0, 4, 10, 11, 12], [(4, (1, 5))], true⟩) Try.c20b1)))
    (.seq
     (.seq
      (.region 0 [⟨(some 49), none, (.p (.mv (.t 0))), false, []⟩,
        ⟨(some 50), none, (.p (.len (.t 49))), false, []⟩,
        ⟨(some 51), none, (.p (.bin .gtr (.t 50) (.c (.int .i64 10)))), false, []⟩,
        ⟨(some 52), none, (.p (.mv (.t 51))), false, []⟩,
        ⟨(some 53), (some (52, false)), (.p (.mv (.t 4))), false, []⟩,
        ⟨(some 54), (some (52, false)), (.p (.len (.t 53))), false, []⟩,
        ⟨(some 55), (some (52, false)), (.p (.bin .gtr (.t 54) (.c (.int .i64 20000)))), false, []⟩,
        ⟨(some 56), none, (.p (.pick (.t 52) (.c (.bool true)) (.t 55))), false, []⟩] (some ⟨[4, 56], [], false⟩))
      (.cond (.t 56)
       (.seq
        (.region 0 [⟨(some 2), none, (.p (.mv (.c (.sl 0 [] true)))), false, []⟩,
          ⟨(some 3), none, (.p (.mv (.c (.int .i64 3)))), false, []⟩] (some ⟨[2, 3], [], false⟩))
        .ret)
       .skip))
     (.seq
      (.region 0 [⟨(some 57), none, (.p (.mv (.t 4))), false, []⟩,
        ⟨(some 2), none, (.p (.mv (.t 57))), false, []⟩,
        ⟨(some 3), none, (.p (.mv (.c (.int .i64 0)))), false, []⟩] (some ⟨[2, 3], [], false⟩))
      .ret)))))
theorem Try.run20 {xs : List AV} {r : AV} (hl : xs.length ≤ 58) (h : aw Try.prog Try.c20 (Pv.Ends [2, 3] r) (entry xs)) : Run Try.prog 20 xs r :=
  run_of (fun _ _ => drawOk Try.mixed) Try.func20 rfl rfl rfl (by kernel_rfl) (by kernel_rfl) hl h
/-! 22 paling/policy.Right : params [47], results [4], free 0, zeros [(.agg #[(.int .i64 (0)), (.string ⟨#[]⟩), (.slice none 0 0), (.slice none 0 0)])] -/
def Try.c22 : AC :=
 (.seq
  (.region 0 [⟨(some 1), none, (.e (.box 47 (.t 0)) none), false, []⟩,
    ⟨(some 2), none, (.p (.mv (.c (.bool false)))), false, []⟩] (some ⟨[1], [], false⟩))
  (.seq
   (.region 0 [⟨(some 3), none, (.p (.mv (.c (.fn 38 [])))), false, []⟩] (some ⟨[1, 3], [], false⟩))
   (.seq
    (.region 0 [⟨(some 4), none, (.p (.faddr 1 (.t 1))), false, []⟩,
      ⟨(some 5), none, (.r (.load 1 false (.t 4))), false, []⟩,
      ⟨(some 6), none, (.call 13 [(.t 5)] false), false, []⟩,
      ⟨(some 7), none, (.p (.mv (.t 6))), false, []⟩,
      ⟨(some 8), (some (7, true)), (.p (.faddr 2 (.t 1))), false, []⟩,
      ⟨(some 9), (some (7, true)), (.r (.load 1 false (.t 8))), false, []⟩,
      ⟨(some 10), (some (7, true)), (.p (.len (.t 9))), false, []⟩,
      ⟨(some 11), (some (7, true)), (.p (.faddr 3 (.t 1))), false, []⟩,
      ⟨(some 12), (some (7, true)), (.r (.load 1 false (.t 11))), false, []⟩,
      ⟨(some 13), (some (7, true)), (.p (.len (.t 12))), false, []⟩,
      ⟨(some 14), (some (7, true)), (.p (.bin .eql (.t 10) (.t 13))), false, []⟩,
      ⟨(some 15), none, (.p (.pick (.t 7) (.t 14) (.c (.bool false)))), false, []⟩,
      ⟨(some 16), none, (.p (.mv (.t 15))), false, []⟩,
      ⟨(some 17), (some (16, true)), (.p (.faddr 2 (.t 1))), false, []⟩,
      ⟨(some 18), (some (16, true)), (.r (.load 1 false (.t 17))), false, []⟩,
      ⟨(some 19), (some (16, true)), (.p (.len (.t 18))), false, []⟩,
      ⟨(some 20), (some (16, true)), (.p (.bin .gtr (.t 19) (.c (.int .i64 0)))), false, []⟩,
      ⟨(some 21), none, (.p (.pick (.t 16) (.t 20) (.c (.bool false)))), false, []⟩,
      ⟨(some 22), none, (.p (.mv (.t 21))), false, []⟩,
      ⟨(some 23), (some (22, true)), (.p (.faddr 2 (.t 1))), false, []⟩,
      ⟨(some 24), (some (22, true)), (.r (.load 1 false (.t 23))), false, []⟩,
      ⟨(some 25), (some (22, true)), (.p (.len (.t 24))), false, []⟩,
      ⟨(some 26), (some (22, true)), (.p (.bin .leq (.t 25) (.c (.int .i64 16)))), false, []⟩,
      ⟨(some 27), none, (.p (.pick (.t 22) (.t 26) (.c (.bool false)))), false, []⟩,
      ⟨(some 28), none, (.p (.mv (.t 27))), false, []⟩,
      ⟨(some 29), (some (28, true)), (.p (.faddr 2 (.t 1))), false, []⟩,
      ⟨(some 30), (some (28, true)), (.r (.load 1 false (.t 29))), false, []⟩,
      ⟨(some 31), (some (28, true)), (.p (.mv (.t 3))), false, []⟩,
      ⟨(some 32), (some (28, true)), (.call 39 [(.t 30), (.t 31)] false), false, []⟩,
      ⟨(some 33), (some (28, true)), (.p (.un .not (.t 32))), false, []⟩,
      ⟨(some 34), none, (.p (.pick (.t 28) (.t 33) (.c (.bool false)))), false, []⟩,
      ⟨(some 35), none, (.p (.mv (.t 34))), false, []⟩,
      ⟨(some 36), (some (35, true)), (.p (.faddr 3 (.t 1))), false, []⟩,
      ⟨(some 37), (some (35, true)), (.r (.load 1 false (.t 36))), false, []⟩,
      ⟨(some 38), (some (35, true)), (.p (.mv (.t 3))), false, []⟩,
      ⟨(some 39), (some (35, true)), (.call 39 [(.t 37), (.t 38)] false), false, []⟩,
      ⟨(some 40), (some (35, true)), (.p (.un .not (.t 39))), false, []⟩,
      ⟨(some 41), none, (.p (.pick (.t 35) (.t 40) (.c (.bool false)))), false, []⟩,
      ⟨(some 2), none, (.p (.mv (.t 41))), false, []⟩] (some ⟨[2], [], false⟩))
    .ret)))
theorem Try.run22 {xs : List AV} {r : AV} (hl : xs.length ≤ 42) (h : aw Try.prog Try.c22 (Pv.Ends [2] r) (entry xs)) : Run Try.prog 22 xs r :=
  run_of (fun _ _ => drawOk Try.mixed) Try.func22 rfl rfl rfl (by kernel_rfl) (by kernel_rfl) hl h
/-! 24 paling/policy.Same : params [31, 31], results [4], free 0, zeros [(.slice none 0 0), (.slice none 0 0)] -/
def Try.c24 : AC :=
 (.seq
  (.region 0 [⟨(some 4), none, (.p (.mv (.c (.bool false)))), false, []⟩] (some ⟨[0, 1], [], false⟩))
  (.seq
   (.region 0 [⟨(some 5), none, (.p (.mv (.t 0))), false, []⟩,
     ⟨(some 6), none, (.p (.mv (.t 1))), false, []⟩,
     ⟨(some 7), none, (.call 40 [(.t 5), (.t 6), (.c (.fn 41 []))] false), false, []⟩,
     ⟨(some 4), none, (.p (.mv (.t 7))), false, []⟩] (some ⟨[4], [], false⟩))
   .ret))
theorem Try.run24 {xs : List AV} {r : AV} (hl : xs.length ≤ 8) (h : aw Try.prog Try.c24 (Pv.Ends [4] r) (entry xs)) : Run Try.prog 24 xs r :=
  run_of (fun _ _ => drawOk Try.mixed) Try.func24 rfl rfl rfl (by kernel_rfl) (by kernel_rfl) hl h
/-! 29 paling/line.Rows : params [30], results [45, 32], free 0, zeros [(.slice none 0 0)] -/
def Try.c29b0 : AC :=
 (.seq
  (.seq
   (.region 0 [⟨(some 12), none, (.p (.mv (.t 5))), false, []⟩,
     ⟨(some 13), none, (.p (.bin .neq (.t 12) (.c (.str [])))), false, []⟩] (some ⟨[4, 5, 13], [], false⟩))
   (.cond (.t 13)
    .skip
    (.exit 0)))
  (.block 1
   (.seq
    (.region 0 [⟨(some 6), none, (.p (.mv (.c (.str [])))), false, []⟩] (some ⟨[4, 5], [], false⟩))
    (.seq
     (.region 0 [⟨(some 15), none, (.p (.mv (.t 5))), false, []⟩,
       ⟨(some 16), none, (.call 47 [(.t 15), (.c (.str [10]))] false), false, []⟩,
       ⟨(some 14), none, (.p (.mv (.t 16))), false, []⟩,
       ⟨(some 17), none, (.p (.ext (.t 14) 0)), false, []⟩,
       ⟨(some 18), none, (.p (.ext (.t 14) 1)), false, []⟩,
       ⟨(some 19), none, (.p (.ext (.t 14) 2)), false, []⟩,
       ⟨(some 6), none, (.p (.mv (.t 17))), false, []⟩,
       ⟨(some 5), none, (.p (.mv (.t 18))), false, []⟩] (some ⟨[4, 5, 6], [], false⟩))
     (.region 0 [⟨(some 20), none, (.p (.mv (.t 4))), false, []⟩,
       ⟨(some 21), none, (.p (.mv (.t 6))), false, []⟩,
       ⟨(some 22), none, (.e (.mks 9 1 (.str []) 1 [(0, (.t 21))]) none), false, []⟩,
       ⟨(some 23), none, (.e (.append 9 1 (.t 20) (.t 22)) none), false, []⟩,
       ⟨(some 4), none, (.p (.mv (.t 23))), false, []⟩] (some ⟨[4, 5], [], false⟩))))))
def Try.c29 : AC :=
 (.seq
  (.region 0 [⟨(some 2), none, (.p (.mv (.c (.sl 0 [] true)))), false, []⟩,
    ⟨(some 3), none, (.p (.mv (.c (.int .i64 0)))), false, []⟩] (some ⟨[0], [], false⟩))
  (.seq
   (.seq
    (.region 0 [⟨(some 7), none, (.p (.mv (.t 0))), false, []⟩,
      ⟨(some 8), none, (.p (.len (.t 7))), false, []⟩,
      ⟨(some 9), none, (.p (.bin .gtr (.t 8) (.c (.int .i64 20000)))), false, []⟩] (some ⟨[0, 9], [], false⟩))
    (.cond (.t 9)
     (.seq
      (.region 0 [⟨(some 2), none, (.p (.mv (.c (.sl 0 [] true)))), false, []⟩,
        ⟨(some 3), none, (.p (.mv (.c (.int .i64 3)))), false, []⟩] (some ⟨[2, 3], [], false⟩))
      .ret)
     .skip))
   (.seq
    (.region 0 [⟨(some 4), none, (.p (.mv (.c (.sl 0 [] true)))), false, []⟩] (some ⟨[0, 4], [], false⟩))
    (.seq
     (.seq
      (.region 0 [⟨(some 10), none, (.p (.mv (.t 0))), false, []⟩,
        ⟨(some 11), none, (.r (.b2s (.t 10))), false, []⟩,
        ⟨(some 5), none, (.p (.mv (.t 11))), false, []⟩] (some ⟨[4, 5], [], false⟩))
      (.block 0
       (.loop (some ⟨[4, 5], [(4, (1, 9))], true⟩) Try.c29b0)))
     (.seq
      (.seq
       (.region 0 [⟨(some 24), none, (.p (.mv (.t 4))), false, []⟩,
         ⟨(some 25), none, (.p (.len (.t 24))), false, []⟩,
         ⟨(some 26), none, (.p (.bin .gtr (.t 25) (.c (.int .i64 400)))), false, []⟩] (some ⟨[4, 26], [], false⟩))
       (.cond (.t 26)
        (.seq
         (.region 0 [⟨(some 2), none, (.p (.mv (.c (.sl 0 [] true)))), false, []⟩,
           ⟨(some 3), none, (.p (.mv (.c (.int .i64 3)))), false, []⟩] (some ⟨[2, 3], [], false⟩))
         .ret)
        .skip))
      (.seq
       (.region 0 [⟨(some 27), none, (.p (.mv (.t 4))), false, []⟩,
         ⟨(some 2), none, (.p (.mv (.t 27))), false, []⟩,
         ⟨(some 3), none, (.p (.mv (.c (.int .i64 0)))), false, []⟩] (some ⟨[2, 3], [], false⟩))
       .ret))))))
theorem Try.run29 {xs : List AV} {r : AV} (hl : xs.length ≤ 28) (h : aw Try.prog Try.c29 (Pv.Ends [2, 3] r) (entry xs)) : Run Try.prog 29 xs r :=
  run_of (fun _ _ => drawOk Try.mixed) Try.func29 rfl rfl rfl (by kernel_rfl) (by kernel_rfl) hl h
/-! 30 paling/line.Words : params [9], results [45, 32], free 0, zeros [(.string ⟨#[]⟩)] -/
def Try.c30b0 : AC :=
 (.seq
  (.region 0 [⟨(some 12), none, (.p (.bin .lss (.t 11) (.t 10))), false, []⟩] (some ⟨[4, 9, 10, 11, 12], [], false⟩))
  (.seq
   (.cond (.t 12)
    .skip
    (.exit 0))
   (.seq
    (.block 1
     (.seq
      (.region 0 [⟨(some 13), none, (.p (.iaddr 1 (.t 9) (.t 11))), false, []⟩,
        ⟨(some 14), none, (.r (.load 1 false (.t 13))), false, []⟩,
        ⟨(some 6), none, (.p (.mv (.t 14))), false, []⟩] (some ⟨[4, 6, 9, 10, 11], [], false⟩))
      (.seq
       (.region 0 [⟨(some 15), none, (.p (.mv (.t 6))), false, []⟩,
         ⟨(some 16), none, (.call 49 [(.t 15)] false), false, []⟩,
         ⟨(some 17), none, (.p (.un .not (.t 16))), false, []⟩] (some ⟨[4, 9, 10, 11, 17], [], false⟩))
       (.cond (.t 17)
        (.seq
         (.region 0 [⟨(some 2), none, (.p (.mv (.c (.sl 0 [] true)))), false, []⟩,
           ⟨(some 3), none, (.p (.mv (.c (.int .i64 20)))), false, []⟩] (some ⟨[2, 3], [], false⟩))
         .ret)
        .skip))))
    (.region 0 [⟨(some 18), none, (.p (.bin .add (.t 11) (.c (.int .i64 1)))), false, []⟩,
      ⟨(some 11), none, (.p (.mv (.t 18))), false, []⟩] (some ⟨[4, 9, 10, 11], [], false⟩)))))
def Try.c30 : AC :=
 (.seq
  (.region 0 [⟨(some 2), none, (.p (.mv (.c (.sl 0 [] true)))), false, []⟩,
    ⟨(some 3), none, (.p (.mv (.c (.int .i64 0)))), false, []⟩] (some ⟨[0], [], false⟩))
  (.seq
   (.region 0 [⟨(some 7), none, (.p (.mv (.t 0))), false, []⟩,
     ⟨(some 8), none, (.call 48 [(.t 7)] false), false, []⟩,
     ⟨(some 4), none, (.p (.mv (.t 8))), false, []⟩] (some ⟨[4], [], false⟩))
   (.seq
    (.seq
     (.region 0 [⟨(some 9), none, (.p (.mv (.t 4))), false, []⟩,
       ⟨(some 10), none, (.p (.len (.t 9))), false, []⟩,
       ⟨(some 11), none, (.p (.mv (.c (.int .i64 0)))), false, []⟩] (some ⟨[4, 9, 10, 11], [], false⟩))
     (.block 0
      (.loop (some ⟨[4, 9, 10, 11], [], true⟩) Try.c30b0)))
    (.seq
     (.region 0 [⟨(some 19), none, (.p (.mv (.t 4))), false, []⟩,
       ⟨(some 2), none, (.p (.mv (.t 19))), false, []⟩,
       ⟨(some 3), none, (.p (.mv (.c (.int .i64 0)))), false, []⟩] (some ⟨[2, 3], [], false⟩))
     .ret))))
theorem Try.run30 {xs : List AV} {r : AV} (hl : xs.length ≤ 20) (h : aw Try.prog Try.c30 (Pv.Ends [2, 3] r) (entry xs)) : Run Try.prog 30 xs r :=
  run_of (fun _ _ => drawOk Try.mixed) Try.func30 rfl rfl rfl (by kernel_rfl) (by kernel_rfl) hl h
/-! 31 paling/policy.tenant : params [45, 3], results [47, 32], free 0, zeros [(.slice none 0 0), (.int .i64 (0))] -/
def Try.c31b0 : AC :=
 (.seq
  (.region 0 [⟨(some 40), none, (.p (.bin .lss (.t 39) (.t 38))), false, []⟩] (some ⟨[4, 6, 37, 38, 39, 40], [], false⟩))
  (.seq
   (.cond (.t 40)
    .skip
    (.exit 0))
   (.seq
    (.block 1
     (.seq
      (.region 0 [⟨(some 41), none, (.p (.iaddr 1 (.t 37) (.t 39))), false, []⟩,
        ⟨(some 42), none, (.r (.load 1 false (.t 41))), false, []⟩,
        ⟨(some 8), none, (.p (.mv (.t 42))), false, []⟩] (some ⟨[4, 6, 8, 37, 38, 39], [], false⟩))
      (.seq
       (.region 0 [⟨(some 44), none, (.p (.mv (.t 8))), false, []⟩,
         ⟨(some 45), none, (.call 50 [(.t 44)] false), false, []⟩,
         ⟨(some 43), none, (.p (.mv (.t 45))), false, []⟩,
         ⟨(some 46), none, (.p (.ext (.t 43) 0)), false, []⟩,
         ⟨(some 47), none, (.p (.ext (.t 43) 1)), false, []⟩,
         ⟨(some 9), none, (.e (.alloc 76 (.agg [(.str []), (.str [])])) none), false, []⟩,
         ⟨none, none, (.e (.store 2 (.t 9) (.t 46)) none), false, []⟩,
         ⟨(some 10), none, (.p (.mv (.t 47))), false, []⟩] (some ⟨[4, 6, 9, 10, 37, 38, 39], [], false⟩))
       (.seq
        (.seq
         (.region 0 [⟨(some 48), none, (.p (.mv (.t 10))), false, []⟩,
           ⟨(some 49), none, (.p (.un .not (.t 48))), false, []⟩] (some ⟨[4, 6, 9, 37, 38, 39, 49], [], false⟩))
         (.cond (.t 49)
          (.seq
           (.region 0 [⟨(some 50), none, (.p (.build [(.int .i64 0), (.str []), (.sl 0 [] true), (.sl 0 [] true)] [])), false, []⟩,
             ⟨none, none, (.e (.store 4 (.t 4) (.t 50)) none), false, []⟩,
             ⟨(some 5), none, (.p (.mv (.c (.int .i64 20)))), false, []⟩] (some ⟨[4, 5], [], false⟩))
           .ret)
          .skip))
        (.region 16 [⟨(some 51), none, (.p (.faddr 2 (.t 6))), true, []⟩,
          ⟨(some 52), none, (.r (.load 1 false (.t 51))), true, []⟩,
          ⟨(some 53), none, (.p (.aaddr 2 1 (.t 9) (.c (.int .i64 0)))), true, []⟩,
          ⟨(some 54), none, (.r (.load 1 false (.t 53))), true, []⟩,
          ⟨(some 57), none, (.p (.faddr 3 (.t 6))), true, []⟩,
          ⟨(some 58), none, (.r (.load 1 false (.t 57))), true, [9]⟩,
          ⟨(some 59), none, (.p (.aaddr 2 1 (.t 9) (.c (.int .i64 1)))), true, []⟩,
          ⟨(some 60), none, (.r (.load 1 false (.t 59))), true, [9]⟩,
          ⟨(some 55), none, (.e (.mks 9 1 (.str []) 1 [(0, (.t 54))]) (some 4)), true, []⟩,
          ⟨(some 56), none, (.e (.append 9 1 (.t 52) (.t 55)) (some 5)), true, []⟩,
          ⟨(some 63), none, (.p (.faddr 2 (.t 6))), true, []⟩,
          ⟨(some 61), none, (.e (.mks 9 1 (.str []) 1 [(0, (.t 60))]) (some 10)), true, []⟩,
          ⟨(some 62), none, (.e (.append 9 1 (.t 58) (.t 61)) (some 11)), true, []⟩,
          ⟨none, none, (.e (.store 1 (.t 63) (.t 56)) (some 13)), true, []⟩,
          ⟨(some 64), none, (.p (.faddr 3 (.t 6))), true, []⟩,
          ⟨none, none, (.e (.store 1 (.t 64) (.t 62)) (some 15)), true, []⟩] (some ⟨[4, 6, 37, 38, 39], [], true⟩))))))
    (.region 0 [⟨(some 65), none, (.p (.bin .add (.t 39) (.c (.int .i64 1)))), false, []⟩,
      ⟨(some 39), none, (.p (.mv (.t 65))), false, []⟩] (some ⟨[4, 6, 37, 38, 39], [], false⟩)))))
def Try.c31 : AC :=
 (.seq
  (.region 0 [⟨(some 4), none, (.e (.alloc 47 (.agg [(.int .i64 0), (.str []), (.sl 0 [] true), (.sl 0 [] true)])) none), false, []⟩,
    ⟨(some 5), none, (.p (.mv (.c (.int .i64 0)))), false, []⟩] (some ⟨[0, 1, 4], [], false⟩))
  (.seq
   (.seq
    (.region 0 [⟨(some 11), none, (.p (.mv (.t 0))), false, []⟩,
      ⟨(some 12), none, (.p (.iaddr 1 (.t 11) (.c (.int .i64 0)))), false, []⟩,
      ⟨(some 13), none, (.r (.load 1 false (.t 12))), false, []⟩,
      ⟨(some 14), none, (.p (.bin .neq (.t 13) (.c (.str [116, 101, 110, 97, 110, 116])))), false, []⟩,
      ⟨(some 15), none, (.p (.mv (.t 14))), false, []⟩,
      ⟨(some 16), (some (15, false)), (.p (.mv (.t 0))), false, []⟩,
      ⟨(some 17), (some (15, false)), (.p (.len (.t 16))), false, []⟩,
      ⟨(some 18), (some (15, false)), (.p (.bin .leq (.t 17) (.c (.int .i64 2)))), false, []⟩,
      ⟨(some 19), none, (.p (.pick (.t 15) (.c (.bool true)) (.t 18))), false, []⟩,
      ⟨(some 20), none, (.p (.mv (.t 19))), false, []⟩,
      ⟨(some 21), (some (20, false)), (.p (.mv (.t 0))), false, []⟩,
      ⟨(some 22), (some (20, false)), (.p (.len (.t 21))), false, []⟩,
      ⟨(some 23), (some (20, false)), (.p (.bin .gtr (.t 22) (.c (.int .i64 18)))), false, []⟩,
      ⟨(some 24), none, (.p (.pick (.t 20) (.c (.bool true)) (.t 23))), false, []⟩] (some ⟨[0, 1, 4, 24], [], false⟩))
    (.cond (.t 24)
     (.seq
      (.region 0 [⟨(some 25), none, (.p (.build [(.int .i64 0), (.str []), (.sl 0 [] true), (.sl 0 [] true)] [])), false, []⟩,
        ⟨none, none, (.e (.store 4 (.t 4) (.t 25)) none), false, []⟩,
        ⟨(some 5), none, (.p (.mv (.c (.int .i64 22)))), false, []⟩] (some ⟨[4, 5], [], false⟩))
      .ret)
     .skip))
   (.seq
    (.region 0 [⟨(some 26), none, (.p (.mv (.t 1))), false, []⟩,
      ⟨(some 27), none, (.p (.mv (.t 0))), false, []⟩,
      ⟨(some 28), none, (.p (.iaddr 1 (.t 27) (.c (.int .i64 1)))), false, []⟩,
      ⟨(some 29), none, (.r (.load 1 false (.t 28))), false, []⟩,
      ⟨(some 30), none, (.p (.build [(.int .i64 0), (.str []), (.sl 0 [] true), (.sl 0 [] true)] [(0, 1, (.t 26)), (1, 1, (.t 29))])), false, []⟩,
      ⟨(some 6), none, (.e (.alloc 47 (.agg [(.int .i64 0), (.str []), (.sl 0 [] true), (.sl 0 [] true)])) none), false, []⟩,
      ⟨none, none, (.e (.store 4 (.t 6) (.t 30)) none), false, []⟩] (some ⟨[0, 4, 6], [], false⟩))
    (.seq
     (.seq
      (.region 0 [⟨(some 31), none, (.p (.faddr 1 (.t 6))), false, []⟩,
        ⟨(some 32), none, (.r (.load 1 false (.t 31))), false, []⟩,
        ⟨(some 33), none, (.call 13 [(.t 32)] false), false, []⟩,
        ⟨(some 34), none, (.p (.un .not (.t 33))), false, []⟩] (some ⟨[0, 4, 6, 34], [], false⟩))
      (.cond (.t 34)
       (.seq
        (.region 0 [⟨(some 35), none, (.p (.build [(.int .i64 0), (.str []), (.sl 0 [] true), (.sl 0 [] true)] [])), false, []⟩,
          ⟨none, none, (.e (.store 4 (.t 4) (.t 35)) none), false, []⟩,
          ⟨(some 5), none, (.p (.mv (.c (.int .i64 20)))), false, []⟩] (some ⟨[4, 5], [], false⟩))
        .ret)
       .skip))
     (.seq
      (.seq
       (.region 0 [⟨(some 36), none, (.p (.mv (.t 0))), false, []⟩,
         ⟨(some 37), none, (.p (.slicev 1 (.t 36) (some (.c (.int .i64 2))) none none)), false, []⟩,
         ⟨(some 38), none, (.p (.len (.t 37))), false, []⟩,
         ⟨(some 39), none, (.p (.mv (.c (.int .i64 0)))), false, []⟩] (some ⟨[4, 6, 37, 38, 39], [], false⟩))
       (.block 0
        (.loop (some ⟨[4, 6, 37, 38, 39], [], true⟩) Try.c31b0)))
      (.seq
       (.region 0 [⟨(some 66), none, (.r (.load 4 true (.t 6))), false, []⟩,
         ⟨none, none, (.e (.store 4 (.t 4) (.t 66)) none), false, []⟩,
         ⟨(some 5), none, (.p (.mv (.c (.int .i64 0)))), false, []⟩] (some ⟨[4, 5], [], false⟩))
       .ret))))))
theorem Try.run31 {xs : List AV} {r : AV} (hl : xs.length ≤ 67) (h : aw Try.prog Try.c31 (Pv.EndsX (rvs [.c 4 4 true, .t 5]) r) (entry xs)) : Run Try.prog 31 xs r :=
  run_ofC (fun _ _ => drawOk Try.mixed) Try.func31 rfl rfl (by kernel_rfl) (by kernel_rfl) (by kernel_rfl) hl h
/-! 35 paling/line.Join : params [45], results [9], free 0, zeros [(.slice none 0 0)] -/
def Try.c35 : AC :=
 (.seq
  (.region 0 [⟨(some 2), none, (.p (.mv (.c (.str [])))), false, []⟩] (some ⟨[0], [], false⟩))
  (.seq
   (.region 0 [⟨(some 3), none, (.p (.mv (.t 0))), false, []⟩,
     ⟨(some 4), none, (.call 53 [(.t 3), (.c (.str [32]))] false), false, []⟩,
     ⟨(some 2), none, (.p (.mv (.t 4))), false, []⟩] (some ⟨[2], [], false⟩))
   .ret))
theorem Try.run35 {xs : List AV} {r : AV} (hl : xs.length ≤ 5) (h : aw Try.prog Try.c35 (Pv.Ends [2] r) (entry xs)) : Run Try.prog 35 xs r :=
  run_of (fun _ _ => drawOk Try.mixed) Try.func35 rfl rfl rfl (by kernel_rfl) (by kernel_rfl) hl h
/-! 38 paling/policy.Right.1 : params [9], results [4], free 0, zeros [(.string ⟨#[]⟩)] -/
def Try.c38 : AC :=
 (.seq
  (.region 0 [⟨(some 2), none, (.p (.mv (.c (.bool false)))), false, []⟩] (some ⟨[0], [], false⟩))
  (.seq
   (.region 0 [⟨(some 3), none, (.p (.mv (.t 0))), false, []⟩,
     ⟨(some 4), none, (.call 13 [(.t 3)] false), false, []⟩,
     ⟨(some 5), none, (.p (.un .not (.t 4))), false, []⟩,
     ⟨(some 2), none, (.p (.mv (.t 5))), false, []⟩] (some ⟨[2], [], false⟩))
   .ret))
theorem Try.run38 {xs : List AV} {r : AV} (hl : xs.length ≤ 6) (h : aw Try.prog Try.c38 (Pv.Ends [2] r) (entry xs)) : Run Try.prog 38 xs r :=
  run_of (fun _ _ => drawOk Try.mixed) Try.func38 rfl rfl rfl (by kernel_rfl) (by kernel_rfl) hl h
/-! 39 slices.ContainsFunc[[]string,string] : params [45, 26], results [4], free 0, zeros [(.slice none 0 0), .nilFunc] -/
def Try.c39 : AC :=
 (.seq
  (.region 0 [⟨(some 4), none, (.p (.mv (.c (.bool false)))), false, []⟩] (some ⟨[0, 1], [], false⟩))
  (.seq
   (.region 0 [⟨(some 5), none, (.p (.mv (.t 0))), false, []⟩,
     ⟨(some 6), none, (.p (.mv (.t 1))), false, []⟩,
     ⟨(some 7), none, (.call 54 [(.t 5), (.t 6)] false), false, []⟩,
     ⟨(some 8), none, (.p (.bin .geq (.t 7) (.c (.int .i64 0)))), false, []⟩,
     ⟨(some 4), none, (.p (.mv (.t 8))), false, []⟩] (some ⟨[4], [], false⟩))
   .ret))
theorem Try.run39 {xs : List AV} {r : AV} (hl : xs.length ≤ 9) (h : aw Try.prog Try.c39 (Pv.Ends [4] r) (entry xs)) : Run Try.prog 39 xs r :=
  run_of (fun _ _ => drawOk Try.mixed) Try.func39 rfl rfl rfl (by kernel_rfl) (by kernel_rfl) hl h
/-! 40 slices.EqualFunc[[]paling/api.Tenant,[]paling/api.Tenant,paling/api.Tenant,paling/api.Tenant] : params [31, 31, 70], results [4], free 0, zeros [(.slice none 0 0), (.slice none 0 0), .nilFunc] -/
def Try.c40b0 : AC :=
 (.seq
  (.region 0 [⟨(some 18), none, (.p (.bin .lss (.t 17) (.t 16))), false, []⟩] (some ⟨[1, 2, 15, 16, 17, 18], [], false⟩))
  (.seq
   (.cond (.t 18)
    .skip
    (.exit 0))
   (.seq
    (.block 1
     (.seq
      (.region 0 [⟨(some 19), none, (.p (.mv (.t 17))), false, []⟩,
        ⟨(some 20), none, (.p (.iaddr 4 (.t 15) (.t 17))), false, []⟩,
        ⟨(some 21), none, (.r (.load 4 true (.t 20))), false, []⟩,
        ⟨(some 8), none, (.e (.alloc 47 (.agg [(.int .i64 0), (.str []), (.sl 0 [] true), (.sl 0 [] true)])) none), false, []⟩,
        ⟨(some 7), none, (.p (.mv (.t 19))), false, []⟩,
        ⟨none, none, (.e (.store 4 (.t 8) (.t 21)) none), false, []⟩] (some ⟨[1, 2, 7, 8, 15, 16, 17], [], false⟩))
      (.seq
       (.region 0 [⟨(some 22), none, (.p (.mv (.t 1))), false, []⟩,
         ⟨(some 23), none, (.p (.mv (.t 7))), false, []⟩,
         ⟨(some 24), none, (.p (.iaddr 4 (.t 22) (.t 23))), false, []⟩,
         ⟨(some 25), none, (.r (.load 4 true (.t 24))), false, []⟩,
         ⟨(some 9), none, (.e (.alloc 47 (.agg [(.int .i64 0), (.str []), (.sl 0 [] true), (.sl 0 [] true)])) none), false, []⟩,
         ⟨none, none, (.e (.store 4 (.t 9) (.t 25)) none), false, []⟩] (some ⟨[1, 2, 8, 9, 15, 16, 17], [], false⟩))
       (.seq
        (.region 0 [⟨(some 26), none, (.p (.mv (.t 2))), false, []⟩,
          ⟨(some 27), none, (.r (.load 4 true (.t 8))), false, []⟩,
          ⟨(some 28), none, (.r (.load 4 true (.t 9))), false, []⟩,
          ⟨(some 29), none, (.callv (.t 26) [(.t 27), (.t 28)]), false, []⟩,
          ⟨(some 30), none, (.p (.un .not (.t 29))), false, []⟩] (some ⟨[1, 2, 15, 16, 17, 30], [], false⟩))
        (.cond (.t 30)
         (.seq
          (.region 0 [⟨(some 6), none, (.p (.mv (.c (.bool false)))), false, []⟩] (some ⟨[6], [], false⟩))
          .ret)
         .skip)))))
    (.region 0 [⟨(some 31), none, (.p (.bin .add (.t 17) (.c (.int .i64 1)))), false, []⟩,
      ⟨(some 17), none, (.p (.mv (.t 31))), false, []⟩] (some ⟨[1, 2, 15, 16, 17], [], false⟩)))))
def Try.c40 : AC :=
 (.seq
  (.region 0 [⟨(some 6), none, (.p (.mv (.c (.bool false)))), false, []⟩] (some ⟨[0, 1, 2], [], false⟩))
  (.seq
   (.seq
    (.region 0 [⟨(some 10), none, (.p (.mv (.t 0))), false, []⟩,
      ⟨(some 11), none, (.p (.len (.t 10))), false, []⟩,
      ⟨(some 12), none, (.p (.mv (.t 1))), false, []⟩,
      ⟨(some 13), none, (.p (.len (.t 12))), false, []⟩,
      ⟨(some 14), none, (.p (.bin .neq (.t 11) (.t 13))), false, []⟩] (some ⟨[0, 1, 2, 14], [], false⟩))
    (.cond (.t 14)
     (.seq
      (.region 0 [⟨(some 6), none, (.p (.mv (.c (.bool false)))), false, []⟩] (some ⟨[6], [], false⟩))
      .ret)
     .skip))
   (.seq
    (.seq
     (.region 0 [⟨(some 15), none, (.p (.mv (.t 0))), false, []⟩,
       ⟨(some 16), none, (.p (.len (.t 15))), false, []⟩,
       ⟨(some 17), none, (.p (.mv (.c (.int .i64 0)))), false, []⟩] (some ⟨[1, 2, 15, 16, 17], [], false⟩))
     (.block 0
      (.loop (some ⟨[1, 2, 15, 16, 17], [], true⟩) Try.c40b0)))
    (.seq
     (.region 0 [⟨(some 6), none, (.p (.mv (.c (.bool true)))), false, []⟩] (some ⟨[6], [], false⟩))
     .ret))))
theorem Try.run40 {xs : List AV} {r : AV} (hl : xs.length ≤ 32) (h : aw Try.prog Try.c40 (Pv.Ends [6] r) (entry xs)) : Run Try.prog 40 xs r :=
  run_of (fun _ _ => drawOk Try.mixed) Try.func40 rfl rfl rfl (by kernel_rfl) (by kernel_rfl) hl h
/-! 41 paling/policy.Same.1 : params [47, 47], results [4], free 0, zeros [(.agg #[(.int .i64 (0)), (.string ⟨#[]⟩), (.slice none 0 0), (.slice none 0 0)]), (.agg #[(.int .i64 (0)), (.string ⟨#[]⟩), (.slice none 0 0), (.slice none 0 0)])] -/
def Try.c41 : AC :=
 (.seq
  (.region 0 [⟨(some 2), none, (.e (.box 47 (.t 0)) none), false, []⟩,
    ⟨(some 3), none, (.e (.box 47 (.t 1)) none), false, []⟩,
    ⟨(some 4), none, (.p (.mv (.c (.bool false)))), false, []⟩] (some ⟨[2, 3], [], false⟩))
  (.seq
   (.region 0 [⟨(some 5), none, (.p (.faddr 1 (.t 2))), false, []⟩,
     ⟨(some 6), none, (.r (.load 1 false (.t 5))), false, []⟩,
     ⟨(some 7), none, (.p (.faddr 1 (.t 3))), false, []⟩,
     ⟨(some 8), none, (.r (.load 1 false (.t 7))), false, []⟩,
     ⟨(some 9), none, (.p (.bin .eql (.t 6) (.t 8))), false, []⟩,
     ⟨(some 10), none, (.p (.mv (.t 9))), false, []⟩,
     ⟨(some 11), (some (10, true)), (.p (.faddr 2 (.t 2))), false, []⟩,
     ⟨(some 12), (some (10, true)), (.r (.load 1 false (.t 11))), false, []⟩,
     ⟨(some 13), (some (10, true)), (.p (.faddr 2 (.t 3))), false, []⟩,
     ⟨(some 14), (some (10, true)), (.r (.load 1 false (.t 13))), false, []⟩,
     ⟨(some 15), (some (10, true)), (.call 42 [(.t 12), (.t 14)] false), false, []⟩,
     ⟨(some 16), none, (.p (.pick (.t 10) (.t 15) (.c (.bool false)))), false, []⟩,
     ⟨(some 17), none, (.p (.mv (.t 16))), false, []⟩,
     ⟨(some 18), (some (17, true)), (.p (.faddr 3 (.t 2))), false, []⟩,
     ⟨(some 19), (some (17, true)), (.r (.load 1 false (.t 18))), false, []⟩,
     ⟨(some 20), (some (17, true)), (.p (.faddr 3 (.t 3))), false, []⟩,
     ⟨(some 21), (some (17, true)), (.r (.load 1 false (.t 20))), false, []⟩,
     ⟨(some 22), (some (17, true)), (.call 42 [(.t 19), (.t 21)] false), false, []⟩,
     ⟨(some 23), none, (.p (.pick (.t 17) (.t 22) (.c (.bool false)))), false, []⟩,
     ⟨(some 4), none, (.p (.mv (.t 23))), false, []⟩] (some ⟨[4], [], false⟩))
   .ret))
theorem Try.run41 {xs : List AV} {r : AV} (hl : xs.length ≤ 24) (h : aw Try.prog Try.c41 (Pv.Ends [4] r) (entry xs)) : Run Try.prog 41 xs r :=
  run_of (fun _ _ => drawOk Try.mixed) Try.func41 rfl rfl rfl (by kernel_rfl) (by kernel_rfl) hl h
/-! 42 slices.Equal[[]string,string] : params [45, 45], results [4], free 0, zeros [(.slice none 0 0), (.slice none 0 0)] -/
def Try.c42b0 : AC :=
 (.seq
  (.region 0 [⟨(some 14), none, (.p (.bin .lss (.t 13) (.t 12))), false, []⟩] (some ⟨[0, 1, 12, 13, 14], [], false⟩))
  (.seq
   (.cond (.t 14)
    .skip
    (.exit 0))
   (.seq
    (.block 1
     (.seq
      (.region 0 [⟨(some 15), none, (.p (.mv (.t 13))), false, []⟩,
        ⟨(some 5), none, (.p (.mv (.t 15))), false, []⟩] (some ⟨[0, 1, 5, 12, 13], [], false⟩))
      (.seq
       (.region 9 [⟨(some 16), none, (.p (.mv (.t 0))), false, []⟩,
         ⟨(some 17), none, (.p (.mv (.t 5))), false, []⟩,
         ⟨(some 18), none, (.p (.iaddr 1 (.t 16) (.t 17))), false, []⟩,
         ⟨(some 19), none, (.r (.load 1 false (.t 18))), false, []⟩,
         ⟨(some 20), none, (.p (.mv (.t 1))), false, []⟩,
         ⟨(some 21), none, (.p (.mv (.t 5))), false, []⟩,
         ⟨(some 22), none, (.p (.iaddr 1 (.t 20) (.t 21))), false, []⟩,
         ⟨(some 23), none, (.r (.load 1 false (.t 22))), false, []⟩,
         ⟨(some 24), none, (.p (.bin .neq (.t 19) (.t 23))), false, []⟩] (some ⟨[0, 1, 12, 13, 24], [], true⟩))
       (.cond (.t 24)
        (.seq
         (.region 0 [⟨(some 4), none, (.p (.mv (.c (.bool false)))), false, []⟩] (some ⟨[4], [], false⟩))
         .ret)
        .skip))))
    (.region 0 [⟨(some 25), none, (.p (.bin .add (.t 13) (.c (.int .i64 1)))), false, []⟩,
      ⟨(some 13), none, (.p (.mv (.t 25))), false, []⟩] (some ⟨[0, 1, 12, 13], [], false⟩)))))
def Try.c42 : AC :=
 (.seq
  (.region 0 [⟨(some 4), none, (.p (.mv (.c (.bool false)))), false, []⟩] (some ⟨[0, 1], [], false⟩))
  (.seq
   (.seq
    (.region 0 [⟨(some 6), none, (.p (.mv (.t 0))), false, []⟩,
      ⟨(some 7), none, (.p (.len (.t 6))), false, []⟩,
      ⟨(some 8), none, (.p (.mv (.t 1))), false, []⟩,
      ⟨(some 9), none, (.p (.len (.t 8))), false, []⟩,
      ⟨(some 10), none, (.p (.bin .neq (.t 7) (.t 9))), false, []⟩] (some ⟨[0, 1, 10], [], false⟩))
    (.cond (.t 10)
     (.seq
      (.region 0 [⟨(some 4), none, (.p (.mv (.c (.bool false)))), false, []⟩] (some ⟨[4], [], false⟩))
      .ret)
     .skip))
   (.seq
    (.seq
     (.region 0 [⟨(some 11), none, (.p (.mv (.t 0))), false, []⟩,
       ⟨(some 12), none, (.p (.len (.t 11))), false, []⟩,
       ⟨(some 13), none, (.p (.mv (.c (.int .i64 0)))), false, []⟩] (some ⟨[0, 1, 12, 13], [], false⟩))
     (.block 0
      (.loop (some ⟨[0, 1, 12, 13], [], true⟩) Try.c42b0)))
    (.seq
     (.region 0 [⟨(some 4), none, (.p (.mv (.c (.bool true)))), false, []⟩] (some ⟨[4], [], false⟩))
     .ret))))
theorem Try.run42 {xs : List AV} {r : AV} (hl : xs.length ≤ 26) (h : aw Try.prog Try.c42 (Pv.Ends [4] r) (entry xs)) : Run Try.prog 42 xs r :=
  run_of (fun _ _ => drawOk Try.mixed) Try.func42 rfl rfl rfl (by kernel_rfl) (by kernel_rfl) hl h
/-! 47 strings.Cut : params [9, 9], results [9, 9, 4], free 0, zeros [(.string ⟨#[]⟩), (.string ⟨#[]⟩)] -/
def Try.c47 : AC :=
 (.seq
  (.region 0 [⟨(some 4), none, (.p (.mv (.c (.str [])))), false, []⟩,
    ⟨(some 5), none, (.p (.mv (.c (.str [])))), false, []⟩,
    ⟨(some 6), none, (.p (.mv (.c (.bool false)))), false, []⟩] (some ⟨[0, 1], [], false⟩))
  (.seq
   (.region 0 [⟨(some 7), none, (.p (.mv (.t 0))), false, []⟩,
     ⟨(some 8), none, (.p (.mv (.t 1))), false, []⟩,
     ⟨(some 9), none, (.call 56 [(.t 7), (.t 8)] false), false, []⟩,
     ⟨(some 10), none, (.p (.ext (.t 9) 0)), false, []⟩,
     ⟨(some 11), none, (.p (.ext (.t 9) 1)), false, []⟩,
     ⟨(some 12), none, (.p (.ext (.t 9) 2)), false, []⟩,
     ⟨(some 4), none, (.p (.mv (.t 10))), false, []⟩,
     ⟨(some 5), none, (.p (.mv (.t 11))), false, []⟩,
     ⟨(some 6), none, (.p (.mv (.t 12))), false, []⟩] (some ⟨[4, 5, 6], [], false⟩))
   .ret))
theorem Try.run47 {xs : List AV} {r : AV} (hl : xs.length ≤ 13) (h : aw Try.prog Try.c47 (Pv.Ends [4, 5, 6] r) (entry xs)) : Run Try.prog 47 xs r :=
  run_of (fun _ _ => drawOk Try.mixed) Try.func47 rfl rfl rfl (by kernel_rfl) (by kernel_rfl) hl h
/-! 48 paling/line.stretches : params [9], results [45], free 0, zeros [(.string ⟨#[]⟩)] -/
def Try.c48b0 : AC :=
 (.seq
  (.seq
   (.region 0 [⟨(some 8), none, (.p (.mv (.t 6))), false, []⟩,
     ⟨(some 9), none, (.r (.load 1 false (.t 1))), false, []⟩,
     ⟨(some 10), none, (.p (.lenS (.t 9))), false, []⟩,
     ⟨(some 11), none, (.p (.bin .lss (.t 8) (.t 10))), false, []⟩] (some ⟨[1, 3, 5, 6, 11], [], false⟩))
   (.cond (.t 11)
    .skip
    (.exit 0)))
  (.seq
   (.block 1
    (.seq
     (.region 0 [⟨(some 14), none, (.r (.load 1 false (.t 1))), false, []⟩,
       ⟨(some 15), none, (.p (.mv (.t 6))), false, []⟩,
       ⟨(some 16), none, (.p (.idxs (.t 14) (.t 15))), false, []⟩] (some ⟨[1, 3, 5, 6, 16], [], false⟩))
     (.block 2
      (.seq
       (.region 0 [⟨(some 18), none, (.p (.bin .eql (.t 16) (.c (.int .u8 35)))), false, []⟩,
         ⟨(some 17), none, (.p (.mv (.t 18))), false, []⟩] (some ⟨[1, 3, 5, 6, 16, 17], [], false⟩))
       (.cond (.t 17)
        (.exit 0)
        (.seq
         (.seq
          (.region 0 [⟨(some 20), none, (.p (.bin .eql (.t 16) (.c (.int .u8 32)))), false, []⟩,
            ⟨(some 19), none, (.p (.mv (.t 20))), false, []⟩] (some ⟨[1, 3, 5, 6, 16, 19], [], false⟩))
          (.cond (.t 19)
           .skip
           (.region 0 [⟨(some 21), none, (.p (.bin .eql (.t 16) (.c (.int .u8 9)))), false, []⟩,
             ⟨(some 19), none, (.p (.mv (.t 21))), false, []⟩] (some ⟨[1, 3, 5, 6, 19], [], false⟩))))
         (.cond (.t 19)
          (.region 0 [⟨(some 22), none, (.p (.mv (.t 5))), false, []⟩,
            ⟨(some 23), none, (.p (.mv (.t 6))), false, []⟩,
            ⟨(some 24), none, (.callv (.t 22) [(.t 23)]), false, []⟩] (some ⟨[1, 3, 5, 6], [], false⟩))
          .skip)))))))
   (.region 0 [⟨(some 12), none, (.p (.mv (.t 6))), false, []⟩,
     ⟨(some 13), none, (.p (.bin .add (.t 12) (.c (.int .i64 1)))), false, []⟩,
     ⟨(some 6), none, (.p (.mv (.t 13))), false, []⟩] (some ⟨[1, 3, 5, 6], [], false⟩))))
def Try.c48 : AC :=
 (.seq
  (.region 0 [⟨(some 1), none, (.e (.box 9 (.t 0)) none), false, []⟩,
    ⟨(some 2), none, (.p (.mv (.c (.sl 0 [] true)))), false, []⟩] (some ⟨[1], [], false⟩))
  (.scope
   (.seq
    (.region 0 [⟨(some 3), none, (.e (.alloc 45 (.sl 0 [] true)) none), false, []⟩] (some ⟨[1, 3], [], false⟩))
    (.seq
     (.region 0 [⟨(some 4), none, (.e (.alloc 3 (.int .i64 0)) none), false, []⟩,
       ⟨none, none, (.e (.store 1 (.t 4) (.c (.int .i64 0))) none), false, []⟩] (some ⟨[1, 3, 4], [], false⟩))
     (.seq
      (.region 0 [⟨(some 7), none, (.p (.mkfn 57 [(.t 4), (.t 3), (.t 1)])), false, []⟩,
        ⟨(some 5), none, (.p (.mv (.t 7))), false, []⟩] (some ⟨[1, 3, 5], [], false⟩))
      (.seq
       (.region 0 [⟨(some 6), none, (.p (.mv (.c (.int .i64 0)))), false, []⟩] (some ⟨[1, 3, 5, 6], [], false⟩))
       (.seq
        .skip
        (.seq
         (.block 0
          (.loop (some ⟨[1, 3, 5, 6], [], true⟩) Try.c48b0))
         (.seq
          (.region 0 [⟨(some 25), none, (.p (.mv (.t 5))), false, []⟩,
            ⟨(some 26), none, (.p (.mv (.t 6))), false, []⟩,
            ⟨(some 27), none, (.callv (.t 25) [(.t 26)]), false, []⟩] (some ⟨[3], [], false⟩))
          (.seq
           (.region 0 [⟨(some 28), none, (.r (.load 1 false (.t 3))), false, []⟩,
             ⟨(some 2), none, (.p (.mv (.t 28))), false, []⟩] (some ⟨[2], [], false⟩))
           .ret))))))))))
theorem Try.run48 {xs : List AV} {r : AV} (hl : xs.length ≤ 29) (h : aw Try.prog Try.c48 (Pv.Ends [2] r) (entry xs)) : Run Try.prog 48 xs r :=
  run_of (fun _ _ => drawOk Try.mixed) Try.func48 rfl rfl rfl (by kernel_rfl) (by kernel_rfl) hl h
/-! 49 paling/line.Word : params [9], results [4], free 0, zeros [(.string ⟨#[]⟩)] -/
def Try.c49b0 : AC :=
 (.seq
  (.region 0 [⟨(some 7), none, (.p (.bin .lss (.t 6) (.t 5))), false, []⟩] (some ⟨[0, 5, 6, 7], [], false⟩))
  (.seq
   (.cond (.t 7)
    .skip
    (.exit 0))
   (.seq
    (.block 1
     (.seq
      (.region 0 [⟨(some 8), none, (.p (.mv (.t 6))), false, []⟩,
        ⟨(some 3), none, (.p (.mv (.t 8))), false, []⟩] (some ⟨[0, 3, 5, 6], [], false⟩))
      (.seq
       (.region 0 [⟨(some 9), none, (.p (.mv (.t 0))), false, []⟩,
         ⟨(some 10), none, (.p (.mv (.t 3))), false, []⟩,
         ⟨(some 11), none, (.p (.idxs (.t 9) (.t 10))), false, []⟩,
         ⟨(some 12), none, (.p (.bin .leq (.t 11) (.c (.int .u8 32)))), false, []⟩,
         ⟨(some 13), none, (.p (.mv (.t 12))), false, []⟩,
         ⟨(some 14), (some (13, false)), (.p (.mv (.t 0))), false, []⟩,
         ⟨(some 15), (some (13, false)), (.p (.mv (.t 3))), false, []⟩,
         ⟨(some 16), (some (13, false)), (.p (.idxs (.t 14) (.t 15))), false, []⟩,
         ⟨(some 17), (some (13, false)), (.p (.bin .gtr (.t 16) (.c (.int .u8 126)))), false, []⟩,
         ⟨(some 18), none, (.p (.pick (.t 13) (.c (.bool true)) (.t 17))), false, []⟩,
         ⟨(some 19), none, (.p (.mv (.t 18))), false, []⟩,
         ⟨(some 20), (some (19, false)), (.p (.mv (.t 0))), false, []⟩,
         ⟨(some 21), (some (19, false)), (.p (.mv (.t 3))), false, []⟩,
         ⟨(some 22), (some (19, false)), (.p (.idxs (.t 20) (.t 21))), false, []⟩,
         ⟨(some 23), (some (19, false)), (.p (.bin .eql (.t 22) (.c (.int .u8 35)))), false, []⟩,
         ⟨(some 24), none, (.p (.pick (.t 19) (.c (.bool true)) (.t 23))), false, []⟩] (some ⟨[0, 5, 6, 24], [], false⟩))
       (.cond (.t 24)
        (.seq
         (.region 0 [⟨(some 2), none, (.p (.mv (.c (.bool false)))), false, []⟩] (some ⟨[2], [], false⟩))
         .ret)
        .skip))))
    (.region 0 [⟨(some 25), none, (.p (.bin .add (.t 6) (.c (.int .i64 1)))), false, []⟩,
      ⟨(some 6), none, (.p (.mv (.t 25))), false, []⟩] (some ⟨[0, 5, 6], [], false⟩)))))
def Try.c49 : AC :=
 (.seq
  (.region 0 [⟨(some 2), none, (.p (.mv (.c (.bool false)))), false, []⟩] (some ⟨[0], [], false⟩))
  (.seq
   (.seq
    (.region 0 [⟨(some 4), none, (.p (.mv (.t 0))), false, []⟩,
      ⟨(some 5), none, (.p (.lenS (.t 4))), false, []⟩,
      ⟨(some 6), none, (.p (.mv (.c (.int .i64 0)))), false, []⟩] (some ⟨[0, 5, 6], [], false⟩))
    (.block 0
     (.loop (some ⟨[0, 5, 6], [], true⟩) Try.c49b0)))
   (.seq
    (.region 0 [⟨(some 26), none, (.p (.mv (.t 0))), false, []⟩,
      ⟨(some 27), none, (.p (.bin .neq (.t 26) (.c (.str [])))), false, []⟩,
      ⟨(some 28), none, (.p (.mv (.t 27))), false, []⟩,
      ⟨(some 29), (some (28, true)), (.p (.mv (.t 0))), false, []⟩,
      ⟨(some 30), (some (28, true)), (.p (.lenS (.t 29))), false, []⟩,
      ⟨(some 31), (some (28, true)), (.p (.bin .leq (.t 30) (.c (.int .i64 40)))), false, []⟩,
      ⟨(some 32), none, (.p (.pick (.t 28) (.t 31) (.c (.bool false)))), false, []⟩,
      ⟨(some 2), none, (.p (.mv (.t 32))), false, []⟩] (some ⟨[2], [], false⟩))
    .ret)))
theorem Try.run49 {xs : List AV} {r : AV} (hl : xs.length ≤ 33) (h : aw Try.prog Try.c49 (Pv.Ends [2] r) (entry xs)) : Run Try.prog 49 xs r :=
  run_of (fun _ _ => drawOk Try.mixed) Try.func49 rfl rfl rfl (by kernel_rfl) (by kernel_rfl) hl h
/-! 50 paling/policy.halves : params [9], results [76, 4], free 0, zeros [(.string ⟨#[]⟩)] -/
def Try.c50b0 : AC :=
 (.seq
  (.region 0 [⟨(some 21), none, (.p (.bin .lss (.t 20) (.c (.int .i64 2)))), false, []⟩] (some ⟨[2, 6, 7, 19, 20, 21], [], false⟩))
  (.seq
   (.cond (.t 21)
    .skip
    (.exit 0))
   (.seq
    (.block 1
     (.seq
      (.region 0 [⟨(some 22), none, (.p (.idxa 2 1 false (.t 19) (.t 20))), false, []⟩,
        ⟨(some 9), none, (.p (.mv (.t 22))), false, []⟩] (some ⟨[2, 6, 7, 9, 19, 20], [], false⟩))
      (.region 0 [⟨(some 23), none, (.p (.mv (.t 6))), false, []⟩,
        ⟨(some 24), none, (.p (.mv (.t 23))), false, []⟩,
        ⟨(some 25), (some (24, true)), (.p (.mv (.t 9))), false, []⟩,
        ⟨(some 26), (some (24, true)), (.call 13 [(.t 25)] false), false, []⟩,
        ⟨(some 27), none, (.p (.pick (.t 24) (.t 26) (.c (.bool false)))), false, []⟩,
        ⟨(some 6), none, (.p (.mv (.t 27))), false, []⟩] (some ⟨[2, 6, 7, 19, 20], [], false⟩))))
    (.region 0 [⟨(some 28), none, (.p (.bin .add (.t 20) (.c (.int .i64 1)))), false, []⟩,
      ⟨(some 20), none, (.p (.mv (.t 28))), false, []⟩] (some ⟨[2, 6, 7, 19, 20], [], false⟩)))))
def Try.c50 : AC :=
 (.seq
  (.region 0 [⟨(some 2), none, (.e (.alloc 76 (.agg [(.str []), (.str [])])) none), false, []⟩,
    ⟨(some 3), none, (.p (.mv (.c (.bool false)))), false, []⟩] (some ⟨[0, 2], [], false⟩))
  (.seq
   (.region 0 [⟨(some 11), none, (.p (.mv (.t 0))), false, []⟩,
     ⟨(some 12), none, (.call 47 [(.t 11), (.c (.str [46]))] false), false, []⟩,
     ⟨(some 10), none, (.p (.mv (.t 12))), false, []⟩,
     ⟨(some 13), none, (.p (.ext (.t 10) 0)), false, []⟩,
     ⟨(some 14), none, (.p (.ext (.t 10) 1)), false, []⟩,
     ⟨(some 15), none, (.p (.ext (.t 10) 2)), false, []⟩,
     ⟨(some 4), none, (.p (.mv (.t 13))), false, []⟩,
     ⟨(some 5), none, (.p (.mv (.t 14))), false, []⟩,
     ⟨(some 6), none, (.p (.mv (.t 15))), false, []⟩] (some ⟨[2, 4, 5, 6], [], false⟩))
   (.seq
    (.region 0 [⟨(some 16), none, (.p (.mv (.t 4))), false, []⟩,
      ⟨(some 17), none, (.p (.mv (.t 5))), false, []⟩,
      ⟨(some 18), none, (.p (.build [(.str []), (.str [])] [(0, 1, (.t 16)), (1, 1, (.t 17))])), false, []⟩,
      ⟨(some 7), none, (.e (.alloc 76 (.agg [(.str []), (.str [])])) none), false, []⟩,
      ⟨none, none, (.e (.store 2 (.t 7) (.t 18)) none), false, []⟩] (some ⟨[2, 6, 7], [], false⟩))
    (.seq
     (.seq
      (.region 0 [⟨(some 19), none, (.r (.load 2 true (.t 7))), false, []⟩,
        ⟨(some 20), none, (.p (.mv (.c (.int .i64 0)))), false, []⟩] (some ⟨[2, 6, 7, 19, 20], [], false⟩))
      (.block 0
       (.loop (some ⟨[2, 6, 7, 19, 20], [], true⟩) Try.c50b0)))
     (.seq
      (.region 0 [⟨(some 29), none, (.r (.load 2 true (.t 7))), false, []⟩,
        ⟨(some 30), none, (.p (.mv (.t 6))), false, []⟩,
        ⟨none, none, (.e (.store 2 (.t 2) (.t 29)) none), false, []⟩,
        ⟨(some 3), none, (.p (.mv (.t 30))), false, []⟩] (some ⟨[2, 3], [], false⟩))
      .ret)))))
theorem Try.run50 {xs : List AV} {r : AV} (hl : xs.length ≤ 31) (h : aw Try.prog Try.c50 (Pv.EndsX (rvs [.c 2 2 true, .t 3]) r) (entry xs)) : Run Try.prog 50 xs r :=
  run_ofC (fun _ _ => drawOk Try.mixed) Try.func50 rfl rfl (by kernel_rfl) (by kernel_rfl) (by kernel_rfl) hl h
/-! 54 slices.IndexFunc[[]string,string] : params [45, 26], results [3], free 0, zeros [(.slice none 0 0), .nilFunc] -/
def Try.c54b0 : AC :=
 (.seq
  (.region 0 [⟨(some 9), none, (.p (.bin .lss (.t 8) (.t 7))), false, []⟩] (some ⟨[0, 1, 7, 8, 9], [], false⟩))
  (.seq
   (.cond (.t 9)
    .skip
    (.exit 0))
   (.seq
    (.block 1
     (.seq
      (.region 0 [⟨(some 10), none, (.p (.mv (.t 8))), false, []⟩,
        ⟨(some 5), none, (.p (.mv (.t 10))), false, []⟩] (some ⟨[0, 1, 5, 7, 8], [], false⟩))
      (.seq
       (.region 0 [⟨(some 11), none, (.p (.mv (.t 1))), false, []⟩,
         ⟨(some 12), none, (.p (.mv (.t 0))), false, []⟩,
         ⟨(some 13), none, (.p (.mv (.t 5))), false, []⟩,
         ⟨(some 14), none, (.p (.iaddr 1 (.t 12) (.t 13))), false, []⟩,
         ⟨(some 15), none, (.r (.load 1 false (.t 14))), false, []⟩,
         ⟨(some 16), none, (.callv (.t 11) [(.t 15)]), false, []⟩] (some ⟨[0, 1, 5, 7, 8, 16], [], false⟩))
       (.cond (.t 16)
        (.seq
         (.region 0 [⟨(some 17), none, (.p (.mv (.t 5))), false, []⟩,
           ⟨(some 4), none, (.p (.mv (.t 17))), false, []⟩] (some ⟨[4], [], false⟩))
         .ret)
        .skip))))
    (.region 0 [⟨(some 18), none, (.p (.bin .add (.t 8) (.c (.int .i64 1)))), false, []⟩,
      ⟨(some 8), none, (.p (.mv (.t 18))), false, []⟩] (some ⟨[0, 1, 7, 8], [], false⟩)))))
def Try.c54 : AC :=
 (.seq
  (.region 0 [⟨(some 4), none, (.p (.mv (.c (.int .i64 0)))), false, []⟩] (some ⟨[0, 1], [], false⟩))
  (.seq
   (.seq
    (.region 0 [⟨(some 6), none, (.p (.mv (.t 0))), false, []⟩,
      ⟨(some 7), none, (.p (.len (.t 6))), false, []⟩,
      ⟨(some 8), none, (.p (.mv (.c (.int .i64 0)))), false, []⟩] (some ⟨[0, 1, 7, 8], [], false⟩))
    (.block 0
     (.loop (some ⟨[0, 1, 7, 8], [], true⟩) Try.c54b0)))
   (.seq
    (.region 0 [⟨(some 4), none, (.p (.mv (.c (.int .i64 (-1))))), false, []⟩] (some ⟨[4], [], false⟩))
    .ret)))
theorem Try.run54 {xs : List AV} {r : AV} (hl : xs.length ≤ 19) (h : aw Try.prog Try.c54 (Pv.Ends [4] r) (entry xs)) : Run Try.prog 54 xs r :=
  run_of (fun _ _ => drawOk Try.mixed) Try.func54 rfl rfl rfl (by kernel_rfl) (by kernel_rfl) hl h
/-! 56 internal/stringslite.Cut : params [9, 9], results [9, 9, 4], free 0, zeros [(.string ⟨#[]⟩), (.string ⟨#[]⟩)] -/
def Try.c56 : AC :=
 (.seq
  (.region 0 [⟨(some 4), none, (.p (.mv (.c (.str [])))), false, []⟩,
    ⟨(some 5), none, (.p (.mv (.c (.str [])))), false, []⟩,
    ⟨(some 6), none, (.p (.mv (.c (.bool false)))), false, []⟩] (some ⟨[0, 1], [], false⟩))
  (.seq
   (.seq
    (.region 0 [⟨(some 8), none, (.p (.mv (.t 0))), false, []⟩,
      ⟨(some 9), none, (.p (.mv (.t 1))), false, []⟩,
      ⟨(some 10), none, (.call 61 [(.t 8), (.t 9)] false), false, []⟩,
      ⟨(some 7), none, (.p (.mv (.t 10))), false, []⟩] (some ⟨[0, 1, 7], [], false⟩))
    (.seq
     (.region 0 [⟨(some 11), none, (.p (.mv (.t 7))), false, []⟩,
       ⟨(some 12), none, (.p (.bin .geq (.t 11) (.c (.int .i64 0)))), false, []⟩] (some ⟨[0, 1, 7, 12], [], false⟩))
     (.cond (.t 12)
      (.seq
       (.region 12 [⟨(some 13), none, (.p (.mv (.t 0))), false, []⟩,
         ⟨(some 14), none, (.p (.mv (.t 7))), false, []⟩,
         ⟨(some 15), none, (.p (.slices (.t 13) none (some (.t 14)))), false, []⟩,
         ⟨(some 16), none, (.p (.mv (.t 0))), false, []⟩,
         ⟨(some 17), none, (.p (.mv (.t 7))), false, []⟩,
         ⟨(some 18), none, (.p (.mv (.t 1))), false, []⟩,
         ⟨(some 19), none, (.p (.lenS (.t 18))), false, []⟩,
         ⟨(some 20), none, (.p (.bin .add (.t 17) (.t 19))), false, []⟩,
         ⟨(some 21), none, (.p (.slices (.t 16) (some (.t 20)) none)), false, []⟩,
         ⟨(some 4), none, (.p (.mv (.t 15))), false, []⟩,
         ⟨(some 5), none, (.p (.mv (.t 21))), false, []⟩,
         ⟨(some 6), none, (.p (.mv (.c (.bool true)))), false, []⟩] (some ⟨[4, 5, 6], [], true⟩))
       .ret)
      .skip)))
   (.seq
    (.region 0 [⟨(some 22), none, (.p (.mv (.t 0))), false, []⟩,
      ⟨(some 4), none, (.p (.mv (.t 22))), false, []⟩,
      ⟨(some 5), none, (.p (.mv (.c (.str [])))), false, []⟩,
      ⟨(some 6), none, (.p (.mv (.c (.bool false)))), false, []⟩] (some ⟨[4, 5, 6], [], false⟩))
    .ret)))
theorem Try.run56 {xs : List AV} {r : AV} (hl : xs.length ≤ 23) (h : aw Try.prog Try.c56 (Pv.Ends [4, 5, 6] r) (entry xs)) : Run Try.prog 56 xs r :=
  run_of (fun _ _ => drawOk Try.mixed) Try.func56 rfl rfl rfl (by kernel_rfl) (by kernel_rfl) hl h
/-! 57 paling/line.stretches.1 : params [3], results [], free 3, zeros [(.int .i64 (0))] -/
def Try.c57 : AC :=
 (.seq
  (.seq
   (.region 0 [⟨(some 5), none, (.p (.mv (.t 0))), false, []⟩,
     ⟨(some 6), none, (.r (.load 1 false (.t 1))), false, []⟩,
     ⟨(some 7), none, (.p (.bin .gtr (.t 5) (.t 6))), false, []⟩] (some ⟨[0, 1, 2, 3, 7], [], false⟩))
   (.cond (.t 7)
    (.region 8 [⟨(some 8), none, (.r (.load 1 false (.t 2))), true, []⟩,
      ⟨(some 9), none, (.r (.load 1 false (.t 3))), true, []⟩,
      ⟨(some 10), none, (.r (.load 1 false (.t 1))), true, []⟩,
      ⟨(some 11), none, (.p (.mv (.t 0))), true, []⟩,
      ⟨(some 12), none, (.p (.slices (.t 9) (some (.t 10)) (some (.t 11)))), true, []⟩,
      ⟨(some 13), none, (.e (.mks 9 1 (.str []) 1 [(0, (.t 12))]) (some 5)), true, []⟩,
      ⟨(some 14), none, (.e (.append 9 1 (.t 8) (.t 13)) (some 6)), true, []⟩,
      ⟨none, none, (.e (.store 1 (.t 2) (.t 14)) (some 7)), true, []⟩] (some ⟨[0, 1], [], false⟩))
    .skip))
  (.region 0 [⟨(some 15), none, (.p (.mv (.t 0))), false, []⟩,
    ⟨(some 16), none, (.p (.bin .add (.t 15) (.c (.int .i64 1)))), false, []⟩,
    ⟨none, none, (.e (.store 1 (.t 1) (.t 16)) none), false, []⟩] (some ⟨[], [], false⟩)))
theorem Try.run57 {xs : List AV} {r : AV} (hl : xs.length ≤ 17) (h : aw Try.prog Try.c57 (Pv.Ends [] r) (entry xs)) : Run Try.prog 57 xs r :=
  run_of (fun _ _ => drawOk Try.mixed) Try.func57 rfl rfl rfl (by kernel_rfl) (by kernel_rfl) hl h
theorem Try.gen57 {xs : List AV} {r : AV} {H H' : Hp} (hl : xs.length ≤ 17) (h : aw Try.prog Try.c57 (Pv.EndsG [] r H') ⟨xs.zipIdx.map fun p => (p.2, p.1), H⟩) : Gen Try.prog 57 xs H r H' :=
  gen_of (fun _ _ => drawOk Try.mixed) Try.func57 rfl rfl rfl (by kernel_rfl) (by kernel_rfl) hl h
/-! 61 internal/stringslite.Index : params [9, 9], results [3], free 0, zeros [(.string ⟨#[]⟩), (.string ⟨#[]⟩)] -/
def Try.c61b0 : AC :=
 (.seq
  (.seq
   (.region 0 [⟨(some 57), none, (.p (.mv (.t 8))), false, []⟩,
     ⟨(some 58), none, (.p (.mv (.t 9))), false, []⟩,
     ⟨(some 59), none, (.p (.bin .lss (.t 57) (.t 58))), false, []⟩] (some ⟨[0, 1, 5, 6, 7, 8, 9, 10, 59], [], false⟩))
   (.cond (.t 59)
    .skip
    (.exit 1)))
  (.block 2
   (.seq
    (.seq
     (.region 0 [⟨(some 60), none, (.p (.mv (.t 0))), false, []⟩,
       ⟨(some 61), none, (.p (.mv (.t 8))), false, []⟩,
       ⟨(some 62), none, (.p (.idxs (.t 60) (.t 61))), false, []⟩,
       ⟨(some 63), none, (.p (.mv (.t 6))), false, []⟩,
       ⟨(some 64), none, (.p (.bin .neq (.t 62) (.t 63))), false, []⟩] (some ⟨[0, 1, 5, 6, 7, 8, 9, 10, 64], [], false⟩))
     (.cond (.t 64)
      (.seq
       (.region 0 [⟨(some 65), none, (.p (.mv (.t 0))), false, []⟩,
         ⟨(some 66), none, (.p (.mv (.t 8))), false, []⟩,
         ⟨(some 67), none, (.p (.bin .add (.t 66) (.c (.int .i64 1)))), false, []⟩,
         ⟨(some 68), none, (.p (.mv (.t 9))), false, []⟩,
         ⟨(some 69), none, (.p (.slices (.t 65) (some (.t 67)) (some (.t 68)))), false, []⟩,
         ⟨(some 70), none, (.p (.mv (.t 6))), false, []⟩,
         ⟨(some 71), none, (.call 64 [(.t 69), (.t 70)] false), false, []⟩,
         ⟨(some 11), none, (.p (.mv (.t 71))), false, []⟩] (some ⟨[0, 1, 5, 6, 7, 8, 9, 10, 11], [], false⟩))
       (.seq
        (.seq
         (.region 0 [⟨(some 72), none, (.p (.mv (.t 11))), false, []⟩,
           ⟨(some 73), none, (.p (.bin .lss (.t 72) (.c (.int .i64 0)))), false, []⟩] (some ⟨[0, 1, 5, 6, 7, 8, 9, 10, 11, 73], [], false⟩))
         (.cond (.t 73)
          (.seq
           (.region 0 [⟨(some 4), none, (.p (.mv (.c (.int .i64 (-1))))), false, []⟩] (some ⟨[4], [], false⟩))
           .ret)
          .skip))
        (.region 0 [⟨(some 74), none, (.p (.mv (.t 8))), false, []⟩,
          ⟨(some 75), none, (.p (.mv (.t 11))), false, []⟩,
          ⟨(some 76), none, (.p (.bin .add (.t 75) (.c (.int .i64 1)))), false, []⟩,
          ⟨(some 77), none, (.p (.bin .add (.t 74) (.t 76))), false, []⟩,
          ⟨(some 8), none, (.p (.mv (.t 77))), false, []⟩] (some ⟨[0, 1, 5, 6, 7, 8, 9, 10], [], false⟩))))
      .skip))
    (.seq
     (.seq
      (.region 0 [⟨(some 78), none, (.p (.mv (.t 0))), false, []⟩,
        ⟨(some 79), none, (.p (.mv (.t 8))), false, []⟩,
        ⟨(some 80), none, (.p (.bin .add (.t 79) (.c (.int .i64 1)))), false, []⟩,
        ⟨(some 81), none, (.p (.idxs (.t 78) (.t 80))), false, []⟩,
        ⟨(some 82), none, (.p (.mv (.t 7))), false, []⟩,
        ⟨(some 83), none, (.p (.bin .eql (.t 81) (.t 82))), false, []⟩,
        ⟨(some 84), none, (.p (.mv (.t 83))), false, []⟩,
        ⟨(some 85), (some (84, true)), (.p (.mv (.t 0))), false, []⟩,
        ⟨(some 86), (some (84, true)), (.p (.mv (.t 8))), false, []⟩,
        ⟨(some 87), (some (84, true)), (.p (.mv (.t 8))), false, []⟩,
        ⟨(some 88), (some (84, true)), (.p (.mv (.t 5))), false, []⟩,
        ⟨(some 89), (some (84, true)), (.p (.bin .add (.t 87) (.t 88))), false, []⟩,
        ⟨(some 90), (some (84, true)), (.p (.slices (.t 85) (some (.t 86)) (some (.t 89)))), false, []⟩,
        ⟨(some 91), (some (84, true)), (.p (.mv (.t 1))), false, []⟩,
        ⟨(some 92), (some (84, true)), (.p (.bin .eql (.t 90) (.t 91))), false, []⟩,
        ⟨(some 93), none, (.p (.pick (.t 84) (.t 92) (.c (.bool false)))), false, []⟩] (some ⟨[0, 1, 5, 6, 7, 8, 9, 10, 93], [], false⟩))
      (.cond (.t 93)
       (.seq
        (.region 0 [⟨(some 94), none, (.p (.mv (.t 8))), false, []⟩,
          ⟨(some 4), none, (.p (.mv (.t 94))), false, []⟩] (some ⟨[4], [], false⟩))
        .ret)
       .skip))
     (.seq
      (.region 0 [⟨(some 95), none, (.p (.mv (.t 8))), false, []⟩,
        ⟨(some 96), none, (.p (.bin .add (.t 95) (.c (.int .i64 1)))), false, []⟩,
        ⟨(some 8), none, (.p (.mv (.t 96))), false, []⟩] (some ⟨[0, 1, 5, 6, 7, 8, 9, 10], [], false⟩))
      (.seq
       (.region 0 [⟨(some 97), none, (.p (.mv (.t 10))), false, []⟩,
         ⟨(some 98), none, (.p (.bin .add (.t 97) (.c (.int .i64 1)))), false, []⟩,
         ⟨(some 10), none, (.p (.mv (.t 98))), false, []⟩] (some ⟨[0, 1, 5, 6, 7, 8, 9, 10], [], false⟩))
       (.seq
        (.region 0 [⟨(some 99), none, (.p (.mv (.t 5))), false, []⟩,
          ⟨(some 100), none, (.r (.load 1 false (.c (.lit (.pointer (some ⟨0, 0, none⟩)))))), false, []⟩,
          ⟨(some 101), none, (.p (.bin .leq (.t 99) (.t 100))), false, []⟩,
          ⟨(some 102), none, (.p (.mv (.t 101))), false, []⟩,
          ⟨(some 103), (some (102, true)), (.p (.mv (.t 10))), false, []⟩,
          ⟨(some 104), (some (102, true)), (.p (.mv (.t 8))), false, []⟩,
          ⟨(some 105), (some (102, true)), (.call 66 [(.t 104)] false), false, []⟩,
          ⟨(some 106), (some (102, true)), (.p (.bin .gtr (.t 103) (.t 105))), false, []⟩,
          ⟨(some 107), none, (.p (.pick (.t 102) (.t 106) (.c (.bool false)))), false, []⟩] (some ⟨[0, 1, 5, 6, 7, 8, 9, 10, 107], [], false⟩))
        (.cond (.t 107)
         (.seq
          (.region 0 [⟨(some 108), none, (.p (.mv (.t 0))), false, []⟩,
            ⟨(some 109), none, (.p (.mv (.t 8))), false, []⟩,
            ⟨(some 110), none, (.p (.slices (.t 108) (some (.t 109)) none)), false, []⟩,
            ⟨(some 111), none, (.p (.mv (.t 1))), false, []⟩,
            ⟨(some 112), none, (.call 65 [(.t 110), (.t 111)] false), false, []⟩,
            ⟨(some 12), none, (.p (.mv (.t 112))), false, []⟩] (some ⟨[8, 12], [], false⟩))
          (.seq
           (.seq
            (.region 0 [⟨(some 113), none, (.p (.mv (.t 12))), false, []⟩,
              ⟨(some 114), none, (.p (.bin .geq (.t 113) (.c (.int .i64 0)))), false, []⟩] (some ⟨[8, 12, 114], [], false⟩))
            (.cond (.t 114)
             (.seq
              (.region 0 [⟨(some 115), none, (.p (.mv (.t 12))), false, []⟩,
                ⟨(some 116), none, (.p (.mv (.t 8))), false, []⟩,
                ⟨(some 117), none, (.p (.bin .add (.t 115) (.t 116))), false, []⟩,
                ⟨(some 4), none, (.p (.mv (.t 117))), false, []⟩] (some ⟨[4], [], false⟩))
              .ret)
             .skip))
           (.seq
            (.region 0 [⟨(some 4), none, (.p (.mv (.c (.int .i64 (-1))))), false, []⟩] (some ⟨[4], [], false⟩))
            .ret)))
         (.seq
          (.region 0 [⟨(some 118), none, (.p (.mv (.t 5))), false, []⟩,
            ⟨(some 119), none, (.r (.load 1 false (.c (.lit (.pointer (some ⟨0, 0, none⟩)))))), false, []⟩,
            ⟨(some 120), none, (.p (.bin .gtr (.t 118) (.t 119))), false, []⟩,
            ⟨(some 121), none, (.p (.mv (.t 120))), false, []⟩,
            ⟨(some 122), (some (121, true)), (.p (.mv (.t 10))), false, []⟩,
            ⟨(some 123), (some (121, true)), (.p (.mv (.t 8))), false, []⟩,
            ⟨(some 124), (some (121, true)), (.p (.bin .shr (.t 123) (.c (.int .u64 4)))), false, []⟩,
            ⟨(some 125), (some (121, true)), (.p (.bin .add (.c (.int .i64 4)) (.t 124))), false, []⟩,
            ⟨(some 126), (some (121, true)), (.p (.bin .geq (.t 122) (.t 125))), false, []⟩,
            ⟨(some 127), none, (.p (.pick (.t 121) (.t 126) (.c (.bool false)))), false, []⟩,
            ⟨(some 128), none, (.p (.mv (.t 127))), false, []⟩,
            ⟨(some 129), (some (128, true)), (.p (.mv (.t 8))), false, []⟩,
            ⟨(some 130), (some (128, true)), (.p (.mv (.t 9))), false, []⟩,
            ⟨(some 131), (some (128, true)), (.p (.bin .lss (.t 129) (.t 130))), false, []⟩,
            ⟨(some 132), none, (.p (.pick (.t 128) (.t 131) (.c (.bool false)))), false, []⟩] (some ⟨[0, 1, 5, 6, 7, 8, 9, 10, 132], [], false⟩))
          (.cond (.t 132)
           (.seq
            (.region 0 [⟨(some 133), none, (.p (.mv (.t 0))), false, []⟩,
              ⟨(some 134), none, (.p (.mv (.t 8))), false, []⟩,
              ⟨(some 135), none, (.p (.slices (.t 133) (some (.t 134)) none)), false, []⟩,
              ⟨(some 136), none, (.p (.mv (.t 1))), false, []⟩,
              ⟨(some 137), none, (.call 67 [(.t 135), (.t 136)] false), false, []⟩,
              ⟨(some 13), none, (.p (.mv (.t 137))), false, []⟩] (some ⟨[8, 13], [], false⟩))
            (.seq
             (.seq
              (.region 0 [⟨(some 138), none, (.p (.mv (.t 13))), false, []⟩,
                ⟨(some 139), none, (.p (.bin .lss (.t 138) (.c (.int .i64 0)))), false, []⟩] (some ⟨[8, 13, 139], [], false⟩))
              (.cond (.t 139)
               (.seq
                (.region 0 [⟨(some 4), none, (.p (.mv (.c (.int .i64 (-1))))), false, []⟩] (some ⟨[4], [], false⟩))
                .ret)
               .skip))
             (.seq
              (.region 0 [⟨(some 140), none, (.p (.mv (.t 8))), false, []⟩,
                ⟨(some 141), none, (.p (.mv (.t 13))), false, []⟩,
                ⟨(some 142), none, (.p (.bin .add (.t 140) (.t 141))), false, []⟩,
                ⟨(some 4), none, (.p (.mv (.t 142))), false, []⟩] (some ⟨[4], [], false⟩))
              .ret)))
           .skip))))))))))
def Try.c61 : AC :=
 (.seq
  (.region 0 [⟨(some 4), none, (.p (.mv (.c (.int .i64 0)))), false, []⟩] (some ⟨[0, 1], [], false⟩))
  (.seq
   (.region 0 [⟨(some 14), none, (.p (.mv (.t 1))), false, []⟩,
     ⟨(some 15), none, (.p (.lenS (.t 14))), false, []⟩,
     ⟨(some 5), none, (.p (.mv (.t 15))), false, []⟩] (some ⟨[0, 1, 5], [], false⟩))
   (.seq
    (.block 0
     (.seq
      (.region 0 [⟨(some 17), none, (.p (.mv (.t 5))), false, []⟩,
        ⟨(some 18), none, (.p (.bin .eql (.t 17) (.c (.int .i64 0)))), false, []⟩,
        ⟨(some 19), none, (.p (.mv (.t 18))), false, []⟩,
        ⟨(some 20), (some (19, false)), (.p (.mv (.t 1))), false, []⟩,
        ⟨(some 21), (some (19, false)), (.p (.mv (.t 0))), false, []⟩,
        ⟨(some 22), (some (19, false)), (.p (.bin .eql (.t 20) (.t 21))), false, []⟩,
        ⟨(some 23), none, (.p (.pick (.t 19) (.c (.bool true)) (.t 22))), false, []⟩,
        ⟨(some 16), none, (.p (.mv (.t 23))), false, []⟩] (some ⟨[0, 1, 5, 16], [], false⟩))
      (.cond (.t 16)
       (.seq
        (.region 0 [⟨(some 4), none, (.p (.mv (.c (.int .i64 0)))), false, []⟩] (some ⟨[4], [], false⟩))
        .ret)
       (.seq
        (.region 0 [⟨(some 25), none, (.p (.mv (.t 5))), false, []⟩,
          ⟨(some 26), none, (.p (.bin .eql (.t 25) (.c (.int .i64 1)))), false, []⟩,
          ⟨(some 24), none, (.p (.mv (.t 26))), false, []⟩] (some ⟨[0, 1, 5, 24], [], false⟩))
        (.cond (.t 24)
         (.seq
          (.region 0 [⟨(some 27), none, (.p (.mv (.t 0))), false, []⟩,
            ⟨(some 28), none, (.p (.mv (.t 1))), false, []⟩,
            ⟨(some 29), none, (.p (.idxs (.t 28) (.c (.int .i64 0)))), false, []⟩,
            ⟨(some 30), none, (.call 64 [(.t 27), (.t 29)] false), false, []⟩,
            ⟨(some 4), none, (.p (.mv (.t 30))), false, []⟩] (some ⟨[4], [], false⟩))
          .ret)
         (.seq
          (.region 0 [⟨(some 32), none, (.p (.mv (.t 5))), false, []⟩,
            ⟨(some 33), none, (.p (.mv (.t 0))), false, []⟩,
            ⟨(some 34), none, (.p (.lenS (.t 33))), false, []⟩,
            ⟨(some 35), none, (.p (.bin .geq (.t 32) (.t 34))), false, []⟩,
            ⟨(some 31), none, (.p (.mv (.t 35))), false, []⟩] (some ⟨[0, 1, 5, 31], [], false⟩))
          (.cond (.t 31)
           (.seq
            (.region 0 [⟨(some 4), none, (.p (.mv (.c (.int .i64 (-1))))), false, []⟩] (some ⟨[4], [], false⟩))
            .ret)
           (.seq
            (.region 0 [⟨(some 37), none, (.p (.mv (.t 5))), false, []⟩,
              ⟨(some 38), none, (.r (.load 1 false (.c (.lit (.pointer (some ⟨0, 0, none⟩)))))), false, []⟩,
              ⟨(some 39), none, (.p (.bin .leq (.t 37) (.t 38))), false, []⟩,
              ⟨(some 40), none, (.p (.mv (.t 39))), false, []⟩,
              ⟨(some 41), (some (40, true)), (.p (.mv (.t 0))), false, []⟩,
              ⟨(some 42), (some (40, true)), (.p (.lenS (.t 41))), false, []⟩,
              ⟨(some 43), (some (40, true)), (.p (.bin .leq (.t 42) (.c (.int .i64 64)))), false, []⟩,
              ⟨(some 44), none, (.p (.pick (.t 40) (.t 43) (.c (.bool false)))), false, []⟩,
              ⟨(some 36), none, (.p (.mv (.t 44))), false, []⟩] (some ⟨[0, 1, 5, 36], [], false⟩))
            (.cond (.t 36)
             (.seq
              (.region 0 [⟨(some 45), none, (.p (.mv (.t 0))), false, []⟩,
                ⟨(some 46), none, (.p (.mv (.t 1))), false, []⟩,
                ⟨(some 47), none, (.call 65 [(.t 45), (.t 46)] false), false, []⟩,
                ⟨(some 4), none, (.p (.mv (.t 47))), false, []⟩] (some ⟨[4], [], false⟩))
              .ret)
             .skip)))))))))
    (.seq
     (.region 0 [⟨(some 48), none, (.p (.mv (.t 1))), false, []⟩,
       ⟨(some 49), none, (.p (.idxs (.t 48) (.c (.int .i64 0)))), false, []⟩,
       ⟨(some 6), none, (.p (.mv (.t 49))), false, []⟩] (some ⟨[0, 1, 5, 6], [], false⟩))
     (.seq
      (.region 0 [⟨(some 50), none, (.p (.mv (.t 1))), false, []⟩,
        ⟨(some 51), none, (.p (.idxs (.t 50) (.c (.int .i64 1)))), false, []⟩,
        ⟨(some 7), none, (.p (.mv (.t 51))), false, []⟩] (some ⟨[0, 1, 5, 6, 7], [], false⟩))
      (.seq
       (.region 0 [⟨(some 8), none, (.p (.mv (.c (.int .i64 0)))), false, []⟩] (some ⟨[0, 1, 5, 6, 7, 8], [], false⟩))
       (.seq
        (.region 0 [⟨(some 52), none, (.p (.mv (.t 0))), false, []⟩,
          ⟨(some 53), none, (.p (.lenS (.t 52))), false, []⟩,
          ⟨(some 54), none, (.p (.mv (.t 5))), false, []⟩,
          ⟨(some 55), none, (.p (.bin .sub (.t 53) (.t 54))), false, []⟩,
          ⟨(some 56), none, (.p (.bin .add (.t 55) (.c (.int .i64 1)))), false, []⟩,
          ⟨(some 9), none, (.p (.mv (.t 56))), false, []⟩] (some ⟨[0, 1, 5, 6, 7, 8, 9], [], false⟩))
        (.seq
         (.region 0 [⟨(some 10), none, (.p (.mv (.c (.int .i64 0)))), false, []⟩] (some ⟨[0, 1, 5, 6, 7, 8, 9, 10], [], false⟩))
         (.seq
          (.block 1
           (.loop (some ⟨[0, 1, 5, 6, 7, 8, 9, 10], [], true⟩) Try.c61b0))
          (.seq
           (.region 0 [⟨(some 4), none, (.p (.mv (.c (.int .i64 (-1))))), false, []⟩] (some ⟨[4], [], false⟩))
           .ret))))))))))
theorem Try.run61 {xs : List AV} {r : AV} (hl : xs.length ≤ 143) (h : aw Try.prog Try.c61 (Pv.Ends [4] r) (entry xs)) : Run Try.prog 61 xs r :=
  run_of (fun _ _ => drawOk Try.mixed) Try.func61 rfl rfl rfl (by kernel_rfl) (by kernel_rfl) hl h
/-! 64 internal/stringslite.IndexByte : params [9, 5], results [3], free 0, zeros [(.string ⟨#[]⟩), (.int .u8 (0))] -/
def Try.c64 : AC :=
 (.seq
  (.region 0 [⟨(some 4), none, (.p (.mv (.c (.int .i64 0)))), false, []⟩] (some ⟨[0, 1], [], false⟩))
  (.seq
   (.region 0 [⟨(some 5), none, (.p (.mv (.t 0))), false, []⟩,
     ⟨(some 6), none, (.p (.mv (.t 1))), false, []⟩,
     ⟨(some 7), none, (.p (.idxb (.t 5) (.t 6))), false, []⟩,
     ⟨(some 4), none, (.p (.mv (.t 7))), false, []⟩] (some ⟨[4], [], false⟩))
   .ret))
theorem Try.run64 {xs : List AV} {r : AV} (hl : xs.length ≤ 8) (h : aw Try.prog Try.c64 (Pv.Ends [4] r) (entry xs)) : Run Try.prog 64 xs r :=
  run_of (fun _ _ => drawOk Try.mixed) Try.func64 rfl rfl rfl (by kernel_rfl) (by kernel_rfl) hl h
end Go.Proofs
