/- The compiled code of this seat, and the rules that run it. (Printed by a program of ours.) -/
import Derived.Test.YtabenkmiojjiiaaDoorPvM3
import Derived.Test.YtabenkmiojjiiaaDoorProg
namespace Go.Proofs

open Go.Pv
set_option maxHeartbeats 4000000
theorem Tryd.mixed : Tryd.prog.follows .mixedOrders = true := by kernel_rfl
/-! 4 paling/palinglaw48.DiffApplies : params [22, 25], results [4], free 0, zeros [(.slice none 0 0), (.slice none 0 0)] -/
def Tryd.c4b0 : AC :=
 (.seq
  (.region 0 [⟨(some 34), none, (.p (.bin .lss (.t 33) (.t 32))), false, []⟩] (some ⟨[1, 5, 6, 7, 8, 9, 32, 33, 34], [], false⟩))
  (.seq
   (.cond (.t 34)
    .skip
    (.exit 0))
   (.seq
    (.block 1
     (.seq
      (.region 0 [⟨(some 35), none, (.p (.mv (.t 33))), false, []⟩,
        ⟨(some 10), none, (.p (.mv (.t 35))), false, []⟩] (some ⟨[1, 5, 6, 7, 8, 9, 10, 32, 33], [], false⟩))
      (.seq
       (.region 0 [⟨(some 36), none, (.p (.mv (.t 1))), false, []⟩,
         ⟨(some 37), none, (.p (.mv (.t 10))), false, []⟩,
         ⟨(some 38), none, (.p (.iaddr 2 (.t 36) (.t 37))), false, []⟩,
         ⟨(some 39), none, (.p (.faddr 0 (.t 38))), false, []⟩,
         ⟨(some 40), none, (.r (.load 1 false (.t 39))), false, []⟩,
         ⟨(some 41), none, (.p (.bin .neq (.t 40) (.c (.int .i64 0)))), false, []⟩] (some ⟨[1, 5, 6, 7, 8, 9, 32, 33, 41], [], false⟩))
       (.cond (.t 41)
        (.region 0 [⟨(some 42), none, (.p (.mv (.t 9))), false, []⟩,
          ⟨(some 43), none, (.p (.bin .add (.t 42) (.c (.int .i64 1)))), false, []⟩,
          ⟨(some 9), none, (.p (.mv (.t 43))), false, []⟩] (some ⟨[1, 5, 6, 7, 8, 9, 32, 33], [], false⟩))
        .skip))))
    (.region 0 [⟨(some 44), none, (.p (.bin .add (.t 33) (.c (.int .i64 1)))), false, []⟩,
      ⟨(some 33), none, (.p (.mv (.t 44))), false, []⟩] (some ⟨[1, 5, 6, 7, 8, 9, 32, 33], [], false⟩)))))
def Tryd.c4 : AC :=
 (.seq
  (.region 0 [⟨(some 4), none, (.p (.mv (.c (.bool false)))), false, []⟩] (some ⟨[0, 1], [], false⟩))
  (.seq
   (.seq
    (.region 0 [⟨(some 11), none, (.p (.mv (.t 0))), false, []⟩,
      ⟨(some 12), none, (.call 6 [(.t 11)] false), false, []⟩,
      ⟨(some 13), none, (.p (.mv (.t 12))), false, []⟩,
      ⟨(some 14), (some (13, false)), (.p (.mv (.t 1))), false, []⟩,
      ⟨(some 15), (some (13, false)), (.call 12 [(.t 14)] false), false, []⟩,
      ⟨(some 16), none, (.p (.pick (.t 13) (.c (.bool true)) (.t 15))), false, []⟩] (some ⟨[0, 1, 16], [], false⟩))
    (.cond (.t 16)
     (.seq
      (.region 0 [⟨(some 17), none, (.call 5 [] false), false, []⟩,
        ⟨(some 4), none, (.p (.mv (.t 17))), false, []⟩] (some ⟨[4], [], false⟩))
      .ret)
     .skip))
   (.seq
    (.region 0 [⟨(some 19), none, (.p (.mv (.t 0))), false, []⟩,
      ⟨(some 20), none, (.p (.mv (.t 1))), false, []⟩,
      ⟨(some 21), none, (.call 8 [(.t 19), (.t 20)] false), false, []⟩,
      ⟨(some 18), none, (.p (.mv (.t 21))), false, []⟩,
      ⟨(some 22), none, (.p (.ext (.t 18) 0)), false, []⟩,
      ⟨(some 23), none, (.p (.ext (.t 18) 1)), false, []⟩,
      ⟨(some 5), none, (.p (.mv (.t 22))), false, []⟩,
      ⟨(some 6), none, (.p (.mv (.t 23))), false, []⟩] (some ⟨[0, 1, 5, 6], [], false⟩))
    (.seq
     (.region 0 [⟨(some 25), none, (.p (.mv (.t 0))), false, []⟩,
       ⟨(some 26), none, (.p (.mv (.t 1))), false, []⟩,
       ⟨(some 27), none, (.call 14 [(.t 26)] false), false, []⟩,
       ⟨(some 28), none, (.call 13 [(.t 25), (.t 27)] false), false, []⟩,
       ⟨(some 24), none, (.p (.mv (.t 28))), false, []⟩,
       ⟨(some 29), none, (.p (.ext (.t 24) 0)), false, []⟩,
       ⟨(some 30), none, (.p (.ext (.t 24) 1)), false, []⟩,
       ⟨(some 7), none, (.p (.mv (.t 29))), false, []⟩,
       ⟨(some 8), none, (.p (.mv (.t 30))), false, []⟩] (some ⟨[1, 5, 6, 7, 8], [], false⟩))
     (.seq
      (.region 0 [⟨(some 9), none, (.p (.mv (.c (.int .i64 0)))), false, []⟩] (some ⟨[1, 5, 6, 7, 8, 9], [], false⟩))
      (.seq
       (.seq
        (.region 0 [⟨(some 31), none, (.p (.mv (.t 1))), false, []⟩,
          ⟨(some 32), none, (.p (.len (.t 31))), false, []⟩,
          ⟨(some 33), none, (.p (.mv (.c (.int .i64 0)))), false, []⟩] (some ⟨[1, 5, 6, 7, 8, 9, 32, 33], [], false⟩))
        (.block 0
         (.loop (some ⟨[1, 5, 6, 7, 8, 9, 32, 33], [], true⟩) Tryd.c4b0)))
       (.seq
        (.region 0 [⟨(some 45), none, (.p (.mv (.t 5))), false, []⟩,
          ⟨(some 46), none, (.p (.mv (.t 7))), false, []⟩,
          ⟨(some 47), none, (.call 15 [(.t 45), (.t 46)] false), false, []⟩,
          ⟨(some 48), none, (.p (.mv (.t 47))), false, []⟩,
          ⟨(some 49), (some (48, true)), (.p (.mv (.t 6))), false, []⟩,
          ⟨(some 50), (some (48, true)), (.p (.mv (.t 8))), false, []⟩,
          ⟨(some 51), (some (48, true)), (.p (.binB .eql (.t 49) (.t 50))), false, []⟩,
          ⟨(some 52), none, (.p (.pick (.t 48) (.t 51) (.c (.bool false)))), false, []⟩,
          ⟨(some 53), none, (.p (.mv (.t 52))), false, []⟩,
          ⟨(some 54), (some (53, true)), (.p (.mv (.t 1))), false, []⟩,
          ⟨(some 55), (some (53, true)), (.call 9 [(.t 54)] false), false, []⟩,
          ⟨(some 56), (some (53, true)), (.call 14 [(.t 55)] false), false, []⟩,
          ⟨(some 57), (some (53, true)), (.p (.mv (.t 1))), false, []⟩,
          ⟨(some 58), (some (53, true)), (.call 14 [(.t 57)] false), false, []⟩,
          ⟨(some 59), (some (53, true)), (.call 17 [(.t 58)] false), false, []⟩,
          ⟨(some 60), (some (53, true)), (.call 16 [(.t 56), (.t 59)] false), false, []⟩,
          ⟨(some 61), none, (.p (.pick (.t 53) (.t 60) (.c (.bool false)))), false, []⟩,
          ⟨(some 62), none, (.p (.mv (.t 61))), false, []⟩,
          ⟨(some 63), (some (62, true)), (.p (.mv (.t 1))), false, []⟩,
          ⟨(some 64), (some (62, true)), (.call 18 [(.t 63)] false), false, []⟩,
          ⟨(some 65), (some (62, true)), (.p (.mv (.t 9))), false, []⟩,
          ⟨(some 66), (some (62, true)), (.p (.bin .eql (.t 64) (.t 65))), false, []⟩,
          ⟨(some 67), none, (.p (.pick (.t 62) (.t 66) (.c (.bool false)))), false, []⟩,
          ⟨(some 68), none, (.p (.mv (.t 67))), false, []⟩,
          ⟨(some 69), (some (68, true)), (.p (.mv (.t 1))), false, []⟩,
          ⟨(some 70), (some (68, true)), (.call 11 [(.t 69)] false), false, []⟩,
          ⟨(some 71), (some (68, true)), (.p (.mv (.t 1))), false, []⟩,
          ⟨(some 72), (some (68, true)), (.call 14 [(.t 71)] false), false, []⟩,
          ⟨(some 73), (some (68, true)), (.call 19 [(.t 72)] false), false, []⟩,
          ⟨(some 74), (some (68, true)), (.p (.bin .eql (.t 70) (.t 73))), false, []⟩,
          ⟨(some 75), none, (.p (.pick (.t 68) (.t 74) (.c (.bool false)))), false, []⟩,
          ⟨(some 76), none, (.p (.mv (.t 75))), false, []⟩,
          ⟨(some 77), (some (76, true)), (.call 5 [] false), false, []⟩,
          ⟨(some 78), none, (.p (.pick (.t 76) (.t 77) (.c (.bool false)))), false, []⟩,
          ⟨(some 4), none, (.p (.mv (.t 78))), false, []⟩] (some ⟨[4], [], false⟩))
        .ret)))))))
theorem Tryd.run4 {xs : List AV} {r : AV} (hl : xs.length ≤ 79) (h : aw Tryd.prog Tryd.c4 (Pv.Ends [4] r) (entry xs)) : Run Tryd.prog 4 xs r :=
  run_of (fun _ _ => drawOk Tryd.mixed) Tryd.func4 rfl rfl rfl (by kernel_rfl) (by kernel_rfl) hl h
/-! 5 paling/palinglaw48.works : params [], results [4], free 0, zeros [] -/
def Tryd.c5 : AC :=
 (.seq
  (.region 0 [⟨(some 0), none, (.p (.mv (.c (.bool false)))), false, []⟩] (some ⟨[], [], false⟩))
  (.seq
   (.region 0 [⟨(some 6), none, (.e (.mks 9 1 (.str []) 2 [(0, (.c (.str [97]))), (1, (.c (.str [98])))]) none), false, []⟩,
     ⟨(some 7), none, (.e (.mks 9 1 (.str []) 2 [(0, (.c (.str [98]))), (1, (.c (.str [99])))]) none), false, []⟩,
     ⟨(some 8), none, (.call 7 [(.t 6), (.t 7)] false), false, []⟩,
     ⟨(some 5), none, (.p (.mv (.t 8))), false, []⟩,
     ⟨(some 9), none, (.p (.ext (.t 5) 0)), false, []⟩,
     ⟨(some 10), none, (.p (.ext (.t 5) 1)), false, []⟩,
     ⟨(some 1), none, (.p (.mv (.t 9))), false, []⟩,
     ⟨(some 2), none, (.p (.mv (.t 10))), false, []⟩] (some ⟨[1, 2], [], false⟩))
   (.seq
    (.region 0 [⟨(some 12), none, (.e (.make 9 1 (.str []) (.c (.int .i64 401)) (.c (.int .i64 401))) none), false, []⟩,
      ⟨(some 13), none, (.call 7 [(.t 12), (.c (.sl 0 [] true))] false), false, []⟩,
      ⟨(some 11), none, (.p (.mv (.t 13))), false, []⟩,
      ⟨(some 14), none, (.p (.ext (.t 11) 0)), false, []⟩,
      ⟨(some 15), none, (.p (.ext (.t 11) 1)), false, []⟩,
      ⟨(some 3), none, (.p (.mv (.t 14))), false, []⟩,
      ⟨(some 4), none, (.p (.mv (.t 15))), false, []⟩] (some ⟨[1, 2, 4], [], false⟩))
    (.seq
     (.region 0 [⟨(some 16), none, (.p (.mv (.t 2))), false, []⟩,
       ⟨(some 17), none, (.p (.bin .eql (.t 16) (.c (.int .i64 0)))), false, []⟩,
       ⟨(some 18), none, (.p (.mv (.t 17))), false, []⟩,
       ⟨(some 19), (some (18, true)), (.p (.mv (.t 1))), false, []⟩,
       ⟨(some 20), (some (18, true)), (.p (.len (.t 19))), false, []⟩,
       ⟨(some 21), (some (18, true)), (.p (.bin .eql (.t 20) (.c (.int .i64 3)))), false, []⟩,
       ⟨(some 22), none, (.p (.pick (.t 18) (.t 21) (.c (.bool false)))), false, []⟩,
       ⟨(some 23), none, (.p (.mv (.t 22))), false, []⟩,
       ⟨(some 24), (some (23, true)), (.p (.mv (.t 1))), false, []⟩,
       ⟨(some 25), (some (23, true)), (.p (.iaddr 2 (.t 24) (.c (.int .i64 0)))), false, []⟩,
       ⟨(some 26), (some (23, true)), (.r (.load 2 true (.t 25))), false, []⟩,
       ⟨(some 27), (some (23, true)), (.p (.build [(.int .i64 0), (.str [])] [(0, 1, (.c (.int .i64 1))), (1, 1, (.c (.str [97])))])), false, []⟩,
       ⟨(some 28), (some (23, true)), (.p (.eqS false [0, 1] (.t 26) (.t 27))), false, []⟩,
       ⟨(some 29), none, (.p (.pick (.t 23) (.t 28) (.c (.bool false)))), false, []⟩,
       ⟨(some 30), none, (.p (.mv (.t 29))), false, []⟩,
       ⟨(some 31), (some (30, true)), (.p (.mv (.t 1))), false, []⟩,
       ⟨(some 32), (some (30, true)), (.p (.iaddr 2 (.t 31) (.c (.int .i64 1)))), false, []⟩,
       ⟨(some 33), (some (30, true)), (.r (.load 2 true (.t 32))), false, []⟩,
       ⟨(some 34), (some (30, true)), (.p (.build [(.int .i64 0), (.str [])] [(0, 1, (.c (.int .i64 0))), (1, 1, (.c (.str [98])))])), false, []⟩,
       ⟨(some 35), (some (30, true)), (.p (.eqS false [0, 1] (.t 33) (.t 34))), false, []⟩,
       ⟨(some 36), none, (.p (.pick (.t 30) (.t 35) (.c (.bool false)))), false, []⟩,
       ⟨(some 37), none, (.p (.mv (.t 36))), false, []⟩,
       ⟨(some 38), (some (37, true)), (.p (.mv (.t 1))), false, []⟩,
       ⟨(some 39), (some (37, true)), (.p (.iaddr 2 (.t 38) (.c (.int .i64 2)))), false, []⟩,
       ⟨(some 40), (some (37, true)), (.r (.load 2 true (.t 39))), false, []⟩,
       ⟨(some 41), (some (37, true)), (.p (.build [(.int .i64 0), (.str [])] [(0, 1, (.c (.int .i64 2))), (1, 1, (.c (.str [99])))])), false, []⟩,
       ⟨(some 42), (some (37, true)), (.p (.eqS false [0, 1] (.t 40) (.t 41))), false, []⟩,
       ⟨(some 43), none, (.p (.pick (.t 37) (.t 42) (.c (.bool false)))), false, []⟩,
       ⟨(some 44), none, (.p (.mv (.t 43))), false, []⟩,
       ⟨(some 45), (some (44, true)), (.p (.mv (.t 4))), false, []⟩,
       ⟨(some 46), (some (44, true)), (.p (.bin .eql (.t 45) (.c (.int .i64 3)))), false, []⟩,
       ⟨(some 47), none, (.p (.pick (.t 44) (.t 46) (.c (.bool false)))), false, []⟩,
       ⟨(some 0), none, (.p (.mv (.t 47))), false, []⟩] (some ⟨[0], [], false⟩))
     .ret))))
theorem Tryd.run5 {xs : List AV} {r : AV} (hl : xs.length ≤ 48) (h : aw Tryd.prog Tryd.c5 (Pv.Ends [0] r) (entry xs)) : Run Tryd.prog 5 xs r :=
  run_of (fun _ _ => drawOk Tryd.mixed) Tryd.func5 rfl rfl rfl (by kernel_rfl) (by kernel_rfl) hl h
/-! 6 paling/palinglaw48.great : params [22], results [4], free 0, zeros [(.slice none 0 0)] -/
def Tryd.c6b0 : AC :=
 (.seq
  (.seq
   (.region 0 [⟨(some 5), none, (.p (.mv (.t 4))), false, []⟩,
     ⟨(some 6), none, (.p (.mv (.t 0))), false, []⟩,
     ⟨(some 7), none, (.p (.len (.t 6))), false, []⟩,
     ⟨(some 8), none, (.p (.bin .lss (.t 5) (.t 7))), false, []⟩,
     ⟨(some 9), none, (.p (.mv (.t 8))), false, []⟩,
     ⟨(some 10), (some (9, true)), (.p (.mv (.t 4))), false, []⟩,
     ⟨(some 11), (some (9, true)), (.p (.bin .lss (.t 10) (.c (.int .i64 30)))), false, []⟩,
     ⟨(some 12), none, (.p (.pick (.t 9) (.t 11) (.c (.bool false)))), false, []⟩] (some ⟨[0, 3, 4, 12], [], false⟩))
   (.cond (.t 12)
    .skip
    (.exit 0)))
  (.seq
   (.block 1
    (.seq
     (.seq
      (.region 0 [⟨(some 15), none, (.p (.mv (.t 0))), false, []⟩,
        ⟨(some 16), none, (.p (.mv (.t 4))), false, []⟩,
        ⟨(some 17), none, (.p (.iaddr 1 (.t 15) (.t 16))), false, []⟩,
        ⟨(some 18), none, (.r (.load 1 false (.t 17))), false, []⟩,
        ⟨(some 19), none, (.p (.lenS (.t 18))), false, []⟩,
        ⟨(some 20), none, (.p (.bin .gtr (.t 19) (.c (.int .i64 300)))), false, []⟩] (some ⟨[0, 3, 4, 20], [], false⟩))
      (.cond (.t 20)
       (.seq
        (.region 0 [⟨(some 2), none, (.p (.mv (.c (.bool true)))), false, []⟩] (some ⟨[2], [], false⟩))
        .ret)
       .skip))
     (.region 0 [⟨(some 21), none, (.p (.mv (.t 3))), false, []⟩,
       ⟨(some 22), none, (.p (.mv (.t 0))), false, []⟩,
       ⟨(some 23), none, (.p (.mv (.t 4))), false, []⟩,
       ⟨(some 24), none, (.p (.iaddr 1 (.t 22) (.t 23))), false, []⟩,
       ⟨(some 25), none, (.r (.load 1 false (.t 24))), false, []⟩,
       ⟨(some 26), none, (.p (.lenS (.t 25))), false, []⟩,
       ⟨(some 27), none, (.p (.bin .add (.t 21) (.t 26))), false, []⟩,
       ⟨(some 3), none, (.p (.mv (.t 27))), false, []⟩] (some ⟨[0, 3, 4], [], false⟩))))
   (.region 0 [⟨(some 13), none, (.p (.mv (.t 4))), false, []⟩,
     ⟨(some 14), none, (.p (.bin .add (.t 13) (.c (.int .i64 1)))), false, []⟩,
     ⟨(some 4), none, (.p (.mv (.t 14))), false, []⟩] (some ⟨[0, 3, 4], [], false⟩))))
def Tryd.c6 : AC :=
 (.seq
  (.region 0 [⟨(some 2), none, (.p (.mv (.c (.bool false)))), false, []⟩] (some ⟨[0], [], false⟩))
  (.seq
   (.region 0 [⟨(some 3), none, (.p (.mv (.c (.int .i64 0)))), false, []⟩] (some ⟨[0, 3], [], false⟩))
   (.seq
    (.seq
     (.region 0 [⟨(some 4), none, (.p (.mv (.c (.int .i64 0)))), false, []⟩] (some ⟨[0, 3, 4], [], false⟩))
     (.block 0
      (.loop (some ⟨[0, 3, 4], [], true⟩) Tryd.c6b0)))
    (.seq
     (.region 0 [⟨(some 28), none, (.p (.mv (.t 0))), false, []⟩,
       ⟨(some 29), none, (.p (.len (.t 28))), false, []⟩,
       ⟨(some 30), none, (.p (.bin .gtr (.t 29) (.c (.int .i64 30)))), false, []⟩,
       ⟨(some 31), none, (.p (.mv (.t 30))), false, []⟩,
       ⟨(some 32), (some (31, false)), (.p (.mv (.t 3))), false, []⟩,
       ⟨(some 33), (some (31, false)), (.p (.bin .gtr (.t 32) (.c (.int .i64 3000)))), false, []⟩,
       ⟨(some 34), none, (.p (.pick (.t 31) (.c (.bool true)) (.t 33))), false, []⟩,
       ⟨(some 2), none, (.p (.mv (.t 34))), false, []⟩] (some ⟨[2], [], false⟩))
     .ret))))
theorem Tryd.run6 {xs : List AV} {r : AV} (hl : xs.length ≤ 35) (h : aw Tryd.prog Tryd.c6 (Pv.Ends [2] r) (entry xs)) : Run Tryd.prog 6 xs r :=
  run_of (fun _ _ => drawOk Tryd.mixed) Tryd.func6 rfl rfl rfl (by kernel_rfl) (by kernel_rfl) hl h
/-! 7 paling/diff.Rows : params [22, 22], results [25, 26], free 0, zeros [(.slice none 0 0), (.slice none 0 0)] -/
def Tryd.c7 : AC :=
 (.seq
  (.region 0 [⟨(some 4), none, (.p (.mv (.c (.sl 0 [] true)))), false, []⟩,
    ⟨(some 5), none, (.p (.mv (.c (.int .i64 0)))), false, []⟩] (some ⟨[0, 1], [], false⟩))
  (.seq
   (.seq
    (.region 0 [⟨(some 6), none, (.p (.mv (.t 0))), false, []⟩,
      ⟨(some 7), none, (.p (.len (.t 6))), false, []⟩,
      ⟨(some 8), none, (.p (.bin .gtr (.t 7) (.c (.int .i64 400)))), false, []⟩,
      ⟨(some 9), none, (.p (.mv (.t 8))), false, []⟩,
      ⟨(some 10), (some (9, false)), (.p (.mv (.t 1))), false, []⟩,
      ⟨(some 11), (some (9, false)), (.p (.len (.t 10))), false, []⟩,
      ⟨(some 12), (some (9, false)), (.p (.bin .gtr (.t 11) (.c (.int .i64 400)))), false, []⟩,
      ⟨(some 13), none, (.p (.pick (.t 9) (.c (.bool true)) (.t 12))), false, []⟩] (some ⟨[0, 1, 13], [], false⟩))
    (.cond (.t 13)
     (.seq
      (.region 0 [⟨(some 4), none, (.p (.mv (.c (.sl 0 [] true)))), false, []⟩,
        ⟨(some 5), none, (.p (.mv (.c (.int .i64 3)))), false, []⟩] (some ⟨[4, 5], [], false⟩))
      .ret)
     .skip))
   (.seq
    (.region 0 [⟨(some 14), none, (.p (.mv (.t 0))), false, []⟩,
      ⟨(some 15), none, (.p (.mv (.t 1))), false, []⟩,
      ⟨(some 16), none, (.call 20 [(.t 14), (.t 15)] false), false, []⟩,
      ⟨(some 17), none, (.call 21 [(.t 16)] false), false, []⟩,
      ⟨(some 4), none, (.p (.mv (.t 17))), false, []⟩,
      ⟨(some 5), none, (.p (.mv (.c (.int .i64 0)))), false, []⟩] (some ⟨[4, 5], [], false⟩))
    .ret)))
theorem Tryd.run7 {xs : List AV} {r : AV} (hl : xs.length ≤ 18) (h : aw Tryd.prog Tryd.c7 (Pv.Ends [4, 5] r) (entry xs)) : Run Tryd.prog 7 xs r :=
  run_of (fun _ _ => drawOk Tryd.mixed) Tryd.func7 rfl rfl rfl (by kernel_rfl) (by kernel_rfl) hl h
/-! 8 paling/diff.Apply : params [22, 25], results [22, 4], free 0, zeros [(.slice none 0 0), (.slice none 0 0)] -/
def Tryd.c8b0 : AC :=
 (.seq
  (.region 0 [⟨(some 12), none, (.p (.bin .lss (.t 11) (.t 10))), false, []⟩] (some ⟨[0, 6, 9, 10, 11, 12], [], false⟩))
  (.seq
   (.cond (.t 12)
    .skip
    (.exit 0))
   (.seq
    (.block 1
     (.seq
      (.region 0 [⟨(some 13), none, (.p (.iaddr 2 (.t 9) (.t 11))), false, []⟩,
        ⟨(some 14), none, (.r (.load 2 true (.t 13))), false, []⟩,
        ⟨(some 8), none, (.e (.alloc 39 (.agg [(.int .i64 0), (.str [])])) none), false, []⟩,
        ⟨none, none, (.e (.store 2 (.t 8) (.t 14)) none), false, []⟩] (some ⟨[0, 6, 8, 9, 10, 11], [], false⟩))
      (.seq
       (.seq
        (.region 0 [⟨(some 15), none, (.p (.faddr 0 (.t 8))), false, []⟩,
          ⟨(some 16), none, (.r (.load 1 false (.t 15))), false, []⟩,
          ⟨(some 17), none, (.p (.bin .lss (.t 16) (.c (.int .i64 0)))), false, []⟩,
          ⟨(some 18), none, (.p (.mv (.t 17))), false, []⟩,
          ⟨(some 19), (some (18, false)), (.p (.faddr 0 (.t 8))), false, []⟩,
          ⟨(some 20), (some (18, false)), (.r (.load 1 false (.t 19))), false, []⟩,
          ⟨(some 21), (some (18, false)), (.p (.bin .gtr (.t 20) (.c (.int .i64 2)))), false, []⟩,
          ⟨(some 22), none, (.p (.pick (.t 18) (.c (.bool true)) (.t 21))), false, []⟩] (some ⟨[0, 6, 8, 9, 10, 11, 22], [], false⟩))
        (.cond (.t 22)
         (.seq
          (.region 0 [⟨(some 4), none, (.p (.mv (.c (.sl 0 [] true)))), false, []⟩,
            ⟨(some 5), none, (.p (.mv (.c (.bool false)))), false, []⟩] (some ⟨[4, 5], [], false⟩))
          .ret)
         .skip))
       (.seq
        (.seq
         (.region 0 [⟨(some 23), none, (.p (.faddr 0 (.t 8))), false, []⟩,
           ⟨(some 24), none, (.r (.load 1 false (.t 23))), false, []⟩,
           ⟨(some 25), none, (.p (.bin .neq (.t 24) (.c (.int .i64 2)))), false, []⟩] (some ⟨[0, 6, 8, 9, 10, 11, 25], [], false⟩))
         (.cond (.t 25)
          (.seq
           (.seq
            (.region 11 [⟨(some 26), none, (.p (.mv (.t 0))), false, []⟩,
              ⟨(some 27), none, (.p (.len (.t 26))), false, []⟩,
              ⟨(some 28), none, (.p (.bin .eql (.t 27) (.c (.int .i64 0)))), false, []⟩,
              ⟨(some 29), none, (.p (.mv (.t 28))), false, []⟩,
              ⟨(some 30), (some (29, false)), (.p (.mv (.t 0))), false, []⟩,
              ⟨(some 31), (some (29, false)), (.p (.iaddr 1 (.t 30) (.c (.int .i64 0)))), false, []⟩,
              ⟨(some 32), (some (29, false)), (.r (.load 1 false (.t 31))), false, []⟩,
              ⟨(some 33), (some (29, false)), (.p (.faddr 1 (.t 8))), false, []⟩,
              ⟨(some 34), (some (29, false)), (.r (.load 1 false (.t 33))), false, []⟩,
              ⟨(some 35), (some (29, false)), (.p (.bin .neq (.t 32) (.t 34))), false, []⟩,
              ⟨(some 36), none, (.p (.pick (.t 29) (.c (.bool true)) (.t 35))), false, []⟩] (some ⟨[0, 6, 8, 9, 10, 11, 36], [], true⟩))
            (.cond (.t 36)
             (.seq
              (.region 0 [⟨(some 4), none, (.p (.mv (.c (.sl 0 [] true)))), false, []⟩,
                ⟨(some 5), none, (.p (.mv (.c (.bool false)))), false, []⟩] (some ⟨[4, 5], [], false⟩))
              .ret)
             .skip))
           (.region 0 [⟨(some 37), none, (.p (.mv (.t 0))), false, []⟩,
             ⟨(some 38), none, (.p (.slicev 1 (.t 37) (some (.c (.int .i64 1))) none none)), false, []⟩,
             ⟨(some 0), none, (.p (.mv (.t 38))), false, []⟩] (some ⟨[0, 6, 8, 9, 10, 11], [], false⟩)))
          .skip))
        (.seq
         (.region 0 [⟨(some 39), none, (.p (.faddr 0 (.t 8))), false, []⟩,
           ⟨(some 40), none, (.r (.load 1 false (.t 39))), false, []⟩,
           ⟨(some 41), none, (.p (.bin .neq (.t 40) (.c (.int .i64 1)))), false, []⟩] (some ⟨[0, 6, 8, 9, 10, 11, 41], [], false⟩))
         (.cond (.t 41)
          (.region 0 [⟨(some 42), none, (.p (.mv (.t 6))), false, []⟩,
            ⟨(some 43), none, (.p (.faddr 1 (.t 8))), false, []⟩,
            ⟨(some 44), none, (.r (.load 1 false (.t 43))), false, []⟩,
            ⟨(some 45), none, (.e (.mks 9 1 (.str []) 1 [(0, (.t 44))]) none), false, []⟩,
            ⟨(some 46), none, (.e (.append 9 1 1000000000 (.t 42) (.t 45)) none), false, []⟩,
            ⟨(some 6), none, (.p (.mv (.t 46))), false, []⟩] (some ⟨[0, 6, 9, 10, 11], [], false⟩))
          .skip))))))
    (.region 0 [⟨(some 47), none, (.p (.bin .add (.t 11) (.c (.int .i64 1)))), false, []⟩,
      ⟨(some 11), none, (.p (.mv (.t 47))), false, []⟩] (some ⟨[0, 6, 9, 10, 11], [], false⟩)))))
def Tryd.c8 : AC :=
 (.seq
  (.region 0 [⟨(some 4), none, (.p (.mv (.c (.sl 0 [] true)))), false, []⟩,
    ⟨(some 5), none, (.p (.mv (.c (.bool false)))), false, []⟩] (some ⟨[0, 1], [], false⟩))
  (.seq
   (.region 0 [⟨(some 6), none, (.p (.mv (.c (.sl 0 [] true)))), false, []⟩] (some ⟨[0, 1, 6], [], false⟩))
   (.seq
    (.seq
     (.region 0 [⟨(some 9), none, (.p (.mv (.t 1))), false, []⟩,
       ⟨(some 10), none, (.p (.len (.t 9))), false, []⟩,
       ⟨(some 11), none, (.p (.mv (.c (.int .i64 0)))), false, []⟩] (some ⟨[0, 6, 9, 10, 11], [], false⟩))
     (.block 0
      (.loop (some ⟨[0, 6, 9, 10, 11], [(6, (1, 9))], true⟩) Tryd.c8b0)))
    (.seq
     (.seq
      (.region 0 [⟨(some 48), none, (.p (.mv (.t 0))), false, []⟩,
        ⟨(some 49), none, (.p (.len (.t 48))), false, []⟩,
        ⟨(some 50), none, (.p (.bin .gtr (.t 49) (.c (.int .i64 0)))), false, []⟩] (some ⟨[6, 50], [], false⟩))
      (.cond (.t 50)
       (.seq
        (.region 0 [⟨(some 4), none, (.p (.mv (.c (.sl 0 [] true)))), false, []⟩,
          ⟨(some 5), none, (.p (.mv (.c (.bool false)))), false, []⟩] (some ⟨[4, 5], [], false⟩))
        .ret)
       .skip))
     (.seq
      (.region 0 [⟨(some 51), none, (.p (.mv (.t 6))), false, []⟩,
        ⟨(some 4), none, (.p (.mv (.t 51))), false, []⟩,
        ⟨(some 5), none, (.p (.mv (.c (.bool true)))), false, []⟩] (some ⟨[4, 5], [], false⟩))
      .ret)))))
theorem Tryd.run8 {xs : List AV} {r : AV} (hl : xs.length ≤ 52) (h : aw Tryd.prog Tryd.c8 (Pv.Ends [4, 5] r) (entry xs)) : Run Tryd.prog 8 xs r :=
  run_of (fun _ _ => drawOk Tryd.mixed) Tryd.func8 rfl rfl rfl (by kernel_rfl) (by kernel_rfl) hl h
/-! 9 paling/diff.Undo : params [25], results [25], free 0, zeros [(.slice none 0 0)] -/
def Tryd.c9b0 : AC :=
 (.seq
  (.region 0 [⟨(some 11), none, (.p (.bin .lss (.t 10) (.t 9))), false, []⟩] (some ⟨[3, 8, 9, 10, 11], [], false⟩))
  (.seq
   (.cond (.t 11)
    .skip
    (.exit 0))
   (.seq
    (.block 1
     (.seq
      (.region 0 [⟨(some 12), none, (.p (.mv (.t 10))), false, []⟩,
        ⟨(some 13), none, (.p (.iaddr 2 (.t 8) (.t 10))), false, []⟩,
        ⟨(some 14), none, (.r (.load 2 true (.t 13))), false, []⟩,
        ⟨(some 5), none, (.e (.alloc 39 (.agg [(.int .i64 0), (.str [])])) none), false, []⟩,
        ⟨(some 4), none, (.p (.mv (.t 12))), false, []⟩,
        ⟨none, none, (.e (.store 2 (.t 5) (.t 14)) none), false, []⟩] (some ⟨[3, 4, 5, 8, 9, 10], [], false⟩))
      (.seq
       (.region 0 [⟨(some 15), none, (.p (.faddr 0 (.t 5))), false, []⟩,
         ⟨(some 16), none, (.r (.load 1 false (.t 15))), false, []⟩] (some ⟨[3, 4, 8, 9, 10, 16], [], false⟩))
       (.block 2
        (.seq
         (.region 0 [⟨(some 18), none, (.p (.bin .eql (.t 16) (.c (.int .i64 1)))), false, []⟩,
           ⟨(some 17), none, (.p (.mv (.t 18))), false, []⟩] (some ⟨[3, 4, 8, 9, 10, 16, 17], [], false⟩))
         (.cond (.t 17)
          (.region 0 [⟨(some 19), none, (.p (.mv (.t 3))), false, []⟩,
            ⟨(some 20), none, (.p (.mv (.t 4))), false, []⟩,
            ⟨(some 21), none, (.p (.iaddr 2 (.t 19) (.t 20))), false, []⟩,
            ⟨(some 22), none, (.p (.faddr 0 (.t 21))), false, []⟩,
            ⟨none, none, (.e (.store 1 (.t 22) (.c (.int .i64 2))) none), false, []⟩] (some ⟨[3, 8, 9, 10], [], false⟩))
          (.seq
           (.region 0 [⟨(some 24), none, (.p (.bin .eql (.t 16) (.c (.int .i64 2)))), false, []⟩,
             ⟨(some 23), none, (.p (.mv (.t 24))), false, []⟩] (some ⟨[3, 4, 8, 9, 10, 23], [], false⟩))
           (.cond (.t 23)
            (.region 0 [⟨(some 25), none, (.p (.mv (.t 3))), false, []⟩,
              ⟨(some 26), none, (.p (.mv (.t 4))), false, []⟩,
              ⟨(some 27), none, (.p (.iaddr 2 (.t 25) (.t 26))), false, []⟩,
              ⟨(some 28), none, (.p (.faddr 0 (.t 27))), false, []⟩,
              ⟨none, none, (.e (.store 1 (.t 28) (.c (.int .i64 1))) none), false, []⟩] (some ⟨[3, 8, 9, 10], [], false⟩))
            .skip))))))))
    (.region 0 [⟨(some 29), none, (.p (.bin .add (.t 10) (.c (.int .i64 1)))), false, []⟩,
      ⟨(some 10), none, (.p (.mv (.t 29))), false, []⟩] (some ⟨[3, 8, 9, 10], [], false⟩)))))
def Tryd.c9 : AC :=
 (.seq
  (.region 0 [⟨(some 2), none, (.p (.mv (.c (.sl 0 [] true)))), false, []⟩] (some ⟨[0], [], false⟩))
  (.seq
   (.region 0 [⟨(some 6), none, (.p (.mv (.t 0))), false, []⟩,
     ⟨(some 7), none, (.call 22 [(.t 6)] false), false, []⟩,
     ⟨(some 3), none, (.p (.mv (.t 7))), false, []⟩] (some ⟨[0, 3], [], false⟩))
   (.seq
    (.seq
     (.region 0 [⟨(some 8), none, (.p (.mv (.t 0))), false, []⟩,
       ⟨(some 9), none, (.p (.len (.t 8))), false, []⟩,
       ⟨(some 10), none, (.p (.mv (.c (.int .i64 0)))), false, []⟩] (some ⟨[3, 8, 9, 10], [], false⟩))
     (.block 0
      (.loop (some ⟨[3, 8, 9, 10], [], true⟩) Tryd.c9b0)))
    (.seq
     (.region 0 [⟨(some 30), none, (.p (.mv (.t 3))), false, []⟩,
       ⟨(some 2), none, (.p (.mv (.t 30))), false, []⟩] (some ⟨[2], [], false⟩))
     .ret))))
theorem Tryd.run9 {xs : List AV} {r : AV} (hl : xs.length ≤ 31) (h : aw Tryd.prog Tryd.c9 (Pv.Ends [2] r) (entry xs)) : Run Tryd.prog 9 xs r :=
  run_of (fun _ _ => drawOk Tryd.mixed) Tryd.func9 rfl rfl rfl (by kernel_rfl) (by kernel_rfl) hl h
/-! 12 paling/palinglaw48.bulky : params [25], results [4], free 0, zeros [(.slice none 0 0)] -/
def Tryd.c12b0 : AC :=
 (.seq
  (.seq
   (.region 0 [⟨(some 4), none, (.p (.mv (.t 3))), false, []⟩,
     ⟨(some 5), none, (.p (.mv (.t 0))), false, []⟩,
     ⟨(some 6), none, (.p (.len (.t 5))), false, []⟩,
     ⟨(some 7), none, (.p (.bin .lss (.t 4) (.t 6))), false, []⟩,
     ⟨(some 8), none, (.p (.mv (.t 7))), false, []⟩,
     ⟨(some 9), (some (8, true)), (.p (.mv (.t 3))), false, []⟩,
     ⟨(some 10), (some (8, true)), (.p (.bin .lss (.t 9) (.c (.int .i64 60)))), false, []⟩,
     ⟨(some 11), none, (.p (.pick (.t 8) (.t 10) (.c (.bool false)))), false, []⟩] (some ⟨[0, 3, 11], [], false⟩))
   (.cond (.t 11)
    .skip
    (.exit 0)))
  (.seq
   (.block 1
    (.seq
     (.region 0 [⟨(some 14), none, (.p (.mv (.t 0))), false, []⟩,
       ⟨(some 15), none, (.p (.mv (.t 3))), false, []⟩,
       ⟨(some 16), none, (.p (.iaddr 2 (.t 14) (.t 15))), false, []⟩,
       ⟨(some 17), none, (.p (.faddr 1 (.t 16))), false, []⟩,
       ⟨(some 18), none, (.r (.load 1 false (.t 17))), false, []⟩,
       ⟨(some 19), none, (.p (.lenS (.t 18))), false, []⟩,
       ⟨(some 20), none, (.p (.bin .gtr (.t 19) (.c (.int .i64 300)))), false, []⟩] (some ⟨[0, 3, 20], [], false⟩))
     (.cond (.t 20)
      (.seq
       (.region 0 [⟨(some 2), none, (.p (.mv (.c (.bool true)))), false, []⟩] (some ⟨[2], [], false⟩))
       .ret)
      .skip)))
   (.region 0 [⟨(some 12), none, (.p (.mv (.t 3))), false, []⟩,
     ⟨(some 13), none, (.p (.bin .add (.t 12) (.c (.int .i64 1)))), false, []⟩,
     ⟨(some 3), none, (.p (.mv (.t 13))), false, []⟩] (some ⟨[0, 3], [], false⟩))))
def Tryd.c12 : AC :=
 (.seq
  (.region 0 [⟨(some 2), none, (.p (.mv (.c (.bool false)))), false, []⟩] (some ⟨[0], [], false⟩))
  (.seq
   (.seq
    (.region 0 [⟨(some 3), none, (.p (.mv (.c (.int .i64 0)))), false, []⟩] (some ⟨[0, 3], [], false⟩))
    (.block 0
     (.loop (some ⟨[0, 3], [], true⟩) Tryd.c12b0)))
   (.seq
    (.region 0 [⟨(some 21), none, (.p (.mv (.t 0))), false, []⟩,
      ⟨(some 22), none, (.p (.len (.t 21))), false, []⟩,
      ⟨(some 23), none, (.p (.bin .gtr (.t 22) (.c (.int .i64 60)))), false, []⟩,
      ⟨(some 2), none, (.p (.mv (.t 23))), false, []⟩] (some ⟨[2], [], false⟩))
    .ret)))
theorem Tryd.run12 {xs : List AV} {r : AV} (hl : xs.length ≤ 24) (h : aw Tryd.prog Tryd.c12 (Pv.Ends [2] r) (entry xs)) : Run Tryd.prog 12 xs r :=
  run_of (fun _ _ => drawOk Tryd.mixed) Tryd.func12 rfl rfl rfl (by kernel_rfl) (by kernel_rfl) hl h
/-! 13 paling/palingref48.Apply : params [22, 36], results [22, 4], free 0, zeros [(.slice none 0 0), (.slice none 0 0)] -/
def Tryd.c13b0 : AC :=
 (.seq
  (.seq
   (.region 0 [⟨(some 10), none, (.p (.mv (.t 8))), false, []⟩,
     ⟨(some 11), none, (.p (.mv (.t 1))), false, []⟩,
     ⟨(some 12), none, (.p (.len (.t 11))), false, []⟩,
     ⟨(some 13), none, (.p (.bin .lss (.t 10) (.t 12))), false, []⟩] (some ⟨[0, 1, 6, 7, 8, 13], [], false⟩))
   (.cond (.t 13)
    .skip
    (.exit 0)))
  (.seq
   (.block 1
    (.seq
     (.region 0 [⟨(some 16), none, (.p (.mv (.t 1))), false, []⟩,
       ⟨(some 17), none, (.p (.mv (.t 8))), false, []⟩,
       ⟨(some 18), none, (.p (.iaddr 2 (.t 16) (.t 17))), false, []⟩,
       ⟨(some 19), none, (.p (.faddr 0 (.t 18))), false, []⟩,
       ⟨(some 20), none, (.r (.load 1 false (.t 19))), false, []⟩,
       ⟨(some 9), none, (.p (.mv (.t 20))), false, []⟩] (some ⟨[0, 1, 6, 7, 8, 9], [], false⟩))
     (.seq
      (.seq
       (.region 28 [⟨(some 21), none, (.p (.mv (.t 9))), false, []⟩,
         ⟨(some 22), none, (.p (.bin .lss (.t 21) (.c (.int .i64 0)))), false, []⟩,
         ⟨(some 23), none, (.p (.mv (.t 22))), false, []⟩,
         ⟨(some 24), (some (23, false)), (.p (.mv (.t 9))), false, []⟩,
         ⟨(some 25), (some (23, false)), (.p (.bin .gtr (.t 24) (.c (.int .i64 2)))), false, []⟩,
         ⟨(some 26), none, (.p (.pick (.t 23) (.c (.bool true)) (.t 25))), false, []⟩,
         ⟨(some 27), none, (.p (.mv (.t 26))), false, []⟩,
         ⟨(some 28), (some (27, false)), (.p (.mv (.t 9))), false, []⟩,
         ⟨(some 29), (some (27, false)), (.p (.bin .lss (.t 28) (.c (.int .i64 2)))), false, []⟩,
         ⟨(some 30), (some (27, false)), (.p (.mv (.t 29))), false, []⟩,
         ⟨(some 31), (some (30, true)), (.p (.mv (.t 7))), false, []⟩,
         ⟨(some 32), (some (30, true)), (.p (.mv (.t 0))), false, []⟩,
         ⟨(some 33), (some (30, true)), (.p (.len (.t 32))), false, []⟩,
         ⟨(some 34), (some (30, true)), (.p (.bin .eql (.t 31) (.t 33))), false, []⟩,
         ⟨(some 35), (some (30, true)), (.p (.mv (.t 34))), false, []⟩,
         ⟨(some 36), (some (35, false)), (.p (.mv (.t 0))), false, []⟩,
         ⟨(some 37), (some (35, false)), (.p (.mv (.t 7))), false, []⟩,
         ⟨(some 38), (some (35, false)), (.p (.iaddr 1 (.t 36) (.t 37))), false, []⟩,
         ⟨(some 39), (some (35, false)), (.r (.load 1 false (.t 38))), false, []⟩,
         ⟨(some 40), (some (35, false)), (.p (.mv (.t 1))), false, []⟩,
         ⟨(some 41), (some (35, false)), (.p (.mv (.t 8))), false, []⟩,
         ⟨(some 42), (some (35, false)), (.p (.iaddr 2 (.t 40) (.t 41))), false, []⟩,
         ⟨(some 43), (some (35, false)), (.p (.faddr 1 (.t 42))), false, []⟩,
         ⟨(some 44), (some (35, false)), (.r (.load 1 false (.t 43))), false, []⟩,
         ⟨(some 45), (some (35, false)), (.p (.bin .neq (.t 39) (.t 44))), false, []⟩,
         ⟨(some 46), (some (30, true)), (.p (.pick (.t 35) (.c (.bool true)) (.t 45))), false, []⟩,
         ⟨(some 47), (some (27, false)), (.p (.pick (.t 30) (.t 46) (.c (.bool false)))), false, []⟩,
         ⟨(some 48), none, (.p (.pick (.t 27) (.c (.bool true)) (.t 47))), false, []⟩] (some ⟨[0, 1, 6, 7, 8, 9, 48], [], true⟩))
       (.cond (.t 48)
        (.seq
         (.region 0 [⟨(some 4), none, (.p (.mv (.c (.sl 0 [] true)))), false, []⟩,
           ⟨(some 5), none, (.p (.mv (.c (.bool false)))), false, []⟩] (some ⟨[4, 5], [], false⟩))
         .ret)
        .skip))
      (.seq
       (.seq
        (.region 0 [⟨(some 49), none, (.p (.mv (.t 9))), false, []⟩,
          ⟨(some 50), none, (.p (.bin .lss (.t 49) (.c (.int .i64 2)))), false, []⟩] (some ⟨[0, 1, 6, 7, 8, 9, 50], [], false⟩))
        (.cond (.t 50)
         (.region 0 [⟨(some 51), none, (.p (.mv (.t 7))), false, []⟩,
           ⟨(some 52), none, (.p (.bin .add (.t 51) (.c (.int .i64 1)))), false, []⟩,
           ⟨(some 7), none, (.p (.mv (.t 52))), false, []⟩] (some ⟨[0, 1, 6, 7, 8, 9], [], false⟩))
         .skip))
       (.seq
        (.region 0 [⟨(some 53), none, (.p (.mv (.t 9))), false, []⟩,
          ⟨(some 54), none, (.p (.bin .neq (.t 53) (.c (.int .i64 1)))), false, []⟩] (some ⟨[0, 1, 6, 7, 8, 54], [], false⟩))
        (.cond (.t 54)
         (.region 0 [⟨(some 55), none, (.p (.mv (.t 6))), false, []⟩,
           ⟨(some 56), none, (.p (.mv (.t 1))), false, []⟩,
           ⟨(some 57), none, (.p (.mv (.t 8))), false, []⟩,
           ⟨(some 58), none, (.p (.iaddr 2 (.t 56) (.t 57))), false, []⟩,
           ⟨(some 59), none, (.p (.faddr 1 (.t 58))), false, []⟩,
           ⟨(some 60), none, (.r (.load 1 false (.t 59))), false, []⟩,
           ⟨(some 61), none, (.e (.mks 9 1 (.str []) 1 [(0, (.t 60))]) none), false, []⟩,
           ⟨(some 62), none, (.e (.append 9 1 1000000000 (.t 55) (.t 61)) none), false, []⟩,
           ⟨(some 6), none, (.p (.mv (.t 62))), false, []⟩] (some ⟨[0, 1, 6, 7, 8], [], false⟩))
         .skip))))))
   (.region 0 [⟨(some 14), none, (.p (.mv (.t 8))), false, []⟩,
     ⟨(some 15), none, (.p (.bin .add (.t 14) (.c (.int .i64 1)))), false, []⟩,
     ⟨(some 8), none, (.p (.mv (.t 15))), false, []⟩] (some ⟨[0, 1, 6, 7, 8], [], false⟩))))
def Tryd.c13 : AC :=
 (.seq
  (.region 0 [⟨(some 4), none, (.p (.mv (.c (.sl 0 [] true)))), false, []⟩,
    ⟨(some 5), none, (.p (.mv (.c (.bool false)))), false, []⟩] (some ⟨[0, 1], [], false⟩))
  (.seq
   (.region 0 [⟨(some 6), none, (.p (.mv (.c (.sl 0 [] true)))), false, []⟩] (some ⟨[0, 1, 6], [], false⟩))
   (.seq
    (.region 0 [⟨(some 7), none, (.p (.mv (.c (.int .i64 0)))), false, []⟩] (some ⟨[0, 1, 6, 7], [], false⟩))
    (.seq
     (.seq
      (.region 0 [⟨(some 8), none, (.p (.mv (.c (.int .i64 0)))), false, []⟩] (some ⟨[0, 1, 6, 7, 8], [], false⟩))
      (.block 0
       (.loop (some ⟨[0, 1, 6, 7, 8], [(6, (1, 9))], true⟩) Tryd.c13b0)))
     (.seq
      (.seq
       (.region 0 [⟨(some 63), none, (.p (.mv (.t 7))), false, []⟩,
         ⟨(some 64), none, (.p (.mv (.t 0))), false, []⟩,
         ⟨(some 65), none, (.p (.len (.t 64))), false, []⟩,
         ⟨(some 66), none, (.p (.bin .lss (.t 63) (.t 65))), false, []⟩] (some ⟨[6, 66], [], false⟩))
       (.cond (.t 66)
        (.seq
         (.region 0 [⟨(some 4), none, (.p (.mv (.c (.sl 0 [] true)))), false, []⟩,
           ⟨(some 5), none, (.p (.mv (.c (.bool false)))), false, []⟩] (some ⟨[4, 5], [], false⟩))
         .ret)
        .skip))
      (.seq
       (.region 0 [⟨(some 67), none, (.p (.mv (.t 6))), false, []⟩,
         ⟨(some 4), none, (.p (.mv (.t 67))), false, []⟩,
         ⟨(some 5), none, (.p (.mv (.c (.bool true)))), false, []⟩] (some ⟨[4, 5], [], false⟩))
       .ret))))))
theorem Tryd.run13 {xs : List AV} {r : AV} (hl : xs.length ≤ 68) (h : aw Tryd.prog Tryd.c13 (Pv.Ends [4, 5] r) (entry xs)) : Run Tryd.prog 13 xs r :=
  run_of (fun _ _ => drawOk Tryd.mixed) Tryd.func13 rfl rfl rfl (by kernel_rfl) (by kernel_rfl) hl h
/-! 14 paling/palinglaw48.told : params [25], results [36], free 0, zeros [(.slice none 0 0)] -/
def Tryd.c14b0 : AC :=
 (.seq
  (.region 0 [⟨(some 9), none, (.p (.bin .lss (.t 8) (.t 7))), false, []⟩] (some ⟨[3, 6, 7, 8, 9], [], false⟩))
  (.seq
   (.cond (.t 9)
    .skip
    (.exit 0))
   (.seq
    (.block 1
     (.seq
      (.region 0 [⟨(some 10), none, (.p (.iaddr 2 (.t 6) (.t 8))), false, []⟩,
        ⟨(some 11), none, (.r (.load 2 true (.t 10))), false, []⟩,
        ⟨(some 5), none, (.e (.alloc 39 (.agg [(.int .i64 0), (.str [])])) none), false, []⟩,
        ⟨none, none, (.e (.store 2 (.t 5) (.t 11)) none), false, []⟩] (some ⟨[3, 5, 6, 7, 8], [], false⟩))
      (.region 0 [⟨(some 12), none, (.p (.mv (.t 3))), false, []⟩,
        ⟨(some 13), none, (.r (.load 2 true (.t 5))), false, []⟩,
        ⟨(some 14), none, (.e (.mks 58 2 (.agg [(.int .i64 0), (.str [])]) 1 [(0, (.t 13))]) none), false, []⟩,
        ⟨(some 15), none, (.e (.append 58 2 1000000000 (.t 12) (.t 14)) none), false, []⟩,
        ⟨(some 3), none, (.p (.mv (.t 15))), false, []⟩] (some ⟨[3, 6, 7, 8], [], false⟩))))
    (.region 0 [⟨(some 16), none, (.p (.bin .add (.t 8) (.c (.int .i64 1)))), false, []⟩,
      ⟨(some 8), none, (.p (.mv (.t 16))), false, []⟩] (some ⟨[3, 6, 7, 8], [], false⟩)))))
def Tryd.c14 : AC :=
 (.seq
  (.region 0 [⟨(some 2), none, (.p (.mv (.c (.sl 0 [] true)))), false, []⟩] (some ⟨[0], [], false⟩))
  (.seq
   (.region 0 [⟨(some 3), none, (.p (.mv (.c (.sl 0 [] true)))), false, []⟩] (some ⟨[0, 3], [], false⟩))
   (.seq
    (.seq
     (.region 0 [⟨(some 6), none, (.p (.mv (.t 0))), false, []⟩,
       ⟨(some 7), none, (.p (.len (.t 6))), false, []⟩,
       ⟨(some 8), none, (.p (.mv (.c (.int .i64 0)))), false, []⟩] (some ⟨[3, 6, 7, 8], [], false⟩))
     (.block 0
      (.loop (some ⟨[3, 6, 7, 8], [(3, (2, 58))], true⟩) Tryd.c14b0)))
    (.seq
     (.region 0 [⟨(some 17), none, (.p (.mv (.t 3))), false, []⟩,
       ⟨(some 2), none, (.p (.mv (.t 17))), false, []⟩] (some ⟨[2], [], false⟩))
     .ret))))
theorem Tryd.run14 {xs : List AV} {r : AV} (hl : xs.length ≤ 18) (h : aw Tryd.prog Tryd.c14 (Pv.Ends [2] r) (entry xs)) : Run Tryd.prog 14 xs r :=
  run_of (fun _ _ => drawOk Tryd.mixed) Tryd.func14 rfl rfl rfl (by kernel_rfl) (by kernel_rfl) hl h
/-! 15 paling/palingref10.Texts : params [22, 22], results [4], free 0, zeros [(.slice none 0 0), (.slice none 0 0)] -/
def Tryd.c15b0 : AC :=
 (.seq
  (.seq
   (.region 0 [⟨(some 11), none, (.p (.mv (.t 5))), false, []⟩,
     ⟨(some 12), none, (.p (.mv (.t 0))), false, []⟩,
     ⟨(some 13), none, (.p (.len (.t 12))), false, []⟩,
     ⟨(some 14), none, (.p (.bin .lss (.t 11) (.t 13))), false, []⟩] (some ⟨[0, 1, 5, 14], [], false⟩))
   (.cond (.t 14)
    .skip
    (.exit 0)))
  (.seq
   (.block 1
    (.seq
     (.region 9 [⟨(some 17), none, (.p (.mv (.t 0))), false, []⟩,
       ⟨(some 18), none, (.p (.mv (.t 5))), false, []⟩,
       ⟨(some 19), none, (.p (.iaddr 1 (.t 17) (.t 18))), false, []⟩,
       ⟨(some 20), none, (.r (.load 1 false (.t 19))), false, []⟩,
       ⟨(some 21), none, (.p (.mv (.t 1))), false, []⟩,
       ⟨(some 22), none, (.p (.mv (.t 5))), false, []⟩,
       ⟨(some 23), none, (.p (.iaddr 1 (.t 21) (.t 22))), false, []⟩,
       ⟨(some 24), none, (.r (.load 1 false (.t 23))), false, []⟩,
       ⟨(some 25), none, (.p (.bin .neq (.t 20) (.t 24))), false, []⟩] (some ⟨[0, 1, 5, 25], [], true⟩))
     (.cond (.t 25)
      (.seq
       (.region 0 [⟨(some 4), none, (.p (.mv (.c (.bool false)))), false, []⟩] (some ⟨[4], [], false⟩))
       .ret)
      .skip)))
   (.region 0 [⟨(some 15), none, (.p (.mv (.t 5))), false, []⟩,
     ⟨(some 16), none, (.p (.bin .add (.t 15) (.c (.int .i64 1)))), false, []⟩,
     ⟨(some 5), none, (.p (.mv (.t 16))), false, []⟩] (some ⟨[0, 1, 5], [], false⟩))))
def Tryd.c15 : AC :=
 (.seq
  (.region 0 [⟨(some 4), none, (.p (.mv (.c (.bool false)))), false, []⟩] (some ⟨[0, 1], [], false⟩))
  (.seq
   (.seq
    (.region 0 [⟨(some 6), none, (.p (.mv (.t 0))), false, []⟩,
      ⟨(some 7), none, (.p (.len (.t 6))), false, []⟩,
      ⟨(some 8), none, (.p (.mv (.t 1))), false, []⟩,
      ⟨(some 9), none, (.p (.len (.t 8))), false, []⟩,
      ⟨(some 10), none, (.p (.bin .neq (.t 7) (.t 9))), false, []⟩] (some ⟨[0, 1, 10], [], false⟩))
    (.cond (.t 10)
     (.seq
      (.region 0 [⟨(some 4), none, (.p (.mv (.c (.bool false)))), false, []⟩] (some ⟨[4], [], false⟩))
      .ret)
     .skip))
   (.seq
    (.seq
     (.region 0 [⟨(some 5), none, (.p (.mv (.c (.int .i64 0)))), false, []⟩] (some ⟨[0, 1, 5], [], false⟩))
     (.block 0
      (.loop (some ⟨[0, 1, 5], [], true⟩) Tryd.c15b0)))
    (.seq
     (.region 0 [⟨(some 4), none, (.p (.mv (.c (.bool true)))), false, []⟩] (some ⟨[4], [], false⟩))
     .ret))))
theorem Tryd.run15 {xs : List AV} {r : AV} (hl : xs.length ≤ 26) (h : aw Tryd.prog Tryd.c15 (Pv.Ends [4] r) (entry xs)) : Run Tryd.prog 15 xs r :=
  run_of (fun _ _ => drawOk Tryd.mixed) Tryd.func15 rfl rfl rfl (by kernel_rfl) (by kernel_rfl) hl h
/-! 16 paling/palingref48.Same : params [36, 36], results [4], free 0, zeros [(.slice none 0 0), (.slice none 0 0)] -/
def Tryd.c16b0 : AC :=
 (.seq
  (.seq
   (.region 0 [⟨(some 11), none, (.p (.mv (.t 5))), false, []⟩,
     ⟨(some 12), none, (.p (.mv (.t 0))), false, []⟩,
     ⟨(some 13), none, (.p (.len (.t 12))), false, []⟩,
     ⟨(some 14), none, (.p (.bin .lss (.t 11) (.t 13))), false, []⟩] (some ⟨[0, 1, 5, 14], [], false⟩))
   (.cond (.t 14)
    .skip
    (.exit 0)))
  (.seq
   (.block 1
    (.seq
     (.region 9 [⟨(some 17), none, (.p (.mv (.t 0))), false, []⟩,
       ⟨(some 18), none, (.p (.mv (.t 5))), false, []⟩,
       ⟨(some 19), none, (.p (.iaddr 2 (.t 17) (.t 18))), false, []⟩,
       ⟨(some 20), none, (.r (.load 2 true (.t 19))), false, []⟩,
       ⟨(some 21), none, (.p (.mv (.t 1))), false, []⟩,
       ⟨(some 22), none, (.p (.mv (.t 5))), false, []⟩,
       ⟨(some 23), none, (.p (.iaddr 2 (.t 21) (.t 22))), false, []⟩,
       ⟨(some 24), none, (.r (.load 2 true (.t 23))), false, []⟩,
       ⟨(some 25), none, (.p (.eqS true [0, 1] (.t 20) (.t 24))), false, []⟩] (some ⟨[0, 1, 5, 25], [], true⟩))
     (.cond (.t 25)
      (.seq
       (.region 0 [⟨(some 4), none, (.p (.mv (.c (.bool false)))), false, []⟩] (some ⟨[4], [], false⟩))
       .ret)
      .skip)))
   (.region 0 [⟨(some 15), none, (.p (.mv (.t 5))), false, []⟩,
     ⟨(some 16), none, (.p (.bin .add (.t 15) (.c (.int .i64 1)))), false, []⟩,
     ⟨(some 5), none, (.p (.mv (.t 16))), false, []⟩] (some ⟨[0, 1, 5], [], false⟩))))
def Tryd.c16 : AC :=
 (.seq
  (.region 0 [⟨(some 4), none, (.p (.mv (.c (.bool false)))), false, []⟩] (some ⟨[0, 1], [], false⟩))
  (.seq
   (.seq
    (.region 0 [⟨(some 6), none, (.p (.mv (.t 0))), false, []⟩,
      ⟨(some 7), none, (.p (.len (.t 6))), false, []⟩,
      ⟨(some 8), none, (.p (.mv (.t 1))), false, []⟩,
      ⟨(some 9), none, (.p (.len (.t 8))), false, []⟩,
      ⟨(some 10), none, (.p (.bin .neq (.t 7) (.t 9))), false, []⟩] (some ⟨[0, 1, 10], [], false⟩))
    (.cond (.t 10)
     (.seq
      (.region 0 [⟨(some 4), none, (.p (.mv (.c (.bool false)))), false, []⟩] (some ⟨[4], [], false⟩))
      .ret)
     .skip))
   (.seq
    (.seq
     (.region 0 [⟨(some 5), none, (.p (.mv (.c (.int .i64 0)))), false, []⟩] (some ⟨[0, 1, 5], [], false⟩))
     (.block 0
      (.loop (some ⟨[0, 1, 5], [], true⟩) Tryd.c16b0)))
    (.seq
     (.region 0 [⟨(some 4), none, (.p (.mv (.c (.bool true)))), false, []⟩] (some ⟨[4], [], false⟩))
     .ret))))
theorem Tryd.run16 {xs : List AV} {r : AV} (hl : xs.length ≤ 26) (h : aw Tryd.prog Tryd.c16 (Pv.Ends [4] r) (entry xs)) : Run Tryd.prog 16 xs r :=
  run_of (fun _ _ => drawOk Tryd.mixed) Tryd.func16 rfl rfl rfl (by kernel_rfl) (by kernel_rfl) hl h
/-! 17 paling/palingref48.Undo : params [36], results [36], free 0, zeros [(.slice none 0 0)] -/
def Tryd.c17b0 : AC :=
 (.seq
  (.seq
   (.region 0 [⟨(some 6), none, (.p (.mv (.t 4))), false, []⟩,
     ⟨(some 7), none, (.p (.mv (.t 0))), false, []⟩,
     ⟨(some 8), none, (.p (.len (.t 7))), false, []⟩,
     ⟨(some 9), none, (.p (.bin .lss (.t 6) (.t 8))), false, []⟩] (some ⟨[0, 3, 4, 9], [], false⟩))
   (.cond (.t 9)
    .skip
    (.exit 0)))
  (.seq
   (.block 1
    (.seq
     (.region 0 [⟨(some 12), none, (.p (.mv (.t 0))), false, []⟩,
       ⟨(some 13), none, (.p (.mv (.t 4))), false, []⟩,
       ⟨(some 14), none, (.p (.iaddr 2 (.t 12) (.t 13))), false, []⟩,
       ⟨(some 15), none, (.r (.load 2 true (.t 14))), false, []⟩,
       ⟨(some 5), none, (.e (.alloc 58 (.agg [(.int .i64 0), (.str [])])) none), false, []⟩,
       ⟨none, none, (.e (.store 2 (.t 5) (.t 15)) none), false, []⟩] (some ⟨[0, 3, 4, 5], [], false⟩))
     (.seq
      (.seq
       (.region 0 [⟨(some 16), none, (.p (.faddr 0 (.t 5))), false, []⟩,
         ⟨(some 17), none, (.r (.load 1 false (.t 16))), false, []⟩,
         ⟨(some 18), none, (.p (.bin .eql (.t 17) (.c (.int .i64 1)))), false, []⟩,
         ⟨(some 19), none, (.p (.mv (.t 18))), false, []⟩,
         ⟨(some 20), (some (19, false)), (.p (.faddr 0 (.t 5))), false, []⟩,
         ⟨(some 21), (some (19, false)), (.r (.load 1 false (.t 20))), false, []⟩,
         ⟨(some 22), (some (19, false)), (.p (.bin .eql (.t 21) (.c (.int .i64 2)))), false, []⟩,
         ⟨(some 23), none, (.p (.pick (.t 19) (.c (.bool true)) (.t 22))), false, []⟩] (some ⟨[0, 3, 4, 5, 23], [], false⟩))
       (.cond (.t 23)
        (.region 0 [⟨(some 24), none, (.p (.faddr 0 (.t 5))), false, []⟩,
          ⟨(some 25), none, (.r (.load 1 false (.t 24))), false, []⟩,
          ⟨(some 26), none, (.p (.bin .sub (.c (.int .i64 3)) (.t 25))), false, []⟩,
          ⟨(some 27), none, (.p (.faddr 0 (.t 5))), false, []⟩,
          ⟨none, none, (.e (.store 1 (.t 27) (.t 26)) none), false, []⟩] (some ⟨[0, 3, 4, 5], [], false⟩))
        .skip))
      (.region 0 [⟨(some 28), none, (.p (.mv (.t 3))), false, []⟩,
        ⟨(some 29), none, (.r (.load 2 true (.t 5))), false, []⟩,
        ⟨(some 30), none, (.e (.mks 58 2 (.agg [(.int .i64 0), (.str [])]) 1 [(0, (.t 29))]) none), false, []⟩,
        ⟨(some 31), none, (.e (.append 58 2 1000000000 (.t 28) (.t 30)) none), false, []⟩,
        ⟨(some 3), none, (.p (.mv (.t 31))), false, []⟩] (some ⟨[0, 3, 4], [], false⟩)))))
   (.region 0 [⟨(some 10), none, (.p (.mv (.t 4))), false, []⟩,
     ⟨(some 11), none, (.p (.bin .add (.t 10) (.c (.int .i64 1)))), false, []⟩,
     ⟨(some 4), none, (.p (.mv (.t 11))), false, []⟩] (some ⟨[0, 3, 4], [], false⟩))))
def Tryd.c17 : AC :=
 (.seq
  (.region 0 [⟨(some 2), none, (.p (.mv (.c (.sl 0 [] true)))), false, []⟩] (some ⟨[0], [], false⟩))
  (.seq
   (.region 0 [⟨(some 3), none, (.p (.mv (.c (.sl 0 [] true)))), false, []⟩] (some ⟨[0, 3], [], false⟩))
   (.seq
    (.seq
     (.region 0 [⟨(some 4), none, (.p (.mv (.c (.int .i64 0)))), false, []⟩] (some ⟨[0, 3, 4], [], false⟩))
     (.block 0
      (.loop (some ⟨[0, 3, 4], [(3, (2, 58))], true⟩) Tryd.c17b0)))
    (.seq
     (.region 0 [⟨(some 32), none, (.p (.mv (.t 3))), false, []⟩,
       ⟨(some 2), none, (.p (.mv (.t 32))), false, []⟩] (some ⟨[2], [], false⟩))
     .ret))))
theorem Tryd.run17 {xs : List AV} {r : AV} (hl : xs.length ≤ 33) (h : aw Tryd.prog Tryd.c17 (Pv.Ends [2] r) (entry xs)) : Run Tryd.prog 17 xs r :=
  run_of (fun _ _ => drawOk Tryd.mixed) Tryd.func17 rfl rfl rfl (by kernel_rfl) (by kernel_rfl) hl h
/-! 18 paling/diff.Size : params [25], results [3], free 0, zeros [(.slice none 0 0)] -/
def Tryd.c18b0 : AC :=
 (.seq
  (.region 0 [⟨(some 9), none, (.p (.bin .lss (.t 8) (.t 7))), false, []⟩] (some ⟨[3, 6, 7, 8, 9], [], false⟩))
  (.seq
   (.cond (.t 9)
    .skip
    (.exit 0))
   (.seq
    (.block 1
     (.seq
      (.region 0 [⟨(some 10), none, (.p (.iaddr 2 (.t 6) (.t 8))), false, []⟩,
        ⟨(some 11), none, (.r (.load 2 true (.t 10))), false, []⟩,
        ⟨(some 5), none, (.e (.alloc 39 (.agg [(.int .i64 0), (.str [])])) none), false, []⟩,
        ⟨none, none, (.e (.store 2 (.t 5) (.t 11)) none), false, []⟩] (some ⟨[3, 5, 6, 7, 8], [], false⟩))
      (.seq
       (.region 0 [⟨(some 12), none, (.p (.faddr 0 (.t 5))), false, []⟩,
         ⟨(some 13), none, (.r (.load 1 false (.t 12))), false, []⟩,
         ⟨(some 14), none, (.p (.bin .neq (.t 13) (.c (.int .i64 0)))), false, []⟩] (some ⟨[3, 6, 7, 8, 14], [], false⟩))
       (.cond (.t 14)
        (.region 0 [⟨(some 15), none, (.p (.mv (.t 3))), false, []⟩,
          ⟨(some 16), none, (.p (.bin .add (.t 15) (.c (.int .i64 1)))), false, []⟩,
          ⟨(some 3), none, (.p (.mv (.t 16))), false, []⟩] (some ⟨[3, 6, 7, 8], [], false⟩))
        .skip))))
    (.region 0 [⟨(some 17), none, (.p (.bin .add (.t 8) (.c (.int .i64 1)))), false, []⟩,
      ⟨(some 8), none, (.p (.mv (.t 17))), false, []⟩] (some ⟨[3, 6, 7, 8], [], false⟩)))))
def Tryd.c18 : AC :=
 (.seq
  (.region 0 [⟨(some 2), none, (.p (.mv (.c (.int .i64 0)))), false, []⟩] (some ⟨[0], [], false⟩))
  (.seq
   (.region 0 [⟨(some 3), none, (.p (.mv (.c (.int .i64 0)))), false, []⟩] (some ⟨[0, 3], [], false⟩))
   (.seq
    (.seq
     (.region 0 [⟨(some 6), none, (.p (.mv (.t 0))), false, []⟩,
       ⟨(some 7), none, (.p (.len (.t 6))), false, []⟩,
       ⟨(some 8), none, (.p (.mv (.c (.int .i64 0)))), false, []⟩] (some ⟨[3, 6, 7, 8], [], false⟩))
     (.block 0
      (.loop (some ⟨[3, 6, 7, 8], [], true⟩) Tryd.c18b0)))
    (.seq
     (.region 0 [⟨(some 18), none, (.p (.mv (.t 3))), false, []⟩,
       ⟨(some 2), none, (.p (.mv (.t 18))), false, []⟩] (some ⟨[2], [], false⟩))
     .ret))))
theorem Tryd.run18 {xs : List AV} {r : AV} (hl : xs.length ≤ 19) (h : aw Tryd.prog Tryd.c18 (Pv.Ends [2] r) (entry xs)) : Run Tryd.prog 18 xs r :=
  run_of (fun _ _ => drawOk Tryd.mixed) Tryd.func18 rfl rfl rfl (by kernel_rfl) (by kernel_rfl) hl h
/-! 19 paling/palingref48.Text : params [36], results [9], free 0, zeros [(.slice none 0 0)] -/
def Tryd.c19b0 : AC :=
 (.seq
  (.seq
   (.region 0 [⟨(some 6), none, (.p (.mv (.t 4))), false, []⟩,
     ⟨(some 7), none, (.p (.mv (.t 0))), false, []⟩,
     ⟨(some 8), none, (.p (.len (.t 7))), false, []⟩,
     ⟨(some 9), none, (.p (.bin .lss (.t 6) (.t 8))), false, []⟩] (some ⟨[0, 3, 4, 9], [], false⟩))
   (.cond (.t 9)
    .skip
    (.exit 0)))
  (.seq
   (.block 1
    (.seq
     (.region 0 [⟨(some 5), none, (.p (.mv (.c (.str [63])))), false, []⟩] (some ⟨[0, 3, 4, 5], [], false⟩))
     (.seq
      (.seq
       (.region 0 [⟨(some 12), none, (.p (.mv (.t 0))), false, []⟩,
         ⟨(some 13), none, (.p (.mv (.t 4))), false, []⟩,
         ⟨(some 14), none, (.p (.iaddr 2 (.t 12) (.t 13))), false, []⟩,
         ⟨(some 15), none, (.p (.faddr 0 (.t 14))), false, []⟩,
         ⟨(some 16), none, (.r (.load 1 false (.t 15))), false, []⟩,
         ⟨(some 17), none, (.p (.bin .eql (.t 16) (.c (.int .i64 0)))), false, []⟩] (some ⟨[0, 3, 4, 5, 17], [], false⟩))
       (.cond (.t 17)
        (.region 0 [⟨(some 5), none, (.p (.mv (.c (.str [32])))), false, []⟩] (some ⟨[0, 3, 4, 5], [], false⟩))
        .skip))
      (.seq
       (.seq
        (.region 0 [⟨(some 18), none, (.p (.mv (.t 0))), false, []⟩,
          ⟨(some 19), none, (.p (.mv (.t 4))), false, []⟩,
          ⟨(some 20), none, (.p (.iaddr 2 (.t 18) (.t 19))), false, []⟩,
          ⟨(some 21), none, (.p (.faddr 0 (.t 20))), false, []⟩,
          ⟨(some 22), none, (.r (.load 1 false (.t 21))), false, []⟩,
          ⟨(some 23), none, (.p (.bin .eql (.t 22) (.c (.int .i64 1)))), false, []⟩] (some ⟨[0, 3, 4, 5, 23], [], false⟩))
        (.cond (.t 23)
         (.region 0 [⟨(some 5), none, (.p (.mv (.c (.str [45])))), false, []⟩] (some ⟨[0, 3, 4, 5], [], false⟩))
         .skip))
       (.seq
        (.seq
         (.region 0 [⟨(some 24), none, (.p (.mv (.t 0))), false, []⟩,
           ⟨(some 25), none, (.p (.mv (.t 4))), false, []⟩,
           ⟨(some 26), none, (.p (.iaddr 2 (.t 24) (.t 25))), false, []⟩,
           ⟨(some 27), none, (.p (.faddr 0 (.t 26))), false, []⟩,
           ⟨(some 28), none, (.r (.load 1 false (.t 27))), false, []⟩,
           ⟨(some 29), none, (.p (.bin .eql (.t 28) (.c (.int .i64 2)))), false, []⟩] (some ⟨[0, 3, 4, 5, 29], [], false⟩))
         (.cond (.t 29)
          (.region 0 [⟨(some 5), none, (.p (.mv (.c (.str [43])))), false, []⟩] (some ⟨[0, 3, 4, 5], [], false⟩))
          .skip))
        (.region 0 [⟨(some 30), none, (.p (.mv (.t 3))), false, []⟩,
          ⟨(some 31), none, (.p (.mv (.t 5))), false, []⟩,
          ⟨(some 32), none, (.p (.bin .add (.t 30) (.t 31))), false, []⟩,
          ⟨(some 33), none, (.p (.bin .add (.t 32) (.c (.str [32])))), false, []⟩,
          ⟨(some 34), none, (.p (.mv (.t 0))), false, []⟩,
          ⟨(some 35), none, (.p (.mv (.t 4))), false, []⟩,
          ⟨(some 36), none, (.p (.iaddr 2 (.t 34) (.t 35))), false, []⟩,
          ⟨(some 37), none, (.p (.faddr 1 (.t 36))), false, []⟩,
          ⟨(some 38), none, (.r (.load 1 false (.t 37))), false, []⟩,
          ⟨(some 39), none, (.p (.bin .add (.t 33) (.t 38))), false, []⟩,
          ⟨(some 40), none, (.p (.bin .add (.t 39) (.c (.str [10])))), false, []⟩,
          ⟨(some 3), none, (.p (.mv (.t 40))), false, []⟩] (some ⟨[0, 3, 4], [], false⟩)))))))
   (.region 0 [⟨(some 10), none, (.p (.mv (.t 4))), false, []⟩,
     ⟨(some 11), none, (.p (.bin .add (.t 10) (.c (.int .i64 1)))), false, []⟩,
     ⟨(some 4), none, (.p (.mv (.t 11))), false, []⟩] (some ⟨[0, 3, 4], [], false⟩))))
def Tryd.c19 : AC :=
 (.seq
  (.region 0 [⟨(some 2), none, (.p (.mv (.c (.str [])))), false, []⟩] (some ⟨[0], [], false⟩))
  (.seq
   (.region 0 [⟨(some 3), none, (.p (.mv (.c (.str [])))), false, []⟩] (some ⟨[0, 3], [], false⟩))
   (.seq
    (.seq
     (.region 0 [⟨(some 4), none, (.p (.mv (.c (.int .i64 0)))), false, []⟩] (some ⟨[0, 3, 4], [], false⟩))
     (.block 0
      (.loop (some ⟨[0, 3, 4], [], true⟩) Tryd.c19b0)))
    (.seq
     (.region 0 [⟨(some 41), none, (.p (.mv (.t 3))), false, []⟩,
       ⟨(some 2), none, (.p (.mv (.t 41))), false, []⟩] (some ⟨[2], [], false⟩))
     .ret))))
theorem Tryd.run19 {xs : List AV} {r : AV} (hl : xs.length ≤ 42) (h : aw Tryd.prog Tryd.c19 (Pv.Ends [2] r) (entry xs)) : Run Tryd.prog 19 xs r :=
  run_of (fun _ _ => drawOk Tryd.mixed) Tryd.func19 rfl rfl rfl (by kernel_rfl) (by kernel_rfl) hl h
/-! 20 paling/diff.reckon : params [22, 22], results [45], free 0, zeros [(.slice none 0 0), (.slice none 0 0)] -/
def Tryd.c20b0 : AC :=
 (.seq
  (.region 0 [⟨(some 20), none, (.p (.bin .lss (.t 19) (.c (.int .i64 2)))), false, []⟩] (some ⟨[0, 1, 5, 6, 19, 20], [], false⟩))
  (.seq
   (.cond (.t 20)
    .skip
    (.exit 0))
   (.seq
    (.block 1
     (.seq
      (.region 0 [⟨(some 21), none, (.p (.mv (.t 19))), false, []⟩,
        ⟨(some 7), none, (.p (.mv (.t 21))), false, []⟩] (some ⟨[0, 1, 5, 6, 7, 19], [], false⟩))
      (.region 0 [⟨(some 22), none, (.p (.mv (.t 7))), false, []⟩,
        ⟨(some 23), none, (.p (.mv (.t 1))), false, []⟩,
        ⟨(some 24), none, (.p (.len (.t 23))), false, []⟩,
        ⟨(some 25), none, (.p (.bin .add (.t 24) (.c (.int .i64 1)))), false, []⟩,
        ⟨(some 26), none, (.e (.make 3 1 (.int .i64 0) (.t 25) (.t 25)) none), false, []⟩,
        ⟨(some 27), none, (.p (.aaddr 2 1 (.t 6) (.t 22))), false, []⟩,
        ⟨none, none, (.e (.store 1 (.t 27) (.t 26)) none), false, []⟩] (some ⟨[0, 1, 5, 6, 19], [], false⟩))))
    (.region 0 [⟨(some 28), none, (.p (.bin .add (.t 19) (.c (.int .i64 1)))), false, []⟩,
      ⟨(some 19), none, (.p (.mv (.t 28))), false, []⟩] (some ⟨[0, 1, 5, 6, 19], [], false⟩)))))
def Tryd.c20b1 : AC :=
 (.seq
  (.seq
   (.region 0 [⟨(some 61), none, (.p (.mv (.t 11))), false, []⟩,
     ⟨(some 62), none, (.p (.bin .geq (.t 61) (.c (.int .i64 0)))), false, []⟩] (some ⟨[0, 1, 5, 6, 8, 9, 10, 11, 62], [], false⟩))
   (.cond (.t 62)
    .skip
    (.exit 4)))
  (.seq
   (.block 5
    (.seq
     (.region 20 [⟨(some 65), none, (.p (.mv (.t 5))), false, []⟩,
       ⟨(some 66), none, (.p (.nilck (.t 65))), false, []⟩,
       ⟨(some 67), none, (.p (.faddr 2 (.t 66))), false, []⟩,
       ⟨(some 68), none, (.r (.load 1 false (.t 67))), false, []⟩,
       ⟨(some 69), none, (.p (.mv (.t 8))), false, []⟩,
       ⟨(some 70), none, (.p (.iaddr 1 (.t 68) (.t 69))), false, []⟩,
       ⟨(some 71), none, (.r (.load 1 false (.t 70))), false, []⟩,
       ⟨(some 72), none, (.p (.mv (.t 11))), false, []⟩,
       ⟨(some 73), none, (.p (.mv (.t 10))), false, []⟩,
       ⟨(some 74), none, (.p (.mv (.t 11))), false, []⟩,
       ⟨(some 75), none, (.p (.iaddr 1 (.t 73) (.t 74))), false, []⟩,
       ⟨(some 76), none, (.r (.load 1 false (.t 75))), false, []⟩,
       ⟨(some 77), none, (.p (.mv (.t 9))), false, []⟩,
       ⟨(some 78), none, (.p (.mv (.t 11))), false, []⟩,
       ⟨(some 79), none, (.p (.bin .add (.t 78) (.c (.int .i64 1)))), false, []⟩,
       ⟨(some 80), none, (.p (.iaddr 1 (.t 77) (.t 79))), false, []⟩,
       ⟨(some 81), none, (.r (.load 1 false (.t 80))), false, []⟩,
       ⟨(some 82), none, (.p (.bin .geq (.t 76) (.t 81))), false, []⟩,
       ⟨(some 83), none, (.p (.iaddr 1 (.t 71) (.t 72))), false, []⟩,
       ⟨none, none, (.e (.store 1 (.t 83) (.t 82)) (some 19)), false, []⟩] (some ⟨[0, 1, 5, 6, 8, 9, 10, 11], [], true⟩))
     (.seq
      (.region 14 [⟨(some 84), none, (.p (.mv (.t 9))), false, []⟩,
        ⟨(some 85), none, (.p (.mv (.t 11))), false, []⟩,
        ⟨(some 86), none, (.p (.mv (.t 10))), false, []⟩,
        ⟨(some 87), none, (.p (.mv (.t 11))), false, []⟩,
        ⟨(some 88), none, (.p (.iaddr 1 (.t 86) (.t 87))), false, []⟩,
        ⟨(some 89), none, (.r (.load 1 false (.t 88))), false, []⟩,
        ⟨(some 90), none, (.p (.mv (.t 9))), false, []⟩,
        ⟨(some 91), none, (.p (.mv (.t 11))), false, []⟩,
        ⟨(some 92), none, (.p (.bin .add (.t 91) (.c (.int .i64 1)))), false, []⟩,
        ⟨(some 93), none, (.p (.iaddr 1 (.t 90) (.t 92))), false, []⟩,
        ⟨(some 94), none, (.r (.load 1 false (.t 93))), false, []⟩,
        ⟨(some 95), none, (.p (.minmax true (.t 89) (.t 94))), false, []⟩,
        ⟨(some 96), none, (.p (.iaddr 1 (.t 84) (.t 85))), false, []⟩,
        ⟨none, none, (.e (.store 1 (.t 96) (.t 95)) (some 13)), false, []⟩] (some ⟨[0, 1, 5, 6, 8, 9, 10, 11], [], true⟩))
      (.seq
       (.region 9 [⟨(some 97), none, (.p (.mv (.t 0))), false, []⟩,
         ⟨(some 98), none, (.p (.mv (.t 8))), false, []⟩,
         ⟨(some 99), none, (.p (.iaddr 1 (.t 97) (.t 98))), false, []⟩,
         ⟨(some 100), none, (.r (.load 1 false (.t 99))), false, []⟩,
         ⟨(some 101), none, (.p (.mv (.t 1))), false, []⟩,
         ⟨(some 102), none, (.p (.mv (.t 11))), false, []⟩,
         ⟨(some 103), none, (.p (.iaddr 1 (.t 101) (.t 102))), false, []⟩,
         ⟨(some 104), none, (.r (.load 1 false (.t 103))), false, []⟩,
         ⟨(some 105), none, (.p (.bin .eql (.t 100) (.t 104))), false, []⟩] (some ⟨[0, 1, 5, 6, 8, 9, 10, 11, 105], [], true⟩))
       (.cond (.t 105)
        (.region 0 [⟨(some 106), none, (.p (.mv (.t 9))), false, []⟩,
          ⟨(some 107), none, (.p (.mv (.t 11))), false, []⟩,
          ⟨(some 108), none, (.p (.mv (.t 10))), false, []⟩,
          ⟨(some 109), none, (.p (.mv (.t 11))), false, []⟩,
          ⟨(some 110), none, (.p (.bin .add (.t 109) (.c (.int .i64 1)))), false, []⟩,
          ⟨(some 111), none, (.p (.iaddr 1 (.t 108) (.t 110))), false, []⟩,
          ⟨(some 112), none, (.r (.load 1 false (.t 111))), false, []⟩,
          ⟨(some 113), none, (.p (.bin .add (.t 112) (.c (.int .i64 1)))), false, []⟩,
          ⟨(some 114), none, (.p (.iaddr 1 (.t 106) (.t 107))), false, []⟩,
          ⟨none, none, (.e (.store 1 (.t 114) (.t 113)) none), false, []⟩] (some ⟨[0, 1, 5, 6, 8, 9, 10, 11], [], false⟩))
        .skip)))))
   (.region 0 [⟨(some 63), none, (.p (.mv (.t 11))), false, []⟩,
     ⟨(some 64), none, (.p (.bin .sub (.t 63) (.c (.int .i64 1)))), false, []⟩,
     ⟨(some 11), none, (.p (.mv (.t 64))), false, []⟩] (some ⟨[0, 1, 5, 6, 8, 9, 10, 11], [], false⟩))))
def Tryd.c20b2 : AC :=
 (.seq
  (.seq
   (.region 0 [⟨(some 32), none, (.p (.mv (.t 8))), false, []⟩,
     ⟨(some 33), none, (.p (.bin .geq (.t 32) (.c (.int .i64 0)))), false, []⟩] (some ⟨[0, 1, 5, 6, 8, 33], [], false⟩))
   (.cond (.t 33)
    .skip
    (.exit 2)))
  (.seq
   (.block 3
    (.seq
     (.region 11 [⟨(some 36), none, (.p (.mv (.t 8))), false, []⟩,
       ⟨(some 37), none, (.p (.bin .rem (.t 36) (.c (.int .i64 2)))), false, []⟩,
       ⟨(some 38), none, (.p (.aaddr 2 1 (.t 6) (.t 37))), false, []⟩,
       ⟨(some 39), none, (.r (.load 1 false (.t 38))), false, []⟩,
       ⟨(some 40), none, (.p (.mv (.t 8))), false, []⟩,
       ⟨(some 41), none, (.p (.bin .add (.t 40) (.c (.int .i64 1)))), false, []⟩,
       ⟨(some 42), none, (.p (.bin .rem (.t 41) (.c (.int .i64 2)))), false, []⟩,
       ⟨(some 43), none, (.p (.aaddr 2 1 (.t 6) (.t 42))), false, []⟩,
       ⟨(some 44), none, (.r (.load 1 false (.t 43))), false, []⟩,
       ⟨(some 9), none, (.p (.mv (.t 39))), false, []⟩,
       ⟨(some 10), none, (.p (.mv (.t 44))), false, []⟩] (some ⟨[0, 1, 5, 6, 8, 9, 10], [], true⟩))
     (.seq
      (.region 10 [⟨(some 45), none, (.p (.mv (.t 5))), true, []⟩,
        ⟨(some 46), none, (.p (.nilck (.t 45))), true, []⟩,
        ⟨(some 47), none, (.p (.faddr 2 (.t 46))), true, []⟩,
        ⟨(some 48), none, (.r (.load 1 false (.t 47))), true, []⟩,
        ⟨(some 49), none, (.p (.mv (.t 8))), true, []⟩,
        ⟨(some 50), none, (.p (.mv (.t 1))), true, []⟩,
        ⟨(some 51), none, (.p (.len (.t 50))), true, []⟩,
        ⟨(some 52), none, (.e (.make 4 1 (.bool false) (.t 51) (.t 51)) (some 7)), true, []⟩,
        ⟨(some 53), none, (.p (.iaddr 1 (.t 48) (.t 49))), true, []⟩,
        ⟨none, none, (.e (.store 1 (.t 53) (.t 52)) (some 9)), true, []⟩] (some ⟨[0, 1, 5, 6, 8, 9, 10], [], true⟩))
      (.seq
       (.region 0 [⟨(some 54), none, (.p (.mv (.t 9))), false, []⟩,
         ⟨(some 55), none, (.p (.mv (.t 1))), false, []⟩,
         ⟨(some 56), none, (.p (.len (.t 55))), false, []⟩,
         ⟨(some 57), none, (.p (.iaddr 1 (.t 54) (.t 56))), false, []⟩,
         ⟨none, none, (.e (.store 1 (.t 57) (.c (.int .i64 0))) none), false, []⟩] (some ⟨[0, 1, 5, 6, 8, 9, 10], [], false⟩))
       (.seq
        (.region 0 [⟨(some 58), none, (.p (.mv (.t 1))), false, []⟩,
          ⟨(some 59), none, (.p (.len (.t 58))), false, []⟩,
          ⟨(some 60), none, (.p (.bin .sub (.t 59) (.c (.int .i64 1)))), false, []⟩,
          ⟨(some 11), none, (.p (.mv (.t 60))), false, []⟩] (some ⟨[0, 1, 5, 6, 8, 9, 10, 11], [], false⟩))
        (.block 4
         (.loop (some ⟨[0, 1, 5, 6, 8, 9, 10, 11], [], true⟩) Tryd.c20b1)))))))
   (.region 0 [⟨(some 34), none, (.p (.mv (.t 8))), false, []⟩,
     ⟨(some 35), none, (.p (.bin .sub (.t 34) (.c (.int .i64 1)))), false, []⟩,
     ⟨(some 8), none, (.p (.mv (.t 35))), false, []⟩] (some ⟨[0, 1, 5, 6, 8], [], false⟩))))
def Tryd.c20 : AC :=
 (.seq
  (.region 0 [⟨(some 4), none, (.p (.mv (.c (.lit (.pointer none))))), false, []⟩] (some ⟨[0, 1], [], false⟩))
  (.seq
   (.region 0 [⟨(some 12), none, (.p (.mv (.t 0))), false, []⟩,
     ⟨(some 13), none, (.p (.mv (.t 1))), false, []⟩,
     ⟨(some 14), none, (.p (.mv (.t 0))), false, []⟩,
     ⟨(some 15), none, (.p (.len (.t 14))), false, []⟩,
     ⟨(some 16), none, (.e (.make 64 1 (.sl 0 [] true) (.t 15) (.t 15)) none), false, []⟩,
     ⟨(some 17), none, (.p (.build [(.sl 0 [] true), (.sl 0 [] true), (.sl 0 [] true)] [(0, 1, (.t 12)), (1, 1, (.t 13)), (2, 1, (.t 16))])), false, []⟩,
     ⟨(some 18), none, (.e (.box 61 (.t 17)) none), false, []⟩,
     ⟨(some 5), none, (.p (.mv (.t 18))), false, []⟩] (some ⟨[0, 1, 5], [], false⟩))
   (.seq
    (.region 0 [⟨(some 6), none, (.e (.alloc 63 (.agg [(.sl 0 [] true), (.sl 0 [] true)])) none), false, []⟩] (some ⟨[0, 1, 5, 6], [], false⟩))
    (.seq
     (.seq
      (.region 0 [⟨(some 19), none, (.p (.mv (.c (.int .i64 0)))), false, []⟩] (some ⟨[0, 1, 5, 6, 19], [], false⟩))
      (.block 0
       (.loop (some ⟨[0, 1, 5, 6, 19], [(5, (1000001, 2))], true⟩) Tryd.c20b0)))
     (.seq
      (.seq
       (.region 0 [⟨(some 29), none, (.p (.mv (.t 0))), false, []⟩,
         ⟨(some 30), none, (.p (.len (.t 29))), false, []⟩,
         ⟨(some 31), none, (.p (.bin .sub (.t 30) (.c (.int .i64 1)))), false, []⟩,
         ⟨(some 8), none, (.p (.mv (.t 31))), false, []⟩] (some ⟨[0, 1, 5, 6, 8], [], false⟩))
       (.block 2
        (.loop (some ⟨[0, 1, 5, 6, 8], [(5, (1000001, 2))], true⟩) Tryd.c20b2)))
      (.seq
       (.region 0 [⟨(some 115), none, (.p (.mv (.t 5))), false, []⟩,
         ⟨(some 4), none, (.p (.mv (.t 115))), false, []⟩] (some ⟨[4], [], false⟩))
       .ret))))))
theorem Tryd.run20 {xs : List AV} {r : AV} (hl : xs.length ≤ 116) (h : aw Tryd.prog Tryd.c20 (Pv.Ends [4] r) (entry xs)) : Run Tryd.prog 20 xs r :=
  run_of (fun _ _ => drawOk Tryd.mixed) Tryd.func20 rfl rfl rfl (by kernel_rfl) (by kernel_rfl) hl h
/-! 21 (*paling/diff.common).edits : params [45], results [25], free 0, zeros [(.pointer none)] -/
def Tryd.c21b0 : AC :=
 (.seq
  (.seq
   (.region 0 [⟨(some 6), none, (.p (.mv (.t 4))), false, []⟩,
     ⟨(some 7), none, (.p (.mv (.t 0))), false, []⟩,
     ⟨(some 8), none, (.p (.nilck (.t 7))), false, []⟩,
     ⟨(some 9), none, (.p (.faddr 0 (.t 8))), false, []⟩,
     ⟨(some 10), none, (.r (.load 1 false (.t 9))), false, []⟩,
     ⟨(some 11), none, (.p (.len (.t 10))), false, []⟩,
     ⟨(some 12), none, (.p (.bin .lss (.t 6) (.t 11))), false, []⟩,
     ⟨(some 13), none, (.p (.mv (.t 12))), false, []⟩,
     ⟨(some 14), (some (13, false)), (.p (.mv (.t 5))), false, []⟩,
     ⟨(some 15), (some (13, false)), (.p (.mv (.t 0))), false, []⟩,
     ⟨(some 16), (some (13, false)), (.p (.nilck (.t 15))), false, []⟩,
     ⟨(some 17), (some (13, false)), (.p (.faddr 1 (.t 16))), false, []⟩,
     ⟨(some 18), (some (13, false)), (.r (.load 1 false (.t 17))), false, []⟩,
     ⟨(some 19), (some (13, false)), (.p (.len (.t 18))), false, []⟩,
     ⟨(some 20), (some (13, false)), (.p (.bin .lss (.t 14) (.t 19))), false, []⟩,
     ⟨(some 21), none, (.p (.pick (.t 13) (.c (.bool true)) (.t 20))), false, []⟩] (some ⟨[0, 3, 4, 5, 21], [], false⟩))
   (.cond (.t 21)
    .skip
    (.exit 0)))
  (.block 1
   (.block 2
    (.seq
     (.region 34 [⟨(some 36), none, (.p (.mv (.t 4))), false, []⟩,
       ⟨(some 37), none, (.p (.mv (.t 0))), false, []⟩,
       ⟨(some 38), none, (.p (.nilck (.t 37))), false, []⟩,
       ⟨(some 39), none, (.p (.faddr 0 (.t 38))), false, []⟩,
       ⟨(some 40), none, (.r (.load 1 false (.t 39))), false, []⟩,
       ⟨(some 41), none, (.p (.len (.t 40))), false, []⟩,
       ⟨(some 42), none, (.p (.bin .lss (.t 36) (.t 41))), false, []⟩,
       ⟨(some 43), none, (.p (.mv (.t 42))), false, []⟩,
       ⟨(some 44), (some (43, true)), (.p (.mv (.t 5))), false, []⟩,
       ⟨(some 45), (some (43, true)), (.p (.mv (.t 0))), false, []⟩,
       ⟨(some 46), (some (43, true)), (.p (.nilck (.t 45))), false, []⟩,
       ⟨(some 47), (some (43, true)), (.p (.faddr 1 (.t 46))), false, []⟩,
       ⟨(some 48), (some (43, true)), (.r (.load 1 false (.t 47))), false, []⟩,
       ⟨(some 49), (some (43, true)), (.p (.len (.t 48))), false, []⟩,
       ⟨(some 50), (some (43, true)), (.p (.bin .lss (.t 44) (.t 49))), false, []⟩,
       ⟨(some 51), none, (.p (.pick (.t 43) (.t 50) (.c (.bool false)))), false, []⟩,
       ⟨(some 52), none, (.p (.mv (.t 51))), false, []⟩,
       ⟨(some 53), (some (52, true)), (.p (.mv (.t 0))), false, []⟩,
       ⟨(some 54), (some (52, true)), (.p (.nilck (.t 53))), false, []⟩,
       ⟨(some 55), (some (52, true)), (.p (.faddr 0 (.t 54))), false, []⟩,
       ⟨(some 56), (some (52, true)), (.r (.load 1 false (.t 55))), false, []⟩,
       ⟨(some 57), (some (52, true)), (.p (.mv (.t 4))), false, []⟩,
       ⟨(some 58), (some (52, true)), (.p (.iaddr 1 (.t 56) (.t 57))), false, []⟩,
       ⟨(some 59), (some (52, true)), (.r (.load 1 false (.t 58))), false, []⟩,
       ⟨(some 60), (some (52, true)), (.p (.mv (.t 0))), false, []⟩,
       ⟨(some 61), (some (52, true)), (.p (.nilck (.t 60))), false, []⟩,
       ⟨(some 62), (some (52, true)), (.p (.faddr 1 (.t 61))), false, []⟩,
       ⟨(some 63), (some (52, true)), (.r (.load 1 false (.t 62))), false, []⟩,
       ⟨(some 64), (some (52, true)), (.p (.mv (.t 5))), false, []⟩,
       ⟨(some 65), (some (52, true)), (.p (.iaddr 1 (.t 63) (.t 64))), false, []⟩,
       ⟨(some 66), (some (52, true)), (.r (.load 1 false (.t 65))), false, []⟩,
       ⟨(some 67), (some (52, true)), (.p (.bin .eql (.t 59) (.t 66))), false, []⟩,
       ⟨(some 68), none, (.p (.pick (.t 52) (.t 67) (.c (.bool false)))), false, []⟩,
       ⟨(some 35), none, (.p (.mv (.t 68))), false, []⟩] (some ⟨[0, 3, 4, 5, 35], [], true⟩))
     (.cond (.t 35)
      (.seq
       (.region 0 [⟨(some 69), none, (.p (.mv (.t 3))), false, []⟩,
         ⟨(some 70), none, (.p (.mv (.t 0))), false, []⟩,
         ⟨(some 71), none, (.p (.nilck (.t 70))), false, []⟩,
         ⟨(some 72), none, (.p (.faddr 0 (.t 71))), false, []⟩,
         ⟨(some 73), none, (.r (.load 1 false (.t 72))), false, []⟩,
         ⟨(some 74), none, (.p (.mv (.t 4))), false, []⟩,
         ⟨(some 75), none, (.p (.iaddr 1 (.t 73) (.t 74))), false, []⟩,
         ⟨(some 76), none, (.r (.load 1 false (.t 75))), false, []⟩,
         ⟨(some 77), none, (.p (.build [(.int .i64 0), (.str [])] [(0, 1, (.c (.int .i64 0))), (1, 1, (.t 76))])), false, []⟩,
         ⟨(some 78), none, (.e (.mks 39 2 (.agg [(.int .i64 0), (.str [])]) 1 [(0, (.t 77))]) none), false, []⟩,
         ⟨(some 79), none, (.e (.append 39 2 1000000000 (.t 69) (.t 78)) none), false, []⟩,
         ⟨(some 3), none, (.p (.mv (.t 79))), false, []⟩] (some ⟨[0, 3, 4, 5], [], false⟩))
       (.region 0 [⟨(some 80), none, (.p (.mv (.t 4))), false, []⟩,
         ⟨(some 81), none, (.p (.bin .add (.t 80) (.c (.int .i64 1)))), false, []⟩,
         ⟨(some 82), none, (.p (.mv (.t 5))), false, []⟩,
         ⟨(some 83), none, (.p (.bin .add (.t 82) (.c (.int .i64 1)))), false, []⟩,
         ⟨(some 4), none, (.p (.mv (.t 81))), false, []⟩,
         ⟨(some 5), none, (.p (.mv (.t 83))), false, []⟩] (some ⟨[0, 3, 4, 5], [], false⟩)))
      (.seq
       (.region 0 [⟨(some 85), none, (.p (.mv (.t 4))), false, []⟩,
         ⟨(some 86), none, (.p (.mv (.t 0))), false, []⟩,
         ⟨(some 87), none, (.p (.nilck (.t 86))), false, []⟩,
         ⟨(some 88), none, (.p (.faddr 0 (.t 87))), false, []⟩,
         ⟨(some 89), none, (.r (.load 1 false (.t 88))), false, []⟩,
         ⟨(some 90), none, (.p (.len (.t 89))), false, []⟩,
         ⟨(some 91), none, (.p (.bin .lss (.t 85) (.t 90))), false, []⟩,
         ⟨(some 92), none, (.p (.mv (.t 91))), false, []⟩,
         ⟨(some 93), (some (92, true)), (.p (.mv (.t 5))), false, []⟩,
         ⟨(some 94), (some (92, true)), (.p (.mv (.t 0))), false, []⟩,
         ⟨(some 95), (some (92, true)), (.p (.nilck (.t 94))), false, []⟩,
         ⟨(some 96), (some (92, true)), (.p (.faddr 1 (.t 95))), false, []⟩,
         ⟨(some 97), (some (92, true)), (.r (.load 1 false (.t 96))), false, []⟩,
         ⟨(some 98), (some (92, true)), (.p (.len (.t 97))), false, []⟩,
         ⟨(some 99), (some (92, true)), (.p (.bin .eql (.t 93) (.t 98))), false, []⟩,
         ⟨(some 100), (some (92, true)), (.p (.mv (.t 99))), false, []⟩,
         ⟨(some 101), (some (100, false)), (.p (.mv (.t 0))), false, []⟩,
         ⟨(some 102), (some (100, false)), (.p (.nilck (.t 101))), false, []⟩,
         ⟨(some 103), (some (100, false)), (.p (.faddr 2 (.t 102))), false, []⟩,
         ⟨(some 104), (some (100, false)), (.r (.load 1 false (.t 103))), false, []⟩,
         ⟨(some 105), (some (100, false)), (.p (.mv (.t 4))), false, []⟩,
         ⟨(some 106), (some (100, false)), (.p (.iaddr 1 (.t 104) (.t 105))), false, []⟩,
         ⟨(some 107), (some (100, false)), (.r (.load 1 false (.t 106))), false, []⟩,
         ⟨(some 108), (some (100, false)), (.p (.mv (.t 5))), false, []⟩,
         ⟨(some 109), (some (100, false)), (.p (.iaddr 1 (.t 107) (.t 108))), false, []⟩,
         ⟨(some 110), (some (100, false)), (.r (.load 1 false (.t 109))), false, []⟩,
         ⟨(some 111), (some (92, true)), (.p (.pick (.t 100) (.c (.bool true)) (.t 110))), false, []⟩,
         ⟨(some 112), none, (.p (.pick (.t 92) (.t 111) (.c (.bool false)))), false, []⟩,
         ⟨(some 84), none, (.p (.mv (.t 112))), false, []⟩] (some ⟨[0, 3, 4, 5, 84], [], false⟩))
       (.cond (.t 84)
        (.seq
         (.region 0 [⟨(some 113), none, (.p (.mv (.t 3))), false, []⟩,
           ⟨(some 114), none, (.p (.mv (.t 0))), false, []⟩,
           ⟨(some 115), none, (.p (.nilck (.t 114))), false, []⟩,
           ⟨(some 116), none, (.p (.faddr 0 (.t 115))), false, []⟩,
           ⟨(some 117), none, (.r (.load 1 false (.t 116))), false, []⟩,
           ⟨(some 118), none, (.p (.mv (.t 4))), false, []⟩,
           ⟨(some 119), none, (.p (.iaddr 1 (.t 117) (.t 118))), false, []⟩,
           ⟨(some 120), none, (.r (.load 1 false (.t 119))), false, []⟩,
           ⟨(some 121), none, (.p (.build [(.int .i64 0), (.str [])] [(0, 1, (.c (.int .i64 1))), (1, 1, (.t 120))])), false, []⟩,
           ⟨(some 122), none, (.e (.mks 39 2 (.agg [(.int .i64 0), (.str [])]) 1 [(0, (.t 121))]) none), false, []⟩,
           ⟨(some 123), none, (.e (.append 39 2 1000000000 (.t 113) (.t 122)) none), false, []⟩,
           ⟨(some 3), none, (.p (.mv (.t 123))), false, []⟩] (some ⟨[0, 3, 4, 5], [], false⟩))
         (.region 0 [⟨(some 124), none, (.p (.mv (.t 4))), false, []⟩,
           ⟨(some 125), none, (.p (.bin .add (.t 124) (.c (.int .i64 1)))), false, []⟩,
           ⟨(some 4), none, (.p (.mv (.t 125))), false, []⟩] (some ⟨[0, 3, 4, 5], [], false⟩)))
        (.seq
         (.region 0 [⟨(some 22), none, (.p (.mv (.t 3))), false, []⟩,
           ⟨(some 23), none, (.p (.mv (.t 0))), false, []⟩,
           ⟨(some 24), none, (.p (.nilck (.t 23))), false, []⟩,
           ⟨(some 25), none, (.p (.faddr 1 (.t 24))), false, []⟩,
           ⟨(some 26), none, (.r (.load 1 false (.t 25))), false, []⟩,
           ⟨(some 27), none, (.p (.mv (.t 5))), false, []⟩,
           ⟨(some 28), none, (.p (.iaddr 1 (.t 26) (.t 27))), false, []⟩,
           ⟨(some 29), none, (.r (.load 1 false (.t 28))), false, []⟩,
           ⟨(some 30), none, (.p (.build [(.int .i64 0), (.str [])] [(0, 1, (.c (.int .i64 2))), (1, 1, (.t 29))])), false, []⟩,
           ⟨(some 31), none, (.e (.mks 39 2 (.agg [(.int .i64 0), (.str [])]) 1 [(0, (.t 30))]) none), false, []⟩,
           ⟨(some 32), none, (.e (.append 39 2 1000000000 (.t 22) (.t 31)) none), false, []⟩,
           ⟨(some 3), none, (.p (.mv (.t 32))), false, []⟩] (some ⟨[0, 3, 4, 5], [], false⟩))
         (.region 0 [⟨(some 33), none, (.p (.mv (.t 5))), false, []⟩,
           ⟨(some 34), none, (.p (.bin .add (.t 33) (.c (.int .i64 1)))), false, []⟩,
           ⟨(some 5), none, (.p (.mv (.t 34))), false, []⟩] (some ⟨[0, 3, 4, 5], [], false⟩))))))))))
def Tryd.c21 : AC :=
 (.seq
  (.region 0 [⟨(some 2), none, (.p (.mv (.c (.sl 0 [] true)))), false, []⟩] (some ⟨[0], [], false⟩))
  (.seq
   (.region 0 [⟨(some 3), none, (.p (.mv (.c (.sl 0 [] true)))), false, []⟩] (some ⟨[0, 3], [], false⟩))
   (.seq
    (.region 0 [⟨(some 4), none, (.p (.mv (.c (.int .i64 0)))), false, []⟩,
      ⟨(some 5), none, (.p (.mv (.c (.int .i64 0)))), false, []⟩] (some ⟨[0, 3, 4, 5], [], false⟩))
    (.seq
     (.block 0
      (.loop (some ⟨[0, 3, 4, 5], [(3, (2, 39))], true⟩) Tryd.c21b0))
     (.seq
      (.region 0 [⟨(some 126), none, (.p (.mv (.t 3))), false, []⟩,
        ⟨(some 2), none, (.p (.mv (.t 126))), false, []⟩] (some ⟨[2], [], false⟩))
      .ret)))))
theorem Tryd.run21 {xs : List AV} {r : AV} (hl : xs.length ≤ 127) (h : aw Tryd.prog Tryd.c21 (Pv.Ends [2] r) (entry xs)) : Run Tryd.prog 21 xs r :=
  run_of (fun _ _ => drawOk Tryd.mixed) Tryd.func21 rfl rfl rfl (by kernel_rfl) (by kernel_rfl) hl h
/-! 22 slices.Clone[[]paling/diff.Edit,paling/diff.Edit] : params [25], results [25], free 0, zeros [(.slice none 0 0)] -/
def Tryd.c22 : AC :=
 (.seq
  (.region 0 [⟨(some 2), none, (.p (.mv (.c (.sl 0 [] true)))), false, []⟩] (some ⟨[0], [], false⟩))
  (.seq
   (.seq
    (.region 0 [⟨(some 3), none, (.p (.mv (.t 0))), false, []⟩,
      ⟨(some 4), none, (.p (.isnil false (.t 3))), false, []⟩] (some ⟨[0, 4], [], false⟩))
    (.cond (.t 4)
     (.seq
      (.region 0 [⟨(some 2), none, (.p (.mv (.c (.sl 0 [] true)))), false, []⟩] (some ⟨[2], [], false⟩))
      .ret)
     .skip))
   (.seq
    (.region 0 [⟨(some 5), none, (.e (.mks 39 2 (.agg [(.int .i64 0), (.str [])]) 0 []) none), false, []⟩,
      ⟨(some 6), none, (.p (.mv (.t 0))), false, []⟩,
      ⟨(some 7), none, (.e (.append 39 2 1000000000 (.t 5) (.t 6)) none), false, []⟩,
      ⟨(some 2), none, (.p (.mv (.t 7))), false, []⟩] (some ⟨[2], [], false⟩))
    .ret)))
theorem Tryd.run22 {xs : List AV} {r : AV} (hl : xs.length ≤ 8) (h : aw Tryd.prog Tryd.c22 (Pv.Ends [2] r) (entry xs)) : Run Tryd.prog 22 xs r :=
  run_of (fun _ _ => drawOk Tryd.mixed) Tryd.func22 rfl rfl rfl (by kernel_rfl) (by kernel_rfl) hl h
end Go.Proofs
