/-
  The compiled code of this seat's functions, with what is live kept, and the rules that run it. (Printed by a program of ours.)
-/
import Derived.Test.YtabenkmiojjiiaaPvZG
import Derived.Test.YtabenkmiojjiiaaProg
namespace Go.Proofs
open Go.Pv
theorem Try.mixed : Try.prog.follows .mixedOrders = true := by kernel_rfl
/-! 5 paling/palinglaw46.PcapPuts : params [40], results [4], free 0, zeros [(.slice none 0 0)] -/
def Try.c5b0 : AC :=
 (.seq
  (.region 0 [⟨(some 15), none, (.p (.bin .lss (.t 14) (.t 13))), false, []⟩] (some ⟨[0, 12, 13, 14, 15], [], false⟩))
  (.seq
   (.cond (.t 15)
    .skip
    (.exit 0))
   (.seq
    (.block 1
     (.seq
      (.region 0 [⟨(some 16), none, (.p (.iaddr 4 (.t 12) (.t 14))), false, []⟩,
        ⟨(some 17), none, (.r (.load 4 true (.t 16))), false, []⟩,
        ⟨(some 4), none, (.e (.alloc 44 (.agg [(.int .i64 0), (.int .i64 0), (.int .i64 0), (.sl 0 [] true)])) none), false, []⟩,
        ⟨none, none, (.e (.store 4 (.t 4) (.t 17)) none), false, []⟩] (some ⟨[0, 4, 12, 13, 14], [], false⟩))
      (.seq
       (.region 13 [⟨(some 18), none, (.r (.load 4 true (.t 4))), false, []⟩,
         ⟨(some 20), none, (.p (.faddr 0 (.t 4))), false, []⟩,
         ⟨(some 21), none, (.r (.load 1 false (.t 20))), false, []⟩,
         ⟨(some 22), none, (.p (.faddr 1 (.t 4))), false, []⟩,
         ⟨(some 23), none, (.r (.load 1 false (.t 22))), false, []⟩,
         ⟨(some 24), none, (.p (.faddr 2 (.t 4))), false, []⟩,
         ⟨(some 25), none, (.r (.load 1 false (.t 24))), false, []⟩,
         ⟨(some 26), none, (.p (.faddr 3 (.t 4))), false, []⟩,
         ⟨(some 27), none, (.r (.load 1 false (.t 26))), false, []⟩,
         ⟨(some 28), none, (.p (.build [(.int .i64 0), (.int .i64 0), (.int .i64 0), (.sl 0 [] true)] [(0, 1, (.t 21)), (1, 1, (.t 23)), (2, 1, (.t 25)), (3, 1, (.t 27))])), false, []⟩,
         ⟨(some 19), none, (.call 25 [(.t 18)] true), false, []⟩,
         ⟨(some 29), none, (.call 26 [(.t 28)] true), false, []⟩,
         ⟨(some 30), none, (.p (.binB .neq (.t 19) (.t 29))), false, []⟩] (some ⟨[0, 12, 13, 14, 30], [], true⟩))
       (.cond (.t 30)
        (.seq
         (.region 0 [⟨(some 2), none, (.p (.mv (.c (.bool false)))), false, []⟩] (some ⟨[2], [], false⟩))
         .ret)
        .skip))))
    (.region 0 [⟨(some 31), none, (.p (.bin .add (.t 14) (.c (.int .i64 1)))), false, []⟩,
      ⟨(some 14), none, (.p (.mv (.t 31))), false, []⟩] (some ⟨[0, 12, 13, 14], [], false⟩)))))
def Try.c5 : AC :=
 (.seq
  (.region 0 [⟨(some 2), none, (.p (.mv (.c (.bool false)))), false, []⟩] (some ⟨[0], [], false⟩))
  (.seq
   (.seq
    (.region 0 [⟨(some 9), none, (.p (.mv (.t 0))), false, []⟩,
      ⟨(some 10), none, (.call 23 [(.t 9)] false), false, []⟩] (some ⟨[0, 10], [], false⟩))
    (.cond (.t 10)
     (.seq
      (.region 0 [⟨(some 11), none, (.call 24 [] false), false, []⟩,
        ⟨(some 2), none, (.p (.mv (.t 11))), false, []⟩] (some ⟨[2], [], false⟩))
      .ret)
     .skip))
   (.seq
    (.seq
     (.region 0 [⟨(some 12), none, (.p (.mv (.t 0))), false, []⟩,
       ⟨(some 13), none, (.p (.len (.t 12))), false, []⟩,
       ⟨(some 14), none, (.p (.mv (.c (.int .i64 0)))), false, []⟩] (some ⟨[0, 12, 13, 14], [], false⟩))
     (.block 0
      (.loop (some ⟨[0, 12, 13, 14], [], true⟩) Try.c5b0)))
    (.seq
     (.region 0 [⟨(some 33), none, (.p (.mv (.t 0))), false, []⟩,
       ⟨(some 34), none, (.call 27 [(.t 33)] false), false, []⟩,
       ⟨(some 32), none, (.p (.mv (.t 34))), false, []⟩,
       ⟨(some 35), none, (.p (.ext (.t 32) 0)), false, []⟩,
       ⟨(some 36), none, (.p (.ext (.t 32) 1)), false, []⟩,
       ⟨(some 5), none, (.p (.mv (.t 35))), false, []⟩,
       ⟨(some 6), none, (.p (.mv (.t 36))), false, []⟩] (some ⟨[0, 5, 6], [], false⟩))
     (.seq
      (.region 0 [⟨(some 38), none, (.p (.mv (.t 0))), false, []⟩,
        ⟨(some 39), none, (.call 29 [(.t 38)] false), false, []⟩,
        ⟨(some 40), none, (.call 28 [(.t 39)] false), false, []⟩,
        ⟨(some 37), none, (.p (.mv (.t 40))), false, []⟩,
        ⟨(some 41), none, (.p (.ext (.t 37) 0)), false, []⟩,
        ⟨(some 42), none, (.p (.ext (.t 37) 1)), false, []⟩,
        ⟨(some 7), none, (.p (.mv (.t 41))), false, []⟩,
        ⟨(some 8), none, (.p (.mv (.t 42))), false, []⟩] (some ⟨[5, 6, 7, 8], [], false⟩))
      (.seq
       (.region 0 [⟨(some 43), none, (.p (.mv (.t 5))), false, []⟩,
         ⟨(some 44), none, (.r (.b2s (.t 43))), false, []⟩,
         ⟨(some 45), none, (.p (.mv (.t 7))), false, []⟩,
         ⟨(some 46), none, (.r (.b2s (.t 45))), false, []⟩,
         ⟨(some 47), none, (.p (.bin .eql (.t 44) (.t 46))), false, []⟩,
         ⟨(some 48), none, (.p (.mv (.t 47))), false, []⟩,
         ⟨(some 49), (some (48, true)), (.p (.mv (.t 6))), false, []⟩,
         ⟨(some 50), (some (48, true)), (.p (.mv (.t 8))), false, []⟩,
         ⟨(some 51), (some (48, true)), (.p (.bin .eql (.t 49) (.t 50))), false, []⟩,
         ⟨(some 52), none, (.p (.pick (.t 48) (.t 51) (.c (.bool false)))), false, []⟩,
         ⟨(some 53), none, (.p (.mv (.t 52))), false, []⟩,
         ⟨(some 54), (some (53, true)), (.call 24 [] false), false, []⟩,
         ⟨(some 55), none, (.p (.pick (.t 53) (.t 54) (.c (.bool false)))), false, []⟩,
         ⟨(some 2), none, (.p (.mv (.t 55))), false, []⟩] (some ⟨[2], [], false⟩))
       .ret))))))
theorem Try.run5 {xs : List AV} {r : AV} (hl : xs.length ≤ 56) (h : aw Try.prog Try.c5 (Pv.Ends [2] r) (entry xs)) : Run Try.prog 5 xs r :=
  run_of (fun _ _ => drawOk Try.mixed) Try.func5 rfl rfl rfl (by kernel_rfl) (by kernel_rfl) hl h
/-! 7 paling/palinglaw46.PcapTakes : params [42], results [4], free 0, zeros [(.slice none 0 0)] -/
def Try.c7 : AC :=
 (.seq
  (.region 0 [⟨(some 2), none, (.p (.mv (.c (.bool false)))), false, []⟩] (some ⟨[0], [], false⟩))
  (.seq
   (.seq
    (.region 0 [⟨(some 12), none, (.p (.mv (.t 0))), false, []⟩,
      ⟨(some 13), none, (.p (.len (.t 12))), false, []⟩,
      ⟨(some 14), none, (.p (.bin .gtr (.t 13) (.c (.int .i64 20000)))), false, []⟩] (some ⟨[0, 14], [], false⟩))
    (.cond (.t 14)
     (.seq
      (.region 0 [⟨(some 15), none, (.call 24 [] false), false, []⟩,
        ⟨(some 2), none, (.p (.mv (.t 15))), false, []⟩] (some ⟨[2], [], false⟩))
      .ret)
     .skip))
   (.seq
    (.region 0 [⟨(some 17), none, (.p (.mv (.t 0))), false, []⟩,
      ⟨(some 18), none, (.call 33 [(.t 17)] false), false, []⟩,
      ⟨(some 16), none, (.p (.mv (.t 18))), false, []⟩,
      ⟨(some 19), none, (.p (.ext (.t 16) 0)), false, []⟩,
      ⟨(some 20), none, (.p (.ext (.t 16) 1)), false, []⟩,
      ⟨(some 3), none, (.p (.mv (.t 19))), false, []⟩,
      ⟨(some 4), none, (.p (.mv (.t 20))), false, []⟩] (some ⟨[0, 3, 4], [], false⟩))
    (.seq
     (.region 0 [⟨(some 22), none, (.p (.mv (.t 0))), false, []⟩,
       ⟨(some 23), none, (.call 34 [(.t 22)] false), false, []⟩,
       ⟨(some 21), none, (.p (.mv (.t 23))), false, []⟩,
       ⟨(some 24), none, (.p (.ext (.t 21) 0)), false, []⟩,
       ⟨(some 25), none, (.p (.ext (.t 21) 1)), false, []⟩,
       ⟨(some 26), none, (.p (.ext (.t 21) 2)), false, []⟩,
       ⟨(some 5), none, (.p (.mv (.t 24))), false, []⟩,
       ⟨(some 6), none, (.p (.mv (.t 25))), false, []⟩,
       ⟨(some 7), none, (.p (.mv (.t 26))), false, []⟩] (some ⟨[0, 3, 4, 5, 7], [], false⟩))
     (.seq
      (.region 0 [⟨(some 28), none, (.p (.mv (.t 0))), false, []⟩,
        ⟨(some 29), none, (.call 35 [(.t 28)] false), false, []⟩,
        ⟨(some 27), none, (.p (.mv (.t 29))), false, []⟩,
        ⟨(some 30), none, (.p (.ext (.t 27) 0)), false, []⟩,
        ⟨(some 31), none, (.p (.ext (.t 27) 1)), false, []⟩,
        ⟨(some 8), none, (.p (.mv (.t 30))), false, []⟩,
        ⟨(some 9), none, (.p (.mv (.t 31))), false, []⟩] (some ⟨[0, 3, 4, 5, 7, 8, 9], [], false⟩))
      (.seq
       (.region 0 [⟨(some 33), none, (.p (.mv (.t 0))), false, []⟩,
         ⟨(some 34), none, (.call 36 [(.t 33)] false), false, []⟩,
         ⟨(some 32), none, (.p (.mv (.t 34))), false, []⟩,
         ⟨(some 35), none, (.p (.ext (.t 32) 0)), false, []⟩,
         ⟨(some 36), none, (.p (.ext (.t 32) 1)), false, []⟩,
         ⟨(some 10), none, (.p (.mv (.t 35))), false, []⟩,
         ⟨(some 11), none, (.p (.mv (.t 36))), false, []⟩] (some ⟨[3, 4, 5, 7, 8, 9, 10, 11], [], false⟩))
       (.seq
        (.region 0 [⟨(some 37), none, (.p (.mv (.t 3))), false, []⟩,
          ⟨(some 38), none, (.call 29 [(.t 37)] false), false, []⟩,
          ⟨(some 39), none, (.p (.mv (.t 5))), false, []⟩,
          ⟨(some 40), none, (.call 30 [(.t 38), (.t 39)] false), false, []⟩,
          ⟨(some 41), none, (.p (.mv (.t 40))), false, []⟩,
          ⟨(some 42), (some (41, true)), (.p (.mv (.t 4))), false, []⟩,
          ⟨(some 43), (some (41, true)), (.p (.mv (.t 7))), false, []⟩,
          ⟨(some 44), (some (41, true)), (.p (.bin .eql (.t 42) (.t 43))), false, []⟩,
          ⟨(some 45), none, (.p (.pick (.t 41) (.t 44) (.c (.bool false)))), false, []⟩,
          ⟨(some 46), none, (.p (.mv (.t 45))), false, []⟩,
          ⟨(some 47), (some (46, true)), (.p (.mv (.t 8))), false, []⟩,
          ⟨(some 48), (some (46, true)), (.r (.b2s (.t 47))), false, []⟩,
          ⟨(some 49), (some (46, true)), (.p (.mv (.t 10))), false, []⟩,
          ⟨(some 50), (some (46, true)), (.r (.b2s (.t 49))), false, []⟩,
          ⟨(some 51), (some (46, true)), (.p (.bin .eql (.t 48) (.t 50))), false, []⟩,
          ⟨(some 52), none, (.p (.pick (.t 46) (.t 51) (.c (.bool false)))), false, []⟩,
          ⟨(some 53), none, (.p (.mv (.t 52))), false, []⟩,
          ⟨(some 54), (some (53, true)), (.p (.mv (.t 9))), false, []⟩,
          ⟨(some 55), (some (53, true)), (.p (.mv (.t 11))), false, []⟩,
          ⟨(some 56), (some (53, true)), (.p (.bin .eql (.t 54) (.t 55))), false, []⟩,
          ⟨(some 57), none, (.p (.pick (.t 53) (.t 56) (.c (.bool false)))), false, []⟩,
          ⟨(some 58), none, (.p (.mv (.t 57))), false, []⟩,
          ⟨(some 59), (some (58, true)), (.call 24 [] false), false, []⟩,
          ⟨(some 60), none, (.p (.pick (.t 58) (.t 59) (.c (.bool false)))), false, []⟩,
          ⟨(some 2), none, (.p (.mv (.t 60))), false, []⟩] (some ⟨[2], [], false⟩))
        .ret)))))))
theorem Try.run7 {xs : List AV} {r : AV} (hl : xs.length ≤ 61) (h : aw Try.prog Try.c7 (Pv.Ends [2] r) (entry xs)) : Run Try.prog 7 xs r :=
  run_of (fun _ _ => drawOk Try.mixed) Try.func7 rfl rfl rfl (by kernel_rfl) (by kernel_rfl) hl h
/-! 8 paling/palinglaw46.PcapBack : params [40, 42], results [4], free 0, zeros [(.slice none 0 0), (.slice none 0 0)] -/
def Try.c8 : AC :=
 (.seq
  (.region 0 [⟨(some 4), none, (.p (.mv (.c (.bool false)))), false, []⟩] (some ⟨[0, 1], [], false⟩))
  (.seq
   (.seq
    (.region 0 [⟨(some 19), none, (.call 24 [] false), false, []⟩,
      ⟨(some 20), none, (.p (.un .not (.t 19))), false, []⟩] (some ⟨[0, 1, 20], [], false⟩))
    (.cond (.t 20)
     (.seq
      (.region 0 [⟨(some 4), none, (.p (.mv (.c (.bool false)))), false, []⟩] (some ⟨[4], [], false⟩))
      .ret)
     .skip))
   (.seq
    (.seq
     (.region 0 [⟨(some 21), none, (.p (.mv (.t 0))), false, []⟩,
       ⟨(some 22), none, (.call 23 [(.t 21)] false), false, []⟩,
       ⟨(some 23), none, (.p (.mv (.t 22))), false, []⟩,
       ⟨(some 24), (some (23, false)), (.p (.mv (.t 1))), false, []⟩,
       ⟨(some 25), (some (23, false)), (.p (.len (.t 24))), false, []⟩,
       ⟨(some 26), (some (23, false)), (.p (.bin .gtr (.t 25) (.c (.int .i64 20000)))), false, []⟩,
       ⟨(some 27), none, (.p (.pick (.t 23) (.c (.bool true)) (.t 26))), false, []⟩] (some ⟨[0, 1, 27], [], false⟩))
     (.cond (.t 27)
      (.seq
       (.region 0 [⟨(some 4), none, (.p (.mv (.c (.bool true)))), false, []⟩] (some ⟨[4], [], false⟩))
       .ret)
      .skip))
    (.seq
     (.seq
      (.region 0 [⟨(some 29), none, (.p (.mv (.t 0))), false, []⟩,
        ⟨(some 30), none, (.call 27 [(.t 29)] false), false, []⟩,
        ⟨(some 28), none, (.p (.mv (.t 30))), false, []⟩,
        ⟨(some 31), none, (.p (.ext (.t 28) 0)), false, []⟩,
        ⟨(some 32), none, (.p (.ext (.t 28) 1)), false, []⟩,
        ⟨(some 5), none, (.p (.mv (.t 31))), false, []⟩,
        ⟨(some 6), none, (.p (.mv (.t 32))), false, []⟩] (some ⟨[0, 1, 5, 6], [], false⟩))
      (.seq
       (.region 0 [⟨(some 33), none, (.p (.mv (.t 6))), false, []⟩,
         ⟨(some 34), none, (.p (.bin .eql (.t 33) (.c (.int .i64 0)))), false, []⟩] (some ⟨[0, 1, 5, 34], [], false⟩))
       (.cond (.t 34)
        (.seq
         (.region 0 [⟨(some 36), none, (.p (.mv (.t 5))), false, []⟩,
           ⟨(some 37), none, (.call 33 [(.t 36)] false), false, []⟩,
           ⟨(some 35), none, (.p (.mv (.t 37))), false, []⟩,
           ⟨(some 38), none, (.p (.ext (.t 35) 0)), false, []⟩,
           ⟨(some 39), none, (.p (.ext (.t 35) 1)), false, []⟩,
           ⟨(some 7), none, (.p (.mv (.t 38))), false, []⟩,
           ⟨(some 8), none, (.p (.mv (.t 39))), false, []⟩] (some ⟨[0, 1, 7, 8], [], false⟩))
         (.seq
          (.region 0 [⟨(some 40), none, (.p (.mv (.t 8))), false, []⟩,
            ⟨(some 41), none, (.p (.bin .neq (.t 40) (.c (.int .i64 0)))), false, []⟩,
            ⟨(some 42), none, (.p (.mv (.t 41))), false, []⟩,
            ⟨(some 43), (some (42, false)), (.p (.mv (.t 0))), false, []⟩,
            ⟨(some 44), (some (42, false)), (.p (.mv (.t 7))), false, []⟩,
            ⟨(some 45), (some (42, false)), (.call 37 [(.t 43), (.t 44)] false), false, []⟩,
            ⟨(some 46), (some (42, false)), (.p (.un .not (.t 45))), false, []⟩,
            ⟨(some 47), none, (.p (.pick (.t 42) (.c (.bool true)) (.t 46))), false, []⟩] (some ⟨[1, 47], [], false⟩))
          (.cond (.t 47)
           (.seq
            (.region 0 [⟨(some 4), none, (.p (.mv (.c (.bool false)))), false, []⟩] (some ⟨[4], [], false⟩))
            .ret)
           .skip)))
        .skip)))
     (.seq
      (.region 0 [⟨(some 49), none, (.p (.mv (.t 1))), false, []⟩,
        ⟨(some 50), none, (.call 33 [(.t 49)] false), false, []⟩,
        ⟨(some 48), none, (.p (.mv (.t 50))), false, []⟩,
        ⟨(some 51), none, (.p (.ext (.t 48) 0)), false, []⟩,
        ⟨(some 52), none, (.p (.ext (.t 48) 1)), false, []⟩,
        ⟨(some 9), none, (.p (.mv (.t 51))), false, []⟩,
        ⟨(some 10), none, (.p (.mv (.t 52))), false, []⟩] (some ⟨[1, 9, 10], [], false⟩))
      (.seq
       (.seq
        (.region 0 [⟨(some 53), none, (.p (.mv (.t 10))), false, []⟩,
          ⟨(some 54), none, (.p (.bin .neq (.t 53) (.c (.int .i64 0)))), false, []⟩] (some ⟨[1, 9, 54], [], false⟩))
        (.cond (.t 54)
         (.seq
          (.region 0 [⟨(some 55), none, (.p (.mv (.t 9))), false, []⟩,
            ⟨(some 56), none, (.p (.len (.t 55))), false, []⟩,
            ⟨(some 57), none, (.p (.bin .eql (.t 56) (.c (.int .i64 0)))), false, []⟩,
            ⟨(some 4), none, (.p (.mv (.t 57))), false, []⟩] (some ⟨[4], [], false⟩))
          .ret)
         .skip))
       (.seq
        (.region 0 [⟨(some 59), none, (.p (.mv (.t 1))), false, []⟩,
          ⟨(some 60), none, (.call 35 [(.t 59)] false), false, []⟩,
          ⟨(some 58), none, (.p (.mv (.t 60))), false, []⟩,
          ⟨(some 61), none, (.p (.ext (.t 58) 0)), false, []⟩,
          ⟨(some 62), none, (.p (.ext (.t 58) 1)), false, []⟩,
          ⟨(some 11), none, (.p (.mv (.t 61))), false, []⟩,
          ⟨(some 12), none, (.p (.mv (.t 62))), false, []⟩] (some ⟨[1, 9, 11, 12], [], false⟩))
        (.seq
         (.region 0 [⟨(some 64), none, (.p (.mv (.t 11))), false, []⟩,
           ⟨(some 65), none, (.call 33 [(.t 64)] false), false, []⟩,
           ⟨(some 63), none, (.p (.mv (.t 65))), false, []⟩,
           ⟨(some 66), none, (.p (.ext (.t 63) 0)), false, []⟩,
           ⟨(some 67), none, (.p (.ext (.t 63) 1)), false, []⟩,
           ⟨(some 13), none, (.p (.mv (.t 66))), false, []⟩,
           ⟨(some 14), none, (.p (.mv (.t 67))), false, []⟩] (some ⟨[1, 9, 11, 12, 13, 14], [], false⟩))
         (.seq
          (.region 0 [⟨(some 69), none, (.p (.mv (.t 11))), false, []⟩,
            ⟨(some 70), none, (.call 35 [(.t 69)] false), false, []⟩,
            ⟨(some 68), none, (.p (.mv (.t 70))), false, []⟩,
            ⟨(some 71), none, (.p (.ext (.t 68) 0)), false, []⟩,
            ⟨(some 72), none, (.p (.ext (.t 68) 1)), false, []⟩,
            ⟨(some 15), none, (.p (.mv (.t 71))), false, []⟩,
            ⟨(some 16), none, (.p (.mv (.t 72))), false, []⟩] (some ⟨[1, 9, 11, 12, 13, 14, 15, 16], [], false⟩))
          (.seq
           (.region 0 [⟨(some 74), none, (.p (.mv (.t 9))), false, []⟩,
             ⟨(some 75), none, (.call 27 [(.t 74)] false), false, []⟩,
             ⟨(some 73), none, (.p (.mv (.t 75))), false, []⟩,
             ⟨(some 76), none, (.p (.ext (.t 73) 0)), false, []⟩,
             ⟨(some 77), none, (.p (.ext (.t 73) 1)), false, []⟩,
             ⟨(some 17), none, (.p (.mv (.t 76))), false, []⟩,
             ⟨(some 18), none, (.p (.mv (.t 77))), false, []⟩] (some ⟨[1, 9, 11, 12, 13, 14, 15, 16, 17, 18], [], false⟩))
           (.seq
            (.region 0 [⟨(some 78), none, (.p (.mv (.t 12))), false, []⟩,
              ⟨(some 79), none, (.p (.bin .eql (.t 78) (.c (.int .i64 0)))), false, []⟩,
              ⟨(some 80), none, (.p (.mv (.t 79))), false, []⟩,
              ⟨(some 81), (some (80, true)), (.p (.mv (.t 14))), false, []⟩,
              ⟨(some 82), (some (80, true)), (.p (.bin .eql (.t 81) (.c (.int .i64 0)))), false, []⟩,
              ⟨(some 83), none, (.p (.pick (.t 80) (.t 82) (.c (.bool false)))), false, []⟩,
              ⟨(some 84), none, (.p (.mv (.t 83))), false, []⟩,
              ⟨(some 85), (some (84, true)), (.p (.mv (.t 16))), false, []⟩,
              ⟨(some 86), (some (84, true)), (.p (.bin .eql (.t 85) (.c (.int .i64 0)))), false, []⟩,
              ⟨(some 87), none, (.p (.pick (.t 84) (.t 86) (.c (.bool false)))), false, []⟩,
              ⟨(some 88), none, (.p (.mv (.t 87))), false, []⟩,
              ⟨(some 89), (some (88, true)), (.p (.mv (.t 18))), false, []⟩,
              ⟨(some 90), (some (88, true)), (.p (.bin .eql (.t 89) (.c (.int .i64 0)))), false, []⟩,
              ⟨(some 91), none, (.p (.pick (.t 88) (.t 90) (.c (.bool false)))), false, []⟩,
              ⟨(some 92), none, (.p (.mv (.t 91))), false, []⟩,
              ⟨(some 93), (some (92, true)), (.p (.mv (.t 9))), false, []⟩,
              ⟨(some 94), (some (92, true)), (.p (.mv (.t 13))), false, []⟩,
              ⟨(some 95), (some (92, true)), (.call 37 [(.t 93), (.t 94)] false), false, []⟩,
              ⟨(some 96), none, (.p (.pick (.t 92) (.t 95) (.c (.bool false)))), false, []⟩,
              ⟨(some 97), none, (.p (.mv (.t 96))), false, []⟩,
              ⟨(some 98), (some (97, true)), (.p (.mv (.t 15))), false, []⟩,
              ⟨(some 99), (some (97, true)), (.r (.b2s (.t 98))), false, []⟩,
              ⟨(some 100), (some (97, true)), (.p (.mv (.t 1))), false, []⟩,
              ⟨(some 101), (some (97, true)), (.r (.b2s (.t 100))), false, []⟩,
              ⟨(some 102), (some (97, true)), (.p (.bin .eql (.t 99) (.t 101))), false, []⟩,
              ⟨(some 103), none, (.p (.pick (.t 97) (.t 102) (.c (.bool false)))), false, []⟩,
              ⟨(some 104), none, (.p (.mv (.t 103))), false, []⟩,
              ⟨(some 105), (some (104, true)), (.p (.mv (.t 17))), false, []⟩,
              ⟨(some 106), (some (104, true)), (.r (.b2s (.t 105))), false, []⟩,
              ⟨(some 107), (some (104, true)), (.p (.mv (.t 1))), false, []⟩,
              ⟨(some 108), (some (104, true)), (.r (.b2s (.t 107))), false, []⟩,
              ⟨(some 109), (some (104, true)), (.p (.bin .eql (.t 106) (.t 108))), false, []⟩,
              ⟨(some 110), (some (104, true)), (.p (.mv (.t 17))), false, []⟩,
              ⟨(some 111), (some (104, true)), (.r (.b2s (.t 110))), false, []⟩,
              ⟨(some 112), (some (104, true)), (.p (.mv (.t 11))), false, []⟩,
              ⟨(some 113), (some (104, true)), (.r (.b2s (.t 112))), false, []⟩,
              ⟨(some 114), (some (104, true)), (.p (.bin .eql (.t 111) (.t 113))), false, []⟩,
              ⟨(some 115), (some (104, true)), (.p (.binB .neq (.t 109) (.t 114))), false, []⟩,
              ⟨(some 116), none, (.p (.pick (.t 104) (.t 115) (.c (.bool false)))), false, []⟩,
              ⟨(some 4), none, (.p (.mv (.t 116))), false, []⟩] (some ⟨[4], [], false⟩))
            .ret)))))))))))
theorem Try.run8 {xs : List AV} {r : AV} (hl : xs.length ≤ 117) (h : aw Try.prog Try.c8 (Pv.Ends [4] r) (entry xs)) : Run Try.prog 8 xs r :=
  run_of (fun _ _ => drawOk Try.mixed) Try.func8 rfl rfl rfl (by kernel_rfl) (by kernel_rfl) hl h
/-! 23 paling/palinglaw46.great : params [40], results [4], free 0, zeros [(.slice none 0 0)] -/
def Try.c23b0 : AC :=
 (.seq
  (.seq
   (.region 0 [⟨(some 5), none, (.p (.mv (.t 4))), false, []⟩,
     ⟨(some 6), none, (.p (.mv (.t 0))), false, []⟩,
     ⟨(some 7), none, (.p (.len (.t 6))), false, []⟩,
     ⟨(some 8), none, (.p (.bin .lss (.t 5) (.t 7))), false, []⟩,
     ⟨(some 9), none, (.p (.mv (.t 8))), false, []⟩,
     ⟨(some 10), (some (9, true)), (.p (.mv (.t 4))), false, []⟩,
     ⟨(some 11), (some (9, true)), (.p (.bin .lss (.t 10) (.c (.int .i64 1200)))), false, []⟩,
     ⟨(some 12), none, (.p (.pick (.t 9) (.t 11) (.c (.bool false)))), false, []⟩] (some ⟨[0, 3, 4, 12], [], false⟩))
   (.cond (.t 12)
    .skip
    (.exit 0)))
  (.seq
   (.block 1
    (.seq
     (.seq
      (.region 0 [⟨(some 15), none, (.p (.mv (.t 0))), false, []⟩,
        ⟨(some 16), none, (.p (.mv (.t 4))), false, []⟩,
        ⟨(some 17), none, (.p (.iaddr 4 (.t 15) (.t 16))), false, []⟩,
        ⟨(some 18), none, (.p (.faddr 3 (.t 17))), false, []⟩,
        ⟨(some 19), none, (.r (.load 1 false (.t 18))), false, []⟩,
        ⟨(some 20), none, (.p (.len (.t 19))), false, []⟩,
        ⟨(some 21), none, (.p (.bin .gtr (.t 20) (.c (.int .i64 70000)))), false, []⟩,
        ⟨(some 22), none, (.p (.mv (.t 21))), false, []⟩,
        ⟨(some 23), (some (22, false)), (.p (.mv (.t 3))), false, []⟩,
        ⟨(some 24), (some (22, false)), (.p (.bin .gtr (.t 23) (.c (.int .i64 70000)))), false, []⟩,
        ⟨(some 25), none, (.p (.pick (.t 22) (.c (.bool true)) (.t 24))), false, []⟩] (some ⟨[0, 3, 4, 25], [], false⟩))
      (.cond (.t 25)
       (.seq
        (.region 0 [⟨(some 2), none, (.p (.mv (.c (.bool true)))), false, []⟩] (some ⟨[2], [], false⟩))
        .ret)
       .skip))
     (.region 0 [⟨(some 26), none, (.p (.mv (.t 3))), false, []⟩,
       ⟨(some 27), none, (.p (.mv (.t 0))), false, []⟩,
       ⟨(some 28), none, (.p (.mv (.t 4))), false, []⟩,
       ⟨(some 29), none, (.p (.iaddr 4 (.t 27) (.t 28))), false, []⟩,
       ⟨(some 30), none, (.p (.faddr 3 (.t 29))), false, []⟩,
       ⟨(some 31), none, (.r (.load 1 false (.t 30))), false, []⟩,
       ⟨(some 32), none, (.p (.len (.t 31))), false, []⟩,
       ⟨(some 33), none, (.p (.bin .add (.t 26) (.t 32))), false, []⟩,
       ⟨(some 3), none, (.p (.mv (.t 33))), false, []⟩] (some ⟨[0, 3, 4], [], false⟩))))
   (.region 0 [⟨(some 13), none, (.p (.mv (.t 4))), false, []⟩,
     ⟨(some 14), none, (.p (.bin .add (.t 13) (.c (.int .i64 1)))), false, []⟩,
     ⟨(some 4), none, (.p (.mv (.t 14))), false, []⟩] (some ⟨[0, 3, 4], [], false⟩))))
def Try.c23 : AC :=
 (.seq
  (.region 0 [⟨(some 2), none, (.p (.mv (.c (.bool false)))), false, []⟩] (some ⟨[0], [], false⟩))
  (.seq
   (.region 0 [⟨(some 3), none, (.p (.mv (.c (.int .i64 0)))), false, []⟩] (some ⟨[0, 3], [], false⟩))
   (.seq
    (.seq
     (.region 0 [⟨(some 4), none, (.p (.mv (.c (.int .i64 0)))), false, []⟩] (some ⟨[0, 3, 4], [], false⟩))
     (.block 0
      (.loop (some ⟨[0, 3, 4], [], true⟩) Try.c23b0)))
    (.seq
     (.region 0 [⟨(some 34), none, (.p (.mv (.t 0))), false, []⟩,
       ⟨(some 35), none, (.p (.len (.t 34))), false, []⟩,
       ⟨(some 36), none, (.p (.bin .gtr (.t 35) (.c (.int .i64 1200)))), false, []⟩,
       ⟨(some 2), none, (.p (.mv (.t 36))), false, []⟩] (some ⟨[2], [], false⟩))
     .ret))))
theorem Try.run23 {xs : List AV} {r : AV} (hl : xs.length ≤ 37) (h : aw Try.prog Try.c23 (Pv.Ends [2] r) (entry xs)) : Run Try.prog 23 xs r :=
  run_of (fun _ _ => drawOk Try.mixed) Try.func23 rfl rfl rfl (by kernel_rfl) (by kernel_rfl) hl h
/-! 24 paling/palinglaw46.works : params [], results [4], free 0, zeros [] -/
def Try.c24 : AC :=
 (.seq
  (.region 0 [⟨(some 0), none, (.p (.mv (.c (.bool false)))), false, []⟩] (some ⟨[], [], false⟩))
  (.seq
   (.region 0 [⟨(some 8), none, (.call 27 [(.c (.sl 0 [] true))] false), false, []⟩,
     ⟨(some 7), none, (.p (.mv (.t 8))), false, []⟩,
     ⟨(some 9), none, (.p (.ext (.t 7) 0)), false, []⟩,
     ⟨(some 10), none, (.p (.ext (.t 7) 1)), false, []⟩,
     ⟨(some 1), none, (.p (.mv (.t 9))), false, []⟩,
     ⟨(some 2), none, (.p (.mv (.t 10))), false, []⟩] (some ⟨[1, 2], [], false⟩))
   (.seq
    (.region 0 [⟨(some 12), none, (.p (.mv (.t 1))), false, []⟩,
      ⟨(some 13), none, (.call 33 [(.t 12)] false), false, []⟩,
      ⟨(some 11), none, (.p (.mv (.t 13))), false, []⟩,
      ⟨(some 14), none, (.p (.ext (.t 11) 0)), false, []⟩,
      ⟨(some 15), none, (.p (.ext (.t 11) 1)), false, []⟩,
      ⟨(some 3), none, (.p (.mv (.t 14))), false, []⟩,
      ⟨(some 4), none, (.p (.mv (.t 15))), false, []⟩] (some ⟨[1, 2, 3, 4], [], false⟩))
    (.seq
     (.region 0 [⟨(some 17), none, (.call 33 [(.c (.sl 0 [] true))] false), false, []⟩,
       ⟨(some 16), none, (.p (.mv (.t 17))), false, []⟩,
       ⟨(some 18), none, (.p (.ext (.t 16) 0)), false, []⟩,
       ⟨(some 19), none, (.p (.ext (.t 16) 1)), false, []⟩,
       ⟨(some 5), none, (.p (.mv (.t 18))), false, []⟩,
       ⟨(some 6), none, (.p (.mv (.t 19))), false, []⟩] (some ⟨[1, 2, 3, 4, 6], [], false⟩))
     (.seq
      (.region 0 [⟨(some 20), none, (.p (.mv (.t 2))), false, []⟩,
        ⟨(some 21), none, (.p (.bin .eql (.t 20) (.c (.int .i64 0)))), false, []⟩,
        ⟨(some 22), none, (.p (.mv (.t 21))), false, []⟩,
        ⟨(some 23), (some (22, true)), (.p (.mv (.t 1))), false, []⟩,
        ⟨(some 24), (some (22, true)), (.r (.b2s (.t 23))), false, []⟩,
        ⟨(some 25), (some (22, true)), (.p (.bin .eql (.t 24) (.c (.str [212, 195, 178, 161, 2, 0, 4, 0, 0, 0, 0, 0, 0, 0, 0, 0, 255, 255, 0, 0, 1, 0, 0, 0])))), false, []⟩,
        ⟨(some 26), none, (.p (.pick (.t 22) (.t 25) (.c (.bool false)))), false, []⟩,
        ⟨(some 27), none, (.p (.mv (.t 26))), false, []⟩,
        ⟨(some 28), (some (27, true)), (.p (.mv (.t 4))), false, []⟩,
        ⟨(some 29), (some (27, true)), (.p (.bin .eql (.t 28) (.c (.int .i64 0)))), false, []⟩,
        ⟨(some 30), none, (.p (.pick (.t 27) (.t 29) (.c (.bool false)))), false, []⟩,
        ⟨(some 31), none, (.p (.mv (.t 30))), false, []⟩,
        ⟨(some 32), (some (31, true)), (.p (.mv (.t 3))), false, []⟩,
        ⟨(some 33), (some (31, true)), (.p (.len (.t 32))), false, []⟩,
        ⟨(some 34), (some (31, true)), (.p (.bin .eql (.t 33) (.c (.int .i64 0)))), false, []⟩,
        ⟨(some 35), none, (.p (.pick (.t 31) (.t 34) (.c (.bool false)))), false, []⟩,
        ⟨(some 36), none, (.p (.mv (.t 35))), false, []⟩,
        ⟨(some 37), (some (36, true)), (.p (.mv (.t 6))), false, []⟩,
        ⟨(some 38), (some (36, true)), (.p (.bin .eql (.t 37) (.c (.int .i64 10)))), false, []⟩,
        ⟨(some 39), none, (.p (.pick (.t 36) (.t 38) (.c (.bool false)))), false, []⟩,
        ⟨(some 40), none, (.p (.mv (.t 39))), false, []⟩,
        ⟨(some 41), (some (40, true)), (.p (.build [(.int .i64 0), (.int .i64 0), (.int .i64 0), (.sl 0 [] true)] [])), false, []⟩,
        ⟨(some 42), (some (40, true)), (.call 25 [(.t 41)] false), false, []⟩,
        ⟨(some 43), none, (.p (.pick (.t 40) (.t 42) (.c (.bool false)))), false, []⟩,
        ⟨(some 0), none, (.p (.mv (.t 43))), false, []⟩] (some ⟨[0], [], false⟩))
      .ret)))))
theorem Try.run24 {xs : List AV} {r : AV} (hl : xs.length ≤ 44) (h : aw Try.prog Try.c24 (Pv.Ends [0] r) (entry xs)) : Run Try.prog 24 xs r :=
  run_of (fun _ _ => drawOk Try.mixed) Try.func24 rfl rfl rfl (by kernel_rfl) (by kernel_rfl) hl h
/-! 25 paling/pcap.Right : params [44], results [4], free 0, zeros [(.agg #[(.int .i64 (0)), (.int .i64 (0)), (.int .i64 (0)), (.slice none 0 0)])] -/
def Try.c25 : AC :=
 (.seq
  (.region 0 [⟨(some 1), none, (.e (.box 44 (.t 0)) none), false, []⟩,
    ⟨(some 2), none, (.p (.mv (.c (.bool false)))), false, []⟩] (some ⟨[1], [], false⟩))
  (.seq
   (.region 0 [⟨(some 3), none, (.p (.faddr 0 (.t 1))), false, []⟩,
     ⟨(some 4), none, (.r (.load 1 false (.t 3))), false, []⟩,
     ⟨(some 5), none, (.p (.bin .geq (.t 4) (.c (.int .i64 0)))), false, []⟩,
     ⟨(some 6), none, (.p (.mv (.t 5))), false, []⟩,
     ⟨(some 7), (some (6, true)), (.p (.faddr 0 (.t 1))), false, []⟩,
     ⟨(some 8), (some (6, true)), (.r (.load 1 false (.t 7))), false, []⟩,
     ⟨(some 9), (some (6, true)), (.p (.bin .leq (.t 8) (.c (.int .i64 4294967295)))), false, []⟩,
     ⟨(some 10), none, (.p (.pick (.t 6) (.t 9) (.c (.bool false)))), false, []⟩,
     ⟨(some 11), none, (.p (.mv (.t 10))), false, []⟩,
     ⟨(some 12), (some (11, true)), (.p (.faddr 2 (.t 1))), false, []⟩,
     ⟨(some 13), (some (11, true)), (.r (.load 1 false (.t 12))), false, []⟩,
     ⟨(some 14), (some (11, true)), (.p (.bin .leq (.t 13) (.c (.int .i64 4294967295)))), false, []⟩,
     ⟨(some 15), none, (.p (.pick (.t 11) (.t 14) (.c (.bool false)))), false, []⟩,
     ⟨(some 16), none, (.p (.mv (.t 15))), false, []⟩,
     ⟨(some 17), (some (16, true)), (.p (.faddr 1 (.t 1))), false, []⟩,
     ⟨(some 18), (some (16, true)), (.r (.load 1 false (.t 17))), false, []⟩,
     ⟨(some 19), (some (16, true)), (.p (.bin .geq (.t 18) (.c (.int .i64 0)))), false, []⟩,
     ⟨(some 20), none, (.p (.pick (.t 16) (.t 19) (.c (.bool false)))), false, []⟩,
     ⟨(some 21), none, (.p (.mv (.t 20))), false, []⟩,
     ⟨(some 22), (some (21, true)), (.p (.faddr 1 (.t 1))), false, []⟩,
     ⟨(some 23), (some (21, true)), (.r (.load 1 false (.t 22))), false, []⟩,
     ⟨(some 24), (some (21, true)), (.p (.bin .lss (.t 23) (.c (.int .i64 1000000)))), false, []⟩,
     ⟨(some 25), none, (.p (.pick (.t 21) (.t 24) (.c (.bool false)))), false, []⟩,
     ⟨(some 26), none, (.p (.mv (.t 25))), false, []⟩,
     ⟨(some 27), (some (26, true)), (.p (.faddr 3 (.t 1))), false, []⟩,
     ⟨(some 28), (some (26, true)), (.r (.load 1 false (.t 27))), false, []⟩,
     ⟨(some 29), (some (26, true)), (.p (.len (.t 28))), false, []⟩,
     ⟨(some 30), (some (26, true)), (.p (.bin .leq (.t 29) (.c (.int .i64 65535)))), false, []⟩,
     ⟨(some 31), none, (.p (.pick (.t 26) (.t 30) (.c (.bool false)))), false, []⟩,
     ⟨(some 32), none, (.p (.mv (.t 31))), false, []⟩,
     ⟨(some 33), (some (32, true)), (.p (.faddr 3 (.t 1))), false, []⟩,
     ⟨(some 34), (some (32, true)), (.r (.load 1 false (.t 33))), false, []⟩,
     ⟨(some 35), (some (32, true)), (.p (.len (.t 34))), false, []⟩,
     ⟨(some 36), (some (32, true)), (.p (.faddr 2 (.t 1))), false, []⟩,
     ⟨(some 37), (some (32, true)), (.r (.load 1 false (.t 36))), false, []⟩,
     ⟨(some 38), (some (32, true)), (.p (.bin .leq (.t 35) (.t 37))), false, []⟩,
     ⟨(some 39), none, (.p (.pick (.t 32) (.t 38) (.c (.bool false)))), false, []⟩,
     ⟨(some 2), none, (.p (.mv (.t 39))), false, []⟩] (some ⟨[2], [], false⟩))
   .ret))
theorem Try.run25 {xs : List AV} {r : AV} (hl : xs.length ≤ 40) (h : aw Try.prog Try.c25 (Pv.Ends [2] r) (entry xs)) : Run Try.prog 25 xs r :=
  run_of (fun _ _ => drawOk Try.mixed) Try.func25 rfl rfl rfl (by kernel_rfl) (by kernel_rfl) hl h
/-! 26 paling/palingref46.Right : params [47], results [4], free 0, zeros [(.agg #[(.int .i64 (0)), (.int .i64 (0)), (.int .i64 (0)), (.slice none 0 0)])] -/
def Try.c26 : AC :=
 (.seq
  (.region 0 [⟨(some 1), none, (.e (.box 47 (.t 0)) none), false, []⟩,
    ⟨(some 2), none, (.p (.mv (.c (.bool false)))), false, []⟩] (some ⟨[1], [], false⟩))
  (.seq
   (.region 0 [⟨(some 3), none, (.p (.faddr 0 (.t 1))), false, []⟩,
     ⟨(some 4), none, (.r (.load 1 false (.t 3))), false, []⟩,
     ⟨(some 5), none, (.p (.bin .geq (.t 4) (.c (.int .i64 0)))), false, []⟩,
     ⟨(some 6), none, (.p (.mv (.t 5))), false, []⟩,
     ⟨(some 7), (some (6, true)), (.p (.faddr 0 (.t 1))), false, []⟩,
     ⟨(some 8), (some (6, true)), (.r (.load 1 false (.t 7))), false, []⟩,
     ⟨(some 9), (some (6, true)), (.p (.bin .lss (.t 8) (.c (.int .i64 4294967296)))), false, []⟩,
     ⟨(some 10), none, (.p (.pick (.t 6) (.t 9) (.c (.bool false)))), false, []⟩,
     ⟨(some 11), none, (.p (.mv (.t 10))), false, []⟩,
     ⟨(some 12), (some (11, true)), (.p (.faddr 1 (.t 1))), false, []⟩,
     ⟨(some 13), (some (11, true)), (.r (.load 1 false (.t 12))), false, []⟩,
     ⟨(some 14), (some (11, true)), (.p (.bin .geq (.t 13) (.c (.int .i64 0)))), false, []⟩,
     ⟨(some 15), none, (.p (.pick (.t 11) (.t 14) (.c (.bool false)))), false, []⟩,
     ⟨(some 16), none, (.p (.mv (.t 15))), false, []⟩,
     ⟨(some 17), (some (16, true)), (.p (.faddr 1 (.t 1))), false, []⟩,
     ⟨(some 18), (some (16, true)), (.r (.load 1 false (.t 17))), false, []⟩,
     ⟨(some 19), (some (16, true)), (.p (.bin .leq (.t 18) (.c (.int .i64 999999)))), false, []⟩,
     ⟨(some 20), none, (.p (.pick (.t 16) (.t 19) (.c (.bool false)))), false, []⟩,
     ⟨(some 21), none, (.p (.mv (.t 20))), false, []⟩,
     ⟨(some 22), (some (21, true)), (.p (.faddr 2 (.t 1))), false, []⟩,
     ⟨(some 23), (some (21, true)), (.r (.load 1 false (.t 22))), false, []⟩,
     ⟨(some 24), (some (21, true)), (.p (.bin .geq (.t 23) (.c (.int .i64 0)))), false, []⟩,
     ⟨(some 25), none, (.p (.pick (.t 21) (.t 24) (.c (.bool false)))), false, []⟩,
     ⟨(some 26), none, (.p (.mv (.t 25))), false, []⟩,
     ⟨(some 27), (some (26, true)), (.p (.faddr 2 (.t 1))), false, []⟩,
     ⟨(some 28), (some (26, true)), (.r (.load 1 false (.t 27))), false, []⟩,
     ⟨(some 29), (some (26, true)), (.p (.bin .lss (.t 28) (.c (.int .i64 4294967296)))), false, []⟩,
     ⟨(some 30), none, (.p (.pick (.t 26) (.t 29) (.c (.bool false)))), false, []⟩,
     ⟨(some 31), none, (.p (.mv (.t 30))), false, []⟩,
     ⟨(some 32), (some (31, true)), (.p (.faddr 3 (.t 1))), false, []⟩,
     ⟨(some 33), (some (31, true)), (.r (.load 1 false (.t 32))), false, []⟩,
     ⟨(some 34), (some (31, true)), (.p (.len (.t 33))), false, []⟩,
     ⟨(some 35), (some (31, true)), (.p (.bin .leq (.t 34) (.c (.int .i64 65535)))), false, []⟩,
     ⟨(some 36), none, (.p (.pick (.t 31) (.t 35) (.c (.bool false)))), false, []⟩,
     ⟨(some 37), none, (.p (.mv (.t 36))), false, []⟩,
     ⟨(some 38), (some (37, true)), (.p (.faddr 3 (.t 1))), false, []⟩,
     ⟨(some 39), (some (37, true)), (.r (.load 1 false (.t 38))), false, []⟩,
     ⟨(some 40), (some (37, true)), (.p (.len (.t 39))), false, []⟩,
     ⟨(some 41), (some (37, true)), (.p (.faddr 2 (.t 1))), false, []⟩,
     ⟨(some 42), (some (37, true)), (.r (.load 1 false (.t 41))), false, []⟩,
     ⟨(some 43), (some (37, true)), (.p (.bin .leq (.t 40) (.t 42))), false, []⟩,
     ⟨(some 44), none, (.p (.pick (.t 37) (.t 43) (.c (.bool false)))), false, []⟩,
     ⟨(some 2), none, (.p (.mv (.t 44))), false, []⟩] (some ⟨[2], [], false⟩))
   .ret))
theorem Try.run26 {xs : List AV} {r : AV} (hl : xs.length ≤ 45) (h : aw Try.prog Try.c26 (Pv.Ends [2] r) (entry xs)) : Run Try.prog 26 xs r :=
  run_of (fun _ _ => drawOk Try.mixed) Try.func26 rfl rfl rfl (by kernel_rfl) (by kernel_rfl) hl h
/-! 27 paling/pcap.Put : params [40], results [42, 26], free 0, zeros [(.slice none 0 0)] -/
def Try.c27b0 : AC :=
 (.seq
  (.region 0 [⟨(some 12), none, (.p (.bin .lss (.t 11) (.t 10))), false, []⟩] (some ⟨[0, 4, 9, 10, 11, 12], [], false⟩))
  (.seq
   (.cond (.t 12)
    .skip
    (.exit 0))
   (.seq
    (.block 1
     (.seq
      (.region 0 [⟨(some 13), none, (.p (.iaddr 4 (.t 9) (.t 11))), false, []⟩,
        ⟨(some 14), none, (.r (.load 4 true (.t 13))), false, []⟩,
        ⟨(some 6), none, (.e (.alloc 44 (.agg [(.int .i64 0), (.int .i64 0), (.int .i64 0), (.sl 0 [] true)])) none), false, []⟩,
        ⟨none, none, (.e (.store 4 (.t 6) (.t 14)) none), false, []⟩] (some ⟨[0, 4, 6, 9, 10, 11], [], false⟩))
      (.seq
       (.seq
        (.region 0 [⟨(some 15), none, (.p (.mv (.t 0))), false, []⟩,
          ⟨(some 16), none, (.p (.len (.t 15))), false, []⟩,
          ⟨(some 17), none, (.p (.bin .gtr (.t 16) (.c (.int .i64 1000)))), false, []⟩,
          ⟨(some 18), none, (.p (.mv (.t 17))), false, []⟩,
          ⟨(some 19), (some (18, false)), (.p (.mv (.t 4))), false, []⟩,
          ⟨(some 20), (some (18, false)), (.p (.bin .gtr (.t 19) (.c (.int .i64 1000000)))), false, []⟩,
          ⟨(some 21), none, (.p (.pick (.t 18) (.c (.bool true)) (.t 20))), false, []⟩] (some ⟨[0, 4, 6, 9, 10, 11, 21], [], false⟩))
        (.cond (.t 21)
         (.exit 0)
         .skip))
       (.region 0 [⟨(some 22), none, (.p (.mv (.t 4))), false, []⟩,
         ⟨(some 23), none, (.p (.faddr 3 (.t 6))), false, []⟩,
         ⟨(some 24), none, (.r (.load 1 false (.t 23))), false, []⟩,
         ⟨(some 25), none, (.p (.len (.t 24))), false, []⟩,
         ⟨(some 26), none, (.p (.bin .add (.c (.int .i64 16)) (.t 25))), false, []⟩,
         ⟨(some 27), none, (.p (.bin .add (.t 22) (.t 26))), false, []⟩,
         ⟨(some 4), none, (.p (.mv (.t 27))), false, []⟩] (some ⟨[0, 4, 9, 10, 11], [], false⟩)))))
    (.region 0 [⟨(some 28), none, (.p (.bin .add (.t 11) (.c (.int .i64 1)))), false, []⟩,
      ⟨(some 11), none, (.p (.mv (.t 28))), false, []⟩] (some ⟨[0, 4, 9, 10, 11], [], false⟩)))))
def Try.c27 : AC :=
 (.seq
  (.region 0 [⟨(some 2), none, (.p (.mv (.c (.sl 0 [] true)))), false, []⟩,
    ⟨(some 3), none, (.p (.mv (.c (.int .i64 0)))), false, []⟩] (some ⟨[0], [], false⟩))
  (.seq
   (.seq
    (.region 0 [⟨(some 7), none, (.p (.mv (.t 0))), false, []⟩,
      ⟨(some 8), none, (.call 51 [(.t 7), (.c (.fn 52 []))] false), false, []⟩] (some ⟨[0, 8], [], false⟩))
    (.cond (.t 8)
     (.seq
      (.region 0 [⟨(some 2), none, (.p (.mv (.c (.sl 0 [] true)))), false, []⟩,
        ⟨(some 3), none, (.p (.mv (.c (.int .i64 2)))), false, []⟩] (some ⟨[2, 3], [], false⟩))
      .ret)
     .skip))
   (.seq
    (.region 0 [⟨(some 4), none, (.p (.mv (.c (.int .i64 24)))), false, []⟩] (some ⟨[0, 4], [], false⟩))
    (.seq
     (.seq
      (.region 0 [⟨(some 9), none, (.p (.mv (.t 0))), false, []⟩,
        ⟨(some 10), none, (.p (.len (.t 9))), false, []⟩,
        ⟨(some 11), none, (.p (.mv (.c (.int .i64 0)))), false, []⟩] (some ⟨[0, 4, 9, 10, 11], [], false⟩))
      (.block 0
       (.loop (some ⟨[0, 4, 9, 10, 11], [], true⟩) Try.c27b0)))
     (.seq
      (.seq
       (.region 0 [⟨(some 29), none, (.p (.mv (.t 0))), false, []⟩,
         ⟨(some 30), none, (.p (.len (.t 29))), false, []⟩,
         ⟨(some 31), none, (.p (.bin .gtr (.t 30) (.c (.int .i64 1000)))), false, []⟩,
         ⟨(some 32), none, (.p (.mv (.t 31))), false, []⟩,
         ⟨(some 33), (some (32, false)), (.p (.mv (.t 4))), false, []⟩,
         ⟨(some 34), (some (32, false)), (.p (.bin .gtr (.t 33) (.c (.int .i64 1000000)))), false, []⟩,
         ⟨(some 35), none, (.p (.pick (.t 32) (.c (.bool true)) (.t 34))), false, []⟩] (some ⟨[0, 35], [], false⟩))
       (.cond (.t 35)
        (.seq
         (.region 0 [⟨(some 2), none, (.p (.mv (.c (.sl 0 [] true)))), false, []⟩,
           ⟨(some 3), none, (.p (.mv (.c (.int .i64 3)))), false, []⟩] (some ⟨[2, 3], [], false⟩))
         .ret)
        .skip))
      (.seq
       (.region 0 [⟨(some 36), none, (.call 53 [] false), false, []⟩,
         ⟨(some 37), none, (.p (.mv (.t 0))), false, []⟩,
         ⟨(some 38), none, (.call 54 [(.t 36), (.t 37)] false), false, []⟩,
         ⟨(some 2), none, (.p (.mv (.t 38))), false, []⟩,
         ⟨(some 3), none, (.p (.mv (.c (.int .i64 0)))), false, []⟩] (some ⟨[2, 3], [], false⟩))
       .ret))))))
theorem Try.run27 {xs : List AV} {r : AV} (hl : xs.length ≤ 39) (h : aw Try.prog Try.c27 (Pv.Ends [2, 3] r) (entry xs)) : Run Try.prog 27 xs r :=
  run_of (fun _ _ => drawOk Try.mixed) Try.func27 rfl rfl rfl (by kernel_rfl) (by kernel_rfl) hl h
/-! 28 paling/palingref46.Put : params [52], results [42, 3], free 0, zeros [(.slice none 0 0)] -/
def Try.c28b0 : AC :=
 (.seq
  (.seq
   (.region 0 [⟨(some 6), none, (.p (.mv (.t 4))), false, []⟩,
     ⟨(some 7), none, (.p (.mv (.t 0))), false, []⟩,
     ⟨(some 8), none, (.p (.len (.t 7))), false, []⟩,
     ⟨(some 9), none, (.p (.bin .lss (.t 6) (.t 8))), false, []⟩] (some ⟨[0, 4, 9], [], false⟩))
   (.cond (.t 9)
    .skip
    (.exit 0)))
  (.seq
   (.block 1
    (.seq
     (.region 0 [⟨(some 12), none, (.p (.mv (.t 0))), false, []⟩,
       ⟨(some 13), none, (.p (.mv (.t 4))), false, []⟩,
       ⟨(some 14), none, (.p (.iaddr 4 (.t 12) (.t 13))), false, []⟩,
       ⟨(some 15), none, (.r (.load 4 true (.t 14))), false, []⟩,
       ⟨(some 16), none, (.call 26 [(.t 15)] false), false, []⟩,
       ⟨(some 17), none, (.p (.un .not (.t 16))), false, []⟩] (some ⟨[0, 4, 17], [], false⟩))
     (.cond (.t 17)
      (.seq
       (.region 0 [⟨(some 2), none, (.p (.mv (.c (.sl 0 [] true)))), false, []⟩,
         ⟨(some 3), none, (.p (.mv (.c (.int .i64 2)))), false, []⟩] (some ⟨[2, 3], [], false⟩))
       .ret)
      .skip)))
   (.region 0 [⟨(some 10), none, (.p (.mv (.t 4))), false, []⟩,
     ⟨(some 11), none, (.p (.bin .add (.t 10) (.c (.int .i64 1)))), false, []⟩,
     ⟨(some 4), none, (.p (.mv (.t 11))), false, []⟩] (some ⟨[0, 4], [], false⟩))))
def Try.c28 : AC :=
 (.seq
  (.region 0 [⟨(some 2), none, (.p (.mv (.c (.sl 0 [] true)))), false, []⟩,
    ⟨(some 3), none, (.p (.mv (.c (.int .i64 0)))), false, []⟩] (some ⟨[0], [], false⟩))
  (.seq
   (.seq
    (.region 0 [⟨(some 4), none, (.p (.mv (.c (.int .i64 0)))), false, []⟩] (some ⟨[0, 4], [], false⟩))
    (.block 0
     (.loop (some ⟨[0, 4], [], true⟩) Try.c28b0)))
   (.seq
    (.seq
     (.region 0 [⟨(some 18), none, (.p (.mv (.t 0))), false, []⟩,
       ⟨(some 19), none, (.p (.len (.t 18))), false, []⟩,
       ⟨(some 20), none, (.p (.bin .gtr (.t 19) (.c (.int .i64 1000)))), false, []⟩] (some ⟨[0, 20], [], false⟩))
     (.cond (.t 20)
      (.seq
       (.region 0 [⟨(some 2), none, (.p (.mv (.c (.sl 0 [] true)))), false, []⟩,
         ⟨(some 3), none, (.p (.mv (.c (.int .i64 3)))), false, []⟩] (some ⟨[2, 3], [], false⟩))
       .ret)
      .skip))
    (.seq
     (.region 0 [⟨(some 21), none, (.p (.mv (.t 0))), false, []⟩,
       ⟨(some 22), none, (.call 55 [(.t 21), (.c (.bool true))] false), false, []⟩,
       ⟨(some 5), none, (.p (.mv (.t 22))), false, []⟩] (some ⟨[5], [], false⟩))
     (.seq
      (.seq
       (.region 0 [⟨(some 23), none, (.p (.mv (.t 5))), false, []⟩,
         ⟨(some 24), none, (.p (.len (.t 23))), false, []⟩,
         ⟨(some 25), none, (.p (.bin .gtr (.t 24) (.c (.int .i64 1000000)))), false, []⟩] (some ⟨[5, 25], [], false⟩))
       (.cond (.t 25)
        (.seq
         (.region 0 [⟨(some 2), none, (.p (.mv (.c (.sl 0 [] true)))), false, []⟩,
           ⟨(some 3), none, (.p (.mv (.c (.int .i64 3)))), false, []⟩] (some ⟨[2, 3], [], false⟩))
         .ret)
        .skip))
      (.seq
       (.region 0 [⟨(some 26), none, (.p (.mv (.t 5))), false, []⟩,
         ⟨(some 2), none, (.p (.mv (.t 26))), false, []⟩,
         ⟨(some 3), none, (.p (.mv (.c (.int .i64 0)))), false, []⟩] (some ⟨[2, 3], [], false⟩))
       .ret))))))
theorem Try.run28 {xs : List AV} {r : AV} (hl : xs.length ≤ 27) (h : aw Try.prog Try.c28 (Pv.Ends [2, 3] r) (entry xs)) : Run Try.prog 28 xs r :=
  run_of (fun _ _ => drawOk Try.mixed) Try.func28 rfl rfl rfl (by kernel_rfl) (by kernel_rfl) hl h
/-! 29 paling/palinglaw46.told : params [40], results [52], free 0, zeros [(.slice none 0 0)] -/
def Try.c29b0 : AC :=
 (.seq
  (.region 0 [⟨(some 9), none, (.p (.bin .lss (.t 8) (.t 7))), false, []⟩] (some ⟨[3, 6, 7, 8, 9], [], false⟩))
  (.seq
   (.cond (.t 9)
    .skip
    (.exit 0))
   (.seq
    (.block 1
     (.seq
      (.region 0 [⟨(some 10), none, (.p (.iaddr 4 (.t 6) (.t 8))), false, []⟩,
        ⟨(some 11), none, (.r (.load 4 true (.t 10))), false, []⟩,
        ⟨(some 5), none, (.e (.alloc 44 (.agg [(.int .i64 0), (.int .i64 0), (.int .i64 0), (.sl 0 [] true)])) none), false, []⟩,
        ⟨none, none, (.e (.store 4 (.t 5) (.t 11)) none), false, []⟩] (some ⟨[3, 5, 6, 7, 8], [], false⟩))
      (.region 0 [⟨(some 12), none, (.p (.mv (.t 3))), false, []⟩,
        ⟨(some 13), none, (.p (.faddr 0 (.t 5))), false, []⟩,
        ⟨(some 14), none, (.r (.load 1 false (.t 13))), false, []⟩,
        ⟨(some 15), none, (.p (.faddr 1 (.t 5))), false, []⟩,
        ⟨(some 16), none, (.r (.load 1 false (.t 15))), false, []⟩,
        ⟨(some 17), none, (.p (.faddr 2 (.t 5))), false, []⟩,
        ⟨(some 18), none, (.r (.load 1 false (.t 17))), false, []⟩,
        ⟨(some 19), none, (.p (.faddr 3 (.t 5))), false, []⟩,
        ⟨(some 20), none, (.r (.load 1 false (.t 19))), false, []⟩,
        ⟨(some 21), none, (.p (.build [(.int .i64 0), (.int .i64 0), (.int .i64 0), (.sl 0 [] true)] [(0, 1, (.t 14)), (1, 1, (.t 16)), (2, 1, (.t 18)), (3, 1, (.t 20))])), false, []⟩,
        ⟨(some 22), none, (.e (.mks 47 4 (.agg [(.int .i64 0), (.int .i64 0), (.int .i64 0), (.sl 0 [] true)]) 1 [(0, (.t 21))]) none), false, []⟩,
        ⟨(some 23), none, (.e (.append 47 4 (.t 12) (.t 22)) none), false, []⟩,
        ⟨(some 3), none, (.p (.mv (.t 23))), false, []⟩] (some ⟨[3, 6, 7, 8], [], false⟩))))
    (.region 0 [⟨(some 24), none, (.p (.bin .add (.t 8) (.c (.int .i64 1)))), false, []⟩,
      ⟨(some 8), none, (.p (.mv (.t 24))), false, []⟩] (some ⟨[3, 6, 7, 8], [], false⟩)))))
def Try.c29 : AC :=
 (.seq
  (.region 0 [⟨(some 2), none, (.p (.mv (.c (.sl 0 [] true)))), false, []⟩] (some ⟨[0], [], false⟩))
  (.seq
   (.region 0 [⟨(some 3), none, (.p (.mv (.c (.sl 0 [] true)))), false, []⟩] (some ⟨[0, 3], [], false⟩))
   (.seq
    (.seq
     (.region 0 [⟨(some 6), none, (.p (.mv (.t 0))), false, []⟩,
       ⟨(some 7), none, (.p (.len (.t 6))), false, []⟩,
       ⟨(some 8), none, (.p (.mv (.c (.int .i64 0)))), false, []⟩] (some ⟨[3, 6, 7, 8], [], false⟩))
     (.block 0
      (.loop (some ⟨[3, 6, 7, 8], [(3, (4, 47))], true⟩) Try.c29b0)))
    (.seq
     (.region 0 [⟨(some 25), none, (.p (.mv (.t 3))), false, []⟩,
       ⟨(some 2), none, (.p (.mv (.t 25))), false, []⟩] (some ⟨[2], [], false⟩))
     .ret))))
theorem Try.run29 {xs : List AV} {r : AV} (hl : xs.length ≤ 26) (h : aw Try.prog Try.c29 (Pv.Ends [2] r) (entry xs)) : Run Try.prog 29 xs r :=
  run_of (fun _ _ => drawOk Try.mixed) Try.func29 rfl rfl rfl (by kernel_rfl) (by kernel_rfl) hl h
/-! 30 paling/palingref46.Same : params [52, 52], results [4], free 0, zeros [(.slice none 0 0), (.slice none 0 0)] -/
def Try.c30b0 : AC :=
 (.seq
  (.seq
   (.region 0 [⟨(some 11), none, (.p (.mv (.t 5))), false, []⟩,
     ⟨(some 12), none, (.p (.mv (.t 0))), false, []⟩,
     ⟨(some 13), none, (.p (.len (.t 12))), false, []⟩,
     ⟨(some 14), none, (.p (.bin .lss (.t 11) (.t 13))), false, []⟩] (some ⟨[0, 1, 5, 14], [], false⟩))
   (.cond (.t 14)
    .skip
    (.exit 0)))
  (.seq
   (.block 1
    (.seq
     (.region 52 [⟨(some 17), none, (.p (.mv (.t 0))), false, []⟩,
       ⟨(some 18), none, (.p (.mv (.t 5))), false, []⟩,
       ⟨(some 19), none, (.p (.iaddr 4 (.t 17) (.t 18))), false, []⟩,
       ⟨(some 20), none, (.p (.faddr 0 (.t 19))), false, []⟩,
       ⟨(some 21), none, (.r (.load 1 false (.t 20))), false, []⟩,
       ⟨(some 22), none, (.p (.mv (.t 1))), false, []⟩,
       ⟨(some 23), none, (.p (.mv (.t 5))), false, []⟩,
       ⟨(some 24), none, (.p (.iaddr 4 (.t 22) (.t 23))), false, []⟩,
       ⟨(some 25), none, (.p (.faddr 0 (.t 24))), false, []⟩,
       ⟨(some 26), none, (.r (.load 1 false (.t 25))), false, []⟩,
       ⟨(some 27), none, (.p (.bin .neq (.t 21) (.t 26))), false, []⟩,
       ⟨(some 28), none, (.p (.mv (.t 27))), false, []⟩,
       ⟨(some 29), (some (28, false)), (.p (.mv (.t 0))), false, []⟩,
       ⟨(some 30), (some (28, false)), (.p (.mv (.t 5))), false, []⟩,
       ⟨(some 31), (some (28, false)), (.p (.iaddr 4 (.t 29) (.t 30))), false, []⟩,
       ⟨(some 32), (some (28, false)), (.p (.faddr 1 (.t 31))), false, []⟩,
       ⟨(some 33), (some (28, false)), (.r (.load 1 false (.t 32))), false, []⟩,
       ⟨(some 34), (some (28, false)), (.p (.mv (.t 1))), false, []⟩,
       ⟨(some 35), (some (28, false)), (.p (.mv (.t 5))), false, []⟩,
       ⟨(some 36), (some (28, false)), (.p (.iaddr 4 (.t 34) (.t 35))), false, []⟩,
       ⟨(some 37), (some (28, false)), (.p (.faddr 1 (.t 36))), false, []⟩,
       ⟨(some 38), (some (28, false)), (.r (.load 1 false (.t 37))), false, []⟩,
       ⟨(some 39), (some (28, false)), (.p (.bin .neq (.t 33) (.t 38))), false, []⟩,
       ⟨(some 40), none, (.p (.pick (.t 28) (.c (.bool true)) (.t 39))), false, []⟩,
       ⟨(some 41), none, (.p (.mv (.t 40))), false, []⟩,
       ⟨(some 42), (some (41, false)), (.p (.mv (.t 0))), false, []⟩,
       ⟨(some 43), (some (41, false)), (.p (.mv (.t 5))), false, []⟩,
       ⟨(some 44), (some (41, false)), (.p (.iaddr 4 (.t 42) (.t 43))), false, []⟩,
       ⟨(some 45), (some (41, false)), (.p (.faddr 2 (.t 44))), false, []⟩,
       ⟨(some 46), (some (41, false)), (.r (.load 1 false (.t 45))), false, []⟩,
       ⟨(some 47), (some (41, false)), (.p (.mv (.t 1))), false, []⟩,
       ⟨(some 48), (some (41, false)), (.p (.mv (.t 5))), false, []⟩,
       ⟨(some 49), (some (41, false)), (.p (.iaddr 4 (.t 47) (.t 48))), false, []⟩,
       ⟨(some 50), (some (41, false)), (.p (.faddr 2 (.t 49))), false, []⟩,
       ⟨(some 51), (some (41, false)), (.r (.load 1 false (.t 50))), false, []⟩,
       ⟨(some 52), (some (41, false)), (.p (.bin .neq (.t 46) (.t 51))), false, []⟩,
       ⟨(some 53), none, (.p (.pick (.t 41) (.c (.bool true)) (.t 52))), false, []⟩,
       ⟨(some 54), none, (.p (.mv (.t 53))), false, []⟩,
       ⟨(some 55), (some (54, false)), (.p (.mv (.t 0))), false, []⟩,
       ⟨(some 56), (some (54, false)), (.p (.mv (.t 5))), false, []⟩,
       ⟨(some 57), (some (54, false)), (.p (.iaddr 4 (.t 55) (.t 56))), false, []⟩,
       ⟨(some 58), (some (54, false)), (.p (.faddr 3 (.t 57))), false, []⟩,
       ⟨(some 59), (some (54, false)), (.r (.load 1 false (.t 58))), false, []⟩,
       ⟨(some 60), (some (54, false)), (.r (.b2s (.t 59))), false, []⟩,
       ⟨(some 61), (some (54, false)), (.p (.mv (.t 1))), false, []⟩,
       ⟨(some 62), (some (54, false)), (.p (.mv (.t 5))), false, []⟩,
       ⟨(some 63), (some (54, false)), (.p (.iaddr 4 (.t 61) (.t 62))), false, []⟩,
       ⟨(some 64), (some (54, false)), (.p (.faddr 3 (.t 63))), false, []⟩,
       ⟨(some 65), (some (54, false)), (.r (.load 1 false (.t 64))), false, []⟩,
       ⟨(some 66), (some (54, false)), (.r (.b2s (.t 65))), false, []⟩,
       ⟨(some 67), (some (54, false)), (.p (.bin .neq (.t 60) (.t 66))), false, []⟩,
       ⟨(some 68), none, (.p (.pick (.t 54) (.c (.bool true)) (.t 67))), false, []⟩] (some ⟨[0, 1, 5, 68], [], true⟩))
     (.cond (.t 68)
      (.seq
       (.region 0 [⟨(some 4), none, (.p (.mv (.c (.bool false)))), false, []⟩] (some ⟨[4], [], false⟩))
       .ret)
      .skip)))
   (.region 0 [⟨(some 15), none, (.p (.mv (.t 5))), false, []⟩,
     ⟨(some 16), none, (.p (.bin .add (.t 15) (.c (.int .i64 1)))), false, []⟩,
     ⟨(some 5), none, (.p (.mv (.t 16))), false, []⟩] (some ⟨[0, 1, 5], [], false⟩))))
def Try.c30 : AC :=
 (.seq
  (.region 0 [⟨(some 4), none, (.p (.mv (.c (.bool false)))), false, []⟩] (some ⟨[0, 1], [], false⟩))
  (.seq
   (.seq
    (.region 0 [⟨(some 6), none, (.p (.mv (.t 0))), false, []⟩,
      ⟨(some 7), none, (.p (.len (.t 6))), false, []⟩,
      ⟨(some 8), none, (.p (.mv (.t 1))), false, []⟩,
      ⟨(some 9), none, (.p (.len (.t 8))), false, []⟩,
      ⟨(some 10), none, (.p (.bin .neq (.t 7) (.t 9))), false, []⟩] (some ⟨[0, 1, 10], [], false⟩))
    (.cond (.t 10)
     (.seq
      (.region 0 [⟨(some 4), none, (.p (.mv (.c (.bool false)))), false, []⟩] (some ⟨[4], [], false⟩))
      .ret)
     .skip))
   (.seq
    (.seq
     (.region 0 [⟨(some 5), none, (.p (.mv (.c (.int .i64 0)))), false, []⟩] (some ⟨[0, 1, 5], [], false⟩))
     (.block 0
      (.loop (some ⟨[0, 1, 5], [], true⟩) Try.c30b0)))
    (.seq
     (.region 0 [⟨(some 4), none, (.p (.mv (.c (.bool true)))), false, []⟩] (some ⟨[4], [], false⟩))
     .ret))))
theorem Try.run30 {xs : List AV} {r : AV} (hl : xs.length ≤ 69) (h : aw Try.prog Try.c30 (Pv.Ends [4] r) (entry xs)) : Run Try.prog 30 xs r :=
  run_of (fun _ _ => drawOk Try.mixed) Try.func30 rfl rfl rfl (by kernel_rfl) (by kernel_rfl) hl h
/-! 33 paling/pcap.Take : params [42], results [40, 26], free 0, zeros [(.slice none 0 0)] -/
def Try.c33 : AC :=
 (.seq
  (.region 0 [⟨(some 2), none, (.p (.mv (.c (.sl 0 [] true)))), false, []⟩,
    ⟨(some 3), none, (.p (.mv (.c (.int .i64 0)))), false, []⟩] (some ⟨[0], [], false⟩))
  (.seq
   (.region 0 [⟨(some 8), none, (.p (.mv (.t 0))), false, []⟩,
     ⟨(some 9), none, (.call 57 [(.t 8)] false), false, []⟩,
     ⟨(some 7), none, (.p (.mv (.t 9))), false, []⟩,
     ⟨(some 10), none, (.p (.ext (.t 7) 0)), false, []⟩,
     ⟨(some 11), none, (.p (.ext (.t 7) 1)), false, []⟩,
     ⟨(some 12), none, (.p (.ext (.t 7) 2)), false, []⟩,
     ⟨(some 5), none, (.e (.alloc 90 (.agg [(.lit .nilFunc)])) none), false, []⟩,
     ⟨(some 4), none, (.p (.mv (.t 10))), false, []⟩,
     ⟨none, none, (.e (.store 1 (.t 5) (.t 11)) none), false, []⟩,
     ⟨(some 6), none, (.p (.mv (.t 12))), false, []⟩] (some ⟨[4, 6], [], false⟩))
   (.seq
    (.region 0 [⟨(some 13), none, (.p (.mv (.t 4))), false, []⟩,
      ⟨(some 14), none, (.p (.mv (.t 6))), false, []⟩,
      ⟨(some 2), none, (.p (.mv (.t 13))), false, []⟩,
      ⟨(some 3), none, (.p (.mv (.t 14))), false, []⟩] (some ⟨[2, 3], [], false⟩))
    .ret)))
theorem Try.run33 {xs : List AV} {r : AV} (hl : xs.length ≤ 15) (h : aw Try.prog Try.c33 (Pv.Ends [2, 3] r) (entry xs)) : Run Try.prog 33 xs r :=
  run_of (fun _ _ => drawOk Try.mixed) Try.func33 rfl rfl rfl (by kernel_rfl) (by kernel_rfl) hl h
/-! 34 paling/palingref46.Take : params [42], results [52, 4, 3], free 0, zeros [(.slice none 0 0)] -/
def Try.c34b0 : AC :=
 (.seq
  (.seq
   (.region 0 [⟨(some 29), none, (.p (.mv (.t 7))), false, []⟩,
     ⟨(some 30), none, (.p (.mv (.t 0))), false, []⟩,
     ⟨(some 31), none, (.p (.len (.t 30))), false, []⟩,
     ⟨(some 32), none, (.p (.bin .lss (.t 29) (.t 31))), false, []⟩] (some ⟨[0, 5, 6, 7, 32], [], false⟩))
   (.cond (.t 32)
    .skip
    (.exit 0)))
  (.block 1
   (.seq
    (.seq
     (.region 0 [⟨(some 33), none, (.p (.mv (.t 0))), false, []⟩,
       ⟨(some 34), none, (.p (.len (.t 33))), false, []⟩,
       ⟨(some 35), none, (.p (.mv (.t 7))), false, []⟩,
       ⟨(some 36), none, (.p (.bin .sub (.t 34) (.t 35))), false, []⟩,
       ⟨(some 37), none, (.p (.bin .lss (.t 36) (.c (.int .i64 16)))), false, []⟩] (some ⟨[0, 5, 6, 7, 37], [], false⟩))
     (.cond (.t 37)
      (.seq
       (.region 0 [⟨(some 2), none, (.p (.mv (.c (.sl 0 [] true)))), false, []⟩,
         ⟨(some 3), none, (.p (.mv (.c (.bool false)))), false, []⟩,
         ⟨(some 4), none, (.p (.mv (.c (.int .i64 10)))), false, []⟩] (some ⟨[2, 3, 4], [], false⟩))
       .ret)
      .skip))
    (.seq
     (.region 0 [⟨(some 38), none, (.p (.mv (.t 0))), false, []⟩,
       ⟨(some 39), none, (.p (.mv (.t 7))), false, []⟩,
       ⟨(some 40), none, (.p (.bin .add (.t 39) (.c (.int .i64 8)))), false, []⟩,
       ⟨(some 41), none, (.p (.mv (.t 7))), false, []⟩,
       ⟨(some 42), none, (.p (.bin .add (.t 41) (.c (.int .i64 12)))), false, []⟩,
       ⟨(some 43), none, (.r (.cut 1 (.t 38) (.t 40) (.t 42))), false, []⟩,
       ⟨(some 44), none, (.p (.mv (.t 5))), false, []⟩,
       ⟨(some 45), none, (.call 58 [(.t 43), (.t 44)] false), false, []⟩,
       ⟨(some 8), none, (.p (.mv (.t 45))), false, []⟩] (some ⟨[0, 5, 6, 7, 8], [], false⟩))
     (.seq
      (.region 26 [⟨(some 46), none, (.p (.mv (.t 0))), true, []⟩,
        ⟨(some 47), none, (.p (.mv (.t 7))), true, []⟩,
        ⟨(some 48), none, (.p (.mv (.t 7))), true, []⟩,
        ⟨(some 49), none, (.p (.bin .add (.t 48) (.c (.int .i64 4)))), true, []⟩,
        ⟨(some 50), none, (.p (.slicev 1 (.t 46) (some (.t 47)) (some (.t 49)) none)), true, []⟩,
        ⟨(some 51), none, (.p (.mv (.t 5))), true, []⟩,
        ⟨(some 53), none, (.p (.mv (.t 0))), true, []⟩,
        ⟨(some 54), none, (.p (.mv (.t 7))), true, []⟩,
        ⟨(some 55), none, (.p (.bin .add (.t 54) (.c (.int .i64 4)))), true, []⟩,
        ⟨(some 56), none, (.p (.mv (.t 7))), true, []⟩,
        ⟨(some 57), none, (.p (.bin .add (.t 56) (.c (.int .i64 8)))), true, []⟩,
        ⟨(some 58), none, (.p (.slicev 1 (.t 53) (some (.t 55)) (some (.t 57)) none)), true, []⟩,
        ⟨(some 59), none, (.p (.mv (.t 5))), true, []⟩,
        ⟨(some 61), none, (.p (.mv (.t 0))), true, []⟩,
        ⟨(some 62), none, (.p (.mv (.t 7))), true, []⟩,
        ⟨(some 63), none, (.p (.bin .add (.t 62) (.c (.int .i64 12)))), true, []⟩,
        ⟨(some 64), none, (.p (.mv (.t 7))), true, []⟩,
        ⟨(some 65), none, (.p (.bin .add (.t 64) (.c (.int .i64 16)))), true, []⟩,
        ⟨(some 66), none, (.p (.slicev 1 (.t 61) (some (.t 63)) (some (.t 65)) none)), true, []⟩,
        ⟨(some 67), none, (.p (.mv (.t 5))), true, []⟩,
        ⟨(some 52), none, (.call 58 [(.t 50), (.t 51)] true), true, []⟩,
        ⟨(some 60), none, (.call 58 [(.t 58), (.t 59)] true), true, []⟩,
        ⟨(some 68), none, (.call 58 [(.t 66), (.t 67)] true), true, []⟩,
        ⟨(some 69), none, (.p (.build [(.int .i64 0), (.int .i64 0), (.int .i64 0), (.sl 0 [] true)] [(0, 1, (.t 52)), (1, 1, (.t 60)), (2, 1, (.t 68))])), true, []⟩,
        ⟨(some 9), none, (.e (.alloc 47 (.agg [(.int .i64 0), (.int .i64 0), (.int .i64 0), (.sl 0 [] true)])) (some 24)), true, []⟩,
        ⟨none, none, (.e (.store 4 (.t 9) (.t 69)) (some 25)), true, []⟩] (some ⟨[0, 5, 6, 7, 8, 9], [(9, (1000000, 0))], true⟩))
      (.seq
       (.seq
        (.region 0 [⟨(some 70), none, (.p (.faddr 1 (.t 9))), false, []⟩,
          ⟨(some 71), none, (.r (.load 1 false (.t 70))), false, []⟩,
          ⟨(some 72), none, (.p (.bin .gtr (.t 71) (.c (.int .i64 999999)))), false, []⟩,
          ⟨(some 73), none, (.p (.mv (.t 72))), false, []⟩,
          ⟨(some 74), (some (73, false)), (.p (.mv (.t 8))), false, []⟩,
          ⟨(some 75), (some (73, false)), (.p (.bin .gtr (.t 74) (.c (.int .i64 65535)))), false, []⟩,
          ⟨(some 76), none, (.p (.pick (.t 73) (.c (.bool true)) (.t 75))), false, []⟩,
          ⟨(some 77), none, (.p (.mv (.t 76))), false, []⟩,
          ⟨(some 78), (some (77, false)), (.p (.mv (.t 8))), false, []⟩,
          ⟨(some 79), (some (77, false)), (.p (.faddr 2 (.t 9))), false, []⟩,
          ⟨(some 80), (some (77, false)), (.r (.load 1 false (.t 79))), false, []⟩,
          ⟨(some 81), (some (77, false)), (.p (.bin .gtr (.t 78) (.t 80))), false, []⟩,
          ⟨(some 82), none, (.p (.pick (.t 77) (.c (.bool true)) (.t 81))), false, []⟩] (some ⟨[0, 5, 6, 7, 8, 9, 82], [(9, (1000000, 0))], false⟩))
        (.cond (.t 82)
         (.seq
          (.region 0 [⟨(some 2), none, (.p (.mv (.c (.sl 0 [] true)))), false, []⟩,
            ⟨(some 3), none, (.p (.mv (.c (.bool false)))), false, []⟩,
            ⟨(some 4), none, (.p (.mv (.c (.int .i64 11)))), false, []⟩] (some ⟨[2, 3, 4], [], false⟩))
          .ret)
         .skip))
       (.seq
        (.seq
         (.region 0 [⟨(some 83), none, (.p (.mv (.t 0))), false, []⟩,
           ⟨(some 84), none, (.p (.len (.t 83))), false, []⟩,
           ⟨(some 85), none, (.p (.mv (.t 7))), false, []⟩,
           ⟨(some 86), none, (.p (.bin .sub (.t 84) (.t 85))), false, []⟩,
           ⟨(some 87), none, (.p (.bin .sub (.t 86) (.c (.int .i64 16)))), false, []⟩,
           ⟨(some 88), none, (.p (.mv (.t 8))), false, []⟩,
           ⟨(some 89), none, (.p (.bin .lss (.t 87) (.t 88))), false, []⟩] (some ⟨[0, 5, 6, 7, 8, 9, 89], [(9, (1000000, 0))], false⟩))
         (.cond (.t 89)
          (.seq
           (.region 0 [⟨(some 2), none, (.p (.mv (.c (.sl 0 [] true)))), false, []⟩,
             ⟨(some 3), none, (.p (.mv (.c (.bool false)))), false, []⟩,
             ⟨(some 4), none, (.p (.mv (.c (.int .i64 10)))), false, []⟩] (some ⟨[2, 3, 4], [], false⟩))
           .ret)
          .skip))
        (.seq
         (.seq
          (.region 0 [⟨(some 90), none, (.p (.mv (.t 6))), false, []⟩,
            ⟨(some 91), none, (.p (.len (.t 90))), false, []⟩,
            ⟨(some 92), none, (.p (.bin .eql (.t 91) (.c (.int .i64 1000)))), false, []⟩] (some ⟨[0, 5, 6, 7, 8, 9, 92], [(9, (1000000, 0))], false⟩))
          (.cond (.t 92)
           (.seq
            (.region 0 [⟨(some 2), none, (.p (.mv (.c (.sl 0 [] true)))), false, []⟩,
              ⟨(some 3), none, (.p (.mv (.c (.bool false)))), false, []⟩,
              ⟨(some 4), none, (.p (.mv (.c (.int .i64 3)))), false, []⟩] (some ⟨[2, 3, 4], [], false⟩))
            .ret)
           .skip))
         (.seq
          (.region 0 [⟨(some 93), none, (.e (.mks 5 1 (.int .u8 0) 0 []) none), false, []⟩,
            ⟨(some 94), none, (.p (.mv (.t 0))), false, []⟩,
            ⟨(some 95), none, (.p (.mv (.t 7))), false, []⟩,
            ⟨(some 96), none, (.p (.bin .add (.t 95) (.c (.int .i64 16)))), false, []⟩,
            ⟨(some 97), none, (.p (.mv (.t 7))), false, []⟩,
            ⟨(some 98), none, (.p (.bin .add (.t 97) (.c (.int .i64 16)))), false, []⟩,
            ⟨(some 99), none, (.p (.mv (.t 8))), false, []⟩,
            ⟨(some 100), none, (.p (.bin .add (.t 98) (.t 99))), false, []⟩,
            ⟨(some 101), none, (.r (.cut 1 (.t 94) (.t 96) (.t 100))), false, []⟩,
            ⟨(some 102), none, (.e (.append 5 1 (.t 93) (.t 101)) none), false, []⟩,
            ⟨(some 103), none, (.p (.faddr 3 (.t 9))), false, []⟩,
            ⟨none, none, (.e (.store 1 (.t 103) (.t 102)) none), false, []⟩] (some ⟨[0, 5, 6, 7, 8, 9], [(9, (1000000, 0))], false⟩))
          (.seq
           (.region 0 [⟨(some 104), none, (.p (.mv (.t 6))), false, []⟩,
             ⟨(some 105), none, (.r (.load 4 true (.t 9))), false, []⟩,
             ⟨(some 106), none, (.e (.mks 47 4 (.agg [(.int .i64 0), (.int .i64 0), (.int .i64 0), (.sl 0 [] true)]) 1 [(0, (.t 105))]) none), false, []⟩,
             ⟨(some 107), none, (.e (.append 47 4 (.t 104) (.t 106)) none), false, []⟩,
             ⟨(some 6), none, (.p (.mv (.t 107))), false, []⟩] (some ⟨[0, 5, 6, 7, 8], [], false⟩))
           (.region 0 [⟨(some 108), none, (.p (.mv (.t 7))), false, []⟩,
             ⟨(some 109), none, (.p (.bin .add (.t 108) (.c (.int .i64 16)))), false, []⟩,
             ⟨(some 110), none, (.p (.mv (.t 8))), false, []⟩,
             ⟨(some 111), none, (.p (.bin .add (.t 109) (.t 110))), false, []⟩,
             ⟨(some 7), none, (.p (.mv (.t 111))), false, []⟩] (some ⟨[0, 5, 6, 7], [], false⟩))))))))))))
def Try.c34 : AC :=
 (.seq
  (.region 0 [⟨(some 2), none, (.p (.mv (.c (.sl 0 [] true)))), false, []⟩,
    ⟨(some 3), none, (.p (.mv (.c (.bool false)))), false, []⟩,
    ⟨(some 4), none, (.p (.mv (.c (.int .i64 0)))), false, []⟩] (some ⟨[0], [], false⟩))
  (.seq
   (.seq
    (.region 0 [⟨(some 10), none, (.p (.mv (.t 0))), false, []⟩,
      ⟨(some 11), none, (.p (.len (.t 10))), false, []⟩,
      ⟨(some 12), none, (.p (.bin .lss (.t 11) (.c (.int .i64 24)))), false, []⟩] (some ⟨[0, 12], [], false⟩))
    (.cond (.t 12)
     (.seq
      (.region 0 [⟨(some 2), none, (.p (.mv (.c (.sl 0 [] true)))), false, []⟩,
        ⟨(some 3), none, (.p (.mv (.c (.bool false)))), false, []⟩,
        ⟨(some 4), none, (.p (.mv (.c (.int .i64 10)))), false, []⟩] (some ⟨[2, 3, 4], [], false⟩))
      .ret)
     .skip))
   (.seq
    (.region 7 [⟨(some 13), none, (.p (.mv (.t 0))), false, []⟩,
      ⟨(some 14), none, (.p (.slicev 1 (.t 13) none (some (.c (.int .i64 24))) none)), false, []⟩,
      ⟨(some 15), none, (.r (.b2s (.t 14))), false, []⟩,
      ⟨(some 16), none, (.call 55 [(.c (.sl 0 [] true)), (.c (.bool true))] true), false, []⟩,
      ⟨(some 17), none, (.r (.b2s (.t 16))), false, []⟩,
      ⟨(some 18), none, (.p (.bin .eql (.t 15) (.t 17))), false, []⟩,
      ⟨(some 5), none, (.p (.mv (.t 18))), false, []⟩] (some ⟨[0, 5], [], true⟩))
    (.seq
     (.seq
      (.region 10 [⟨(some 19), none, (.p (.mv (.t 5))), false, []⟩,
        ⟨(some 20), none, (.p (.un .not (.t 19))), false, []⟩,
        ⟨(some 21), none, (.p (.mv (.t 20))), false, []⟩,
        ⟨(some 22), (some (21, true)), (.p (.mv (.t 0))), false, []⟩,
        ⟨(some 23), (some (21, true)), (.p (.slicev 1 (.t 22) none (some (.c (.int .i64 24))) none)), false, []⟩,
        ⟨(some 24), (some (21, true)), (.r (.b2s (.t 23))), false, []⟩,
        ⟨(some 25), (some (21, true)), (.call 55 [(.c (.sl 0 [] true)), (.c (.bool false))] true), false, []⟩,
        ⟨(some 26), (some (21, true)), (.r (.b2s (.t 25))), false, []⟩,
        ⟨(some 27), (some (21, true)), (.p (.bin .neq (.t 24) (.t 26))), false, []⟩,
        ⟨(some 28), none, (.p (.pick (.t 21) (.t 27) (.c (.bool false)))), false, []⟩] (some ⟨[0, 5, 28], [], true⟩))
      (.cond (.t 28)
       (.seq
        (.region 0 [⟨(some 2), none, (.p (.mv (.c (.sl 0 [] true)))), false, []⟩,
          ⟨(some 3), none, (.p (.mv (.c (.bool false)))), false, []⟩,
          ⟨(some 4), none, (.p (.mv (.c (.int .i64 11)))), false, []⟩] (some ⟨[2, 3, 4], [], false⟩))
        .ret)
       .skip))
     (.seq
      (.region 0 [⟨(some 6), none, (.p (.mv (.c (.sl 0 [] true)))), false, []⟩] (some ⟨[0, 5, 6], [], false⟩))
      (.seq
       (.region 0 [⟨(some 7), none, (.p (.mv (.c (.int .i64 24)))), false, []⟩] (some ⟨[0, 5, 6, 7], [], false⟩))
       (.seq
        (.block 0
         (.loop (some ⟨[0, 5, 6, 7], [(6, (4, 47))], true⟩) Try.c34b0))
        (.seq
         (.region 0 [⟨(some 112), none, (.p (.mv (.t 6))), false, []⟩,
           ⟨(some 113), none, (.p (.mv (.t 5))), false, []⟩,
           ⟨(some 2), none, (.p (.mv (.t 112))), false, []⟩,
           ⟨(some 3), none, (.p (.mv (.t 113))), false, []⟩,
           ⟨(some 4), none, (.p (.mv (.c (.int .i64 0)))), false, []⟩] (some ⟨[2, 3, 4], [], false⟩))
         .ret))))))))
theorem Try.run34 {xs : List AV} {r : AV} (hl : xs.length ≤ 114) (h : aw Try.prog Try.c34 (Pv.Ends [2, 3, 4] r) (entry xs)) : Run Try.prog 34 xs r :=
  run_of (fun _ _ => drawOk Try.mixed) Try.func34 rfl rfl rfl (by kernel_rfl) (by kernel_rfl) hl h
/-! 35 paling/pcap.Swap : params [42], results [42, 26], free 0, zeros [(.slice none 0 0)] -/
def Try.c35 : AC :=
 (.seq
  (.region 0 [⟨(some 2), none, (.p (.mv (.c (.sl 0 [] true)))), false, []⟩,
    ⟨(some 3), none, (.p (.mv (.c (.int .i64 0)))), false, []⟩] (some ⟨[0], [], false⟩))
  (.seq
   (.region 0 [⟨(some 9), none, (.p (.mv (.t 0))), false, []⟩,
     ⟨(some 10), none, (.call 57 [(.t 9)] false), false, []⟩,
     ⟨(some 8), none, (.p (.mv (.t 10))), false, []⟩,
     ⟨(some 11), none, (.p (.ext (.t 8) 0)), false, []⟩,
     ⟨(some 12), none, (.p (.ext (.t 8) 1)), false, []⟩,
     ⟨(some 13), none, (.p (.ext (.t 8) 2)), false, []⟩,
     ⟨(some 5), none, (.e (.alloc 90 (.agg [(.lit .nilFunc)])) none), false, []⟩,
     ⟨(some 4), none, (.p (.mv (.t 11))), false, []⟩,
     ⟨none, none, (.e (.store 1 (.t 5) (.t 12)) none), false, []⟩,
     ⟨(some 6), none, (.p (.mv (.t 13))), false, []⟩] (some ⟨[4, 5, 6], [], false⟩))
   (.seq
    (.seq
     (.region 0 [⟨(some 14), none, (.p (.mv (.t 6))), false, []⟩,
       ⟨(some 15), none, (.p (.bin .neq (.t 14) (.c (.int .i64 0)))), false, []⟩] (some ⟨[4, 5, 6, 15], [], false⟩))
     (.cond (.t 15)
      (.seq
       (.region 0 [⟨(some 16), none, (.p (.mv (.t 6))), false, []⟩,
         ⟨(some 2), none, (.p (.mv (.c (.sl 0 [] true)))), false, []⟩,
         ⟨(some 3), none, (.p (.mv (.t 16))), false, []⟩] (some ⟨[2, 3], [], false⟩))
       .ret)
      .skip))
    (.seq
     (.region 0 [⟨(some 17), none, (.call 59 [] false), false, []⟩,
       ⟨(some 7), none, (.e (.alloc 90 (.agg [(.lit .nilFunc)])) none), false, []⟩,
       ⟨none, none, (.e (.store 1 (.t 7) (.t 17)) none), false, []⟩] (some ⟨[4, 5, 7], [], false⟩))
     (.seq
      (.seq
       (.region 0 [⟨(some 18), none, (.p (.faddr 0 (.t 5))), false, []⟩,
         ⟨(some 19), none, (.r (.load 1 false (.t 18))), false, []⟩,
         ⟨(some 20), none, (.callv (.t 19) [(.c (.int .i64 0)), (.c (.int .i64 4))]), false, []⟩,
         ⟨(some 21), none, (.p (.bin .neq (.t 20) (.c (.int .i64 0)))), false, []⟩] (some ⟨[4, 7, 21], [], false⟩))
       (.cond (.t 21)
        (.region 0 [⟨(some 22), none, (.call 53 [] false), false, []⟩,
          ⟨none, none, (.e (.store 1 (.t 7) (.t 22)) none), false, []⟩] (some ⟨[4, 7], [], false⟩))
        .skip))
      (.seq
       (.region 0 [⟨(some 23), none, (.r (.load 1 true (.t 7))), false, []⟩,
         ⟨(some 24), none, (.p (.mv (.t 4))), false, []⟩,
         ⟨(some 25), none, (.call 54 [(.t 23), (.t 24)] false), false, []⟩,
         ⟨(some 2), none, (.p (.mv (.t 25))), false, []⟩,
         ⟨(some 3), none, (.p (.mv (.c (.int .i64 0)))), false, []⟩] (some ⟨[2, 3], [], false⟩))
       .ret))))))
theorem Try.run35 {xs : List AV} {r : AV} (hl : xs.length ≤ 26) (h : aw Try.prog Try.c35 (Pv.Ends [2, 3] r) (entry xs)) : Run Try.prog 35 xs r :=
  run_of (fun _ _ => drawOk Try.mixed) Try.func35 rfl rfl rfl (by kernel_rfl) (by kernel_rfl) hl h
/-! 36 paling/palingref46.Swap : params [42], results [42, 3], free 0, zeros [(.slice none 0 0)] -/
def Try.c36 : AC :=
 (.seq
  (.region 0 [⟨(some 2), none, (.p (.mv (.c (.sl 0 [] true)))), false, []⟩,
    ⟨(some 3), none, (.p (.mv (.c (.int .i64 0)))), false, []⟩] (some ⟨[0], [], false⟩))
  (.seq
   (.region 0 [⟨(some 8), none, (.p (.mv (.t 0))), false, []⟩,
     ⟨(some 9), none, (.call 34 [(.t 8)] false), false, []⟩,
     ⟨(some 7), none, (.p (.mv (.t 9))), false, []⟩,
     ⟨(some 10), none, (.p (.ext (.t 7) 0)), false, []⟩,
     ⟨(some 11), none, (.p (.ext (.t 7) 1)), false, []⟩,
     ⟨(some 12), none, (.p (.ext (.t 7) 2)), false, []⟩,
     ⟨(some 4), none, (.p (.mv (.t 10))), false, []⟩,
     ⟨(some 5), none, (.p (.mv (.t 11))), false, []⟩,
     ⟨(some 6), none, (.p (.mv (.t 12))), false, []⟩] (some ⟨[4, 5, 6], [], false⟩))
   (.seq
    (.seq
     (.region 0 [⟨(some 13), none, (.p (.mv (.t 6))), false, []⟩,
       ⟨(some 14), none, (.p (.bin .neq (.t 13) (.c (.int .i64 0)))), false, []⟩] (some ⟨[4, 5, 6, 14], [], false⟩))
     (.cond (.t 14)
      (.seq
       (.region 0 [⟨(some 15), none, (.p (.mv (.t 6))), false, []⟩,
         ⟨(some 2), none, (.p (.mv (.c (.sl 0 [] true)))), false, []⟩,
         ⟨(some 3), none, (.p (.mv (.t 15))), false, []⟩] (some ⟨[2, 3], [], false⟩))
       .ret)
      .skip))
    (.seq
     (.region 0 [⟨(some 16), none, (.p (.mv (.t 4))), false, []⟩,
       ⟨(some 17), none, (.p (.mv (.t 5))), false, []⟩,
       ⟨(some 18), none, (.p (.un .not (.t 17))), false, []⟩,
       ⟨(some 19), none, (.call 55 [(.t 16), (.t 18)] false), false, []⟩,
       ⟨(some 2), none, (.p (.mv (.t 19))), false, []⟩,
       ⟨(some 3), none, (.p (.mv (.c (.int .i64 0)))), false, []⟩] (some ⟨[2, 3], [], false⟩))
     .ret))))
theorem Try.run36 {xs : List AV} {r : AV} (hl : xs.length ≤ 20) (h : aw Try.prog Try.c36 (Pv.Ends [2, 3] r) (entry xs)) : Run Try.prog 36 xs r :=
  run_of (fun _ _ => drawOk Try.mixed) Try.func36 rfl rfl rfl (by kernel_rfl) (by kernel_rfl) hl h
/-! 37 paling/palinglaw46.same : params [40, 40], results [4], free 0, zeros [(.slice none 0 0), (.slice none 0 0)] -/
def Try.c37b0 : AC :=
 (.seq
  (.region 0 [⟨(some 14), none, (.p (.bin .lss (.t 13) (.t 12))), false, []⟩] (some ⟨[0, 1, 12, 13, 14], [], false⟩))
  (.seq
   (.cond (.t 14)
    .skip
    (.exit 0))
   (.seq
    (.block 1
     (.seq
      (.region 0 [⟨(some 15), none, (.p (.mv (.t 13))), false, []⟩,
        ⟨(some 5), none, (.p (.mv (.t 15))), false, []⟩] (some ⟨[0, 1, 5, 12, 13], [], false⟩))
      (.seq
       (.region 52 [⟨(some 16), none, (.p (.mv (.t 0))), false, []⟩,
         ⟨(some 17), none, (.p (.mv (.t 5))), false, []⟩,
         ⟨(some 18), none, (.p (.iaddr 4 (.t 16) (.t 17))), false, []⟩,
         ⟨(some 19), none, (.p (.faddr 0 (.t 18))), false, []⟩,
         ⟨(some 20), none, (.r (.load 1 false (.t 19))), false, []⟩,
         ⟨(some 21), none, (.p (.mv (.t 1))), false, []⟩,
         ⟨(some 22), none, (.p (.mv (.t 5))), false, []⟩,
         ⟨(some 23), none, (.p (.iaddr 4 (.t 21) (.t 22))), false, []⟩,
         ⟨(some 24), none, (.p (.faddr 0 (.t 23))), false, []⟩,
         ⟨(some 25), none, (.r (.load 1 false (.t 24))), false, []⟩,
         ⟨(some 26), none, (.p (.bin .neq (.t 20) (.t 25))), false, []⟩,
         ⟨(some 27), none, (.p (.mv (.t 26))), false, []⟩,
         ⟨(some 28), (some (27, false)), (.p (.mv (.t 0))), false, []⟩,
         ⟨(some 29), (some (27, false)), (.p (.mv (.t 5))), false, []⟩,
         ⟨(some 30), (some (27, false)), (.p (.iaddr 4 (.t 28) (.t 29))), false, []⟩,
         ⟨(some 31), (some (27, false)), (.p (.faddr 1 (.t 30))), false, []⟩,
         ⟨(some 32), (some (27, false)), (.r (.load 1 false (.t 31))), false, []⟩,
         ⟨(some 33), (some (27, false)), (.p (.mv (.t 1))), false, []⟩,
         ⟨(some 34), (some (27, false)), (.p (.mv (.t 5))), false, []⟩,
         ⟨(some 35), (some (27, false)), (.p (.iaddr 4 (.t 33) (.t 34))), false, []⟩,
         ⟨(some 36), (some (27, false)), (.p (.faddr 1 (.t 35))), false, []⟩,
         ⟨(some 37), (some (27, false)), (.r (.load 1 false (.t 36))), false, []⟩,
         ⟨(some 38), (some (27, false)), (.p (.bin .neq (.t 32) (.t 37))), false, []⟩,
         ⟨(some 39), none, (.p (.pick (.t 27) (.c (.bool true)) (.t 38))), false, []⟩,
         ⟨(some 40), none, (.p (.mv (.t 39))), false, []⟩,
         ⟨(some 41), (some (40, false)), (.p (.mv (.t 0))), false, []⟩,
         ⟨(some 42), (some (40, false)), (.p (.mv (.t 5))), false, []⟩,
         ⟨(some 43), (some (40, false)), (.p (.iaddr 4 (.t 41) (.t 42))), false, []⟩,
         ⟨(some 44), (some (40, false)), (.p (.faddr 2 (.t 43))), false, []⟩,
         ⟨(some 45), (some (40, false)), (.r (.load 1 false (.t 44))), false, []⟩,
         ⟨(some 46), (some (40, false)), (.p (.mv (.t 1))), false, []⟩,
         ⟨(some 47), (some (40, false)), (.p (.mv (.t 5))), false, []⟩,
         ⟨(some 48), (some (40, false)), (.p (.iaddr 4 (.t 46) (.t 47))), false, []⟩,
         ⟨(some 49), (some (40, false)), (.p (.faddr 2 (.t 48))), false, []⟩,
         ⟨(some 50), (some (40, false)), (.r (.load 1 false (.t 49))), false, []⟩,
         ⟨(some 51), (some (40, false)), (.p (.bin .neq (.t 45) (.t 50))), false, []⟩,
         ⟨(some 52), none, (.p (.pick (.t 40) (.c (.bool true)) (.t 51))), false, []⟩,
         ⟨(some 53), none, (.p (.mv (.t 52))), false, []⟩,
         ⟨(some 54), (some (53, false)), (.p (.mv (.t 0))), false, []⟩,
         ⟨(some 55), (some (53, false)), (.p (.mv (.t 5))), false, []⟩,
         ⟨(some 56), (some (53, false)), (.p (.iaddr 4 (.t 54) (.t 55))), false, []⟩,
         ⟨(some 57), (some (53, false)), (.p (.faddr 3 (.t 56))), false, []⟩,
         ⟨(some 58), (some (53, false)), (.r (.load 1 false (.t 57))), false, []⟩,
         ⟨(some 59), (some (53, false)), (.r (.b2s (.t 58))), false, []⟩,
         ⟨(some 60), (some (53, false)), (.p (.mv (.t 1))), false, []⟩,
         ⟨(some 61), (some (53, false)), (.p (.mv (.t 5))), false, []⟩,
         ⟨(some 62), (some (53, false)), (.p (.iaddr 4 (.t 60) (.t 61))), false, []⟩,
         ⟨(some 63), (some (53, false)), (.p (.faddr 3 (.t 62))), false, []⟩,
         ⟨(some 64), (some (53, false)), (.r (.load 1 false (.t 63))), false, []⟩,
         ⟨(some 65), (some (53, false)), (.r (.b2s (.t 64))), false, []⟩,
         ⟨(some 66), (some (53, false)), (.p (.bin .neq (.t 59) (.t 65))), false, []⟩,
         ⟨(some 67), none, (.p (.pick (.t 53) (.c (.bool true)) (.t 66))), false, []⟩] (some ⟨[0, 1, 12, 13, 67], [], true⟩))
       (.cond (.t 67)
        (.seq
         (.region 0 [⟨(some 4), none, (.p (.mv (.c (.bool false)))), false, []⟩] (some ⟨[4], [], false⟩))
         .ret)
        .skip))))
    (.region 0 [⟨(some 68), none, (.p (.bin .add (.t 13) (.c (.int .i64 1)))), false, []⟩,
      ⟨(some 13), none, (.p (.mv (.t 68))), false, []⟩] (some ⟨[0, 1, 12, 13], [], false⟩)))))
def Try.c37 : AC :=
 (.seq
  (.region 0 [⟨(some 4), none, (.p (.mv (.c (.bool false)))), false, []⟩] (some ⟨[0, 1], [], false⟩))
  (.seq
   (.seq
    (.region 0 [⟨(some 6), none, (.p (.mv (.t 0))), false, []⟩,
      ⟨(some 7), none, (.p (.len (.t 6))), false, []⟩,
      ⟨(some 8), none, (.p (.mv (.t 1))), false, []⟩,
      ⟨(some 9), none, (.p (.len (.t 8))), false, []⟩,
      ⟨(some 10), none, (.p (.bin .neq (.t 7) (.t 9))), false, []⟩] (some ⟨[0, 1, 10], [], false⟩))
    (.cond (.t 10)
     (.seq
      (.region 0 [⟨(some 4), none, (.p (.mv (.c (.bool false)))), false, []⟩] (some ⟨[4], [], false⟩))
      .ret)
     .skip))
   (.seq
    (.seq
     (.region 0 [⟨(some 11), none, (.p (.mv (.t 0))), false, []⟩,
       ⟨(some 12), none, (.p (.len (.t 11))), false, []⟩,
       ⟨(some 13), none, (.p (.mv (.c (.int .i64 0)))), false, []⟩] (some ⟨[0, 1, 12, 13], [], false⟩))
     (.block 0
      (.loop (some ⟨[0, 1, 12, 13], [], true⟩) Try.c37b0)))
    (.seq
     (.region 0 [⟨(some 4), none, (.p (.mv (.c (.bool true)))), false, []⟩] (some ⟨[4], [], false⟩))
     .ret))))
theorem Try.run37 {xs : List AV} {r : AV} (hl : xs.length ≤ 69) (h : aw Try.prog Try.c37 (Pv.Ends [4] r) (entry xs)) : Run Try.prog 37 xs r :=
  run_of (fun _ _ => drawOk Try.mixed) Try.func37 rfl rfl rfl (by kernel_rfl) (by kernel_rfl) hl h
/-! 51 slices.ContainsFunc[[]paling/pcap.Record,paling/pcap.Record] : params [40, 45], results [4], free 0, zeros [(.slice none 0 0), .nilFunc] -/
def Try.c51 : AC :=
 (.seq
  (.region 0 [⟨(some 4), none, (.p (.mv (.c (.bool false)))), false, []⟩] (some ⟨[0, 1], [], false⟩))
  (.seq
   (.region 0 [⟨(some 5), none, (.p (.mv (.t 0))), false, []⟩,
     ⟨(some 6), none, (.p (.mv (.t 1))), false, []⟩,
     ⟨(some 7), none, (.call 63 [(.t 5), (.t 6)] false), false, []⟩,
     ⟨(some 8), none, (.p (.bin .geq (.t 7) (.c (.int .i64 0)))), false, []⟩,
     ⟨(some 4), none, (.p (.mv (.t 8))), false, []⟩] (some ⟨[4], [], false⟩))
   .ret))
theorem Try.run51 {xs : List AV} {r : AV} (hl : xs.length ≤ 9) (h : aw Try.prog Try.c51 (Pv.Ends [4] r) (entry xs)) : Run Try.prog 51 xs r :=
  run_of (fun _ _ => drawOk Try.mixed) Try.func51 rfl rfl rfl (by kernel_rfl) (by kernel_rfl) hl h
/-! 52 paling/pcap.Put.1 : params [44], results [4], free 0, zeros [(.agg #[(.int .i64 (0)), (.int .i64 (0)), (.int .i64 (0)), (.slice none 0 0)])] -/
def Try.c52 : AC :=
 (.seq
  (.region 0 [⟨(some 1), none, (.e (.box 44 (.t 0)) none), false, []⟩,
    ⟨(some 2), none, (.p (.mv (.c (.bool false)))), false, []⟩] (some ⟨[1], [], false⟩))
  (.seq
   (.region 0 [⟨(some 3), none, (.r (.load 4 true (.t 1))), false, []⟩,
     ⟨(some 4), none, (.call 25 [(.t 3)] false), false, []⟩,
     ⟨(some 5), none, (.p (.un .not (.t 4))), false, []⟩,
     ⟨(some 2), none, (.p (.mv (.t 5))), false, []⟩] (some ⟨[2], [], false⟩))
   .ret))
theorem Try.run52 {xs : List AV} {r : AV} (hl : xs.length ≤ 6) (h : aw Try.prog Try.c52 (Pv.Ends [2] r) (entry xs)) : Run Try.prog 52 xs r :=
  run_of (fun _ _ => drawOk Try.mixed) Try.func52 rfl rfl rfl (by kernel_rfl) (by kernel_rfl) hl h
/-! 53 paling/pcap.little : params [], results [90], free 0, zeros [] -/
def Try.c53 : AC :=
 (.seq
  (.region 0 [⟨(some 0), none, (.e (.alloc 90 (.agg [(.lit .nilFunc)])) none), false, []⟩] (some ⟨[0], [], false⟩))
  (.seq
   (.region 0 [⟨(some 1), none, (.p (.build [(.lit .nilFunc)] [(0, 1, (.c (.fn 64 [])))])), false, []⟩,
     ⟨none, none, (.e (.store 1 (.t 0) (.t 1)) none), false, []⟩] (some ⟨[0], [], false⟩))
   .ret))
theorem Try.run53 {xs : List AV} {r : AV} (hl : xs.length ≤ 2) (h : aw Try.prog Try.c53 (Pv.EndsX (rvs [.c 0 1 true]) r) (entry xs)) : Run Try.prog 53 xs r :=
  run_ofC (fun _ _ => drawOk Try.mixed) Try.func53 rfl rfl (by kernel_rfl) (by kernel_rfl) (by kernel_rfl) hl h
/-! 54 (paling/pcap.order).file : params [90, 40], results [42], free 0, zeros [(.agg #[.nilFunc]), (.slice none 0 0)] -/
def Try.c54b0 : AC :=
 (.seq
  (.region 0 [⟨(some 30), none, (.p (.bin .lss (.t 29) (.t 28))), false, []⟩] (some ⟨[2, 5, 7, 12, 13, 14, 27, 28, 29, 30], [], false⟩))
  (.seq
   (.cond (.t 30)
    .skip
    (.exit 2))
   (.seq
    (.block 3
     (.seq
      (.region 0 [⟨(some 31), none, (.p (.iaddr 1 (.t 27) (.t 29))), false, []⟩,
        ⟨(some 32), none, (.r (.load 1 false (.t 31))), false, []⟩,
        ⟨(some 9), none, (.p (.mv (.t 32))), false, []⟩] (some ⟨[2, 5, 7, 9, 12, 13, 14, 27, 28, 29], [], false⟩))
      (.region 0 [⟨(some 33), none, (.r (.load 1 true (.t 2))), false, []⟩,
        ⟨(some 34), none, (.p (.mv (.t 5))), false, []⟩,
        ⟨(some 35), none, (.p (.mv (.t 9))), false, []⟩,
        ⟨(some 36), none, (.call 66 [(.t 33), (.t 34), (.t 35), (.c (.int .i64 4))] false), false, []⟩,
        ⟨(some 5), none, (.p (.mv (.t 36))), false, []⟩] (some ⟨[2, 5, 7, 12, 13, 14, 27, 28, 29], [], false⟩))))
    (.region 0 [⟨(some 37), none, (.p (.bin .add (.t 29) (.c (.int .i64 1)))), false, []⟩,
      ⟨(some 29), none, (.p (.mv (.t 37))), false, []⟩] (some ⟨[2, 5, 7, 12, 13, 14, 27, 28, 29], [], false⟩)))))
def Try.c54b1 : AC :=
 (.seq
  (.region 0 [⟨(some 15), none, (.p (.bin .lss (.t 14) (.t 13))), false, []⟩] (some ⟨[2, 5, 12, 13, 14, 15], [], false⟩))
  (.seq
   (.cond (.t 15)
    .skip
    (.exit 0))
   (.seq
    (.block 1
     (.seq
      (.region 0 [⟨(some 16), none, (.p (.iaddr 4 (.t 12) (.t 14))), false, []⟩,
        ⟨(some 17), none, (.r (.load 4 true (.t 16))), false, []⟩,
        ⟨(some 7), none, (.e (.alloc 44 (.agg [(.int .i64 0), (.int .i64 0), (.int .i64 0), (.sl 0 [] true)])) none), false, []⟩,
        ⟨none, none, (.e (.store 4 (.t 7) (.t 17)) none), false, []⟩] (some ⟨[2, 5, 7, 12, 13, 14], [], false⟩))
      (.seq
       (.seq
        (.region 0 [⟨(some 18), none, (.p (.faddr 0 (.t 7))), false, []⟩,
          ⟨(some 19), none, (.r (.load 1 false (.t 18))), false, []⟩,
          ⟨(some 20), none, (.p (.faddr 1 (.t 7))), false, []⟩,
          ⟨(some 21), none, (.r (.load 1 false (.t 20))), false, []⟩,
          ⟨(some 22), none, (.p (.faddr 3 (.t 7))), false, []⟩,
          ⟨(some 23), none, (.r (.load 1 false (.t 22))), false, []⟩,
          ⟨(some 24), none, (.p (.len (.t 23))), false, []⟩,
          ⟨(some 25), none, (.p (.faddr 2 (.t 7))), false, []⟩,
          ⟨(some 26), none, (.r (.load 1 false (.t 25))), false, []⟩,
          ⟨(some 27), none, (.e (.mks 3 1 (.int .i64 0) 4 [(0, (.t 19)), (1, (.t 21)), (2, (.t 24)), (3, (.t 26))]) none), false, []⟩,
          ⟨(some 28), none, (.p (.len (.t 27))), false, []⟩,
          ⟨(some 29), none, (.p (.mv (.c (.int .i64 0)))), false, []⟩] (some ⟨[2, 5, 7, 12, 13, 14, 27, 28, 29], [], false⟩))
        (.block 2
         (.loop (some ⟨[2, 5, 7, 12, 13, 14, 27, 28, 29], [], true⟩) Try.c54b0)))
       (.region 0 [⟨(some 38), none, (.p (.mv (.t 5))), false, []⟩,
         ⟨(some 39), none, (.p (.faddr 3 (.t 7))), false, []⟩,
         ⟨(some 40), none, (.r (.load 1 false (.t 39))), false, []⟩,
         ⟨(some 41), none, (.e (.append 5 1 (.t 38) (.t 40)) none), false, []⟩,
         ⟨(some 5), none, (.p (.mv (.t 41))), false, []⟩] (some ⟨[2, 5, 12, 13, 14], [], false⟩)))))
    (.region 0 [⟨(some 42), none, (.p (.bin .add (.t 14) (.c (.int .i64 1)))), false, []⟩,
      ⟨(some 14), none, (.p (.mv (.t 42))), false, []⟩] (some ⟨[2, 5, 12, 13, 14], [], false⟩)))))
def Try.c54 : AC :=
 (.seq
  (.region 0 [⟨(some 2), none, (.e (.box 90 (.t 0)) none), false, []⟩,
    ⟨(some 4), none, (.p (.mv (.c (.sl 0 [] true)))), false, []⟩] (some ⟨[1, 2], [], false⟩))
  (.seq
   (.region 0 [⟨(some 10), none, (.r (.load 1 true (.t 2))), false, []⟩,
     ⟨(some 11), none, (.call 65 [(.t 10)] false), false, []⟩,
     ⟨(some 5), none, (.p (.mv (.t 11))), false, []⟩] (some ⟨[1, 2, 5], [], false⟩))
   (.seq
    (.seq
     (.region 0 [⟨(some 12), none, (.p (.mv (.t 1))), false, []⟩,
       ⟨(some 13), none, (.p (.len (.t 12))), false, []⟩,
       ⟨(some 14), none, (.p (.mv (.c (.int .i64 0)))), false, []⟩] (some ⟨[2, 5, 12, 13, 14], [], false⟩))
     (.block 0
      (.loop (some ⟨[2, 5, 12, 13, 14], [(5, (1, 5))], true⟩) Try.c54b1)))
    (.seq
     (.region 0 [⟨(some 43), none, (.p (.mv (.t 5))), false, []⟩,
       ⟨(some 4), none, (.p (.mv (.t 43))), false, []⟩] (some ⟨[4], [], false⟩))
     .ret))))
theorem Try.run54 {xs : List AV} {r : AV} (hl : xs.length ≤ 44) (h : aw Try.prog Try.c54 (Pv.Ends [4] r) (entry xs)) : Run Try.prog 54 xs r :=
  run_of (fun _ _ => drawOk Try.mixed) Try.func54 rfl rfl rfl (by kernel_rfl) (by kernel_rfl) hl h
/-! 55 paling/palingref46.File : params [52, 4], results [42], free 0, zeros [(.slice none 0 0), (.bool false)] -/
def Try.c55b0 : AC :=
 (.seq
  (.seq
   (.region 0 [⟨(some 28), none, (.p (.mv (.t 6))), false, []⟩,
     ⟨(some 29), none, (.p (.mv (.t 0))), false, []⟩,
     ⟨(some 30), none, (.p (.len (.t 29))), false, []⟩,
     ⟨(some 31), none, (.p (.bin .lss (.t 28) (.t 30))), false, []⟩] (some ⟨[0, 1, 5, 6, 31], [], false⟩))
   (.cond (.t 31)
    .skip
    (.exit 0)))
  (.seq
   (.block 1
    (.seq
     (.region 0 [⟨(some 34), none, (.p (.mv (.t 5))), false, []⟩,
       ⟨(some 35), none, (.p (.mv (.t 0))), false, []⟩,
       ⟨(some 36), none, (.p (.mv (.t 6))), false, []⟩,
       ⟨(some 37), none, (.p (.iaddr 4 (.t 35) (.t 36))), false, []⟩,
       ⟨(some 38), none, (.p (.faddr 0 (.t 37))), false, []⟩,
       ⟨(some 39), none, (.r (.load 1 false (.t 38))), false, []⟩,
       ⟨(some 40), none, (.p (.mv (.t 1))), false, []⟩,
       ⟨(some 41), none, (.call 67 [(.t 39), (.c (.int .i64 4)), (.t 40)] false), false, []⟩,
       ⟨(some 42), none, (.e (.append 5 1 (.t 34) (.t 41)) none), false, []⟩,
       ⟨(some 5), none, (.p (.mv (.t 42))), false, []⟩] (some ⟨[0, 1, 5, 6], [], false⟩))
     (.seq
      (.region 0 [⟨(some 43), none, (.p (.mv (.t 5))), false, []⟩,
        ⟨(some 44), none, (.p (.mv (.t 0))), false, []⟩,
        ⟨(some 45), none, (.p (.mv (.t 6))), false, []⟩,
        ⟨(some 46), none, (.p (.iaddr 4 (.t 44) (.t 45))), false, []⟩,
        ⟨(some 47), none, (.p (.faddr 1 (.t 46))), false, []⟩,
        ⟨(some 48), none, (.r (.load 1 false (.t 47))), false, []⟩,
        ⟨(some 49), none, (.p (.mv (.t 1))), false, []⟩,
        ⟨(some 50), none, (.call 67 [(.t 48), (.c (.int .i64 4)), (.t 49)] false), false, []⟩,
        ⟨(some 51), none, (.e (.append 5 1 (.t 43) (.t 50)) none), false, []⟩,
        ⟨(some 5), none, (.p (.mv (.t 51))), false, []⟩] (some ⟨[0, 1, 5, 6], [], false⟩))
      (.seq
       (.region 0 [⟨(some 52), none, (.p (.mv (.t 5))), false, []⟩,
         ⟨(some 53), none, (.p (.mv (.t 0))), false, []⟩,
         ⟨(some 54), none, (.p (.mv (.t 6))), false, []⟩,
         ⟨(some 55), none, (.p (.iaddr 4 (.t 53) (.t 54))), false, []⟩,
         ⟨(some 56), none, (.p (.faddr 3 (.t 55))), false, []⟩,
         ⟨(some 57), none, (.r (.load 1 false (.t 56))), false, []⟩,
         ⟨(some 58), none, (.p (.len (.t 57))), false, []⟩,
         ⟨(some 59), none, (.p (.mv (.t 1))), false, []⟩,
         ⟨(some 60), none, (.call 67 [(.t 58), (.c (.int .i64 4)), (.t 59)] false), false, []⟩,
         ⟨(some 61), none, (.e (.append 5 1 (.t 52) (.t 60)) none), false, []⟩,
         ⟨(some 5), none, (.p (.mv (.t 61))), false, []⟩] (some ⟨[0, 1, 5, 6], [], false⟩))
       (.seq
        (.region 0 [⟨(some 62), none, (.p (.mv (.t 5))), false, []⟩,
          ⟨(some 63), none, (.p (.mv (.t 0))), false, []⟩,
          ⟨(some 64), none, (.p (.mv (.t 6))), false, []⟩,
          ⟨(some 65), none, (.p (.iaddr 4 (.t 63) (.t 64))), false, []⟩,
          ⟨(some 66), none, (.p (.faddr 2 (.t 65))), false, []⟩,
          ⟨(some 67), none, (.r (.load 1 false (.t 66))), false, []⟩,
          ⟨(some 68), none, (.p (.mv (.t 1))), false, []⟩,
          ⟨(some 69), none, (.call 67 [(.t 67), (.c (.int .i64 4)), (.t 68)] false), false, []⟩,
          ⟨(some 70), none, (.e (.append 5 1 (.t 62) (.t 69)) none), false, []⟩,
          ⟨(some 5), none, (.p (.mv (.t 70))), false, []⟩] (some ⟨[0, 1, 5, 6], [], false⟩))
        (.region 0 [⟨(some 71), none, (.p (.mv (.t 5))), false, []⟩,
          ⟨(some 72), none, (.p (.mv (.t 0))), false, []⟩,
          ⟨(some 73), none, (.p (.mv (.t 6))), false, []⟩,
          ⟨(some 74), none, (.p (.iaddr 4 (.t 72) (.t 73))), false, []⟩,
          ⟨(some 75), none, (.p (.faddr 3 (.t 74))), false, []⟩,
          ⟨(some 76), none, (.r (.load 1 false (.t 75))), false, []⟩,
          ⟨(some 77), none, (.e (.append 5 1 (.t 71) (.t 76)) none), false, []⟩,
          ⟨(some 5), none, (.p (.mv (.t 77))), false, []⟩] (some ⟨[0, 1, 5, 6], [], false⟩)))))))
   (.region 0 [⟨(some 32), none, (.p (.mv (.t 6))), false, []⟩,
     ⟨(some 33), none, (.p (.bin .add (.t 32) (.c (.int .i64 1)))), false, []⟩,
     ⟨(some 6), none, (.p (.mv (.t 33))), false, []⟩] (some ⟨[0, 1, 5, 6], [], false⟩))))
def Try.c55 : AC :=
 (.seq
  (.region 0 [⟨(some 4), none, (.p (.mv (.c (.sl 0 [] true)))), false, []⟩] (some ⟨[0, 1], [], false⟩))
  (.seq
   (.region 0 [⟨(some 7), none, (.p (.mv (.t 1))), false, []⟩,
     ⟨(some 8), none, (.call 67 [(.c (.int .i64 2712847316)), (.c (.int .i64 4)), (.t 7)] false), false, []⟩,
     ⟨(some 5), none, (.p (.mv (.t 8))), false, []⟩] (some ⟨[0, 1, 5], [], false⟩))
   (.seq
    (.region 0 [⟨(some 9), none, (.p (.mv (.t 5))), false, []⟩,
      ⟨(some 10), none, (.p (.mv (.t 1))), false, []⟩,
      ⟨(some 11), none, (.call 67 [(.c (.int .i64 2)), (.c (.int .i64 2)), (.t 10)] false), false, []⟩,
      ⟨(some 12), none, (.e (.append 5 1 (.t 9) (.t 11)) none), false, []⟩,
      ⟨(some 5), none, (.p (.mv (.t 12))), false, []⟩] (some ⟨[0, 1, 5], [], false⟩))
    (.seq
     (.region 0 [⟨(some 13), none, (.p (.mv (.t 5))), false, []⟩,
       ⟨(some 14), none, (.p (.mv (.t 1))), false, []⟩,
       ⟨(some 15), none, (.call 67 [(.c (.int .i64 4)), (.c (.int .i64 2)), (.t 14)] false), false, []⟩,
       ⟨(some 16), none, (.e (.append 5 1 (.t 13) (.t 15)) none), false, []⟩,
       ⟨(some 5), none, (.p (.mv (.t 16))), false, []⟩] (some ⟨[0, 1, 5], [], false⟩))
     (.seq
      (.region 0 [⟨(some 17), none, (.p (.mv (.t 5))), false, []⟩,
        ⟨(some 18), none, (.e (.mks 5 1 (.int .u8 0) 8 [(0, (.c (.int .u8 0))), (1, (.c (.int .u8 0))), (2, (.c (.int .u8 0))), (3, (.c (.int .u8 0))), (4, (.c (.int .u8 0))), (5, (.c (.int .u8 0))), (6, (.c (.int .u8 0))), (7, (.c (.int .u8 0)))]) none), false, []⟩,
        ⟨(some 19), none, (.e (.append 5 1 (.t 17) (.t 18)) none), false, []⟩,
        ⟨(some 5), none, (.p (.mv (.t 19))), false, []⟩] (some ⟨[0, 1, 5], [], false⟩))
      (.seq
       (.region 0 [⟨(some 20), none, (.p (.mv (.t 5))), false, []⟩,
         ⟨(some 21), none, (.p (.mv (.t 1))), false, []⟩,
         ⟨(some 22), none, (.call 67 [(.c (.int .i64 65535)), (.c (.int .i64 4)), (.t 21)] false), false, []⟩,
         ⟨(some 23), none, (.e (.append 5 1 (.t 20) (.t 22)) none), false, []⟩,
         ⟨(some 5), none, (.p (.mv (.t 23))), false, []⟩] (some ⟨[0, 1, 5], [], false⟩))
       (.seq
        (.region 0 [⟨(some 24), none, (.p (.mv (.t 5))), false, []⟩,
          ⟨(some 25), none, (.p (.mv (.t 1))), false, []⟩,
          ⟨(some 26), none, (.call 67 [(.c (.int .i64 1)), (.c (.int .i64 4)), (.t 25)] false), false, []⟩,
          ⟨(some 27), none, (.e (.append 5 1 (.t 24) (.t 26)) none), false, []⟩,
          ⟨(some 5), none, (.p (.mv (.t 27))), false, []⟩] (some ⟨[0, 1, 5], [], false⟩))
        (.seq
         (.seq
          (.region 0 [⟨(some 6), none, (.p (.mv (.c (.int .i64 0)))), false, []⟩] (some ⟨[0, 1, 5, 6], [], false⟩))
          (.block 0
           (.loop (some ⟨[0, 1, 5, 6], [(5, (1, 5))], true⟩) Try.c55b0)))
         (.seq
          (.region 0 [⟨(some 78), none, (.p (.mv (.t 5))), false, []⟩,
            ⟨(some 4), none, (.p (.mv (.t 78))), false, []⟩] (some ⟨[4], [], false⟩))
          .ret)))))))))
theorem Try.run55 {xs : List AV} {r : AV} (hl : xs.length ≤ 79) (h : aw Try.prog Try.c55 (Pv.Ends [4] r) (entry xs)) : Run Try.prog 55 xs r :=
  run_of (fun _ _ => drawOk Try.mixed) Try.func55 rfl rfl rfl (by kernel_rfl) (by kernel_rfl) hl h
/-! 56 slices.Clone[[]byte,byte] : params [42], results [42], free 0, zeros [(.slice none 0 0)] -/
def Try.c56 : AC :=
 (.seq
  (.region 0 [⟨(some 2), none, (.p (.mv (.c (.sl 0 [] true)))), false, []⟩] (some ⟨[0], [], false⟩))
  (.seq
   (.seq
    (.region 0 [⟨(some 3), none, (.p (.mv (.t 0))), false, []⟩,
      ⟨(some 4), none, (.p (.isnil false (.t 3))), false, []⟩] (some ⟨[0, 4], [], false⟩))
    (.cond (.t 4)
     (.seq
      (.region 0 [⟨(some 2), none, (.p (.mv (.c (.sl 0 [] true)))), false, []⟩] (some ⟨[2], [], false⟩))
      .ret)
     .skip))
   (.seq
    (.region 0 [⟨(some 5), none, (.e (.mks 5 1 (.int .u8 0) 0 []) none), false, []⟩,
      ⟨(some 6), none, (.p (.mv (.t 0))), false, []⟩,
      ⟨(some 7), none, (.e (.append 5 1 (.t 5) (.t 6)) none), false, []⟩,
      ⟨(some 2), none, (.p (.mv (.t 7))), false, []⟩] (some ⟨[2], [], false⟩))
    .ret)))
theorem Try.run56 {xs : List AV} {r : AV} (hl : xs.length ≤ 8) (h : aw Try.prog Try.c56 (Pv.Ends [2] r) (entry xs)) : Run Try.prog 56 xs r :=
  run_of (fun _ _ => drawOk Try.mixed) Try.func56 rfl rfl rfl (by kernel_rfl) (by kernel_rfl) hl h
/-! 57 paling/pcap.read : params [42], results [40, 90, 26], free 0, zeros [(.slice none 0 0)] -/
def Try.c57b0 : AC :=
 (.seq
  (.seq
   (.region 0 [⟨(some 35), none, (.p (.mv (.t 8))), false, []⟩,
     ⟨(some 36), none, (.p (.len (.t 35))), false, []⟩,
     ⟨(some 37), none, (.p (.bin .gtr (.t 36) (.c (.int .i64 0)))), false, []⟩] (some ⟨[3, 5, 7, 8, 37], [], false⟩))
   (.cond (.t 37)
    .skip
    (.exit 0)))
  (.block 1
   (.seq
    (.region 0 [⟨(some 39), none, (.r (.load 1 true (.t 5))), false, []⟩,
      ⟨(some 40), none, (.p (.mv (.t 8))), false, []⟩,
      ⟨(some 41), none, (.call 69 [(.t 39), (.t 40)] false), false, []⟩,
      ⟨(some 38), none, (.p (.mv (.t 41))), false, []⟩,
      ⟨(some 42), none, (.p (.ext (.t 38) 0)), false, []⟩,
      ⟨(some 43), none, (.p (.ext (.t 38) 1)), false, []⟩,
      ⟨(some 44), none, (.p (.ext (.t 38) 2)), false, []⟩,
      ⟨(some 9), none, (.e (.alloc 44 (.agg [(.int .i64 0), (.int .i64 0), (.int .i64 0), (.sl 0 [] true)])) none), false, []⟩,
      ⟨none, none, (.e (.store 4 (.t 9) (.t 42)) none), false, []⟩,
      ⟨(some 10), none, (.p (.mv (.t 43))), false, []⟩,
      ⟨(some 11), none, (.p (.mv (.t 44))), false, []⟩] (some ⟨[3, 5, 7, 8, 9, 10, 11], [], false⟩))
    (.seq
     (.seq
      (.region 0 [⟨(some 45), none, (.p (.mv (.t 11))), false, []⟩,
        ⟨(some 46), none, (.p (.bin .eql (.t 45) (.c (.int .i64 0)))), false, []⟩,
        ⟨(some 47), none, (.p (.mv (.t 46))), false, []⟩,
        ⟨(some 48), (some (47, true)), (.p (.mv (.t 7))), false, []⟩,
        ⟨(some 49), (some (47, true)), (.p (.len (.t 48))), false, []⟩,
        ⟨(some 50), (some (47, true)), (.p (.bin .eql (.t 49) (.c (.int .i64 1000)))), false, []⟩,
        ⟨(some 51), none, (.p (.pick (.t 47) (.t 50) (.c (.bool false)))), false, []⟩] (some ⟨[3, 5, 7, 8, 9, 10, 11, 51], [], false⟩))
      (.cond (.t 51)
       (.region 0 [⟨(some 11), none, (.p (.mv (.c (.int .i64 3)))), false, []⟩] (some ⟨[3, 5, 7, 8, 9, 10, 11], [], false⟩))
       .skip))
     (.seq
      (.seq
       (.region 0 [⟨(some 52), none, (.p (.mv (.t 11))), false, []⟩,
         ⟨(some 53), none, (.p (.bin .neq (.t 52) (.c (.int .i64 0)))), false, []⟩] (some ⟨[3, 5, 7, 8, 9, 10, 11, 53], [], false⟩))
       (.cond (.t 53)
        (.seq
         (.region 0 [⟨(some 54), none, (.p (.build [(.lit .nilFunc)] [])), false, []⟩,
           ⟨(some 55), none, (.p (.mv (.t 11))), false, []⟩,
           ⟨(some 2), none, (.p (.mv (.c (.sl 0 [] true)))), false, []⟩,
           ⟨none, none, (.e (.store 1 (.t 3) (.t 54)) none), false, []⟩,
           ⟨(some 4), none, (.p (.mv (.t 55))), false, []⟩] (some ⟨[2, 3, 4], [], false⟩))
         .ret)
        .skip))
      (.region 9 [⟨(some 56), none, (.p (.mv (.t 7))), true, []⟩,
        ⟨(some 57), none, (.r (.load 4 true (.t 9))), true, []⟩,
        ⟨(some 60), none, (.p (.mv (.t 8))), true, []⟩,
        ⟨(some 61), none, (.p (.mv (.t 10))), true, []⟩,
        ⟨(some 62), none, (.p (.slicev 1 (.t 60) (some (.t 61)) none none)), true, []⟩,
        ⟨(some 58), none, (.e (.mks 44 4 (.agg [(.int .i64 0), (.int .i64 0), (.int .i64 0), (.sl 0 [] true)]) 1 [(0, (.t 57))]) (some 2)), true, []⟩,
        ⟨(some 59), none, (.e (.append 44 4 (.t 56) (.t 58)) (some 3)), true, []⟩,
        ⟨(some 7), none, (.p (.mv (.t 59))), true, []⟩,
        ⟨(some 8), none, (.p (.mv (.t 62))), true, []⟩] (some ⟨[3, 5, 7, 8], [], true⟩)))))))
def Try.c57 : AC :=
 (.seq
  (.region 0 [⟨(some 2), none, (.p (.mv (.c (.sl 0 [] true)))), false, []⟩,
    ⟨(some 3), none, (.e (.alloc 90 (.agg [(.lit .nilFunc)])) none), false, []⟩,
    ⟨(some 4), none, (.p (.mv (.c (.int .i64 0)))), false, []⟩] (some ⟨[0, 3], [], false⟩))
  (.seq
   (.seq
    (.region 0 [⟨(some 12), none, (.p (.mv (.t 0))), false, []⟩,
      ⟨(some 13), none, (.p (.len (.t 12))), false, []⟩,
      ⟨(some 14), none, (.p (.bin .lss (.t 13) (.c (.int .i64 24)))), false, []⟩] (some ⟨[0, 3, 14], [], false⟩))
    (.cond (.t 14)
     (.seq
      (.region 0 [⟨(some 15), none, (.p (.build [(.lit .nilFunc)] [])), false, []⟩,
        ⟨(some 2), none, (.p (.mv (.c (.sl 0 [] true)))), false, []⟩,
        ⟨none, none, (.e (.store 1 (.t 3) (.t 15)) none), false, []⟩,
        ⟨(some 4), none, (.p (.mv (.c (.int .i64 10)))), false, []⟩] (some ⟨[2, 3, 4], [], false⟩))
      .ret)
     .skip))
   (.seq
    (.region 0 [⟨(some 17), none, (.p (.mv (.t 0))), false, []⟩,
      ⟨(some 18), none, (.call 68 [(.t 17)] false), false, []⟩,
      ⟨(some 16), none, (.p (.mv (.t 18))), false, []⟩,
      ⟨(some 19), none, (.p (.ext (.t 16) 0)), false, []⟩,
      ⟨(some 20), none, (.p (.ext (.t 16) 1)), false, []⟩,
      ⟨(some 5), none, (.e (.alloc 90 (.agg [(.lit .nilFunc)])) none), false, []⟩,
      ⟨none, none, (.e (.store 1 (.t 5) (.t 19)) none), false, []⟩,
      ⟨(some 6), none, (.p (.mv (.t 20))), false, []⟩] (some ⟨[0, 3, 5, 6], [], false⟩))
    (.seq
     (.seq
      (.region 11 [⟨(some 21), none, (.p (.mv (.t 6))), false, []⟩,
        ⟨(some 22), none, (.p (.un .not (.t 21))), false, []⟩,
        ⟨(some 23), none, (.p (.mv (.t 22))), false, []⟩,
        ⟨(some 24), (some (23, false)), (.p (.mv (.t 0))), false, []⟩,
        ⟨(some 25), (some (23, false)), (.p (.slicev 1 (.t 24) none (some (.c (.int .i64 24))) none)), false, []⟩,
        ⟨(some 26), (some (23, false)), (.r (.b2s (.t 25))), false, []⟩,
        ⟨(some 27), (some (23, false)), (.r (.load 1 true (.t 5))), false, []⟩,
        ⟨(some 28), (some (23, false)), (.call 65 [(.t 27)] true), false, []⟩,
        ⟨(some 29), (some (23, false)), (.r (.b2s (.t 28))), false, []⟩,
        ⟨(some 30), (some (23, false)), (.p (.bin .neq (.t 26) (.t 29))), false, []⟩,
        ⟨(some 31), none, (.p (.pick (.t 23) (.c (.bool true)) (.t 30))), false, []⟩] (some ⟨[0, 3, 5, 31], [], true⟩))
      (.cond (.t 31)
       (.seq
        (.region 0 [⟨(some 32), none, (.p (.build [(.lit .nilFunc)] [])), false, []⟩,
          ⟨(some 2), none, (.p (.mv (.c (.sl 0 [] true)))), false, []⟩,
          ⟨none, none, (.e (.store 1 (.t 3) (.t 32)) none), false, []⟩,
          ⟨(some 4), none, (.p (.mv (.c (.int .i64 11)))), false, []⟩] (some ⟨[2, 3, 4], [], false⟩))
        .ret)
       .skip))
     (.seq
      (.region 0 [⟨(some 7), none, (.p (.mv (.c (.sl 0 [] true)))), false, []⟩] (some ⟨[0, 3, 5, 7], [], false⟩))
      (.seq
       (.seq
        (.region 0 [⟨(some 33), none, (.p (.mv (.t 0))), false, []⟩,
          ⟨(some 34), none, (.p (.slicev 1 (.t 33) (some (.c (.int .i64 24))) none none)), false, []⟩,
          ⟨(some 8), none, (.p (.mv (.t 34))), false, []⟩] (some ⟨[3, 5, 7, 8], [], false⟩))
        (.block 0
         (.loop (some ⟨[3, 5, 7, 8], [(7, (4, 44))], true⟩) Try.c57b0)))
       (.seq
        (.region 5 [⟨(some 63), none, (.p (.mv (.t 7))), false, []⟩,
          ⟨(some 64), none, (.r (.load 1 true (.t 5))), false, []⟩,
          ⟨(some 2), none, (.p (.mv (.t 63))), false, []⟩,
          ⟨none, none, (.e (.store 1 (.t 3) (.t 64)) (some 3)), false, []⟩,
          ⟨(some 4), none, (.p (.mv (.c (.int .i64 0)))), false, []⟩] (some ⟨[2, 3, 4], [], true⟩))
        .ret)))))))
theorem Try.run57 {xs : List AV} {r : AV} (hl : xs.length ≤ 65) (h : aw Try.prog Try.c57 (Pv.EndsX (rvs [.t 2, .c 3 1 true, .t 4]) r) (entry xs)) : Run Try.prog 57 xs r :=
  run_ofC (fun _ _ => drawOk Try.mixed) Try.func57 rfl rfl (by kernel_rfl) (by kernel_rfl) (by kernel_rfl) hl h
/-! 58 paling/palingref46.number : params [42, 4], results [3], free 0, zeros [(.slice none 0 0), (.bool false)] -/
def Try.c58b0 : AC :=
 (.seq
  (.seq
   (.region 0 [⟨(some 7), none, (.p (.mv (.t 6))), false, []⟩,
     ⟨(some 8), none, (.p (.mv (.t 0))), false, []⟩,
     ⟨(some 9), none, (.p (.len (.t 8))), false, []⟩,
     ⟨(some 10), none, (.p (.bin .lss (.t 7) (.t 9))), false, []⟩] (some ⟨[0, 1, 5, 6, 10], [], false⟩))
   (.cond (.t 10)
    .skip
    (.exit 0)))
  (.seq
   (.block 1
    (.seq
     (.region 0 [⟨(some 13), none, (.p (.mv (.t 1))), false, []⟩] (some ⟨[0, 1, 5, 6, 13], [], false⟩))
     (.cond (.t 13)
      (.region 0 [⟨(some 14), none, (.p (.mv (.t 5))), false, []⟩,
        ⟨(some 15), none, (.p (.bin .mul (.t 14) (.c (.int .i64 256)))), false, []⟩,
        ⟨(some 16), none, (.p (.mv (.t 0))), false, []⟩,
        ⟨(some 17), none, (.p (.mv (.t 0))), false, []⟩,
        ⟨(some 18), none, (.p (.len (.t 17))), false, []⟩,
        ⟨(some 19), none, (.p (.bin .sub (.t 18) (.c (.int .i64 1)))), false, []⟩,
        ⟨(some 20), none, (.p (.mv (.t 6))), false, []⟩,
        ⟨(some 21), none, (.p (.bin .sub (.t 19) (.t 20))), false, []⟩,
        ⟨(some 22), none, (.p (.iaddr 1 (.t 16) (.t 21))), false, []⟩,
        ⟨(some 23), none, (.r (.load 1 false (.t 22))), false, []⟩,
        ⟨(some 24), none, (.p (.convI .i64 (.t 23))), false, []⟩,
        ⟨(some 25), none, (.p (.bin .add (.t 15) (.t 24))), false, []⟩,
        ⟨(some 5), none, (.p (.mv (.t 25))), false, []⟩] (some ⟨[0, 1, 5, 6], [], false⟩))
      (.region 0 [⟨(some 26), none, (.p (.mv (.t 5))), false, []⟩,
        ⟨(some 27), none, (.p (.bin .mul (.t 26) (.c (.int .i64 256)))), false, []⟩,
        ⟨(some 28), none, (.p (.mv (.t 0))), false, []⟩,
        ⟨(some 29), none, (.p (.mv (.t 6))), false, []⟩,
        ⟨(some 30), none, (.p (.iaddr 1 (.t 28) (.t 29))), false, []⟩,
        ⟨(some 31), none, (.r (.load 1 false (.t 30))), false, []⟩,
        ⟨(some 32), none, (.p (.convI .i64 (.t 31))), false, []⟩,
        ⟨(some 33), none, (.p (.bin .add (.t 27) (.t 32))), false, []⟩,
        ⟨(some 5), none, (.p (.mv (.t 33))), false, []⟩] (some ⟨[0, 1, 5, 6], [], false⟩)))))
   (.region 0 [⟨(some 11), none, (.p (.mv (.t 6))), false, []⟩,
     ⟨(some 12), none, (.p (.bin .add (.t 11) (.c (.int .i64 1)))), false, []⟩,
     ⟨(some 6), none, (.p (.mv (.t 12))), false, []⟩] (some ⟨[0, 1, 5, 6], [], false⟩))))
def Try.c58 : AC :=
 (.seq
  (.region 0 [⟨(some 4), none, (.p (.mv (.c (.int .i64 0)))), false, []⟩] (some ⟨[0, 1], [], false⟩))
  (.seq
   (.region 0 [⟨(some 5), none, (.p (.mv (.c (.int .i64 0)))), false, []⟩] (some ⟨[0, 1, 5], [], false⟩))
   (.seq
    (.seq
     (.region 0 [⟨(some 6), none, (.p (.mv (.c (.int .i64 0)))), false, []⟩] (some ⟨[0, 1, 5, 6], [], false⟩))
     (.block 0
      (.loop (some ⟨[0, 1, 5, 6], [], true⟩) Try.c58b0)))
    (.seq
     (.region 0 [⟨(some 34), none, (.p (.mv (.t 5))), false, []⟩,
       ⟨(some 4), none, (.p (.mv (.t 34))), false, []⟩] (some ⟨[4], [], false⟩))
     .ret))))
theorem Try.run58 {xs : List AV} {r : AV} (hl : xs.length ≤ 35) (h : aw Try.prog Try.c58 (Pv.Ends [4] r) (entry xs)) : Run Try.prog 58 xs r :=
  run_of (fun _ _ => drawOk Try.mixed) Try.func58 rfl rfl rfl (by kernel_rfl) (by kernel_rfl) hl h
/-! 59 paling/pcap.big : params [], results [90], free 0, zeros [] -/
def Try.c59 : AC :=
 (.seq
  (.region 0 [⟨(some 0), none, (.e (.alloc 90 (.agg [(.lit .nilFunc)])) none), false, []⟩] (some ⟨[0], [], false⟩))
  (.seq
   (.region 0 [⟨(some 1), none, (.p (.build [(.lit .nilFunc)] [(0, 1, (.c (.fn 70 [])))])), false, []⟩,
     ⟨none, none, (.e (.store 1 (.t 0) (.t 1)) none), false, []⟩] (some ⟨[0], [], false⟩))
   .ret))
theorem Try.run59 {xs : List AV} {r : AV} (hl : xs.length ≤ 2) (h : aw Try.prog Try.c59 (Pv.EndsX (rvs [.c 0 1 true]) r) (entry xs)) : Run Try.prog 59 xs r :=
  run_ofC (fun _ _ => drawOk Try.mixed) Try.func59 rfl rfl (by kernel_rfl) (by kernel_rfl) (by kernel_rfl) hl h
/-! 63 slices.IndexFunc[[]paling/pcap.Record,paling/pcap.Record] : params [40, 45], results [3], free 0, zeros [(.slice none 0 0), .nilFunc] -/
def Try.c63b0 : AC :=
 (.seq
  (.region 0 [⟨(some 9), none, (.p (.bin .lss (.t 8) (.t 7))), false, []⟩] (some ⟨[0, 1, 7, 8, 9], [], false⟩))
  (.seq
   (.cond (.t 9)
    .skip
    (.exit 0))
   (.seq
    (.block 1
     (.seq
      (.region 0 [⟨(some 10), none, (.p (.mv (.t 8))), false, []⟩,
        ⟨(some 5), none, (.p (.mv (.t 10))), false, []⟩] (some ⟨[0, 1, 5, 7, 8], [], false⟩))
      (.seq
       (.region 0 [⟨(some 11), none, (.p (.mv (.t 1))), false, []⟩,
         ⟨(some 12), none, (.p (.mv (.t 0))), false, []⟩,
         ⟨(some 13), none, (.p (.mv (.t 5))), false, []⟩,
         ⟨(some 14), none, (.p (.iaddr 4 (.t 12) (.t 13))), false, []⟩,
         ⟨(some 15), none, (.r (.load 4 true (.t 14))), false, []⟩,
         ⟨(some 16), none, (.callv (.t 11) [(.t 15)]), false, []⟩] (some ⟨[0, 1, 5, 7, 8, 16], [], false⟩))
       (.cond (.t 16)
        (.seq
         (.region 0 [⟨(some 17), none, (.p (.mv (.t 5))), false, []⟩,
           ⟨(some 4), none, (.p (.mv (.t 17))), false, []⟩] (some ⟨[4], [], false⟩))
         .ret)
        .skip))))
    (.region 0 [⟨(some 18), none, (.p (.bin .add (.t 8) (.c (.int .i64 1)))), false, []⟩,
      ⟨(some 8), none, (.p (.mv (.t 18))), false, []⟩] (some ⟨[0, 1, 7, 8], [], false⟩)))))
def Try.c63 : AC :=
 (.seq
  (.region 0 [⟨(some 4), none, (.p (.mv (.c (.int .i64 0)))), false, []⟩] (some ⟨[0, 1], [], false⟩))
  (.seq
   (.seq
    (.region 0 [⟨(some 6), none, (.p (.mv (.t 0))), false, []⟩,
      ⟨(some 7), none, (.p (.len (.t 6))), false, []⟩,
      ⟨(some 8), none, (.p (.mv (.c (.int .i64 0)))), false, []⟩] (some ⟨[0, 1, 7, 8], [], false⟩))
    (.block 0
     (.loop (some ⟨[0, 1, 7, 8], [], true⟩) Try.c63b0)))
   (.seq
    (.region 0 [⟨(some 4), none, (.p (.mv (.c (.int .i64 (-1))))), false, []⟩] (some ⟨[4], [], false⟩))
    .ret)))
theorem Try.run63 {xs : List AV} {r : AV} (hl : xs.length ≤ 19) (h : aw Try.prog Try.c63 (Pv.Ends [4] r) (entry xs)) : Run Try.prog 63 xs r :=
  run_of (fun _ _ => drawOk Try.mixed) Try.func63 rfl rfl rfl (by kernel_rfl) (by kernel_rfl) hl h
/-! 64 paling/pcap.little.1 : params [3, 3], results [3], free 0, zeros [(.int .i64 (0)), (.int .i64 (0))] -/
def Try.c64 : AC :=
 (.seq
  (.region 0 [⟨(some 4), none, (.p (.mv (.c (.int .i64 0)))), false, []⟩] (some ⟨[0], [], false⟩))
  (.seq
   (.region 0 [⟨(some 5), none, (.p (.mv (.t 0))), false, []⟩,
     ⟨(some 6), none, (.p (.bin .mul (.c (.int .i64 8)) (.t 5))), false, []⟩,
     ⟨(some 4), none, (.p (.mv (.t 6))), false, []⟩] (some ⟨[4], [], false⟩))
   .ret))
theorem Try.run64 {xs : List AV} {r : AV} (hl : xs.length ≤ 7) (h : aw Try.prog Try.c64 (Pv.Ends [4] r) (entry xs)) : Run Try.prog 64 xs r :=
  run_of (fun _ _ => drawOk Try.mixed) Try.func64 rfl rfl rfl (by kernel_rfl) (by kernel_rfl) hl h
/-! 65 (paling/pcap.order).head : params [90], results [42], free 0, zeros [(.agg #[.nilFunc])] -/
def Try.c65b0 : AC :=
 (.seq
  (.region 0 [⟨(some 16), none, (.p (.bin .lss (.t 15) (.t 14))), false, []⟩] (some ⟨[1, 3, 13, 14, 15, 16], [], false⟩))
  (.seq
   (.cond (.t 16)
    .skip
    (.exit 0))
   (.seq
    (.block 1
     (.seq
      (.region 0 [⟨(some 17), none, (.p (.iaddr 1 (.t 13) (.t 15))), false, []⟩,
        ⟨(some 18), none, (.r (.load 1 false (.t 17))), false, []⟩,
        ⟨(some 5), none, (.p (.mv (.t 18))), false, []⟩] (some ⟨[1, 3, 5, 13, 14, 15], [], false⟩))
      (.region 0 [⟨(some 19), none, (.r (.load 1 true (.t 1))), false, []⟩,
        ⟨(some 20), none, (.p (.mv (.t 3))), false, []⟩,
        ⟨(some 21), none, (.p (.mv (.t 5))), false, []⟩,
        ⟨(some 22), none, (.call 66 [(.t 19), (.t 20), (.t 21), (.c (.int .i64 4))] false), false, []⟩,
        ⟨(some 3), none, (.p (.mv (.t 22))), false, []⟩] (some ⟨[1, 3, 13, 14, 15], [], false⟩))))
    (.region 0 [⟨(some 23), none, (.p (.bin .add (.t 15) (.c (.int .i64 1)))), false, []⟩,
      ⟨(some 15), none, (.p (.mv (.t 23))), false, []⟩] (some ⟨[1, 3, 13, 14, 15], [], false⟩)))))
def Try.c65 : AC :=
 (.seq
  (.region 0 [⟨(some 1), none, (.e (.box 90 (.t 0)) none), false, []⟩,
    ⟨(some 2), none, (.p (.mv (.c (.sl 0 [] true)))), false, []⟩] (some ⟨[1], [], false⟩))
  (.seq
   (.region 0 [⟨(some 6), none, (.r (.load 1 true (.t 1))), false, []⟩,
     ⟨(some 7), none, (.call 66 [(.t 6), (.c (.sl 0 [] true)), (.c (.int .i64 2712847316)), (.c (.int .i64 4))] false), false, []⟩,
     ⟨(some 3), none, (.p (.mv (.t 7))), false, []⟩] (some ⟨[1, 3], [], false⟩))
   (.seq
    (.region 6 [⟨(some 8), none, (.r (.load 1 true (.t 1))), false, [5]⟩,
      ⟨(some 9), none, (.r (.load 1 true (.t 1))), false, []⟩,
      ⟨(some 10), none, (.p (.mv (.t 3))), false, []⟩,
      ⟨(some 11), none, (.call 66 [(.t 9), (.t 10), (.c (.int .i64 2)), (.c (.int .i64 2))] true), false, [5]⟩,
      ⟨(some 12), none, (.call 66 [(.t 8), (.t 11), (.c (.int .i64 4)), (.c (.int .i64 2))] true), false, [5]⟩,
      ⟨(some 3), none, (.p (.mv (.t 12))), false, []⟩] (some ⟨[1, 3], [], true⟩))
    (.seq
     (.seq
      (.region 0 [⟨(some 13), none, (.e (.mks 3 1 (.int .i64 0) 4 [(0, (.c (.int .i64 0))), (1, (.c (.int .i64 0))), (2, (.c (.int .i64 65535))), (3, (.c (.int .i64 1)))]) none), false, []⟩,
        ⟨(some 14), none, (.p (.len (.t 13))), false, []⟩,
        ⟨(some 15), none, (.p (.mv (.c (.int .i64 0)))), false, []⟩] (some ⟨[1, 3, 13, 14, 15], [], false⟩))
      (.block 0
       (.loop (some ⟨[1, 3, 13, 14, 15], [], true⟩) Try.c65b0)))
     (.seq
      (.region 0 [⟨(some 24), none, (.p (.mv (.t 3))), false, []⟩,
        ⟨(some 2), none, (.p (.mv (.t 24))), false, []⟩] (some ⟨[2], [], false⟩))
      .ret)))))
theorem Try.run65 {xs : List AV} {r : AV} (hl : xs.length ≤ 25) (h : aw Try.prog Try.c65 (Pv.Ends [2] r) (entry xs)) : Run Try.prog 65 xs r :=
  run_of (fun _ _ => drawOk Try.mixed) Try.func65 rfl rfl rfl (by kernel_rfl) (by kernel_rfl) hl h
/-! 66 (paling/pcap.order).put : params [90, 42, 3, 3], results [42], free 0, zeros [(.agg #[.nilFunc]), (.slice none 0 0), (.int .i64 (0)), (.int .i64 (0))] -/
def Try.c66b0 : AC :=
 (.seq
  (.region 0 [⟨(some 12), none, (.p (.bin .lss (.t 11) (.t 10))), false, []⟩] (some ⟨[1, 2, 3, 4, 10, 11, 12], [], false⟩))
  (.seq
   (.cond (.t 12)
    .skip
    (.exit 0))
   (.seq
    (.block 1
     (.seq
      (.region 0 [⟨(some 13), none, (.p (.mv (.t 11))), false, []⟩,
        ⟨(some 9), none, (.p (.mv (.t 13))), false, []⟩] (some ⟨[1, 2, 3, 4, 9, 10, 11], [], false⟩))
      (.region 0 [⟨(some 14), none, (.p (.mv (.t 1))), false, []⟩,
        ⟨(some 15), none, (.p (.mv (.t 2))), false, []⟩,
        ⟨(some 16), none, (.p (.faddr 0 (.t 4))), false, []⟩,
        ⟨(some 17), none, (.r (.load 1 false (.t 16))), false, []⟩,
        ⟨(some 18), none, (.p (.mv (.t 9))), false, []⟩,
        ⟨(some 19), none, (.p (.mv (.t 3))), false, []⟩,
        ⟨(some 20), none, (.callv (.t 17) [(.t 18), (.t 19)]), false, []⟩,
        ⟨(some 21), none, (.p (.bin .shr (.t 15) (.t 20))), false, []⟩,
        ⟨(some 22), none, (.p (.convI .u8 (.t 21))), false, []⟩,
        ⟨(some 23), none, (.e (.mks 5 1 (.int .u8 0) 1 [(0, (.t 22))]) none), false, []⟩,
        ⟨(some 24), none, (.e (.append 5 1 (.t 14) (.t 23)) none), false, []⟩,
        ⟨(some 1), none, (.p (.mv (.t 24))), false, []⟩] (some ⟨[1, 2, 3, 4, 10, 11], [], false⟩))))
    (.region 0 [⟨(some 25), none, (.p (.bin .add (.t 11) (.c (.int .i64 1)))), false, []⟩,
      ⟨(some 11), none, (.p (.mv (.t 25))), false, []⟩] (some ⟨[1, 2, 3, 4, 10, 11], [], false⟩)))))
def Try.c66 : AC :=
 (.seq
  (.region 0 [⟨(some 4), none, (.e (.box 90 (.t 0)) none), false, []⟩,
    ⟨(some 8), none, (.p (.mv (.c (.sl 0 [] true)))), false, []⟩] (some ⟨[1, 2, 3, 4], [], false⟩))
  (.seq
   (.seq
    (.region 0 [⟨(some 10), none, (.p (.mv (.t 3))), false, []⟩,
      ⟨(some 11), none, (.p (.mv (.c (.int .i64 0)))), false, []⟩] (some ⟨[1, 2, 3, 4, 10, 11], [], false⟩))
    (.block 0
     (.loop (some ⟨[1, 2, 3, 4, 10, 11], [(1, (1, 5))], true⟩) Try.c66b0)))
   (.seq
    (.region 0 [⟨(some 26), none, (.p (.mv (.t 1))), false, []⟩,
      ⟨(some 8), none, (.p (.mv (.t 26))), false, []⟩] (some ⟨[8], [], false⟩))
    .ret)))
theorem Try.run66 {xs : List AV} {r : AV} (hl : xs.length ≤ 27) (h : aw Try.prog Try.c66 (Pv.Ends [8] r) (entry xs)) : Run Try.prog 66 xs r :=
  run_of (fun _ _ => drawOk Try.mixed) Try.func66 rfl rfl rfl (by kernel_rfl) (by kernel_rfl) hl h
/-! 67 paling/palingref46.Bytes : params [3, 3, 4], results [42], free 0, zeros [(.int .i64 (0)), (.int .i64 (0)), (.bool false)] -/
def Try.c67b0 : AC :=
 (.seq
  (.seq
   (.region 0 [⟨(some 11), none, (.p (.mv (.t 8))), false, []⟩,
     ⟨(some 12), none, (.p (.mv (.t 1))), false, []⟩,
     ⟨(some 13), none, (.p (.bin .lss (.t 11) (.t 12))), false, []⟩] (some ⟨[0, 1, 2, 7, 8, 13], [], false⟩))
   (.cond (.t 13)
    .skip
    (.exit 0)))
  (.seq
   (.block 1
    (.seq
     (.seq
      (.region 0 [⟨(some 16), none, (.p (.mv (.t 2))), false, []⟩] (some ⟨[0, 1, 2, 7, 8, 16], [], false⟩))
      (.cond (.t 16)
       (.region 0 [⟨(some 17), none, (.p (.mv (.t 7))), false, []⟩,
         ⟨(some 18), none, (.p (.mv (.t 8))), false, []⟩,
         ⟨(some 19), none, (.p (.mv (.t 0))), false, []⟩,
         ⟨(some 20), none, (.p (.bin .rem (.t 19) (.c (.int .i64 256)))), false, []⟩,
         ⟨(some 21), none, (.p (.convI .u8 (.t 20))), false, []⟩,
         ⟨(some 22), none, (.p (.iaddr 1 (.t 17) (.t 18))), false, []⟩,
         ⟨none, none, (.e (.store 1 (.t 22) (.t 21)) none), false, []⟩] (some ⟨[0, 1, 2, 7, 8], [], false⟩))
       (.region 0 [⟨(some 23), none, (.p (.mv (.t 7))), false, []⟩,
         ⟨(some 24), none, (.p (.mv (.t 1))), false, []⟩,
         ⟨(some 25), none, (.p (.bin .sub (.t 24) (.c (.int .i64 1)))), false, []⟩,
         ⟨(some 26), none, (.p (.mv (.t 8))), false, []⟩,
         ⟨(some 27), none, (.p (.bin .sub (.t 25) (.t 26))), false, []⟩,
         ⟨(some 28), none, (.p (.mv (.t 0))), false, []⟩,
         ⟨(some 29), none, (.p (.bin .rem (.t 28) (.c (.int .i64 256)))), false, []⟩,
         ⟨(some 30), none, (.p (.convI .u8 (.t 29))), false, []⟩,
         ⟨(some 31), none, (.p (.iaddr 1 (.t 23) (.t 27))), false, []⟩,
         ⟨none, none, (.e (.store 1 (.t 31) (.t 30)) none), false, []⟩] (some ⟨[0, 1, 2, 7, 8], [], false⟩))))
     (.region 0 [⟨(some 32), none, (.p (.mv (.t 0))), false, []⟩,
       ⟨(some 33), none, (.p (.bin .quo (.t 32) (.c (.int .i64 256)))), false, []⟩,
       ⟨(some 0), none, (.p (.mv (.t 33))), false, []⟩] (some ⟨[0, 1, 2, 7, 8], [], false⟩))))
   (.region 0 [⟨(some 14), none, (.p (.mv (.t 8))), false, []⟩,
     ⟨(some 15), none, (.p (.bin .add (.t 14) (.c (.int .i64 1)))), false, []⟩,
     ⟨(some 8), none, (.p (.mv (.t 15))), false, []⟩] (some ⟨[0, 1, 2, 7, 8], [], false⟩))))
def Try.c67 : AC :=
 (.seq
  (.region 0 [⟨(some 6), none, (.p (.mv (.c (.sl 0 [] true)))), false, []⟩] (some ⟨[0, 1, 2], [], false⟩))
  (.seq
   (.region 0 [⟨(some 9), none, (.p (.mv (.t 1))), false, []⟩,
     ⟨(some 10), none, (.e (.make 5 1 (.int .u8 0) (.t 9) (.t 9)) none), false, []⟩,
     ⟨(some 7), none, (.p (.mv (.t 10))), false, []⟩] (some ⟨[0, 1, 2, 7], [], false⟩))
   (.seq
    (.seq
     (.region 0 [⟨(some 8), none, (.p (.mv (.c (.int .i64 0)))), false, []⟩] (some ⟨[0, 1, 2, 7, 8], [], false⟩))
     (.block 0
      (.loop (some ⟨[0, 1, 2, 7, 8], [], true⟩) Try.c67b0)))
    (.seq
     (.region 0 [⟨(some 34), none, (.p (.mv (.t 7))), false, []⟩,
       ⟨(some 6), none, (.p (.mv (.t 34))), false, []⟩] (some ⟨[6], [], false⟩))
     .ret))))
theorem Try.run67 {xs : List AV} {r : AV} (hl : xs.length ≤ 35) (h : aw Try.prog Try.c67 (Pv.Ends [6] r) (entry xs)) : Run Try.prog 67 xs r :=
  run_of (fun _ _ => drawOk Try.mixed) Try.func67 rfl rfl rfl (by kernel_rfl) (by kernel_rfl) hl h
/-! 68 paling/pcap.of : params [42], results [90, 4], free 0, zeros [(.slice none 0 0)] -/
def Try.c68b0 : AC :=
 (.seq
  (.region 0 [⟨(some 11), none, (.p (.bin .lss (.t 10) (.t 9))), false, []⟩] (some ⟨[0, 2, 8, 9, 10, 11], [], false⟩))
  (.seq
   (.cond (.t 11)
    .skip
    (.exit 0))
   (.seq
    (.block 1
     (.seq
      (.region 0 [⟨(some 12), none, (.p (.iaddr 1 (.t 8) (.t 10))), false, []⟩,
        ⟨(some 13), none, (.r (.load 1 true (.t 12))), false, []⟩,
        ⟨(some 5), none, (.e (.alloc 90 (.agg [(.lit .nilFunc)])) none), false, []⟩,
        ⟨none, none, (.e (.store 1 (.t 5) (.t 13)) none), false, []⟩] (some ⟨[0, 2, 5, 8, 9, 10], [], false⟩))
      (.seq
       (.region 5 [⟨(some 14), none, (.r (.load 1 true (.t 5))), false, []⟩,
         ⟨(some 15), none, (.p (.mv (.t 0))), false, []⟩,
         ⟨(some 16), none, (.p (.slicev 1 (.t 15) none (some (.c (.int .i64 4))) none)), false, []⟩,
         ⟨(some 17), none, (.call 76 [(.t 14), (.t 16)] true), false, []⟩,
         ⟨(some 18), none, (.p (.bin .eql (.t 17) (.c (.int .i64 2712847316)))), false, []⟩] (some ⟨[0, 2, 5, 8, 9, 10, 18], [], true⟩))
       (.cond (.t 18)
        (.seq
         (.region 0 [⟨(some 19), none, (.r (.load 1 true (.t 5))), false, []⟩,
           ⟨none, none, (.e (.store 1 (.t 2) (.t 19)) none), false, []⟩,
           ⟨(some 3), none, (.p (.mv (.c (.bool true)))), false, []⟩] (some ⟨[2, 3], [], false⟩))
         .ret)
        .skip))))
    (.region 0 [⟨(some 20), none, (.p (.bin .add (.t 10) (.c (.int .i64 1)))), false, []⟩,
      ⟨(some 10), none, (.p (.mv (.t 20))), false, []⟩] (some ⟨[0, 2, 8, 9, 10], [], false⟩)))))
def Try.c68 : AC :=
 (.seq
  (.region 0 [⟨(some 2), none, (.e (.alloc 90 (.agg [(.lit .nilFunc)])) none), false, []⟩,
    ⟨(some 3), none, (.p (.mv (.c (.bool false)))), false, []⟩] (some ⟨[0, 2], [], false⟩))
  (.seq
   (.seq
    (.region 0 [⟨(some 6), none, (.call 53 [] false), false, []⟩,
      ⟨(some 7), none, (.call 59 [] false), false, []⟩,
      ⟨(some 8), none, (.e (.mks 90 1 (.agg [(.lit .nilFunc)]) 2 [(0, (.t 6)), (1, (.t 7))]) none), false, []⟩,
      ⟨(some 9), none, (.p (.len (.t 8))), false, []⟩,
      ⟨(some 10), none, (.p (.mv (.c (.int .i64 0)))), false, []⟩] (some ⟨[0, 2, 8, 9, 10], [], false⟩))
    (.block 0
     (.loop (some ⟨[0, 2, 8, 9, 10], [], true⟩) Try.c68b0)))
   (.seq
    (.region 0 [⟨(some 21), none, (.p (.build [(.lit .nilFunc)] [])), false, []⟩,
      ⟨none, none, (.e (.store 1 (.t 2) (.t 21)) none), false, []⟩,
      ⟨(some 3), none, (.p (.mv (.c (.bool false)))), false, []⟩] (some ⟨[2, 3], [], false⟩))
    .ret)))
theorem Try.run68 {xs : List AV} {r : AV} (hl : xs.length ≤ 22) (h : aw Try.prog Try.c68 (Pv.EndsX (rvs [.c 2 1 true, .t 3]) r) (entry xs)) : Run Try.prog 68 xs r :=
  run_ofC (fun _ _ => drawOk Try.mixed) Try.func68 rfl rfl (by kernel_rfl) (by kernel_rfl) (by kernel_rfl) hl h
/-! 69 (paling/pcap.order).record : params [90, 42], results [44, 3, 26], free 0, zeros [(.agg #[.nilFunc]), (.slice none 0 0)] -/
def Try.c69b0 : AC :=
 (.seq
  (.region 0 [⟨(some 16), none, (.p (.bin .lss (.t 15) (.c (.int .i64 4)))), false, []⟩] (some ⟨[1, 2, 4, 7, 15, 16], [], false⟩))
  (.seq
   (.cond (.t 16)
    .skip
    (.exit 0))
   (.seq
    (.block 1
     (.seq
      (.region 0 [⟨(some 17), none, (.p (.mv (.t 15))), false, []⟩,
        ⟨(some 8), none, (.p (.mv (.t 17))), false, []⟩] (some ⟨[1, 2, 4, 7, 8, 15], [], false⟩))
      (.region 12 [⟨(some 18), none, (.p (.mv (.t 8))), false, []⟩,
        ⟨(some 19), none, (.r (.load 1 true (.t 2))), false, []⟩,
        ⟨(some 20), none, (.p (.mv (.t 1))), false, []⟩,
        ⟨(some 21), none, (.p (.mv (.t 8))), false, []⟩,
        ⟨(some 22), none, (.p (.bin .mul (.c (.int .i64 4)) (.t 21))), false, []⟩,
        ⟨(some 23), none, (.p (.mv (.t 8))), false, []⟩,
        ⟨(some 24), none, (.p (.bin .mul (.c (.int .i64 4)) (.t 23))), false, []⟩,
        ⟨(some 25), none, (.p (.bin .add (.t 24) (.c (.int .i64 4)))), false, []⟩,
        ⟨(some 26), none, (.p (.slicev 1 (.t 20) (some (.t 22)) (some (.t 25)) none)), false, []⟩,
        ⟨(some 27), none, (.call 76 [(.t 19), (.t 26)] true), false, []⟩,
        ⟨(some 28), none, (.p (.aaddr 4 1 (.t 7) (.t 18))), false, []⟩,
        ⟨none, none, (.e (.store 1 (.t 28) (.t 27)) (some 11)), false, []⟩] (some ⟨[1, 2, 4, 7, 15], [], true⟩))))
    (.region 0 [⟨(some 29), none, (.p (.bin .add (.t 15) (.c (.int .i64 1)))), false, []⟩,
      ⟨(some 15), none, (.p (.mv (.t 29))), false, []⟩] (some ⟨[1, 2, 4, 7, 15], [], false⟩)))))
def Try.c69 : AC :=
 (.seq
  (.region 0 [⟨(some 2), none, (.e (.box 90 (.t 0)) none), false, []⟩,
    ⟨(some 4), none, (.e (.alloc 44 (.agg [(.int .i64 0), (.int .i64 0), (.int .i64 0), (.sl 0 [] true)])) none), false, []⟩,
    ⟨(some 5), none, (.p (.mv (.c (.int .i64 0)))), false, []⟩,
    ⟨(some 6), none, (.p (.mv (.c (.int .i64 0)))), false, []⟩] (some ⟨[1, 2, 4], [], false⟩))
  (.seq
   (.seq
    (.region 0 [⟨(some 11), none, (.p (.mv (.t 1))), false, []⟩,
      ⟨(some 12), none, (.p (.len (.t 11))), false, []⟩,
      ⟨(some 13), none, (.p (.bin .lss (.t 12) (.c (.int .i64 16)))), false, []⟩] (some ⟨[1, 2, 4, 13], [], false⟩))
    (.cond (.t 13)
     (.seq
      (.region 0 [⟨(some 14), none, (.p (.build [(.int .i64 0), (.int .i64 0), (.int .i64 0), (.sl 0 [] true)] [])), false, []⟩,
        ⟨none, none, (.e (.store 4 (.t 4) (.t 14)) none), false, []⟩,
        ⟨(some 5), none, (.p (.mv (.c (.int .i64 0)))), false, []⟩,
        ⟨(some 6), none, (.p (.mv (.c (.int .i64 10)))), false, []⟩] (some ⟨[4, 5, 6], [], false⟩))
      .ret)
     .skip))
   (.seq
    (.region 0 [⟨(some 7), none, (.e (.alloc 127 (.agg [(.int .i64 0), (.int .i64 0), (.int .i64 0), (.int .i64 0)])) none), false, []⟩] (some ⟨[1, 2, 4, 7], [], false⟩))
    (.seq
     (.seq
      (.region 0 [⟨(some 15), none, (.p (.mv (.c (.int .i64 0)))), false, []⟩] (some ⟨[1, 2, 4, 7, 15], [], false⟩))
      (.block 0
       (.loop (some ⟨[1, 2, 4, 7, 15], [], true⟩) Try.c69b0)))
     (.seq
      (.region 0 [⟨(some 30), none, (.p (.aaddr 4 1 (.t 7) (.c (.int .i64 0)))), false, []⟩,
        ⟨(some 31), none, (.r (.load 1 false (.t 30))), false, []⟩,
        ⟨(some 32), none, (.p (.aaddr 4 1 (.t 7) (.c (.int .i64 1)))), false, []⟩,
        ⟨(some 33), none, (.r (.load 1 false (.t 32))), false, []⟩,
        ⟨(some 34), none, (.p (.aaddr 4 1 (.t 7) (.c (.int .i64 3)))), false, []⟩,
        ⟨(some 35), none, (.r (.load 1 false (.t 34))), false, []⟩,
        ⟨(some 36), none, (.p (.build [(.int .i64 0), (.int .i64 0), (.int .i64 0), (.sl 0 [] true)] [(0, 1, (.t 31)), (1, 1, (.t 33)), (2, 1, (.t 35))])), false, []⟩,
        ⟨(some 9), none, (.e (.alloc 44 (.agg [(.int .i64 0), (.int .i64 0), (.int .i64 0), (.sl 0 [] true)])) none), false, []⟩,
        ⟨none, none, (.e (.store 4 (.t 9) (.t 36)) none), false, []⟩] (some ⟨[1, 4, 7, 9], [], false⟩))
      (.seq
       (.block 2
        (.seq
         (.region 0 [⟨(some 38), none, (.r (.load 4 true (.t 9))), false, []⟩,
           ⟨(some 39), none, (.call 25 [(.t 38)] false), false, []⟩,
           ⟨(some 40), none, (.p (.un .not (.t 39))), false, []⟩,
           ⟨(some 41), none, (.p (.mv (.t 40))), false, []⟩,
           ⟨(some 42), (some (41, false)), (.p (.aaddr 4 1 (.t 7) (.c (.int .i64 2)))), false, []⟩,
           ⟨(some 43), (some (41, false)), (.r (.load 1 false (.t 42))), false, []⟩,
           ⟨(some 44), (some (41, false)), (.p (.bin .gtr (.t 43) (.c (.int .i64 65535)))), false, []⟩,
           ⟨(some 45), none, (.p (.pick (.t 41) (.c (.bool true)) (.t 44))), false, []⟩,
           ⟨(some 46), none, (.p (.mv (.t 45))), false, []⟩,
           ⟨(some 47), (some (46, false)), (.p (.aaddr 4 1 (.t 7) (.c (.int .i64 2)))), false, []⟩,
           ⟨(some 48), (some (46, false)), (.r (.load 1 false (.t 47))), false, []⟩,
           ⟨(some 49), (some (46, false)), (.p (.faddr 2 (.t 9))), false, []⟩,
           ⟨(some 50), (some (46, false)), (.r (.load 1 false (.t 49))), false, []⟩,
           ⟨(some 51), (some (46, false)), (.p (.bin .gtr (.t 48) (.t 50))), false, []⟩,
           ⟨(some 52), none, (.p (.pick (.t 46) (.c (.bool true)) (.t 51))), false, []⟩,
           ⟨(some 37), none, (.p (.mv (.t 52))), false, []⟩] (some ⟨[1, 4, 7, 9, 37], [], false⟩))
         (.cond (.t 37)
          (.seq
           (.region 0 [⟨(some 53), none, (.p (.build [(.int .i64 0), (.int .i64 0), (.int .i64 0), (.sl 0 [] true)] [])), false, []⟩,
             ⟨none, none, (.e (.store 4 (.t 4) (.t 53)) none), false, []⟩,
             ⟨(some 5), none, (.p (.mv (.c (.int .i64 0)))), false, []⟩,
             ⟨(some 6), none, (.p (.mv (.c (.int .i64 11)))), false, []⟩] (some ⟨[4, 5, 6], [], false⟩))
           .ret)
          (.seq
           (.region 0 [⟨(some 55), none, (.p (.aaddr 4 1 (.t 7) (.c (.int .i64 2)))), false, []⟩,
             ⟨(some 56), none, (.r (.load 1 false (.t 55))), false, []⟩,
             ⟨(some 57), none, (.p (.mv (.t 1))), false, []⟩,
             ⟨(some 58), none, (.p (.len (.t 57))), false, []⟩,
             ⟨(some 59), none, (.p (.bin .sub (.t 58) (.c (.int .i64 16)))), false, []⟩,
             ⟨(some 60), none, (.p (.bin .gtr (.t 56) (.t 59))), false, []⟩,
             ⟨(some 54), none, (.p (.mv (.t 60))), false, []⟩] (some ⟨[1, 4, 7, 9, 54], [], false⟩))
           (.cond (.t 54)
            (.seq
             (.region 0 [⟨(some 61), none, (.p (.build [(.int .i64 0), (.int .i64 0), (.int .i64 0), (.sl 0 [] true)] [])), false, []⟩,
               ⟨none, none, (.e (.store 4 (.t 4) (.t 61)) none), false, []⟩,
               ⟨(some 5), none, (.p (.mv (.c (.int .i64 0)))), false, []⟩,
               ⟨(some 6), none, (.p (.mv (.c (.int .i64 10)))), false, []⟩] (some ⟨[4, 5, 6], [], false⟩))
             .ret)
            .skip)))))
       (.seq
        (.region 0 [⟨(some 62), none, (.p (.aaddr 4 1 (.t 7) (.c (.int .i64 2)))), false, []⟩,
          ⟨(some 63), none, (.r (.load 1 false (.t 62))), false, []⟩,
          ⟨(some 64), none, (.p (.bin .add (.c (.int .i64 16)) (.t 63))), false, []⟩,
          ⟨(some 10), none, (.p (.mv (.t 64))), false, []⟩] (some ⟨[1, 4, 9, 10], [], false⟩))
        (.seq
         (.region 0 [⟨(some 65), none, (.p (.mv (.t 1))), false, []⟩,
           ⟨(some 66), none, (.p (.mv (.t 10))), false, []⟩,
           ⟨(some 67), none, (.r (.cut 1 (.t 65) (.c (.int .i64 16)) (.t 66))), false, []⟩,
           ⟨(some 68), none, (.call 56 [(.t 67)] false), false, []⟩,
           ⟨(some 69), none, (.p (.faddr 3 (.t 9))), false, []⟩,
           ⟨none, none, (.e (.store 1 (.t 69) (.t 68)) none), false, []⟩] (some ⟨[4, 9, 10], [], false⟩))
         (.seq
          (.region 0 [⟨(some 70), none, (.r (.load 4 true (.t 9))), false, []⟩,
            ⟨(some 71), none, (.p (.mv (.t 10))), false, []⟩,
            ⟨none, none, (.e (.store 4 (.t 4) (.t 70)) none), false, []⟩,
            ⟨(some 5), none, (.p (.mv (.t 71))), false, []⟩,
            ⟨(some 6), none, (.p (.mv (.c (.int .i64 0)))), false, []⟩] (some ⟨[4, 5, 6], [], false⟩))
          .ret)))))))))
theorem Try.run69 {xs : List AV} {r : AV} (hl : xs.length ≤ 72) (h : aw Try.prog Try.c69 (Pv.EndsX (rvs [.c 4 4 true, .t 5, .t 6]) r) (entry xs)) : Run Try.prog 69 xs r :=
  run_ofC (fun _ _ => drawOk Try.mixed) Try.func69 rfl rfl (by kernel_rfl) (by kernel_rfl) (by kernel_rfl) hl h
/-! 70 paling/pcap.big.1 : params [3, 3], results [3], free 0, zeros [(.int .i64 (0)), (.int .i64 (0))] -/
def Try.c70 : AC :=
 (.seq
  (.region 0 [⟨(some 4), none, (.p (.mv (.c (.int .i64 0)))), false, []⟩] (some ⟨[0, 1], [], false⟩))
  (.seq
   (.region 0 [⟨(some 5), none, (.p (.mv (.t 1))), false, []⟩,
     ⟨(some 6), none, (.p (.bin .sub (.t 5) (.c (.int .i64 1)))), false, []⟩,
     ⟨(some 7), none, (.p (.mv (.t 0))), false, []⟩,
     ⟨(some 8), none, (.p (.bin .sub (.t 6) (.t 7))), false, []⟩,
     ⟨(some 9), none, (.p (.bin .mul (.c (.int .i64 8)) (.t 8))), false, []⟩,
     ⟨(some 4), none, (.p (.mv (.t 9))), false, []⟩] (some ⟨[4], [], false⟩))
   .ret))
theorem Try.run70 {xs : List AV} {r : AV} (hl : xs.length ≤ 10) (h : aw Try.prog Try.c70 (Pv.Ends [4] r) (entry xs)) : Run Try.prog 70 xs r :=
  run_of (fun _ _ => drawOk Try.mixed) Try.func70 rfl rfl rfl (by kernel_rfl) (by kernel_rfl) hl h
/-! 76 (paling/pcap.order).take : params [90, 42], results [3], free 0, zeros [(.agg #[.nilFunc]), (.slice none 0 0)] -/
def Try.c76b0 : AC :=
 (.seq
  (.region 0 [⟨(some 11), none, (.p (.bin .lss (.t 10) (.t 9))), false, []⟩] (some ⟨[1, 2, 5, 8, 9, 10, 11], [], false⟩))
  (.seq
   (.cond (.t 11)
    .skip
    (.exit 0))
   (.seq
    (.block 1
     (.seq
      (.region 0 [⟨(some 12), none, (.p (.mv (.t 10))), false, []⟩,
        ⟨(some 13), none, (.p (.iaddr 1 (.t 8) (.t 10))), false, []⟩,
        ⟨(some 14), none, (.r (.load 1 false (.t 13))), false, []⟩,
        ⟨(some 6), none, (.p (.mv (.t 12))), false, []⟩,
        ⟨(some 7), none, (.p (.mv (.t 14))), false, []⟩] (some ⟨[1, 2, 5, 6, 7, 8, 9, 10], [], false⟩))
      (.region 0 [⟨(some 15), none, (.p (.mv (.t 5))), false, []⟩,
        ⟨(some 16), none, (.p (.mv (.t 7))), false, []⟩,
        ⟨(some 17), none, (.p (.convI .i64 (.t 16))), false, []⟩,
        ⟨(some 18), none, (.p (.faddr 0 (.t 2))), false, []⟩,
        ⟨(some 19), none, (.r (.load 1 false (.t 18))), false, []⟩,
        ⟨(some 20), none, (.p (.mv (.t 6))), false, []⟩,
        ⟨(some 21), none, (.p (.mv (.t 1))), false, []⟩,
        ⟨(some 22), none, (.p (.len (.t 21))), false, []⟩,
        ⟨(some 23), none, (.callv (.t 19) [(.t 20), (.t 22)]), false, []⟩,
        ⟨(some 24), none, (.p (.bin .shl (.t 17) (.t 23))), false, []⟩,
        ⟨(some 25), none, (.p (.bin .or (.t 15) (.t 24))), false, []⟩,
        ⟨(some 5), none, (.p (.mv (.t 25))), false, []⟩] (some ⟨[1, 2, 5, 8, 9, 10], [], false⟩))))
    (.region 0 [⟨(some 26), none, (.p (.bin .add (.t 10) (.c (.int .i64 1)))), false, []⟩,
      ⟨(some 10), none, (.p (.mv (.t 26))), false, []⟩] (some ⟨[1, 2, 5, 8, 9, 10], [], false⟩)))))
def Try.c76 : AC :=
 (.seq
  (.region 0 [⟨(some 2), none, (.e (.box 90 (.t 0)) none), false, []⟩,
    ⟨(some 4), none, (.p (.mv (.c (.int .i64 0)))), false, []⟩] (some ⟨[1, 2], [], false⟩))
  (.seq
   (.region 0 [⟨(some 5), none, (.p (.mv (.c (.int .i64 0)))), false, []⟩] (some ⟨[1, 2, 5], [], false⟩))
   (.seq
    (.seq
     (.region 0 [⟨(some 8), none, (.p (.mv (.t 1))), false, []⟩,
       ⟨(some 9), none, (.p (.len (.t 8))), false, []⟩,
       ⟨(some 10), none, (.p (.mv (.c (.int .i64 0)))), false, []⟩] (some ⟨[1, 2, 5, 8, 9, 10], [], false⟩))
     (.block 0
      (.loop (some ⟨[1, 2, 5, 8, 9, 10], [], true⟩) Try.c76b0)))
    (.seq
     (.region 0 [⟨(some 27), none, (.p (.mv (.t 5))), false, []⟩,
       ⟨(some 4), none, (.p (.mv (.t 27))), false, []⟩] (some ⟨[4], [], false⟩))
     .ret))))
theorem Try.run76 {xs : List AV} {r : AV} (hl : xs.length ≤ 28) (h : aw Try.prog Try.c76 (Pv.Ends [4] r) (entry xs)) : Run Try.prog 76 xs r :=
  run_of (fun _ _ => drawOk Try.mixed) Try.func76 rfl rfl rfl (by kernel_rfl) (by kernel_rfl) hl h
end Go.Proofs
