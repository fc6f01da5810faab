/-
  The compiled code of this seat's functions, with what is live kept, and the rules that run it. (Printed by a program of ours.)
-/
import Derived.Test.YtodebpklpfhgdaaPvZG
import Derived.Test.YtodebpklpfhgdaaProg
namespace Go.Proofs
open Go.Pv
theorem Try.mixed : Try.prog.follows .mixedOrders = true := by kernel_rfl
/-! 2 gosem.cut.init : params [], results [], free 0, zeros [] -/
def Try.c2 : AC :=
 (.region 0 [⟨(some 0), none, (.call 1 [] false), false, []⟩] (some ⟨[], [], false⟩))
theorem Try.run2 {xs : List AV} {r : AV} (hl : xs.length ≤ 1) (h : aw Try.prog Try.c2 (Pv.Ends [] r) (entry xs)) : Run Try.prog 2 xs r :=
  run_of (fun _ _ => drawOk Try.mixed) Try.func2 rfl rfl rfl (by kernel_rfl) (by kernel_rfl) hl h
/-! 3 paling/palinglaw01.MacTexts : params [9, 22], results [4], free 0, zeros [(.string ⟨#[]⟩), (.int .u64 (0))] -/
def Try.c3 : AC :=
 (.seq
  (.region 0 [⟨(some 4), none, (.p (.mv (.c (.bool false)))), false, []⟩] (some ⟨[0, 1], [], false⟩))
  (.seq
   (.region 0 [⟨(some 10), none, (.p (.mv (.t 0))), false, []⟩,
     ⟨(some 11), none, (.call 12 [(.t 10)] false), false, []⟩,
     ⟨(some 9), none, (.p (.mv (.t 11))), false, []⟩,
     ⟨(some 12), none, (.p (.ext (.t 9) 0)), false, []⟩,
     ⟨(some 13), none, (.p (.ext (.t 9) 1)), false, []⟩,
     ⟨(some 5), none, (.p (.mv (.t 12))), false, []⟩,
     ⟨(some 6), none, (.p (.mv (.t 13))), false, []⟩] (some ⟨[0, 1, 5, 6], [], false⟩))
   (.seq
    (.region 0 [⟨(some 15), none, (.p (.mv (.t 0))), false, []⟩,
      ⟨(some 16), none, (.call 13 [(.t 15)] false), false, []⟩,
      ⟨(some 14), none, (.p (.mv (.t 16))), false, []⟩,
      ⟨(some 17), none, (.p (.ext (.t 14) 0)), false, []⟩,
      ⟨(some 18), none, (.p (.ext (.t 14) 1)), false, []⟩,
      ⟨(some 7), none, (.p (.mv (.t 17))), false, []⟩,
      ⟨(some 8), none, (.p (.mv (.t 18))), false, []⟩] (some ⟨[1, 5, 6, 7, 8], [], false⟩))
    (.seq
     (.region 0 [⟨(some 19), none, (.p (.mv (.t 5))), false, []⟩,
       ⟨(some 20), none, (.p (.mv (.t 7))), false, []⟩,
       ⟨(some 21), none, (.p (.bin .eql (.t 19) (.t 20))), false, []⟩,
       ⟨(some 22), none, (.p (.mv (.t 21))), false, []⟩,
       ⟨(some 23), (some (22, true)), (.p (.mv (.t 6))), false, []⟩,
       ⟨(some 24), (some (22, true)), (.p (.mv (.t 8))), false, []⟩,
       ⟨(some 25), (some (22, true)), (.p (.binB .eql (.t 23) (.t 24))), false, []⟩,
       ⟨(some 26), none, (.p (.pick (.t 22) (.t 25) (.c (.bool false)))), false, []⟩,
       ⟨(some 27), none, (.p (.mv (.t 26))), false, []⟩,
       ⟨(some 28), (some (27, true)), (.p (.mv (.t 1))), false, []⟩,
       ⟨(some 29), (some (27, true)), (.call 14 [(.t 28)] false), false, []⟩,
       ⟨(some 30), (some (27, true)), (.p (.mv (.t 1))), false, []⟩,
       ⟨(some 31), (some (27, true)), (.call 15 [(.t 30)] false), false, []⟩,
       ⟨(some 32), (some (27, true)), (.p (.bin .eql (.t 29) (.t 31))), false, []⟩,
       ⟨(some 33), none, (.p (.pick (.t 27) (.t 32) (.c (.bool false)))), false, []⟩,
       ⟨(some 34), none, (.p (.mv (.t 33))), false, []⟩,
       ⟨(some 35), (some (34, true)), (.call 16 [] false), false, []⟩,
       ⟨(some 36), none, (.p (.pick (.t 34) (.t 35) (.c (.bool false)))), false, []⟩,
       ⟨(some 4), none, (.p (.mv (.t 36))), false, []⟩] (some ⟨[4], [], false⟩))
     .ret))))
theorem Try.run3 {xs : List AV} {r : AV} (hl : xs.length ≤ 37) (h : aw Try.prog Try.c3 (Pv.Ends [4] r) (entry xs)) : Run Try.prog 3 xs r :=
  run_of (fun _ _ => drawOk Try.mixed) Try.func3 rfl rfl rfl (by kernel_rfl) (by kernel_rfl) hl h
/-! 4 paling/palinglaw04.EtherTakes : params [28], results [4], free 0, zeros [(.slice none 0 0)] -/
def Try.c4 : AC :=
 (.seq
  (.region 0 [⟨(some 2), none, (.p (.mv (.c (.bool false)))), false, []⟩] (some ⟨[0], [], false⟩))
  (.seq
   (.seq
    (.region 0 [⟨(some 7), none, (.p (.mv (.t 0))), false, []⟩,
      ⟨(some 8), none, (.p (.len (.t 7))), false, []⟩,
      ⟨(some 9), none, (.p (.bin .gtr (.t 8) (.c (.int .i64 4000)))), false, []⟩] (some ⟨[0, 9], [], false⟩))
    (.cond (.t 9)
     (.seq
      (.region 0 [⟨(some 10), none, (.call 17 [] false), false, []⟩,
        ⟨(some 2), none, (.p (.mv (.t 10))), false, []⟩] (some ⟨[2], [], false⟩))
      .ret)
     .skip))
   (.seq
    (.region 0 [⟨(some 12), none, (.p (.mv (.t 0))), false, []⟩,
      ⟨(some 13), none, (.call 18 [(.t 12)] false), false, []⟩,
      ⟨(some 11), none, (.p (.mv (.t 13))), false, []⟩,
      ⟨(some 14), none, (.p (.ext (.t 11) 0)), false, []⟩,
      ⟨(some 15), none, (.p (.ext (.t 11) 1)), false, []⟩,
      ⟨(some 3), none, (.e (.alloc 30 (.agg [(.int .u64 0), (.int .u64 0), (.int .i64 0), (.sl 0 [] true)])) none), false, []⟩,
      ⟨none, none, (.e (.store 4 (.t 3) (.t 14)) none), false, []⟩,
      ⟨(some 4), none, (.p (.mv (.t 15))), false, []⟩] (some ⟨[0, 3, 4], [], false⟩))
    (.seq
     (.region 0 [⟨(some 17), none, (.p (.mv (.t 0))), false, []⟩,
       ⟨(some 18), none, (.call 19 [(.t 17)] false), false, []⟩,
       ⟨(some 16), none, (.p (.mv (.t 18))), false, []⟩,
       ⟨(some 19), none, (.p (.ext (.t 16) 0)), false, []⟩,
       ⟨(some 20), none, (.p (.ext (.t 16) 1)), false, []⟩,
       ⟨(some 5), none, (.e (.alloc 30 (.agg [(.int .u64 0), (.int .u64 0), (.int .i64 0), (.sl 0 [] true)])) none), false, []⟩,
       ⟨none, none, (.e (.store 4 (.t 5) (.t 19)) none), false, []⟩,
       ⟨(some 6), none, (.p (.mv (.t 20))), false, []⟩] (some ⟨[3, 4, 5, 6], [], false⟩))
     (.seq
      (.region 0 [⟨(some 21), none, (.r (.load 4 true (.t 3))), false, []⟩,
        ⟨(some 22), none, (.r (.load 4 true (.t 5))), false, []⟩,
        ⟨(some 23), none, (.call 20 [(.t 21), (.t 22)] false), false, []⟩,
        ⟨(some 24), none, (.p (.mv (.t 23))), false, []⟩,
        ⟨(some 25), (some (24, true)), (.p (.mv (.t 4))), false, []⟩,
        ⟨(some 26), (some (24, true)), (.p (.mv (.t 6))), false, []⟩,
        ⟨(some 27), (some (24, true)), (.p (.bin .eql (.t 25) (.t 26))), false, []⟩,
        ⟨(some 28), none, (.p (.pick (.t 24) (.t 27) (.c (.bool false)))), false, []⟩,
        ⟨(some 29), none, (.p (.mv (.t 28))), false, []⟩,
        ⟨(some 30), (some (29, true)), (.call 17 [] false), false, []⟩,
        ⟨(some 31), none, (.p (.pick (.t 29) (.t 30) (.c (.bool false)))), false, []⟩,
        ⟨(some 2), none, (.p (.mv (.t 31))), false, []⟩] (some ⟨[2], [], false⟩))
      .ret)))))
theorem Try.run4 {xs : List AV} {r : AV} (hl : xs.length ≤ 32) (h : aw Try.prog Try.c4 (Pv.Ends [2] r) (entry xs)) : Run Try.prog 4 xs r :=
  run_of (fun _ _ => drawOk Try.mixed) Try.func4 rfl rfl rfl (by kernel_rfl) (by kernel_rfl) hl h
/-! 5 paling/palinglaw04.EtherBack : params [30, 28], results [4], free 0, zeros [(.agg #[(.int .u64 (0)), (.int .u64 (0)), (.int .i64 (0)), (.slice none 0 0)]), (.slice none 0 0)] -/
def Try.c5 : AC :=
 (.seq
  (.region 0 [⟨(some 2), none, (.e (.box 30 (.t 0)) none), false, []⟩,
    ⟨(some 4), none, (.p (.mv (.c (.bool false)))), false, []⟩] (some ⟨[1, 2], [], false⟩))
  (.seq
   (.seq
    (.region 0 [⟨(some 13), none, (.call 17 [] false), false, []⟩,
      ⟨(some 14), none, (.p (.un .not (.t 13))), false, []⟩] (some ⟨[1, 2, 14], [], false⟩))
    (.cond (.t 14)
     (.seq
      (.region 0 [⟨(some 4), none, (.p (.mv (.c (.bool false)))), false, []⟩] (some ⟨[4], [], false⟩))
      .ret)
     .skip))
   (.seq
    (.seq
     (.region 0 [⟨(some 15), none, (.p (.faddr 3 (.t 2))), false, []⟩,
       ⟨(some 16), none, (.r (.load 1 false (.t 15))), false, []⟩,
       ⟨(some 17), none, (.p (.len (.t 16))), false, []⟩,
       ⟨(some 18), none, (.p (.bin .gtr (.t 17) (.c (.int .i64 4000)))), false, []⟩,
       ⟨(some 19), none, (.p (.mv (.t 18))), false, []⟩,
       ⟨(some 20), (some (19, false)), (.p (.mv (.t 1))), false, []⟩,
       ⟨(some 21), (some (19, false)), (.p (.len (.t 20))), false, []⟩,
       ⟨(some 22), (some (19, false)), (.p (.bin .gtr (.t 21) (.c (.int .i64 4000)))), false, []⟩,
       ⟨(some 23), none, (.p (.pick (.t 19) (.c (.bool true)) (.t 22))), false, []⟩] (some ⟨[1, 2, 23], [], false⟩))
     (.cond (.t 23)
      (.seq
       (.region 0 [⟨(some 4), none, (.p (.mv (.c (.bool true)))), false, []⟩] (some ⟨[4], [], false⟩))
       .ret)
      .skip))
    (.seq
     (.seq
      (.region 0 [⟨(some 25), none, (.r (.load 4 true (.t 2))), false, []⟩,
        ⟨(some 26), none, (.call 21 [(.t 25)] false), false, []⟩,
        ⟨(some 24), none, (.p (.mv (.t 26))), false, []⟩,
        ⟨(some 27), none, (.p (.ext (.t 24) 0)), false, []⟩,
        ⟨(some 28), none, (.p (.ext (.t 24) 1)), false, []⟩,
        ⟨(some 5), none, (.p (.mv (.t 27))), false, []⟩,
        ⟨(some 6), none, (.p (.mv (.t 28))), false, []⟩] (some ⟨[1, 2, 5, 6], [], false⟩))
      (.seq
       (.region 0 [⟨(some 29), none, (.p (.mv (.t 6))), false, []⟩,
         ⟨(some 30), none, (.p (.bin .eql (.t 29) (.c (.int .i64 0)))), false, []⟩] (some ⟨[1, 2, 5, 30], [], false⟩))
       (.cond (.t 30)
        (.seq
         (.region 0 [⟨(some 32), none, (.p (.mv (.t 5))), false, []⟩,
           ⟨(some 33), none, (.call 18 [(.t 32)] false), false, []⟩,
           ⟨(some 31), none, (.p (.mv (.t 33))), false, []⟩,
           ⟨(some 34), none, (.p (.ext (.t 31) 0)), false, []⟩,
           ⟨(some 35), none, (.p (.ext (.t 31) 1)), false, []⟩,
           ⟨(some 7), none, (.e (.alloc 30 (.agg [(.int .u64 0), (.int .u64 0), (.int .i64 0), (.sl 0 [] true)])) none), false, []⟩,
           ⟨none, none, (.e (.store 4 (.t 7) (.t 34)) none), false, []⟩,
           ⟨(some 8), none, (.p (.mv (.t 35))), false, []⟩] (some ⟨[1, 2, 7, 8], [], false⟩))
         (.seq
          (.region 0 [⟨(some 36), none, (.p (.mv (.t 8))), false, []⟩,
            ⟨(some 37), none, (.p (.bin .neq (.t 36) (.c (.int .i64 0)))), false, []⟩,
            ⟨(some 38), none, (.p (.mv (.t 37))), false, []⟩,
            ⟨(some 39), (some (38, false)), (.r (.load 4 true (.t 2))), false, []⟩,
            ⟨(some 40), (some (38, false)), (.r (.load 4 true (.t 7))), false, []⟩,
            ⟨(some 41), (some (38, false)), (.call 22 [(.t 39), (.t 40)] false), false, []⟩,
            ⟨(some 42), (some (38, false)), (.p (.un .not (.t 41))), false, []⟩,
            ⟨(some 43), none, (.p (.pick (.t 38) (.c (.bool true)) (.t 42))), false, []⟩] (some ⟨[1, 43], [], false⟩))
          (.cond (.t 43)
           (.seq
            (.region 0 [⟨(some 4), none, (.p (.mv (.c (.bool false)))), false, []⟩] (some ⟨[4], [], false⟩))
            .ret)
           .skip)))
        .skip)))
     (.seq
      (.region 0 [⟨(some 45), none, (.p (.mv (.t 1))), false, []⟩,
        ⟨(some 46), none, (.call 18 [(.t 45)] false), false, []⟩,
        ⟨(some 44), none, (.p (.mv (.t 46))), false, []⟩,
        ⟨(some 47), none, (.p (.ext (.t 44) 0)), false, []⟩,
        ⟨(some 48), none, (.p (.ext (.t 44) 1)), false, []⟩,
        ⟨(some 9), none, (.e (.alloc 30 (.agg [(.int .u64 0), (.int .u64 0), (.int .i64 0), (.sl 0 [] true)])) none), false, []⟩,
        ⟨none, none, (.e (.store 4 (.t 9) (.t 47)) none), false, []⟩,
        ⟨(some 10), none, (.p (.mv (.t 48))), false, []⟩] (some ⟨[1, 9, 10], [], false⟩))
      (.seq
       (.seq
        (.region 0 [⟨(some 49), none, (.p (.mv (.t 10))), false, []⟩,
          ⟨(some 50), none, (.p (.bin .neq (.t 49) (.c (.int .i64 0)))), false, []⟩] (some ⟨[1, 9, 50], [], false⟩))
        (.cond (.t 50)
         (.seq
          (.region 0 [⟨(some 51), none, (.r (.load 4 true (.t 9))), false, []⟩,
            ⟨(some 52), none, (.p (.build [(.int .u64 0), (.int .u64 0), (.int .i64 0), (.sl 0 [] true)] [])), false, []⟩,
            ⟨(some 53), none, (.call 22 [(.t 51), (.t 52)] false), false, []⟩,
            ⟨(some 54), none, (.p (.mv (.t 53))), false, []⟩,
            ⟨(some 55), (some (54, true)), (.p (.mv (.t 1))), false, []⟩,
            ⟨(some 56), (some (54, true)), (.p (.len (.t 55))), false, []⟩,
            ⟨(some 57), (some (54, true)), (.p (.bin .lss (.t 56) (.c (.int .i64 14)))), false, []⟩,
            ⟨(some 58), (some (54, true)), (.p (.mv (.t 57))), false, []⟩,
            ⟨(some 59), (some (58, false)), (.p (.mv (.t 1))), false, []⟩,
            ⟨(some 60), (some (58, false)), (.p (.len (.t 59))), false, []⟩,
            ⟨(some 61), (some (58, false)), (.p (.bin .gtr (.t 60) (.c (.int .i64 1518)))), false, []⟩,
            ⟨(some 62), (some (54, true)), (.p (.pick (.t 58) (.c (.bool true)) (.t 61))), false, []⟩,
            ⟨(some 63), none, (.p (.pick (.t 54) (.t 62) (.c (.bool false)))), false, []⟩,
            ⟨(some 4), none, (.p (.mv (.t 63))), false, []⟩] (some ⟨[4], [], false⟩))
          .ret)
         .skip))
       (.seq
        (.region 0 [⟨(some 65), none, (.r (.load 4 true (.t 9))), false, []⟩,
          ⟨(some 66), none, (.call 21 [(.t 65)] false), false, []⟩,
          ⟨(some 64), none, (.p (.mv (.t 66))), false, []⟩,
          ⟨(some 67), none, (.p (.ext (.t 64) 0)), false, []⟩,
          ⟨(some 68), none, (.p (.ext (.t 64) 1)), false, []⟩,
          ⟨(some 11), none, (.p (.mv (.t 67))), false, []⟩,
          ⟨(some 12), none, (.p (.mv (.t 68))), false, []⟩] (some ⟨[1, 11, 12], [], false⟩))
        (.seq
         (.region 0 [⟨(some 69), none, (.p (.mv (.t 12))), false, []⟩,
           ⟨(some 70), none, (.p (.bin .eql (.t 69) (.c (.int .i64 0)))), false, []⟩,
           ⟨(some 71), none, (.p (.mv (.t 70))), false, []⟩,
           ⟨(some 72), (some (71, true)), (.p (.mv (.t 11))), false, []⟩,
           ⟨(some 73), (some (71, true)), (.r (.b2s (.t 72))), false, []⟩,
           ⟨(some 74), (some (71, true)), (.p (.mv (.t 1))), false, []⟩,
           ⟨(some 75), (some (71, true)), (.r (.b2s (.t 74))), false, []⟩,
           ⟨(some 76), (some (71, true)), (.p (.bin .eql (.t 73) (.t 75))), false, []⟩,
           ⟨(some 77), none, (.p (.pick (.t 71) (.t 76) (.c (.bool false)))), false, []⟩,
           ⟨(some 4), none, (.p (.mv (.t 77))), false, []⟩] (some ⟨[4], [], false⟩))
         .ret))))))))
theorem Try.run5 {xs : List AV} {r : AV} (hl : xs.length ≤ 78) (h : aw Try.prog Try.c5 (Pv.Ends [4] r) (entry xs)) : Run Try.prog 5 xs r :=
  run_of (fun _ _ => drawOk Try.mixed) Try.func5 rfl rfl rfl (by kernel_rfl) (by kernel_rfl) hl h
/-! 6 paling/palinglaw01.MacKinds : params [22, 41], results [4], free 0, zeros [(.int .u64 (0)), (.int .u32 (0))] -/
def Try.c6 : AC :=
 (.seq
  (.region 0 [⟨(some 4), none, (.p (.mv (.c (.bool false)))), false, []⟩] (some ⟨[0, 1], [], false⟩))
  (.seq
   (.region 0 [⟨(some 10), none, (.p (.mv (.t 0))), false, []⟩,
     ⟨(some 11), none, (.call 23 [(.t 10)] false), false, []⟩,
     ⟨(some 9), none, (.p (.mv (.t 11))), false, []⟩,
     ⟨(some 12), none, (.p (.ext (.t 9) 0)), false, []⟩,
     ⟨(some 13), none, (.p (.ext (.t 9) 1)), false, []⟩,
     ⟨(some 5), none, (.p (.mv (.t 12))), false, []⟩,
     ⟨(some 6), none, (.p (.mv (.t 13))), false, []⟩] (some ⟨[0, 1, 5, 6], [], false⟩))
   (.seq
    (.region 0 [⟨(some 15), none, (.p (.mv (.t 0))), false, []⟩,
      ⟨(some 16), none, (.call 24 [(.t 15)] false), false, []⟩,
      ⟨(some 14), none, (.p (.mv (.t 16))), false, []⟩,
      ⟨(some 17), none, (.p (.ext (.t 14) 0)), false, []⟩,
      ⟨(some 18), none, (.p (.ext (.t 14) 1)), false, []⟩,
      ⟨(some 7), none, (.p (.mv (.t 17))), false, []⟩,
      ⟨(some 8), none, (.p (.mv (.t 18))), false, []⟩] (some ⟨[0, 1, 5, 6, 7, 8], [], false⟩))
    (.seq
     (.region 0 [⟨(some 19), none, (.p (.mv (.t 0))), false, []⟩,
       ⟨(some 20), none, (.call 25 [(.t 19)] false), false, []⟩,
       ⟨(some 21), none, (.p (.mv (.t 0))), false, []⟩,
       ⟨(some 22), none, (.call 26 [(.t 21)] false), false, []⟩,
       ⟨(some 23), none, (.p (.binB .eql (.t 20) (.t 22))), false, []⟩,
       ⟨(some 24), none, (.p (.mv (.t 23))), false, []⟩,
       ⟨(some 25), (some (24, true)), (.p (.mv (.t 5))), false, []⟩,
       ⟨(some 26), (some (24, true)), (.p (.mv (.t 7))), false, []⟩,
       ⟨(some 27), (some (24, true)), (.p (.bin .eql (.t 25) (.t 26))), false, []⟩,
       ⟨(some 28), none, (.p (.pick (.t 24) (.t 27) (.c (.bool false)))), false, []⟩,
       ⟨(some 29), none, (.p (.mv (.t 28))), false, []⟩,
       ⟨(some 30), (some (29, true)), (.p (.mv (.t 6))), false, []⟩,
       ⟨(some 31), (some (29, true)), (.p (.mv (.t 8))), false, []⟩,
       ⟨(some 32), (some (29, true)), (.p (.binB .eql (.t 30) (.t 31))), false, []⟩,
       ⟨(some 33), none, (.p (.pick (.t 29) (.t 32) (.c (.bool false)))), false, []⟩,
       ⟨(some 34), none, (.p (.mv (.t 33))), false, []⟩,
       ⟨(some 35), (some (34, true)), (.p (.mv (.t 1))), false, []⟩,
       ⟨(some 36), (some (34, true)), (.call 27 [(.t 35)] false), false, []⟩,
       ⟨(some 37), (some (34, true)), (.p (.mv (.t 1))), false, []⟩,
       ⟨(some 38), (some (34, true)), (.call 28 [(.t 37)] false), false, []⟩,
       ⟨(some 39), (some (34, true)), (.p (.bin .eql (.t 36) (.t 38))), false, []⟩,
       ⟨(some 40), none, (.p (.pick (.t 34) (.t 39) (.c (.bool false)))), false, []⟩,
       ⟨(some 41), none, (.p (.mv (.t 40))), false, []⟩,
       ⟨(some 42), (some (41, true)), (.call 16 [] false), false, []⟩,
       ⟨(some 43), none, (.p (.pick (.t 41) (.t 42) (.c (.bool false)))), false, []⟩,
       ⟨(some 4), none, (.p (.mv (.t 43))), false, []⟩] (some ⟨[4], [], false⟩))
     .ret))))
theorem Try.run6 {xs : List AV} {r : AV} (hl : xs.length ≤ 44) (h : aw Try.prog Try.c6 (Pv.Ends [4] r) (entry xs)) : Run Try.prog 6 xs r :=
  run_of (fun _ _ => drawOk Try.mixed) Try.func6 rfl rfl rfl (by kernel_rfl) (by kernel_rfl) hl h
/-! 7 paling/palinglaw01.MacHosts : params [41, 41], results [4], free 0, zeros [(.int .u32 (0)), (.int .u32 (0))] -/
def Try.c7 : AC :=
 (.seq
  (.region 0 [⟨(some 4), none, (.p (.mv (.c (.bool false)))), false, []⟩] (some ⟨[0, 1], [], false⟩))
  (.seq
   (.region 0 [⟨(some 8), none, (.p (.mv (.t 0))), false, []⟩,
     ⟨(some 9), none, (.call 27 [(.t 8)] false), false, []⟩,
     ⟨(some 10), none, (.call 23 [(.t 9)] false), false, []⟩,
     ⟨(some 7), none, (.p (.mv (.t 10))), false, []⟩,
     ⟨(some 11), none, (.p (.ext (.t 7) 0)), false, []⟩,
     ⟨(some 12), none, (.p (.ext (.t 7) 1)), false, []⟩,
     ⟨(some 5), none, (.p (.mv (.t 11))), false, []⟩,
     ⟨(some 6), none, (.p (.mv (.t 12))), false, []⟩] (some ⟨[0, 1, 5, 6], [], false⟩))
   (.seq
    (.region 0 [⟨(some 13), none, (.call 16 [] false), false, []⟩,
      ⟨(some 14), none, (.p (.mv (.t 13))), false, []⟩,
      ⟨(some 15), (some (14, true)), (.p (.mv (.t 6))), false, []⟩,
      ⟨(some 16), none, (.p (.pick (.t 14) (.t 15) (.c (.bool false)))), false, []⟩,
      ⟨(some 17), none, (.p (.mv (.t 16))), false, []⟩,
      ⟨(some 18), (some (17, true)), (.p (.mv (.t 5))), false, []⟩,
      ⟨(some 19), (some (17, true)), (.p (.mv (.t 0))), false, []⟩,
      ⟨(some 20), (some (17, true)), (.p (.bin .eql (.t 18) (.t 19))), false, []⟩,
      ⟨(some 21), none, (.p (.pick (.t 17) (.t 20) (.c (.bool false)))), false, []⟩,
      ⟨(some 22), none, (.p (.mv (.t 21))), false, []⟩,
      ⟨(some 23), (some (22, true)), (.p (.mv (.t 0))), false, []⟩,
      ⟨(some 24), (some (22, true)), (.call 27 [(.t 23)] false), false, []⟩,
      ⟨(some 25), (some (22, true)), (.call 25 [(.t 24)] false), false, []⟩,
      ⟨(some 26), (some (22, true)), (.p (.un .not (.t 25))), false, []⟩,
      ⟨(some 27), none, (.p (.pick (.t 22) (.t 26) (.c (.bool false)))), false, []⟩,
      ⟨(some 28), none, (.p (.mv (.t 27))), false, []⟩,
      ⟨(some 29), (some (28, true)), (.p (.mv (.t 0))), false, []⟩,
      ⟨(some 30), (some (28, true)), (.call 27 [(.t 29)] false), false, []⟩,
      ⟨(some 31), (some (28, true)), (.p (.mv (.t 1))), false, []⟩,
      ⟨(some 32), (some (28, true)), (.call 27 [(.t 31)] false), false, []⟩,
      ⟨(some 33), (some (28, true)), (.p (.bin .eql (.t 30) (.t 32))), false, []⟩,
      ⟨(some 34), (some (28, true)), (.p (.mv (.t 0))), false, []⟩,
      ⟨(some 35), (some (28, true)), (.p (.mv (.t 1))), false, []⟩,
      ⟨(some 36), (some (28, true)), (.p (.bin .eql (.t 34) (.t 35))), false, []⟩,
      ⟨(some 37), (some (28, true)), (.p (.binB .eql (.t 33) (.t 36))), false, []⟩,
      ⟨(some 38), none, (.p (.pick (.t 28) (.t 37) (.c (.bool false)))), false, []⟩,
      ⟨(some 39), none, (.p (.mv (.t 38))), false, []⟩,
      ⟨(some 40), (some (39, true)), (.p (.mv (.t 0))), false, []⟩,
      ⟨(some 41), (some (39, true)), (.call 27 [(.t 40)] false), false, []⟩,
      ⟨(some 42), (some (39, true)), (.p (.bin .leq (.t 41) (.c (.int .u64 281474976710655)))), false, []⟩,
      ⟨(some 43), none, (.p (.pick (.t 39) (.t 42) (.c (.bool false)))), false, []⟩,
      ⟨(some 4), none, (.p (.mv (.t 43))), false, []⟩] (some ⟨[4], [], false⟩))
    .ret)))
theorem Try.run7 {xs : List AV} {r : AV} (hl : xs.length ≤ 44) (h : aw Try.prog Try.c7 (Pv.Ends [4] r) (entry xs)) : Run Try.prog 7 xs r :=
  run_of (fun _ _ => drawOk Try.mixed) Try.func7 rfl rfl rfl (by kernel_rfl) (by kernel_rfl) hl h
/-! 8 paling/palinglaw04.EtherPuts : params [30, 30], results [4], free 0, zeros [(.agg #[(.int .u64 (0)), (.int .u64 (0)), (.int .i64 (0)), (.slice none 0 0)]), (.agg #[(.int .u64 (0)), (.int .u64 (0)), (.int .i64 (0)), (.slice none 0 0)])] -/
def Try.c8 : AC :=
 (.seq
  (.region 0 [⟨(some 2), none, (.e (.box 30 (.t 0)) none), false, []⟩,
    ⟨(some 3), none, (.e (.box 30 (.t 1)) none), false, []⟩,
    ⟨(some 4), none, (.p (.mv (.c (.bool false)))), false, []⟩] (some ⟨[2, 3], [], false⟩))
  (.seq
   (.seq
    (.region 0 [⟨(some 9), none, (.p (.faddr 3 (.t 2))), false, []⟩,
      ⟨(some 10), none, (.r (.load 1 false (.t 9))), false, []⟩,
      ⟨(some 11), none, (.p (.len (.t 10))), false, []⟩,
      ⟨(some 12), none, (.p (.bin .gtr (.t 11) (.c (.int .i64 4000)))), false, []⟩,
      ⟨(some 13), none, (.p (.mv (.t 12))), false, []⟩,
      ⟨(some 14), (some (13, false)), (.p (.faddr 3 (.t 3))), false, []⟩,
      ⟨(some 15), (some (13, false)), (.r (.load 1 false (.t 14))), false, []⟩,
      ⟨(some 16), (some (13, false)), (.p (.len (.t 15))), false, []⟩,
      ⟨(some 17), (some (13, false)), (.p (.bin .gtr (.t 16) (.c (.int .i64 4000)))), false, []⟩,
      ⟨(some 18), none, (.p (.pick (.t 13) (.c (.bool true)) (.t 17))), false, []⟩] (some ⟨[2, 3, 18], [], false⟩))
    (.cond (.t 18)
     (.seq
      (.region 0 [⟨(some 19), none, (.call 17 [] false), false, []⟩,
        ⟨(some 4), none, (.p (.mv (.t 19))), false, []⟩] (some ⟨[4], [], false⟩))
      .ret)
     .skip))
   (.seq
    (.region 0 [⟨(some 21), none, (.r (.load 4 true (.t 2))), false, []⟩,
      ⟨(some 22), none, (.call 21 [(.t 21)] false), false, []⟩,
      ⟨(some 20), none, (.p (.mv (.t 22))), false, []⟩,
      ⟨(some 23), none, (.p (.ext (.t 20) 0)), false, []⟩,
      ⟨(some 24), none, (.p (.ext (.t 20) 1)), false, []⟩,
      ⟨(some 5), none, (.p (.mv (.t 23))), false, []⟩,
      ⟨(some 6), none, (.p (.mv (.t 24))), false, []⟩] (some ⟨[2, 3, 5, 6], [], false⟩))
    (.seq
     (.region 0 [⟨(some 26), none, (.r (.load 4 true (.t 2))), false, []⟩,
       ⟨(some 27), none, (.call 29 [(.t 26)] false), false, []⟩,
       ⟨(some 25), none, (.p (.mv (.t 27))), false, []⟩,
       ⟨(some 28), none, (.p (.ext (.t 25) 0)), false, []⟩,
       ⟨(some 29), none, (.p (.ext (.t 25) 1)), false, []⟩,
       ⟨(some 7), none, (.p (.mv (.t 28))), false, []⟩,
       ⟨(some 8), none, (.p (.mv (.t 29))), false, []⟩] (some ⟨[2, 3, 5, 6, 7, 8], [], false⟩))
     (.seq
      (.region 29 [⟨(some 30), none, (.p (.mv (.t 5))), false, []⟩,
        ⟨(some 31), none, (.r (.b2s (.t 30))), false, []⟩,
        ⟨(some 32), none, (.p (.mv (.t 7))), false, []⟩,
        ⟨(some 33), none, (.r (.b2s (.t 32))), false, []⟩,
        ⟨(some 34), none, (.p (.bin .eql (.t 31) (.t 33))), false, []⟩,
        ⟨(some 35), none, (.p (.mv (.t 34))), false, []⟩,
        ⟨(some 36), (some (35, true)), (.p (.mv (.t 6))), false, []⟩,
        ⟨(some 37), (some (35, true)), (.p (.mv (.t 8))), false, []⟩,
        ⟨(some 38), (some (35, true)), (.p (.bin .eql (.t 36) (.t 37))), false, []⟩,
        ⟨(some 39), none, (.p (.pick (.t 35) (.t 38) (.c (.bool false)))), false, []⟩,
        ⟨(some 40), none, (.p (.mv (.t 39))), false, []⟩,
        ⟨(some 41), (some (40, true)), (.r (.load 4 true (.t 2))), false, []⟩,
        ⟨(some 42), (some (40, true)), (.r (.load 4 true (.t 3))), false, []⟩,
        ⟨(some 44), (some (40, true)), (.r (.load 4 true (.t 2))), false, []⟩,
        ⟨(some 45), (some (40, true)), (.r (.load 4 true (.t 3))), false, []⟩,
        ⟨(some 43), (some (40, true)), (.call 22 [(.t 41), (.t 42)] true), false, []⟩,
        ⟨(some 46), (some (40, true)), (.call 20 [(.t 44), (.t 45)] true), false, []⟩,
        ⟨(some 47), (some (40, true)), (.p (.binB .eql (.t 43) (.t 46))), false, []⟩,
        ⟨(some 48), none, (.p (.pick (.t 40) (.t 47) (.c (.bool false)))), false, []⟩,
        ⟨(some 49), none, (.p (.mv (.t 48))), false, []⟩,
        ⟨(some 50), (some (49, true)), (.r (.load 4 true (.t 2))), false, []⟩,
        ⟨(some 52), (some (49, true)), (.r (.load 4 true (.t 2))), false, []⟩,
        ⟨(some 51), (some (49, true)), (.call 30 [(.t 50)] true), false, []⟩,
        ⟨(some 53), (some (49, true)), (.call 20 [(.t 51), (.t 52)] true), false, []⟩,
        ⟨(some 54), none, (.p (.pick (.t 49) (.t 53) (.c (.bool false)))), false, []⟩,
        ⟨(some 55), none, (.p (.mv (.t 54))), false, []⟩,
        ⟨(some 56), (some (55, true)), (.call 17 [] true), false, []⟩,
        ⟨(some 57), none, (.p (.pick (.t 55) (.t 56) (.c (.bool false)))), false, []⟩,
        ⟨(some 4), none, (.p (.mv (.t 57))), false, []⟩] (some ⟨[4], [], true⟩))
      .ret)))))
theorem Try.run8 {xs : List AV} {r : AV} (hl : xs.length ≤ 58) (h : aw Try.prog Try.c8 (Pv.Ends [4] r) (entry xs)) : Run Try.prog 8 xs r :=
  run_of (fun _ _ => drawOk Try.mixed) Try.func8 rfl rfl rfl (by kernel_rfl) (by kernel_rfl) hl h
/-! 9 paling/palinglaw04.EtherOwn : params [28, 51], results [4], free 0, zeros [(.slice none 0 0), (.int .u16 (0))] -/
def Try.c9 : AC :=
 (.seq
  (.region 0 [⟨(some 4), none, (.p (.mv (.c (.bool false)))), false, []⟩] (some ⟨[0, 1], [], false⟩))
  (.seq
   (.seq
    (.region 0 [⟨(some 12), none, (.call 17 [] false), false, []⟩,
      ⟨(some 13), none, (.p (.un .not (.t 12))), false, []⟩] (some ⟨[0, 1, 13], [], false⟩))
    (.cond (.t 13)
     (.seq
      (.region 0 [⟨(some 4), none, (.p (.mv (.c (.bool false)))), false, []⟩] (some ⟨[4], [], false⟩))
      .ret)
     .skip))
   (.seq
    (.seq
     (.region 0 [⟨(some 14), none, (.p (.mv (.t 0))), false, []⟩,
       ⟨(some 15), none, (.p (.len (.t 14))), false, []⟩,
       ⟨(some 16), none, (.p (.bin .eql (.t 15) (.c (.int .i64 0)))), false, []⟩,
       ⟨(some 17), none, (.p (.mv (.t 16))), false, []⟩,
       ⟨(some 18), (some (17, false)), (.p (.mv (.t 0))), false, []⟩,
       ⟨(some 19), (some (17, false)), (.p (.len (.t 18))), false, []⟩,
       ⟨(some 20), (some (17, false)), (.p (.bin .gtr (.t 19) (.c (.int .i64 1504)))), false, []⟩,
       ⟨(some 21), none, (.p (.pick (.t 17) (.c (.bool true)) (.t 20))), false, []⟩] (some ⟨[0, 1, 21], [], false⟩))
     (.cond (.t 21)
      (.seq
       (.region 0 [⟨(some 4), none, (.p (.mv (.c (.bool true)))), false, []⟩] (some ⟨[4], [], false⟩))
       .ret)
      .skip))
    (.seq
     (.region 0 [⟨(some 22), none, (.p (.mv (.t 1))), false, []⟩,
       ⟨(some 23), none, (.p (.convI .i64 (.t 22))), false, []⟩,
       ⟨(some 24), none, (.p (.mv (.t 0))), false, []⟩,
       ⟨(some 25), none, (.p (.len (.t 24))), false, []⟩,
       ⟨(some 26), none, (.p (.bin .rem (.t 23) (.t 25))), false, []⟩,
       ⟨(some 5), none, (.p (.mv (.t 26))), false, []⟩] (some ⟨[0, 5], [], false⟩))
     (.seq
      (.region 0 [⟨(some 27), none, (.e (.mks 5 1 (.int .u8 0) 0 []) none), false, []⟩,
        ⟨(some 28), none, (.p (.mv (.t 0))), false, []⟩,
        ⟨(some 29), none, (.e (.append 5 1 (.t 27) (.t 28)) none), false, []⟩,
        ⟨(some 30), none, (.p (.build [(.int .u64 0), (.int .u64 0), (.int .i64 0), (.sl 0 [] true)] [(0, 1, (.c (.int .u64 1))), (1, 1, (.c (.int .u64 2))), (2, 1, (.c (.int .i64 3))), (3, 1, (.t 29))])), false, []⟩,
        ⟨(some 6), none, (.e (.alloc 30 (.agg [(.int .u64 0), (.int .u64 0), (.int .i64 0), (.sl 0 [] true)])) none), false, []⟩,
        ⟨none, none, (.e (.store 4 (.t 6) (.t 30)) none), false, []⟩] (some ⟨[0, 5, 6], [], false⟩))
      (.seq
       (.region 0 [⟨(some 31), none, (.r (.load 4 true (.t 6))), false, []⟩,
         ⟨(some 32), none, (.call 30 [(.t 31)] false), false, []⟩,
         ⟨(some 7), none, (.e (.alloc 30 (.agg [(.int .u64 0), (.int .u64 0), (.int .i64 0), (.sl 0 [] true)])) none), false, []⟩,
         ⟨none, none, (.e (.store 4 (.t 7) (.t 32)) none), false, []⟩] (some ⟨[0, 5, 6, 7], [], false⟩))
       (.seq
        (.region 0 [⟨(some 34), none, (.r (.load 4 true (.t 6))), false, []⟩,
          ⟨(some 35), none, (.call 21 [(.t 34)] false), false, []⟩,
          ⟨(some 33), none, (.p (.mv (.t 35))), false, []⟩,
          ⟨(some 36), none, (.p (.ext (.t 33) 0)), false, []⟩,
          ⟨(some 37), none, (.p (.ext (.t 33) 1)), false, []⟩,
          ⟨(some 8), none, (.p (.mv (.t 36))), false, []⟩,
          ⟨(some 9), none, (.p (.mv (.t 37))), false, []⟩] (some ⟨[0, 5, 6, 7, 8], [], false⟩))
        (.seq
         (.region 0 [⟨(some 39), none, (.p (.mv (.t 8))), false, []⟩,
           ⟨(some 40), none, (.call 18 [(.t 39)] false), false, []⟩,
           ⟨(some 38), none, (.p (.mv (.t 40))), false, []⟩,
           ⟨(some 41), none, (.p (.ext (.t 38) 0)), false, []⟩,
           ⟨(some 42), none, (.p (.ext (.t 38) 1)), false, []⟩,
           ⟨(some 10), none, (.e (.alloc 30 (.agg [(.int .u64 0), (.int .u64 0), (.int .i64 0), (.sl 0 [] true)])) none), false, []⟩,
           ⟨none, none, (.e (.store 4 (.t 10) (.t 41)) none), false, []⟩,
           ⟨(some 11), none, (.p (.mv (.t 42))), false, []⟩] (some ⟨[0, 5, 6, 7, 8, 10], [], false⟩))
         (.seq
          (.seq
           (.region 0 [⟨(some 43), none, (.p (.faddr 3 (.t 7))), false, []⟩,
             ⟨(some 44), none, (.r (.load 1 false (.t 43))), false, []⟩,
             ⟨(some 45), none, (.p (.len (.t 44))), false, []⟩,
             ⟨(some 46), none, (.p (.mv (.t 0))), false, []⟩,
             ⟨(some 47), none, (.p (.len (.t 46))), false, []⟩,
             ⟨(some 48), none, (.p (.bin .neq (.t 45) (.t 47))), false, []⟩,
             ⟨(some 49), none, (.p (.mv (.t 48))), false, []⟩,
             ⟨(some 50), (some (49, false)), (.p (.mv (.t 8))), false, []⟩,
             ⟨(some 51), (some (49, false)), (.p (.len (.t 50))), false, []⟩,
             ⟨(some 52), (some (49, false)), (.p (.mv (.t 0))), false, []⟩,
             ⟨(some 53), (some (49, false)), (.p (.len (.t 52))), false, []⟩,
             ⟨(some 54), (some (49, false)), (.p (.bin .add (.t 53) (.c (.int .i64 14)))), false, []⟩,
             ⟨(some 55), (some (49, false)), (.p (.bin .neq (.t 51) (.t 54))), false, []⟩,
             ⟨(some 56), none, (.p (.pick (.t 49) (.c (.bool true)) (.t 55))), false, []⟩,
             ⟨(some 57), none, (.p (.mv (.t 56))), false, []⟩,
             ⟨(some 58), (some (57, false)), (.p (.faddr 3 (.t 10))), false, []⟩,
             ⟨(some 59), (some (57, false)), (.r (.load 1 false (.t 58))), false, []⟩,
             ⟨(some 60), (some (57, false)), (.p (.len (.t 59))), false, []⟩,
             ⟨(some 61), (some (57, false)), (.p (.mv (.t 0))), false, []⟩,
             ⟨(some 62), (some (57, false)), (.p (.len (.t 61))), false, []⟩,
             ⟨(some 63), (some (57, false)), (.p (.bin .neq (.t 60) (.t 62))), false, []⟩,
             ⟨(some 64), none, (.p (.pick (.t 57) (.c (.bool true)) (.t 63))), false, []⟩] (some ⟨[0, 5, 6, 7, 8, 10, 64], [], false⟩))
           (.cond (.t 64)
            (.seq
             (.region 0 [⟨(some 4), none, (.p (.mv (.c (.bool false)))), false, []⟩] (some ⟨[4], [], false⟩))
             .ret)
            .skip))
          (.seq
           (.region 0 [⟨(some 65), none, (.p (.faddr 3 (.t 7))), false, []⟩,
             ⟨(some 66), none, (.r (.load 1 false (.t 65))), false, []⟩,
             ⟨(some 67), none, (.p (.mv (.t 5))), false, []⟩,
             ⟨(some 68), none, (.p (.iaddr 1 (.t 66) (.t 67))), false, []⟩,
             ⟨(some 69), none, (.r (.load 1 false (.t 68))), false, []⟩,
             ⟨(some 70), none, (.p (.bin .add (.t 69) (.c (.int .u8 1)))), false, []⟩,
             ⟨(some 71), none, (.p (.iaddr 1 (.t 66) (.t 67))), false, []⟩,
             ⟨none, none, (.e (.store 1 (.t 71) (.t 70)) none), false, []⟩] (some ⟨[0, 5, 6, 8, 10], [], false⟩))
           (.seq
            (.region 0 [⟨(some 72), none, (.p (.mv (.t 8))), false, []⟩,
              ⟨(some 73), none, (.p (.mv (.t 5))), false, []⟩,
              ⟨(some 74), none, (.p (.bin .add (.c (.int .i64 14)) (.t 73))), false, []⟩,
              ⟨(some 75), none, (.p (.iaddr 1 (.t 72) (.t 74))), false, []⟩,
              ⟨(some 76), none, (.r (.load 1 false (.t 75))), false, []⟩,
              ⟨(some 77), none, (.p (.bin .add (.t 76) (.c (.int .u8 1)))), false, []⟩,
              ⟨(some 78), none, (.p (.iaddr 1 (.t 72) (.t 74))), false, []⟩,
              ⟨none, none, (.e (.store 1 (.t 78) (.t 77)) none), false, []⟩] (some ⟨[0, 6, 10], [], false⟩))
            (.seq
             (.region 0 [⟨(some 79), none, (.p (.faddr 3 (.t 6))), false, []⟩,
               ⟨(some 80), none, (.r (.load 1 false (.t 79))), false, []⟩,
               ⟨(some 81), none, (.r (.b2s (.t 80))), false, []⟩,
               ⟨(some 82), none, (.p (.mv (.t 0))), false, []⟩,
               ⟨(some 83), none, (.r (.b2s (.t 82))), false, []⟩,
               ⟨(some 84), none, (.p (.bin .eql (.t 81) (.t 83))), false, []⟩,
               ⟨(some 85), none, (.p (.mv (.t 84))), false, []⟩,
               ⟨(some 86), (some (85, true)), (.p (.faddr 3 (.t 10))), false, []⟩,
               ⟨(some 87), (some (85, true)), (.r (.load 1 false (.t 86))), false, []⟩,
               ⟨(some 88), (some (85, true)), (.r (.b2s (.t 87))), false, []⟩,
               ⟨(some 89), (some (85, true)), (.p (.mv (.t 0))), false, []⟩,
               ⟨(some 90), (some (85, true)), (.r (.b2s (.t 89))), false, []⟩,
               ⟨(some 91), (some (85, true)), (.p (.bin .eql (.t 88) (.t 90))), false, []⟩,
               ⟨(some 92), none, (.p (.pick (.t 85) (.t 91) (.c (.bool false)))), false, []⟩,
               ⟨(some 4), none, (.p (.mv (.t 92))), false, []⟩] (some ⟨[4], [], false⟩))
             .ret))))))))))))
theorem Try.run9 {xs : List AV} {r : AV} (hl : xs.length ≤ 93) (h : aw Try.prog Try.c9 (Pv.Ends [4] r) (entry xs)) : Run Try.prog 9 xs r :=
  run_of (fun _ _ => drawOk Try.mixed) Try.func9 rfl rfl rfl (by kernel_rfl) (by kernel_rfl) hl h
/-! 10 paling/palinglaw01.MacBytes : params [28, 3, 22], results [4], free 0, zeros [(.slice none 0 0), (.int .i64 (0)), (.int .u64 (0))] -/
def Try.c10 : AC :=
 (.seq
  (.region 0 [⟨(some 6), none, (.p (.mv (.c (.bool false)))), false, []⟩] (some ⟨[0, 1, 2], [], false⟩))
  (.seq
   (.seq
    (.region 0 [⟨(some 11), none, (.p (.mv (.t 0))), false, []⟩,
      ⟨(some 12), none, (.p (.len (.t 11))), false, []⟩,
      ⟨(some 13), none, (.p (.bin .gtr (.t 12) (.c (.int .i64 3000)))), false, []⟩] (some ⟨[0, 1, 2, 13], [], false⟩))
    (.cond (.t 13)
     (.seq
      (.region 0 [⟨(some 14), none, (.call 16 [] false), false, []⟩,
        ⟨(some 6), none, (.p (.mv (.t 14))), false, []⟩] (some ⟨[6], [], false⟩))
      .ret)
     .skip))
   (.seq
    (.region 0 [⟨(some 16), none, (.p (.mv (.t 0))), false, []⟩,
      ⟨(some 17), none, (.p (.mv (.t 1))), false, []⟩,
      ⟨(some 18), none, (.call 31 [(.t 16), (.t 17)] false), false, []⟩,
      ⟨(some 15), none, (.p (.mv (.t 18))), false, []⟩,
      ⟨(some 19), none, (.p (.ext (.t 15) 0)), false, []⟩,
      ⟨(some 20), none, (.p (.ext (.t 15) 1)), false, []⟩,
      ⟨(some 7), none, (.p (.mv (.t 19))), false, []⟩,
      ⟨(some 8), none, (.p (.mv (.t 20))), false, []⟩] (some ⟨[0, 1, 2, 7, 8], [], false⟩))
    (.seq
     (.region 0 [⟨(some 22), none, (.p (.mv (.t 0))), false, []⟩,
       ⟨(some 23), none, (.p (.mv (.t 1))), false, []⟩,
       ⟨(some 24), none, (.call 32 [(.t 22), (.t 23)] false), false, []⟩,
       ⟨(some 21), none, (.p (.mv (.t 24))), false, []⟩,
       ⟨(some 25), none, (.p (.ext (.t 21) 0)), false, []⟩,
       ⟨(some 26), none, (.p (.ext (.t 21) 1)), false, []⟩,
       ⟨(some 9), none, (.p (.mv (.t 25))), false, []⟩,
       ⟨(some 10), none, (.p (.mv (.t 26))), false, []⟩] (some ⟨[0, 2, 7, 8, 9, 10], [], false⟩))
     (.seq
      (.region 25 [⟨(some 27), none, (.p (.mv (.t 7))), true, [5, 5]⟩,
        ⟨(some 28), none, (.p (.mv (.t 9))), true, [5, 5]⟩,
        ⟨(some 29), none, (.p (.bin .eql (.t 27) (.t 28))), true, [5, 5]⟩,
        ⟨(some 30), none, (.p (.mv (.t 29))), true, [5, 5]⟩,
        ⟨(some 31), (some (30, true)), (.p (.mv (.t 8))), true, [5, 5]⟩,
        ⟨(some 32), (some (30, true)), (.p (.mv (.t 10))), true, [5, 5]⟩,
        ⟨(some 33), (some (30, true)), (.p (.binB .eql (.t 31) (.t 32))), true, [5, 5]⟩,
        ⟨(some 34), none, (.p (.pick (.t 30) (.t 33) (.c (.bool false)))), true, [5, 5]⟩,
        ⟨(some 35), none, (.p (.mv (.t 34))), true, [5, 5]⟩,
        ⟨(some 37), (some (35, true)), (.p (.mv (.t 0))), true, [5, 5]⟩,
        ⟨(some 39), (some (35, true)), (.p (.mv (.t 2))), true, [5, 5]⟩,
        ⟨(some 42), (some (35, true)), (.p (.mv (.t 0))), true, [5, 5]⟩,
        ⟨(some 43), (some (35, true)), (.p (.mv (.t 2))), true, [5, 5]⟩,
        ⟨(some 36), (some (35, true)), (.e (.mks 5 1 (.int .u8 0) 0 []) (some 9)), true, [5, 5]⟩,
        ⟨(some 38), (some (35, true)), (.e (.append 5 1 (.t 36) (.t 37)) (some 11)), true, [5, 5]⟩,
        ⟨(some 40), (some (35, true)), (.call 33 [(.t 38), (.t 39)] true), true, [5]⟩,
        ⟨(some 41), (some (35, true)), (.r (.b2s (.t 40))), true, [5, 5]⟩,
        ⟨(some 44), (some (35, true)), (.call 34 [(.t 42), (.t 43)] true), true, []⟩,
        ⟨(some 45), (some (35, true)), (.r (.b2s (.t 44))), true, [5, 5]⟩,
        ⟨(some 46), (some (35, true)), (.p (.bin .eql (.t 41) (.t 45))), true, [5, 5]⟩,
        ⟨(some 47), none, (.p (.pick (.t 35) (.t 46) (.c (.bool false)))), true, [5, 5]⟩,
        ⟨(some 48), none, (.p (.mv (.t 47))), true, [5, 5]⟩,
        ⟨(some 49), (some (48, true)), (.call 16 [] true), true, []⟩,
        ⟨(some 50), none, (.p (.pick (.t 48) (.t 49) (.c (.bool false)))), true, [5, 5]⟩,
        ⟨(some 6), none, (.p (.mv (.t 50))), true, [5, 5]⟩] (some ⟨[6], [], true⟩))
      .ret)))))
theorem Try.run10 {xs : List AV} {r : AV} (hl : xs.length ≤ 51) (h : aw Try.prog Try.c10 (Pv.Ends [6] r) (entry xs)) : Run Try.prog 10 xs r :=
  run_of (fun _ _ => drawOk Try.mixed) Try.func10 rfl rfl rfl (by kernel_rfl) (by kernel_rfl) hl h
/-! 11 paling/palinglaw01.MacBack : params [22, 22, 28, 28], results [4], free 0, zeros [(.int .u64 (0)), (.int .u64 (0)), (.slice none 0 0), (.slice none 0 0)] -/
def Try.c11 : AC :=
 (.seq
  (.region 0 [⟨(some 8), none, (.p (.mv (.c (.bool false)))), false, []⟩] (some ⟨[0, 1, 2, 3], [], false⟩))
  (.seq
   (.seq
    (.region 0 [⟨(some 13), none, (.call 16 [] false), false, []⟩,
      ⟨(some 14), none, (.p (.un .not (.t 13))), false, []⟩] (some ⟨[0, 1, 2, 3, 14], [], false⟩))
    (.cond (.t 14)
     (.seq
      (.region 0 [⟨(some 8), none, (.p (.mv (.c (.bool false)))), false, []⟩] (some ⟨[8], [], false⟩))
      .ret)
     .skip))
   (.seq
    (.seq
     (.region 0 [⟨(some 15), none, (.p (.mv (.t 2))), false, []⟩,
       ⟨(some 16), none, (.p (.len (.t 15))), false, []⟩,
       ⟨(some 17), none, (.p (.bin .gtr (.t 16) (.c (.int .i64 3000)))), false, []⟩,
       ⟨(some 18), none, (.p (.mv (.t 17))), false, []⟩,
       ⟨(some 19), (some (18, false)), (.p (.mv (.t 3))), false, []⟩,
       ⟨(some 20), (some (18, false)), (.p (.len (.t 19))), false, []⟩,
       ⟨(some 21), (some (18, false)), (.p (.bin .gtr (.t 20) (.c (.int .i64 3000)))), false, []⟩,
       ⟨(some 22), none, (.p (.pick (.t 18) (.c (.bool true)) (.t 21))), false, []⟩] (some ⟨[0, 1, 2, 3, 22], [], false⟩))
     (.cond (.t 22)
      (.seq
       (.region 0 [⟨(some 8), none, (.p (.mv (.c (.bool true)))), false, []⟩] (some ⟨[8], [], false⟩))
       .ret)
      .skip))
    (.seq
     (.region 0 [⟨(some 23), none, (.p (.mv (.t 0))), false, []⟩,
       ⟨(some 24), none, (.p (.bin .and (.t 23) (.c (.int .u64 281474976710655)))), false, []⟩,
       ⟨(some 25), none, (.p (.mv (.t 1))), false, []⟩,
       ⟨(some 26), none, (.p (.bin .and (.t 25) (.c (.int .u64 281474976710655)))), false, []⟩,
       ⟨(some 0), none, (.p (.mv (.t 24))), false, []⟩,
       ⟨(some 1), none, (.p (.mv (.t 26))), false, []⟩] (some ⟨[0, 1, 2, 3], [], false⟩))
     (.seq
      (.region 0 [⟨(some 28), none, (.p (.mv (.t 0))), false, []⟩,
        ⟨(some 29), none, (.call 14 [(.t 28)] false), false, []⟩,
        ⟨(some 30), none, (.call 12 [(.t 29)] false), false, []⟩,
        ⟨(some 27), none, (.p (.mv (.t 30))), false, []⟩,
        ⟨(some 31), none, (.p (.ext (.t 27) 0)), false, []⟩,
        ⟨(some 32), none, (.p (.ext (.t 27) 1)), false, []⟩,
        ⟨(some 9), none, (.p (.mv (.t 31))), false, []⟩,
        ⟨(some 10), none, (.p (.mv (.t 32))), false, []⟩] (some ⟨[0, 1, 2, 3, 9, 10], [], false⟩))
      (.seq
       (.region 0 [⟨(some 34), none, (.e (.mks 5 1 (.int .u8 0) 0 []) none), false, []⟩,
         ⟨(some 35), none, (.p (.mv (.t 2))), false, []⟩,
         ⟨(some 36), none, (.e (.append 5 1 (.t 34) (.t 35)) none), false, []⟩,
         ⟨(some 37), none, (.p (.mv (.t 0))), false, []⟩,
         ⟨(some 38), none, (.call 33 [(.t 36), (.t 37)] false), false, []⟩,
         ⟨(some 39), none, (.p (.mv (.t 3))), false, []⟩,
         ⟨(some 40), none, (.e (.append 5 1 (.t 38) (.t 39)) none), false, []⟩,
         ⟨(some 41), none, (.p (.mv (.t 2))), false, []⟩,
         ⟨(some 42), none, (.p (.len (.t 41))), false, []⟩,
         ⟨(some 43), none, (.call 31 [(.t 40), (.t 42)] false), false, []⟩,
         ⟨(some 33), none, (.p (.mv (.t 43))), false, []⟩,
         ⟨(some 44), none, (.p (.ext (.t 33) 0)), false, []⟩,
         ⟨(some 45), none, (.p (.ext (.t 33) 1)), false, []⟩,
         ⟨(some 11), none, (.p (.mv (.t 44))), false, []⟩,
         ⟨(some 12), none, (.p (.mv (.t 45))), false, []⟩] (some ⟨[0, 1, 9, 10, 11, 12], [], false⟩))
       (.seq
        (.region 0 [⟨(some 46), none, (.p (.mv (.t 10))), false, []⟩,
          ⟨(some 47), none, (.p (.mv (.t 46))), false, []⟩,
          ⟨(some 48), (some (47, true)), (.p (.mv (.t 9))), false, []⟩,
          ⟨(some 49), (some (47, true)), (.p (.mv (.t 0))), false, []⟩,
          ⟨(some 50), (some (47, true)), (.p (.bin .eql (.t 48) (.t 49))), false, []⟩,
          ⟨(some 51), none, (.p (.pick (.t 47) (.t 50) (.c (.bool false)))), false, []⟩,
          ⟨(some 52), none, (.p (.mv (.t 51))), false, []⟩,
          ⟨(some 53), (some (52, true)), (.p (.mv (.t 12))), false, []⟩,
          ⟨(some 54), none, (.p (.pick (.t 52) (.t 53) (.c (.bool false)))), false, []⟩,
          ⟨(some 55), none, (.p (.mv (.t 54))), false, []⟩,
          ⟨(some 56), (some (55, true)), (.p (.mv (.t 11))), false, []⟩,
          ⟨(some 57), (some (55, true)), (.p (.mv (.t 0))), false, []⟩,
          ⟨(some 58), (some (55, true)), (.p (.bin .eql (.t 56) (.t 57))), false, []⟩,
          ⟨(some 59), none, (.p (.pick (.t 55) (.t 58) (.c (.bool false)))), false, []⟩,
          ⟨(some 60), none, (.p (.mv (.t 59))), false, []⟩,
          ⟨(some 61), (some (60, true)), (.p (.mv (.t 0))), false, []⟩,
          ⟨(some 62), (some (60, true)), (.call 14 [(.t 61)] false), false, []⟩,
          ⟨(some 63), (some (60, true)), (.p (.mv (.t 1))), false, []⟩,
          ⟨(some 64), (some (60, true)), (.call 14 [(.t 63)] false), false, []⟩,
          ⟨(some 65), (some (60, true)), (.p (.bin .eql (.t 62) (.t 64))), false, []⟩,
          ⟨(some 66), (some (60, true)), (.p (.mv (.t 0))), false, []⟩,
          ⟨(some 67), (some (60, true)), (.p (.mv (.t 1))), false, []⟩,
          ⟨(some 68), (some (60, true)), (.p (.bin .eql (.t 66) (.t 67))), false, []⟩,
          ⟨(some 69), (some (60, true)), (.p (.binB .eql (.t 65) (.t 68))), false, []⟩,
          ⟨(some 70), none, (.p (.pick (.t 60) (.t 69) (.c (.bool false)))), false, []⟩,
          ⟨(some 8), none, (.p (.mv (.t 70))), false, []⟩] (some ⟨[8], [], false⟩))
        .ret)))))))
theorem Try.run11 {xs : List AV} {r : AV} (hl : xs.length ≤ 71) (h : aw Try.prog Try.c11 (Pv.Ends [8] r) (entry xs)) : Run Try.prog 11 xs r :=
  run_of (fun _ _ => drawOk Try.mixed) Try.func11 rfl rfl rfl (by kernel_rfl) (by kernel_rfl) hl h
/-! 12 paling/mac.Read : params [9], results [22, 4], free 0, zeros [(.string ⟨#[]⟩)] -/
def Try.c12b0 : AC :=
 (.seq
  (.region 0 [⟨(some 12), none, (.p (.bin .lss (.t 11) (.c (.int .i64 6)))), false, []⟩] (some ⟨[0, 4, 11, 12], [], false⟩))
  (.seq
   (.cond (.t 12)
    .skip
    (.exit 0))
   (.seq
    (.block 1
     (.seq
      (.region 0 [⟨(some 13), none, (.p (.mv (.t 11))), false, []⟩,
        ⟨(some 5), none, (.p (.mv (.t 13))), false, []⟩] (some ⟨[0, 4, 5, 11], [], false⟩))
      (.seq
       (.region 13 [⟨(some 14), none, (.p (.mv (.t 0))), false, []⟩,
         ⟨(some 15), none, (.p (.mv (.t 5))), false, []⟩,
         ⟨(some 16), none, (.p (.bin .mul (.c (.int .i64 3)) (.t 15))), false, []⟩,
         ⟨(some 17), none, (.p (.idxs (.t 14) (.t 16))), false, []⟩,
         ⟨(some 19), none, (.p (.mv (.t 0))), false, []⟩,
         ⟨(some 20), none, (.p (.mv (.t 5))), false, []⟩,
         ⟨(some 21), none, (.p (.bin .mul (.c (.int .i64 3)) (.t 20))), false, []⟩,
         ⟨(some 22), none, (.p (.bin .add (.t 21) (.c (.int .i64 1)))), false, []⟩,
         ⟨(some 23), none, (.p (.idxs (.t 19) (.t 22))), false, []⟩,
         ⟨(some 18), none, (.call 35 [(.t 17)] true), false, []⟩,
         ⟨(some 24), none, (.call 35 [(.t 23)] true), false, []⟩,
         ⟨(some 6), none, (.p (.mv (.t 18))), false, []⟩,
         ⟨(some 7), none, (.p (.mv (.t 24))), false, []⟩] (some ⟨[0, 4, 5, 6, 7, 11], [], true⟩))
       (.seq
        (.seq
         (.region 0 [⟨(some 25), none, (.p (.mv (.t 6))), false, []⟩,
           ⟨(some 26), none, (.p (.bin .gtr (.t 25) (.c (.int .u64 15)))), false, []⟩,
           ⟨(some 27), none, (.p (.mv (.t 26))), false, []⟩,
           ⟨(some 28), (some (27, false)), (.p (.mv (.t 7))), false, []⟩,
           ⟨(some 29), (some (27, false)), (.p (.bin .gtr (.t 28) (.c (.int .u64 15)))), false, []⟩,
           ⟨(some 30), none, (.p (.pick (.t 27) (.c (.bool true)) (.t 29))), false, []⟩,
           ⟨(some 31), none, (.p (.mv (.t 30))), false, []⟩,
           ⟨(some 32), (some (31, false)), (.p (.mv (.t 5))), false, []⟩,
           ⟨(some 33), (some (31, false)), (.p (.bin .add (.t 32) (.c (.int .i64 1)))), false, []⟩,
           ⟨(some 34), (some (31, false)), (.p (.bin .lss (.t 33) (.c (.int .i64 6)))), false, []⟩,
           ⟨(some 35), (some (31, false)), (.p (.mv (.t 34))), false, []⟩,
           ⟨(some 36), (some (35, true)), (.p (.mv (.t 0))), false, []⟩,
           ⟨(some 37), (some (35, true)), (.p (.mv (.t 5))), false, []⟩,
           ⟨(some 38), (some (35, true)), (.p (.bin .mul (.c (.int .i64 3)) (.t 37))), false, []⟩,
           ⟨(some 39), (some (35, true)), (.p (.bin .add (.t 38) (.c (.int .i64 2)))), false, []⟩,
           ⟨(some 40), (some (35, true)), (.p (.idxs (.t 36) (.t 39))), false, []⟩,
           ⟨(some 41), (some (35, true)), (.p (.bin .neq (.t 40) (.c (.int .u8 58)))), false, []⟩,
           ⟨(some 42), (some (31, false)), (.p (.pick (.t 35) (.t 41) (.c (.bool false)))), false, []⟩,
           ⟨(some 43), none, (.p (.pick (.t 31) (.c (.bool true)) (.t 42))), false, []⟩] (some ⟨[0, 4, 6, 7, 11, 43], [], false⟩))
         (.cond (.t 43)
          (.seq
           (.region 0 [⟨(some 2), none, (.p (.mv (.c (.int .u64 0)))), false, []⟩,
             ⟨(some 3), none, (.p (.mv (.c (.bool false)))), false, []⟩] (some ⟨[2, 3], [], false⟩))
           .ret)
          .skip))
        (.region 0 [⟨(some 44), none, (.p (.mv (.t 4))), false, []⟩,
          ⟨(some 45), none, (.p (.bin .shl (.t 44) (.c (.int .u64 8)))), false, []⟩,
          ⟨(some 46), none, (.p (.mv (.t 6))), false, []⟩,
          ⟨(some 47), none, (.p (.bin .shl (.t 46) (.c (.int .u64 4)))), false, []⟩,
          ⟨(some 48), none, (.p (.bin .or (.t 45) (.t 47))), false, []⟩,
          ⟨(some 49), none, (.p (.mv (.t 7))), false, []⟩,
          ⟨(some 50), none, (.p (.bin .or (.t 48) (.t 49))), false, []⟩,
          ⟨(some 4), none, (.p (.mv (.t 50))), false, []⟩] (some ⟨[0, 4, 11], [], false⟩))))))
    (.region 0 [⟨(some 51), none, (.p (.bin .add (.t 11) (.c (.int .i64 1)))), false, []⟩,
      ⟨(some 11), none, (.p (.mv (.t 51))), false, []⟩] (some ⟨[0, 4, 11], [], false⟩)))))
def Try.c12 : AC :=
 (.seq
  (.region 0 [⟨(some 2), none, (.p (.mv (.c (.int .u64 0)))), false, []⟩,
    ⟨(some 3), none, (.p (.mv (.c (.bool false)))), false, []⟩] (some ⟨[0], [], false⟩))
  (.seq
   (.seq
    (.region 0 [⟨(some 8), none, (.p (.mv (.t 0))), false, []⟩,
      ⟨(some 9), none, (.p (.lenS (.t 8))), false, []⟩,
      ⟨(some 10), none, (.p (.bin .neq (.t 9) (.c (.int .i64 17)))), false, []⟩] (some ⟨[0, 10], [], false⟩))
    (.cond (.t 10)
     (.seq
      (.region 0 [⟨(some 2), none, (.p (.mv (.c (.int .u64 0)))), false, []⟩,
        ⟨(some 3), none, (.p (.mv (.c (.bool false)))), false, []⟩] (some ⟨[2, 3], [], false⟩))
      .ret)
     .skip))
   (.seq
    (.region 0 [⟨(some 4), none, (.p (.mv (.c (.int .u64 0)))), false, []⟩] (some ⟨[0, 4], [], false⟩))
    (.seq
     (.seq
      (.region 0 [⟨(some 11), none, (.p (.mv (.c (.int .i64 0)))), false, []⟩] (some ⟨[0, 4, 11], [], false⟩))
      (.block 0
       (.loop (some ⟨[0, 4, 11], [], true⟩) Try.c12b0)))
     (.seq
      (.region 0 [⟨(some 52), none, (.p (.mv (.t 4))), false, []⟩,
        ⟨(some 2), none, (.p (.mv (.t 52))), false, []⟩,
        ⟨(some 3), none, (.p (.mv (.c (.bool true)))), false, []⟩] (some ⟨[2, 3], [], false⟩))
      .ret)))))
theorem Try.run12 {xs : List AV} {r : AV} (hl : xs.length ≤ 53) (h : aw Try.prog Try.c12 (Pv.Ends [2, 3] r) (entry xs)) : Run Try.prog 12 xs r :=
  run_of (fun _ _ => drawOk Try.mixed) Try.func12 rfl rfl rfl (by kernel_rfl) (by kernel_rfl) hl h
/-! 13 paling/palingref01.Read : params [9], results [22, 4], free 0, zeros [(.string ⟨#[]⟩)] -/
def Try.c13b0 : AC :=
 (.seq
  (.seq
   (.region 0 [⟨(some 10), none, (.p (.mv (.t 5))), false, []⟩,
     ⟨(some 11), none, (.p (.bin .lss (.t 10) (.c (.int .i64 17)))), false, []⟩] (some ⟨[0, 4, 5, 11], [], false⟩))
   (.cond (.t 11)
    .skip
    (.exit 0)))
  (.seq
   (.block 1
    (.seq
     (.region 0 [⟨(some 6), none, (.p (.mv (.c (.int .u64 0)))), false, []⟩] (some ⟨[0, 4, 5, 6], [], false⟩))
     (.seq
      (.seq
       (.region 0 [⟨(some 14), none, (.p (.mv (.t 0))), false, []⟩,
         ⟨(some 15), none, (.p (.mv (.t 5))), false, []⟩,
         ⟨(some 16), none, (.p (.idxs (.t 14) (.t 15))), false, []⟩,
         ⟨(some 17), none, (.p (.bin .geq (.t 16) (.c (.int .u8 48)))), false, []⟩,
         ⟨(some 18), none, (.p (.mv (.t 17))), false, []⟩,
         ⟨(some 19), (some (18, true)), (.p (.mv (.t 0))), false, []⟩,
         ⟨(some 20), (some (18, true)), (.p (.mv (.t 5))), false, []⟩,
         ⟨(some 21), (some (18, true)), (.p (.idxs (.t 19) (.t 20))), false, []⟩,
         ⟨(some 22), (some (18, true)), (.p (.bin .leq (.t 21) (.c (.int .u8 57)))), false, []⟩,
         ⟨(some 23), none, (.p (.pick (.t 18) (.t 22) (.c (.bool false)))), false, []⟩] (some ⟨[0, 4, 5, 6, 23], [], false⟩))
       (.cond (.t 23)
        (.region 0 [⟨(some 24), none, (.p (.mv (.t 0))), false, []⟩,
          ⟨(some 25), none, (.p (.mv (.t 5))), false, []⟩,
          ⟨(some 26), none, (.p (.idxs (.t 24) (.t 25))), false, []⟩,
          ⟨(some 27), none, (.p (.convI .u64 (.t 26))), false, []⟩,
          ⟨(some 28), none, (.p (.bin .sub (.t 27) (.c (.int .u64 48)))), false, []⟩,
          ⟨(some 6), none, (.p (.mv (.t 28))), false, []⟩] (some ⟨[0, 4, 5, 6], [], false⟩))
        .skip))
      (.seq
       (.seq
        (.region 0 [⟨(some 29), none, (.p (.mv (.t 0))), false, []⟩,
          ⟨(some 30), none, (.p (.mv (.t 5))), false, []⟩,
          ⟨(some 31), none, (.p (.idxs (.t 29) (.t 30))), false, []⟩,
          ⟨(some 32), none, (.p (.bin .geq (.t 31) (.c (.int .u8 97)))), false, []⟩,
          ⟨(some 33), none, (.p (.mv (.t 32))), false, []⟩,
          ⟨(some 34), (some (33, true)), (.p (.mv (.t 0))), false, []⟩,
          ⟨(some 35), (some (33, true)), (.p (.mv (.t 5))), false, []⟩,
          ⟨(some 36), (some (33, true)), (.p (.idxs (.t 34) (.t 35))), false, []⟩,
          ⟨(some 37), (some (33, true)), (.p (.bin .leq (.t 36) (.c (.int .u8 102)))), false, []⟩,
          ⟨(some 38), none, (.p (.pick (.t 33) (.t 37) (.c (.bool false)))), false, []⟩] (some ⟨[0, 4, 5, 6, 38], [], false⟩))
        (.cond (.t 38)
         (.region 0 [⟨(some 39), none, (.p (.mv (.t 0))), false, []⟩,
           ⟨(some 40), none, (.p (.mv (.t 5))), false, []⟩,
           ⟨(some 41), none, (.p (.idxs (.t 39) (.t 40))), false, []⟩,
           ⟨(some 42), none, (.p (.convI .u64 (.t 41))), false, []⟩,
           ⟨(some 43), none, (.p (.bin .sub (.t 42) (.c (.int .u64 87)))), false, []⟩,
           ⟨(some 6), none, (.p (.mv (.t 43))), false, []⟩] (some ⟨[0, 4, 5, 6], [], false⟩))
         .skip))
       (.seq
        (.region 0 [⟨(some 44), none, (.p (.mv (.t 5))), false, []⟩,
          ⟨(some 45), none, (.p (.bin .rem (.t 44) (.c (.int .i64 3)))), false, []⟩,
          ⟨(some 46), none, (.p (.bin .neq (.t 45) (.c (.int .i64 2)))), false, []⟩] (some ⟨[0, 4, 5, 6, 46], [], false⟩))
        (.cond (.t 46)
         (.region 0 [⟨(some 47), none, (.p (.mv (.t 4))), false, []⟩,
           ⟨(some 48), none, (.p (.bin .mul (.t 47) (.c (.int .u64 16)))), false, []⟩,
           ⟨(some 49), none, (.p (.mv (.t 6))), false, []⟩,
           ⟨(some 50), none, (.p (.bin .add (.t 48) (.t 49))), false, []⟩,
           ⟨(some 4), none, (.p (.mv (.t 50))), false, []⟩] (some ⟨[0, 4, 5], [], false⟩))
         .skip))))))
   (.region 0 [⟨(some 12), none, (.p (.mv (.t 5))), false, []⟩,
     ⟨(some 13), none, (.p (.bin .add (.t 12) (.c (.int .i64 1)))), false, []⟩,
     ⟨(some 5), none, (.p (.mv (.t 13))), false, []⟩] (some ⟨[0, 4, 5], [], false⟩))))
def Try.c13 : AC :=
 (.seq
  (.region 0 [⟨(some 2), none, (.p (.mv (.c (.int .u64 0)))), false, []⟩,
    ⟨(some 3), none, (.p (.mv (.c (.bool false)))), false, []⟩] (some ⟨[0], [], false⟩))
  (.seq
   (.seq
    (.region 0 [⟨(some 7), none, (.p (.mv (.t 0))), false, []⟩,
      ⟨(some 8), none, (.p (.lenS (.t 7))), false, []⟩,
      ⟨(some 9), none, (.p (.bin .neq (.t 8) (.c (.int .i64 17)))), false, []⟩] (some ⟨[0, 9], [], false⟩))
    (.cond (.t 9)
     (.seq
      (.region 0 [⟨(some 2), none, (.p (.mv (.c (.int .u64 0)))), false, []⟩,
        ⟨(some 3), none, (.p (.mv (.c (.bool false)))), false, []⟩] (some ⟨[2, 3], [], false⟩))
      .ret)
     .skip))
   (.seq
    (.region 0 [⟨(some 4), none, (.p (.mv (.c (.int .u64 0)))), false, []⟩] (some ⟨[0, 4], [], false⟩))
    (.seq
     (.seq
      (.region 0 [⟨(some 5), none, (.p (.mv (.c (.int .i64 0)))), false, []⟩] (some ⟨[0, 4, 5], [], false⟩))
      (.block 0
       (.loop (some ⟨[0, 4, 5], [], true⟩) Try.c13b0)))
     (.seq
      (.seq
       (.region 0 [⟨(some 51), none, (.p (.mv (.t 4))), false, []⟩,
         ⟨(some 52), none, (.call 15 [(.t 51)] false), false, []⟩,
         ⟨(some 53), none, (.p (.mv (.t 0))), false, []⟩,
         ⟨(some 54), none, (.p (.bin .neq (.t 52) (.t 53))), false, []⟩] (some ⟨[4, 54], [], false⟩))
       (.cond (.t 54)
        (.seq
         (.region 0 [⟨(some 2), none, (.p (.mv (.c (.int .u64 0)))), false, []⟩,
           ⟨(some 3), none, (.p (.mv (.c (.bool false)))), false, []⟩] (some ⟨[2, 3], [], false⟩))
         .ret)
        .skip))
      (.seq
       (.region 0 [⟨(some 55), none, (.p (.mv (.t 4))), false, []⟩,
         ⟨(some 2), none, (.p (.mv (.t 55))), false, []⟩,
         ⟨(some 3), none, (.p (.mv (.c (.bool true)))), false, []⟩] (some ⟨[2, 3], [], false⟩))
       .ret))))))
theorem Try.run13 {xs : List AV} {r : AV} (hl : xs.length ≤ 56) (h : aw Try.prog Try.c13 (Pv.Ends [2, 3] r) (entry xs)) : Run Try.prog 13 xs r :=
  run_of (fun _ _ => drawOk Try.mixed) Try.func13 rfl rfl rfl (by kernel_rfl) (by kernel_rfl) hl h
/-! 14 paling/mac.Text : params [22], results [9], free 0, zeros [(.int .u64 (0))] -/
def Try.c14b0 : AC :=
 (.seq
  (.region 0 [⟨(some 7), none, (.p (.bin .lss (.t 6) (.c (.int .i64 6)))), false, []⟩] (some ⟨[0, 3, 6, 7], [], false⟩))
  (.seq
   (.cond (.t 7)
    .skip
    (.exit 0))
   (.seq
    (.block 1
     (.seq
      (.region 0 [⟨(some 8), none, (.p (.mv (.t 6))), false, []⟩,
        ⟨(some 4), none, (.p (.mv (.t 8))), false, []⟩] (some ⟨[0, 3, 4, 6], [], false⟩))
      (.seq
       (.region 0 [⟨(some 9), none, (.p (.mv (.t 0))), false, []⟩,
         ⟨(some 10), none, (.p (.mv (.t 4))), false, []⟩,
         ⟨(some 11), none, (.call 36 [(.t 10)] false), false, []⟩,
         ⟨(some 12), none, (.p (.bin .shr (.t 9) (.t 11))), false, []⟩,
         ⟨(some 13), none, (.p (.convI .u8 (.t 12))), false, []⟩,
         ⟨(some 5), none, (.p (.mv (.t 13))), false, []⟩] (some ⟨[0, 3, 4, 5, 6], [], false⟩))
       (.seq
        (.seq
         (.region 0 [⟨(some 14), none, (.p (.mv (.t 4))), false, []⟩,
           ⟨(some 15), none, (.p (.bin .gtr (.t 14) (.c (.int .i64 0)))), false, []⟩] (some ⟨[0, 3, 5, 6, 15], [], false⟩))
         (.cond (.t 15)
          (.region 0 [⟨(some 16), none, (.p (.mv (.t 3))), false, []⟩,
            ⟨(some 17), none, (.e (.mks 5 1 (.int .u8 0) 1 [(0, (.c (.int .u8 58)))]) none), false, []⟩,
            ⟨(some 18), none, (.e (.append 5 1 (.t 16) (.t 17)) none), false, []⟩,
            ⟨(some 3), none, (.p (.mv (.t 18))), false, []⟩] (some ⟨[0, 3, 5, 6], [], false⟩))
          .skip))
        (.region 10 [⟨(some 19), none, (.p (.mv (.t 3))), true, [5]⟩,
          ⟨(some 20), none, (.p (.mv (.t 5))), true, [5]⟩,
          ⟨(some 21), none, (.p (.bin .shr (.t 20) (.c (.int .u64 4)))), true, [5]⟩,
          ⟨(some 22), none, (.p (.idxs (.c (.str [48, 49, 50, 51, 52, 53, 54, 55, 56, 57, 97, 98, 99, 100, 101, 102])) (.t 21))), true, [5]⟩,
          ⟨(some 23), none, (.p (.mv (.t 5))), true, [5]⟩,
          ⟨(some 24), none, (.p (.bin .and (.t 23) (.c (.int .u8 15)))), true, [5]⟩,
          ⟨(some 25), none, (.p (.idxs (.c (.str [48, 49, 50, 51, 52, 53, 54, 55, 56, 57, 97, 98, 99, 100, 101, 102])) (.t 24))), true, [5]⟩,
          ⟨(some 26), none, (.e (.mks 5 1 (.int .u8 0) 2 [(0, (.t 22)), (1, (.t 25))]) (some 7)), true, [5]⟩,
          ⟨(some 27), none, (.e (.append 5 1 (.t 19) (.t 26)) (some 8)), true, [5]⟩,
          ⟨(some 3), none, (.p (.mv (.t 27))), true, [5]⟩] (some ⟨[0, 3, 6], [], true⟩))))))
    (.region 0 [⟨(some 28), none, (.p (.bin .add (.t 6) (.c (.int .i64 1)))), false, []⟩,
      ⟨(some 6), none, (.p (.mv (.t 28))), false, []⟩] (some ⟨[0, 3, 6], [], false⟩)))))
def Try.c14 : AC :=
 (.seq
  (.region 0 [⟨(some 2), none, (.p (.mv (.c (.str [])))), false, []⟩] (some ⟨[0], [], false⟩))
  (.seq
   (.region 0 [⟨(some 3), none, (.p (.mv (.c (.sl 0 [] true)))), false, []⟩] (some ⟨[0, 3], [], false⟩))
   (.seq
    (.seq
     (.region 0 [⟨(some 6), none, (.p (.mv (.c (.int .i64 0)))), false, []⟩] (some ⟨[0, 3, 6], [], false⟩))
     (.block 0
      (.loop (some ⟨[0, 3, 6], [(3, (1, 5))], true⟩) Try.c14b0)))
    (.seq
     (.region 0 [⟨(some 29), none, (.p (.mv (.t 3))), false, []⟩,
       ⟨(some 30), none, (.r (.b2s (.t 29))), false, []⟩,
       ⟨(some 2), none, (.p (.mv (.t 30))), false, []⟩] (some ⟨[2], [], false⟩))
     .ret))))
theorem Try.run14 {xs : List AV} {r : AV} (hl : xs.length ≤ 31) (h : aw Try.prog Try.c14 (Pv.Ends [2] r) (entry xs)) : Run Try.prog 14 xs r :=
  run_of (fun _ _ => drawOk Try.mixed) Try.func14 rfl rfl rfl (by kernel_rfl) (by kernel_rfl) hl h
/-! 15 paling/palingref01.Text : params [22], results [9], free 0, zeros [(.int .u64 (0))] -/
def Try.c15b0 : AC :=
 (.seq
  (.seq
   (.region 0 [⟨(some 9), none, (.p (.mv (.t 6))), false, []⟩,
     ⟨(some 10), none, (.p (.bin .lss (.t 9) (.c (.int .i64 6)))), false, []⟩] (some ⟨[3, 4, 5, 6, 10], [], false⟩))
   (.cond (.t 10)
    .skip
    (.exit 0)))
  (.seq
   (.block 1
    (.seq
     (.seq
      (.region 0 [⟨(some 13), none, (.p (.mv (.t 6))), false, []⟩,
        ⟨(some 14), none, (.p (.bin .gtr (.t 13) (.c (.int .i64 0)))), false, []⟩] (some ⟨[3, 4, 5, 6, 14], [], false⟩))
      (.cond (.t 14)
       (.region 0 [⟨(some 15), none, (.p (.mv (.t 5))), false, []⟩,
         ⟨(some 16), none, (.p (.bin .add (.t 15) (.c (.str [58])))), false, []⟩,
         ⟨(some 5), none, (.p (.mv (.t 16))), false, []⟩] (some ⟨[3, 4, 5, 6], [], false⟩))
       .skip))
     (.region 30 [⟨(some 17), none, (.p (.mv (.t 5))), false, []⟩,
       ⟨(some 18), none, (.p (.mv (.t 3))), false, []⟩,
       ⟨(some 19), none, (.p (.mv (.t 4))), false, []⟩,
       ⟨(some 20), none, (.p (.mv (.t 6))), false, []⟩,
       ⟨(some 21), none, (.p (.iaddr 1 (.t 19) (.t 20))), false, []⟩,
       ⟨(some 22), none, (.r (.load 1 false (.t 21))), false, []⟩,
       ⟨(some 23), none, (.p (.bin .quo (.t 22) (.c (.int .u8 16)))), false, []⟩,
       ⟨(some 24), none, (.p (.mv (.t 4))), false, []⟩,
       ⟨(some 25), none, (.p (.mv (.t 6))), false, []⟩,
       ⟨(some 26), none, (.p (.iaddr 1 (.t 24) (.t 25))), false, []⟩,
       ⟨(some 27), none, (.r (.load 1 false (.t 26))), false, []⟩,
       ⟨(some 28), none, (.p (.bin .quo (.t 27) (.c (.int .u8 16)))), false, []⟩,
       ⟨(some 29), none, (.p (.bin .add (.t 28) (.c (.int .u8 1)))), false, []⟩,
       ⟨(some 30), none, (.p (.slices (.t 18) (some (.t 23)) (some (.t 29)))), false, []⟩,
       ⟨(some 31), none, (.p (.bin .add (.t 17) (.t 30))), false, []⟩,
       ⟨(some 32), none, (.p (.mv (.t 3))), false, []⟩,
       ⟨(some 33), none, (.p (.mv (.t 4))), false, []⟩,
       ⟨(some 34), none, (.p (.mv (.t 6))), false, []⟩,
       ⟨(some 35), none, (.p (.iaddr 1 (.t 33) (.t 34))), false, []⟩,
       ⟨(some 36), none, (.r (.load 1 false (.t 35))), false, []⟩,
       ⟨(some 37), none, (.p (.bin .rem (.t 36) (.c (.int .u8 16)))), false, []⟩,
       ⟨(some 38), none, (.p (.mv (.t 4))), false, []⟩,
       ⟨(some 39), none, (.p (.mv (.t 6))), false, []⟩,
       ⟨(some 40), none, (.p (.iaddr 1 (.t 38) (.t 39))), false, []⟩,
       ⟨(some 41), none, (.r (.load 1 false (.t 40))), false, []⟩,
       ⟨(some 42), none, (.p (.bin .rem (.t 41) (.c (.int .u8 16)))), false, []⟩,
       ⟨(some 43), none, (.p (.bin .add (.t 42) (.c (.int .u8 1)))), false, []⟩,
       ⟨(some 44), none, (.p (.slices (.t 32) (some (.t 37)) (some (.t 43)))), false, []⟩,
       ⟨(some 45), none, (.p (.bin .add (.t 31) (.t 44))), false, []⟩,
       ⟨(some 5), none, (.p (.mv (.t 45))), false, []⟩] (some ⟨[3, 4, 5, 6], [], true⟩))))
   (.region 0 [⟨(some 11), none, (.p (.mv (.t 6))), false, []⟩,
     ⟨(some 12), none, (.p (.bin .add (.t 11) (.c (.int .i64 1)))), false, []⟩,
     ⟨(some 6), none, (.p (.mv (.t 12))), false, []⟩] (some ⟨[3, 4, 5, 6], [], false⟩))))
def Try.c15 : AC :=
 (.seq
  (.region 0 [⟨(some 2), none, (.p (.mv (.c (.str [])))), false, []⟩] (some ⟨[0], [], false⟩))
  (.seq
   (.region 0 [⟨(some 3), none, (.p (.mv (.c (.str [48, 49, 50, 51, 52, 53, 54, 55, 56, 57, 97, 98, 99, 100, 101, 102])))), false, []⟩] (some ⟨[0, 3], [], false⟩))
   (.seq
    (.region 0 [⟨(some 7), none, (.p (.mv (.t 0))), false, []⟩,
      ⟨(some 8), none, (.call 37 [(.t 7)] false), false, []⟩,
      ⟨(some 4), none, (.p (.mv (.t 8))), false, []⟩] (some ⟨[3, 4], [], false⟩))
    (.seq
     (.region 0 [⟨(some 5), none, (.p (.mv (.c (.str [])))), false, []⟩] (some ⟨[3, 4, 5], [], false⟩))
     (.seq
      (.seq
       (.region 0 [⟨(some 6), none, (.p (.mv (.c (.int .i64 0)))), false, []⟩] (some ⟨[3, 4, 5, 6], [], false⟩))
       (.block 0
        (.loop (some ⟨[3, 4, 5, 6], [], true⟩) Try.c15b0)))
      (.seq
       (.region 0 [⟨(some 46), none, (.p (.mv (.t 5))), false, []⟩,
         ⟨(some 2), none, (.p (.mv (.t 46))), false, []⟩] (some ⟨[2], [], false⟩))
       .ret))))))
theorem Try.run15 {xs : List AV} {r : AV} (hl : xs.length ≤ 47) (h : aw Try.prog Try.c15 (Pv.Ends [2] r) (entry xs)) : Run Try.prog 15 xs r :=
  run_of (fun _ _ => drawOk Try.mixed) Try.func15 rfl rfl rfl (by kernel_rfl) (by kernel_rfl) hl h
/-! 16 paling/palinglaw01.works : params [], results [4], free 0, zeros [] -/
def Try.c16 : AC :=
 (.seq
  (.region 0 [⟨(some 0), none, (.p (.mv (.c (.bool false)))), false, []⟩] (some ⟨[], [], false⟩))
  (.seq
   (.region 0 [⟨(some 4), none, (.call 12 [(.c (.str [48, 48, 58, 48, 48, 58, 48, 48, 58, 48, 48, 58, 48, 97, 58, 98, 99]))] false), false, []⟩,
     ⟨(some 3), none, (.p (.mv (.t 4))), false, []⟩,
     ⟨(some 5), none, (.p (.ext (.t 3) 0)), false, []⟩,
     ⟨(some 6), none, (.p (.ext (.t 3) 1)), false, []⟩,
     ⟨(some 1), none, (.p (.mv (.t 5))), false, []⟩,
     ⟨(some 2), none, (.p (.mv (.t 6))), false, []⟩] (some ⟨[1, 2], [], false⟩))
   (.seq
    (.region 0 [⟨(some 7), none, (.call 14 [(.c (.int .u64 2748))] false), false, []⟩,
      ⟨(some 8), none, (.p (.bin .eql (.t 7) (.c (.str [48, 48, 58, 48, 48, 58, 48, 48, 58, 48, 48, 58, 48, 97, 58, 98, 99])))), false, []⟩,
      ⟨(some 9), none, (.p (.mv (.t 8))), false, []⟩,
      ⟨(some 10), (some (9, true)), (.call 27 [(.c (.int .u32 1))] false), false, []⟩,
      ⟨(some 11), (some (9, true)), (.call 14 [(.t 10)] false), false, []⟩,
      ⟨(some 12), (some (9, true)), (.p (.bin .eql (.t 11) (.c (.str [48, 50, 58, 48, 48, 58, 48, 48, 58, 48, 48, 58, 48, 48, 58, 48, 49])))), false, []⟩,
      ⟨(some 13), none, (.p (.pick (.t 9) (.t 12) (.c (.bool false)))), false, []⟩,
      ⟨(some 14), none, (.p (.mv (.t 13))), false, []⟩,
      ⟨(some 15), (some (14, true)), (.p (.mv (.t 1))), false, []⟩,
      ⟨(some 16), (some (14, true)), (.p (.bin .eql (.t 15) (.c (.int .u64 2748)))), false, []⟩,
      ⟨(some 17), none, (.p (.pick (.t 14) (.t 16) (.c (.bool false)))), false, []⟩,
      ⟨(some 18), none, (.p (.mv (.t 17))), false, []⟩,
      ⟨(some 19), (some (18, true)), (.p (.mv (.t 2))), false, []⟩,
      ⟨(some 20), none, (.p (.pick (.t 18) (.t 19) (.c (.bool false)))), false, []⟩,
      ⟨(some 21), none, (.p (.mv (.t 20))), false, []⟩,
      ⟨(some 22), (some (21, true)), (.call 25 [(.c (.int .u64 281474976710655))] false), false, []⟩,
      ⟨(some 23), none, (.p (.pick (.t 21) (.t 22) (.c (.bool false)))), false, []⟩,
      ⟨(some 0), none, (.p (.mv (.t 23))), false, []⟩] (some ⟨[0], [], false⟩))
    .ret)))
theorem Try.run16 {xs : List AV} {r : AV} (hl : xs.length ≤ 24) (h : aw Try.prog Try.c16 (Pv.Ends [0] r) (entry xs)) : Run Try.prog 16 xs r :=
  run_of (fun _ _ => drawOk Try.mixed) Try.func16 rfl rfl rfl (by kernel_rfl) (by kernel_rfl) hl h
/-! 17 paling/palinglaw04.works : params [], results [4], free 0, zeros [] -/
def Try.c17 : AC :=
 (.seq
  (.region 0 [⟨(some 0), none, (.p (.mv (.c (.bool false)))), false, []⟩] (some ⟨[], [], false⟩))
  (.seq
   (.region 0 [⟨(some 6), none, (.e (.mks 5 1 (.int .u8 0) 1 [(0, (.c (.int .u8 97)))]) none), false, []⟩,
     ⟨(some 7), none, (.e (.mark (.t 6)) none), false, []⟩,
     ⟨(some 8), none, (.p (.build [(.int .u64 0), (.int .u64 0), (.int .i64 0), (.sl 0 [] true)] [(0, 1, (.c (.int .u64 281474976710655))), (1, 1, (.c (.int .u64 1))), (2, 1, (.c (.int .i64 2048))), (3, 1, (.t 7))])), false, []⟩,
     ⟨(some 1), none, (.e (.alloc 30 (.agg [(.int .u64 0), (.int .u64 0), (.int .i64 0), (.sl 0 [] true)])) none), false, []⟩,
     ⟨none, none, (.e (.store 4 (.t 1) (.t 8)) none), false, []⟩] (some ⟨[1], [], false⟩))
   (.seq
    (.region 0 [⟨(some 10), none, (.r (.load 4 true (.t 1))), false, []⟩,
      ⟨(some 11), none, (.call 21 [(.t 10)] false), false, []⟩,
      ⟨(some 9), none, (.p (.mv (.t 11))), false, []⟩,
      ⟨(some 12), none, (.p (.ext (.t 9) 0)), false, []⟩,
      ⟨(some 13), none, (.p (.ext (.t 9) 1)), false, []⟩,
      ⟨(some 2), none, (.p (.mv (.t 12))), false, []⟩,
      ⟨(some 3), none, (.p (.mv (.t 13))), false, []⟩] (some ⟨[1, 2, 3], [], false⟩))
    (.seq
     (.region 0 [⟨(some 15), none, (.p (.mv (.t 2))), false, []⟩,
       ⟨(some 16), none, (.call 18 [(.t 15)] false), false, []⟩,
       ⟨(some 14), none, (.p (.mv (.t 16))), false, []⟩,
       ⟨(some 17), none, (.p (.ext (.t 14) 0)), false, []⟩,
       ⟨(some 18), none, (.p (.ext (.t 14) 1)), false, []⟩,
       ⟨(some 4), none, (.e (.alloc 30 (.agg [(.int .u64 0), (.int .u64 0), (.int .i64 0), (.sl 0 [] true)])) none), false, []⟩,
       ⟨none, none, (.e (.store 4 (.t 4) (.t 17)) none), false, []⟩,
       ⟨(some 5), none, (.p (.mv (.t 18))), false, []⟩] (some ⟨[1, 2, 3, 4, 5], [], false⟩))
     (.seq
      (.region 0 [⟨(some 19), none, (.p (.mv (.t 3))), false, []⟩,
        ⟨(some 20), none, (.p (.bin .eql (.t 19) (.c (.int .i64 0)))), false, []⟩,
        ⟨(some 21), none, (.p (.mv (.t 20))), false, []⟩,
        ⟨(some 22), (some (21, true)), (.p (.mv (.t 2))), false, []⟩,
        ⟨(some 23), (some (21, true)), (.r (.b2s (.t 22))), false, []⟩,
        ⟨(some 24), (some (21, true)), (.p (.bin .eql (.t 23) (.c (.str [255, 255, 255, 255, 255, 255, 0, 0, 0, 0, 0, 1, 8, 0, 97])))), false, []⟩,
        ⟨(some 25), none, (.p (.pick (.t 21) (.t 24) (.c (.bool false)))), false, []⟩,
        ⟨(some 26), none, (.p (.mv (.t 25))), false, []⟩,
        ⟨(some 27), (some (26, true)), (.p (.mv (.t 5))), false, []⟩,
        ⟨(some 28), (some (26, true)), (.p (.bin .eql (.t 27) (.c (.int .i64 0)))), false, []⟩,
        ⟨(some 29), none, (.p (.pick (.t 26) (.t 28) (.c (.bool false)))), false, []⟩,
        ⟨(some 30), none, (.p (.mv (.t 29))), false, []⟩,
        ⟨(some 31), (some (30, true)), (.r (.load 4 true (.t 1))), false, []⟩,
        ⟨(some 32), (some (30, true)), (.r (.load 4 true (.t 4))), false, []⟩,
        ⟨(some 33), (some (30, true)), (.call 22 [(.t 31), (.t 32)] false), false, []⟩,
        ⟨(some 34), none, (.p (.pick (.t 30) (.t 33) (.c (.bool false)))), false, []⟩,
        ⟨(some 0), none, (.p (.mv (.t 34))), false, []⟩] (some ⟨[0], [], false⟩))
      .ret)))))
theorem Try.run17 {xs : List AV} {r : AV} (hl : xs.length ≤ 35) (h : aw Try.prog Try.c17 (Pv.Ends [0] r) (entry xs)) : Run Try.prog 17 xs r :=
  run_of (fun _ _ => drawOk Try.mixed) Try.func17 rfl rfl rfl (by kernel_rfl) (by kernel_rfl) hl h
/-! 18 paling/ether.Take : params [28], results [30, 31], free 0, zeros [(.slice none 0 0)] -/
def Try.c18 : AC :=
 (.seq
  (.region 0 [⟨(some 2), none, (.e (.alloc 30 (.agg [(.int .u64 0), (.int .u64 0), (.int .i64 0), (.sl 0 [] true)])) none), false, []⟩,
    ⟨(some 3), none, (.p (.mv (.c (.int .i64 0)))), false, []⟩] (some ⟨[0, 2], [], false⟩))
  (.seq
   (.block 0
    (.seq
     (.region 0 [⟨(some 10), none, (.p (.mv (.t 0))), false, []⟩,
       ⟨(some 11), none, (.p (.len (.t 10))), false, []⟩,
       ⟨(some 12), none, (.p (.bin .lss (.t 11) (.c (.int .i64 14)))), false, []⟩,
       ⟨(some 9), none, (.p (.mv (.t 12))), false, []⟩] (some ⟨[0, 2, 9], [], false⟩))
     (.cond (.t 9)
      (.seq
       (.region 0 [⟨(some 13), none, (.p (.build [(.int .u64 0), (.int .u64 0), (.int .i64 0), (.sl 0 [] true)] [])), false, []⟩,
         ⟨none, none, (.e (.store 4 (.t 2) (.t 13)) none), false, []⟩,
         ⟨(some 3), none, (.p (.mv (.c (.int .i64 10)))), false, []⟩] (some ⟨[2, 3], [], false⟩))
       .ret)
      (.seq
       (.region 0 [⟨(some 15), none, (.p (.mv (.t 0))), false, []⟩,
         ⟨(some 16), none, (.p (.len (.t 15))), false, []⟩,
         ⟨(some 17), none, (.p (.bin .gtr (.t 16) (.c (.int .i64 1518)))), false, []⟩,
         ⟨(some 14), none, (.p (.mv (.t 17))), false, []⟩] (some ⟨[0, 2, 14], [], false⟩))
       (.cond (.t 14)
        (.seq
         (.region 0 [⟨(some 18), none, (.p (.build [(.int .u64 0), (.int .u64 0), (.int .i64 0), (.sl 0 [] true)] [])), false, []⟩,
           ⟨none, none, (.e (.store 4 (.t 2) (.t 18)) none), false, []⟩,
           ⟨(some 3), none, (.p (.mv (.c (.int .i64 14)))), false, []⟩] (some ⟨[2, 3], [], false⟩))
         .ret)
        .skip)))))
   (.seq
    (.region 0 [⟨(some 20), none, (.p (.mv (.t 0))), false, []⟩,
      ⟨(some 21), none, (.call 31 [(.t 20), (.c (.int .i64 0))] false), false, []⟩,
      ⟨(some 19), none, (.p (.mv (.t 21))), false, []⟩,
      ⟨(some 22), none, (.p (.ext (.t 19) 0)), false, []⟩,
      ⟨(some 23), none, (.p (.ext (.t 19) 1)), false, []⟩,
      ⟨(some 4), none, (.p (.mv (.t 22))), false, []⟩,
      ⟨(some 5), none, (.p (.mv (.t 23))), false, []⟩] (some ⟨[0, 2, 4], [], false⟩))
    (.seq
     (.region 0 [⟨(some 25), none, (.p (.mv (.t 0))), false, []⟩,
       ⟨(some 26), none, (.call 31 [(.t 25), (.c (.int .i64 6))] false), false, []⟩,
       ⟨(some 24), none, (.p (.mv (.t 26))), false, []⟩,
       ⟨(some 27), none, (.p (.ext (.t 24) 0)), false, []⟩,
       ⟨(some 28), none, (.p (.ext (.t 24) 1)), false, []⟩,
       ⟨(some 6), none, (.p (.mv (.t 27))), false, []⟩,
       ⟨(some 7), none, (.p (.mv (.t 28))), false, []⟩] (some ⟨[0, 2, 4, 6], [], false⟩))
     (.seq
      (.region 0 [⟨(some 29), none, (.p (.mv (.t 0))), false, []⟩,
        ⟨(some 30), none, (.p (.len (.t 29))), false, []⟩,
        ⟨(some 31), none, (.p (.bin .sub (.t 30) (.c (.int .i64 14)))), false, []⟩,
        ⟨(some 32), none, (.e (.make 5 1 (.int .u8 0) (.t 31) (.t 31)) none), false, []⟩,
        ⟨(some 8), none, (.p (.mv (.t 32))), false, []⟩] (some ⟨[0, 2, 4, 6, 8], [], false⟩))
      (.seq
       (.region 0 [⟨(some 33), none, (.p (.mv (.t 8))), false, []⟩,
         ⟨(some 34), none, (.p (.mv (.t 0))), false, []⟩,
         ⟨(some 35), none, (.p (.slicev 1 (.t 34) (some (.c (.int .i64 14))) none none)), false, []⟩,
         ⟨(some 36), none, (.e (.copy 1 (.t 33) (.t 35)) none), false, []⟩] (some ⟨[0, 2, 4, 6, 8], [], false⟩))
       (.seq
        (.region 16 [⟨(some 37), none, (.p (.mv (.t 4))), false, []⟩,
          ⟨(some 38), none, (.p (.mv (.t 6))), false, []⟩,
          ⟨(some 39), none, (.p (.mv (.t 0))), false, []⟩,
          ⟨(some 40), none, (.p (.iaddr 1 (.t 39) (.c (.int .i64 12)))), false, []⟩,
          ⟨(some 41), none, (.r (.load 1 false (.t 40))), false, []⟩,
          ⟨(some 42), none, (.p (.convI .i64 (.t 41))), false, []⟩,
          ⟨(some 43), none, (.p (.bin .shl (.t 42) (.c (.int .u64 8)))), false, []⟩,
          ⟨(some 44), none, (.p (.mv (.t 0))), false, []⟩,
          ⟨(some 45), none, (.p (.iaddr 1 (.t 44) (.c (.int .i64 13)))), false, []⟩,
          ⟨(some 46), none, (.r (.load 1 false (.t 45))), false, []⟩,
          ⟨(some 47), none, (.p (.convI .i64 (.t 46))), false, []⟩,
          ⟨(some 48), none, (.p (.bin .or (.t 43) (.t 47))), false, []⟩,
          ⟨(some 49), none, (.p (.mv (.t 8))), false, []⟩,
          ⟨(some 50), none, (.p (.build [(.int .u64 0), (.int .u64 0), (.int .i64 0), (.sl 0 [] true)] [(0, 1, (.t 37)), (1, 1, (.t 38)), (2, 1, (.t 48)), (3, 1, (.t 49))])), false, []⟩,
          ⟨none, none, (.e (.store 4 (.t 2) (.t 50)) (some 14)), false, []⟩,
          ⟨(some 3), none, (.p (.mv (.c (.int .i64 0)))), false, []⟩] (some ⟨[2, 3], [], true⟩))
        .ret)))))))
theorem Try.run18 {xs : List AV} {r : AV} (hl : xs.length ≤ 51) (h : aw Try.prog Try.c18 (Pv.EndsX (rvs [.c 2 4 true, .t 3]) r) (entry xs)) : Run Try.prog 18 xs r :=
  run_ofC (fun _ _ => drawOk Try.mixed) Try.func18 rfl rfl (by kernel_rfl) (by kernel_rfl) (by kernel_rfl) hl h
/-! 19 paling/palingref04.Take : params [28], results [30, 3], free 0, zeros [(.slice none 0 0)] -/
def Try.c19 : AC :=
 (.seq
  (.region 0 [⟨(some 2), none, (.e (.alloc 30 (.agg [(.int .u64 0), (.int .u64 0), (.int .i64 0), (.sl 0 [] true)])) none), false, []⟩,
    ⟨(some 3), none, (.p (.mv (.c (.int .i64 0)))), false, []⟩] (some ⟨[0, 2], [], false⟩))
  (.seq
   (.seq
    (.region 0 [⟨(some 8), none, (.p (.mv (.t 0))), false, []⟩,
      ⟨(some 9), none, (.p (.len (.t 8))), false, []⟩,
      ⟨(some 10), none, (.p (.bin .lss (.t 9) (.c (.int .i64 14)))), false, []⟩] (some ⟨[0, 2, 10], [], false⟩))
    (.cond (.t 10)
     (.seq
      (.region 0 [⟨(some 11), none, (.p (.build [(.int .u64 0), (.int .u64 0), (.int .i64 0), (.sl 0 [] true)] [])), false, []⟩,
        ⟨none, none, (.e (.store 4 (.t 2) (.t 11)) none), false, []⟩,
        ⟨(some 3), none, (.p (.mv (.c (.int .i64 10)))), false, []⟩] (some ⟨[2, 3], [], false⟩))
      .ret)
     .skip))
   (.seq
    (.seq
     (.region 0 [⟨(some 12), none, (.p (.mv (.t 0))), false, []⟩,
       ⟨(some 13), none, (.p (.len (.t 12))), false, []⟩,
       ⟨(some 14), none, (.p (.bin .gtr (.t 13) (.c (.int .i64 1518)))), false, []⟩] (some ⟨[0, 2, 14], [], false⟩))
     (.cond (.t 14)
      (.seq
       (.region 0 [⟨(some 15), none, (.p (.build [(.int .u64 0), (.int .u64 0), (.int .i64 0), (.sl 0 [] true)] [])), false, []⟩,
         ⟨none, none, (.e (.store 4 (.t 2) (.t 15)) none), false, []⟩,
         ⟨(some 3), none, (.p (.mv (.c (.int .i64 14)))), false, []⟩] (some ⟨[2, 3], [], false⟩))
       .ret)
      .skip))
    (.seq
     (.region 0 [⟨(some 17), none, (.p (.mv (.t 0))), false, []⟩,
       ⟨(some 18), none, (.call 32 [(.t 17), (.c (.int .i64 0))] false), false, []⟩,
       ⟨(some 16), none, (.p (.mv (.t 18))), false, []⟩,
       ⟨(some 19), none, (.p (.ext (.t 16) 0)), false, []⟩,
       ⟨(some 20), none, (.p (.ext (.t 16) 1)), false, []⟩,
       ⟨(some 4), none, (.p (.mv (.t 19))), false, []⟩,
       ⟨(some 5), none, (.p (.mv (.t 20))), false, []⟩] (some ⟨[0, 2, 4], [], false⟩))
     (.seq
      (.region 0 [⟨(some 22), none, (.p (.mv (.t 0))), false, []⟩,
        ⟨(some 23), none, (.call 32 [(.t 22), (.c (.int .i64 6))] false), false, []⟩,
        ⟨(some 21), none, (.p (.mv (.t 23))), false, []⟩,
        ⟨(some 24), none, (.p (.ext (.t 21) 0)), false, []⟩,
        ⟨(some 25), none, (.p (.ext (.t 21) 1)), false, []⟩,
        ⟨(some 6), none, (.p (.mv (.t 24))), false, []⟩,
        ⟨(some 7), none, (.p (.mv (.t 25))), false, []⟩] (some ⟨[0, 2, 4, 6], [], false⟩))
      (.seq
       (.region 19 [⟨(some 26), none, (.p (.mv (.t 4))), true, [5]⟩,
         ⟨(some 27), none, (.p (.mv (.t 6))), true, [5]⟩,
         ⟨(some 28), none, (.p (.mv (.t 0))), true, [5]⟩,
         ⟨(some 29), none, (.p (.iaddr 1 (.t 28) (.c (.int .i64 12)))), true, [5]⟩,
         ⟨(some 30), none, (.r (.load 1 false (.t 29))), true, [5]⟩,
         ⟨(some 31), none, (.p (.convI .i64 (.t 30))), true, [5]⟩,
         ⟨(some 32), none, (.p (.bin .mul (.t 31) (.c (.int .i64 256)))), true, [5]⟩,
         ⟨(some 33), none, (.p (.mv (.t 0))), true, [5]⟩,
         ⟨(some 34), none, (.p (.iaddr 1 (.t 33) (.c (.int .i64 13)))), true, [5]⟩,
         ⟨(some 35), none, (.r (.load 1 false (.t 34))), true, [5]⟩,
         ⟨(some 36), none, (.p (.convI .i64 (.t 35))), true, [5]⟩,
         ⟨(some 37), none, (.p (.bin .add (.t 32) (.t 36))), true, [5]⟩,
         ⟨(some 39), none, (.p (.mv (.t 0))), true, [5]⟩,
         ⟨(some 40), none, (.p (.slicev 1 (.t 39) (some (.c (.int .i64 14))) none none)), true, [5]⟩,
         ⟨(some 38), none, (.e (.mks 5 1 (.int .u8 0) 0 []) (some 12)), true, [5]⟩,
         ⟨(some 41), none, (.e (.append 5 1 (.t 38) (.t 40)) (some 15)), true, [5]⟩,
         ⟨(some 42), none, (.p (.build [(.int .u64 0), (.int .u64 0), (.int .i64 0), (.sl 0 [] true)] [(0, 1, (.t 26)), (1, 1, (.t 27)), (2, 1, (.t 37)), (3, 1, (.t 41))])), true, [5]⟩,
         ⟨none, none, (.e (.store 4 (.t 2) (.t 42)) (some 17)), true, [5]⟩,
         ⟨(some 3), none, (.p (.mv (.c (.int .i64 0)))), true, [5]⟩] (some ⟨[2, 3], [], true⟩))
       .ret))))))
theorem Try.run19 {xs : List AV} {r : AV} (hl : xs.length ≤ 43) (h : aw Try.prog Try.c19 (Pv.EndsX (rvs [.c 2 4 true, .t 3]) r) (entry xs)) : Run Try.prog 19 xs r :=
  run_ofC (fun _ _ => drawOk Try.mixed) Try.func19 rfl rfl (by kernel_rfl) (by kernel_rfl) (by kernel_rfl) hl h
/-! 20 paling/palingref04.Same : params [30, 30], results [4], free 0, zeros [(.agg #[(.int .u64 (0)), (.int .u64 (0)), (.int .i64 (0)), (.slice none 0 0)]), (.agg #[(.int .u64 (0)), (.int .u64 (0)), (.int .i64 (0)), (.slice none 0 0)])] -/
def Try.c20 : AC :=
 (.seq
  (.region 0 [⟨(some 2), none, (.e (.box 30 (.t 0)) none), false, []⟩,
    ⟨(some 3), none, (.e (.box 30 (.t 1)) none), false, []⟩,
    ⟨(some 4), none, (.p (.mv (.c (.bool false)))), false, []⟩] (some ⟨[2, 3], [], false⟩))
  (.seq
   (.region 0 [⟨(some 5), none, (.p (.faddr 0 (.t 2))), false, []⟩,
     ⟨(some 6), none, (.r (.load 1 false (.t 5))), false, []⟩,
     ⟨(some 7), none, (.p (.faddr 0 (.t 3))), false, []⟩,
     ⟨(some 8), none, (.r (.load 1 false (.t 7))), false, []⟩,
     ⟨(some 9), none, (.p (.bin .eql (.t 6) (.t 8))), false, []⟩,
     ⟨(some 10), none, (.p (.mv (.t 9))), false, []⟩,
     ⟨(some 11), (some (10, true)), (.p (.faddr 1 (.t 2))), false, []⟩,
     ⟨(some 12), (some (10, true)), (.r (.load 1 false (.t 11))), false, []⟩,
     ⟨(some 13), (some (10, true)), (.p (.faddr 1 (.t 3))), false, []⟩,
     ⟨(some 14), (some (10, true)), (.r (.load 1 false (.t 13))), false, []⟩,
     ⟨(some 15), (some (10, true)), (.p (.bin .eql (.t 12) (.t 14))), false, []⟩,
     ⟨(some 16), none, (.p (.pick (.t 10) (.t 15) (.c (.bool false)))), false, []⟩,
     ⟨(some 17), none, (.p (.mv (.t 16))), false, []⟩,
     ⟨(some 18), (some (17, true)), (.p (.faddr 2 (.t 2))), false, []⟩,
     ⟨(some 19), (some (17, true)), (.r (.load 1 false (.t 18))), false, []⟩,
     ⟨(some 20), (some (17, true)), (.p (.faddr 2 (.t 3))), false, []⟩,
     ⟨(some 21), (some (17, true)), (.r (.load 1 false (.t 20))), false, []⟩,
     ⟨(some 22), (some (17, true)), (.p (.bin .eql (.t 19) (.t 21))), false, []⟩,
     ⟨(some 23), none, (.p (.pick (.t 17) (.t 22) (.c (.bool false)))), false, []⟩,
     ⟨(some 24), none, (.p (.mv (.t 23))), false, []⟩,
     ⟨(some 25), (some (24, true)), (.p (.faddr 3 (.t 2))), false, []⟩,
     ⟨(some 26), (some (24, true)), (.r (.load 1 false (.t 25))), false, []⟩,
     ⟨(some 27), (some (24, true)), (.r (.b2s (.t 26))), false, []⟩,
     ⟨(some 28), (some (24, true)), (.p (.faddr 3 (.t 3))), false, []⟩,
     ⟨(some 29), (some (24, true)), (.r (.load 1 false (.t 28))), false, []⟩,
     ⟨(some 30), (some (24, true)), (.r (.b2s (.t 29))), false, []⟩,
     ⟨(some 31), (some (24, true)), (.p (.bin .eql (.t 27) (.t 30))), false, []⟩,
     ⟨(some 32), none, (.p (.pick (.t 24) (.t 31) (.c (.bool false)))), false, []⟩,
     ⟨(some 4), none, (.p (.mv (.t 32))), false, []⟩] (some ⟨[4], [], false⟩))
   .ret))
theorem Try.run20 {xs : List AV} {r : AV} (hl : xs.length ≤ 33) (h : aw Try.prog Try.c20 (Pv.Ends [4] r) (entry xs)) : Run Try.prog 20 xs r :=
  run_of (fun _ _ => drawOk Try.mixed) Try.func20 rfl rfl rfl (by kernel_rfl) (by kernel_rfl) hl h
/-! 21 paling/ether.Put : params [30], results [28, 31], free 0, zeros [(.agg #[(.int .u64 (0)), (.int .u64 (0)), (.int .i64 (0)), (.slice none 0 0)])] -/
def Try.c21 : AC :=
 (.seq
  (.region 0 [⟨(some 1), none, (.e (.box 30 (.t 0)) none), false, []⟩,
    ⟨(some 2), none, (.p (.mv (.c (.sl 0 [] true)))), false, []⟩,
    ⟨(some 3), none, (.p (.mv (.c (.int .i64 0)))), false, []⟩] (some ⟨[1], [], false⟩))
  (.seq
   (.block 0
    (.seq
     (.region 0 [⟨(some 6), none, (.p (.faddr 0 (.t 1))), false, []⟩,
       ⟨(some 7), none, (.r (.load 1 false (.t 6))), false, []⟩,
       ⟨(some 8), none, (.p (.bin .gtr (.t 7) (.c (.int .u64 281474976710655)))), false, []⟩,
       ⟨(some 9), none, (.p (.mv (.t 8))), false, []⟩,
       ⟨(some 10), (some (9, false)), (.p (.faddr 1 (.t 1))), false, []⟩,
       ⟨(some 11), (some (9, false)), (.r (.load 1 false (.t 10))), false, []⟩,
       ⟨(some 12), (some (9, false)), (.p (.bin .gtr (.t 11) (.c (.int .u64 281474976710655)))), false, []⟩,
       ⟨(some 13), none, (.p (.pick (.t 9) (.c (.bool true)) (.t 12))), false, []⟩,
       ⟨(some 14), none, (.p (.mv (.t 13))), false, []⟩,
       ⟨(some 15), (some (14, false)), (.p (.faddr 2 (.t 1))), false, []⟩,
       ⟨(some 16), (some (14, false)), (.r (.load 1 false (.t 15))), false, []⟩,
       ⟨(some 17), (some (14, false)), (.p (.bin .lss (.t 16) (.c (.int .i64 0)))), false, []⟩,
       ⟨(some 18), none, (.p (.pick (.t 14) (.c (.bool true)) (.t 17))), false, []⟩,
       ⟨(some 19), none, (.p (.mv (.t 18))), false, []⟩,
       ⟨(some 20), (some (19, false)), (.p (.faddr 2 (.t 1))), false, []⟩,
       ⟨(some 21), (some (19, false)), (.r (.load 1 false (.t 20))), false, []⟩,
       ⟨(some 22), (some (19, false)), (.p (.bin .gtr (.t 21) (.c (.int .i64 65535)))), false, []⟩,
       ⟨(some 23), none, (.p (.pick (.t 19) (.c (.bool true)) (.t 22))), false, []⟩,
       ⟨(some 5), none, (.p (.mv (.t 23))), false, []⟩] (some ⟨[1, 5], [], false⟩))
     (.cond (.t 5)
      (.seq
       (.region 0 [⟨(some 2), none, (.p (.mv (.c (.sl 0 [] true)))), false, []⟩,
         ⟨(some 3), none, (.p (.mv (.c (.int .i64 11)))), false, []⟩] (some ⟨[2, 3], [], false⟩))
       .ret)
      (.seq
       (.region 0 [⟨(some 25), none, (.p (.faddr 3 (.t 1))), false, []⟩,
         ⟨(some 26), none, (.r (.load 1 false (.t 25))), false, []⟩,
         ⟨(some 27), none, (.p (.len (.t 26))), false, []⟩,
         ⟨(some 28), none, (.p (.bin .gtr (.t 27) (.c (.int .i64 1504)))), false, []⟩,
         ⟨(some 24), none, (.p (.mv (.t 28))), false, []⟩] (some ⟨[1, 24], [], false⟩))
       (.cond (.t 24)
        (.seq
         (.region 0 [⟨(some 2), none, (.p (.mv (.c (.sl 0 [] true)))), false, []⟩,
           ⟨(some 3), none, (.p (.mv (.c (.int .i64 14)))), false, []⟩] (some ⟨[2, 3], [], false⟩))
         .ret)
        .skip)))))
   (.seq
    (.region 7 [⟨(some 29), none, (.p (.faddr 0 (.t 1))), false, [5]⟩,
      ⟨(some 30), none, (.r (.load 1 false (.t 29))), false, [5]⟩,
      ⟨(some 32), none, (.p (.faddr 1 (.t 1))), false, [5]⟩,
      ⟨(some 33), none, (.r (.load 1 false (.t 32))), false, [5]⟩,
      ⟨(some 31), none, (.call 33 [(.c (.sl 0 [] true)), (.t 30)] true), false, []⟩,
      ⟨(some 34), none, (.call 33 [(.t 31), (.t 33)] true), false, [5]⟩,
      ⟨(some 4), none, (.p (.mv (.t 34))), false, [5]⟩] (some ⟨[1, 4], [], true⟩))
    (.seq
     (.region 15 [⟨(some 35), none, (.p (.mv (.t 4))), true, [5, 5]⟩,
       ⟨(some 36), none, (.p (.faddr 2 (.t 1))), true, [5, 5]⟩,
       ⟨(some 37), none, (.r (.load 1 false (.t 36))), true, [5, 5]⟩,
       ⟨(some 38), none, (.p (.bin .shr (.t 37) (.c (.int .u64 8)))), true, [5, 5]⟩,
       ⟨(some 39), none, (.p (.convI .u8 (.t 38))), true, [5, 5]⟩,
       ⟨(some 40), none, (.p (.faddr 2 (.t 1))), true, [5, 5]⟩,
       ⟨(some 41), none, (.r (.load 1 false (.t 40))), true, [5, 5]⟩,
       ⟨(some 42), none, (.p (.convI .u8 (.t 41))), true, [5, 5]⟩,
       ⟨(some 45), none, (.p (.faddr 3 (.t 1))), true, [5, 5]⟩,
       ⟨(some 46), none, (.r (.load 1 false (.t 45))), true, [5, 5]⟩,
       ⟨(some 43), none, (.e (.mks 5 1 (.int .u8 0) 2 [(0, (.t 39)), (1, (.t 42))]) (some 8)), true, [5, 5]⟩,
       ⟨(some 44), none, (.e (.append 5 1 (.t 35) (.t 43)) (some 9)), true, [5, 5]⟩,
       ⟨(some 47), none, (.e (.append 5 1 (.t 44) (.t 46)) (some 12)), true, [5, 5]⟩,
       ⟨(some 2), none, (.p (.mv (.t 47))), true, [5, 5]⟩,
       ⟨(some 3), none, (.p (.mv (.c (.int .i64 0)))), true, [5, 5]⟩] (some ⟨[2, 3], [], true⟩))
     .ret))))
theorem Try.run21 {xs : List AV} {r : AV} (hl : xs.length ≤ 48) (h : aw Try.prog Try.c21 (Pv.Ends [2, 3] r) (entry xs)) : Run Try.prog 21 xs r :=
  run_of (fun _ _ => drawOk Try.mixed) Try.func21 rfl rfl rfl (by kernel_rfl) (by kernel_rfl) hl h
/-! 22 paling/ether.Same : params [30, 30], results [4], free 0, zeros [(.agg #[(.int .u64 (0)), (.int .u64 (0)), (.int .i64 (0)), (.slice none 0 0)]), (.agg #[(.int .u64 (0)), (.int .u64 (0)), (.int .i64 (0)), (.slice none 0 0)])] -/
def Try.c22 : AC :=
 (.seq
  (.region 0 [⟨(some 2), none, (.e (.box 30 (.t 0)) none), false, []⟩,
    ⟨(some 3), none, (.e (.box 30 (.t 1)) none), false, []⟩,
    ⟨(some 4), none, (.p (.mv (.c (.bool false)))), false, []⟩] (some ⟨[2, 3], [], false⟩))
  (.seq
   (.region 0 [⟨(some 5), none, (.p (.faddr 0 (.t 2))), false, []⟩,
     ⟨(some 6), none, (.r (.load 1 false (.t 5))), false, []⟩,
     ⟨(some 7), none, (.p (.faddr 0 (.t 3))), false, []⟩,
     ⟨(some 8), none, (.r (.load 1 false (.t 7))), false, []⟩,
     ⟨(some 9), none, (.p (.bin .eql (.t 6) (.t 8))), false, []⟩,
     ⟨(some 10), none, (.p (.mv (.t 9))), false, []⟩,
     ⟨(some 11), (some (10, true)), (.p (.faddr 1 (.t 2))), false, []⟩,
     ⟨(some 12), (some (10, true)), (.r (.load 1 false (.t 11))), false, []⟩,
     ⟨(some 13), (some (10, true)), (.p (.faddr 1 (.t 3))), false, []⟩,
     ⟨(some 14), (some (10, true)), (.r (.load 1 false (.t 13))), false, []⟩,
     ⟨(some 15), (some (10, true)), (.p (.bin .eql (.t 12) (.t 14))), false, []⟩,
     ⟨(some 16), none, (.p (.pick (.t 10) (.t 15) (.c (.bool false)))), false, []⟩,
     ⟨(some 17), none, (.p (.mv (.t 16))), false, []⟩,
     ⟨(some 18), (some (17, true)), (.p (.faddr 2 (.t 2))), false, []⟩,
     ⟨(some 19), (some (17, true)), (.r (.load 1 false (.t 18))), false, []⟩,
     ⟨(some 20), (some (17, true)), (.p (.faddr 2 (.t 3))), false, []⟩,
     ⟨(some 21), (some (17, true)), (.r (.load 1 false (.t 20))), false, []⟩,
     ⟨(some 22), (some (17, true)), (.p (.bin .eql (.t 19) (.t 21))), false, []⟩,
     ⟨(some 23), none, (.p (.pick (.t 17) (.t 22) (.c (.bool false)))), false, []⟩,
     ⟨(some 24), none, (.p (.mv (.t 23))), false, []⟩,
     ⟨(some 25), (some (24, true)), (.p (.faddr 3 (.t 2))), false, []⟩,
     ⟨(some 26), (some (24, true)), (.r (.load 1 false (.t 25))), false, []⟩,
     ⟨(some 27), (some (24, true)), (.r (.b2s (.t 26))), false, []⟩,
     ⟨(some 28), (some (24, true)), (.p (.faddr 3 (.t 3))), false, []⟩,
     ⟨(some 29), (some (24, true)), (.r (.load 1 false (.t 28))), false, []⟩,
     ⟨(some 30), (some (24, true)), (.r (.b2s (.t 29))), false, []⟩,
     ⟨(some 31), (some (24, true)), (.p (.bin .eql (.t 27) (.t 30))), false, []⟩,
     ⟨(some 32), none, (.p (.pick (.t 24) (.t 31) (.c (.bool false)))), false, []⟩,
     ⟨(some 4), none, (.p (.mv (.t 32))), false, []⟩] (some ⟨[4], [], false⟩))
   .ret))
theorem Try.run22 {xs : List AV} {r : AV} (hl : xs.length ≤ 33) (h : aw Try.prog Try.c22 (Pv.Ends [4] r) (entry xs)) : Run Try.prog 22 xs r :=
  run_of (fun _ _ => drawOk Try.mixed) Try.func22 rfl rfl rfl (by kernel_rfl) (by kernel_rfl) hl h
/-! 23 paling/mac.IsHost : params [22], results [41, 4], free 0, zeros [(.int .u64 (0))] -/
def Try.c23 : AC :=
 (.seq
  (.region 0 [⟨(some 2), none, (.p (.mv (.c (.int .u32 0)))), false, []⟩,
    ⟨(some 3), none, (.p (.mv (.c (.bool false)))), false, []⟩] (some ⟨[0], [], false⟩))
  (.seq
   (.region 0 [⟨(some 4), none, (.p (.mv (.t 0))), false, []⟩,
     ⟨(some 5), none, (.p (.bin .and (.t 4) (.c (.int .u64 281474976710655)))), false, []⟩,
     ⟨(some 0), none, (.p (.mv (.t 5))), false, []⟩] (some ⟨[0], [], false⟩))
   (.seq
    (.seq
     (.region 0 [⟨(some 6), none, (.p (.mv (.t 0))), false, []⟩,
       ⟨(some 7), none, (.p (.bin .shr (.t 6) (.c (.int .u64 32)))), false, []⟩,
       ⟨(some 8), none, (.p (.bin .neq (.t 7) (.c (.int .u64 512)))), false, []⟩] (some ⟨[0, 8], [], false⟩))
     (.cond (.t 8)
      (.seq
       (.region 0 [⟨(some 2), none, (.p (.mv (.c (.int .u32 0)))), false, []⟩,
         ⟨(some 3), none, (.p (.mv (.c (.bool false)))), false, []⟩] (some ⟨[2, 3], [], false⟩))
       .ret)
      .skip))
    (.seq
     (.region 0 [⟨(some 9), none, (.p (.mv (.t 0))), false, []⟩,
       ⟨(some 10), none, (.p (.convI .u32 (.t 9))), false, []⟩,
       ⟨(some 2), none, (.p (.mv (.t 10))), false, []⟩,
       ⟨(some 3), none, (.p (.mv (.c (.bool true)))), false, []⟩] (some ⟨[2, 3], [], false⟩))
     .ret))))
theorem Try.run23 {xs : List AV} {r : AV} (hl : xs.length ≤ 11) (h : aw Try.prog Try.c23 (Pv.Ends [2, 3] r) (entry xs)) : Run Try.prog 23 xs r :=
  run_of (fun _ _ => drawOk Try.mixed) Try.func23 rfl rfl rfl (by kernel_rfl) (by kernel_rfl) hl h
/-! 24 paling/palingref01.IsHost : params [22], results [41, 4], free 0, zeros [(.int .u64 (0))] -/
def Try.c24 : AC :=
 (.seq
  (.region 0 [⟨(some 2), none, (.p (.mv (.c (.int .u32 0)))), false, []⟩,
    ⟨(some 3), none, (.p (.mv (.c (.bool false)))), false, []⟩] (some ⟨[0], [], false⟩))
  (.seq
   (.region 0 [⟨(some 5), none, (.p (.mv (.t 0))), false, []⟩,
     ⟨(some 6), none, (.call 37 [(.t 5)] false), false, []⟩,
     ⟨(some 4), none, (.p (.mv (.t 6))), false, []⟩] (some ⟨[4], [], false⟩))
   (.seq
    (.seq
     (.region 0 [⟨(some 7), none, (.p (.mv (.t 4))), false, []⟩,
       ⟨(some 8), none, (.p (.iaddr 1 (.t 7) (.c (.int .i64 0)))), false, []⟩,
       ⟨(some 9), none, (.r (.load 1 false (.t 8))), false, []⟩,
       ⟨(some 10), none, (.p (.bin .neq (.t 9) (.c (.int .u8 2)))), false, []⟩,
       ⟨(some 11), none, (.p (.mv (.t 10))), false, []⟩,
       ⟨(some 12), (some (11, false)), (.p (.mv (.t 4))), false, []⟩,
       ⟨(some 13), (some (11, false)), (.p (.iaddr 1 (.t 12) (.c (.int .i64 1)))), false, []⟩,
       ⟨(some 14), (some (11, false)), (.r (.load 1 false (.t 13))), false, []⟩,
       ⟨(some 15), (some (11, false)), (.p (.bin .neq (.t 14) (.c (.int .u8 0)))), false, []⟩,
       ⟨(some 16), none, (.p (.pick (.t 11) (.c (.bool true)) (.t 15))), false, []⟩] (some ⟨[4, 16], [], false⟩))
     (.cond (.t 16)
      (.seq
       (.region 0 [⟨(some 2), none, (.p (.mv (.c (.int .u32 0)))), false, []⟩,
         ⟨(some 3), none, (.p (.mv (.c (.bool false)))), false, []⟩] (some ⟨[2, 3], [], false⟩))
       .ret)
      .skip))
    (.seq
     (.region 0 [⟨(some 17), none, (.p (.mv (.t 4))), false, []⟩,
       ⟨(some 18), none, (.p (.slicev 1 (.t 17) (some (.c (.int .i64 2))) none none)), false, []⟩,
       ⟨(some 19), none, (.call 38 [(.t 18)] false), false, []⟩,
       ⟨(some 20), none, (.p (.convI .u32 (.t 19))), false, []⟩,
       ⟨(some 2), none, (.p (.mv (.t 20))), false, []⟩,
       ⟨(some 3), none, (.p (.mv (.c (.bool true)))), false, []⟩] (some ⟨[2, 3], [], false⟩))
     .ret))))
theorem Try.run24 {xs : List AV} {r : AV} (hl : xs.length ≤ 21) (h : aw Try.prog Try.c24 (Pv.Ends [2, 3] r) (entry xs)) : Run Try.prog 24 xs r :=
  run_of (fun _ _ => drawOk Try.mixed) Try.func24 rfl rfl rfl (by kernel_rfl) (by kernel_rfl) hl h
/-! 25 paling/mac.Group : params [22], results [4], free 0, zeros [(.int .u64 (0))] -/
def Try.c25 : AC :=
 (.seq
  (.region 0 [⟨(some 2), none, (.p (.mv (.c (.bool false)))), false, []⟩] (some ⟨[0], [], false⟩))
  (.seq
   (.region 0 [⟨(some 3), none, (.p (.mv (.t 0))), false, []⟩,
     ⟨(some 4), none, (.p (.bin .and (.t 3) (.c (.int .u64 1099511627776)))), false, []⟩,
     ⟨(some 5), none, (.p (.bin .neq (.t 4) (.c (.int .u64 0)))), false, []⟩,
     ⟨(some 2), none, (.p (.mv (.t 5))), false, []⟩] (some ⟨[2], [], false⟩))
   .ret))
theorem Try.run25 {xs : List AV} {r : AV} (hl : xs.length ≤ 6) (h : aw Try.prog Try.c25 (Pv.Ends [2] r) (entry xs)) : Run Try.prog 25 xs r :=
  run_of (fun _ _ => drawOk Try.mixed) Try.func25 rfl rfl rfl (by kernel_rfl) (by kernel_rfl) hl h
/-! 26 paling/palingref01.Group : params [22], results [4], free 0, zeros [(.int .u64 (0))] -/
def Try.c26 : AC :=
 (.seq
  (.region 0 [⟨(some 2), none, (.p (.mv (.c (.bool false)))), false, []⟩] (some ⟨[0], [], false⟩))
  (.seq
   (.region 0 [⟨(some 3), none, (.p (.mv (.t 0))), false, []⟩,
     ⟨(some 4), none, (.call 37 [(.t 3)] false), false, []⟩,
     ⟨(some 5), none, (.p (.iaddr 1 (.t 4) (.c (.int .i64 0)))), false, []⟩,
     ⟨(some 6), none, (.r (.load 1 false (.t 5))), false, []⟩,
     ⟨(some 7), none, (.p (.bin .rem (.t 6) (.c (.int .u8 2)))), false, []⟩,
     ⟨(some 8), none, (.p (.bin .eql (.t 7) (.c (.int .u8 1)))), false, []⟩,
     ⟨(some 2), none, (.p (.mv (.t 8))), false, []⟩] (some ⟨[2], [], false⟩))
   .ret))
theorem Try.run26 {xs : List AV} {r : AV} (hl : xs.length ≤ 9) (h : aw Try.prog Try.c26 (Pv.Ends [2] r) (entry xs)) : Run Try.prog 26 xs r :=
  run_of (fun _ _ => drawOk Try.mixed) Try.func26 rfl rfl rfl (by kernel_rfl) (by kernel_rfl) hl h
/-! 27 paling/mac.Host : params [41], results [22], free 0, zeros [(.int .u32 (0))] -/
def Try.c27 : AC :=
 (.seq
  (.region 0 [⟨(some 2), none, (.p (.mv (.c (.int .u64 0)))), false, []⟩] (some ⟨[0], [], false⟩))
  (.seq
   (.region 0 [⟨(some 3), none, (.p (.mv (.t 0))), false, []⟩,
     ⟨(some 4), none, (.p (.convI .u64 (.t 3))), false, []⟩,
     ⟨(some 5), none, (.p (.bin .or (.c (.int .u64 2199023255552)) (.t 4))), false, []⟩,
     ⟨(some 2), none, (.p (.mv (.t 5))), false, []⟩] (some ⟨[2], [], false⟩))
   .ret))
theorem Try.run27 {xs : List AV} {r : AV} (hl : xs.length ≤ 6) (h : aw Try.prog Try.c27 (Pv.Ends [2] r) (entry xs)) : Run Try.prog 27 xs r :=
  run_of (fun _ _ => drawOk Try.mixed) Try.func27 rfl rfl rfl (by kernel_rfl) (by kernel_rfl) hl h
/-! 28 paling/palingref01.Host : params [41], results [22], free 0, zeros [(.int .u32 (0))] -/
def Try.c28 : AC :=
 (.seq
  (.region 0 [⟨(some 2), none, (.p (.mv (.c (.int .u64 0)))), false, []⟩] (some ⟨[0], [], false⟩))
  (.seq
   (.region 0 [⟨(some 3), none, (.p (.mv (.t 0))), false, []⟩,
     ⟨(some 4), none, (.p (.convI .u64 (.t 3))), false, []⟩,
     ⟨(some 5), none, (.p (.bin .add (.c (.int .u64 2199023255552)) (.t 4))), false, []⟩,
     ⟨(some 2), none, (.p (.mv (.t 5))), false, []⟩] (some ⟨[2], [], false⟩))
   .ret))
theorem Try.run28 {xs : List AV} {r : AV} (hl : xs.length ≤ 6) (h : aw Try.prog Try.c28 (Pv.Ends [2] r) (entry xs)) : Run Try.prog 28 xs r :=
  run_of (fun _ _ => drawOk Try.mixed) Try.func28 rfl rfl rfl (by kernel_rfl) (by kernel_rfl) hl h
/-! 29 paling/palingref04.Put : params [30], results [28, 3], free 0, zeros [(.agg #[(.int .u64 (0)), (.int .u64 (0)), (.int .i64 (0)), (.slice none 0 0)])] -/
def Try.c29 : AC :=
 (.seq
  (.region 0 [⟨(some 1), none, (.e (.box 30 (.t 0)) none), false, []⟩,
    ⟨(some 2), none, (.p (.mv (.c (.sl 0 [] true)))), false, []⟩,
    ⟨(some 3), none, (.p (.mv (.c (.int .i64 0)))), false, []⟩] (some ⟨[1], [], false⟩))
  (.seq
   (.seq
    (.region 0 [⟨(some 5), none, (.p (.faddr 0 (.t 1))), false, []⟩,
      ⟨(some 6), none, (.r (.load 1 false (.t 5))), false, []⟩,
      ⟨(some 7), none, (.p (.bin .geq (.t 6) (.c (.int .u64 281474976710656)))), false, []⟩,
      ⟨(some 8), none, (.p (.mv (.t 7))), false, []⟩,
      ⟨(some 9), (some (8, false)), (.p (.faddr 1 (.t 1))), false, []⟩,
      ⟨(some 10), (some (8, false)), (.r (.load 1 false (.t 9))), false, []⟩,
      ⟨(some 11), (some (8, false)), (.p (.bin .geq (.t 10) (.c (.int .u64 281474976710656)))), false, []⟩,
      ⟨(some 12), none, (.p (.pick (.t 8) (.c (.bool true)) (.t 11))), false, []⟩,
      ⟨(some 13), none, (.p (.mv (.t 12))), false, []⟩,
      ⟨(some 14), (some (13, false)), (.p (.faddr 2 (.t 1))), false, []⟩,
      ⟨(some 15), (some (13, false)), (.r (.load 1 false (.t 14))), false, []⟩,
      ⟨(some 16), (some (13, false)), (.p (.bin .lss (.t 15) (.c (.int .i64 0)))), false, []⟩,
      ⟨(some 17), none, (.p (.pick (.t 13) (.c (.bool true)) (.t 16))), false, []⟩,
      ⟨(some 18), none, (.p (.mv (.t 17))), false, []⟩,
      ⟨(some 19), (some (18, false)), (.p (.faddr 2 (.t 1))), false, []⟩,
      ⟨(some 20), (some (18, false)), (.r (.load 1 false (.t 19))), false, []⟩,
      ⟨(some 21), (some (18, false)), (.p (.bin .geq (.t 20) (.c (.int .i64 65536)))), false, []⟩,
      ⟨(some 22), none, (.p (.pick (.t 18) (.c (.bool true)) (.t 21))), false, []⟩] (some ⟨[1, 22], [], false⟩))
    (.cond (.t 22)
     (.seq
      (.region 0 [⟨(some 2), none, (.p (.mv (.c (.sl 0 [] true)))), false, []⟩,
        ⟨(some 3), none, (.p (.mv (.c (.int .i64 11)))), false, []⟩] (some ⟨[2, 3], [], false⟩))
      .ret)
     .skip))
   (.seq
    (.seq
     (.region 0 [⟨(some 23), none, (.p (.faddr 3 (.t 1))), false, []⟩,
       ⟨(some 24), none, (.r (.load 1 false (.t 23))), false, []⟩,
       ⟨(some 25), none, (.p (.len (.t 24))), false, []⟩,
       ⟨(some 26), none, (.p (.bin .gtr (.t 25) (.c (.int .i64 1504)))), false, []⟩] (some ⟨[1, 26], [], false⟩))
     (.cond (.t 26)
      (.seq
       (.region 0 [⟨(some 2), none, (.p (.mv (.c (.sl 0 [] true)))), false, []⟩,
         ⟨(some 3), none, (.p (.mv (.c (.int .i64 14)))), false, []⟩] (some ⟨[2, 3], [], false⟩))
       .ret)
      .skip))
    (.seq
     (.region 8 [⟨(some 27), none, (.p (.faddr 0 (.t 1))), false, [5]⟩,
       ⟨(some 28), none, (.r (.load 1 false (.t 27))), false, [5]⟩,
       ⟨(some 30), none, (.p (.faddr 1 (.t 1))), false, [5]⟩,
       ⟨(some 31), none, (.r (.load 1 false (.t 30))), false, [5]⟩,
       ⟨(some 29), none, (.call 37 [(.t 28)] true), false, []⟩,
       ⟨(some 32), none, (.call 37 [(.t 31)] true), false, []⟩,
       ⟨(some 33), none, (.e (.append 5 1 (.t 29) (.t 32)) (some 6)), false, [5]⟩,
       ⟨(some 4), none, (.p (.mv (.t 33))), false, [5]⟩] (some ⟨[1, 4], [], true⟩))
     (.seq
      (.region 0 [⟨(some 34), none, (.p (.mv (.t 4))), false, []⟩,
        ⟨(some 35), none, (.p (.faddr 2 (.t 1))), false, []⟩,
        ⟨(some 36), none, (.r (.load 1 false (.t 35))), false, []⟩,
        ⟨(some 37), none, (.p (.bin .quo (.t 36) (.c (.int .i64 256)))), false, []⟩,
        ⟨(some 38), none, (.p (.convI .u8 (.t 37))), false, []⟩,
        ⟨(some 39), none, (.p (.faddr 2 (.t 1))), false, []⟩,
        ⟨(some 40), none, (.r (.load 1 false (.t 39))), false, []⟩,
        ⟨(some 41), none, (.p (.bin .rem (.t 40) (.c (.int .i64 256)))), false, []⟩,
        ⟨(some 42), none, (.p (.convI .u8 (.t 41))), false, []⟩,
        ⟨(some 43), none, (.e (.mks 5 1 (.int .u8 0) 2 [(0, (.t 38)), (1, (.t 42))]) none), false, []⟩,
        ⟨(some 44), none, (.e (.append 5 1 (.t 34) (.t 43)) none), false, []⟩,
        ⟨(some 4), none, (.p (.mv (.t 44))), false, []⟩] (some ⟨[1, 4], [], false⟩))
      (.seq
       (.region 0 [⟨(some 45), none, (.p (.mv (.t 4))), false, []⟩,
         ⟨(some 46), none, (.p (.faddr 3 (.t 1))), false, []⟩,
         ⟨(some 47), none, (.r (.load 1 false (.t 46))), false, []⟩,
         ⟨(some 48), none, (.e (.append 5 1 (.t 45) (.t 47)) none), false, []⟩,
         ⟨(some 2), none, (.p (.mv (.t 48))), false, []⟩,
         ⟨(some 3), none, (.p (.mv (.c (.int .i64 0)))), false, []⟩] (some ⟨[2, 3], [], false⟩))
       .ret))))))
theorem Try.run29 {xs : List AV} {r : AV} (hl : xs.length ≤ 49) (h : aw Try.prog Try.c29 (Pv.Ends [2, 3] r) (entry xs)) : Run Try.prog 29 xs r :=
  run_of (fun _ _ => drawOk Try.mixed) Try.func29 rfl rfl rfl (by kernel_rfl) (by kernel_rfl) hl h
/-! 30 paling/ether.Copy : params [30], results [30], free 0, zeros [(.agg #[(.int .u64 (0)), (.int .u64 (0)), (.int .i64 (0)), (.slice none 0 0)])] -/
def Try.c30 : AC :=
 (.seq
  (.region 0 [⟨(some 1), none, (.e (.box 30 (.t 0)) none), false, []⟩,
    ⟨(some 2), none, (.e (.alloc 30 (.agg [(.int .u64 0), (.int .u64 0), (.int .i64 0), (.sl 0 [] true)])) none), false, []⟩] (some ⟨[1, 2], [], false⟩))
  (.seq
   (.region 0 [⟨(some 4), none, (.p (.faddr 3 (.t 1))), false, []⟩,
     ⟨(some 5), none, (.r (.load 1 false (.t 4))), false, []⟩,
     ⟨(some 6), none, (.p (.len (.t 5))), false, []⟩,
     ⟨(some 7), none, (.e (.make 5 1 (.int .u8 0) (.t 6) (.t 6)) none), false, []⟩,
     ⟨(some 3), none, (.p (.mv (.t 7))), false, []⟩] (some ⟨[1, 2, 3], [], false⟩))
   (.seq
    (.region 0 [⟨(some 8), none, (.p (.mv (.t 3))), false, []⟩,
      ⟨(some 9), none, (.p (.faddr 3 (.t 1))), false, []⟩,
      ⟨(some 10), none, (.r (.load 1 false (.t 9))), false, []⟩,
      ⟨(some 11), none, (.e (.copy 1 (.t 8) (.t 10)) none), false, []⟩] (some ⟨[1, 2, 3], [], false⟩))
    (.seq
     (.region 0 [⟨(some 12), none, (.p (.mv (.t 3))), false, []⟩,
       ⟨(some 13), none, (.p (.faddr 3 (.t 1))), false, []⟩,
       ⟨none, none, (.e (.store 1 (.t 13) (.t 12)) none), false, []⟩] (some ⟨[1, 2], [], false⟩))
     (.seq
      (.region 0 [⟨(some 14), none, (.r (.load 4 true (.t 1))), false, []⟩,
        ⟨none, none, (.e (.store 4 (.t 2) (.t 14)) none), false, []⟩] (some ⟨[2], [], false⟩))
      .ret)))))
theorem Try.run30 {xs : List AV} {r : AV} (hl : xs.length ≤ 15) (h : aw Try.prog Try.c30 (Pv.EndsX (rvs [.c 2 4 true]) r) (entry xs)) : Run Try.prog 30 xs r :=
  run_ofC (fun _ _ => drawOk Try.mixed) Try.func30 rfl rfl (by kernel_rfl) (by kernel_rfl) (by kernel_rfl) hl h
/-! 31 paling/mac.Take : params [28, 3], results [22, 4], free 0, zeros [(.slice none 0 0), (.int .i64 (0))] -/
def Try.c31b0 : AC :=
 (.seq
  (.region 0 [⟨(some 18), none, (.p (.bin .lss (.t 17) (.c (.int .i64 6)))), false, []⟩] (some ⟨[0, 1, 6, 17, 18], [], false⟩))
  (.seq
   (.cond (.t 18)
    .skip
    (.exit 0))
   (.seq
    (.block 1
     (.seq
      (.region 0 [⟨(some 19), none, (.p (.mv (.t 17))), false, []⟩,
        ⟨(some 7), none, (.p (.mv (.t 19))), false, []⟩] (some ⟨[0, 1, 6, 7, 17], [], false⟩))
      (.region 0 [⟨(some 20), none, (.p (.mv (.t 6))), false, []⟩,
        ⟨(some 21), none, (.p (.bin .shl (.t 20) (.c (.int .u64 8)))), false, []⟩,
        ⟨(some 22), none, (.p (.mv (.t 0))), false, []⟩,
        ⟨(some 23), none, (.p (.mv (.t 1))), false, []⟩,
        ⟨(some 24), none, (.p (.mv (.t 7))), false, []⟩,
        ⟨(some 25), none, (.p (.bin .add (.t 23) (.t 24))), false, []⟩,
        ⟨(some 26), none, (.p (.iaddr 1 (.t 22) (.t 25))), false, []⟩,
        ⟨(some 27), none, (.r (.load 1 false (.t 26))), false, []⟩,
        ⟨(some 28), none, (.p (.convI .u64 (.t 27))), false, []⟩,
        ⟨(some 29), none, (.p (.bin .or (.t 21) (.t 28))), false, []⟩,
        ⟨(some 6), none, (.p (.mv (.t 29))), false, []⟩] (some ⟨[0, 1, 6, 17], [], false⟩))))
    (.region 0 [⟨(some 30), none, (.p (.bin .add (.t 17) (.c (.int .i64 1)))), false, []⟩,
      ⟨(some 17), none, (.p (.mv (.t 30))), false, []⟩] (some ⟨[0, 1, 6, 17], [], false⟩)))))
def Try.c31 : AC :=
 (.seq
  (.region 0 [⟨(some 4), none, (.p (.mv (.c (.int .u64 0)))), false, []⟩,
    ⟨(some 5), none, (.p (.mv (.c (.bool false)))), false, []⟩] (some ⟨[0, 1], [], false⟩))
  (.seq
   (.seq
    (.region 0 [⟨(some 8), none, (.p (.mv (.t 1))), false, []⟩,
      ⟨(some 9), none, (.p (.bin .lss (.t 8) (.c (.int .i64 0)))), false, []⟩,
      ⟨(some 10), none, (.p (.mv (.t 9))), false, []⟩,
      ⟨(some 11), (some (10, false)), (.p (.mv (.t 1))), false, []⟩,
      ⟨(some 12), (some (10, false)), (.p (.mv (.t 0))), false, []⟩,
      ⟨(some 13), (some (10, false)), (.p (.len (.t 12))), false, []⟩,
      ⟨(some 14), (some (10, false)), (.p (.bin .sub (.t 13) (.c (.int .i64 6)))), false, []⟩,
      ⟨(some 15), (some (10, false)), (.p (.bin .gtr (.t 11) (.t 14))), false, []⟩,
      ⟨(some 16), none, (.p (.pick (.t 10) (.c (.bool true)) (.t 15))), false, []⟩] (some ⟨[0, 1, 16], [], false⟩))
    (.cond (.t 16)
     (.seq
      (.region 0 [⟨(some 4), none, (.p (.mv (.c (.int .u64 0)))), false, []⟩,
        ⟨(some 5), none, (.p (.mv (.c (.bool false)))), false, []⟩] (some ⟨[4, 5], [], false⟩))
      .ret)
     .skip))
   (.seq
    (.region 0 [⟨(some 6), none, (.p (.mv (.c (.int .u64 0)))), false, []⟩] (some ⟨[0, 1, 6], [], false⟩))
    (.seq
     (.seq
      (.region 0 [⟨(some 17), none, (.p (.mv (.c (.int .i64 0)))), false, []⟩] (some ⟨[0, 1, 6, 17], [], false⟩))
      (.block 0
       (.loop (some ⟨[0, 1, 6, 17], [], true⟩) Try.c31b0)))
     (.seq
      (.region 0 [⟨(some 31), none, (.p (.mv (.t 6))), false, []⟩,
        ⟨(some 4), none, (.p (.mv (.t 31))), false, []⟩,
        ⟨(some 5), none, (.p (.mv (.c (.bool true)))), false, []⟩] (some ⟨[4, 5], [], false⟩))
      .ret)))))
theorem Try.run31 {xs : List AV} {r : AV} (hl : xs.length ≤ 32) (h : aw Try.prog Try.c31 (Pv.Ends [4, 5] r) (entry xs)) : Run Try.prog 31 xs r :=
  run_of (fun _ _ => drawOk Try.mixed) Try.func31 rfl rfl rfl (by kernel_rfl) (by kernel_rfl) hl h
/-! 32 paling/palingref01.Take : params [28, 3], results [22, 4], free 0, zeros [(.slice none 0 0), (.int .i64 (0))] -/
def Try.c32 : AC :=
 (.seq
  (.region 0 [⟨(some 4), none, (.p (.mv (.c (.int .u64 0)))), false, []⟩,
    ⟨(some 5), none, (.p (.mv (.c (.bool false)))), false, []⟩] (some ⟨[0, 1], [], false⟩))
  (.seq
   (.seq
    (.region 0 [⟨(some 6), none, (.p (.mv (.t 1))), false, []⟩,
      ⟨(some 7), none, (.p (.bin .lss (.t 6) (.c (.int .i64 0)))), false, []⟩,
      ⟨(some 8), none, (.p (.mv (.t 7))), false, []⟩,
      ⟨(some 9), (some (8, false)), (.p (.mv (.t 1))), false, []⟩,
      ⟨(some 10), (some (8, false)), (.p (.mv (.t 0))), false, []⟩,
      ⟨(some 11), (some (8, false)), (.p (.len (.t 10))), false, []⟩,
      ⟨(some 12), (some (8, false)), (.p (.bin .gtr (.t 9) (.t 11))), false, []⟩,
      ⟨(some 13), none, (.p (.pick (.t 8) (.c (.bool true)) (.t 12))), false, []⟩,
      ⟨(some 14), none, (.p (.mv (.t 13))), false, []⟩,
      ⟨(some 15), (some (14, false)), (.p (.mv (.t 0))), false, []⟩,
      ⟨(some 16), (some (14, false)), (.p (.len (.t 15))), false, []⟩,
      ⟨(some 17), (some (14, false)), (.p (.mv (.t 1))), false, []⟩,
      ⟨(some 18), (some (14, false)), (.p (.bin .sub (.t 16) (.t 17))), false, []⟩,
      ⟨(some 19), (some (14, false)), (.p (.bin .lss (.t 18) (.c (.int .i64 6)))), false, []⟩,
      ⟨(some 20), none, (.p (.pick (.t 14) (.c (.bool true)) (.t 19))), false, []⟩] (some ⟨[0, 1, 20], [], false⟩))
    (.cond (.t 20)
     (.seq
      (.region 0 [⟨(some 4), none, (.p (.mv (.c (.int .u64 0)))), false, []⟩,
        ⟨(some 5), none, (.p (.mv (.c (.bool false)))), false, []⟩] (some ⟨[4, 5], [], false⟩))
      .ret)
     .skip))
   (.seq
    (.region 0 [⟨(some 21), none, (.p (.mv (.t 0))), false, []⟩,
      ⟨(some 22), none, (.p (.mv (.t 1))), false, []⟩,
      ⟨(some 23), none, (.p (.mv (.t 1))), false, []⟩,
      ⟨(some 24), none, (.p (.bin .add (.t 23) (.c (.int .i64 6)))), false, []⟩,
      ⟨(some 25), none, (.p (.slicev 1 (.t 21) (some (.t 22)) (some (.t 24)) none)), false, []⟩,
      ⟨(some 26), none, (.call 38 [(.t 25)] false), false, []⟩,
      ⟨(some 4), none, (.p (.mv (.t 26))), false, []⟩,
      ⟨(some 5), none, (.p (.mv (.c (.bool true)))), false, []⟩] (some ⟨[4, 5], [], false⟩))
    .ret)))
theorem Try.run32 {xs : List AV} {r : AV} (hl : xs.length ≤ 27) (h : aw Try.prog Try.c32 (Pv.Ends [4, 5] r) (entry xs)) : Run Try.prog 32 xs r :=
  run_of (fun _ _ => drawOk Try.mixed) Try.func32 rfl rfl rfl (by kernel_rfl) (by kernel_rfl) hl h
/-! 33 paling/mac.Put : params [28, 22], results [28], free 0, zeros [(.slice none 0 0), (.int .u64 (0))] -/
def Try.c33b0 : AC :=
 (.seq
  (.region 0 [⟨(some 7), none, (.p (.bin .lss (.t 6) (.c (.int .i64 6)))), false, []⟩] (some ⟨[0, 1, 6, 7], [], false⟩))
  (.seq
   (.cond (.t 7)
    .skip
    (.exit 0))
   (.seq
    (.block 1
     (.seq
      (.region 0 [⟨(some 8), none, (.p (.mv (.t 6))), false, []⟩,
        ⟨(some 5), none, (.p (.mv (.t 8))), false, []⟩] (some ⟨[0, 1, 5, 6], [], false⟩))
      (.region 0 [⟨(some 9), none, (.p (.mv (.t 0))), false, []⟩,
        ⟨(some 10), none, (.p (.mv (.t 1))), false, []⟩,
        ⟨(some 11), none, (.p (.mv (.t 5))), false, []⟩,
        ⟨(some 12), none, (.call 36 [(.t 11)] false), false, []⟩,
        ⟨(some 13), none, (.p (.bin .shr (.t 10) (.t 12))), false, []⟩,
        ⟨(some 14), none, (.p (.convI .u8 (.t 13))), false, []⟩,
        ⟨(some 15), none, (.e (.mks 5 1 (.int .u8 0) 1 [(0, (.t 14))]) none), false, []⟩,
        ⟨(some 16), none, (.e (.append 5 1 (.t 9) (.t 15)) none), false, []⟩,
        ⟨(some 0), none, (.p (.mv (.t 16))), false, []⟩] (some ⟨[0, 1, 6], [], false⟩))))
    (.region 0 [⟨(some 17), none, (.p (.bin .add (.t 6) (.c (.int .i64 1)))), false, []⟩,
      ⟨(some 6), none, (.p (.mv (.t 17))), false, []⟩] (some ⟨[0, 1, 6], [], false⟩)))))
def Try.c33 : AC :=
 (.seq
  (.region 0 [⟨(some 4), none, (.p (.mv (.c (.sl 0 [] true)))), false, []⟩] (some ⟨[0, 1], [], false⟩))
  (.seq
   (.seq
    (.region 0 [⟨(some 6), none, (.p (.mv (.c (.int .i64 0)))), false, []⟩] (some ⟨[0, 1, 6], [], false⟩))
    (.block 0
     (.loop (some ⟨[0, 1, 6], [(0, (1, 5))], true⟩) Try.c33b0)))
   (.seq
    (.region 0 [⟨(some 18), none, (.p (.mv (.t 0))), false, []⟩,
      ⟨(some 4), none, (.p (.mv (.t 18))), false, []⟩] (some ⟨[4], [], false⟩))
    .ret)))
theorem Try.run33 {xs : List AV} {r : AV} (hl : xs.length ≤ 19) (h : aw Try.prog Try.c33 (Pv.Ends [4] r) (entry xs)) : Run Try.prog 33 xs r :=
  run_of (fun _ _ => drawOk Try.mixed) Try.func33 rfl rfl rfl (by kernel_rfl) (by kernel_rfl) hl h
/-! 34 paling/palingref01.Put : params [28, 22], results [28], free 0, zeros [(.slice none 0 0), (.int .u64 (0))] -/
def Try.c34 : AC :=
 (.seq
  (.region 0 [⟨(some 4), none, (.p (.mv (.c (.sl 0 [] true)))), false, []⟩] (some ⟨[0, 1], [], false⟩))
  (.seq
   (.region 0 [⟨(some 5), none, (.e (.mks 5 1 (.int .u8 0) 0 []) none), false, []⟩,
     ⟨(some 6), none, (.p (.mv (.t 0))), false, []⟩,
     ⟨(some 7), none, (.e (.append 5 1 (.t 5) (.t 6)) none), false, []⟩,
     ⟨(some 8), none, (.p (.mv (.t 1))), false, []⟩,
     ⟨(some 9), none, (.call 37 [(.t 8)] false), false, []⟩,
     ⟨(some 10), none, (.e (.append 5 1 (.t 7) (.t 9)) none), false, []⟩,
     ⟨(some 4), none, (.p (.mv (.t 10))), false, []⟩] (some ⟨[4], [], false⟩))
   .ret))
theorem Try.run34 {xs : List AV} {r : AV} (hl : xs.length ≤ 11) (h : aw Try.prog Try.c34 (Pv.Ends [4] r) (entry xs)) : Run Try.prog 34 xs r :=
  run_of (fun _ _ => drawOk Try.mixed) Try.func34 rfl rfl rfl (by kernel_rfl) (by kernel_rfl) hl h
/-! 35 paling/mac.digit : params [5], results [22], free 0, zeros [(.int .u8 (0))] -/
def Try.c35 : AC :=
 (.seq
  (.region 0 [⟨(some 2), none, (.p (.mv (.c (.int .u64 0)))), false, []⟩] (some ⟨[0], [], false⟩))
  (.seq
   (.block 0
    (.seq
     (.region 0 [⟨(some 4), none, (.p (.mv (.t 0))), false, []⟩,
       ⟨(some 5), none, (.p (.bin .geq (.t 4) (.c (.int .u8 48)))), false, []⟩,
       ⟨(some 6), none, (.p (.mv (.t 5))), false, []⟩,
       ⟨(some 7), (some (6, true)), (.p (.mv (.t 0))), false, []⟩,
       ⟨(some 8), (some (6, true)), (.p (.bin .leq (.t 7) (.c (.int .u8 57)))), false, []⟩,
       ⟨(some 9), none, (.p (.pick (.t 6) (.t 8) (.c (.bool false)))), false, []⟩,
       ⟨(some 3), none, (.p (.mv (.t 9))), false, []⟩] (some ⟨[0, 3], [], false⟩))
     (.cond (.t 3)
      (.seq
       (.region 0 [⟨(some 10), none, (.p (.mv (.t 0))), false, []⟩,
         ⟨(some 11), none, (.p (.bin .sub (.t 10) (.c (.int .u8 48)))), false, []⟩,
         ⟨(some 12), none, (.p (.convI .u64 (.t 11))), false, []⟩,
         ⟨(some 2), none, (.p (.mv (.t 12))), false, []⟩] (some ⟨[2], [], false⟩))
       .ret)
      (.seq
       (.region 0 [⟨(some 14), none, (.p (.mv (.t 0))), false, []⟩,
         ⟨(some 15), none, (.p (.bin .geq (.t 14) (.c (.int .u8 97)))), false, []⟩,
         ⟨(some 16), none, (.p (.mv (.t 15))), false, []⟩,
         ⟨(some 17), (some (16, true)), (.p (.mv (.t 0))), false, []⟩,
         ⟨(some 18), (some (16, true)), (.p (.bin .leq (.t 17) (.c (.int .u8 102)))), false, []⟩,
         ⟨(some 19), none, (.p (.pick (.t 16) (.t 18) (.c (.bool false)))), false, []⟩,
         ⟨(some 13), none, (.p (.mv (.t 19))), false, []⟩] (some ⟨[0, 13], [], false⟩))
       (.cond (.t 13)
        (.seq
         (.region 0 [⟨(some 20), none, (.p (.mv (.t 0))), false, []⟩,
           ⟨(some 21), none, (.p (.bin .sub (.t 20) (.c (.int .u8 97)))), false, []⟩,
           ⟨(some 22), none, (.p (.convI .u64 (.t 21))), false, []⟩,
           ⟨(some 23), none, (.p (.bin .add (.t 22) (.c (.int .u64 10)))), false, []⟩,
           ⟨(some 2), none, (.p (.mv (.t 23))), false, []⟩] (some ⟨[2], [], false⟩))
         .ret)
        .skip)))))
   (.seq
    (.region 0 [⟨(some 2), none, (.p (.mv (.c (.int .u64 16)))), false, []⟩] (some ⟨[2], [], false⟩))
    .ret)))
theorem Try.run35 {xs : List AV} {r : AV} (hl : xs.length ≤ 24) (h : aw Try.prog Try.c35 (Pv.Ends [2] r) (entry xs)) : Run Try.prog 35 xs r :=
  run_of (fun _ _ => drawOk Try.mixed) Try.func35 rfl rfl rfl (by kernel_rfl) (by kernel_rfl) hl h
/-! 36 paling/mac.shift : params [3], results [58], free 0, zeros [(.int .i64 (0))] -/
def Try.c36 : AC :=
 (.seq
  (.region 0 [⟨(some 2), none, (.p (.mv (.c (.int .u64 0)))), false, []⟩] (some ⟨[0], [], false⟩))
  (.seq
   (.region 0 [⟨(some 3), none, (.p (.mv (.t 0))), false, []⟩,
     ⟨(some 4), none, (.p (.bin .sub (.c (.int .i64 5)) (.t 3))), false, []⟩,
     ⟨(some 5), none, (.p (.bin .mul (.c (.int .i64 8)) (.t 4))), false, []⟩,
     ⟨(some 6), none, (.p (.convI .u64 (.t 5))), false, []⟩,
     ⟨(some 2), none, (.p (.mv (.t 6))), false, []⟩] (some ⟨[2], [], false⟩))
   .ret))
theorem Try.run36 {xs : List AV} {r : AV} (hl : xs.length ≤ 7) (h : aw Try.prog Try.c36 (Pv.Ends [2] r) (entry xs)) : Run Try.prog 36 xs r :=
  run_of (fun _ _ => drawOk Try.mixed) Try.func36 rfl rfl rfl (by kernel_rfl) (by kernel_rfl) hl h
/-! 37 paling/palingref01.Bytes : params [22], results [28], free 0, zeros [(.int .u64 (0))] -/
def Try.c37b0 : AC :=
 (.seq
  (.seq
   (.region 0 [⟨(some 12), none, (.p (.mv (.t 6))), false, []⟩,
     ⟨(some 13), none, (.p (.mv (.t 4))), false, []⟩,
     ⟨(some 14), none, (.p (.bin .lss (.t 12) (.t 13))), false, []⟩] (some ⟨[0, 3, 4, 5, 6, 14], [], false⟩))
   (.cond (.t 14)
    .skip
    (.exit 2)))
  (.seq
   (.block 3
    (.region 0 [⟨(some 17), none, (.p (.mv (.t 5))), false, []⟩,
      ⟨(some 18), none, (.p (.bin .quo (.t 17) (.c (.int .u64 256)))), false, []⟩,
      ⟨(some 5), none, (.p (.mv (.t 18))), false, []⟩] (some ⟨[0, 3, 4, 5, 6], [], false⟩)))
   (.region 0 [⟨(some 15), none, (.p (.mv (.t 6))), false, []⟩,
     ⟨(some 16), none, (.p (.bin .add (.t 15) (.c (.int .i64 1)))), false, []⟩,
     ⟨(some 6), none, (.p (.mv (.t 16))), false, []⟩] (some ⟨[0, 3, 4, 5, 6], [], false⟩))))
def Try.c37b1 : AC :=
 (.seq
  (.seq
   (.region 0 [⟨(some 7), none, (.p (.mv (.t 4))), false, []⟩,
     ⟨(some 8), none, (.p (.bin .geq (.t 7) (.c (.int .i64 0)))), false, []⟩] (some ⟨[0, 3, 4, 8], [], false⟩))
   (.cond (.t 8)
    .skip
    (.exit 0)))
  (.seq
   (.block 1
    (.seq
     (.region 0 [⟨(some 11), none, (.p (.mv (.t 0))), false, []⟩,
       ⟨(some 5), none, (.p (.mv (.t 11))), false, []⟩] (some ⟨[0, 3, 4, 5], [], false⟩))
     (.seq
      (.seq
       (.region 0 [⟨(some 6), none, (.p (.mv (.c (.int .i64 0)))), false, []⟩] (some ⟨[0, 3, 4, 5, 6], [], false⟩))
       (.block 2
        (.loop (some ⟨[0, 3, 4, 5, 6], [], true⟩) Try.c37b0)))
      (.region 0 [⟨(some 19), none, (.p (.mv (.t 3))), false, []⟩,
        ⟨(some 20), none, (.p (.mv (.t 5))), false, []⟩,
        ⟨(some 21), none, (.p (.bin .rem (.t 20) (.c (.int .u64 256)))), false, []⟩,
        ⟨(some 22), none, (.p (.convI .u8 (.t 21))), false, []⟩,
        ⟨(some 23), none, (.e (.mks 5 1 (.int .u8 0) 1 [(0, (.t 22))]) none), false, []⟩,
        ⟨(some 24), none, (.e (.append 5 1 (.t 19) (.t 23)) none), false, []⟩,
        ⟨(some 3), none, (.p (.mv (.t 24))), false, []⟩] (some ⟨[0, 3, 4], [], false⟩)))))
   (.region 0 [⟨(some 9), none, (.p (.mv (.t 4))), false, []⟩,
     ⟨(some 10), none, (.p (.bin .sub (.t 9) (.c (.int .i64 1)))), false, []⟩,
     ⟨(some 4), none, (.p (.mv (.t 10))), false, []⟩] (some ⟨[0, 3, 4], [], false⟩))))
def Try.c37 : AC :=
 (.seq
  (.region 0 [⟨(some 2), none, (.p (.mv (.c (.sl 0 [] true)))), false, []⟩] (some ⟨[0], [], false⟩))
  (.seq
   (.region 0 [⟨(some 3), none, (.p (.mv (.c (.sl 0 [] true)))), false, []⟩] (some ⟨[0, 3], [], false⟩))
   (.seq
    (.seq
     (.region 0 [⟨(some 4), none, (.p (.mv (.c (.int .i64 5)))), false, []⟩] (some ⟨[0, 3, 4], [], false⟩))
     (.block 0
      (.loop (some ⟨[0, 3, 4], [(3, (1, 5))], true⟩) Try.c37b1)))
    (.seq
     (.region 0 [⟨(some 25), none, (.p (.mv (.t 3))), false, []⟩,
       ⟨(some 2), none, (.p (.mv (.t 25))), false, []⟩] (some ⟨[2], [], false⟩))
     .ret))))
theorem Try.run37 {xs : List AV} {r : AV} (hl : xs.length ≤ 26) (h : aw Try.prog Try.c37 (Pv.Ends [2] r) (entry xs)) : Run Try.prog 37 xs r :=
  run_of (fun _ _ => drawOk Try.mixed) Try.func37 rfl rfl rfl (by kernel_rfl) (by kernel_rfl) hl h
/-! 38 paling/palingref01.number : params [28], results [22], free 0, zeros [(.slice none 0 0)] -/
def Try.c38b0 : AC :=
 (.seq
  (.seq
   (.region 0 [⟨(some 5), none, (.p (.mv (.t 4))), false, []⟩,
     ⟨(some 6), none, (.p (.mv (.t 0))), false, []⟩,
     ⟨(some 7), none, (.p (.len (.t 6))), false, []⟩,
     ⟨(some 8), none, (.p (.bin .lss (.t 5) (.t 7))), false, []⟩] (some ⟨[0, 3, 4, 8], [], false⟩))
   (.cond (.t 8)
    .skip
    (.exit 0)))
  (.seq
   (.block 1
    (.region 0 [⟨(some 11), none, (.p (.mv (.t 3))), false, []⟩,
      ⟨(some 12), none, (.p (.bin .mul (.t 11) (.c (.int .u64 256)))), false, []⟩,
      ⟨(some 13), none, (.p (.mv (.t 0))), false, []⟩,
      ⟨(some 14), none, (.p (.mv (.t 4))), false, []⟩,
      ⟨(some 15), none, (.p (.iaddr 1 (.t 13) (.t 14))), false, []⟩,
      ⟨(some 16), none, (.r (.load 1 false (.t 15))), false, []⟩,
      ⟨(some 17), none, (.p (.convI .u64 (.t 16))), false, []⟩,
      ⟨(some 18), none, (.p (.bin .add (.t 12) (.t 17))), false, []⟩,
      ⟨(some 3), none, (.p (.mv (.t 18))), false, []⟩] (some ⟨[0, 3, 4], [], false⟩)))
   (.region 0 [⟨(some 9), none, (.p (.mv (.t 4))), false, []⟩,
     ⟨(some 10), none, (.p (.bin .add (.t 9) (.c (.int .i64 1)))), false, []⟩,
     ⟨(some 4), none, (.p (.mv (.t 10))), false, []⟩] (some ⟨[0, 3, 4], [], false⟩))))
def Try.c38 : AC :=
 (.seq
  (.region 0 [⟨(some 2), none, (.p (.mv (.c (.int .u64 0)))), false, []⟩] (some ⟨[0], [], false⟩))
  (.seq
   (.region 0 [⟨(some 3), none, (.p (.mv (.c (.int .u64 0)))), false, []⟩] (some ⟨[0, 3], [], false⟩))
   (.seq
    (.seq
     (.region 0 [⟨(some 4), none, (.p (.mv (.c (.int .i64 0)))), false, []⟩] (some ⟨[0, 3, 4], [], false⟩))
     (.block 0
      (.loop (some ⟨[0, 3, 4], [], true⟩) Try.c38b0)))
    (.seq
     (.region 0 [⟨(some 19), none, (.p (.mv (.t 3))), false, []⟩,
       ⟨(some 2), none, (.p (.mv (.t 19))), false, []⟩] (some ⟨[2], [], false⟩))
     .ret))))
theorem Try.run38 {xs : List AV} {r : AV} (hl : xs.length ≤ 20) (h : aw Try.prog Try.c38 (Pv.Ends [2] r) (entry xs)) : Run Try.prog 38 xs r :=
  run_of (fun _ _ => drawOk Try.mixed) Try.func38 rfl rfl rfl (by kernel_rfl) (by kernel_rfl) hl h
end Go.Proofs
