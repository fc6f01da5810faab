/-
  The compiled code of this seat's functions, with what is live kept, and the rules that run it. (Printed by a program of ours.)
-/
import Derived.Test.YtimibefpfenelaaPvZG
import Derived.Test.YtimibefpfenelaaProg
namespace Go.Proofs
open Go.Pv
theorem Try.mixed : Try.prog.follows .mixedOrders = true := by kernel_rfl
/-! 2 gosem.cut.init : params [], results [], free 0, zeros [] -/
def Try.c2 : AC :=
 (.region 0 [⟨(some 0), none, (.call 1 [] false), false, []⟩] (some ⟨[], [], false⟩))
theorem Try.run2 {xs : List AV} {r : AV} (hl : xs.length ≤ 1) (h : aw Try.prog Try.c2 (Pv.Ends [] r) (entry xs)) : Run Try.prog 2 xs r :=
  run_of (fun _ _ => drawOk Try.mixed) Try.func2 rfl rfl rfl (by kernel_rfl) (by kernel_rfl) hl h
/-! 3 paling/palinglaw32.QueueMoves : params [22, 28, 3], results [4], free 0, zeros [(.slice none 0 0), (.agg #[(.int .i64 (0)), (.int .i64 (0)), (.int .i64 (0)), (.int .u64 (0)), (.int .u64 (0)), (.int .i64 (0)), (.slice none 0 0)]), (.int .i64 (0))] -/
def Try.c3 : AC :=
 (.seq
  (.region 0 [⟨(some 4), none, (.e (.box 28 (.t 1)) none), false, []⟩,
    ⟨(some 6), none, (.p (.mv (.c (.bool false)))), false, []⟩] (some ⟨[0, 2, 4], [], false⟩))
  (.seq
   (.seq
    (.region 0 [⟨(some 14), none, (.p (.mv (.t 0))), false, []⟩,
      ⟨(some 15), none, (.call 15 [(.t 14)] false), false, []⟩,
      ⟨(some 16), none, (.p (.mv (.t 15))), false, []⟩,
      ⟨(some 17), (some (16, false)), (.r (.load 7 true (.t 4))), false, []⟩,
      ⟨(some 18), (some (16, false)), (.e (.mks 28 7 (.agg [(.int .i64 0), (.int .i64 0), (.int .i64 0), (.int .u64 0), (.int .u64 0), (.int .i64 0), (.sl 0 [] true)]) 1 [(0, (.t 17))]) none), false, []⟩,
      ⟨(some 19), (some (16, false)), (.call 15 [(.t 18)] false), false, []⟩,
      ⟨(some 20), none, (.p (.pick (.t 16) (.c (.bool true)) (.t 19))), false, []⟩] (some ⟨[0, 2, 4, 20], [], false⟩))
    (.cond (.t 20)
     (.seq
      (.region 0 [⟨(some 21), none, (.call 16 [] false), false, []⟩,
        ⟨(some 6), none, (.p (.mv (.t 21))), false, []⟩] (some ⟨[6], [], false⟩))
      .ret)
     .skip))
   (.seq
    (.region 0 [⟨(some 22), none, (.e (.mks 28 7 (.agg [(.int .i64 0), (.int .i64 0), (.int .i64 0), (.int .u64 0), (.int .u64 0), (.int .i64 0), (.sl 0 [] true)]) 0 []) none), false, []⟩,
      ⟨(some 23), none, (.p (.mv (.t 0))), false, []⟩,
      ⟨(some 24), none, (.e (.append 28 7 (.t 22) (.t 23)) none), false, []⟩,
      ⟨(some 7), none, (.p (.mv (.t 24))), false, []⟩] (some ⟨[0, 2, 4, 7], [], false⟩))
    (.seq
     (.region 0 [⟨(some 26), none, (.p (.mv (.t 7))), false, []⟩,
       ⟨(some 27), none, (.r (.load 7 true (.t 4))), false, []⟩,
       ⟨(some 28), none, (.call 17 [(.t 26), (.t 27)] false), false, []⟩,
       ⟨(some 25), none, (.p (.mv (.t 28))), false, []⟩,
       ⟨(some 29), none, (.p (.ext (.t 25) 0)), false, []⟩,
       ⟨(some 30), none, (.p (.ext (.t 25) 1)), false, []⟩,
       ⟨(some 8), none, (.p (.mv (.t 29))), false, []⟩,
       ⟨(some 9), none, (.p (.mv (.t 30))), false, []⟩] (some ⟨[0, 2, 4, 7, 8, 9], [], false⟩))
     (.seq
      (.region 0 [⟨(some 32), none, (.p (.mv (.t 0))), false, []⟩,
        ⟨(some 33), none, (.r (.load 7 true (.t 4))), false, []⟩,
        ⟨(some 34), none, (.call 18 [(.t 32), (.t 33)] false), false, []⟩,
        ⟨(some 31), none, (.p (.mv (.t 34))), false, []⟩,
        ⟨(some 35), none, (.p (.ext (.t 31) 0)), false, []⟩,
        ⟨(some 36), none, (.p (.ext (.t 31) 1)), false, []⟩,
        ⟨(some 10), none, (.p (.mv (.t 35))), false, []⟩,
        ⟨(some 11), none, (.p (.mv (.t 36))), false, []⟩] (some ⟨[0, 2, 7, 8, 9, 10, 11], [], false⟩))
      (.seq
       (.seq
        (.region 0 [⟨(some 37), none, (.p (.mv (.t 8))), false, []⟩,
          ⟨(some 38), none, (.p (.mv (.t 10))), false, []⟩,
          ⟨(some 39), none, (.call 19 [(.t 37), (.t 38)] false), false, []⟩,
          ⟨(some 40), none, (.p (.un .not (.t 39))), false, []⟩,
          ⟨(some 41), none, (.p (.mv (.t 40))), false, []⟩,
          ⟨(some 42), (some (41, false)), (.p (.mv (.t 9))), false, []⟩,
          ⟨(some 43), (some (41, false)), (.p (.mv (.t 11))), false, []⟩,
          ⟨(some 44), (some (41, false)), (.p (.binB .neq (.t 42) (.t 43))), false, []⟩,
          ⟨(some 45), none, (.p (.pick (.t 41) (.c (.bool true)) (.t 44))), false, []⟩] (some ⟨[0, 2, 7, 45], [], false⟩))
        (.cond (.t 45)
         (.seq
          (.region 0 [⟨(some 6), none, (.p (.mv (.c (.bool false)))), false, []⟩] (some ⟨[6], [], false⟩))
          .ret)
         .skip))
       (.seq
        (.region 0 [⟨(some 47), none, (.p (.mv (.t 7))), false, []⟩,
          ⟨(some 48), none, (.p (.mv (.t 2))), false, []⟩,
          ⟨(some 49), none, (.call 20 [(.t 47), (.t 48)] false), false, []⟩,
          ⟨(some 46), none, (.p (.mv (.t 49))), false, []⟩,
          ⟨(some 50), none, (.p (.ext (.t 46) 0)), false, []⟩,
          ⟨(some 51), none, (.p (.ext (.t 46) 1)), false, []⟩,
          ⟨(some 52), none, (.p (.ext (.t 46) 2)), false, []⟩,
          ⟨(some 12), none, (.e (.alloc 28 (.agg [(.int .i64 0), (.int .i64 0), (.int .i64 0), (.int .u64 0), (.int .u64 0), (.int .i64 0), (.sl 0 [] true)])) none), false, []⟩,
          ⟨none, none, (.e (.store 7 (.t 12) (.t 50)) none), false, []⟩,
          ⟨(some 8), none, (.p (.mv (.t 51))), false, []⟩,
          ⟨(some 9), none, (.p (.mv (.t 52))), false, []⟩] (some ⟨[0, 2, 7, 8, 9, 12], [], false⟩))
        (.seq
         (.region 0 [⟨(some 54), none, (.p (.mv (.t 0))), false, []⟩,
           ⟨(some 55), none, (.p (.mv (.t 2))), false, []⟩,
           ⟨(some 56), none, (.call 21 [(.t 54), (.t 55)] false), false, []⟩,
           ⟨(some 53), none, (.p (.mv (.t 56))), false, []⟩,
           ⟨(some 57), none, (.p (.ext (.t 53) 0)), false, []⟩,
           ⟨(some 58), none, (.p (.ext (.t 53) 1)), false, []⟩,
           ⟨(some 59), none, (.p (.ext (.t 53) 2)), false, []⟩,
           ⟨(some 13), none, (.e (.alloc 28 (.agg [(.int .i64 0), (.int .i64 0), (.int .i64 0), (.int .u64 0), (.int .u64 0), (.int .i64 0), (.sl 0 [] true)])) none), false, []⟩,
           ⟨none, none, (.e (.store 7 (.t 13) (.t 57)) none), false, []⟩,
           ⟨(some 10), none, (.p (.mv (.t 58))), false, []⟩,
           ⟨(some 11), none, (.p (.mv (.t 59))), false, []⟩] (some ⟨[0, 7, 8, 9, 10, 11, 12, 13], [], false⟩))
         (.seq
          (.region 0 [⟨(some 60), none, (.r (.load 7 true (.t 12))), false, []⟩,
            ⟨(some 61), none, (.r (.load 7 true (.t 13))), false, []⟩,
            ⟨(some 62), none, (.call 22 [(.t 60), (.t 61)] false), false, []⟩,
            ⟨(some 63), none, (.p (.mv (.t 62))), false, []⟩,
            ⟨(some 64), (some (63, true)), (.p (.mv (.t 8))), false, []⟩,
            ⟨(some 65), (some (63, true)), (.p (.mv (.t 10))), false, []⟩,
            ⟨(some 66), (some (63, true)), (.call 19 [(.t 64), (.t 65)] false), false, []⟩,
            ⟨(some 67), none, (.p (.pick (.t 63) (.t 66) (.c (.bool false)))), false, []⟩,
            ⟨(some 68), none, (.p (.mv (.t 67))), false, []⟩,
            ⟨(some 69), (some (68, true)), (.p (.mv (.t 9))), false, []⟩,
            ⟨(some 70), (some (68, true)), (.p (.mv (.t 11))), false, []⟩,
            ⟨(some 71), (some (68, true)), (.p (.binB .eql (.t 69) (.t 70))), false, []⟩,
            ⟨(some 72), none, (.p (.pick (.t 68) (.t 71) (.c (.bool false)))), false, []⟩,
            ⟨(some 73), none, (.p (.mv (.t 72))), false, []⟩,
            ⟨(some 74), (some (73, true)), (.p (.mv (.t 7))), false, []⟩,
            ⟨(some 75), (some (73, true)), (.p (.mv (.t 0))), false, []⟩,
            ⟨(some 76), (some (73, true)), (.call 19 [(.t 74), (.t 75)] false), false, []⟩,
            ⟨(some 77), none, (.p (.pick (.t 73) (.t 76) (.c (.bool false)))), false, []⟩,
            ⟨(some 78), none, (.p (.mv (.t 77))), false, []⟩,
            ⟨(some 79), (some (78, true)), (.call 16 [] false), false, []⟩,
            ⟨(some 80), none, (.p (.pick (.t 78) (.t 79) (.c (.bool false)))), false, []⟩,
            ⟨(some 6), none, (.p (.mv (.t 80))), false, []⟩] (some ⟨[6], [], false⟩))
          .ret)))))))))
theorem Try.run3 {xs : List AV} {r : AV} (hl : xs.length ≤ 81) (h : aw Try.prog Try.c3 (Pv.Ends [6] r) (entry xs)) : Run Try.prog 3 xs r :=
  run_of (fun _ _ => drawOk Try.mixed) Try.func3 rfl rfl rfl (by kernel_rfl) (by kernel_rfl) hl h
/-! 4 paling/palinglaw05.TagStrips : params [26], results [4], free 0, zeros [(.agg #[(.int .u64 (0)), (.int .u64 (0)), (.int .i64 (0)), (.slice none 0 0)])] -/
def Try.c4 : AC :=
 (.seq
  (.region 0 [⟨(some 1), none, (.e (.box 26 (.t 0)) none), false, []⟩,
    ⟨(some 2), none, (.p (.mv (.c (.bool false)))), false, []⟩] (some ⟨[1], [], false⟩))
  (.seq
   (.seq
    (.region 0 [⟨(some 11), none, (.p (.faddr 3 (.t 1))), false, []⟩,
      ⟨(some 12), none, (.r (.load 1 false (.t 11))), false, []⟩,
      ⟨(some 13), none, (.p (.len (.t 12))), false, []⟩,
      ⟨(some 14), none, (.p (.bin .gtr (.t 13) (.c (.int .i64 4000)))), false, []⟩] (some ⟨[1, 14], [], false⟩))
    (.cond (.t 14)
     (.seq
      (.region 0 [⟨(some 15), none, (.call 23 [] false), false, []⟩,
        ⟨(some 2), none, (.p (.mv (.t 15))), false, []⟩] (some ⟨[2], [], false⟩))
      .ret)
     .skip))
   (.seq
    (.region 0 [⟨(some 17), none, (.r (.load 4 true (.t 1))), false, []⟩,
      ⟨(some 18), none, (.call 24 [(.t 17)] false), false, []⟩,
      ⟨(some 16), none, (.p (.mv (.t 18))), false, []⟩,
      ⟨(some 19), none, (.p (.ext (.t 16) 0)), false, []⟩,
      ⟨(some 20), none, (.p (.ext (.t 16) 1)), false, []⟩,
      ⟨(some 21), none, (.p (.ext (.t 16) 2)), false, []⟩,
      ⟨(some 22), none, (.p (.ext (.t 16) 3)), false, []⟩,
      ⟨(some 3), none, (.e (.alloc 26 (.agg [(.int .u64 0), (.int .u64 0), (.int .i64 0), (.sl 0 [] true)])) none), false, []⟩,
      ⟨none, none, (.e (.store 4 (.t 3) (.t 19)) none), false, []⟩,
      ⟨(some 4), none, (.p (.mv (.t 20))), false, []⟩,
      ⟨(some 5), none, (.p (.mv (.t 21))), false, []⟩,
      ⟨(some 6), none, (.p (.mv (.t 22))), false, []⟩] (some ⟨[1, 3, 4, 5, 6], [], false⟩))
    (.seq
     (.region 0 [⟨(some 24), none, (.r (.load 4 true (.t 1))), false, []⟩,
       ⟨(some 25), none, (.call 25 [(.t 24)] false), false, []⟩,
       ⟨(some 23), none, (.p (.mv (.t 25))), false, []⟩,
       ⟨(some 26), none, (.p (.ext (.t 23) 0)), false, []⟩,
       ⟨(some 27), none, (.p (.ext (.t 23) 1)), false, []⟩,
       ⟨(some 28), none, (.p (.ext (.t 23) 2)), false, []⟩,
       ⟨(some 29), none, (.p (.ext (.t 23) 3)), false, []⟩,
       ⟨(some 7), none, (.e (.alloc 26 (.agg [(.int .u64 0), (.int .u64 0), (.int .i64 0), (.sl 0 [] true)])) none), false, []⟩,
       ⟨none, none, (.e (.store 4 (.t 7) (.t 26)) none), false, []⟩,
       ⟨(some 8), none, (.p (.mv (.t 27))), false, []⟩,
       ⟨(some 9), none, (.p (.mv (.t 28))), false, []⟩,
       ⟨(some 10), none, (.p (.mv (.t 29))), false, []⟩] (some ⟨[1, 3, 4, 5, 6, 7, 8, 9, 10], [], false⟩))
     (.seq
      (.region 30 [⟨(some 30), none, (.r (.load 4 true (.t 3))), false, []⟩,
        ⟨(some 31), none, (.r (.load 4 true (.t 7))), false, []⟩,
        ⟨(some 32), none, (.call 26 [(.t 30), (.t 31)] true), false, []⟩,
        ⟨(some 33), none, (.p (.mv (.t 32))), false, []⟩,
        ⟨(some 34), (some (33, true)), (.p (.mv (.t 4))), false, []⟩,
        ⟨(some 35), (some (33, true)), (.p (.mv (.t 8))), false, []⟩,
        ⟨(some 36), (some (33, true)), (.p (.bin .eql (.t 34) (.t 35))), false, []⟩,
        ⟨(some 37), none, (.p (.pick (.t 33) (.t 36) (.c (.bool false)))), false, []⟩,
        ⟨(some 38), none, (.p (.mv (.t 37))), false, []⟩,
        ⟨(some 39), (some (38, true)), (.p (.mv (.t 5))), false, []⟩,
        ⟨(some 40), (some (38, true)), (.p (.mv (.t 9))), false, []⟩,
        ⟨(some 41), (some (38, true)), (.p (.bin .eql (.t 39) (.t 40))), false, []⟩,
        ⟨(some 42), none, (.p (.pick (.t 38) (.t 41) (.c (.bool false)))), false, []⟩,
        ⟨(some 43), none, (.p (.mv (.t 42))), false, []⟩,
        ⟨(some 44), (some (43, true)), (.p (.mv (.t 6))), false, []⟩,
        ⟨(some 45), (some (43, true)), (.p (.mv (.t 10))), false, []⟩,
        ⟨(some 46), (some (43, true)), (.p (.bin .eql (.t 44) (.t 45))), false, []⟩,
        ⟨(some 47), none, (.p (.pick (.t 43) (.t 46) (.c (.bool false)))), false, []⟩,
        ⟨(some 48), none, (.p (.mv (.t 47))), false, []⟩,
        ⟨(some 49), (some (48, true)), (.r (.load 4 true (.t 1))), false, []⟩,
        ⟨(some 51), (some (48, true)), (.p (.faddr 2 (.t 1))), false, []⟩,
        ⟨(some 52), (some (48, true)), (.r (.load 1 false (.t 51))), false, []⟩,
        ⟨(some 53), (some (48, true)), (.p (.bin .eql (.t 52) (.c (.int .i64 33024)))), false, []⟩,
        ⟨(some 50), (some (48, true)), (.call 27 [(.t 49)] true), false, []⟩,
        ⟨(some 54), (some (48, true)), (.p (.binB .eql (.t 50) (.t 53))), false, []⟩,
        ⟨(some 55), none, (.p (.pick (.t 48) (.t 54) (.c (.bool false)))), false, []⟩,
        ⟨(some 56), none, (.p (.mv (.t 55))), false, []⟩,
        ⟨(some 57), (some (56, true)), (.call 23 [] true), false, []⟩,
        ⟨(some 58), none, (.p (.pick (.t 56) (.t 57) (.c (.bool false)))), false, []⟩,
        ⟨(some 2), none, (.p (.mv (.t 58))), false, []⟩] (some ⟨[2], [], true⟩))
      .ret)))))
theorem Try.run4 {xs : List AV} {r : AV} (hl : xs.length ≤ 59) (h : aw Try.prog Try.c4 (Pv.Ends [2] r) (entry xs)) : Run Try.prog 4 xs r :=
  run_of (fun _ _ => drawOk Try.mixed) Try.func4 rfl rfl rfl (by kernel_rfl) (by kernel_rfl) hl h
/-! 5 paling/palinglaw05.TagAdds : params [26, 3, 3], results [4], free 0, zeros [(.agg #[(.int .u64 (0)), (.int .u64 (0)), (.int .i64 (0)), (.slice none 0 0)]), (.int .i64 (0)), (.int .i64 (0))] -/
def Try.c5 : AC :=
 (.seq
  (.region 0 [⟨(some 3), none, (.e (.box 26 (.t 0)) none), false, []⟩,
    ⟨(some 6), none, (.p (.mv (.c (.bool false)))), false, []⟩] (some ⟨[1, 2, 3], [], false⟩))
  (.seq
   (.seq
    (.region 0 [⟨(some 11), none, (.p (.faddr 3 (.t 3))), false, []⟩,
      ⟨(some 12), none, (.r (.load 1 false (.t 11))), false, []⟩,
      ⟨(some 13), none, (.p (.len (.t 12))), false, []⟩,
      ⟨(some 14), none, (.p (.bin .gtr (.t 13) (.c (.int .i64 4000)))), false, []⟩] (some ⟨[1, 2, 3, 14], [], false⟩))
    (.cond (.t 14)
     (.seq
      (.region 0 [⟨(some 15), none, (.call 23 [] false), false, []⟩,
        ⟨(some 6), none, (.p (.mv (.t 15))), false, []⟩] (some ⟨[6], [], false⟩))
      .ret)
     .skip))
   (.seq
    (.region 0 [⟨(some 17), none, (.r (.load 4 true (.t 3))), false, []⟩,
      ⟨(some 18), none, (.p (.mv (.t 1))), false, []⟩,
      ⟨(some 19), none, (.p (.mv (.t 2))), false, []⟩,
      ⟨(some 20), none, (.call 28 [(.t 17), (.t 18), (.t 19)] false), false, []⟩,
      ⟨(some 16), none, (.p (.mv (.t 20))), false, []⟩,
      ⟨(some 21), none, (.p (.ext (.t 16) 0)), false, []⟩,
      ⟨(some 22), none, (.p (.ext (.t 16) 1)), false, []⟩,
      ⟨(some 7), none, (.e (.alloc 26 (.agg [(.int .u64 0), (.int .u64 0), (.int .i64 0), (.sl 0 [] true)])) none), false, []⟩,
      ⟨none, none, (.e (.store 4 (.t 7) (.t 21)) none), false, []⟩,
      ⟨(some 8), none, (.p (.mv (.t 22))), false, []⟩] (some ⟨[1, 2, 3, 7, 8], [], false⟩))
    (.seq
     (.region 0 [⟨(some 24), none, (.r (.load 4 true (.t 3))), false, []⟩,
       ⟨(some 25), none, (.p (.mv (.t 1))), false, []⟩,
       ⟨(some 26), none, (.p (.mv (.t 2))), false, []⟩,
       ⟨(some 27), none, (.call 29 [(.t 24), (.t 25), (.t 26)] false), false, []⟩,
       ⟨(some 23), none, (.p (.mv (.t 27))), false, []⟩,
       ⟨(some 28), none, (.p (.ext (.t 23) 0)), false, []⟩,
       ⟨(some 29), none, (.p (.ext (.t 23) 1)), false, []⟩,
       ⟨(some 9), none, (.e (.alloc 26 (.agg [(.int .u64 0), (.int .u64 0), (.int .i64 0), (.sl 0 [] true)])) none), false, []⟩,
       ⟨none, none, (.e (.store 4 (.t 9) (.t 28)) none), false, []⟩,
       ⟨(some 10), none, (.p (.mv (.t 29))), false, []⟩] (some ⟨[7, 8, 9, 10], [], false⟩))
     (.seq
      (.region 0 [⟨(some 30), none, (.r (.load 4 true (.t 7))), false, []⟩,
        ⟨(some 31), none, (.r (.load 4 true (.t 9))), false, []⟩,
        ⟨(some 32), none, (.call 26 [(.t 30), (.t 31)] false), false, []⟩,
        ⟨(some 33), none, (.p (.mv (.t 32))), false, []⟩,
        ⟨(some 34), (some (33, true)), (.p (.mv (.t 8))), false, []⟩,
        ⟨(some 35), (some (33, true)), (.p (.mv (.t 10))), false, []⟩,
        ⟨(some 36), (some (33, true)), (.p (.bin .eql (.t 34) (.t 35))), false, []⟩,
        ⟨(some 37), none, (.p (.pick (.t 33) (.t 36) (.c (.bool false)))), false, []⟩,
        ⟨(some 38), none, (.p (.mv (.t 37))), false, []⟩,
        ⟨(some 39), (some (38, true)), (.call 23 [] false), false, []⟩,
        ⟨(some 40), none, (.p (.pick (.t 38) (.t 39) (.c (.bool false)))), false, []⟩,
        ⟨(some 6), none, (.p (.mv (.t 40))), false, []⟩] (some ⟨[6], [], false⟩))
      .ret)))))
theorem Try.run5 {xs : List AV} {r : AV} (hl : xs.length ≤ 41) (h : aw Try.prog Try.c5 (Pv.Ends [6] r) (entry xs)) : Run Try.prog 5 xs r :=
  run_of (fun _ _ => drawOk Try.mixed) Try.func5 rfl rfl rfl (by kernel_rfl) (by kernel_rfl) hl h
/-! 6 paling/palinglaw05.TagOnce : params [26, 3, 3], results [4], free 0, zeros [(.agg #[(.int .u64 (0)), (.int .u64 (0)), (.int .i64 (0)), (.slice none 0 0)]), (.int .i64 (0)), (.int .i64 (0))] -/
def Try.c6 : AC :=
 (.seq
  (.region 0 [⟨(some 3), none, (.e (.box 26 (.t 0)) none), false, []⟩,
    ⟨(some 6), none, (.p (.mv (.c (.bool false)))), false, []⟩] (some ⟨[1, 2, 3], [], false⟩))
  (.seq
   (.seq
    (.region 0 [⟨(some 15), none, (.call 23 [] false), false, []⟩,
      ⟨(some 16), none, (.p (.un .not (.t 15))), false, []⟩] (some ⟨[1, 2, 3, 16], [], false⟩))
    (.cond (.t 16)
     (.seq
      (.region 0 [⟨(some 6), none, (.p (.mv (.c (.bool false)))), false, []⟩] (some ⟨[6], [], false⟩))
      .ret)
     .skip))
   (.seq
    (.seq
     (.region 0 [⟨(some 17), none, (.p (.faddr 3 (.t 3))), false, []⟩,
       ⟨(some 18), none, (.r (.load 1 false (.t 17))), false, []⟩,
       ⟨(some 19), none, (.p (.len (.t 18))), false, []⟩,
       ⟨(some 20), none, (.p (.bin .gtr (.t 19) (.c (.int .i64 4000)))), false, []⟩] (some ⟨[1, 2, 3, 20], [], false⟩))
     (.cond (.t 20)
      (.seq
       (.region 0 [⟨(some 6), none, (.p (.mv (.c (.bool true)))), false, []⟩] (some ⟨[6], [], false⟩))
       .ret)
      .skip))
    (.seq
     (.region 0 [⟨(some 22), none, (.r (.load 4 true (.t 3))), false, []⟩,
       ⟨(some 23), none, (.p (.mv (.t 1))), false, []⟩,
       ⟨(some 24), none, (.p (.mv (.t 2))), false, []⟩,
       ⟨(some 25), none, (.call 28 [(.t 22), (.t 23), (.t 24)] false), false, []⟩,
       ⟨(some 21), none, (.p (.mv (.t 25))), false, []⟩,
       ⟨(some 26), none, (.p (.ext (.t 21) 0)), false, []⟩,
       ⟨(some 27), none, (.p (.ext (.t 21) 1)), false, []⟩,
       ⟨(some 7), none, (.e (.alloc 26 (.agg [(.int .u64 0), (.int .u64 0), (.int .i64 0), (.sl 0 [] true)])) none), false, []⟩,
       ⟨none, none, (.e (.store 4 (.t 7) (.t 26)) none), false, []⟩,
       ⟨(some 8), none, (.p (.mv (.t 27))), false, []⟩] (some ⟨[1, 2, 3, 7, 8], [], false⟩))
     (.seq
      (.region 0 [⟨(some 29), none, (.r (.load 4 true (.t 7))), false, []⟩,
        ⟨(some 30), none, (.p (.mv (.t 1))), false, []⟩,
        ⟨(some 31), none, (.p (.mv (.t 2))), false, []⟩,
        ⟨(some 32), none, (.call 28 [(.t 29), (.t 30), (.t 31)] false), false, []⟩,
        ⟨(some 28), none, (.p (.mv (.t 32))), false, []⟩,
        ⟨(some 33), none, (.p (.ext (.t 28) 0)), false, []⟩,
        ⟨(some 34), none, (.p (.ext (.t 28) 1)), false, []⟩,
        ⟨(some 9), none, (.e (.alloc 26 (.agg [(.int .u64 0), (.int .u64 0), (.int .i64 0), (.sl 0 [] true)])) none), false, []⟩,
        ⟨none, none, (.e (.store 4 (.t 9) (.t 33)) none), false, []⟩,
        ⟨(some 10), none, (.p (.mv (.t 34))), false, []⟩] (some ⟨[3, 7, 8, 10], [], false⟩))
      (.seq
       (.region 0 [⟨(some 36), none, (.r (.load 4 true (.t 3))), false, []⟩,
         ⟨(some 37), none, (.call 24 [(.t 36)] false), false, []⟩,
         ⟨(some 35), none, (.p (.mv (.t 37))), false, []⟩,
         ⟨(some 38), none, (.p (.ext (.t 35) 0)), false, []⟩,
         ⟨(some 39), none, (.p (.ext (.t 35) 1)), false, []⟩,
         ⟨(some 40), none, (.p (.ext (.t 35) 2)), false, []⟩,
         ⟨(some 41), none, (.p (.ext (.t 35) 3)), false, []⟩,
         ⟨(some 11), none, (.e (.alloc 26 (.agg [(.int .u64 0), (.int .u64 0), (.int .i64 0), (.sl 0 [] true)])) none), false, []⟩,
         ⟨none, none, (.e (.store 4 (.t 11) (.t 38)) none), false, []⟩,
         ⟨(some 12), none, (.p (.mv (.t 39))), false, []⟩,
         ⟨(some 13), none, (.p (.mv (.t 40))), false, []⟩,
         ⟨(some 14), none, (.p (.mv (.t 41))), false, []⟩] (some ⟨[7, 8, 10, 11, 14], [], false⟩))
       (.seq
        (.region 0 [⟨(some 42), none, (.p (.mv (.t 8))), false, []⟩,
          ⟨(some 43), none, (.p (.bin .neq (.t 42) (.c (.int .i64 0)))), false, []⟩,
          ⟨(some 44), none, (.p (.mv (.t 43))), false, []⟩,
          ⟨(some 45), (some (44, false)), (.r (.load 4 true (.t 7))), false, []⟩,
          ⟨(some 46), (some (44, false)), (.call 27 [(.t 45)] false), false, []⟩,
          ⟨(some 47), (some (44, false)), (.p (.mv (.t 46))), false, []⟩,
          ⟨(some 48), (some (47, true)), (.p (.mv (.t 10))), false, []⟩,
          ⟨(some 49), (some (47, true)), (.p (.bin .eql (.t 48) (.c (.int .i64 15)))), false, []⟩,
          ⟨(some 50), (some (44, false)), (.p (.pick (.t 47) (.t 49) (.c (.bool false)))), false, []⟩,
          ⟨(some 51), none, (.p (.pick (.t 44) (.c (.bool true)) (.t 50))), false, []⟩,
          ⟨(some 52), none, (.p (.mv (.t 51))), false, []⟩,
          ⟨(some 53), (some (52, true)), (.p (.mv (.t 14))), false, []⟩,
          ⟨(some 54), (some (52, true)), (.p (.bin .neq (.t 53) (.c (.int .i64 0)))), false, []⟩,
          ⟨(some 55), (some (52, true)), (.p (.mv (.t 54))), false, []⟩,
          ⟨(some 56), (some (55, false)), (.r (.load 4 true (.t 11))), false, []⟩,
          ⟨(some 57), (some (55, false)), (.call 27 [(.t 56)] false), false, []⟩,
          ⟨(some 58), (some (55, false)), (.p (.un .not (.t 57))), false, []⟩,
          ⟨(some 59), (some (52, true)), (.p (.pick (.t 55) (.c (.bool true)) (.t 58))), false, []⟩,
          ⟨(some 60), none, (.p (.pick (.t 52) (.t 59) (.c (.bool false)))), false, []⟩,
          ⟨(some 6), none, (.p (.mv (.t 60))), false, []⟩] (some ⟨[6], [], false⟩))
        .ret)))))))
theorem Try.run6 {xs : List AV} {r : AV} (hl : xs.length ≤ 61) (h : aw Try.prog Try.c6 (Pv.Ends [6] r) (entry xs)) : Run Try.prog 6 xs r :=
  run_of (fun _ _ => drawOk Try.mixed) Try.func6 rfl rfl rfl (by kernel_rfl) (by kernel_rfl) hl h
/-! 7 paling/palinglaw05.TagBack : params [26, 3, 3], results [4], free 0, zeros [(.agg #[(.int .u64 (0)), (.int .u64 (0)), (.int .i64 (0)), (.slice none 0 0)]), (.int .i64 (0)), (.int .i64 (0))] -/
def Try.c7 : AC :=
 (.seq
  (.region 0 [⟨(some 3), none, (.e (.box 26 (.t 0)) none), false, []⟩,
    ⟨(some 6), none, (.p (.mv (.c (.bool false)))), false, []⟩] (some ⟨[1, 2, 3], [], false⟩))
  (.seq
   (.seq
    (.region 0 [⟨(some 19), none, (.call 23 [] false), false, []⟩,
      ⟨(some 20), none, (.p (.un .not (.t 19))), false, []⟩] (some ⟨[1, 2, 3, 20], [], false⟩))
    (.cond (.t 20)
     (.seq
      (.region 0 [⟨(some 6), none, (.p (.mv (.c (.bool false)))), false, []⟩] (some ⟨[6], [], false⟩))
      .ret)
     .skip))
   (.seq
    (.seq
     (.region 0 [⟨(some 21), none, (.p (.faddr 3 (.t 3))), false, []⟩,
       ⟨(some 22), none, (.r (.load 1 false (.t 21))), false, []⟩,
       ⟨(some 23), none, (.p (.len (.t 22))), false, []⟩,
       ⟨(some 24), none, (.p (.bin .gtr (.t 23) (.c (.int .i64 4000)))), false, []⟩] (some ⟨[1, 2, 3, 24], [], false⟩))
     (.cond (.t 24)
      (.seq
       (.region 0 [⟨(some 6), none, (.p (.mv (.c (.bool true)))), false, []⟩] (some ⟨[6], [], false⟩))
       .ret)
      .skip))
    (.seq
     (.seq
      (.region 0 [⟨(some 26), none, (.r (.load 4 true (.t 3))), false, []⟩,
        ⟨(some 27), none, (.p (.mv (.t 1))), false, []⟩,
        ⟨(some 28), none, (.p (.mv (.t 2))), false, []⟩,
        ⟨(some 29), none, (.call 28 [(.t 26), (.t 27), (.t 28)] false), false, []⟩,
        ⟨(some 25), none, (.p (.mv (.t 29))), false, []⟩,
        ⟨(some 30), none, (.p (.ext (.t 25) 0)), false, []⟩,
        ⟨(some 31), none, (.p (.ext (.t 25) 1)), false, []⟩,
        ⟨(some 7), none, (.e (.alloc 26 (.agg [(.int .u64 0), (.int .u64 0), (.int .i64 0), (.sl 0 [] true)])) none), false, []⟩,
        ⟨none, none, (.e (.store 4 (.t 7) (.t 30)) none), false, []⟩,
        ⟨(some 8), none, (.p (.mv (.t 31))), false, []⟩] (some ⟨[1, 2, 3, 7, 8], [], false⟩))
      (.seq
       (.region 0 [⟨(some 32), none, (.p (.mv (.t 8))), false, []⟩,
         ⟨(some 33), none, (.p (.bin .eql (.t 32) (.c (.int .i64 0)))), false, []⟩] (some ⟨[1, 2, 3, 7, 33], [], false⟩))
       (.cond (.t 33)
        (.seq
         (.region 0 [⟨(some 35), none, (.r (.load 4 true (.t 7))), false, []⟩,
           ⟨(some 36), none, (.call 24 [(.t 35)] false), false, []⟩,
           ⟨(some 34), none, (.p (.mv (.t 36))), false, []⟩,
           ⟨(some 37), none, (.p (.ext (.t 34) 0)), false, []⟩,
           ⟨(some 38), none, (.p (.ext (.t 34) 1)), false, []⟩,
           ⟨(some 39), none, (.p (.ext (.t 34) 2)), false, []⟩,
           ⟨(some 40), none, (.p (.ext (.t 34) 3)), false, []⟩,
           ⟨(some 9), none, (.e (.alloc 26 (.agg [(.int .u64 0), (.int .u64 0), (.int .i64 0), (.sl 0 [] true)])) none), false, []⟩,
           ⟨none, none, (.e (.store 4 (.t 9) (.t 37)) none), false, []⟩,
           ⟨(some 10), none, (.p (.mv (.t 38))), false, []⟩,
           ⟨(some 11), none, (.p (.mv (.t 39))), false, []⟩,
           ⟨(some 12), none, (.p (.mv (.t 40))), false, []⟩] (some ⟨[1, 2, 3, 9, 10, 11, 12], [], false⟩))
         (.seq
          (.region 0 [⟨(some 41), none, (.p (.mv (.t 12))), false, []⟩,
            ⟨(some 42), none, (.p (.bin .neq (.t 41) (.c (.int .i64 0)))), false, []⟩,
            ⟨(some 43), none, (.p (.mv (.t 42))), false, []⟩,
            ⟨(some 44), (some (43, false)), (.p (.mv (.t 10))), false, []⟩,
            ⟨(some 45), (some (43, false)), (.p (.mv (.t 1))), false, []⟩,
            ⟨(some 46), (some (43, false)), (.p (.bin .neq (.t 44) (.t 45))), false, []⟩,
            ⟨(some 47), none, (.p (.pick (.t 43) (.c (.bool true)) (.t 46))), false, []⟩,
            ⟨(some 48), none, (.p (.mv (.t 47))), false, []⟩,
            ⟨(some 49), (some (48, false)), (.p (.mv (.t 11))), false, []⟩,
            ⟨(some 50), (some (48, false)), (.p (.mv (.t 2))), false, []⟩,
            ⟨(some 51), (some (48, false)), (.p (.bin .neq (.t 49) (.t 50))), false, []⟩,
            ⟨(some 52), none, (.p (.pick (.t 48) (.c (.bool true)) (.t 51))), false, []⟩,
            ⟨(some 53), none, (.p (.mv (.t 52))), false, []⟩,
            ⟨(some 54), (some (53, false)), (.r (.load 4 true (.t 9))), false, []⟩,
            ⟨(some 55), (some (53, false)), (.r (.load 4 true (.t 3))), false, []⟩,
            ⟨(some 56), (some (53, false)), (.call 30 [(.t 54), (.t 55)] false), false, []⟩,
            ⟨(some 57), (some (53, false)), (.p (.un .not (.t 56))), false, []⟩,
            ⟨(some 58), none, (.p (.pick (.t 53) (.c (.bool true)) (.t 57))), false, []⟩] (some ⟨[3, 58], [], false⟩))
          (.cond (.t 58)
           (.seq
            (.region 0 [⟨(some 6), none, (.p (.mv (.c (.bool false)))), false, []⟩] (some ⟨[6], [], false⟩))
            .ret)
           .skip)))
        .skip)))
     (.seq
      (.region 0 [⟨(some 60), none, (.r (.load 4 true (.t 3))), false, []⟩,
        ⟨(some 61), none, (.call 24 [(.t 60)] false), false, []⟩,
        ⟨(some 59), none, (.p (.mv (.t 61))), false, []⟩,
        ⟨(some 62), none, (.p (.ext (.t 59) 0)), false, []⟩,
        ⟨(some 63), none, (.p (.ext (.t 59) 1)), false, []⟩,
        ⟨(some 64), none, (.p (.ext (.t 59) 2)), false, []⟩,
        ⟨(some 65), none, (.p (.ext (.t 59) 3)), false, []⟩,
        ⟨(some 13), none, (.e (.alloc 26 (.agg [(.int .u64 0), (.int .u64 0), (.int .i64 0), (.sl 0 [] true)])) none), false, []⟩,
        ⟨none, none, (.e (.store 4 (.t 13) (.t 62)) none), false, []⟩,
        ⟨(some 14), none, (.p (.mv (.t 63))), false, []⟩,
        ⟨(some 15), none, (.p (.mv (.t 64))), false, []⟩,
        ⟨(some 16), none, (.p (.mv (.t 65))), false, []⟩] (some ⟨[3, 13, 14, 15, 16], [], false⟩))
      (.seq
       (.seq
        (.region 0 [⟨(some 66), none, (.p (.mv (.t 16))), false, []⟩,
          ⟨(some 67), none, (.p (.bin .neq (.t 66) (.c (.int .i64 0)))), false, []⟩] (some ⟨[3, 13, 14, 15, 67], [], false⟩))
        (.cond (.t 67)
         (.seq
          (.region 0 [⟨(some 68), none, (.r (.load 4 true (.t 13))), false, []⟩,
            ⟨(some 69), none, (.p (.build [(.int .u64 0), (.int .u64 0), (.int .i64 0), (.sl 0 [] true)] [])), false, []⟩,
            ⟨(some 70), none, (.call 30 [(.t 68), (.t 69)] false), false, []⟩,
            ⟨(some 71), none, (.p (.mv (.t 70))), false, []⟩,
            ⟨(some 72), (some (71, true)), (.p (.mv (.t 14))), false, []⟩,
            ⟨(some 73), (some (71, true)), (.p (.bin .eql (.t 72) (.c (.int .i64 0)))), false, []⟩,
            ⟨(some 74), none, (.p (.pick (.t 71) (.t 73) (.c (.bool false)))), false, []⟩,
            ⟨(some 75), none, (.p (.mv (.t 74))), false, []⟩,
            ⟨(some 76), (some (75, true)), (.p (.mv (.t 15))), false, []⟩,
            ⟨(some 77), (some (75, true)), (.p (.bin .eql (.t 76) (.c (.int .i64 0)))), false, []⟩,
            ⟨(some 78), none, (.p (.pick (.t 75) (.t 77) (.c (.bool false)))), false, []⟩,
            ⟨(some 6), none, (.p (.mv (.t 78))), false, []⟩] (some ⟨[6], [], false⟩))
          .ret)
         .skip))
       (.seq
        (.region 0 [⟨(some 80), none, (.r (.load 4 true (.t 13))), false, []⟩,
          ⟨(some 81), none, (.p (.mv (.t 14))), false, []⟩,
          ⟨(some 82), none, (.p (.mv (.t 15))), false, []⟩,
          ⟨(some 83), none, (.call 28 [(.t 80), (.t 81), (.t 82)] false), false, []⟩,
          ⟨(some 79), none, (.p (.mv (.t 83))), false, []⟩,
          ⟨(some 84), none, (.p (.ext (.t 79) 0)), false, []⟩,
          ⟨(some 85), none, (.p (.ext (.t 79) 1)), false, []⟩,
          ⟨(some 17), none, (.e (.alloc 26 (.agg [(.int .u64 0), (.int .u64 0), (.int .i64 0), (.sl 0 [] true)])) none), false, []⟩,
          ⟨none, none, (.e (.store 4 (.t 17) (.t 84)) none), false, []⟩,
          ⟨(some 18), none, (.p (.mv (.t 85))), false, []⟩] (some ⟨[3, 17, 18], [], false⟩))
        (.seq
         (.region 0 [⟨(some 86), none, (.p (.faddr 3 (.t 3))), false, []⟩,
           ⟨(some 87), none, (.r (.load 1 false (.t 86))), false, []⟩,
           ⟨(some 88), none, (.p (.len (.t 87))), false, []⟩,
           ⟨(some 89), none, (.p (.bin .gtr (.t 88) (.c (.int .i64 1504)))), false, []⟩,
           ⟨(some 90), none, (.p (.mv (.t 89))), false, []⟩,
           ⟨(some 91), (some (90, true)), (.p (.mv (.t 18))), false, []⟩,
           ⟨(some 92), (some (90, true)), (.p (.bin .eql (.t 91) (.c (.int .i64 14)))), false, []⟩,
           ⟨(some 93), none, (.p (.pick (.t 90) (.t 92) (.c (.bool false)))), false, []⟩,
           ⟨(some 94), none, (.p (.mv (.t 93))), false, []⟩,
           ⟨(some 95), (some (94, false)), (.p (.mv (.t 18))), false, []⟩,
           ⟨(some 96), (some (94, false)), (.p (.bin .eql (.t 95) (.c (.int .i64 0)))), false, []⟩,
           ⟨(some 97), (some (94, false)), (.p (.mv (.t 96))), false, []⟩,
           ⟨(some 98), (some (97, true)), (.r (.load 4 true (.t 17))), false, []⟩,
           ⟨(some 99), (some (97, true)), (.r (.load 4 true (.t 3))), false, []⟩,
           ⟨(some 100), (some (97, true)), (.call 30 [(.t 98), (.t 99)] false), false, []⟩,
           ⟨(some 101), (some (94, false)), (.p (.pick (.t 97) (.t 100) (.c (.bool false)))), false, []⟩,
           ⟨(some 102), none, (.p (.pick (.t 94) (.c (.bool true)) (.t 101))), false, []⟩,
           ⟨(some 6), none, (.p (.mv (.t 102))), false, []⟩] (some ⟨[6], [], false⟩))
         .ret))))))))
theorem Try.run7 {xs : List AV} {r : AV} (hl : xs.length ≤ 103) (h : aw Try.prog Try.c7 (Pv.Ends [6] r) (entry xs)) : Run Try.prog 7 xs r :=
  run_of (fun _ _ => drawOk Try.mixed) Try.func7 rfl rfl rfl (by kernel_rfl) (by kernel_rfl) hl h
/-! 8 paling/palinglaw32.QueueBack : params [22, 28], results [4], free 0, zeros [(.slice none 0 0), (.agg #[(.int .i64 (0)), (.int .i64 (0)), (.int .i64 (0)), (.int .u64 (0)), (.int .u64 (0)), (.int .i64 (0)), (.slice none 0 0)])] -/
def Try.c8 : AC :=
 (.seq
  (.region 0 [⟨(some 3), none, (.e (.box 28 (.t 1)) none), false, []⟩,
    ⟨(some 4), none, (.p (.mv (.c (.bool false)))), false, []⟩] (some ⟨[0, 3], [], false⟩))
  (.seq
   (.seq
    (.region 0 [⟨(some 10), none, (.call 16 [] false), false, []⟩,
      ⟨(some 11), none, (.p (.un .not (.t 10))), false, []⟩] (some ⟨[0, 3, 11], [], false⟩))
    (.cond (.t 11)
     (.seq
      (.region 0 [⟨(some 4), none, (.p (.mv (.c (.bool false)))), false, []⟩] (some ⟨[4], [], false⟩))
      .ret)
     .skip))
   (.seq
    (.seq
     (.region 0 [⟨(some 12), none, (.p (.mv (.t 0))), false, []⟩,
       ⟨(some 13), none, (.call 15 [(.t 12)] false), false, []⟩,
       ⟨(some 14), none, (.p (.mv (.t 13))), false, []⟩,
       ⟨(some 15), (some (14, false)), (.r (.load 7 true (.t 3))), false, []⟩,
       ⟨(some 16), (some (14, false)), (.e (.mks 28 7 (.agg [(.int .i64 0), (.int .i64 0), (.int .i64 0), (.int .u64 0), (.int .u64 0), (.int .i64 0), (.sl 0 [] true)]) 1 [(0, (.t 15))]) none), false, []⟩,
       ⟨(some 17), (some (14, false)), (.call 15 [(.t 16)] false), false, []⟩,
       ⟨(some 18), none, (.p (.pick (.t 14) (.c (.bool true)) (.t 17))), false, []⟩] (some ⟨[0, 3, 18], [], false⟩))
     (.cond (.t 18)
      (.seq
       (.region 0 [⟨(some 4), none, (.p (.mv (.c (.bool true)))), false, []⟩] (some ⟨[4], [], false⟩))
       .ret)
      .skip))
    (.seq
     (.region 0 [⟨(some 20), none, (.p (.mv (.t 0))), false, []⟩,
       ⟨(some 21), none, (.r (.load 7 true (.t 3))), false, []⟩,
       ⟨(some 22), none, (.call 17 [(.t 20), (.t 21)] false), false, []⟩,
       ⟨(some 19), none, (.p (.mv (.t 22))), false, []⟩,
       ⟨(some 23), none, (.p (.ext (.t 19) 0)), false, []⟩,
       ⟨(some 24), none, (.p (.ext (.t 19) 1)), false, []⟩,
       ⟨(some 5), none, (.p (.mv (.t 23))), false, []⟩,
       ⟨(some 6), none, (.p (.mv (.t 24))), false, []⟩] (some ⟨[0, 3, 5, 6], [], false⟩))
     (.seq
      (.seq
       (.region 0 [⟨(some 25), none, (.p (.mv (.t 6))), false, []⟩,
         ⟨(some 26), none, (.p (.un .not (.t 25))), false, []⟩] (some ⟨[0, 3, 5, 26], [], false⟩))
       (.cond (.t 26)
        (.seq
         (.region 0 [⟨(some 27), none, (.p (.mv (.t 0))), false, []⟩,
           ⟨(some 28), none, (.p (.len (.t 27))), false, []⟩,
           ⟨(some 29), none, (.p (.bin .geq (.t 28) (.c (.int .i64 64)))), false, []⟩,
           ⟨(some 30), none, (.p (.mv (.t 29))), false, []⟩,
           ⟨(some 31), (some (30, true)), (.p (.mv (.t 0))), false, []⟩,
           ⟨(some 32), (some (30, true)), (.p (.mv (.t 5))), false, []⟩,
           ⟨(some 33), (some (30, true)), (.call 31 [(.t 31), (.t 32)] false), false, []⟩,
           ⟨(some 34), none, (.p (.pick (.t 30) (.t 33) (.c (.bool false)))), false, []⟩,
           ⟨(some 4), none, (.p (.mv (.t 34))), false, []⟩] (some ⟨[4], [], false⟩))
         .ret)
        .skip))
      (.seq
       (.region 0 [⟨(some 36), none, (.p (.mv (.t 5))), false, []⟩,
         ⟨(some 37), none, (.p (.mv (.t 0))), false, []⟩,
         ⟨(some 38), none, (.p (.len (.t 37))), false, []⟩,
         ⟨(some 39), none, (.call 20 [(.t 36), (.t 38)] false), false, []⟩,
         ⟨(some 35), none, (.p (.mv (.t 39))), false, []⟩,
         ⟨(some 40), none, (.p (.ext (.t 35) 0)), false, []⟩,
         ⟨(some 41), none, (.p (.ext (.t 35) 1)), false, []⟩,
         ⟨(some 42), none, (.p (.ext (.t 35) 2)), false, []⟩,
         ⟨(some 7), none, (.e (.alloc 28 (.agg [(.int .i64 0), (.int .i64 0), (.int .i64 0), (.int .u64 0), (.int .u64 0), (.int .i64 0), (.sl 0 [] true)])) none), false, []⟩,
         ⟨none, none, (.e (.store 7 (.t 7) (.t 40)) none), false, []⟩,
         ⟨(some 8), none, (.p (.mv (.t 41))), false, []⟩,
         ⟨(some 9), none, (.p (.mv (.t 42))), false, []⟩] (some ⟨[0, 3, 7, 8, 9], [], false⟩))
       (.seq
        (.region 0 [⟨(some 43), none, (.p (.mv (.t 9))), false, []⟩,
          ⟨(some 44), none, (.p (.mv (.t 43))), false, []⟩,
          ⟨(some 45), (some (44, true)), (.p (.mv (.t 0))), false, []⟩,
          ⟨(some 46), (some (44, true)), (.p (.len (.t 45))), false, []⟩,
          ⟨(some 47), (some (44, true)), (.p (.bin .lss (.t 46) (.c (.int .i64 64)))), false, []⟩,
          ⟨(some 48), none, (.p (.pick (.t 44) (.t 47) (.c (.bool false)))), false, []⟩,
          ⟨(some 49), none, (.p (.mv (.t 48))), false, []⟩,
          ⟨(some 50), (some (49, true)), (.r (.load 7 true (.t 7))), false, []⟩,
          ⟨(some 51), (some (49, true)), (.e (.mks 28 7 (.agg [(.int .i64 0), (.int .i64 0), (.int .i64 0), (.int .u64 0), (.int .u64 0), (.int .i64 0), (.sl 0 [] true)]) 1 [(0, (.t 50))]) none), false, []⟩,
          ⟨(some 52), (some (49, true)), (.r (.load 7 true (.t 3))), false, []⟩,
          ⟨(some 53), (some (49, true)), (.e (.mks 28 7 (.agg [(.int .i64 0), (.int .i64 0), (.int .i64 0), (.int .u64 0), (.int .u64 0), (.int .i64 0), (.sl 0 [] true)]) 1 [(0, (.t 52))]) none), false, []⟩,
          ⟨(some 54), (some (49, true)), (.call 31 [(.t 51), (.t 53)] false), false, []⟩,
          ⟨(some 55), none, (.p (.pick (.t 49) (.t 54) (.c (.bool false)))), false, []⟩,
          ⟨(some 56), none, (.p (.mv (.t 55))), false, []⟩,
          ⟨(some 57), (some (56, true)), (.p (.mv (.t 8))), false, []⟩,
          ⟨(some 58), (some (56, true)), (.p (.mv (.t 0))), false, []⟩,
          ⟨(some 59), (some (56, true)), (.call 31 [(.t 57), (.t 58)] false), false, []⟩,
          ⟨(some 60), none, (.p (.pick (.t 56) (.t 59) (.c (.bool false)))), false, []⟩,
          ⟨(some 4), none, (.p (.mv (.t 60))), false, []⟩] (some ⟨[4], [], false⟩))
        .ret)))))))
theorem Try.run8 {xs : List AV} {r : AV} (hl : xs.length ≤ 61) (h : aw Try.prog Try.c8 (Pv.Ends [4] r) (entry xs)) : Run Try.prog 8 xs r :=
  run_of (fun _ _ => drawOk Try.mixed) Try.func8 rfl rfl rfl (by kernel_rfl) (by kernel_rfl) hl h
/-! 9 paling/palinglaw32.QueueOrder : params [22, 5], results [4], free 0, zeros [(.slice none 0 0), (.int .u8 (0))] -/
def Try.c9 : AC :=
 (.seq
  (.region 0 [⟨(some 4), none, (.p (.mv (.c (.bool false)))), false, []⟩] (some ⟨[0, 1], [], false⟩))
  (.seq
   (.seq
    (.region 0 [⟨(some 12), none, (.call 16 [] false), false, []⟩,
      ⟨(some 13), none, (.p (.un .not (.t 12))), false, []⟩] (some ⟨[0, 1, 13], [], false⟩))
    (.cond (.t 13)
     (.seq
      (.region 0 [⟨(some 4), none, (.p (.mv (.c (.bool false)))), false, []⟩] (some ⟨[4], [], false⟩))
      .ret)
     .skip))
   (.seq
    (.seq
     (.region 0 [⟨(some 14), none, (.p (.mv (.t 0))), false, []⟩,
       ⟨(some 15), none, (.call 15 [(.t 14)] false), false, []⟩,
       ⟨(some 16), none, (.p (.mv (.t 15))), false, []⟩,
       ⟨(some 17), (some (16, false)), (.p (.mv (.t 0))), false, []⟩,
       ⟨(some 18), (some (16, false)), (.p (.len (.t 17))), false, []⟩,
       ⟨(some 19), (some (16, false)), (.p (.bin .eql (.t 18) (.c (.int .i64 0)))), false, []⟩,
       ⟨(some 20), none, (.p (.pick (.t 16) (.c (.bool true)) (.t 19))), false, []⟩,
       ⟨(some 21), none, (.p (.mv (.t 20))), false, []⟩,
       ⟨(some 22), (some (21, false)), (.p (.mv (.t 0))), false, []⟩,
       ⟨(some 23), (some (21, false)), (.p (.len (.t 22))), false, []⟩,
       ⟨(some 24), (some (21, false)), (.p (.bin .gtr (.t 23) (.c (.int .i64 60)))), false, []⟩,
       ⟨(some 25), none, (.p (.pick (.t 21) (.c (.bool true)) (.t 24))), false, []⟩] (some ⟨[0, 1, 25], [], false⟩))
     (.cond (.t 25)
      (.seq
       (.region 0 [⟨(some 4), none, (.p (.mv (.c (.bool true)))), false, []⟩] (some ⟨[4], [], false⟩))
       .ret)
      .skip))
    (.seq
     (.region 0 [⟨(some 26), none, (.p (.mv (.t 1))), false, []⟩,
       ⟨(some 27), none, (.p (.convI .i64 (.t 26))), false, []⟩,
       ⟨(some 28), none, (.p (.mv (.t 0))), false, []⟩,
       ⟨(some 29), none, (.p (.len (.t 28))), false, []⟩,
       ⟨(some 30), none, (.p (.bin .rem (.t 27) (.t 29))), false, []⟩,
       ⟨(some 5), none, (.p (.mv (.t 30))), false, []⟩] (some ⟨[0, 5], [], false⟩))
     (.seq
      (.region 0 [⟨(some 32), none, (.p (.mv (.t 0))), false, []⟩,
        ⟨(some 33), none, (.p (.mv (.t 5))), false, []⟩,
        ⟨(some 34), none, (.call 20 [(.t 32), (.t 33)] false), false, []⟩,
        ⟨(some 31), none, (.p (.mv (.t 34))), false, []⟩,
        ⟨(some 35), none, (.p (.ext (.t 31) 0)), false, []⟩,
        ⟨(some 36), none, (.p (.ext (.t 31) 1)), false, []⟩,
        ⟨(some 37), none, (.p (.ext (.t 31) 2)), false, []⟩,
        ⟨(some 6), none, (.e (.alloc 28 (.agg [(.int .i64 0), (.int .i64 0), (.int .i64 0), (.int .u64 0), (.int .u64 0), (.int .i64 0), (.sl 0 [] true)])) none), false, []⟩,
        ⟨none, none, (.e (.store 7 (.t 6) (.t 35)) none), false, []⟩,
        ⟨(some 7), none, (.p (.mv (.t 36))), false, []⟩,
        ⟨(some 8), none, (.p (.mv (.t 37))), false, []⟩] (some ⟨[0, 5, 6, 7, 8], [], false⟩))
      (.seq
       (.region 0 [⟨(some 39), none, (.p (.mv (.t 7))), false, []⟩,
         ⟨(some 40), none, (.r (.load 7 true (.t 6))), false, []⟩,
         ⟨(some 41), none, (.call 17 [(.t 39), (.t 40)] false), false, []⟩,
         ⟨(some 38), none, (.p (.mv (.t 41))), false, []⟩,
         ⟨(some 42), none, (.p (.ext (.t 38) 0)), false, []⟩,
         ⟨(some 43), none, (.p (.ext (.t 38) 1)), false, []⟩,
         ⟨(some 9), none, (.p (.mv (.t 42))), false, []⟩,
         ⟨(some 10), none, (.p (.mv (.t 43))), false, []⟩] (some ⟨[0, 5, 8, 9, 10], [], false⟩))
       (.seq
        (.seq
         (.region 0 [⟨(some 44), none, (.p (.mv (.t 8))), false, []⟩,
           ⟨(some 45), none, (.p (.un .not (.t 44))), false, []⟩,
           ⟨(some 46), none, (.p (.mv (.t 45))), false, []⟩,
           ⟨(some 47), (some (46, false)), (.p (.mv (.t 10))), false, []⟩,
           ⟨(some 48), (some (46, false)), (.p (.un .not (.t 47))), false, []⟩,
           ⟨(some 49), none, (.p (.pick (.t 46) (.c (.bool true)) (.t 48))), false, []⟩,
           ⟨(some 50), none, (.p (.mv (.t 49))), false, []⟩,
           ⟨(some 51), (some (50, false)), (.p (.mv (.t 9))), false, []⟩,
           ⟨(some 52), (some (50, false)), (.p (.len (.t 51))), false, []⟩,
           ⟨(some 53), (some (50, false)), (.p (.mv (.t 0))), false, []⟩,
           ⟨(some 54), (some (50, false)), (.p (.len (.t 53))), false, []⟩,
           ⟨(some 55), (some (50, false)), (.p (.bin .neq (.t 52) (.t 54))), false, []⟩,
           ⟨(some 56), none, (.p (.pick (.t 50) (.c (.bool true)) (.t 55))), false, []⟩] (some ⟨[0, 5, 9, 56], [], false⟩))
         (.cond (.t 56)
          (.seq
           (.region 0 [⟨(some 4), none, (.p (.mv (.c (.bool false)))), false, []⟩] (some ⟨[4], [], false⟩))
           .ret)
          .skip))
        (.seq
         (.region 0 [⟨(some 57), none, (.e (.mks 28 7 (.agg [(.int .i64 0), (.int .i64 0), (.int .i64 0), (.int .u64 0), (.int .u64 0), (.int .i64 0), (.sl 0 [] true)]) 0 []) none), false, []⟩,
           ⟨(some 58), none, (.p (.mv (.t 0))), false, []⟩,
           ⟨(some 59), none, (.p (.mv (.t 5))), false, []⟩,
           ⟨(some 60), none, (.p (.slicev 7 (.t 58) none (some (.t 59)) none)), false, []⟩,
           ⟨(some 61), none, (.e (.append 28 7 (.t 57) (.t 60)) none), false, []⟩,
           ⟨(some 11), none, (.p (.mv (.t 61))), false, []⟩] (some ⟨[0, 5, 9, 11], [], false⟩))
         (.seq
          (.region 13 [⟨(some 62), none, (.p (.mv (.t 11))), true, [28, 28]⟩,
            ⟨(some 63), none, (.p (.mv (.t 0))), true, [28, 28]⟩,
            ⟨(some 64), none, (.p (.mv (.t 5))), true, [28, 28]⟩,
            ⟨(some 65), none, (.p (.bin .add (.t 64) (.c (.int .i64 1)))), true, [28, 28]⟩,
            ⟨(some 66), none, (.p (.slicev 7 (.t 63) (some (.t 65)) none none)), true, [28, 28]⟩,
            ⟨(some 68), none, (.p (.mv (.t 0))), true, [28, 28]⟩,
            ⟨(some 69), none, (.p (.mv (.t 5))), true, [28, 28]⟩,
            ⟨(some 70), none, (.p (.iaddr 7 (.t 68) (.t 69))), true, [28, 28]⟩,
            ⟨(some 71), none, (.r (.load 7 true (.t 70))), true, [28, 28]⟩,
            ⟨(some 67), none, (.e (.append 28 7 (.t 62) (.t 66)) (some 5)), true, [28, 28]⟩,
            ⟨(some 72), none, (.e (.mks 28 7 (.agg [(.int .i64 0), (.int .i64 0), (.int .i64 0), (.int .u64 0), (.int .u64 0), (.int .i64 0), (.sl 0 [] true)]) 1 [(0, (.t 71))]) (some 10)), true, [28, 28]⟩,
            ⟨(some 73), none, (.e (.append 28 7 (.t 67) (.t 72)) (some 11)), true, [28, 28]⟩,
            ⟨(some 11), none, (.p (.mv (.t 73))), true, [28, 28]⟩] (some ⟨[9, 11], [], true⟩))
          (.seq
           (.region 0 [⟨(some 74), none, (.p (.mv (.t 9))), false, []⟩,
             ⟨(some 75), none, (.p (.mv (.t 11))), false, []⟩,
             ⟨(some 76), none, (.call 31 [(.t 74), (.t 75)] false), false, []⟩,
             ⟨(some 4), none, (.p (.mv (.t 76))), false, []⟩] (some ⟨[4], [], false⟩))
           .ret))))))))))
theorem Try.run9 {xs : List AV} {r : AV} (hl : xs.length ≤ 77) (h : aw Try.prog Try.c9 (Pv.Ends [4] r) (entry xs)) : Run Try.prog 9 xs r :=
  run_of (fun _ _ => drawOk Try.mixed) Try.func9 rfl rfl rfl (by kernel_rfl) (by kernel_rfl) hl h
/-! 10 paling/palinglaw32.QueueCounts : params [22, 22, 3, 52], results [4], free 0, zeros [(.slice none 0 0), (.slice none 0 0), (.int .i64 (0)), (.slice none 0 0)] -/
def Try.c10b0 : AC :=
 (.seq
  (.seq
   (.region 0 [⟨(some 35), none, (.p (.mv (.t 11))), false, []⟩,
     ⟨(some 36), none, (.p (.mv (.t 3))), false, []⟩,
     ⟨(some 37), none, (.p (.len (.t 36))), false, []⟩,
     ⟨(some 38), none, (.p (.bin .lss (.t 35) (.t 37))), false, []⟩] (some ⟨[0, 1, 2, 3, 9, 10, 11, 38], [], false⟩))
   (.cond (.t 38)
    .skip
    (.exit 2)))
  (.seq
   (.block 3
    (.seq
     (.region 0 [⟨(some 41), none, (.p (.mv (.t 3))), false, []⟩,
       ⟨(some 42), none, (.p (.mv (.t 11))), false, []⟩,
       ⟨(some 43), none, (.p (.iaddr 1 (.t 41) (.t 42))), false, []⟩,
       ⟨(some 44), none, (.r (.load 1 false (.t 43))), false, []⟩,
       ⟨(some 45), none, (.p (.mv (.t 44))), false, []⟩,
       ⟨(some 46), (some (45, true)), (.p (.mv (.t 0))), false, []⟩,
       ⟨(some 47), (some (45, true)), (.p (.mv (.t 10))), false, []⟩,
       ⟨(some 48), (some (45, true)), (.p (.iaddr 7 (.t 46) (.t 47))), false, []⟩,
       ⟨(some 49), (some (45, true)), (.p (.faddr 2 (.t 48))), false, []⟩,
       ⟨(some 50), (some (45, true)), (.r (.load 1 false (.t 49))), false, []⟩,
       ⟨(some 51), (some (45, true)), (.p (.mv (.t 11))), false, []⟩,
       ⟨(some 52), (some (45, true)), (.p (.bin .add (.t 51) (.c (.int .i64 1)))), false, []⟩,
       ⟨(some 53), (some (45, true)), (.p (.bin .eql (.t 50) (.t 52))), false, []⟩,
       ⟨(some 54), none, (.p (.pick (.t 45) (.t 53) (.c (.bool false)))), false, []⟩] (some ⟨[0, 1, 2, 3, 9, 10, 11, 54], [], false⟩))
     (.cond (.t 54)
      (.region 0 [⟨(some 55), none, (.p (.mv (.t 9))), false, []⟩,
        ⟨(some 56), none, (.p (.bin .add (.t 55) (.c (.int .i64 1)))), false, []⟩,
        ⟨(some 9), none, (.p (.mv (.t 56))), false, []⟩] (some ⟨[0, 1, 2, 3, 9, 10, 11], [], false⟩))
      .skip)))
   (.region 0 [⟨(some 39), none, (.p (.mv (.t 11))), false, []⟩,
     ⟨(some 40), none, (.p (.bin .add (.t 39) (.c (.int .i64 1)))), false, []⟩,
     ⟨(some 11), none, (.p (.mv (.t 40))), false, []⟩] (some ⟨[0, 1, 2, 3, 9, 10, 11], [], false⟩))))
def Try.c10b1 : AC :=
 (.seq
  (.seq
   (.region 0 [⟨(some 24), none, (.p (.mv (.t 10))), false, []⟩,
     ⟨(some 25), none, (.p (.mv (.t 0))), false, []⟩,
     ⟨(some 26), none, (.p (.len (.t 25))), false, []⟩,
     ⟨(some 27), none, (.p (.bin .lss (.t 24) (.t 26))), false, []⟩,
     ⟨(some 28), none, (.p (.mv (.t 27))), false, []⟩,
     ⟨(some 29), (some (28, true)), (.p (.mv (.t 10))), false, []⟩,
     ⟨(some 30), (some (28, true)), (.p (.mv (.t 2))), false, []⟩,
     ⟨(some 31), (some (28, true)), (.p (.bin .lss (.t 29) (.t 30))), false, []⟩,
     ⟨(some 32), none, (.p (.pick (.t 28) (.t 31) (.c (.bool false)))), false, []⟩] (some ⟨[0, 1, 2, 3, 9, 10, 32], [], false⟩))
   (.cond (.t 32)
    .skip
    (.exit 0)))
  (.seq
   (.block 1
    (.seq
     (.region 0 [⟨(some 11), none, (.p (.mv (.c (.int .i64 0)))), false, []⟩] (some ⟨[0, 1, 2, 3, 9, 10, 11], [], false⟩))
     (.block 2
      (.loop (some ⟨[0, 1, 2, 3, 9, 10, 11], [], true⟩) Try.c10b0))))
   (.region 0 [⟨(some 33), none, (.p (.mv (.t 10))), false, []⟩,
     ⟨(some 34), none, (.p (.bin .add (.t 33) (.c (.int .i64 1)))), false, []⟩,
     ⟨(some 10), none, (.p (.mv (.t 34))), false, []⟩] (some ⟨[0, 1, 2, 3, 9, 10], [], false⟩))))
def Try.c10 : AC :=
 (.seq
  (.region 0 [⟨(some 8), none, (.p (.mv (.c (.bool false)))), false, []⟩] (some ⟨[0, 1, 2, 3], [], false⟩))
  (.seq
   (.seq
    (.region 0 [⟨(some 12), none, (.p (.mv (.t 0))), false, []⟩,
      ⟨(some 13), none, (.call 15 [(.t 12)] false), false, []⟩,
      ⟨(some 14), none, (.p (.mv (.t 13))), false, []⟩,
      ⟨(some 15), (some (14, false)), (.p (.mv (.t 1))), false, []⟩,
      ⟨(some 16), (some (14, false)), (.call 15 [(.t 15)] false), false, []⟩,
      ⟨(some 17), none, (.p (.pick (.t 14) (.c (.bool true)) (.t 16))), false, []⟩,
      ⟨(some 18), none, (.p (.mv (.t 17))), false, []⟩,
      ⟨(some 19), (some (18, false)), (.p (.mv (.t 3))), false, []⟩,
      ⟨(some 20), (some (18, false)), (.p (.len (.t 19))), false, []⟩,
      ⟨(some 21), (some (18, false)), (.p (.bin .gtr (.t 20) (.c (.int .i64 200)))), false, []⟩,
      ⟨(some 22), none, (.p (.pick (.t 18) (.c (.bool true)) (.t 21))), false, []⟩] (some ⟨[0, 1, 2, 3, 22], [], false⟩))
    (.cond (.t 22)
     (.seq
      (.region 0 [⟨(some 23), none, (.call 16 [] false), false, []⟩,
        ⟨(some 8), none, (.p (.mv (.t 23))), false, []⟩] (some ⟨[8], [], false⟩))
      .ret)
     .skip))
   (.seq
    (.region 0 [⟨(some 9), none, (.p (.mv (.c (.int .i64 0)))), false, []⟩] (some ⟨[0, 1, 2, 3, 9], [], false⟩))
    (.seq
     (.seq
      (.region 0 [⟨(some 10), none, (.p (.mv (.c (.int .i64 0)))), false, []⟩] (some ⟨[0, 1, 2, 3, 9, 10], [], false⟩))
      (.block 0
       (.loop (some ⟨[0, 1, 2, 3, 9, 10], [], true⟩) Try.c10b1)))
     (.seq
      (.region 0 [⟨(some 57), none, (.p (.mv (.t 0))), false, []⟩,
        ⟨(some 58), none, (.p (.mv (.t 2))), false, []⟩,
        ⟨(some 59), none, (.p (.mv (.t 3))), false, []⟩,
        ⟨(some 60), none, (.call 32 [(.t 57), (.t 58), (.t 59)] false), false, []⟩,
        ⟨(some 61), none, (.p (.mv (.t 9))), false, []⟩,
        ⟨(some 62), none, (.p (.bin .eql (.t 60) (.t 61))), false, []⟩,
        ⟨(some 63), none, (.p (.mv (.t 62))), false, []⟩,
        ⟨(some 64), (some (63, true)), (.p (.mv (.t 0))), false, []⟩,
        ⟨(some 65), (some (63, true)), (.p (.mv (.t 2))), false, []⟩,
        ⟨(some 66), (some (63, true)), (.call 32 [(.t 64), (.t 65), (.c (.sl 0 [] true))] false), false, []⟩,
        ⟨(some 67), (some (63, true)), (.p (.bin .eql (.t 66) (.c (.int .i64 0)))), false, []⟩,
        ⟨(some 68), none, (.p (.pick (.t 63) (.t 67) (.c (.bool false)))), false, []⟩,
        ⟨(some 69), none, (.p (.mv (.t 68))), false, []⟩,
        ⟨(some 70), (some (69, true)), (.p (.mv (.t 0))), false, []⟩,
        ⟨(some 71), (some (69, true)), (.p (.mv (.t 1))), false, []⟩,
        ⟨(some 72), (some (69, true)), (.call 31 [(.t 70), (.t 71)] false), false, []⟩,
        ⟨(some 73), (some (69, true)), (.p (.mv (.t 0))), false, []⟩,
        ⟨(some 74), (some (69, true)), (.p (.mv (.t 1))), false, []⟩,
        ⟨(some 75), (some (69, true)), (.call 19 [(.t 73), (.t 74)] false), false, []⟩,
        ⟨(some 76), (some (69, true)), (.p (.binB .eql (.t 72) (.t 75))), false, []⟩,
        ⟨(some 77), none, (.p (.pick (.t 69) (.t 76) (.c (.bool false)))), false, []⟩,
        ⟨(some 78), none, (.p (.mv (.t 77))), false, []⟩,
        ⟨(some 79), (some (78, true)), (.call 16 [] false), false, []⟩,
        ⟨(some 80), none, (.p (.pick (.t 78) (.t 79) (.c (.bool false)))), false, []⟩,
        ⟨(some 8), none, (.p (.mv (.t 80))), false, []⟩] (some ⟨[8], [], false⟩))
      .ret)))))
theorem Try.run10 {xs : List AV} {r : AV} (hl : xs.length ≤ 81) (h : aw Try.prog Try.c10 (Pv.Ends [8] r) (entry xs)) : Run Try.prog 10 xs r :=
  run_of (fun _ _ => drawOk Try.mixed) Try.func10 rfl rfl rfl (by kernel_rfl) (by kernel_rfl) hl h
/-! 11 paling/palinglaw26.TableKeeps : params [55, 23, 3, 3], results [4], free 0, zeros [(.slice none 0 0), (.int .u64 (0)), (.int .i64 (0)), (.int .i64 (0))] -/
def Try.c11b0 : AC :=
 (.seq
  (.region 0 [⟨(some 98), none, (.p (.bin .lss (.t 97) (.t 96))), false, []⟩] (some ⟨[0, 1, 9, 13, 14, 16, 17, 18, 78, 79, 80, 95, 96, 97, 98], [], false⟩))
  (.seq
   (.cond (.t 98)
    .skip
    (.exit 2))
   (.seq
    (.block 3
     (.seq
      (.region 0 [⟨(some 99), none, (.p (.iaddr 3 (.t 95) (.t 97))), false, []⟩,
        ⟨(some 100), none, (.r (.load 3 true (.t 99))), false, []⟩,
        ⟨(some 20), none, (.e (.alloc 62 (.agg [(.int .u64 0), (.int .i64 0), (.int .i64 0)])) none), false, []⟩,
        ⟨none, none, (.e (.store 3 (.t 20) (.t 100)) none), false, []⟩] (some ⟨[0, 1, 9, 13, 14, 16, 17, 18, 20, 78, 79, 80, 95, 96, 97], [], false⟩))
      (.seq
       (.region 0 [⟨(some 102), none, (.p (.mv (.t 9))), false, []⟩,
         ⟨(some 103), none, (.p (.faddr 0 (.t 20))), false, []⟩,
         ⟨(some 104), none, (.r (.load 1 false (.t 103))), false, []⟩,
         ⟨(some 105), none, (.call 37 [(.t 102), (.t 104)] false), false, []⟩,
         ⟨(some 101), none, (.p (.mv (.t 105))), false, []⟩,
         ⟨(some 106), none, (.p (.ext (.t 101) 0)), false, []⟩,
         ⟨(some 107), none, (.p (.ext (.t 101) 1)), false, []⟩,
         ⟨(some 21), none, (.p (.mv (.t 106))), false, []⟩,
         ⟨(some 22), none, (.p (.mv (.t 107))), false, []⟩] (some ⟨[0, 1, 9, 13, 14, 16, 17, 18, 20, 22, 78, 79, 80, 95, 96, 97], [], false⟩))
       (.seq
        (.region 0 [⟨(some 108), none, (.p (.mv (.t 22))), false, []⟩,
          ⟨(some 109), none, (.p (.mv (.t 108))), false, []⟩,
          ⟨(some 110), (some (109, true)), (.p (.faddr 2 (.t 20))), false, []⟩,
          ⟨(some 111), (some (109, true)), (.r (.load 1 false (.t 110))), false, []⟩,
          ⟨(some 112), (some (109, true)), (.p (.faddr 2 (.t 16))), false, []⟩,
          ⟨(some 113), (some (109, true)), (.r (.load 1 false (.t 112))), false, []⟩,
          ⟨(some 114), (some (109, true)), (.p (.bin .lss (.t 111) (.t 113))), false, []⟩,
          ⟨(some 115), none, (.p (.pick (.t 109) (.t 114) (.c (.bool false)))), false, []⟩] (some ⟨[0, 1, 9, 13, 14, 16, 17, 18, 78, 79, 80, 95, 96, 97, 115], [], false⟩))
        (.cond (.t 115)
         (.seq
          (.region 0 [⟨(some 8), none, (.p (.mv (.c (.bool false)))), false, []⟩] (some ⟨[8], [], false⟩))
          .ret)
         .skip)))))
    (.region 0 [⟨(some 116), none, (.p (.bin .add (.t 97) (.c (.int .i64 1)))), false, []⟩,
      ⟨(some 97), none, (.p (.mv (.t 116))), false, []⟩] (some ⟨[0, 1, 9, 13, 14, 16, 17, 18, 78, 79, 80, 95, 96, 97], [], false⟩)))))
def Try.c11b1 : AC :=
 (.seq
  (.region 0 [⟨(some 81), none, (.p (.bin .lss (.t 80) (.t 79))), false, []⟩] (some ⟨[0, 1, 9, 13, 14, 78, 79, 80, 81], [], false⟩))
  (.seq
   (.cond (.t 81)
    .skip
    (.exit 0))
   (.seq
    (.block 1
     (.seq
      (.region 0 [⟨(some 82), none, (.p (.iaddr 3 (.t 78) (.t 80))), false, []⟩,
        ⟨(some 83), none, (.r (.load 3 true (.t 82))), false, []⟩,
        ⟨(some 16), none, (.e (.alloc 62 (.agg [(.int .u64 0), (.int .i64 0), (.int .i64 0)])) none), false, []⟩,
        ⟨none, none, (.e (.store 3 (.t 16) (.t 83)) none), false, []⟩] (some ⟨[0, 1, 9, 13, 14, 16, 78, 79, 80], [], false⟩))
      (.seq
       (.region 0 [⟨(some 85), none, (.p (.mv (.t 9))), false, []⟩,
         ⟨(some 86), none, (.p (.faddr 0 (.t 16))), false, []⟩,
         ⟨(some 87), none, (.r (.load 1 false (.t 86))), false, []⟩,
         ⟨(some 88), none, (.call 37 [(.t 85), (.t 87)] false), false, []⟩,
         ⟨(some 84), none, (.p (.mv (.t 88))), false, []⟩,
         ⟨(some 89), none, (.p (.ext (.t 84) 0)), false, []⟩,
         ⟨(some 90), none, (.p (.ext (.t 84) 1)), false, []⟩,
         ⟨(some 17), none, (.p (.mv (.t 89))), false, []⟩,
         ⟨(some 18), none, (.p (.mv (.t 90))), false, []⟩] (some ⟨[0, 1, 9, 13, 14, 16, 17, 18, 78, 79, 80], [], false⟩))
       (.seq
        (.seq
         (.region 0 [⟨(some 91), none, (.p (.mv (.t 18))), false, []⟩,
           ⟨(some 92), none, (.p (.un .not (.t 91))), false, []⟩] (some ⟨[0, 1, 9, 13, 14, 16, 17, 18, 78, 79, 80, 92], [], false⟩))
         (.cond (.t 92)
          (.seq
           (.region 0 [⟨(some 93), none, (.p (.mv (.t 14))), false, []⟩,
             ⟨(some 94), none, (.p (.bin .add (.t 93) (.c (.int .i64 1)))), false, []⟩,
             ⟨(some 14), none, (.p (.mv (.t 94))), false, []⟩] (some ⟨[0, 1, 9, 13, 14, 16, 17, 18, 78, 79, 80], [], false⟩))
           (.seq
            (.region 0 [⟨(some 95), none, (.p (.mv (.t 0))), false, []⟩,
              ⟨(some 96), none, (.p (.len (.t 95))), false, []⟩,
              ⟨(some 97), none, (.p (.mv (.c (.int .i64 0)))), false, []⟩] (some ⟨[0, 1, 9, 13, 14, 16, 17, 18, 78, 79, 80, 95, 96, 97], [], false⟩))
            (.block 2
             (.loop (some ⟨[0, 1, 9, 13, 14, 16, 17, 18, 78, 79, 80, 95, 96, 97], [], true⟩) Try.c11b0))))
          .skip))
        (.seq
         (.region 0 [⟨(some 117), none, (.p (.mv (.t 18))), false, []⟩,
           ⟨(some 118), none, (.p (.mv (.t 117))), false, []⟩,
           ⟨(some 119), (some (118, true)), (.p (.faddr 0 (.t 16))), false, []⟩,
           ⟨(some 120), (some (118, true)), (.r (.load 1 false (.t 119))), false, []⟩,
           ⟨(some 121), (some (118, true)), (.p (.mv (.t 1))), false, []⟩,
           ⟨(some 122), (some (118, true)), (.p (.bin .neq (.t 120) (.t 121))), false, []⟩,
           ⟨(some 123), none, (.p (.pick (.t 118) (.t 122) (.c (.bool false)))), false, []⟩,
           ⟨(some 124), none, (.p (.mv (.t 123))), false, []⟩,
           ⟨(some 125), (some (124, true)), (.p (.mv (.t 17))), false, []⟩,
           ⟨(some 126), (some (124, true)), (.p (.faddr 1 (.t 16))), false, []⟩,
           ⟨(some 127), (some (124, true)), (.r (.load 1 false (.t 126))), false, []⟩,
           ⟨(some 128), (some (124, true)), (.p (.bin .neq (.t 125) (.t 127))), false, []⟩,
           ⟨(some 129), none, (.p (.pick (.t 124) (.t 128) (.c (.bool false)))), false, []⟩] (some ⟨[0, 1, 9, 13, 14, 78, 79, 80, 129], [], false⟩))
         (.cond (.t 129)
          (.seq
           (.region 0 [⟨(some 8), none, (.p (.mv (.c (.bool false)))), false, []⟩] (some ⟨[8], [], false⟩))
           .ret)
          .skip))))))
    (.region 0 [⟨(some 130), none, (.p (.bin .add (.t 80) (.c (.int .i64 1)))), false, []⟩,
      ⟨(some 80), none, (.p (.mv (.t 130))), false, []⟩] (some ⟨[0, 1, 9, 13, 14, 78, 79, 80], [], false⟩)))))
def Try.c11 : AC :=
 (.seq
  (.region 0 [⟨(some 8), none, (.p (.mv (.c (.bool false)))), false, []⟩] (some ⟨[0, 1, 2, 3], [], false⟩))
  (.seq
   (.seq
    (.region 0 [⟨(some 23), none, (.call 33 [] false), false, []⟩,
      ⟨(some 24), none, (.p (.un .not (.t 23))), false, []⟩] (some ⟨[0, 1, 2, 3, 24], [], false⟩))
    (.cond (.t 24)
     (.seq
      (.region 0 [⟨(some 8), none, (.p (.mv (.c (.bool false)))), false, []⟩] (some ⟨[8], [], false⟩))
      .ret)
     .skip))
   (.seq
    (.seq
     (.region 0 [⟨(some 25), none, (.p (.mv (.t 0))), false, []⟩,
       ⟨(some 26), none, (.p (.len (.t 25))), false, []⟩,
       ⟨(some 27), none, (.p (.bin .gtr (.t 26) (.c (.int .i64 200)))), false, []⟩,
       ⟨(some 28), none, (.p (.mv (.t 27))), false, []⟩,
       ⟨(some 29), (some (28, false)), (.p (.mv (.t 0))), false, []⟩,
       ⟨(some 30), (some (28, false)), (.call 34 [(.t 29)] false), false, []⟩,
       ⟨(some 31), (some (28, false)), (.p (.un .not (.t 30))), false, []⟩,
       ⟨(some 32), none, (.p (.pick (.t 28) (.c (.bool true)) (.t 31))), false, []⟩,
       ⟨(some 33), none, (.p (.mv (.t 32))), false, []⟩,
       ⟨(some 34), (some (33, false)), (.p (.mv (.t 1))), false, []⟩,
       ⟨(some 35), (some (33, false)), (.p (.bin .gtr (.t 34) (.c (.int .u64 281474976710655)))), false, []⟩,
       ⟨(some 36), none, (.p (.pick (.t 33) (.c (.bool true)) (.t 35))), false, []⟩,
       ⟨(some 37), none, (.p (.mv (.t 36))), false, []⟩,
       ⟨(some 38), (some (37, false)), (.p (.mv (.t 1))), false, []⟩,
       ⟨(some 39), (some (37, false)), (.call 35 [(.t 38)] false), false, []⟩,
       ⟨(some 40), none, (.p (.pick (.t 37) (.c (.bool true)) (.t 39))), false, []⟩,
       ⟨(some 41), none, (.p (.mv (.t 40))), false, []⟩,
       ⟨(some 42), (some (41, false)), (.p (.mv (.t 3))), false, []⟩,
       ⟨(some 43), (some (41, false)), (.p (.bin .lss (.t 42) (.c (.int .i64 0)))), false, []⟩,
       ⟨(some 44), none, (.p (.pick (.t 41) (.c (.bool true)) (.t 43))), false, []⟩,
       ⟨(some 45), none, (.p (.mv (.t 44))), false, []⟩,
       ⟨(some 46), (some (45, false)), (.p (.mv (.t 3))), false, []⟩,
       ⟨(some 47), (some (45, false)), (.p (.bin .gtr (.t 46) (.c (.int .i64 1099511627776)))), false, []⟩,
       ⟨(some 48), none, (.p (.pick (.t 45) (.c (.bool true)) (.t 47))), false, []⟩] (some ⟨[0, 1, 2, 3, 48], [], false⟩))
     (.cond (.t 48)
      (.seq
       (.region 0 [⟨(some 8), none, (.p (.mv (.c (.bool true)))), false, []⟩] (some ⟨[8], [], false⟩))
       .ret)
      .skip))
    (.seq
     (.region 0 [⟨(some 49), none, (.p (.mv (.t 0))), false, []⟩,
       ⟨(some 50), none, (.p (.mv (.t 1))), false, []⟩,
       ⟨(some 51), none, (.p (.mv (.t 2))), false, []⟩,
       ⟨(some 52), none, (.p (.mv (.t 3))), false, []⟩,
       ⟨(some 53), none, (.call 36 [(.t 49), (.t 50), (.t 51), (.t 52)] false), false, []⟩,
       ⟨(some 9), none, (.p (.mv (.t 53))), false, []⟩] (some ⟨[0, 1, 2, 9], [], false⟩))
     (.seq
      (.region 0 [⟨(some 55), none, (.p (.mv (.t 9))), false, []⟩,
        ⟨(some 56), none, (.p (.mv (.t 1))), false, []⟩,
        ⟨(some 57), none, (.call 37 [(.t 55), (.t 56)] false), false, []⟩,
        ⟨(some 54), none, (.p (.mv (.t 57))), false, []⟩,
        ⟨(some 58), none, (.p (.ext (.t 54) 0)), false, []⟩,
        ⟨(some 59), none, (.p (.ext (.t 54) 1)), false, []⟩,
        ⟨(some 10), none, (.p (.mv (.t 58))), false, []⟩,
        ⟨(some 11), none, (.p (.mv (.t 59))), false, []⟩] (some ⟨[0, 1, 2, 9, 10, 11], [], false⟩))
      (.seq
       (.region 0 [⟨(some 61), none, (.p (.mv (.t 0))), false, []⟩,
         ⟨(some 62), none, (.p (.mv (.t 1))), false, []⟩,
         ⟨(some 63), none, (.call 37 [(.t 61), (.t 62)] false), false, []⟩,
         ⟨(some 60), none, (.p (.mv (.t 63))), false, []⟩,
         ⟨(some 64), none, (.p (.ext (.t 60) 0)), false, []⟩,
         ⟨(some 65), none, (.p (.ext (.t 60) 1)), false, []⟩,
         ⟨(some 12), none, (.p (.mv (.t 64))), false, []⟩,
         ⟨(some 13), none, (.p (.mv (.t 65))), false, []⟩] (some ⟨[0, 1, 2, 9, 10, 11, 13], [], false⟩))
       (.seq
        (.seq
         (.region 0 [⟨(some 66), none, (.p (.mv (.t 9))), false, []⟩,
           ⟨(some 67), none, (.call 34 [(.t 66)] false), false, []⟩,
           ⟨(some 68), none, (.p (.un .not (.t 67))), false, []⟩,
           ⟨(some 69), none, (.p (.mv (.t 68))), false, []⟩,
           ⟨(some 70), (some (69, false)), (.p (.mv (.t 11))), false, []⟩,
           ⟨(some 71), (some (69, false)), (.p (.un .not (.t 70))), false, []⟩,
           ⟨(some 72), none, (.p (.pick (.t 69) (.c (.bool true)) (.t 71))), false, []⟩,
           ⟨(some 73), none, (.p (.mv (.t 72))), false, []⟩,
           ⟨(some 74), (some (73, false)), (.p (.mv (.t 10))), false, []⟩,
           ⟨(some 75), (some (73, false)), (.p (.mv (.t 2))), false, []⟩,
           ⟨(some 76), (some (73, false)), (.p (.bin .neq (.t 74) (.t 75))), false, []⟩,
           ⟨(some 77), none, (.p (.pick (.t 73) (.c (.bool true)) (.t 76))), false, []⟩] (some ⟨[0, 1, 9, 13, 77], [], false⟩))
         (.cond (.t 77)
          (.seq
           (.region 0 [⟨(some 8), none, (.p (.mv (.c (.bool false)))), false, []⟩] (some ⟨[8], [], false⟩))
           .ret)
          .skip))
        (.seq
         (.region 0 [⟨(some 14), none, (.p (.mv (.c (.int .i64 0)))), false, []⟩] (some ⟨[0, 1, 9, 13, 14], [], false⟩))
         (.seq
          (.seq
           (.region 0 [⟨(some 78), none, (.p (.mv (.t 0))), false, []⟩,
             ⟨(some 79), none, (.p (.len (.t 78))), false, []⟩,
             ⟨(some 80), none, (.p (.mv (.c (.int .i64 0)))), false, []⟩] (some ⟨[0, 1, 9, 13, 14, 78, 79, 80], [], false⟩))
           (.block 0
            (.loop (some ⟨[0, 1, 9, 13, 14, 78, 79, 80], [], true⟩) Try.c11b1)))
          (.seq
           (.region 0 [⟨(some 131), none, (.p (.mv (.t 14))), false, []⟩,
             ⟨(some 132), none, (.p (.bin .eql (.t 131) (.c (.int .i64 0)))), false, []⟩,
             ⟨(some 133), none, (.p (.mv (.t 132))), false, []⟩,
             ⟨(some 134), (some (133, false)), (.p (.mv (.t 14))), false, []⟩,
             ⟨(some 135), (some (133, false)), (.p (.bin .eql (.t 134) (.c (.int .i64 1)))), false, []⟩,
             ⟨(some 136), (some (133, false)), (.p (.mv (.t 135))), false, []⟩,
             ⟨(some 137), (some (136, true)), (.p (.mv (.t 0))), false, []⟩,
             ⟨(some 138), (some (136, true)), (.p (.len (.t 137))), false, []⟩,
             ⟨(some 139), (some (136, true)), (.p (.bin .eql (.t 138) (.c (.int .i64 8)))), false, []⟩,
             ⟨(some 140), (some (133, false)), (.p (.pick (.t 136) (.t 139) (.c (.bool false)))), false, []⟩,
             ⟨(some 141), (some (133, false)), (.p (.mv (.t 140))), false, []⟩,
             ⟨(some 142), (some (141, true)), (.p (.mv (.t 13))), false, []⟩,
             ⟨(some 143), (some (141, true)), (.p (.un .not (.t 142))), false, []⟩,
             ⟨(some 144), (some (133, false)), (.p (.pick (.t 141) (.t 143) (.c (.bool false)))), false, []⟩,
             ⟨(some 145), none, (.p (.pick (.t 133) (.c (.bool true)) (.t 144))), false, []⟩,
             ⟨(some 8), none, (.p (.mv (.t 145))), false, []⟩] (some ⟨[8], [], false⟩))
           .ret))))))))))
theorem Try.run11 {xs : List AV} {r : AV} (hl : xs.length ≤ 146) (h : aw Try.prog Try.c11 (Pv.Ends [8] r) (entry xs)) : Run Try.prog 11 xs r :=
  run_of (fun _ _ => drawOk Try.mixed) Try.func11 rfl rfl rfl (by kernel_rfl) (by kernel_rfl) hl h
/-! 12 paling/palinglaw26.TableAsks : params [55, 55, 23], results [4], free 0, zeros [(.slice none 0 0), (.slice none 0 0), (.int .u64 (0))] -/
def Try.c12 : AC :=
 (.seq
  (.region 0 [⟨(some 6), none, (.p (.mv (.c (.bool false)))), false, []⟩] (some ⟨[0, 1, 2], [], false⟩))
  (.seq
   (.seq
    (.region 0 [⟨(some 11), none, (.p (.mv (.t 0))), false, []⟩,
      ⟨(some 12), none, (.p (.len (.t 11))), false, []⟩,
      ⟨(some 13), none, (.p (.bin .gtr (.t 12) (.c (.int .i64 200)))), false, []⟩,
      ⟨(some 14), none, (.p (.mv (.t 13))), false, []⟩,
      ⟨(some 15), (some (14, false)), (.p (.mv (.t 1))), false, []⟩,
      ⟨(some 16), (some (14, false)), (.p (.len (.t 15))), false, []⟩,
      ⟨(some 17), (some (14, false)), (.p (.bin .gtr (.t 16) (.c (.int .i64 200)))), false, []⟩,
      ⟨(some 18), none, (.p (.pick (.t 14) (.c (.bool true)) (.t 17))), false, []⟩] (some ⟨[0, 1, 2, 18], [], false⟩))
    (.cond (.t 18)
     (.seq
      (.region 0 [⟨(some 19), none, (.call 33 [] false), false, []⟩,
        ⟨(some 6), none, (.p (.mv (.t 19))), false, []⟩] (some ⟨[6], [], false⟩))
      .ret)
     .skip))
   (.seq
    (.region 0 [⟨(some 21), none, (.p (.mv (.t 0))), false, []⟩,
      ⟨(some 22), none, (.p (.mv (.t 2))), false, []⟩,
      ⟨(some 23), none, (.call 37 [(.t 21), (.t 22)] false), false, []⟩,
      ⟨(some 20), none, (.p (.mv (.t 23))), false, []⟩,
      ⟨(some 24), none, (.p (.ext (.t 20) 0)), false, []⟩,
      ⟨(some 25), none, (.p (.ext (.t 20) 1)), false, []⟩,
      ⟨(some 7), none, (.p (.mv (.t 24))), false, []⟩,
      ⟨(some 8), none, (.p (.mv (.t 25))), false, []⟩] (some ⟨[0, 1, 2, 7, 8], [], false⟩))
    (.seq
     (.region 0 [⟨(some 27), none, (.p (.mv (.t 0))), false, []⟩,
       ⟨(some 28), none, (.p (.mv (.t 2))), false, []⟩,
       ⟨(some 29), none, (.call 38 [(.t 27), (.t 28)] false), false, []⟩,
       ⟨(some 26), none, (.p (.mv (.t 29))), false, []⟩,
       ⟨(some 30), none, (.p (.ext (.t 26) 0)), false, []⟩,
       ⟨(some 31), none, (.p (.ext (.t 26) 1)), false, []⟩,
       ⟨(some 9), none, (.p (.mv (.t 30))), false, []⟩,
       ⟨(some 10), none, (.p (.mv (.t 31))), false, []⟩] (some ⟨[0, 1, 7, 8, 9, 10], [], false⟩))
     (.seq
      (.region 0 [⟨(some 32), none, (.p (.mv (.t 0))), false, []⟩,
        ⟨(some 33), none, (.call 34 [(.t 32)] false), false, []⟩,
        ⟨(some 34), none, (.p (.mv (.t 0))), false, []⟩,
        ⟨(some 35), none, (.call 39 [(.t 34)] false), false, []⟩,
        ⟨(some 36), none, (.p (.binB .eql (.t 33) (.t 35))), false, []⟩,
        ⟨(some 37), none, (.p (.mv (.t 36))), false, []⟩,
        ⟨(some 38), (some (37, true)), (.p (.mv (.t 7))), false, []⟩,
        ⟨(some 39), (some (37, true)), (.p (.mv (.t 9))), false, []⟩,
        ⟨(some 40), (some (37, true)), (.p (.bin .eql (.t 38) (.t 39))), false, []⟩,
        ⟨(some 41), none, (.p (.pick (.t 37) (.t 40) (.c (.bool false)))), false, []⟩,
        ⟨(some 42), none, (.p (.mv (.t 41))), false, []⟩,
        ⟨(some 43), (some (42, true)), (.p (.mv (.t 8))), false, []⟩,
        ⟨(some 44), (some (42, true)), (.p (.mv (.t 10))), false, []⟩,
        ⟨(some 45), (some (42, true)), (.p (.binB .eql (.t 43) (.t 44))), false, []⟩,
        ⟨(some 46), none, (.p (.pick (.t 42) (.t 45) (.c (.bool false)))), false, []⟩,
        ⟨(some 47), none, (.p (.mv (.t 46))), false, []⟩,
        ⟨(some 48), (some (47, true)), (.p (.mv (.t 0))), false, []⟩,
        ⟨(some 49), (some (47, true)), (.p (.mv (.t 1))), false, []⟩,
        ⟨(some 50), (some (47, true)), (.call 40 [(.t 48), (.t 49)] false), false, []⟩,
        ⟨(some 51), (some (47, true)), (.p (.mv (.t 0))), false, []⟩,
        ⟨(some 52), (some (47, true)), (.p (.mv (.t 1))), false, []⟩,
        ⟨(some 53), (some (47, true)), (.call 41 [(.t 51), (.t 52)] false), false, []⟩,
        ⟨(some 54), (some (47, true)), (.p (.binB .eql (.t 50) (.t 53))), false, []⟩,
        ⟨(some 55), none, (.p (.pick (.t 47) (.t 54) (.c (.bool false)))), false, []⟩,
        ⟨(some 56), none, (.p (.mv (.t 55))), false, []⟩,
        ⟨(some 57), (some (56, true)), (.call 33 [] false), false, []⟩,
        ⟨(some 58), none, (.p (.pick (.t 56) (.t 57) (.c (.bool false)))), false, []⟩,
        ⟨(some 6), none, (.p (.mv (.t 58))), false, []⟩] (some ⟨[6], [], false⟩))
      .ret)))))
theorem Try.run12 {xs : List AV} {r : AV} (hl : xs.length ≤ 59) (h : aw Try.prog Try.c12 (Pv.Ends [6] r) (entry xs)) : Run Try.prog 12 xs r :=
  run_of (fun _ _ => drawOk Try.mixed) Try.func12 rfl rfl rfl (by kernel_rfl) (by kernel_rfl) hl h
/-! 13 paling/palinglaw26.TableLearns : params [55, 23, 3, 3], results [4], free 0, zeros [(.slice none 0 0), (.int .u64 (0)), (.int .i64 (0)), (.int .i64 (0))] -/
def Try.c13 : AC :=
 (.seq
  (.region 0 [⟨(some 8), none, (.p (.mv (.c (.bool false)))), false, []⟩] (some ⟨[0, 1, 2, 3], [], false⟩))
  (.seq
   (.seq
    (.region 0 [⟨(some 10), none, (.p (.mv (.t 0))), false, []⟩,
      ⟨(some 11), none, (.p (.len (.t 10))), false, []⟩,
      ⟨(some 12), none, (.p (.bin .gtr (.t 11) (.c (.int .i64 200)))), false, []⟩] (some ⟨[0, 1, 2, 3, 12], [], false⟩))
    (.cond (.t 12)
     (.seq
      (.region 0 [⟨(some 13), none, (.call 33 [] false), false, []⟩,
        ⟨(some 8), none, (.p (.mv (.t 13))), false, []⟩] (some ⟨[8], [], false⟩))
      .ret)
     .skip))
   (.seq
    (.region 0 [⟨(some 14), none, (.e (.mks 62 3 (.agg [(.int .u64 0), (.int .i64 0), (.int .i64 0)]) 0 []) none), false, []⟩,
      ⟨(some 15), none, (.p (.mv (.t 0))), false, []⟩,
      ⟨(some 16), none, (.e (.append 62 3 (.t 14) (.t 15)) none), false, []⟩,
      ⟨(some 9), none, (.p (.mv (.t 16))), false, []⟩] (some ⟨[0, 1, 2, 3, 9], [], false⟩))
    (.seq
     (.region 0 [⟨(some 17), none, (.p (.mv (.t 9))), false, []⟩,
       ⟨(some 18), none, (.p (.mv (.t 1))), false, []⟩,
       ⟨(some 19), none, (.p (.mv (.t 2))), false, []⟩,
       ⟨(some 20), none, (.p (.mv (.t 3))), false, []⟩,
       ⟨(some 21), none, (.call 36 [(.t 17), (.t 18), (.t 19), (.t 20)] false), false, []⟩,
       ⟨(some 22), none, (.p (.mv (.t 0))), false, []⟩,
       ⟨(some 23), none, (.p (.mv (.t 1))), false, []⟩,
       ⟨(some 24), none, (.p (.mv (.t 2))), false, []⟩,
       ⟨(some 25), none, (.p (.mv (.t 3))), false, []⟩,
       ⟨(some 26), none, (.call 42 [(.t 22), (.t 23), (.t 24), (.t 25)] false), false, []⟩,
       ⟨(some 27), none, (.call 41 [(.t 21), (.t 26)] false), false, []⟩,
       ⟨(some 28), none, (.p (.mv (.t 27))), false, []⟩,
       ⟨(some 29), (some (28, true)), (.p (.mv (.t 9))), false, []⟩,
       ⟨(some 30), (some (28, true)), (.p (.mv (.t 3))), false, []⟩,
       ⟨(some 31), (some (28, true)), (.call 43 [(.t 29), (.t 30)] false), false, []⟩,
       ⟨(some 32), (some (28, true)), (.p (.mv (.t 0))), false, []⟩,
       ⟨(some 33), (some (28, true)), (.p (.mv (.t 3))), false, []⟩,
       ⟨(some 34), (some (28, true)), (.call 44 [(.t 32), (.t 33)] false), false, []⟩,
       ⟨(some 35), (some (28, true)), (.call 41 [(.t 31), (.t 34)] false), false, []⟩,
       ⟨(some 36), none, (.p (.pick (.t 28) (.t 35) (.c (.bool false)))), false, []⟩,
       ⟨(some 37), none, (.p (.mv (.t 36))), false, []⟩,
       ⟨(some 38), (some (37, true)), (.p (.mv (.t 9))), false, []⟩,
       ⟨(some 39), (some (37, true)), (.p (.mv (.t 0))), false, []⟩,
       ⟨(some 40), (some (37, true)), (.call 41 [(.t 38), (.t 39)] false), false, []⟩,
       ⟨(some 41), none, (.p (.pick (.t 37) (.t 40) (.c (.bool false)))), false, []⟩,
       ⟨(some 42), none, (.p (.mv (.t 41))), false, []⟩,
       ⟨(some 43), (some (42, true)), (.call 33 [] false), false, []⟩,
       ⟨(some 44), none, (.p (.pick (.t 42) (.t 43) (.c (.bool false)))), false, []⟩,
       ⟨(some 8), none, (.p (.mv (.t 44))), false, []⟩] (some ⟨[8], [], false⟩))
     .ret))))
theorem Try.run13 {xs : List AV} {r : AV} (hl : xs.length ≤ 45) (h : aw Try.prog Try.c13 (Pv.Ends [8] r) (entry xs)) : Run Try.prog 13 xs r :=
  run_of (fun _ _ => drawOk Try.mixed) Try.func13 rfl rfl rfl (by kernel_rfl) (by kernel_rfl) hl h
/-! 14 paling/palinglaw26.TableAges : params [55, 3, 67], results [4], free 0, zeros [(.slice none 0 0), (.int .i64 (0)), (.int .u16 (0))] -/
def Try.c14b0 : AC :=
 (.seq
  (.region 0 [⟨(some 38), none, (.p (.bin .lss (.t 37) (.t 36))), false, []⟩] (some ⟨[0, 1, 2, 7, 8, 35, 36, 37, 38], [], false⟩))
  (.seq
   (.cond (.t 38)
    .skip
    (.exit 0))
   (.seq
    (.block 1
     (.seq
      (.region 0 [⟨(some 39), none, (.p (.iaddr 3 (.t 35) (.t 37))), false, []⟩,
        ⟨(some 40), none, (.r (.load 3 true (.t 39))), false, []⟩,
        ⟨(some 10), none, (.e (.alloc 62 (.agg [(.int .u64 0), (.int .i64 0), (.int .i64 0)])) none), false, []⟩,
        ⟨none, none, (.e (.store 3 (.t 10) (.t 40)) none), false, []⟩] (some ⟨[0, 1, 2, 7, 8, 10, 35, 36, 37], [], false⟩))
      (.seq
       (.seq
        (.region 0 [⟨(some 41), none, (.p (.faddr 2 (.t 10))), false, []⟩,
          ⟨(some 42), none, (.r (.load 1 false (.t 41))), false, []⟩,
          ⟨(some 43), none, (.p (.mv (.t 1))), false, []⟩,
          ⟨(some 44), none, (.p (.bin .sub (.t 43) (.c (.int .i64 4)))), false, []⟩,
          ⟨(some 45), none, (.p (.bin .lss (.t 42) (.t 44))), false, []⟩] (some ⟨[0, 1, 2, 7, 8, 10, 35, 36, 37, 45], [], false⟩))
        (.cond (.t 45)
         (.exit 1)
         .skip))
       (.seq
        (.seq
         (.region 12 [⟨(some 46), none, (.p (.mv (.t 8))), false, []⟩,
           ⟨(some 47), none, (.p (.mv (.t 7))), false, []⟩,
           ⟨(some 48), none, (.p (.len (.t 47))), false, []⟩,
           ⟨(some 49), none, (.p (.bin .geq (.t 46) (.t 48))), false, []⟩,
           ⟨(some 50), none, (.p (.mv (.t 49))), false, []⟩,
           ⟨(some 51), (some (50, false)), (.p (.mv (.t 7))), false, []⟩,
           ⟨(some 52), (some (50, false)), (.p (.mv (.t 8))), false, []⟩,
           ⟨(some 53), (some (50, false)), (.p (.iaddr 3 (.t 51) (.t 52))), false, []⟩,
           ⟨(some 54), (some (50, false)), (.r (.load 3 true (.t 53))), false, []⟩,
           ⟨(some 55), (some (50, false)), (.r (.load 3 true (.t 10))), false, []⟩,
           ⟨(some 56), (some (50, false)), (.p (.eqS true [0, 0, 0] (.t 54) (.t 55))), false, []⟩,
           ⟨(some 57), none, (.p (.pick (.t 50) (.c (.bool true)) (.t 56))), false, []⟩] (some ⟨[0, 1, 2, 7, 8, 35, 36, 37, 57], [], true⟩))
         (.cond (.t 57)
          (.seq
           (.region 0 [⟨(some 6), none, (.p (.mv (.c (.bool false)))), false, []⟩] (some ⟨[6], [], false⟩))
           .ret)
          .skip))
        (.region 0 [⟨(some 58), none, (.p (.mv (.t 8))), false, []⟩,
          ⟨(some 59), none, (.p (.bin .add (.t 58) (.c (.int .i64 1)))), false, []⟩,
          ⟨(some 8), none, (.p (.mv (.t 59))), false, []⟩] (some ⟨[0, 1, 2, 7, 8, 35, 36, 37], [], false⟩))))))
    (.region 0 [⟨(some 60), none, (.p (.bin .add (.t 37) (.c (.int .i64 1)))), false, []⟩,
      ⟨(some 37), none, (.p (.mv (.t 60))), false, []⟩] (some ⟨[0, 1, 2, 7, 8, 35, 36, 37], [], false⟩)))))
def Try.c14 : AC :=
 (.seq
  (.region 0 [⟨(some 6), none, (.p (.mv (.c (.bool false)))), false, []⟩] (some ⟨[0, 1, 2], [], false⟩))
  (.seq
   (.seq
    (.region 0 [⟨(some 11), none, (.call 33 [] false), false, []⟩,
      ⟨(some 12), none, (.p (.un .not (.t 11))), false, []⟩] (some ⟨[0, 1, 2, 12], [], false⟩))
    (.cond (.t 12)
     (.seq
      (.region 0 [⟨(some 6), none, (.p (.mv (.c (.bool false)))), false, []⟩] (some ⟨[6], [], false⟩))
      .ret)
     .skip))
   (.seq
    (.seq
     (.region 0 [⟨(some 13), none, (.p (.mv (.t 0))), false, []⟩,
       ⟨(some 14), none, (.p (.len (.t 13))), false, []⟩,
       ⟨(some 15), none, (.p (.bin .gtr (.t 14) (.c (.int .i64 200)))), false, []⟩,
       ⟨(some 16), none, (.p (.mv (.t 15))), false, []⟩,
       ⟨(some 17), (some (16, false)), (.p (.mv (.t 0))), false, []⟩,
       ⟨(some 18), (some (16, false)), (.call 34 [(.t 17)] false), false, []⟩,
       ⟨(some 19), (some (16, false)), (.p (.un .not (.t 18))), false, []⟩,
       ⟨(some 20), none, (.p (.pick (.t 16) (.c (.bool true)) (.t 19))), false, []⟩,
       ⟨(some 21), none, (.p (.mv (.t 20))), false, []⟩,
       ⟨(some 22), (some (21, false)), (.p (.mv (.t 1))), false, []⟩,
       ⟨(some 23), (some (21, false)), (.p (.bin .lss (.t 22) (.c (.int .i64 0)))), false, []⟩,
       ⟨(some 24), none, (.p (.pick (.t 21) (.c (.bool true)) (.t 23))), false, []⟩,
       ⟨(some 25), none, (.p (.mv (.t 24))), false, []⟩,
       ⟨(some 26), (some (25, false)), (.p (.mv (.t 1))), false, []⟩,
       ⟨(some 27), (some (25, false)), (.p (.mv (.t 2))), false, []⟩,
       ⟨(some 28), (some (25, false)), (.p (.convI .i64 (.t 27))), false, []⟩,
       ⟨(some 29), (some (25, false)), (.p (.bin .sub (.c (.int .i64 1099511627776)) (.t 28))), false, []⟩,
       ⟨(some 30), (some (25, false)), (.p (.bin .gtr (.t 26) (.t 29))), false, []⟩,
       ⟨(some 31), none, (.p (.pick (.t 25) (.c (.bool true)) (.t 30))), false, []⟩] (some ⟨[0, 1, 2, 31], [], false⟩))
     (.cond (.t 31)
      (.seq
       (.region 0 [⟨(some 6), none, (.p (.mv (.c (.bool true)))), false, []⟩] (some ⟨[6], [], false⟩))
       .ret)
      .skip))
    (.seq
     (.region 0 [⟨(some 32), none, (.p (.mv (.t 0))), false, []⟩,
       ⟨(some 33), none, (.p (.mv (.t 1))), false, []⟩,
       ⟨(some 34), none, (.call 43 [(.t 32), (.t 33)] false), false, []⟩,
       ⟨(some 7), none, (.p (.mv (.t 34))), false, []⟩] (some ⟨[0, 1, 2, 7], [], false⟩))
     (.seq
      (.region 0 [⟨(some 8), none, (.p (.mv (.c (.int .i64 0)))), false, []⟩] (some ⟨[0, 1, 2, 7, 8], [], false⟩))
      (.seq
       (.seq
        (.region 0 [⟨(some 35), none, (.p (.mv (.t 0))), false, []⟩,
          ⟨(some 36), none, (.p (.len (.t 35))), false, []⟩,
          ⟨(some 37), none, (.p (.mv (.c (.int .i64 0)))), false, []⟩] (some ⟨[0, 1, 2, 7, 8, 35, 36, 37], [], false⟩))
        (.block 0
         (.loop (some ⟨[0, 1, 2, 7, 8, 35, 36, 37], [], true⟩) Try.c14b0)))
       (.seq
        (.region 0 [⟨(some 61), none, (.p (.mv (.t 8))), false, []⟩,
          ⟨(some 62), none, (.p (.mv (.t 7))), false, []⟩,
          ⟨(some 63), none, (.p (.len (.t 62))), false, []⟩,
          ⟨(some 64), none, (.p (.bin .eql (.t 61) (.t 63))), false, []⟩,
          ⟨(some 65), none, (.p (.mv (.t 64))), false, []⟩,
          ⟨(some 66), (some (65, true)), (.p (.mv (.t 7))), false, []⟩,
          ⟨(some 67), (some (65, true)), (.call 34 [(.t 66)] false), false, []⟩,
          ⟨(some 68), none, (.p (.pick (.t 65) (.t 67) (.c (.bool false)))), false, []⟩,
          ⟨(some 69), none, (.p (.mv (.t 68))), false, []⟩,
          ⟨(some 70), (some (69, true)), (.p (.mv (.t 7))), false, []⟩,
          ⟨(some 71), (some (69, true)), (.p (.mv (.t 1))), false, []⟩,
          ⟨(some 72), (some (69, true)), (.p (.mv (.t 2))), false, []⟩,
          ⟨(some 73), (some (69, true)), (.p (.convI .i64 (.t 72))), false, []⟩,
          ⟨(some 74), (some (69, true)), (.p (.bin .add (.t 71) (.t 73))), false, []⟩,
          ⟨(some 75), (some (69, true)), (.call 43 [(.t 70), (.t 74)] false), false, []⟩,
          ⟨(some 76), (some (69, true)), (.p (.mv (.t 0))), false, []⟩,
          ⟨(some 77), (some (69, true)), (.p (.mv (.t 1))), false, []⟩,
          ⟨(some 78), (some (69, true)), (.p (.mv (.t 2))), false, []⟩,
          ⟨(some 79), (some (69, true)), (.p (.convI .i64 (.t 78))), false, []⟩,
          ⟨(some 80), (some (69, true)), (.p (.bin .add (.t 77) (.t 79))), false, []⟩,
          ⟨(some 81), (some (69, true)), (.call 43 [(.t 76), (.t 80)] false), false, []⟩,
          ⟨(some 82), (some (69, true)), (.call 40 [(.t 75), (.t 81)] false), false, []⟩,
          ⟨(some 83), none, (.p (.pick (.t 69) (.t 82) (.c (.bool false)))), false, []⟩,
          ⟨(some 6), none, (.p (.mv (.t 83))), false, []⟩] (some ⟨[6], [], false⟩))
        .ret)))))))
theorem Try.run14 {xs : List AV} {r : AV} (hl : xs.length ≤ 84) (h : aw Try.prog Try.c14 (Pv.Ends [6] r) (entry xs)) : Run Try.prog 14 xs r :=
  run_of (fun _ _ => drawOk Try.mixed) Try.func14 rfl rfl rfl (by kernel_rfl) (by kernel_rfl) hl h
/-! 15 paling/palinglaw32.Great : params [22], results [4], free 0, zeros [(.slice none 0 0)] -/
def Try.c15b0 : AC :=
 (.seq
  (.seq
   (.region 0 [⟨(some 7), none, (.p (.mv (.t 3))), false, []⟩,
     ⟨(some 8), none, (.p (.mv (.t 0))), false, []⟩,
     ⟨(some 9), none, (.p (.len (.t 8))), false, []⟩,
     ⟨(some 10), none, (.p (.bin .lss (.t 7) (.t 9))), false, []⟩] (some ⟨[0, 3, 10], [], false⟩))
   (.cond (.t 10)
    .skip
    (.exit 0)))
  (.seq
   (.block 1
    (.seq
     (.region 0 [⟨(some 13), none, (.p (.mv (.t 0))), false, []⟩,
       ⟨(some 14), none, (.p (.mv (.t 3))), false, []⟩,
       ⟨(some 15), none, (.p (.iaddr 7 (.t 13) (.t 14))), false, []⟩,
       ⟨(some 16), none, (.p (.faddr 3 (.t 15))), false, []⟩,
       ⟨(some 17), none, (.p (.faddr 3 (.t 16))), false, []⟩,
       ⟨(some 18), none, (.r (.load 1 false (.t 17))), false, []⟩,
       ⟨(some 19), none, (.p (.len (.t 18))), false, []⟩,
       ⟨(some 20), none, (.p (.bin .gtr (.t 19) (.c (.int .i64 2000)))), false, []⟩] (some ⟨[0, 3, 20], [], false⟩))
     (.cond (.t 20)
      (.seq
       (.region 0 [⟨(some 2), none, (.p (.mv (.c (.bool true)))), false, []⟩] (some ⟨[2], [], false⟩))
       .ret)
      .skip)))
   (.region 0 [⟨(some 11), none, (.p (.mv (.t 3))), false, []⟩,
     ⟨(some 12), none, (.p (.bin .add (.t 11) (.c (.int .i64 1)))), false, []⟩,
     ⟨(some 3), none, (.p (.mv (.t 12))), false, []⟩] (some ⟨[0, 3], [], false⟩))))
def Try.c15 : AC :=
 (.seq
  (.region 0 [⟨(some 2), none, (.p (.mv (.c (.bool false)))), false, []⟩] (some ⟨[0], [], false⟩))
  (.seq
   (.seq
    (.region 0 [⟨(some 4), none, (.p (.mv (.t 0))), false, []⟩,
      ⟨(some 5), none, (.p (.len (.t 4))), false, []⟩,
      ⟨(some 6), none, (.p (.bin .gtr (.t 5) (.c (.int .i64 200)))), false, []⟩] (some ⟨[0, 6], [], false⟩))
    (.cond (.t 6)
     (.seq
      (.region 0 [⟨(some 2), none, (.p (.mv (.c (.bool true)))), false, []⟩] (some ⟨[2], [], false⟩))
      .ret)
     .skip))
   (.seq
    (.seq
     (.region 0 [⟨(some 3), none, (.p (.mv (.c (.int .i64 0)))), false, []⟩] (some ⟨[0, 3], [], false⟩))
     (.block 0
      (.loop (some ⟨[0, 3], [], true⟩) Try.c15b0)))
    (.seq
     (.region 0 [⟨(some 2), none, (.p (.mv (.c (.bool false)))), false, []⟩] (some ⟨[2], [], false⟩))
     .ret))))
theorem Try.run15 {xs : List AV} {r : AV} (hl : xs.length ≤ 21) (h : aw Try.prog Try.c15 (Pv.Ends [2] r) (entry xs)) : Run Try.prog 15 xs r :=
  run_of (fun _ _ => drawOk Try.mixed) Try.func15 rfl rfl rfl (by kernel_rfl) (by kernel_rfl) hl h
/-! 16 paling/palinglaw32.works : params [], results [4], free 0, zeros [] -/
def Try.c16 : AC :=
 (.seq
  (.region 0 [⟨(some 0), none, (.p (.mv (.c (.bool false)))), false, []⟩] (some ⟨[], [], false⟩))
  (.seq
   (.region 0 [⟨(some 10), none, (.p (.build [(.int .i64 0), (.int .i64 0), (.int .i64 0), (.int .u64 0), (.int .u64 0), (.int .i64 0), (.sl 0 [] true)] [(2, 1, (.c (.int .i64 1)))])), false, []⟩,
     ⟨(some 11), none, (.e (.mks 28 7 (.agg [(.int .i64 0), (.int .i64 0), (.int .i64 0), (.int .u64 0), (.int .u64 0), (.int .i64 0), (.sl 0 [] true)]) 1 [(0, (.t 10))]) none), false, []⟩,
     ⟨(some 12), none, (.p (.build [(.int .i64 0), (.int .i64 0), (.int .i64 0), (.int .u64 0), (.int .u64 0), (.int .i64 0), (.sl 0 [] true)] [(2, 1, (.c (.int .i64 2)))])), false, []⟩,
     ⟨(some 13), none, (.call 17 [(.t 11), (.t 12)] false), false, []⟩,
     ⟨(some 9), none, (.p (.mv (.t 13))), false, []⟩,
     ⟨(some 14), none, (.p (.ext (.t 9) 0)), false, []⟩,
     ⟨(some 15), none, (.p (.ext (.t 9) 1)), false, []⟩,
     ⟨(some 1), none, (.p (.mv (.t 14))), false, []⟩,
     ⟨(some 2), none, (.p (.mv (.t 15))), false, []⟩] (some ⟨[1, 2], [], false⟩))
   (.seq
    (.region 0 [⟨(some 17), none, (.p (.mv (.t 1))), false, []⟩,
      ⟨(some 18), none, (.call 20 [(.t 17), (.c (.int .i64 0))] false), false, []⟩,
      ⟨(some 16), none, (.p (.mv (.t 18))), false, []⟩,
      ⟨(some 19), none, (.p (.ext (.t 16) 0)), false, []⟩,
      ⟨(some 20), none, (.p (.ext (.t 16) 1)), false, []⟩,
      ⟨(some 21), none, (.p (.ext (.t 16) 2)), false, []⟩,
      ⟨(some 3), none, (.e (.alloc 28 (.agg [(.int .i64 0), (.int .i64 0), (.int .i64 0), (.int .u64 0), (.int .u64 0), (.int .i64 0), (.sl 0 [] true)])) none), false, []⟩,
      ⟨none, none, (.e (.store 7 (.t 3) (.t 19)) none), false, []⟩,
      ⟨(some 4), none, (.p (.mv (.t 20))), false, []⟩,
      ⟨(some 5), none, (.p (.mv (.t 21))), false, []⟩] (some ⟨[1, 2, 3, 4, 5], [], false⟩))
    (.seq
     (.region 0 [⟨(some 23), none, (.p (.mv (.t 1))), false, []⟩,
       ⟨(some 24), none, (.call 20 [(.t 23), (.c (.int .i64 2))] false), false, []⟩,
       ⟨(some 22), none, (.p (.mv (.t 24))), false, []⟩,
       ⟨(some 25), none, (.p (.ext (.t 22) 0)), false, []⟩,
       ⟨(some 26), none, (.p (.ext (.t 22) 1)), false, []⟩,
       ⟨(some 27), none, (.p (.ext (.t 22) 2)), false, []⟩,
       ⟨(some 6), none, (.e (.alloc 28 (.agg [(.int .i64 0), (.int .i64 0), (.int .i64 0), (.int .u64 0), (.int .u64 0), (.int .i64 0), (.sl 0 [] true)])) none), false, []⟩,
       ⟨none, none, (.e (.store 7 (.t 6) (.t 25)) none), false, []⟩,
       ⟨(some 7), none, (.p (.mv (.t 26))), false, []⟩,
       ⟨(some 8), none, (.p (.mv (.t 27))), false, []⟩] (some ⟨[2, 3, 4, 5, 8], [], false⟩))
     (.seq
      (.region 0 [⟨(some 28), none, (.p (.mv (.t 2))), false, []⟩,
        ⟨(some 29), none, (.p (.mv (.t 28))), false, []⟩,
        ⟨(some 30), (some (29, true)), (.p (.mv (.t 5))), false, []⟩,
        ⟨(some 31), none, (.p (.pick (.t 29) (.t 30) (.c (.bool false)))), false, []⟩,
        ⟨(some 32), none, (.p (.mv (.t 31))), false, []⟩,
        ⟨(some 33), (some (32, true)), (.p (.faddr 2 (.t 3))), false, []⟩,
        ⟨(some 34), (some (32, true)), (.r (.load 1 false (.t 33))), false, []⟩,
        ⟨(some 35), (some (32, true)), (.p (.bin .eql (.t 34) (.c (.int .i64 1)))), false, []⟩,
        ⟨(some 36), none, (.p (.pick (.t 32) (.t 35) (.c (.bool false)))), false, []⟩,
        ⟨(some 37), none, (.p (.mv (.t 36))), false, []⟩,
        ⟨(some 38), (some (37, true)), (.p (.mv (.t 4))), false, []⟩,
        ⟨(some 39), (some (37, true)), (.p (.len (.t 38))), false, []⟩,
        ⟨(some 40), (some (37, true)), (.p (.bin .eql (.t 39) (.c (.int .i64 1)))), false, []⟩,
        ⟨(some 41), none, (.p (.pick (.t 37) (.t 40) (.c (.bool false)))), false, []⟩,
        ⟨(some 42), none, (.p (.mv (.t 41))), false, []⟩,
        ⟨(some 43), (some (42, true)), (.p (.mv (.t 4))), false, []⟩,
        ⟨(some 44), (some (42, true)), (.p (.iaddr 7 (.t 43) (.c (.int .i64 0)))), false, []⟩,
        ⟨(some 45), (some (42, true)), (.p (.faddr 2 (.t 44))), false, []⟩,
        ⟨(some 46), (some (42, true)), (.r (.load 1 false (.t 45))), false, []⟩,
        ⟨(some 47), (some (42, true)), (.p (.bin .eql (.t 46) (.c (.int .i64 2)))), false, []⟩,
        ⟨(some 48), none, (.p (.pick (.t 42) (.t 47) (.c (.bool false)))), false, []⟩,
        ⟨(some 49), none, (.p (.mv (.t 48))), false, []⟩,
        ⟨(some 50), (some (49, true)), (.p (.mv (.t 8))), false, []⟩,
        ⟨(some 51), (some (49, true)), (.p (.un .not (.t 50))), false, []⟩,
        ⟨(some 52), none, (.p (.pick (.t 49) (.t 51) (.c (.bool false)))), false, []⟩,
        ⟨(some 0), none, (.p (.mv (.t 52))), false, []⟩] (some ⟨[0], [], false⟩))
      .ret)))))
theorem Try.run16 {xs : List AV} {r : AV} (hl : xs.length ≤ 53) (h : aw Try.prog Try.c16 (Pv.Ends [0] r) (entry xs)) : Run Try.prog 16 xs r :=
  run_of (fun _ _ => drawOk Try.mixed) Try.func16 rfl rfl rfl (by kernel_rfl) (by kernel_rfl) hl h
/-! 17 paling/queue.Push : params [22, 28], results [22, 4], free 0, zeros [(.slice none 0 0), (.agg #[(.int .i64 (0)), (.int .i64 (0)), (.int .i64 (0)), (.int .u64 (0)), (.int .u64 (0)), (.int .i64 (0)), (.slice none 0 0)])] -/
def Try.c17 : AC :=
 (.seq
  (.region 0 [⟨(some 3), none, (.e (.box 28 (.t 1)) none), false, []⟩,
    ⟨(some 4), none, (.p (.mv (.c (.sl 0 [] true)))), false, []⟩,
    ⟨(some 5), none, (.p (.mv (.c (.bool false)))), false, []⟩] (some ⟨[0, 3], [], false⟩))
  (.seq
   (.region 0 [⟨(some 7), none, (.p (.mv (.t 0))), false, []⟩,
     ⟨(some 8), none, (.call 45 [(.t 7)] false), false, []⟩,
     ⟨(some 6), none, (.p (.mv (.t 8))), false, []⟩] (some ⟨[0, 3, 6], [], false⟩))
   (.seq
    (.seq
     (.region 0 [⟨(some 9), none, (.p (.mv (.t 0))), false, []⟩,
       ⟨(some 10), none, (.p (.len (.t 9))), false, []⟩,
       ⟨(some 11), none, (.p (.bin .geq (.t 10) (.c (.int .i64 64)))), false, []⟩] (some ⟨[3, 6, 11], [], false⟩))
     (.cond (.t 11)
      (.seq
       (.region 0 [⟨(some 12), none, (.p (.mv (.t 6))), false, []⟩,
         ⟨(some 4), none, (.p (.mv (.t 12))), false, []⟩,
         ⟨(some 5), none, (.p (.mv (.c (.bool false)))), false, []⟩] (some ⟨[4, 5], [], false⟩))
       .ret)
      .skip))
    (.seq
     (.region 0 [⟨(some 13), none, (.p (.mv (.t 6))), false, []⟩,
       ⟨(some 14), none, (.r (.load 7 true (.t 3))), false, []⟩,
       ⟨(some 15), none, (.call 46 [(.t 14)] false), false, []⟩,
       ⟨(some 16), none, (.e (.mks 28 7 (.agg [(.int .i64 0), (.int .i64 0), (.int .i64 0), (.int .u64 0), (.int .u64 0), (.int .i64 0), (.sl 0 [] true)]) 1 [(0, (.t 15))]) none), false, []⟩,
       ⟨(some 17), none, (.e (.append 28 7 (.t 13) (.t 16)) none), false, []⟩,
       ⟨(some 4), none, (.p (.mv (.t 17))), false, []⟩,
       ⟨(some 5), none, (.p (.mv (.c (.bool true)))), false, []⟩] (some ⟨[4, 5], [], false⟩))
     .ret))))
theorem Try.run17 {xs : List AV} {r : AV} (hl : xs.length ≤ 18) (h : aw Try.prog Try.c17 (Pv.Ends [4, 5] r) (entry xs)) : Run Try.prog 17 xs r :=
  run_of (fun _ _ => drawOk Try.mixed) Try.func17 rfl rfl rfl (by kernel_rfl) (by kernel_rfl) hl h
/-! 18 paling/palingref32.Push : params [22, 28], results [22, 4], free 0, zeros [(.slice none 0 0), (.agg #[(.int .i64 (0)), (.int .i64 (0)), (.int .i64 (0)), (.int .u64 (0)), (.int .u64 (0)), (.int .i64 (0)), (.slice none 0 0)])] -/
def Try.c18 : AC :=
 (.seq
  (.region 0 [⟨(some 3), none, (.e (.box 28 (.t 1)) none), false, []⟩,
    ⟨(some 4), none, (.p (.mv (.c (.sl 0 [] true)))), false, []⟩,
    ⟨(some 5), none, (.p (.mv (.c (.bool false)))), false, []⟩] (some ⟨[0, 3], [], false⟩))
  (.seq
   (.region 0 [⟨(some 7), none, (.e (.mks 28 7 (.agg [(.int .i64 0), (.int .i64 0), (.int .i64 0), (.int .u64 0), (.int .u64 0), (.int .i64 0), (.sl 0 [] true)]) 0 []) none), false, []⟩,
     ⟨(some 8), none, (.p (.mv (.t 0))), false, []⟩,
     ⟨(some 9), none, (.e (.append 28 7 (.t 7) (.t 8)) none), false, []⟩,
     ⟨(some 6), none, (.p (.mv (.t 9))), false, []⟩] (some ⟨[0, 3, 6], [], false⟩))
   (.seq
    (.seq
     (.region 0 [⟨(some 10), none, (.p (.mv (.t 0))), false, []⟩,
       ⟨(some 11), none, (.p (.len (.t 10))), false, []⟩,
       ⟨(some 12), none, (.p (.bin .geq (.t 11) (.c (.int .i64 64)))), false, []⟩] (some ⟨[3, 6, 12], [], false⟩))
     (.cond (.t 12)
      (.seq
       (.region 0 [⟨(some 13), none, (.p (.mv (.t 6))), false, []⟩,
         ⟨(some 4), none, (.p (.mv (.t 13))), false, []⟩,
         ⟨(some 5), none, (.p (.mv (.c (.bool false)))), false, []⟩] (some ⟨[4, 5], [], false⟩))
       .ret)
      .skip))
    (.seq
     (.region 0 [⟨(some 14), none, (.p (.mv (.t 6))), false, []⟩,
       ⟨(some 15), none, (.r (.load 7 true (.t 3))), false, []⟩,
       ⟨(some 16), none, (.e (.mks 28 7 (.agg [(.int .i64 0), (.int .i64 0), (.int .i64 0), (.int .u64 0), (.int .u64 0), (.int .i64 0), (.sl 0 [] true)]) 1 [(0, (.t 15))]) none), false, []⟩,
       ⟨(some 17), none, (.e (.append 28 7 (.t 14) (.t 16)) none), false, []⟩,
       ⟨(some 4), none, (.p (.mv (.t 17))), false, []⟩,
       ⟨(some 5), none, (.p (.mv (.c (.bool true)))), false, []⟩] (some ⟨[4, 5], [], false⟩))
     .ret))))
theorem Try.run18 {xs : List AV} {r : AV} (hl : xs.length ≤ 18) (h : aw Try.prog Try.c18 (Pv.Ends [4, 5] r) (entry xs)) : Run Try.prog 18 xs r :=
  run_of (fun _ _ => drawOk Try.mixed) Try.func18 rfl rfl rfl (by kernel_rfl) (by kernel_rfl) hl h
/-! 19 paling/palingref32.Same : params [22, 22], results [4], free 0, zeros [(.slice none 0 0), (.slice none 0 0)] -/
def Try.c19b0 : AC :=
 (.seq
  (.seq
   (.region 0 [⟨(some 11), none, (.p (.mv (.t 5))), false, []⟩,
     ⟨(some 12), none, (.p (.mv (.t 0))), false, []⟩,
     ⟨(some 13), none, (.p (.len (.t 12))), false, []⟩,
     ⟨(some 14), none, (.p (.bin .lss (.t 11) (.t 13))), false, []⟩] (some ⟨[0, 1, 5, 14], [], false⟩))
   (.cond (.t 14)
    .skip
    (.exit 0)))
  (.seq
   (.block 1
    (.seq
     (.region 10 [⟨(some 17), none, (.p (.mv (.t 0))), false, []⟩,
       ⟨(some 18), none, (.p (.mv (.t 5))), false, []⟩,
       ⟨(some 19), none, (.p (.iaddr 7 (.t 17) (.t 18))), false, []⟩,
       ⟨(some 20), none, (.r (.load 7 true (.t 19))), false, []⟩,
       ⟨(some 21), none, (.p (.mv (.t 1))), false, []⟩,
       ⟨(some 22), none, (.p (.mv (.t 5))), false, []⟩,
       ⟨(some 23), none, (.p (.iaddr 7 (.t 21) (.t 22))), false, []⟩,
       ⟨(some 24), none, (.r (.load 7 true (.t 23))), false, []⟩,
       ⟨(some 25), none, (.call 22 [(.t 20), (.t 24)] true), false, []⟩,
       ⟨(some 26), none, (.p (.un .not (.t 25))), false, []⟩] (some ⟨[0, 1, 5, 26], [], true⟩))
     (.cond (.t 26)
      (.seq
       (.region 0 [⟨(some 4), none, (.p (.mv (.c (.bool false)))), false, []⟩] (some ⟨[4], [], false⟩))
       .ret)
      .skip)))
   (.region 0 [⟨(some 15), none, (.p (.mv (.t 5))), false, []⟩,
     ⟨(some 16), none, (.p (.bin .add (.t 15) (.c (.int .i64 1)))), false, []⟩,
     ⟨(some 5), none, (.p (.mv (.t 16))), false, []⟩] (some ⟨[0, 1, 5], [], false⟩))))
def Try.c19 : AC :=
 (.seq
  (.region 0 [⟨(some 4), none, (.p (.mv (.c (.bool false)))), false, []⟩] (some ⟨[0, 1], [], false⟩))
  (.seq
   (.seq
    (.region 0 [⟨(some 6), none, (.p (.mv (.t 0))), false, []⟩,
      ⟨(some 7), none, (.p (.len (.t 6))), false, []⟩,
      ⟨(some 8), none, (.p (.mv (.t 1))), false, []⟩,
      ⟨(some 9), none, (.p (.len (.t 8))), false, []⟩,
      ⟨(some 10), none, (.p (.bin .neq (.t 7) (.t 9))), false, []⟩] (some ⟨[0, 1, 10], [], false⟩))
    (.cond (.t 10)
     (.seq
      (.region 0 [⟨(some 4), none, (.p (.mv (.c (.bool false)))), false, []⟩] (some ⟨[4], [], false⟩))
      .ret)
     .skip))
   (.seq
    (.seq
     (.region 0 [⟨(some 5), none, (.p (.mv (.c (.int .i64 0)))), false, []⟩] (some ⟨[0, 1, 5], [], false⟩))
     (.block 0
      (.loop (some ⟨[0, 1, 5], [], true⟩) Try.c19b0)))
    (.seq
     (.region 0 [⟨(some 4), none, (.p (.mv (.c (.bool true)))), false, []⟩] (some ⟨[4], [], false⟩))
     .ret))))
theorem Try.run19 {xs : List AV} {r : AV} (hl : xs.length ≤ 27) (h : aw Try.prog Try.c19 (Pv.Ends [4] r) (entry xs)) : Run Try.prog 19 xs r :=
  run_of (fun _ _ => drawOk Try.mixed) Try.func19 rfl rfl rfl (by kernel_rfl) (by kernel_rfl) hl h
/-! 20 paling/queue.Take : params [22, 3], results [28, 22, 4], free 0, zeros [(.slice none 0 0), (.int .i64 (0))] -/
def Try.c20 : AC :=
 (.seq
  (.region 0 [⟨(some 4), none, (.e (.alloc 28 (.agg [(.int .i64 0), (.int .i64 0), (.int .i64 0), (.int .u64 0), (.int .u64 0), (.int .i64 0), (.sl 0 [] true)])) none), false, []⟩,
    ⟨(some 5), none, (.p (.mv (.c (.sl 0 [] true)))), false, []⟩,
    ⟨(some 6), none, (.p (.mv (.c (.bool false)))), false, []⟩] (some ⟨[0, 1, 4], [], false⟩))
  (.seq
   (.seq
    (.region 0 [⟨(some 7), none, (.p (.mv (.t 1))), false, []⟩,
      ⟨(some 8), none, (.p (.bin .lss (.t 7) (.c (.int .i64 0)))), false, []⟩,
      ⟨(some 9), none, (.p (.mv (.t 8))), false, []⟩,
      ⟨(some 10), (some (9, false)), (.p (.mv (.t 1))), false, []⟩,
      ⟨(some 11), (some (9, false)), (.p (.mv (.t 0))), false, []⟩,
      ⟨(some 12), (some (9, false)), (.p (.len (.t 11))), false, []⟩,
      ⟨(some 13), (some (9, false)), (.p (.bin .geq (.t 10) (.t 12))), false, []⟩,
      ⟨(some 14), none, (.p (.pick (.t 9) (.c (.bool true)) (.t 13))), false, []⟩] (some ⟨[0, 1, 4, 14], [], false⟩))
    (.cond (.t 14)
     (.seq
      (.region 0 [⟨(some 15), none, (.p (.build [(.int .i64 0), (.int .i64 0), (.int .i64 0), (.int .u64 0), (.int .u64 0), (.int .i64 0), (.sl 0 [] true)] [])), false, []⟩,
        ⟨(some 16), none, (.p (.mv (.t 0))), false, []⟩,
        ⟨(some 17), none, (.call 45 [(.t 16)] false), false, []⟩,
        ⟨none, none, (.e (.store 7 (.t 4) (.t 15)) none), false, []⟩,
        ⟨(some 5), none, (.p (.mv (.t 17))), false, []⟩,
        ⟨(some 6), none, (.p (.mv (.c (.bool false)))), false, []⟩] (some ⟨[4, 5, 6], [], false⟩))
      .ret)
     .skip))
   (.seq
    (.region 18 [⟨(some 18), none, (.p (.mv (.t 0))), false, [28, 28]⟩,
      ⟨(some 19), none, (.p (.mv (.t 1))), false, [28, 28]⟩,
      ⟨(some 20), none, (.p (.iaddr 7 (.t 18) (.t 19))), false, [28, 28]⟩,
      ⟨(some 21), none, (.r (.load 7 true (.t 20))), false, [28, 28]⟩,
      ⟨(some 23), none, (.p (.mv (.t 0))), false, [28, 28]⟩,
      ⟨(some 24), none, (.p (.mv (.t 1))), false, [28, 28]⟩,
      ⟨(some 25), none, (.p (.mv (.t 1))), false, [28, 28]⟩,
      ⟨(some 26), none, (.p (.slicev 7 (.t 23) none (some (.t 24)) (some (.t 25)))), false, [28, 28]⟩,
      ⟨(some 27), none, (.p (.mv (.t 0))), false, [28, 28]⟩,
      ⟨(some 28), none, (.p (.mv (.t 1))), false, [28, 28]⟩,
      ⟨(some 29), none, (.p (.bin .add (.t 28) (.c (.int .i64 1)))), false, [28, 28]⟩,
      ⟨(some 30), none, (.p (.slicev 7 (.t 27) (some (.t 29)) none none)), false, [28, 28]⟩,
      ⟨(some 22), none, (.call 46 [(.t 21)] true), false, []⟩,
      ⟨(some 31), none, (.e (.append 28 7 (.t 26) (.t 30)) (some 13)), false, [28, 28]⟩,
      ⟨(some 32), none, (.call 45 [(.t 31)] true), false, [28]⟩,
      ⟨none, none, (.e (.store 7 (.t 4) (.t 22)) (some 15)), false, [28, 28]⟩,
      ⟨(some 5), none, (.p (.mv (.t 32))), false, [28, 28]⟩,
      ⟨(some 6), none, (.p (.mv (.c (.bool true)))), false, [28, 28]⟩] (some ⟨[4, 5, 6], [], true⟩))
    .ret)))
theorem Try.run20 {xs : List AV} {r : AV} (hl : xs.length ≤ 33) (h : aw Try.prog Try.c20 (Pv.EndsX (rvs [.c 4 7 true, .t 5, .t 6]) r) (entry xs)) : Run Try.prog 20 xs r :=
  run_ofC (fun _ _ => drawOk Try.mixed) Try.func20 rfl rfl (by kernel_rfl) (by kernel_rfl) (by kernel_rfl) hl h
/-! 21 paling/palingref32.Take : params [22, 3], results [28, 22, 4], free 0, zeros [(.slice none 0 0), (.int .i64 (0))] -/
def Try.c21b0 : AC :=
 (.seq
  (.seq
   (.region 0 [⟨(some 9), none, (.p (.mv (.t 8))), false, []⟩,
     ⟨(some 10), none, (.p (.mv (.t 0))), false, []⟩,
     ⟨(some 11), none, (.p (.len (.t 10))), false, []⟩,
     ⟨(some 12), none, (.p (.bin .lss (.t 9) (.t 11))), false, []⟩] (some ⟨[0, 1, 4, 7, 8, 12], [], false⟩))
   (.cond (.t 12)
    .skip
    (.exit 0)))
  (.seq
   (.block 1
    (.seq
     (.region 0 [⟨(some 15), none, (.p (.mv (.t 8))), false, []⟩,
       ⟨(some 16), none, (.p (.mv (.t 1))), false, []⟩,
       ⟨(some 17), none, (.p (.bin .neq (.t 15) (.t 16))), false, []⟩] (some ⟨[0, 1, 4, 7, 8, 17], [], false⟩))
     (.cond (.t 17)
      (.region 0 [⟨(some 18), none, (.p (.mv (.t 7))), false, []⟩,
        ⟨(some 19), none, (.p (.mv (.t 0))), false, []⟩,
        ⟨(some 20), none, (.p (.mv (.t 8))), false, []⟩,
        ⟨(some 21), none, (.p (.iaddr 7 (.t 19) (.t 20))), false, []⟩,
        ⟨(some 22), none, (.r (.load 7 true (.t 21))), false, []⟩,
        ⟨(some 23), none, (.e (.mks 28 7 (.agg [(.int .i64 0), (.int .i64 0), (.int .i64 0), (.int .u64 0), (.int .u64 0), (.int .i64 0), (.sl 0 [] true)]) 1 [(0, (.t 22))]) none), false, []⟩,
        ⟨(some 24), none, (.e (.append 28 7 (.t 18) (.t 23)) none), false, []⟩,
        ⟨(some 7), none, (.p (.mv (.t 24))), false, []⟩] (some ⟨[0, 1, 4, 7, 8], [], false⟩))
      .skip)))
   (.region 0 [⟨(some 13), none, (.p (.mv (.t 8))), false, []⟩,
     ⟨(some 14), none, (.p (.bin .add (.t 13) (.c (.int .i64 1)))), false, []⟩,
     ⟨(some 8), none, (.p (.mv (.t 14))), false, []⟩] (some ⟨[0, 1, 4, 7, 8], [], false⟩))))
def Try.c21 : AC :=
 (.seq
  (.region 0 [⟨(some 4), none, (.e (.alloc 28 (.agg [(.int .i64 0), (.int .i64 0), (.int .i64 0), (.int .u64 0), (.int .u64 0), (.int .i64 0), (.sl 0 [] true)])) none), false, []⟩,
    ⟨(some 5), none, (.p (.mv (.c (.sl 0 [] true)))), false, []⟩,
    ⟨(some 6), none, (.p (.mv (.c (.bool false)))), false, []⟩] (some ⟨[0, 1, 4], [], false⟩))
  (.seq
   (.region 0 [⟨(some 7), none, (.p (.mv (.c (.sl 0 [] true)))), false, []⟩] (some ⟨[0, 1, 4, 7], [], false⟩))
   (.seq
    (.seq
     (.region 0 [⟨(some 8), none, (.p (.mv (.c (.int .i64 0)))), false, []⟩] (some ⟨[0, 1, 4, 7, 8], [], false⟩))
     (.block 0
      (.loop (some ⟨[0, 1, 4, 7, 8], [(7, (7, 28))], true⟩) Try.c21b0)))
    (.seq
     (.seq
      (.region 0 [⟨(some 25), none, (.p (.mv (.t 1))), false, []⟩,
        ⟨(some 26), none, (.p (.bin .lss (.t 25) (.c (.int .i64 0)))), false, []⟩,
        ⟨(some 27), none, (.p (.mv (.t 26))), false, []⟩,
        ⟨(some 28), (some (27, false)), (.p (.mv (.t 1))), false, []⟩,
        ⟨(some 29), (some (27, false)), (.p (.mv (.t 0))), false, []⟩,
        ⟨(some 30), (some (27, false)), (.p (.len (.t 29))), false, []⟩,
        ⟨(some 31), (some (27, false)), (.p (.bin .geq (.t 28) (.t 30))), false, []⟩,
        ⟨(some 32), none, (.p (.pick (.t 27) (.c (.bool true)) (.t 31))), false, []⟩] (some ⟨[0, 1, 4, 7, 32], [], false⟩))
      (.cond (.t 32)
       (.seq
        (.region 0 [⟨(some 33), none, (.p (.build [(.int .i64 0), (.int .i64 0), (.int .i64 0), (.int .u64 0), (.int .u64 0), (.int .i64 0), (.sl 0 [] true)] [])), false, []⟩,
          ⟨(some 34), none, (.p (.mv (.t 7))), false, []⟩,
          ⟨none, none, (.e (.store 7 (.t 4) (.t 33)) none), false, []⟩,
          ⟨(some 5), none, (.p (.mv (.t 34))), false, []⟩,
          ⟨(some 6), none, (.p (.mv (.c (.bool false)))), false, []⟩] (some ⟨[4, 5, 6], [], false⟩))
        .ret)
       .skip))
     (.seq
      (.region 0 [⟨(some 35), none, (.p (.mv (.t 0))), false, []⟩,
        ⟨(some 36), none, (.p (.mv (.t 1))), false, []⟩,
        ⟨(some 37), none, (.p (.iaddr 7 (.t 35) (.t 36))), false, []⟩,
        ⟨(some 38), none, (.r (.load 7 true (.t 37))), false, []⟩,
        ⟨(some 39), none, (.p (.mv (.t 7))), false, []⟩,
        ⟨none, none, (.e (.store 7 (.t 4) (.t 38)) none), false, []⟩,
        ⟨(some 5), none, (.p (.mv (.t 39))), false, []⟩,
        ⟨(some 6), none, (.p (.mv (.c (.bool true)))), false, []⟩] (some ⟨[4, 5, 6], [], false⟩))
      .ret)))))
theorem Try.run21 {xs : List AV} {r : AV} (hl : xs.length ≤ 40) (h : aw Try.prog Try.c21 (Pv.EndsX (rvs [.c 4 7 true, .t 5, .t 6]) r) (entry xs)) : Run Try.prog 21 xs r :=
  run_ofC (fun _ _ => drawOk Try.mixed) Try.func21 rfl rfl (by kernel_rfl) (by kernel_rfl) (by kernel_rfl) hl h
/-! 22 paling/palingref32.One : params [28, 28], results [4], free 0, zeros [(.agg #[(.int .i64 (0)), (.int .i64 (0)), (.int .i64 (0)), (.int .u64 (0)), (.int .u64 (0)), (.int .i64 (0)), (.slice none 0 0)]), (.agg #[(.int .i64 (0)), (.int .i64 (0)), (.int .i64 (0)), (.int .u64 (0)), (.int .u64 (0)), (.int .i64 (0)), (.slice none 0 0)])] -/
def Try.c22 : AC :=
 (.seq
  (.region 0 [⟨(some 2), none, (.e (.box 28 (.t 0)) none), false, []⟩,
    ⟨(some 3), none, (.e (.box 28 (.t 1)) none), false, []⟩,
    ⟨(some 4), none, (.p (.mv (.c (.bool false)))), false, []⟩] (some ⟨[2, 3], [], false⟩))
  (.seq
   (.region 0 [⟨(some 5), none, (.p (.faddr 0 (.t 2))), false, []⟩,
     ⟨(some 6), none, (.r (.load 1 false (.t 5))), false, []⟩,
     ⟨(some 7), none, (.p (.faddr 0 (.t 3))), false, []⟩,
     ⟨(some 8), none, (.r (.load 1 false (.t 7))), false, []⟩,
     ⟨(some 9), none, (.p (.bin .eql (.t 6) (.t 8))), false, []⟩,
     ⟨(some 10), none, (.p (.mv (.t 9))), false, []⟩,
     ⟨(some 11), (some (10, true)), (.p (.faddr 1 (.t 2))), false, []⟩,
     ⟨(some 12), (some (10, true)), (.r (.load 1 false (.t 11))), false, []⟩,
     ⟨(some 13), (some (10, true)), (.p (.faddr 1 (.t 3))), false, []⟩,
     ⟨(some 14), (some (10, true)), (.r (.load 1 false (.t 13))), false, []⟩,
     ⟨(some 15), (some (10, true)), (.p (.bin .eql (.t 12) (.t 14))), false, []⟩,
     ⟨(some 16), none, (.p (.pick (.t 10) (.t 15) (.c (.bool false)))), false, []⟩,
     ⟨(some 17), none, (.p (.mv (.t 16))), false, []⟩,
     ⟨(some 18), (some (17, true)), (.p (.faddr 2 (.t 2))), false, []⟩,
     ⟨(some 19), (some (17, true)), (.r (.load 1 false (.t 18))), false, []⟩,
     ⟨(some 20), (some (17, true)), (.p (.faddr 2 (.t 3))), false, []⟩,
     ⟨(some 21), (some (17, true)), (.r (.load 1 false (.t 20))), false, []⟩,
     ⟨(some 22), (some (17, true)), (.p (.bin .eql (.t 19) (.t 21))), false, []⟩,
     ⟨(some 23), none, (.p (.pick (.t 17) (.t 22) (.c (.bool false)))), false, []⟩,
     ⟨(some 24), none, (.p (.mv (.t 23))), false, []⟩,
     ⟨(some 25), (some (24, true)), (.p (.faddr 3 (.t 2))), false, []⟩,
     ⟨(some 26), (some (24, true)), (.r (.load 4 true (.t 25))), false, []⟩,
     ⟨(some 27), (some (24, true)), (.p (.faddr 3 (.t 3))), false, []⟩,
     ⟨(some 28), (some (24, true)), (.r (.load 4 true (.t 27))), false, []⟩,
     ⟨(some 29), (some (24, true)), (.call 26 [(.t 26), (.t 28)] false), false, []⟩,
     ⟨(some 30), none, (.p (.pick (.t 24) (.t 29) (.c (.bool false)))), false, []⟩,
     ⟨(some 4), none, (.p (.mv (.t 30))), false, []⟩] (some ⟨[4], [], false⟩))
   .ret))
theorem Try.run22 {xs : List AV} {r : AV} (hl : xs.length ≤ 31) (h : aw Try.prog Try.c22 (Pv.Ends [4] r) (entry xs)) : Run Try.prog 22 xs r :=
  run_of (fun _ _ => drawOk Try.mixed) Try.func22 rfl rfl rfl (by kernel_rfl) (by kernel_rfl) hl h
/-! 23 paling/palinglaw05.works : params [], results [4], free 0, zeros [] -/
def Try.c23 : AC :=
 (.seq
  (.region 0 [⟨(some 0), none, (.p (.mv (.c (.bool false)))), false, []⟩] (some ⟨[], [], false⟩))
  (.seq
   (.region 0 [⟨(some 8), none, (.e (.mks 5 1 (.int .u8 0) 1 [(0, (.c (.int .u8 120)))]) none), false, []⟩,
     ⟨(some 9), none, (.e (.mark (.t 8)) none), false, []⟩,
     ⟨(some 10), none, (.p (.build [(.int .u64 0), (.int .u64 0), (.int .i64 0), (.sl 0 [] true)] [(2, 1, (.c (.int .i64 2048))), (3, 1, (.t 9))])), false, []⟩,
     ⟨(some 11), none, (.call 28 [(.t 10), (.c (.int .i64 10)), (.c (.int .i64 0))] false), false, []⟩,
     ⟨(some 7), none, (.p (.mv (.t 11))), false, []⟩,
     ⟨(some 12), none, (.p (.ext (.t 7) 0)), false, []⟩,
     ⟨(some 13), none, (.p (.ext (.t 7) 1)), false, []⟩,
     ⟨(some 1), none, (.e (.alloc 26 (.agg [(.int .u64 0), (.int .u64 0), (.int .i64 0), (.sl 0 [] true)])) none), false, []⟩,
     ⟨none, none, (.e (.store 4 (.t 1) (.t 12)) none), false, []⟩,
     ⟨(some 2), none, (.p (.mv (.t 13))), false, []⟩] (some ⟨[1, 2], [], false⟩))
   (.seq
    (.region 0 [⟨(some 15), none, (.p (.build [(.int .u64 0), (.int .u64 0), (.int .i64 0), (.sl 0 [] true)] [])), false, []⟩,
      ⟨(some 16), none, (.call 24 [(.t 15)] false), false, []⟩,
      ⟨(some 14), none, (.p (.mv (.t 16))), false, []⟩,
      ⟨(some 17), none, (.p (.ext (.t 14) 0)), false, []⟩,
      ⟨(some 18), none, (.p (.ext (.t 14) 1)), false, []⟩,
      ⟨(some 19), none, (.p (.ext (.t 14) 2)), false, []⟩,
      ⟨(some 20), none, (.p (.ext (.t 14) 3)), false, []⟩,
      ⟨(some 3), none, (.e (.alloc 26 (.agg [(.int .u64 0), (.int .u64 0), (.int .i64 0), (.sl 0 [] true)])) none), false, []⟩,
      ⟨none, none, (.e (.store 4 (.t 3) (.t 17)) none), false, []⟩,
      ⟨(some 4), none, (.p (.mv (.t 18))), false, []⟩,
      ⟨(some 5), none, (.p (.mv (.t 19))), false, []⟩,
      ⟨(some 6), none, (.p (.mv (.t 20))), false, []⟩] (some ⟨[1, 2, 6], [], false⟩))
    (.seq
     (.region 0 [⟨(some 21), none, (.p (.mv (.t 2))), false, []⟩,
       ⟨(some 22), none, (.p (.bin .eql (.t 21) (.c (.int .i64 0)))), false, []⟩,
       ⟨(some 23), none, (.p (.mv (.t 22))), false, []⟩,
       ⟨(some 24), (some (23, true)), (.p (.faddr 2 (.t 1))), false, []⟩,
       ⟨(some 25), (some (23, true)), (.r (.load 1 false (.t 24))), false, []⟩,
       ⟨(some 26), (some (23, true)), (.p (.bin .eql (.t 25) (.c (.int .i64 33024)))), false, []⟩,
       ⟨(some 27), none, (.p (.pick (.t 23) (.t 26) (.c (.bool false)))), false, []⟩,
       ⟨(some 28), none, (.p (.mv (.t 27))), false, []⟩,
       ⟨(some 29), (some (28, true)), (.p (.faddr 3 (.t 1))), false, []⟩,
       ⟨(some 30), (some (28, true)), (.r (.load 1 false (.t 29))), false, []⟩,
       ⟨(some 31), (some (28, true)), (.r (.b2s (.t 30))), false, []⟩,
       ⟨(some 32), (some (28, true)), (.p (.bin .eql (.t 31) (.c (.str [0, 10, 8, 0, 120])))), false, []⟩,
       ⟨(some 33), none, (.p (.pick (.t 28) (.t 32) (.c (.bool false)))), false, []⟩,
       ⟨(some 34), none, (.p (.mv (.t 33))), false, []⟩,
       ⟨(some 35), (some (34, true)), (.p (.mv (.t 6))), false, []⟩,
       ⟨(some 36), (some (34, true)), (.p (.bin .eql (.t 35) (.c (.int .i64 11)))), false, []⟩,
       ⟨(some 37), none, (.p (.pick (.t 34) (.t 36) (.c (.bool false)))), false, []⟩,
       ⟨(some 38), none, (.p (.mv (.t 37))), false, []⟩,
       ⟨(some 39), (some (38, true)), (.r (.load 4 true (.t 1))), false, []⟩,
       ⟨(some 40), (some (38, true)), (.call 27 [(.t 39)] false), false, []⟩,
       ⟨(some 41), none, (.p (.pick (.t 38) (.t 40) (.c (.bool false)))), false, []⟩,
       ⟨(some 0), none, (.p (.mv (.t 41))), false, []⟩] (some ⟨[0], [], false⟩))
     .ret))))
theorem Try.run23 {xs : List AV} {r : AV} (hl : xs.length ≤ 42) (h : aw Try.prog Try.c23 (Pv.Ends [0] r) (entry xs)) : Run Try.prog 23 xs r :=
  run_of (fun _ _ => drawOk Try.mixed) Try.func23 rfl rfl rfl (by kernel_rfl) (by kernel_rfl) hl h
/-! 24 paling/tag.Strip : params [26], results [26, 3, 3, 38], free 0, zeros [(.agg #[(.int .u64 (0)), (.int .u64 (0)), (.int .i64 (0)), (.slice none 0 0)])] -/
def Try.c24 : AC :=
 (.seq
  (.region 0 [⟨(some 1), none, (.e (.box 26 (.t 0)) none), false, []⟩,
    ⟨(some 2), none, (.e (.alloc 26 (.agg [(.int .u64 0), (.int .u64 0), (.int .i64 0), (.sl 0 [] true)])) none), false, []⟩,
    ⟨(some 3), none, (.p (.mv (.c (.int .i64 0)))), false, []⟩,
    ⟨(some 4), none, (.p (.mv (.c (.int .i64 0)))), false, []⟩,
    ⟨(some 5), none, (.p (.mv (.c (.int .i64 0)))), false, []⟩] (some ⟨[1, 2], [], false⟩))
  (.seq
   (.block 0
    (.seq
     (.region 0 [⟨(some 9), none, (.r (.load 4 true (.t 1))), false, []⟩,
       ⟨(some 10), none, (.call 27 [(.t 9)] false), false, []⟩,
       ⟨(some 11), none, (.p (.un .not (.t 10))), false, []⟩,
       ⟨(some 8), none, (.p (.mv (.t 11))), false, []⟩] (some ⟨[1, 2, 8], [], false⟩))
     (.cond (.t 8)
      (.seq
       (.region 0 [⟨(some 12), none, (.r (.load 4 true (.t 2))), false, []⟩,
         ⟨none, none, (.e (.store 4 (.t 2) (.t 12)) none), false, []⟩,
         ⟨(some 3), none, (.p (.mv (.c (.int .i64 0)))), false, []⟩,
         ⟨(some 4), none, (.p (.mv (.c (.int .i64 0)))), false, []⟩,
         ⟨(some 5), none, (.p (.mv (.c (.int .i64 11)))), false, []⟩] (some ⟨[2, 3, 4, 5], [], false⟩))
       .ret)
      (.seq
       (.region 0 [⟨(some 14), none, (.p (.faddr 3 (.t 1))), false, []⟩,
         ⟨(some 15), none, (.r (.load 1 false (.t 14))), false, []⟩,
         ⟨(some 16), none, (.p (.len (.t 15))), false, []⟩,
         ⟨(some 17), none, (.p (.bin .lss (.t 16) (.c (.int .i64 4)))), false, []⟩,
         ⟨(some 13), none, (.p (.mv (.t 17))), false, []⟩] (some ⟨[1, 2, 13], [], false⟩))
       (.cond (.t 13)
        (.seq
         (.region 0 [⟨(some 18), none, (.r (.load 4 true (.t 2))), false, []⟩,
           ⟨none, none, (.e (.store 4 (.t 2) (.t 18)) none), false, []⟩,
           ⟨(some 3), none, (.p (.mv (.c (.int .i64 0)))), false, []⟩,
           ⟨(some 4), none, (.p (.mv (.c (.int .i64 0)))), false, []⟩,
           ⟨(some 5), none, (.p (.mv (.c (.int .i64 10)))), false, []⟩] (some ⟨[2, 3, 4, 5], [], false⟩))
         .ret)
        .skip)))))
   (.seq
    (.region 13 [⟨(some 19), none, (.p (.faddr 3 (.t 1))), false, []⟩,
      ⟨(some 20), none, (.r (.load 1 false (.t 19))), false, []⟩,
      ⟨(some 21), none, (.p (.iaddr 1 (.t 20) (.c (.int .i64 0)))), false, []⟩,
      ⟨(some 22), none, (.r (.load 1 false (.t 21))), false, []⟩,
      ⟨(some 23), none, (.p (.convI .i64 (.t 22))), false, []⟩,
      ⟨(some 24), none, (.p (.bin .shl (.t 23) (.c (.int .u64 8)))), false, []⟩,
      ⟨(some 25), none, (.p (.faddr 3 (.t 1))), false, []⟩,
      ⟨(some 26), none, (.r (.load 1 false (.t 25))), false, []⟩,
      ⟨(some 27), none, (.p (.iaddr 1 (.t 26) (.c (.int .i64 1)))), false, []⟩,
      ⟨(some 28), none, (.r (.load 1 false (.t 27))), false, []⟩,
      ⟨(some 29), none, (.p (.convI .i64 (.t 28))), false, []⟩,
      ⟨(some 30), none, (.p (.bin .or (.t 24) (.t 29))), false, []⟩,
      ⟨(some 6), none, (.p (.mv (.t 30))), false, []⟩] (some ⟨[1, 2, 6], [], true⟩))
    (.seq
     (.region 13 [⟨(some 31), none, (.p (.faddr 3 (.t 1))), false, []⟩,
       ⟨(some 32), none, (.r (.load 1 false (.t 31))), false, []⟩,
       ⟨(some 33), none, (.p (.iaddr 1 (.t 32) (.c (.int .i64 2)))), false, []⟩,
       ⟨(some 34), none, (.r (.load 1 false (.t 33))), false, []⟩,
       ⟨(some 35), none, (.p (.convI .i64 (.t 34))), false, []⟩,
       ⟨(some 36), none, (.p (.bin .shl (.t 35) (.c (.int .u64 8)))), false, []⟩,
       ⟨(some 37), none, (.p (.faddr 3 (.t 1))), false, []⟩,
       ⟨(some 38), none, (.r (.load 1 false (.t 37))), false, []⟩,
       ⟨(some 39), none, (.p (.iaddr 1 (.t 38) (.c (.int .i64 3)))), false, []⟩,
       ⟨(some 40), none, (.r (.load 1 false (.t 39))), false, []⟩,
       ⟨(some 41), none, (.p (.convI .i64 (.t 40))), false, []⟩,
       ⟨(some 42), none, (.p (.bin .or (.t 36) (.t 41))), false, []⟩,
       ⟨(some 7), none, (.p (.mv (.t 42))), false, []⟩] (some ⟨[1, 2, 6, 7], [], true⟩))
     (.seq
      (.region 0 [⟨(some 43), none, (.p (.mv (.t 6))), false, []⟩,
        ⟨(some 44), none, (.p (.bin .and (.t 43) (.c (.int .i64 4095)))), false, []⟩,
        ⟨(some 45), none, (.p (.mv (.t 6))), false, []⟩,
        ⟨(some 46), none, (.p (.bin .shr (.t 45) (.c (.int .u64 12)))), false, []⟩,
        ⟨(some 3), none, (.p (.mv (.t 44))), false, []⟩,
        ⟨(some 4), none, (.p (.mv (.t 46))), false, []⟩] (some ⟨[1, 2, 3, 4, 7], [], false⟩))
      (.seq
       (.block 1
        (.seq
         (.block 3
          (.block 2
           (.seq
            (.seq
             (.seq
              (.region 0 [⟨(some 48), none, (.p (.mv (.t 3))), false, []⟩,
                ⟨(some 49), none, (.p (.bin .gtr (.t 48) (.c (.int .i64 4094)))), false, []⟩,
                ⟨(some 47), none, (.p (.mv (.t 49))), false, []⟩] (some ⟨[1, 2, 3, 4, 7, 47], [], false⟩))
              (.cond (.t 47)
               (.exit 2)
               .skip))
             (.seq
              (.region 0 [⟨(some 51), none, (.p (.mv (.t 7))), false, []⟩,
                ⟨(some 52), none, (.p (.bin .eql (.t 51) (.c (.int .i64 33024)))), false, []⟩,
                ⟨(some 50), none, (.p (.mv (.t 52))), false, []⟩] (some ⟨[1, 2, 3, 4, 7, 50], [], false⟩))
              (.cond (.t 50)
               (.exit 3)
               .skip)))
            (.exit 1))))
         (.seq
          (.seq
           (.region 0 [⟨(some 53), none, (.r (.load 4 true (.t 2))), false, []⟩,
             ⟨none, none, (.e (.store 4 (.t 2) (.t 53)) none), false, []⟩,
             ⟨(some 3), none, (.p (.mv (.c (.int .i64 0)))), false, []⟩,
             ⟨(some 4), none, (.p (.mv (.c (.int .i64 0)))), false, []⟩,
             ⟨(some 5), none, (.p (.mv (.c (.int .i64 15)))), false, []⟩] (some ⟨[2, 3, 4, 5], [], false⟩))
           .ret)
          (.exit 1))))
       (.seq
        (.region 16 [⟨(some 54), none, (.p (.faddr 0 (.t 1))), false, []⟩,
          ⟨(some 55), none, (.r (.load 1 false (.t 54))), false, []⟩,
          ⟨(some 56), none, (.p (.faddr 1 (.t 1))), false, []⟩,
          ⟨(some 57), none, (.r (.load 1 false (.t 56))), false, []⟩,
          ⟨(some 58), none, (.p (.mv (.t 7))), false, []⟩,
          ⟨(some 59), none, (.p (.faddr 3 (.t 1))), false, []⟩,
          ⟨(some 60), none, (.r (.load 1 false (.t 59))), false, []⟩,
          ⟨(some 61), none, (.p (.slicev 1 (.t 60) (some (.c (.int .i64 4))) none none)), false, []⟩,
          ⟨(some 64), none, (.p (.mv (.t 3))), false, []⟩,
          ⟨(some 65), none, (.p (.mv (.t 4))), false, []⟩,
          ⟨(some 62), none, (.call 47 [(.t 61)] true), false, []⟩,
          ⟨(some 63), none, (.p (.build [(.int .u64 0), (.int .u64 0), (.int .i64 0), (.sl 0 [] true)] [(0, 1, (.t 55)), (1, 1, (.t 57)), (2, 1, (.t 58)), (3, 1, (.t 62))])), false, []⟩,
          ⟨none, none, (.e (.store 4 (.t 2) (.t 63)) (some 12)), false, []⟩,
          ⟨(some 3), none, (.p (.mv (.t 64))), false, []⟩,
          ⟨(some 4), none, (.p (.mv (.t 65))), false, []⟩,
          ⟨(some 5), none, (.p (.mv (.c (.int .i64 0)))), false, []⟩] (some ⟨[2, 3, 4, 5], [], true⟩))
        .ret)))))))
theorem Try.run24 {xs : List AV} {r : AV} (hl : xs.length ≤ 66) (h : aw Try.prog Try.c24 (Pv.EndsX (rvs [.c 2 4 true, .t 3, .t 4, .t 5]) r) (entry xs)) : Run Try.prog 24 xs r :=
  run_ofC (fun _ _ => drawOk Try.mixed) Try.func24 rfl rfl (by kernel_rfl) (by kernel_rfl) (by kernel_rfl) hl h
/-! 25 paling/palingref05.Strip : params [26], results [26, 3, 3, 3], free 0, zeros [(.agg #[(.int .u64 (0)), (.int .u64 (0)), (.int .i64 (0)), (.slice none 0 0)])] -/
def Try.c25 : AC :=
 (.seq
  (.region 0 [⟨(some 1), none, (.e (.box 26 (.t 0)) none), false, []⟩,
    ⟨(some 2), none, (.e (.alloc 26 (.agg [(.int .u64 0), (.int .u64 0), (.int .i64 0), (.sl 0 [] true)])) none), false, []⟩,
    ⟨(some 3), none, (.p (.mv (.c (.int .i64 0)))), false, []⟩,
    ⟨(some 4), none, (.p (.mv (.c (.int .i64 0)))), false, []⟩,
    ⟨(some 5), none, (.p (.mv (.c (.int .i64 0)))), false, []⟩] (some ⟨[1, 2], [], false⟩))
  (.seq
   (.seq
    (.region 0 [⟨(some 8), none, (.p (.faddr 2 (.t 1))), false, []⟩,
      ⟨(some 9), none, (.r (.load 1 false (.t 8))), false, []⟩,
      ⟨(some 10), none, (.p (.bin .neq (.t 9) (.c (.int .i64 33024)))), false, []⟩] (some ⟨[1, 2, 10], [], false⟩))
    (.cond (.t 10)
     (.seq
      (.region 0 [⟨(some 11), none, (.p (.build [(.int .u64 0), (.int .u64 0), (.int .i64 0), (.sl 0 [] true)] [])), false, []⟩,
        ⟨none, none, (.e (.store 4 (.t 2) (.t 11)) none), false, []⟩,
        ⟨(some 3), none, (.p (.mv (.c (.int .i64 0)))), false, []⟩,
        ⟨(some 4), none, (.p (.mv (.c (.int .i64 0)))), false, []⟩,
        ⟨(some 5), none, (.p (.mv (.c (.int .i64 11)))), false, []⟩] (some ⟨[2, 3, 4, 5], [], false⟩))
      .ret)
     .skip))
   (.seq
    (.seq
     (.region 0 [⟨(some 12), none, (.p (.faddr 3 (.t 1))), false, []⟩,
       ⟨(some 13), none, (.r (.load 1 false (.t 12))), false, []⟩,
       ⟨(some 14), none, (.p (.len (.t 13))), false, []⟩,
       ⟨(some 15), none, (.p (.bin .lss (.t 14) (.c (.int .i64 4)))), false, []⟩] (some ⟨[1, 2, 15], [], false⟩))
     (.cond (.t 15)
      (.seq
       (.region 0 [⟨(some 16), none, (.p (.build [(.int .u64 0), (.int .u64 0), (.int .i64 0), (.sl 0 [] true)] [])), false, []⟩,
         ⟨none, none, (.e (.store 4 (.t 2) (.t 16)) none), false, []⟩,
         ⟨(some 3), none, (.p (.mv (.c (.int .i64 0)))), false, []⟩,
         ⟨(some 4), none, (.p (.mv (.c (.int .i64 0)))), false, []⟩,
         ⟨(some 5), none, (.p (.mv (.c (.int .i64 10)))), false, []⟩] (some ⟨[2, 3, 4, 5], [], false⟩))
       .ret)
      .skip))
    (.seq
     (.region 13 [⟨(some 17), none, (.p (.faddr 3 (.t 1))), false, []⟩,
       ⟨(some 18), none, (.r (.load 1 false (.t 17))), false, []⟩,
       ⟨(some 19), none, (.p (.iaddr 1 (.t 18) (.c (.int .i64 0)))), false, []⟩,
       ⟨(some 20), none, (.r (.load 1 false (.t 19))), false, []⟩,
       ⟨(some 21), none, (.p (.convI .i64 (.t 20))), false, []⟩,
       ⟨(some 22), none, (.p (.bin .mul (.t 21) (.c (.int .i64 256)))), false, []⟩,
       ⟨(some 23), none, (.p (.faddr 3 (.t 1))), false, []⟩,
       ⟨(some 24), none, (.r (.load 1 false (.t 23))), false, []⟩,
       ⟨(some 25), none, (.p (.iaddr 1 (.t 24) (.c (.int .i64 1)))), false, []⟩,
       ⟨(some 26), none, (.r (.load 1 false (.t 25))), false, []⟩,
       ⟨(some 27), none, (.p (.convI .i64 (.t 26))), false, []⟩,
       ⟨(some 28), none, (.p (.bin .add (.t 22) (.t 27))), false, []⟩,
       ⟨(some 6), none, (.p (.mv (.t 28))), false, []⟩] (some ⟨[1, 2, 6], [], true⟩))
     (.seq
      (.region 13 [⟨(some 29), none, (.p (.faddr 3 (.t 1))), false, []⟩,
        ⟨(some 30), none, (.r (.load 1 false (.t 29))), false, []⟩,
        ⟨(some 31), none, (.p (.iaddr 1 (.t 30) (.c (.int .i64 2)))), false, []⟩,
        ⟨(some 32), none, (.r (.load 1 false (.t 31))), false, []⟩,
        ⟨(some 33), none, (.p (.convI .i64 (.t 32))), false, []⟩,
        ⟨(some 34), none, (.p (.bin .mul (.t 33) (.c (.int .i64 256)))), false, []⟩,
        ⟨(some 35), none, (.p (.faddr 3 (.t 1))), false, []⟩,
        ⟨(some 36), none, (.r (.load 1 false (.t 35))), false, []⟩,
        ⟨(some 37), none, (.p (.iaddr 1 (.t 36) (.c (.int .i64 3)))), false, []⟩,
        ⟨(some 38), none, (.r (.load 1 false (.t 37))), false, []⟩,
        ⟨(some 39), none, (.p (.convI .i64 (.t 38))), false, []⟩,
        ⟨(some 40), none, (.p (.bin .add (.t 34) (.t 39))), false, []⟩,
        ⟨(some 7), none, (.p (.mv (.t 40))), false, []⟩] (some ⟨[1, 2, 6, 7], [], true⟩))
      (.seq
       (.seq
        (.region 0 [⟨(some 41), none, (.p (.mv (.t 6))), false, []⟩,
          ⟨(some 42), none, (.p (.bin .rem (.t 41) (.c (.int .i64 4096)))), false, []⟩,
          ⟨(some 43), none, (.p (.bin .eql (.t 42) (.c (.int .i64 4095)))), false, []⟩,
          ⟨(some 44), none, (.p (.mv (.t 43))), false, []⟩,
          ⟨(some 45), (some (44, false)), (.p (.mv (.t 7))), false, []⟩,
          ⟨(some 46), (some (44, false)), (.p (.bin .eql (.t 45) (.c (.int .i64 33024)))), false, []⟩,
          ⟨(some 47), none, (.p (.pick (.t 44) (.c (.bool true)) (.t 46))), false, []⟩] (some ⟨[1, 2, 6, 7, 47], [], false⟩))
        (.cond (.t 47)
         (.seq
          (.region 0 [⟨(some 48), none, (.p (.build [(.int .u64 0), (.int .u64 0), (.int .i64 0), (.sl 0 [] true)] [])), false, []⟩,
            ⟨none, none, (.e (.store 4 (.t 2) (.t 48)) none), false, []⟩,
            ⟨(some 3), none, (.p (.mv (.c (.int .i64 0)))), false, []⟩,
            ⟨(some 4), none, (.p (.mv (.c (.int .i64 0)))), false, []⟩,
            ⟨(some 5), none, (.p (.mv (.c (.int .i64 15)))), false, []⟩] (some ⟨[2, 3, 4, 5], [], false⟩))
          .ret)
         .skip))
       (.seq
        (.region 19 [⟨(some 49), none, (.p (.faddr 0 (.t 1))), true, [5]⟩,
          ⟨(some 50), none, (.r (.load 1 false (.t 49))), true, [5]⟩,
          ⟨(some 51), none, (.p (.faddr 1 (.t 1))), true, [5]⟩,
          ⟨(some 52), none, (.r (.load 1 false (.t 51))), true, [5]⟩,
          ⟨(some 53), none, (.p (.mv (.t 7))), true, [5]⟩,
          ⟨(some 55), none, (.p (.faddr 3 (.t 1))), true, [5]⟩,
          ⟨(some 56), none, (.r (.load 1 false (.t 55))), true, [5]⟩,
          ⟨(some 57), none, (.p (.slicev 1 (.t 56) (some (.c (.int .i64 4))) none none)), true, [5]⟩,
          ⟨(some 60), none, (.p (.mv (.t 6))), true, [5]⟩,
          ⟨(some 61), none, (.p (.bin .rem (.t 60) (.c (.int .i64 4096)))), true, [5]⟩,
          ⟨(some 62), none, (.p (.mv (.t 6))), true, [5]⟩,
          ⟨(some 63), none, (.p (.bin .quo (.t 62) (.c (.int .i64 4096)))), true, [5]⟩,
          ⟨(some 54), none, (.e (.mks 5 1 (.int .u8 0) 0 []) (some 5)), true, [5]⟩,
          ⟨(some 58), none, (.e (.append 5 1 (.t 54) (.t 57)) (some 9)), true, [5]⟩,
          ⟨(some 59), none, (.p (.build [(.int .u64 0), (.int .u64 0), (.int .i64 0), (.sl 0 [] true)] [(0, 1, (.t 50)), (1, 1, (.t 52)), (2, 1, (.t 53)), (3, 1, (.t 58))])), true, [5]⟩,
          ⟨none, none, (.e (.store 4 (.t 2) (.t 59)) (some 15)), true, [5]⟩,
          ⟨(some 3), none, (.p (.mv (.t 61))), true, [5]⟩,
          ⟨(some 4), none, (.p (.mv (.t 63))), true, [5]⟩,
          ⟨(some 5), none, (.p (.mv (.c (.int .i64 0)))), true, [5]⟩] (some ⟨[2, 3, 4, 5], [], true⟩))
        .ret)))))))
theorem Try.run25 {xs : List AV} {r : AV} (hl : xs.length ≤ 64) (h : aw Try.prog Try.c25 (Pv.EndsX (rvs [.c 2 4 true, .t 3, .t 4, .t 5]) r) (entry xs)) : Run Try.prog 25 xs r :=
  run_ofC (fun _ _ => drawOk Try.mixed) Try.func25 rfl rfl (by kernel_rfl) (by kernel_rfl) (by kernel_rfl) hl h
/-! 26 paling/palingref04.Same : params [26, 26], results [4], free 0, zeros [(.agg #[(.int .u64 (0)), (.int .u64 (0)), (.int .i64 (0)), (.slice none 0 0)]), (.agg #[(.int .u64 (0)), (.int .u64 (0)), (.int .i64 (0)), (.slice none 0 0)])] -/
def Try.c26 : AC :=
 (.seq
  (.region 0 [⟨(some 2), none, (.e (.box 26 (.t 0)) none), false, []⟩,
    ⟨(some 3), none, (.e (.box 26 (.t 1)) none), false, []⟩,
    ⟨(some 4), none, (.p (.mv (.c (.bool false)))), false, []⟩] (some ⟨[2, 3], [], false⟩))
  (.seq
   (.region 0 [⟨(some 5), none, (.p (.faddr 0 (.t 2))), false, []⟩,
     ⟨(some 6), none, (.r (.load 1 false (.t 5))), false, []⟩,
     ⟨(some 7), none, (.p (.faddr 0 (.t 3))), false, []⟩,
     ⟨(some 8), none, (.r (.load 1 false (.t 7))), false, []⟩,
     ⟨(some 9), none, (.p (.bin .eql (.t 6) (.t 8))), false, []⟩,
     ⟨(some 10), none, (.p (.mv (.t 9))), false, []⟩,
     ⟨(some 11), (some (10, true)), (.p (.faddr 1 (.t 2))), false, []⟩,
     ⟨(some 12), (some (10, true)), (.r (.load 1 false (.t 11))), false, []⟩,
     ⟨(some 13), (some (10, true)), (.p (.faddr 1 (.t 3))), false, []⟩,
     ⟨(some 14), (some (10, true)), (.r (.load 1 false (.t 13))), false, []⟩,
     ⟨(some 15), (some (10, true)), (.p (.bin .eql (.t 12) (.t 14))), false, []⟩,
     ⟨(some 16), none, (.p (.pick (.t 10) (.t 15) (.c (.bool false)))), false, []⟩,
     ⟨(some 17), none, (.p (.mv (.t 16))), false, []⟩,
     ⟨(some 18), (some (17, true)), (.p (.faddr 2 (.t 2))), false, []⟩,
     ⟨(some 19), (some (17, true)), (.r (.load 1 false (.t 18))), false, []⟩,
     ⟨(some 20), (some (17, true)), (.p (.faddr 2 (.t 3))), false, []⟩,
     ⟨(some 21), (some (17, true)), (.r (.load 1 false (.t 20))), false, []⟩,
     ⟨(some 22), (some (17, true)), (.p (.bin .eql (.t 19) (.t 21))), false, []⟩,
     ⟨(some 23), none, (.p (.pick (.t 17) (.t 22) (.c (.bool false)))), false, []⟩,
     ⟨(some 24), none, (.p (.mv (.t 23))), false, []⟩,
     ⟨(some 25), (some (24, true)), (.p (.faddr 3 (.t 2))), false, []⟩,
     ⟨(some 26), (some (24, true)), (.r (.load 1 false (.t 25))), false, []⟩,
     ⟨(some 27), (some (24, true)), (.r (.b2s (.t 26))), false, []⟩,
     ⟨(some 28), (some (24, true)), (.p (.faddr 3 (.t 3))), false, []⟩,
     ⟨(some 29), (some (24, true)), (.r (.load 1 false (.t 28))), false, []⟩,
     ⟨(some 30), (some (24, true)), (.r (.b2s (.t 29))), false, []⟩,
     ⟨(some 31), (some (24, true)), (.p (.bin .eql (.t 27) (.t 30))), false, []⟩,
     ⟨(some 32), none, (.p (.pick (.t 24) (.t 31) (.c (.bool false)))), false, []⟩,
     ⟨(some 4), none, (.p (.mv (.t 32))), false, []⟩] (some ⟨[4], [], false⟩))
   .ret))
theorem Try.run26 {xs : List AV} {r : AV} (hl : xs.length ≤ 33) (h : aw Try.prog Try.c26 (Pv.Ends [4] r) (entry xs)) : Run Try.prog 26 xs r :=
  run_of (fun _ _ => drawOk Try.mixed) Try.func26 rfl rfl rfl (by kernel_rfl) (by kernel_rfl) hl h
/-! 27 paling/tag.Is : params [26], results [4], free 0, zeros [(.agg #[(.int .u64 (0)), (.int .u64 (0)), (.int .i64 (0)), (.slice none 0 0)])] -/
def Try.c27 : AC :=
 (.seq
  (.region 0 [⟨(some 1), none, (.e (.box 26 (.t 0)) none), false, []⟩,
    ⟨(some 2), none, (.p (.mv (.c (.bool false)))), false, []⟩] (some ⟨[1], [], false⟩))
  (.seq
   (.region 0 [⟨(some 3), none, (.p (.faddr 2 (.t 1))), false, []⟩,
     ⟨(some 4), none, (.r (.load 1 false (.t 3))), false, []⟩,
     ⟨(some 5), none, (.p (.bin .eql (.t 4) (.c (.int .i64 33024)))), false, []⟩,
     ⟨(some 2), none, (.p (.mv (.t 5))), false, []⟩] (some ⟨[2], [], false⟩))
   .ret))
theorem Try.run27 {xs : List AV} {r : AV} (hl : xs.length ≤ 6) (h : aw Try.prog Try.c27 (Pv.Ends [2] r) (entry xs)) : Run Try.prog 27 xs r :=
  run_of (fun _ _ => drawOk Try.mixed) Try.func27 rfl rfl rfl (by kernel_rfl) (by kernel_rfl) hl h
/-! 28 paling/tag.Add : params [26, 3, 3], results [26, 38], free 0, zeros [(.agg #[(.int .u64 (0)), (.int .u64 (0)), (.int .i64 (0)), (.slice none 0 0)]), (.int .i64 (0)), (.int .i64 (0))] -/
def Try.c28 : AC :=
 (.seq
  (.region 0 [⟨(some 3), none, (.e (.box 26 (.t 0)) none), false, []⟩,
    ⟨(some 6), none, (.e (.alloc 26 (.agg [(.int .u64 0), (.int .u64 0), (.int .i64 0), (.sl 0 [] true)])) none), false, []⟩,
    ⟨(some 7), none, (.p (.mv (.c (.int .i64 0)))), false, []⟩] (some ⟨[1, 2, 3, 6], [], false⟩))
  (.seq
   (.block 0
    (.seq
     (.region 0 [⟨(some 11), none, (.r (.load 4 true (.t 3))), false, []⟩,
       ⟨(some 12), none, (.call 27 [(.t 11)] false), false, []⟩,
       ⟨(some 13), none, (.p (.mv (.t 12))), false, []⟩,
       ⟨(some 14), (some (13, false)), (.p (.mv (.t 1))), false, []⟩,
       ⟨(some 15), (some (13, false)), (.p (.bin .lss (.t 14) (.c (.int .i64 0)))), false, []⟩,
       ⟨(some 16), none, (.p (.pick (.t 13) (.c (.bool true)) (.t 15))), false, []⟩,
       ⟨(some 17), none, (.p (.mv (.t 16))), false, []⟩,
       ⟨(some 18), (some (17, false)), (.p (.mv (.t 1))), false, []⟩,
       ⟨(some 19), (some (17, false)), (.p (.bin .gtr (.t 18) (.c (.int .i64 4094)))), false, []⟩,
       ⟨(some 20), none, (.p (.pick (.t 17) (.c (.bool true)) (.t 19))), false, []⟩,
       ⟨(some 21), none, (.p (.mv (.t 20))), false, []⟩,
       ⟨(some 22), (some (21, false)), (.p (.mv (.t 2))), false, []⟩,
       ⟨(some 23), (some (21, false)), (.p (.bin .lss (.t 22) (.c (.int .i64 0)))), false, []⟩,
       ⟨(some 24), none, (.p (.pick (.t 21) (.c (.bool true)) (.t 23))), false, []⟩,
       ⟨(some 25), none, (.p (.mv (.t 24))), false, []⟩,
       ⟨(some 26), (some (25, false)), (.p (.mv (.t 2))), false, []⟩,
       ⟨(some 27), (some (25, false)), (.p (.bin .gtr (.t 26) (.c (.int .i64 15)))), false, []⟩,
       ⟨(some 28), none, (.p (.pick (.t 25) (.c (.bool true)) (.t 27))), false, []⟩,
       ⟨(some 10), none, (.p (.mv (.t 28))), false, []⟩] (some ⟨[1, 2, 3, 6, 10], [], false⟩))
     (.cond (.t 10)
      (.seq
       (.region 0 [⟨(some 29), none, (.p (.build [(.int .u64 0), (.int .u64 0), (.int .i64 0), (.sl 0 [] true)] [])), false, []⟩,
         ⟨none, none, (.e (.store 4 (.t 6) (.t 29)) none), false, []⟩,
         ⟨(some 7), none, (.p (.mv (.c (.int .i64 15)))), false, []⟩] (some ⟨[6, 7], [], false⟩))
       .ret)
      (.seq
       (.region 0 [⟨(some 31), none, (.p (.faddr 2 (.t 3))), false, []⟩,
         ⟨(some 32), none, (.r (.load 1 false (.t 31))), false, []⟩,
         ⟨(some 33), none, (.p (.bin .lss (.t 32) (.c (.int .i64 0)))), false, []⟩,
         ⟨(some 34), none, (.p (.mv (.t 33))), false, []⟩,
         ⟨(some 35), (some (34, false)), (.p (.faddr 2 (.t 3))), false, []⟩,
         ⟨(some 36), (some (34, false)), (.r (.load 1 false (.t 35))), false, []⟩,
         ⟨(some 37), (some (34, false)), (.p (.bin .gtr (.t 36) (.c (.int .i64 65535)))), false, []⟩,
         ⟨(some 38), none, (.p (.pick (.t 34) (.c (.bool true)) (.t 37))), false, []⟩,
         ⟨(some 30), none, (.p (.mv (.t 38))), false, []⟩] (some ⟨[1, 2, 3, 6, 30], [], false⟩))
       (.cond (.t 30)
        (.seq
         (.region 0 [⟨(some 39), none, (.p (.build [(.int .u64 0), (.int .u64 0), (.int .i64 0), (.sl 0 [] true)] [])), false, []⟩,
           ⟨none, none, (.e (.store 4 (.t 6) (.t 39)) none), false, []⟩,
           ⟨(some 7), none, (.p (.mv (.c (.int .i64 11)))), false, []⟩] (some ⟨[6, 7], [], false⟩))
         .ret)
        (.seq
         (.region 0 [⟨(some 41), none, (.p (.faddr 3 (.t 3))), false, []⟩,
           ⟨(some 42), none, (.r (.load 1 false (.t 41))), false, []⟩,
           ⟨(some 43), none, (.p (.len (.t 42))), false, []⟩,
           ⟨(some 44), none, (.p (.bin .gtr (.t 43) (.c (.int .i64 1500)))), false, []⟩,
           ⟨(some 40), none, (.p (.mv (.t 44))), false, []⟩] (some ⟨[1, 2, 3, 6, 40], [], false⟩))
         (.cond (.t 40)
          (.seq
           (.region 0 [⟨(some 45), none, (.p (.build [(.int .u64 0), (.int .u64 0), (.int .i64 0), (.sl 0 [] true)] [])), false, []⟩,
             ⟨none, none, (.e (.store 4 (.t 6) (.t 45)) none), false, []⟩,
             ⟨(some 7), none, (.p (.mv (.c (.int .i64 14)))), false, []⟩] (some ⟨[6, 7], [], false⟩))
           .ret)
          .skip)))))))
   (.seq
    (.region 0 [⟨(some 46), none, (.p (.mv (.t 2))), false, []⟩,
      ⟨(some 47), none, (.p (.bin .shl (.t 46) (.c (.int .u64 12)))), false, []⟩,
      ⟨(some 48), none, (.p (.mv (.t 1))), false, []⟩,
      ⟨(some 49), none, (.p (.bin .or (.t 47) (.t 48))), false, []⟩,
      ⟨(some 8), none, (.p (.mv (.t 49))), false, []⟩] (some ⟨[3, 6, 8], [], false⟩))
    (.seq
     (.region 0 [⟨(some 50), none, (.p (.mv (.t 8))), false, []⟩,
       ⟨(some 51), none, (.p (.bin .shr (.t 50) (.c (.int .u64 8)))), false, []⟩,
       ⟨(some 52), none, (.p (.convI .u8 (.t 51))), false, []⟩,
       ⟨(some 53), none, (.p (.mv (.t 8))), false, []⟩,
       ⟨(some 54), none, (.p (.convI .u8 (.t 53))), false, []⟩,
       ⟨(some 55), none, (.p (.faddr 2 (.t 3))), false, []⟩,
       ⟨(some 56), none, (.r (.load 1 false (.t 55))), false, []⟩,
       ⟨(some 57), none, (.p (.bin .shr (.t 56) (.c (.int .u64 8)))), false, []⟩,
       ⟨(some 58), none, (.p (.convI .u8 (.t 57))), false, []⟩,
       ⟨(some 59), none, (.p (.faddr 2 (.t 3))), false, []⟩,
       ⟨(some 60), none, (.r (.load 1 false (.t 59))), false, []⟩,
       ⟨(some 61), none, (.p (.convI .u8 (.t 60))), false, []⟩,
       ⟨(some 62), none, (.e (.mks 5 1 (.int .u8 0) 4 [(0, (.t 52)), (1, (.t 54)), (2, (.t 58)), (3, (.t 61))]) none), false, []⟩,
       ⟨(some 9), none, (.p (.mv (.t 62))), false, []⟩] (some ⟨[3, 6, 9], [], false⟩))
     (.seq
      (.region 11 [⟨(some 63), none, (.p (.faddr 0 (.t 3))), false, [5]⟩,
        ⟨(some 64), none, (.r (.load 1 false (.t 63))), false, [5]⟩,
        ⟨(some 65), none, (.p (.faddr 1 (.t 3))), false, [5]⟩,
        ⟨(some 66), none, (.r (.load 1 false (.t 65))), false, [5]⟩,
        ⟨(some 67), none, (.p (.mv (.t 9))), false, [5]⟩,
        ⟨(some 68), none, (.p (.faddr 3 (.t 3))), false, [5]⟩,
        ⟨(some 69), none, (.r (.load 1 false (.t 68))), false, [5]⟩,
        ⟨(some 70), none, (.e (.append 5 1 (.t 67) (.t 69)) (some 7)), false, [5]⟩,
        ⟨(some 71), none, (.p (.build [(.int .u64 0), (.int .u64 0), (.int .i64 0), (.sl 0 [] true)] [(0, 1, (.t 64)), (1, 1, (.t 66)), (2, 1, (.c (.int .i64 33024))), (3, 1, (.t 70))])), false, [5]⟩,
        ⟨none, none, (.e (.store 4 (.t 6) (.t 71)) (some 9)), false, [5]⟩,
        ⟨(some 7), none, (.p (.mv (.c (.int .i64 0)))), false, [5]⟩] (some ⟨[6, 7], [], true⟩))
      .ret)))))
theorem Try.run28 {xs : List AV} {r : AV} (hl : xs.length ≤ 72) (h : aw Try.prog Try.c28 (Pv.EndsX (rvs [.c 6 4 true, .t 7]) r) (entry xs)) : Run Try.prog 28 xs r :=
  run_ofC (fun _ _ => drawOk Try.mixed) Try.func28 rfl rfl (by kernel_rfl) (by kernel_rfl) (by kernel_rfl) hl h
/-! 29 paling/palingref05.Add : params [26, 3, 3], results [26, 3], free 0, zeros [(.agg #[(.int .u64 (0)), (.int .u64 (0)), (.int .i64 (0)), (.slice none 0 0)]), (.int .i64 (0)), (.int .i64 (0))] -/
def Try.c29 : AC :=
 (.seq
  (.region 0 [⟨(some 3), none, (.e (.box 26 (.t 0)) none), false, []⟩,
    ⟨(some 6), none, (.e (.alloc 26 (.agg [(.int .u64 0), (.int .u64 0), (.int .i64 0), (.sl 0 [] true)])) none), false, []⟩,
    ⟨(some 7), none, (.p (.mv (.c (.int .i64 0)))), false, []⟩] (some ⟨[1, 2, 3, 6], [], false⟩))
  (.seq
   (.seq
    (.region 0 [⟨(some 10), none, (.p (.faddr 2 (.t 3))), false, []⟩,
      ⟨(some 11), none, (.r (.load 1 false (.t 10))), false, []⟩,
      ⟨(some 12), none, (.p (.bin .eql (.t 11) (.c (.int .i64 33024)))), false, []⟩,
      ⟨(some 13), none, (.p (.mv (.t 12))), false, []⟩,
      ⟨(some 14), (some (13, false)), (.p (.mv (.t 1))), false, []⟩,
      ⟨(some 15), (some (13, false)), (.p (.bin .lss (.t 14) (.c (.int .i64 0)))), false, []⟩,
      ⟨(some 16), none, (.p (.pick (.t 13) (.c (.bool true)) (.t 15))), false, []⟩,
      ⟨(some 17), none, (.p (.mv (.t 16))), false, []⟩,
      ⟨(some 18), (some (17, false)), (.p (.mv (.t 1))), false, []⟩,
      ⟨(some 19), (some (17, false)), (.p (.bin .geq (.t 18) (.c (.int .i64 4095)))), false, []⟩,
      ⟨(some 20), none, (.p (.pick (.t 17) (.c (.bool true)) (.t 19))), false, []⟩,
      ⟨(some 21), none, (.p (.mv (.t 20))), false, []⟩,
      ⟨(some 22), (some (21, false)), (.p (.mv (.t 2))), false, []⟩,
      ⟨(some 23), (some (21, false)), (.p (.bin .lss (.t 22) (.c (.int .i64 0)))), false, []⟩,
      ⟨(some 24), none, (.p (.pick (.t 21) (.c (.bool true)) (.t 23))), false, []⟩,
      ⟨(some 25), none, (.p (.mv (.t 24))), false, []⟩,
      ⟨(some 26), (some (25, false)), (.p (.mv (.t 2))), false, []⟩,
      ⟨(some 27), (some (25, false)), (.p (.bin .geq (.t 26) (.c (.int .i64 16)))), false, []⟩,
      ⟨(some 28), none, (.p (.pick (.t 25) (.c (.bool true)) (.t 27))), false, []⟩] (some ⟨[1, 2, 3, 6, 28], [], false⟩))
    (.cond (.t 28)
     (.seq
      (.region 0 [⟨(some 29), none, (.p (.build [(.int .u64 0), (.int .u64 0), (.int .i64 0), (.sl 0 [] true)] [])), false, []⟩,
        ⟨none, none, (.e (.store 4 (.t 6) (.t 29)) none), false, []⟩,
        ⟨(some 7), none, (.p (.mv (.c (.int .i64 15)))), false, []⟩] (some ⟨[6, 7], [], false⟩))
      .ret)
     .skip))
   (.seq
    (.seq
     (.region 0 [⟨(some 30), none, (.p (.faddr 2 (.t 3))), false, []⟩,
       ⟨(some 31), none, (.r (.load 1 false (.t 30))), false, []⟩,
       ⟨(some 32), none, (.p (.bin .lss (.t 31) (.c (.int .i64 0)))), false, []⟩,
       ⟨(some 33), none, (.p (.mv (.t 32))), false, []⟩,
       ⟨(some 34), (some (33, false)), (.p (.faddr 2 (.t 3))), false, []⟩,
       ⟨(some 35), (some (33, false)), (.r (.load 1 false (.t 34))), false, []⟩,
       ⟨(some 36), (some (33, false)), (.p (.bin .geq (.t 35) (.c (.int .i64 65536)))), false, []⟩,
       ⟨(some 37), none, (.p (.pick (.t 33) (.c (.bool true)) (.t 36))), false, []⟩] (some ⟨[1, 2, 3, 6, 37], [], false⟩))
     (.cond (.t 37)
      (.seq
       (.region 0 [⟨(some 38), none, (.p (.build [(.int .u64 0), (.int .u64 0), (.int .i64 0), (.sl 0 [] true)] [])), false, []⟩,
         ⟨none, none, (.e (.store 4 (.t 6) (.t 38)) none), false, []⟩,
         ⟨(some 7), none, (.p (.mv (.c (.int .i64 11)))), false, []⟩] (some ⟨[6, 7], [], false⟩))
       .ret)
      .skip))
    (.seq
     (.seq
      (.region 0 [⟨(some 39), none, (.p (.faddr 3 (.t 3))), false, []⟩,
        ⟨(some 40), none, (.r (.load 1 false (.t 39))), false, []⟩,
        ⟨(some 41), none, (.p (.len (.t 40))), false, []⟩,
        ⟨(some 42), none, (.p (.bin .gtr (.t 41) (.c (.int .i64 1500)))), false, []⟩] (some ⟨[1, 2, 3, 6, 42], [], false⟩))
      (.cond (.t 42)
       (.seq
        (.region 0 [⟨(some 43), none, (.p (.build [(.int .u64 0), (.int .u64 0), (.int .i64 0), (.sl 0 [] true)] [])), false, []⟩,
          ⟨none, none, (.e (.store 4 (.t 6) (.t 43)) none), false, []⟩,
          ⟨(some 7), none, (.p (.mv (.c (.int .i64 14)))), false, []⟩] (some ⟨[6, 7], [], false⟩))
        .ret)
       .skip))
     (.seq
      (.region 0 [⟨(some 44), none, (.p (.mv (.t 2))), false, []⟩,
        ⟨(some 45), none, (.p (.bin .mul (.t 44) (.c (.int .i64 4096)))), false, []⟩,
        ⟨(some 46), none, (.p (.mv (.t 1))), false, []⟩,
        ⟨(some 47), none, (.p (.bin .add (.t 45) (.t 46))), false, []⟩,
        ⟨(some 8), none, (.p (.mv (.t 47))), false, []⟩] (some ⟨[3, 6, 8], [], false⟩))
      (.seq
       (.region 0 [⟨(some 48), none, (.p (.mv (.t 8))), false, []⟩,
         ⟨(some 49), none, (.p (.bin .quo (.t 48) (.c (.int .i64 256)))), false, []⟩,
         ⟨(some 50), none, (.p (.convI .u8 (.t 49))), false, []⟩,
         ⟨(some 51), none, (.p (.mv (.t 8))), false, []⟩,
         ⟨(some 52), none, (.p (.bin .rem (.t 51) (.c (.int .i64 256)))), false, []⟩,
         ⟨(some 53), none, (.p (.convI .u8 (.t 52))), false, []⟩,
         ⟨(some 54), none, (.p (.faddr 2 (.t 3))), false, []⟩,
         ⟨(some 55), none, (.r (.load 1 false (.t 54))), false, []⟩,
         ⟨(some 56), none, (.p (.bin .quo (.t 55) (.c (.int .i64 256)))), false, []⟩,
         ⟨(some 57), none, (.p (.convI .u8 (.t 56))), false, []⟩,
         ⟨(some 58), none, (.p (.faddr 2 (.t 3))), false, []⟩,
         ⟨(some 59), none, (.r (.load 1 false (.t 58))), false, []⟩,
         ⟨(some 60), none, (.p (.bin .rem (.t 59) (.c (.int .i64 256)))), false, []⟩,
         ⟨(some 61), none, (.p (.convI .u8 (.t 60))), false, []⟩,
         ⟨(some 62), none, (.e (.mks 5 1 (.int .u8 0) 4 [(0, (.t 50)), (1, (.t 53)), (2, (.t 57)), (3, (.t 61))]) none), false, []⟩,
         ⟨(some 9), none, (.p (.mv (.t 62))), false, []⟩] (some ⟨[3, 6, 9], [], false⟩))
       (.seq
        (.region 11 [⟨(some 63), none, (.p (.faddr 0 (.t 3))), false, [5]⟩,
          ⟨(some 64), none, (.r (.load 1 false (.t 63))), false, [5]⟩,
          ⟨(some 65), none, (.p (.faddr 1 (.t 3))), false, [5]⟩,
          ⟨(some 66), none, (.r (.load 1 false (.t 65))), false, [5]⟩,
          ⟨(some 67), none, (.p (.mv (.t 9))), false, [5]⟩,
          ⟨(some 68), none, (.p (.faddr 3 (.t 3))), false, [5]⟩,
          ⟨(some 69), none, (.r (.load 1 false (.t 68))), false, [5]⟩,
          ⟨(some 70), none, (.e (.append 5 1 (.t 67) (.t 69)) (some 7)), false, [5]⟩,
          ⟨(some 71), none, (.p (.build [(.int .u64 0), (.int .u64 0), (.int .i64 0), (.sl 0 [] true)] [(0, 1, (.t 64)), (1, 1, (.t 66)), (2, 1, (.c (.int .i64 33024))), (3, 1, (.t 70))])), false, [5]⟩,
          ⟨none, none, (.e (.store 4 (.t 6) (.t 71)) (some 9)), false, [5]⟩,
          ⟨(some 7), none, (.p (.mv (.c (.int .i64 0)))), false, [5]⟩] (some ⟨[6, 7], [], true⟩))
        .ret)))))))
theorem Try.run29 {xs : List AV} {r : AV} (hl : xs.length ≤ 72) (h : aw Try.prog Try.c29 (Pv.EndsX (rvs [.c 6 4 true, .t 7]) r) (entry xs)) : Run Try.prog 29 xs r :=
  run_ofC (fun _ _ => drawOk Try.mixed) Try.func29 rfl rfl (by kernel_rfl) (by kernel_rfl) (by kernel_rfl) hl h
/-! 30 paling/ether.Same : params [26, 26], results [4], free 0, zeros [(.agg #[(.int .u64 (0)), (.int .u64 (0)), (.int .i64 (0)), (.slice none 0 0)]), (.agg #[(.int .u64 (0)), (.int .u64 (0)), (.int .i64 (0)), (.slice none 0 0)])] -/
def Try.c30 : AC :=
 (.seq
  (.region 0 [⟨(some 2), none, (.e (.box 26 (.t 0)) none), false, []⟩,
    ⟨(some 3), none, (.e (.box 26 (.t 1)) none), false, []⟩,
    ⟨(some 4), none, (.p (.mv (.c (.bool false)))), false, []⟩] (some ⟨[2, 3], [], false⟩))
  (.seq
   (.region 0 [⟨(some 5), none, (.p (.faddr 0 (.t 2))), false, []⟩,
     ⟨(some 6), none, (.r (.load 1 false (.t 5))), false, []⟩,
     ⟨(some 7), none, (.p (.faddr 0 (.t 3))), false, []⟩,
     ⟨(some 8), none, (.r (.load 1 false (.t 7))), false, []⟩,
     ⟨(some 9), none, (.p (.bin .eql (.t 6) (.t 8))), false, []⟩,
     ⟨(some 10), none, (.p (.mv (.t 9))), false, []⟩,
     ⟨(some 11), (some (10, true)), (.p (.faddr 1 (.t 2))), false, []⟩,
     ⟨(some 12), (some (10, true)), (.r (.load 1 false (.t 11))), false, []⟩,
     ⟨(some 13), (some (10, true)), (.p (.faddr 1 (.t 3))), false, []⟩,
     ⟨(some 14), (some (10, true)), (.r (.load 1 false (.t 13))), false, []⟩,
     ⟨(some 15), (some (10, true)), (.p (.bin .eql (.t 12) (.t 14))), false, []⟩,
     ⟨(some 16), none, (.p (.pick (.t 10) (.t 15) (.c (.bool false)))), false, []⟩,
     ⟨(some 17), none, (.p (.mv (.t 16))), false, []⟩,
     ⟨(some 18), (some (17, true)), (.p (.faddr 2 (.t 2))), false, []⟩,
     ⟨(some 19), (some (17, true)), (.r (.load 1 false (.t 18))), false, []⟩,
     ⟨(some 20), (some (17, true)), (.p (.faddr 2 (.t 3))), false, []⟩,
     ⟨(some 21), (some (17, true)), (.r (.load 1 false (.t 20))), false, []⟩,
     ⟨(some 22), (some (17, true)), (.p (.bin .eql (.t 19) (.t 21))), false, []⟩,
     ⟨(some 23), none, (.p (.pick (.t 17) (.t 22) (.c (.bool false)))), false, []⟩,
     ⟨(some 24), none, (.p (.mv (.t 23))), false, []⟩,
     ⟨(some 25), (some (24, true)), (.p (.faddr 3 (.t 2))), false, []⟩,
     ⟨(some 26), (some (24, true)), (.r (.load 1 false (.t 25))), false, []⟩,
     ⟨(some 27), (some (24, true)), (.r (.b2s (.t 26))), false, []⟩,
     ⟨(some 28), (some (24, true)), (.p (.faddr 3 (.t 3))), false, []⟩,
     ⟨(some 29), (some (24, true)), (.r (.load 1 false (.t 28))), false, []⟩,
     ⟨(some 30), (some (24, true)), (.r (.b2s (.t 29))), false, []⟩,
     ⟨(some 31), (some (24, true)), (.p (.bin .eql (.t 27) (.t 30))), false, []⟩,
     ⟨(some 32), none, (.p (.pick (.t 24) (.t 31) (.c (.bool false)))), false, []⟩,
     ⟨(some 4), none, (.p (.mv (.t 32))), false, []⟩] (some ⟨[4], [], false⟩))
   .ret))
theorem Try.run30 {xs : List AV} {r : AV} (hl : xs.length ≤ 33) (h : aw Try.prog Try.c30 (Pv.Ends [4] r) (entry xs)) : Run Try.prog 30 xs r :=
  run_of (fun _ _ => drawOk Try.mixed) Try.func30 rfl rfl rfl (by kernel_rfl) (by kernel_rfl) hl h
/-! 31 paling/queue.Same : params [22, 22], results [4], free 0, zeros [(.slice none 0 0), (.slice none 0 0)] -/
def Try.c31 : AC :=
 (.seq
  (.region 0 [⟨(some 4), none, (.p (.mv (.c (.bool false)))), false, []⟩] (some ⟨[0, 1], [], false⟩))
  (.seq
   (.region 0 [⟨(some 5), none, (.p (.mv (.t 0))), false, []⟩,
     ⟨(some 6), none, (.p (.mv (.t 1))), false, []⟩,
     ⟨(some 7), none, (.call 48 [(.t 5), (.t 6), (.c (.fn 49 []))] false), false, []⟩,
     ⟨(some 4), none, (.p (.mv (.t 7))), false, []⟩] (some ⟨[4], [], false⟩))
   .ret))
theorem Try.run31 {xs : List AV} {r : AV} (hl : xs.length ≤ 8) (h : aw Try.prog Try.c31 (Pv.Ends [4] r) (entry xs)) : Run Try.prog 31 xs r :=
  run_of (fun _ _ => drawOk Try.mixed) Try.func31 rfl rfl rfl (by kernel_rfl) (by kernel_rfl) hl h
/-! 32 paling/queue.Ahead : params [22, 3, 52], results [3], free 0, zeros [(.slice none 0 0), (.int .i64 (0)), (.slice none 0 0)] -/
def Try.c32b0 : AC :=
 (.seq
  (.seq
   (.region 0 [⟨(some 10), none, (.p (.mv (.t 8))), false, []⟩,
     ⟨(some 11), none, (.p (.mv (.t 1))), false, []⟩,
     ⟨(some 12), none, (.p (.mv (.t 0))), false, []⟩,
     ⟨(some 13), none, (.p (.len (.t 12))), false, []⟩,
     ⟨(some 14), none, (.p (.minmax false (.t 11) (.t 13))), false, []⟩,
     ⟨(some 15), none, (.p (.bin .lss (.t 10) (.t 14))), false, []⟩] (some ⟨[0, 1, 2, 7, 8, 15], [], false⟩))
   (.cond (.t 15)
    .skip
    (.exit 0)))
  (.seq
   (.block 1
    (.seq
     (.region 0 [⟨(some 18), none, (.p (.mv (.t 0))), false, []⟩,
       ⟨(some 19), none, (.p (.mv (.t 8))), false, []⟩,
       ⟨(some 20), none, (.p (.iaddr 7 (.t 18) (.t 19))), false, []⟩,
       ⟨(some 21), none, (.p (.faddr 2 (.t 20))), false, []⟩,
       ⟨(some 22), none, (.r (.load 1 false (.t 21))), false, []⟩,
       ⟨(some 9), none, (.p (.mv (.t 22))), false, []⟩] (some ⟨[0, 1, 2, 7, 8, 9], [], false⟩))
     (.seq
      (.region 0 [⟨(some 23), none, (.p (.mv (.t 9))), false, []⟩,
        ⟨(some 24), none, (.p (.bin .geq (.t 23) (.c (.int .i64 1)))), false, []⟩,
        ⟨(some 25), none, (.p (.mv (.t 24))), false, []⟩,
        ⟨(some 26), (some (25, true)), (.p (.mv (.t 9))), false, []⟩,
        ⟨(some 27), (some (25, true)), (.p (.mv (.t 2))), false, []⟩,
        ⟨(some 28), (some (25, true)), (.p (.len (.t 27))), false, []⟩,
        ⟨(some 29), (some (25, true)), (.p (.bin .leq (.t 26) (.t 28))), false, []⟩,
        ⟨(some 30), none, (.p (.pick (.t 25) (.t 29) (.c (.bool false)))), false, []⟩,
        ⟨(some 31), none, (.p (.mv (.t 30))), false, []⟩,
        ⟨(some 32), (some (31, true)), (.p (.mv (.t 2))), false, []⟩,
        ⟨(some 33), (some (31, true)), (.p (.mv (.t 9))), false, []⟩,
        ⟨(some 34), (some (31, true)), (.p (.bin .sub (.t 33) (.c (.int .i64 1)))), false, []⟩,
        ⟨(some 35), (some (31, true)), (.p (.iaddr 1 (.t 32) (.t 34))), false, []⟩,
        ⟨(some 36), (some (31, true)), (.r (.load 1 false (.t 35))), false, []⟩,
        ⟨(some 37), none, (.p (.pick (.t 31) (.t 36) (.c (.bool false)))), false, []⟩] (some ⟨[0, 1, 2, 7, 8, 37], [], false⟩))
      (.cond (.t 37)
       (.region 0 [⟨(some 38), none, (.p (.mv (.t 7))), false, []⟩,
         ⟨(some 39), none, (.p (.bin .add (.t 38) (.c (.int .i64 1)))), false, []⟩,
         ⟨(some 7), none, (.p (.mv (.t 39))), false, []⟩] (some ⟨[0, 1, 2, 7, 8], [], false⟩))
       .skip))))
   (.region 0 [⟨(some 16), none, (.p (.mv (.t 8))), false, []⟩,
     ⟨(some 17), none, (.p (.bin .add (.t 16) (.c (.int .i64 1)))), false, []⟩,
     ⟨(some 8), none, (.p (.mv (.t 17))), false, []⟩] (some ⟨[0, 1, 2, 7, 8], [], false⟩))))
def Try.c32 : AC :=
 (.seq
  (.region 0 [⟨(some 6), none, (.p (.mv (.c (.int .i64 0)))), false, []⟩] (some ⟨[0, 1, 2], [], false⟩))
  (.seq
   (.region 0 [⟨(some 7), none, (.p (.mv (.c (.int .i64 0)))), false, []⟩] (some ⟨[0, 1, 2, 7], [], false⟩))
   (.seq
    (.seq
     (.region 0 [⟨(some 8), none, (.p (.mv (.c (.int .i64 0)))), false, []⟩] (some ⟨[0, 1, 2, 7, 8], [], false⟩))
     (.block 0
      (.loop (some ⟨[0, 1, 2, 7, 8], [], true⟩) Try.c32b0)))
    (.seq
     (.region 0 [⟨(some 40), none, (.p (.mv (.t 7))), false, []⟩,
       ⟨(some 6), none, (.p (.mv (.t 40))), false, []⟩] (some ⟨[6], [], false⟩))
     .ret))))
theorem Try.run32 {xs : List AV} {r : AV} (hl : xs.length ≤ 41) (h : aw Try.prog Try.c32 (Pv.Ends [6] r) (entry xs)) : Run Try.prog 32 xs r :=
  run_of (fun _ _ => drawOk Try.mixed) Try.func32 rfl rfl rfl (by kernel_rfl) (by kernel_rfl) hl h
/-! 33 paling/palinglaw26.works : params [], results [4], free 0, zeros [] -/
def Try.c33b0 : AC :=
 (.seq
  (.region 0 [⟨(some 8), none, (.p (.bin .lss (.t 7) (.c (.int .i64 9)))), false, []⟩] (some ⟨[1, 7, 8], [], false⟩))
  (.seq
   (.cond (.t 8)
    .skip
    (.exit 0))
   (.seq
    (.block 1
     (.seq
      (.region 0 [⟨(some 9), none, (.p (.mv (.t 7))), false, []⟩,
        ⟨(some 2), none, (.p (.mv (.t 9))), false, []⟩] (some ⟨[1, 2, 7], [], false⟩))
      (.region 0 [⟨(some 10), none, (.p (.mv (.t 1))), false, []⟩,
        ⟨(some 11), none, (.p (.mv (.t 2))), false, []⟩,
        ⟨(some 12), none, (.p (.bin .add (.t 11) (.c (.int .i64 1)))), false, []⟩,
        ⟨(some 13), none, (.p (.convI .u64 (.t 12))), false, []⟩,
        ⟨(some 14), none, (.p (.mv (.t 2))), false, []⟩,
        ⟨(some 15), none, (.p (.mv (.t 2))), false, []⟩,
        ⟨(some 16), none, (.p (.bin .add (.t 15) (.c (.int .i64 1)))), false, []⟩,
        ⟨(some 17), none, (.call 36 [(.t 10), (.t 13), (.t 14), (.t 16)] false), false, []⟩,
        ⟨(some 1), none, (.p (.mv (.t 17))), false, []⟩] (some ⟨[1, 7], [], false⟩))))
    (.region 0 [⟨(some 18), none, (.p (.bin .add (.t 7) (.c (.int .i64 1)))), false, []⟩,
      ⟨(some 7), none, (.p (.mv (.t 18))), false, []⟩] (some ⟨[1, 7], [], false⟩)))))
def Try.c33 : AC :=
 (.seq
  (.region 0 [⟨(some 0), none, (.p (.mv (.c (.bool false)))), false, []⟩] (some ⟨[], [], false⟩))
  (.seq
   (.region 0 [⟨(some 1), none, (.p (.mv (.c (.sl 0 [] true)))), false, []⟩] (some ⟨[1], [], false⟩))
   (.seq
    (.seq
     (.region 0 [⟨(some 7), none, (.p (.mv (.c (.int .i64 0)))), false, []⟩] (some ⟨[1, 7], [], false⟩))
     (.block 0
      (.loop (some ⟨[1, 7], [], true⟩) Try.c33b0)))
    (.seq
     (.region 0 [⟨(some 20), none, (.p (.mv (.t 1))), false, []⟩,
       ⟨(some 21), none, (.call 37 [(.t 20), (.c (.int .u64 1))] false), false, []⟩,
       ⟨(some 19), none, (.p (.mv (.t 21))), false, []⟩,
       ⟨(some 22), none, (.p (.ext (.t 19) 0)), false, []⟩,
       ⟨(some 23), none, (.p (.ext (.t 19) 1)), false, []⟩,
       ⟨(some 3), none, (.p (.mv (.t 22))), false, []⟩,
       ⟨(some 4), none, (.p (.mv (.t 23))), false, []⟩] (some ⟨[1, 4], [], false⟩))
     (.seq
      (.region 0 [⟨(some 25), none, (.p (.mv (.t 1))), false, []⟩,
        ⟨(some 26), none, (.call 37 [(.t 25), (.c (.int .u64 9))] false), false, []⟩,
        ⟨(some 24), none, (.p (.mv (.t 26))), false, []⟩,
        ⟨(some 27), none, (.p (.ext (.t 24) 0)), false, []⟩,
        ⟨(some 28), none, (.p (.ext (.t 24) 1)), false, []⟩,
        ⟨(some 5), none, (.p (.mv (.t 27))), false, []⟩,
        ⟨(some 6), none, (.p (.mv (.t 28))), false, []⟩] (some ⟨[1, 4, 5, 6], [], false⟩))
      (.seq
       (.region 0 [⟨(some 29), none, (.p (.mv (.t 1))), false, []⟩,
         ⟨(some 30), none, (.p (.len (.t 29))), false, []⟩,
         ⟨(some 31), none, (.p (.bin .eql (.t 30) (.c (.int .i64 8)))), false, []⟩,
         ⟨(some 32), none, (.p (.mv (.t 31))), false, []⟩,
         ⟨(some 33), (some (32, true)), (.p (.mv (.t 4))), false, []⟩,
         ⟨(some 34), (some (32, true)), (.p (.un .not (.t 33))), false, []⟩,
         ⟨(some 35), none, (.p (.pick (.t 32) (.t 34) (.c (.bool false)))), false, []⟩,
         ⟨(some 36), none, (.p (.mv (.t 35))), false, []⟩,
         ⟨(some 37), (some (36, true)), (.p (.mv (.t 6))), false, []⟩,
         ⟨(some 38), none, (.p (.pick (.t 36) (.t 37) (.c (.bool false)))), false, []⟩,
         ⟨(some 39), none, (.p (.mv (.t 38))), false, []⟩,
         ⟨(some 40), (some (39, true)), (.p (.mv (.t 5))), false, []⟩,
         ⟨(some 41), (some (39, true)), (.p (.bin .eql (.t 40) (.c (.int .i64 8)))), false, []⟩,
         ⟨(some 42), none, (.p (.pick (.t 39) (.t 41) (.c (.bool false)))), false, []⟩,
         ⟨(some 43), none, (.p (.mv (.t 42))), false, []⟩,
         ⟨(some 44), (some (43, true)), (.p (.mv (.t 1))), false, []⟩,
         ⟨(some 45), (some (43, true)), (.call 34 [(.t 44)] false), false, []⟩,
         ⟨(some 46), none, (.p (.pick (.t 43) (.t 45) (.c (.bool false)))), false, []⟩,
         ⟨(some 47), none, (.p (.mv (.t 46))), false, []⟩,
         ⟨(some 48), (some (47, true)), (.e (.make 62 3 (.agg [(.int .u64 0), (.int .i64 0), (.int .i64 0)]) (.c (.int .i64 2)) (.c (.int .i64 2))) none), false, []⟩,
         ⟨(some 49), (some (47, true)), (.call 34 [(.t 48)] false), false, []⟩,
         ⟨(some 50), (some (47, true)), (.p (.un .not (.t 49))), false, []⟩,
         ⟨(some 51), none, (.p (.pick (.t 47) (.t 50) (.c (.bool false)))), false, []⟩,
         ⟨(some 0), none, (.p (.mv (.t 51))), false, []⟩] (some ⟨[0], [], false⟩))
       .ret))))))
theorem Try.run33 {xs : List AV} {r : AV} (hl : xs.length ≤ 52) (h : aw Try.prog Try.c33 (Pv.Ends [0] r) (entry xs)) : Run Try.prog 33 xs r :=
  run_of (fun _ _ => drawOk Try.mixed) Try.func33 rfl rfl rfl (by kernel_rfl) (by kernel_rfl) hl h
/-! 34 paling/table.Right : params [55], results [4], free 0, zeros [(.slice none 0 0)] -/
def Try.c34b0 : AC :=
 (.seq
  (.region 0 [⟨(some 11), none, (.p (.bin .lss (.t 10) (.t 9))), false, []⟩] (some ⟨[0, 8, 9, 10, 11], [], false⟩))
  (.seq
   (.cond (.t 11)
    .skip
    (.exit 0))
   (.seq
    (.block 1
     (.seq
      (.region 0 [⟨(some 12), none, (.p (.mv (.t 10))), false, []⟩,
        ⟨(some 13), none, (.p (.iaddr 3 (.t 8) (.t 10))), false, []⟩,
        ⟨(some 14), none, (.r (.load 3 true (.t 13))), false, []⟩,
        ⟨(some 4), none, (.e (.alloc 62 (.agg [(.int .u64 0), (.int .i64 0), (.int .i64 0)])) none), false, []⟩,
        ⟨(some 3), none, (.p (.mv (.t 12))), false, []⟩,
        ⟨none, none, (.e (.store 3 (.t 4) (.t 14)) none), false, []⟩] (some ⟨[0, 3, 4, 8, 9, 10], [], false⟩))
      (.seq
       (.region 0 [⟨(some 15), none, (.p (.faddr 0 (.t 4))), false, []⟩,
         ⟨(some 16), none, (.r (.load 1 false (.t 15))), false, []⟩,
         ⟨(some 17), none, (.call 50 [(.t 16)] false), false, []⟩,
         ⟨(some 18), none, (.p (.un .not (.t 17))), false, []⟩,
         ⟨(some 19), none, (.p (.mv (.t 18))), false, []⟩,
         ⟨(some 20), (some (19, false)), (.p (.faddr 2 (.t 4))), false, []⟩,
         ⟨(some 21), (some (19, false)), (.r (.load 1 false (.t 20))), false, []⟩,
         ⟨(some 22), (some (19, false)), (.call 51 [(.t 21)] false), false, []⟩,
         ⟨(some 23), (some (19, false)), (.p (.un .not (.t 22))), false, []⟩,
         ⟨(some 24), none, (.p (.pick (.t 19) (.c (.bool true)) (.t 23))), false, []⟩,
         ⟨(some 25), none, (.p (.mv (.t 24))), false, []⟩,
         ⟨(some 26), (some (25, false)), (.p (.mv (.t 0))), false, []⟩,
         ⟨(some 27), (some (25, false)), (.p (.faddr 0 (.t 4))), false, []⟩,
         ⟨(some 28), (some (25, false)), (.r (.load 1 false (.t 27))), false, []⟩,
         ⟨(some 29), (some (25, false)), (.call 52 [(.t 26), (.t 28)] false), false, []⟩,
         ⟨(some 30), (some (25, false)), (.p (.mv (.t 3))), false, []⟩,
         ⟨(some 31), (some (25, false)), (.p (.bin .neq (.t 29) (.t 30))), false, []⟩,
         ⟨(some 32), none, (.p (.pick (.t 25) (.c (.bool true)) (.t 31))), false, []⟩] (some ⟨[0, 8, 9, 10, 32], [], false⟩))
       (.cond (.t 32)
        (.seq
         (.region 0 [⟨(some 2), none, (.p (.mv (.c (.bool false)))), false, []⟩] (some ⟨[2], [], false⟩))
         .ret)
        .skip))))
    (.region 0 [⟨(some 33), none, (.p (.bin .add (.t 10) (.c (.int .i64 1)))), false, []⟩,
      ⟨(some 10), none, (.p (.mv (.t 33))), false, []⟩] (some ⟨[0, 8, 9, 10], [], false⟩)))))
def Try.c34 : AC :=
 (.seq
  (.region 0 [⟨(some 2), none, (.p (.mv (.c (.bool false)))), false, []⟩] (some ⟨[0], [], false⟩))
  (.seq
   (.seq
    (.region 0 [⟨(some 5), none, (.p (.mv (.t 0))), false, []⟩,
      ⟨(some 6), none, (.p (.len (.t 5))), false, []⟩,
      ⟨(some 7), none, (.p (.bin .gtr (.t 6) (.c (.int .i64 8)))), false, []⟩] (some ⟨[0, 7], [], false⟩))
    (.cond (.t 7)
     (.seq
      (.region 0 [⟨(some 2), none, (.p (.mv (.c (.bool false)))), false, []⟩] (some ⟨[2], [], false⟩))
      .ret)
     .skip))
   (.seq
    (.seq
     (.region 0 [⟨(some 8), none, (.p (.mv (.t 0))), false, []⟩,
       ⟨(some 9), none, (.p (.len (.t 8))), false, []⟩,
       ⟨(some 10), none, (.p (.mv (.c (.int .i64 0)))), false, []⟩] (some ⟨[0, 8, 9, 10], [], false⟩))
     (.block 0
      (.loop (some ⟨[0, 8, 9, 10], [], true⟩) Try.c34b0)))
    (.seq
     (.region 0 [⟨(some 2), none, (.p (.mv (.c (.bool true)))), false, []⟩] (some ⟨[2], [], false⟩))
     .ret))))
theorem Try.run34 {xs : List AV} {r : AV} (hl : xs.length ≤ 34) (h : aw Try.prog Try.c34 (Pv.Ends [2] r) (entry xs)) : Run Try.prog 34 xs r :=
  run_of (fun _ _ => drawOk Try.mixed) Try.func34 rfl rfl rfl (by kernel_rfl) (by kernel_rfl) hl h
/-! 35 paling/mac.Group : params [23], results [4], free 0, zeros [(.int .u64 (0))] -/
def Try.c35 : AC :=
 (.seq
  (.region 0 [⟨(some 2), none, (.p (.mv (.c (.bool false)))), false, []⟩] (some ⟨[0], [], false⟩))
  (.seq
   (.region 0 [⟨(some 3), none, (.p (.mv (.t 0))), false, []⟩,
     ⟨(some 4), none, (.p (.bin .and (.t 3) (.c (.int .u64 1099511627776)))), false, []⟩,
     ⟨(some 5), none, (.p (.bin .neq (.t 4) (.c (.int .u64 0)))), false, []⟩,
     ⟨(some 2), none, (.p (.mv (.t 5))), false, []⟩] (some ⟨[2], [], false⟩))
   .ret))
theorem Try.run35 {xs : List AV} {r : AV} (hl : xs.length ≤ 6) (h : aw Try.prog Try.c35 (Pv.Ends [2] r) (entry xs)) : Run Try.prog 35 xs r :=
  run_of (fun _ _ => drawOk Try.mixed) Try.func35 rfl rfl rfl (by kernel_rfl) (by kernel_rfl) hl h
/-! 36 paling/table.Learn : params [55, 23, 3, 3], results [55], free 0, zeros [(.slice none 0 0), (.int .u64 (0)), (.int .i64 (0)), (.int .i64 (0))] -/
def Try.c36 : AC :=
 (.seq
  (.region 0 [⟨(some 8), none, (.p (.mv (.c (.sl 0 [] true)))), false, []⟩] (some ⟨[0, 1, 2, 3], [], false⟩))
  (.seq
   (.region 0 [⟨(some 12), none, (.p (.mv (.t 0))), false, []⟩,
     ⟨(some 13), none, (.call 53 [(.t 12)] false), false, []⟩,
     ⟨(some 9), none, (.p (.mv (.t 13))), false, []⟩] (some ⟨[0, 1, 2, 3, 9], [], false⟩))
   (.seq
    (.seq
     (.region 0 [⟨(some 14), none, (.p (.mv (.t 0))), false, []⟩,
       ⟨(some 15), none, (.call 34 [(.t 14)] false), false, []⟩,
       ⟨(some 16), none, (.p (.un .not (.t 15))), false, []⟩,
       ⟨(some 17), none, (.p (.mv (.t 16))), false, []⟩,
       ⟨(some 18), (some (17, false)), (.p (.mv (.t 1))), false, []⟩,
       ⟨(some 19), (some (17, false)), (.call 50 [(.t 18)] false), false, []⟩,
       ⟨(some 20), (some (17, false)), (.p (.un .not (.t 19))), false, []⟩,
       ⟨(some 21), none, (.p (.pick (.t 17) (.c (.bool true)) (.t 20))), false, []⟩,
       ⟨(some 22), none, (.p (.mv (.t 21))), false, []⟩,
       ⟨(some 23), (some (22, false)), (.p (.mv (.t 3))), false, []⟩,
       ⟨(some 24), (some (22, false)), (.call 51 [(.t 23)] false), false, []⟩,
       ⟨(some 25), (some (22, false)), (.p (.un .not (.t 24))), false, []⟩,
       ⟨(some 26), none, (.p (.pick (.t 22) (.c (.bool true)) (.t 25))), false, []⟩] (some ⟨[0, 1, 2, 3, 9, 26], [], false⟩))
     (.cond (.t 26)
      (.seq
       (.region 0 [⟨(some 27), none, (.p (.mv (.t 9))), false, []⟩,
         ⟨(some 8), none, (.p (.mv (.t 27))), false, []⟩] (some ⟨[8], [], false⟩))
       .ret)
      .skip))
    (.seq
     (.seq
      (.region 0 [⟨(some 28), none, (.p (.mv (.t 0))), false, []⟩,
        ⟨(some 29), none, (.p (.mv (.t 1))), false, []⟩,
        ⟨(some 30), none, (.call 52 [(.t 28), (.t 29)] false), false, []⟩,
        ⟨(some 10), none, (.p (.mv (.t 30))), false, []⟩] (some ⟨[1, 2, 3, 9, 10], [], false⟩))
      (.seq
       (.region 0 [⟨(some 31), none, (.p (.mv (.t 10))), false, []⟩,
         ⟨(some 32), none, (.p (.bin .geq (.t 31) (.c (.int .i64 0)))), false, []⟩] (some ⟨[1, 2, 3, 9, 10, 32], [], false⟩))
       (.cond (.t 32)
        (.seq
         (.region 0 [⟨(some 33), none, (.p (.mv (.t 9))), false, []⟩,
           ⟨(some 34), none, (.p (.mv (.t 10))), false, []⟩,
           ⟨(some 35), none, (.p (.mv (.t 9))), false, []⟩,
           ⟨(some 36), none, (.p (.mv (.t 10))), false, []⟩,
           ⟨(some 37), none, (.p (.mv (.t 2))), false, []⟩,
           ⟨(some 38), none, (.p (.mv (.t 3))), false, []⟩,
           ⟨(some 39), none, (.p (.iaddr 3 (.t 33) (.t 34))), false, []⟩,
           ⟨(some 40), none, (.p (.faddr 1 (.t 39))), false, []⟩,
           ⟨none, none, (.e (.store 1 (.t 40) (.t 37)) none), false, []⟩,
           ⟨(some 41), none, (.p (.iaddr 3 (.t 35) (.t 36))), false, []⟩,
           ⟨(some 42), none, (.p (.faddr 2 (.t 41))), false, []⟩,
           ⟨none, none, (.e (.store 1 (.t 42) (.t 38)) none), false, []⟩] (some ⟨[9], [], false⟩))
         (.seq
          (.region 0 [⟨(some 43), none, (.p (.mv (.t 9))), false, []⟩,
            ⟨(some 8), none, (.p (.mv (.t 43))), false, []⟩] (some ⟨[8], [], false⟩))
          .ret))
        .skip)))
     (.seq
      (.seq
       (.region 0 [⟨(some 44), none, (.p (.mv (.t 9))), false, []⟩,
         ⟨(some 45), none, (.p (.len (.t 44))), false, []⟩,
         ⟨(some 46), none, (.p (.bin .eql (.t 45) (.c (.int .i64 8)))), false, []⟩] (some ⟨[1, 2, 3, 9, 46], [], false⟩))
       (.cond (.t 46)
        (.seq
         (.region 0 [⟨(some 47), none, (.p (.mv (.t 9))), false, []⟩,
           ⟨(some 48), none, (.call 54 [(.t 47)] false), false, []⟩,
           ⟨(some 11), none, (.p (.mv (.t 48))), false, []⟩] (some ⟨[1, 2, 3, 9, 11], [], false⟩))
         (.region 0 [⟨(some 49), none, (.p (.mv (.t 9))), false, []⟩,
           ⟨(some 50), none, (.p (.mv (.t 11))), false, []⟩,
           ⟨(some 51), none, (.p (.mv (.t 11))), false, []⟩,
           ⟨(some 52), none, (.p (.bin .add (.t 51) (.c (.int .i64 1)))), false, []⟩,
           ⟨(some 53), none, (.call 55 [(.t 49), (.t 50), (.t 52)] false), false, []⟩,
           ⟨(some 9), none, (.p (.mv (.t 53))), false, []⟩] (some ⟨[1, 2, 3, 9], [], false⟩)))
        .skip))
      (.seq
       (.region 0 [⟨(some 54), none, (.p (.mv (.t 9))), false, []⟩,
         ⟨(some 55), none, (.p (.mv (.t 1))), false, []⟩,
         ⟨(some 56), none, (.p (.mv (.t 2))), false, []⟩,
         ⟨(some 57), none, (.p (.mv (.t 3))), false, []⟩,
         ⟨(some 58), none, (.p (.build [(.int .u64 0), (.int .i64 0), (.int .i64 0)] [(0, 1, (.t 55)), (1, 1, (.t 56)), (2, 1, (.t 57))])), false, []⟩,
         ⟨(some 59), none, (.e (.mks 62 3 (.agg [(.int .u64 0), (.int .i64 0), (.int .i64 0)]) 1 [(0, (.t 58))]) none), false, []⟩,
         ⟨(some 60), none, (.e (.append 62 3 (.t 54) (.t 59)) none), false, []⟩,
         ⟨(some 8), none, (.p (.mv (.t 60))), false, []⟩] (some ⟨[8], [], false⟩))
       .ret))))))
theorem Try.run36 {xs : List AV} {r : AV} (hl : xs.length ≤ 61) (h : aw Try.prog Try.c36 (Pv.Ends [8] r) (entry xs)) : Run Try.prog 36 xs r :=
  run_of (fun _ _ => drawOk Try.mixed) Try.func36 rfl rfl rfl (by kernel_rfl) (by kernel_rfl) hl h
/-! 37 paling/table.Find : params [55, 23], results [3, 4], free 0, zeros [(.slice none 0 0), (.int .u64 (0))] -/
def Try.c37 : AC :=
 (.seq
  (.region 0 [⟨(some 4), none, (.p (.mv (.c (.int .i64 0)))), false, []⟩,
    ⟨(some 5), none, (.p (.mv (.c (.bool false)))), false, []⟩] (some ⟨[0, 1], [], false⟩))
  (.seq
   (.region 0 [⟨(some 7), none, (.p (.mv (.t 0))), false, []⟩,
     ⟨(some 8), none, (.p (.mv (.t 1))), false, []⟩,
     ⟨(some 9), none, (.call 52 [(.t 7), (.t 8)] false), false, []⟩,
     ⟨(some 6), none, (.p (.mv (.t 9))), false, []⟩] (some ⟨[0, 6], [], false⟩))
   (.seq
    (.seq
     (.region 0 [⟨(some 10), none, (.p (.mv (.t 6))), false, []⟩,
       ⟨(some 11), none, (.p (.bin .lss (.t 10) (.c (.int .i64 0)))), false, []⟩] (some ⟨[0, 6, 11], [], false⟩))
     (.cond (.t 11)
      (.seq
       (.region 0 [⟨(some 4), none, (.p (.mv (.c (.int .i64 0)))), false, []⟩,
         ⟨(some 5), none, (.p (.mv (.c (.bool false)))), false, []⟩] (some ⟨[4, 5], [], false⟩))
       .ret)
      .skip))
    (.seq
     (.region 0 [⟨(some 12), none, (.p (.mv (.t 0))), false, []⟩,
       ⟨(some 13), none, (.p (.mv (.t 6))), false, []⟩,
       ⟨(some 14), none, (.p (.iaddr 3 (.t 12) (.t 13))), false, []⟩,
       ⟨(some 15), none, (.p (.faddr 1 (.t 14))), false, []⟩,
       ⟨(some 16), none, (.r (.load 1 false (.t 15))), false, []⟩,
       ⟨(some 4), none, (.p (.mv (.t 16))), false, []⟩,
       ⟨(some 5), none, (.p (.mv (.c (.bool true)))), false, []⟩] (some ⟨[4, 5], [], false⟩))
     .ret))))
theorem Try.run37 {xs : List AV} {r : AV} (hl : xs.length ≤ 17) (h : aw Try.prog Try.c37 (Pv.Ends [4, 5] r) (entry xs)) : Run Try.prog 37 xs r :=
  run_of (fun _ _ => drawOk Try.mixed) Try.func37 rfl rfl rfl (by kernel_rfl) (by kernel_rfl) hl h
/-! 38 paling/palingref26.Find : params [55, 23], results [3, 4], free 0, zeros [(.slice none 0 0), (.int .u64 (0))] -/
def Try.c38b0 : AC :=
 (.seq
  (.seq
   (.region 0 [⟨(some 7), none, (.p (.mv (.t 6))), false, []⟩,
     ⟨(some 8), none, (.p (.mv (.t 0))), false, []⟩,
     ⟨(some 9), none, (.p (.len (.t 8))), false, []⟩,
     ⟨(some 10), none, (.p (.bin .lss (.t 7) (.t 9))), false, []⟩] (some ⟨[0, 1, 6, 10], [], false⟩))
   (.cond (.t 10)
    .skip
    (.exit 0)))
  (.seq
   (.block 1
    (.seq
     (.region 0 [⟨(some 13), none, (.p (.mv (.t 0))), false, []⟩,
       ⟨(some 14), none, (.p (.mv (.t 6))), false, []⟩,
       ⟨(some 15), none, (.p (.iaddr 3 (.t 13) (.t 14))), false, []⟩,
       ⟨(some 16), none, (.p (.faddr 0 (.t 15))), false, []⟩,
       ⟨(some 17), none, (.r (.load 1 false (.t 16))), false, []⟩,
       ⟨(some 18), none, (.p (.mv (.t 1))), false, []⟩,
       ⟨(some 19), none, (.p (.bin .eql (.t 17) (.t 18))), false, []⟩] (some ⟨[0, 1, 6, 19], [], false⟩))
     (.cond (.t 19)
      (.seq
       (.region 0 [⟨(some 20), none, (.p (.mv (.t 0))), false, []⟩,
         ⟨(some 21), none, (.p (.mv (.t 6))), false, []⟩,
         ⟨(some 22), none, (.p (.iaddr 3 (.t 20) (.t 21))), false, []⟩,
         ⟨(some 23), none, (.p (.faddr 1 (.t 22))), false, []⟩,
         ⟨(some 24), none, (.r (.load 1 false (.t 23))), false, []⟩,
         ⟨(some 4), none, (.p (.mv (.t 24))), false, []⟩,
         ⟨(some 5), none, (.p (.mv (.c (.bool true)))), false, []⟩] (some ⟨[4, 5], [], false⟩))
       .ret)
      .skip)))
   (.region 0 [⟨(some 11), none, (.p (.mv (.t 6))), false, []⟩,
     ⟨(some 12), none, (.p (.bin .add (.t 11) (.c (.int .i64 1)))), false, []⟩,
     ⟨(some 6), none, (.p (.mv (.t 12))), false, []⟩] (some ⟨[0, 1, 6], [], false⟩))))
def Try.c38 : AC :=
 (.seq
  (.region 0 [⟨(some 4), none, (.p (.mv (.c (.int .i64 0)))), false, []⟩,
    ⟨(some 5), none, (.p (.mv (.c (.bool false)))), false, []⟩] (some ⟨[0, 1], [], false⟩))
  (.seq
   (.seq
    (.region 0 [⟨(some 6), none, (.p (.mv (.c (.int .i64 0)))), false, []⟩] (some ⟨[0, 1, 6], [], false⟩))
    (.block 0
     (.loop (some ⟨[0, 1, 6], [], true⟩) Try.c38b0)))
   (.seq
    (.region 0 [⟨(some 4), none, (.p (.mv (.c (.int .i64 0)))), false, []⟩,
      ⟨(some 5), none, (.p (.mv (.c (.bool false)))), false, []⟩] (some ⟨[4, 5], [], false⟩))
    .ret)))
theorem Try.run38 {xs : List AV} {r : AV} (hl : xs.length ≤ 25) (h : aw Try.prog Try.c38 (Pv.Ends [4, 5] r) (entry xs)) : Run Try.prog 38 xs r :=
  run_of (fun _ _ => drawOk Try.mixed) Try.func38 rfl rfl rfl (by kernel_rfl) (by kernel_rfl) hl h
/-! 39 paling/palingref26.Right : params [55], results [4], free 0, zeros [(.slice none 0 0)] -/
def Try.c39b0 : AC :=
 (.seq
  (.seq
   (.region 0 [⟨(some 30), none, (.p (.mv (.t 4))), false, []⟩,
     ⟨(some 31), none, (.p (.mv (.t 3))), false, []⟩,
     ⟨(some 32), none, (.p (.bin .lss (.t 30) (.t 31))), false, []⟩] (some ⟨[0, 3, 4, 32], [], false⟩))
   (.cond (.t 32)
    .skip
    (.exit 2)))
  (.seq
   (.block 3
    (.seq
     (.region 11 [⟨(some 35), none, (.p (.mv (.t 0))), false, []⟩,
       ⟨(some 36), none, (.p (.mv (.t 4))), false, []⟩,
       ⟨(some 37), none, (.p (.iaddr 3 (.t 35) (.t 36))), false, []⟩,
       ⟨(some 38), none, (.p (.faddr 0 (.t 37))), false, []⟩,
       ⟨(some 39), none, (.r (.load 1 false (.t 38))), false, []⟩,
       ⟨(some 40), none, (.p (.mv (.t 0))), false, []⟩,
       ⟨(some 41), none, (.p (.mv (.t 3))), false, []⟩,
       ⟨(some 42), none, (.p (.iaddr 3 (.t 40) (.t 41))), false, []⟩,
       ⟨(some 43), none, (.p (.faddr 0 (.t 42))), false, []⟩,
       ⟨(some 44), none, (.r (.load 1 false (.t 43))), false, []⟩,
       ⟨(some 45), none, (.p (.bin .eql (.t 39) (.t 44))), false, []⟩] (some ⟨[0, 3, 4, 45], [], true⟩))
     (.cond (.t 45)
      (.seq
       (.region 0 [⟨(some 2), none, (.p (.mv (.c (.bool false)))), false, []⟩] (some ⟨[2], [], false⟩))
       .ret)
      .skip)))
   (.region 0 [⟨(some 33), none, (.p (.mv (.t 4))), false, []⟩,
     ⟨(some 34), none, (.p (.bin .add (.t 33) (.c (.int .i64 1)))), false, []⟩,
     ⟨(some 4), none, (.p (.mv (.t 34))), false, []⟩] (some ⟨[0, 3, 4], [], false⟩))))
def Try.c39b1 : AC :=
 (.seq
  (.seq
   (.region 0 [⟨(some 8), none, (.p (.mv (.t 3))), false, []⟩,
     ⟨(some 9), none, (.p (.mv (.t 0))), false, []⟩,
     ⟨(some 10), none, (.p (.len (.t 9))), false, []⟩,
     ⟨(some 11), none, (.p (.bin .lss (.t 8) (.t 10))), false, []⟩] (some ⟨[0, 3, 11], [], false⟩))
   (.cond (.t 11)
    .skip
    (.exit 0)))
  (.seq
   (.block 1
    (.seq
     (.seq
      (.region 0 [⟨(some 14), none, (.p (.mv (.t 0))), false, []⟩,
        ⟨(some 15), none, (.p (.mv (.t 3))), false, []⟩,
        ⟨(some 16), none, (.p (.iaddr 3 (.t 14) (.t 15))), false, []⟩,
        ⟨(some 17), none, (.p (.faddr 0 (.t 16))), false, []⟩,
        ⟨(some 18), none, (.r (.load 1 false (.t 17))), false, []⟩,
        ⟨(some 19), none, (.call 56 [(.t 18)] false), false, []⟩,
        ⟨(some 20), none, (.p (.un .not (.t 19))), false, []⟩,
        ⟨(some 21), none, (.p (.mv (.t 20))), false, []⟩,
        ⟨(some 22), (some (21, false)), (.p (.mv (.t 0))), false, []⟩,
        ⟨(some 23), (some (21, false)), (.p (.mv (.t 3))), false, []⟩,
        ⟨(some 24), (some (21, false)), (.p (.iaddr 3 (.t 22) (.t 23))), false, []⟩,
        ⟨(some 25), (some (21, false)), (.p (.faddr 2 (.t 24))), false, []⟩,
        ⟨(some 26), (some (21, false)), (.r (.load 1 false (.t 25))), false, []⟩,
        ⟨(some 27), (some (21, false)), (.call 57 [(.t 26)] false), false, []⟩,
        ⟨(some 28), (some (21, false)), (.p (.un .not (.t 27))), false, []⟩,
        ⟨(some 29), none, (.p (.pick (.t 21) (.c (.bool true)) (.t 28))), false, []⟩] (some ⟨[0, 3, 29], [], false⟩))
      (.cond (.t 29)
       (.seq
        (.region 0 [⟨(some 2), none, (.p (.mv (.c (.bool false)))), false, []⟩] (some ⟨[2], [], false⟩))
        .ret)
       .skip))
     (.seq
      (.region 0 [⟨(some 4), none, (.p (.mv (.c (.int .i64 0)))), false, []⟩] (some ⟨[0, 3, 4], [], false⟩))
      (.block 2
       (.loop (some ⟨[0, 3, 4], [], true⟩) Try.c39b0)))))
   (.region 0 [⟨(some 12), none, (.p (.mv (.t 3))), false, []⟩,
     ⟨(some 13), none, (.p (.bin .add (.t 12) (.c (.int .i64 1)))), false, []⟩,
     ⟨(some 3), none, (.p (.mv (.t 13))), false, []⟩] (some ⟨[0, 3], [], false⟩))))
def Try.c39 : AC :=
 (.seq
  (.region 0 [⟨(some 2), none, (.p (.mv (.c (.bool false)))), false, []⟩] (some ⟨[0], [], false⟩))
  (.seq
   (.seq
    (.region 0 [⟨(some 5), none, (.p (.mv (.t 0))), false, []⟩,
      ⟨(some 6), none, (.p (.len (.t 5))), false, []⟩,
      ⟨(some 7), none, (.p (.bin .gtr (.t 6) (.c (.int .i64 8)))), false, []⟩] (some ⟨[0, 7], [], false⟩))
    (.cond (.t 7)
     (.seq
      (.region 0 [⟨(some 2), none, (.p (.mv (.c (.bool false)))), false, []⟩] (some ⟨[2], [], false⟩))
      .ret)
     .skip))
   (.seq
    (.seq
     (.region 0 [⟨(some 3), none, (.p (.mv (.c (.int .i64 0)))), false, []⟩] (some ⟨[0, 3], [], false⟩))
     (.block 0
      (.loop (some ⟨[0, 3], [], true⟩) Try.c39b1)))
    (.seq
     (.region 0 [⟨(some 2), none, (.p (.mv (.c (.bool true)))), false, []⟩] (some ⟨[2], [], false⟩))
     .ret))))
theorem Try.run39 {xs : List AV} {r : AV} (hl : xs.length ≤ 46) (h : aw Try.prog Try.c39 (Pv.Ends [2] r) (entry xs)) : Run Try.prog 39 xs r :=
  run_of (fun _ _ => drawOk Try.mixed) Try.func39 rfl rfl rfl (by kernel_rfl) (by kernel_rfl) hl h
/-! 40 paling/table.Same : params [55, 55], results [4], free 0, zeros [(.slice none 0 0), (.slice none 0 0)] -/
def Try.c40 : AC :=
 (.seq
  (.region 0 [⟨(some 4), none, (.p (.mv (.c (.bool false)))), false, []⟩] (some ⟨[0, 1], [], false⟩))
  (.seq
   (.region 0 [⟨(some 5), none, (.p (.mv (.t 0))), false, []⟩,
     ⟨(some 6), none, (.p (.mv (.t 1))), false, []⟩,
     ⟨(some 7), none, (.call 58 [(.t 5), (.t 6)] false), false, []⟩,
     ⟨(some 4), none, (.p (.mv (.t 7))), false, []⟩] (some ⟨[4], [], false⟩))
   .ret))
theorem Try.run40 {xs : List AV} {r : AV} (hl : xs.length ≤ 8) (h : aw Try.prog Try.c40 (Pv.Ends [4] r) (entry xs)) : Run Try.prog 40 xs r :=
  run_of (fun _ _ => drawOk Try.mixed) Try.func40 rfl rfl rfl (by kernel_rfl) (by kernel_rfl) hl h
/-! 41 paling/palingref26.Same : params [55, 55], results [4], free 0, zeros [(.slice none 0 0), (.slice none 0 0)] -/
def Try.c41b0 : AC :=
 (.seq
  (.seq
   (.region 0 [⟨(some 11), none, (.p (.mv (.t 5))), false, []⟩,
     ⟨(some 12), none, (.p (.mv (.t 0))), false, []⟩,
     ⟨(some 13), none, (.p (.len (.t 12))), false, []⟩,
     ⟨(some 14), none, (.p (.bin .lss (.t 11) (.t 13))), false, []⟩] (some ⟨[0, 1, 5, 14], [], false⟩))
   (.cond (.t 14)
    .skip
    (.exit 0)))
  (.seq
   (.block 1
    (.seq
     (.region 9 [⟨(some 17), none, (.p (.mv (.t 0))), false, []⟩,
       ⟨(some 18), none, (.p (.mv (.t 5))), false, []⟩,
       ⟨(some 19), none, (.p (.iaddr 3 (.t 17) (.t 18))), false, []⟩,
       ⟨(some 20), none, (.r (.load 3 true (.t 19))), false, []⟩,
       ⟨(some 21), none, (.p (.mv (.t 1))), false, []⟩,
       ⟨(some 22), none, (.p (.mv (.t 5))), false, []⟩,
       ⟨(some 23), none, (.p (.iaddr 3 (.t 21) (.t 22))), false, []⟩,
       ⟨(some 24), none, (.r (.load 3 true (.t 23))), false, []⟩,
       ⟨(some 25), none, (.p (.eqS true [0, 0, 0] (.t 20) (.t 24))), false, []⟩] (some ⟨[0, 1, 5, 25], [], true⟩))
     (.cond (.t 25)
      (.seq
       (.region 0 [⟨(some 4), none, (.p (.mv (.c (.bool false)))), false, []⟩] (some ⟨[4], [], false⟩))
       .ret)
      .skip)))
   (.region 0 [⟨(some 15), none, (.p (.mv (.t 5))), false, []⟩,
     ⟨(some 16), none, (.p (.bin .add (.t 15) (.c (.int .i64 1)))), false, []⟩,
     ⟨(some 5), none, (.p (.mv (.t 16))), false, []⟩] (some ⟨[0, 1, 5], [], false⟩))))
def Try.c41 : AC :=
 (.seq
  (.region 0 [⟨(some 4), none, (.p (.mv (.c (.bool false)))), false, []⟩] (some ⟨[0, 1], [], false⟩))
  (.seq
   (.seq
    (.region 0 [⟨(some 6), none, (.p (.mv (.t 0))), false, []⟩,
      ⟨(some 7), none, (.p (.len (.t 6))), false, []⟩,
      ⟨(some 8), none, (.p (.mv (.t 1))), false, []⟩,
      ⟨(some 9), none, (.p (.len (.t 8))), false, []⟩,
      ⟨(some 10), none, (.p (.bin .neq (.t 7) (.t 9))), false, []⟩] (some ⟨[0, 1, 10], [], false⟩))
    (.cond (.t 10)
     (.seq
      (.region 0 [⟨(some 4), none, (.p (.mv (.c (.bool false)))), false, []⟩] (some ⟨[4], [], false⟩))
      .ret)
     .skip))
   (.seq
    (.seq
     (.region 0 [⟨(some 5), none, (.p (.mv (.c (.int .i64 0)))), false, []⟩] (some ⟨[0, 1, 5], [], false⟩))
     (.block 0
      (.loop (some ⟨[0, 1, 5], [], true⟩) Try.c41b0)))
    (.seq
     (.region 0 [⟨(some 4), none, (.p (.mv (.c (.bool true)))), false, []⟩] (some ⟨[4], [], false⟩))
     .ret))))
theorem Try.run41 {xs : List AV} {r : AV} (hl : xs.length ≤ 26) (h : aw Try.prog Try.c41 (Pv.Ends [4] r) (entry xs)) : Run Try.prog 41 xs r :=
  run_of (fun _ _ => drawOk Try.mixed) Try.func41 rfl rfl rfl (by kernel_rfl) (by kernel_rfl) hl h
/-! 42 paling/palingref26.Learn : params [55, 23, 3, 3], results [55], free 0, zeros [(.slice none 0 0), (.int .u64 (0)), (.int .i64 (0)), (.int .i64 (0))] -/
def Try.c42b0 : AC :=
 (.seq
  (.seq
   (.region 0 [⟨(some 37), none, (.p (.mv (.t 12))), false, []⟩,
     ⟨(some 38), none, (.p (.mv (.t 0))), false, []⟩,
     ⟨(some 39), none, (.p (.len (.t 38))), false, []⟩,
     ⟨(some 40), none, (.p (.bin .lss (.t 37) (.t 39))), false, []⟩,
     ⟨(some 41), none, (.p (.mv (.t 40))), false, []⟩,
     ⟨(some 42), (some (41, true)), (.p (.mv (.t 0))), false, []⟩,
     ⟨(some 43), (some (41, true)), (.p (.len (.t 42))), false, []⟩,
     ⟨(some 44), (some (41, true)), (.p (.bin .eql (.t 43) (.c (.int .i64 8)))), false, []⟩,
     ⟨(some 45), none, (.p (.pick (.t 41) (.t 44) (.c (.bool false)))), false, []⟩,
     ⟨(some 46), none, (.p (.mv (.t 45))), false, []⟩,
     ⟨(some 47), (some (46, true)), (.p (.mv (.t 10))), false, []⟩,
     ⟨(some 48), (some (46, true)), (.p (.un .not (.t 47))), false, []⟩,
     ⟨(some 49), none, (.p (.pick (.t 46) (.t 48) (.c (.bool false)))), false, []⟩] (some ⟨[0, 1, 2, 3, 10, 11, 12, 49], [], false⟩))
   (.cond (.t 49)
    .skip
    (.exit 0)))
  (.seq
   (.block 1
    (.seq
     (.region 15 [⟨(some 52), none, (.p (.mv (.t 11))), false, []⟩,
       ⟨(some 53), none, (.p (.bin .lss (.t 52) (.c (.int .i64 0)))), false, []⟩,
       ⟨(some 54), none, (.p (.mv (.t 53))), false, []⟩,
       ⟨(some 55), (some (54, false)), (.p (.mv (.t 0))), false, []⟩,
       ⟨(some 56), (some (54, false)), (.p (.mv (.t 12))), false, []⟩,
       ⟨(some 57), (some (54, false)), (.p (.iaddr 3 (.t 55) (.t 56))), false, []⟩,
       ⟨(some 58), (some (54, false)), (.p (.faddr 2 (.t 57))), false, []⟩,
       ⟨(some 59), (some (54, false)), (.r (.load 1 false (.t 58))), false, []⟩,
       ⟨(some 60), (some (54, false)), (.p (.mv (.t 0))), false, []⟩,
       ⟨(some 61), (some (54, false)), (.p (.mv (.t 11))), false, []⟩,
       ⟨(some 62), (some (54, false)), (.p (.iaddr 3 (.t 60) (.t 61))), false, []⟩,
       ⟨(some 63), (some (54, false)), (.p (.faddr 2 (.t 62))), false, []⟩,
       ⟨(some 64), (some (54, false)), (.r (.load 1 false (.t 63))), false, []⟩,
       ⟨(some 65), (some (54, false)), (.p (.bin .lss (.t 59) (.t 64))), false, []⟩,
       ⟨(some 66), none, (.p (.pick (.t 54) (.c (.bool true)) (.t 65))), false, []⟩] (some ⟨[0, 1, 2, 3, 10, 11, 12, 66], [], true⟩))
     (.cond (.t 66)
      (.region 0 [⟨(some 67), none, (.p (.mv (.t 12))), false, []⟩,
        ⟨(some 11), none, (.p (.mv (.t 67))), false, []⟩] (some ⟨[0, 1, 2, 3, 10, 11, 12], [], false⟩))
      .skip)))
   (.region 0 [⟨(some 50), none, (.p (.mv (.t 12))), false, []⟩,
     ⟨(some 51), none, (.p (.bin .add (.t 50) (.c (.int .i64 1)))), false, []⟩,
     ⟨(some 12), none, (.p (.mv (.t 51))), false, []⟩] (some ⟨[0, 1, 2, 3, 10, 11, 12], [], false⟩))))
def Try.c42b1 : AC :=
 (.seq
  (.seq
   (.region 0 [⟨(some 68), none, (.p (.mv (.t 14))), false, []⟩,
     ⟨(some 69), none, (.p (.mv (.t 0))), false, []⟩,
     ⟨(some 70), none, (.p (.len (.t 69))), false, []⟩,
     ⟨(some 71), none, (.p (.bin .lss (.t 68) (.t 70))), false, []⟩] (some ⟨[0, 1, 2, 3, 10, 11, 13, 14, 71], [], false⟩))
   (.cond (.t 71)
    .skip
    (.exit 2)))
  (.seq
   (.block 3
    (.seq
     (.region 0 [⟨(some 74), none, (.p (.mv (.t 0))), false, []⟩,
       ⟨(some 75), none, (.p (.mv (.t 14))), false, []⟩,
       ⟨(some 76), none, (.p (.iaddr 3 (.t 74) (.t 75))), false, []⟩,
       ⟨(some 77), none, (.p (.faddr 0 (.t 76))), false, []⟩,
       ⟨(some 78), none, (.r (.load 1 false (.t 77))), false, []⟩,
       ⟨(some 79), none, (.p (.mv (.t 1))), false, []⟩,
       ⟨(some 80), none, (.p (.bin .eql (.t 78) (.t 79))), false, []⟩] (some ⟨[0, 1, 2, 3, 10, 11, 13, 14, 80], [], false⟩))
     (.cond (.t 80)
      (.region 0 [⟨(some 81), none, (.p (.mv (.t 13))), false, []⟩,
        ⟨(some 82), none, (.p (.mv (.t 1))), false, []⟩,
        ⟨(some 83), none, (.p (.mv (.t 2))), false, []⟩,
        ⟨(some 84), none, (.p (.mv (.t 3))), false, []⟩,
        ⟨(some 85), none, (.p (.build [(.int .u64 0), (.int .i64 0), (.int .i64 0)] [(0, 1, (.t 82)), (1, 1, (.t 83)), (2, 1, (.t 84))])), false, []⟩,
        ⟨(some 86), none, (.e (.mks 62 3 (.agg [(.int .u64 0), (.int .i64 0), (.int .i64 0)]) 1 [(0, (.t 85))]) none), false, []⟩,
        ⟨(some 87), none, (.e (.append 62 3 (.t 81) (.t 86)) none), false, []⟩,
        ⟨(some 13), none, (.p (.mv (.t 87))), false, []⟩] (some ⟨[0, 1, 2, 3, 10, 11, 13, 14], [], false⟩))
      (.seq
       (.region 0 [⟨(some 88), none, (.p (.mv (.t 14))), false, []⟩,
         ⟨(some 89), none, (.p (.mv (.t 11))), false, []⟩,
         ⟨(some 90), none, (.p (.bin .neq (.t 88) (.t 89))), false, []⟩] (some ⟨[0, 1, 2, 3, 10, 11, 13, 14, 90], [], false⟩))
       (.cond (.t 90)
        (.region 0 [⟨(some 91), none, (.p (.mv (.t 13))), false, []⟩,
          ⟨(some 92), none, (.p (.mv (.t 0))), false, []⟩,
          ⟨(some 93), none, (.p (.mv (.t 14))), false, []⟩,
          ⟨(some 94), none, (.p (.iaddr 3 (.t 92) (.t 93))), false, []⟩,
          ⟨(some 95), none, (.r (.load 3 true (.t 94))), false, []⟩,
          ⟨(some 96), none, (.e (.mks 62 3 (.agg [(.int .u64 0), (.int .i64 0), (.int .i64 0)]) 1 [(0, (.t 95))]) none), false, []⟩,
          ⟨(some 97), none, (.e (.append 62 3 (.t 91) (.t 96)) none), false, []⟩,
          ⟨(some 13), none, (.p (.mv (.t 97))), false, []⟩] (some ⟨[0, 1, 2, 3, 10, 11, 13, 14], [], false⟩))
        .skip)))))
   (.region 0 [⟨(some 72), none, (.p (.mv (.t 14))), false, []⟩,
     ⟨(some 73), none, (.p (.bin .add (.t 72) (.c (.int .i64 1)))), false, []⟩,
     ⟨(some 14), none, (.p (.mv (.t 73))), false, []⟩] (some ⟨[0, 1, 2, 3, 10, 11, 13, 14], [], false⟩))))
def Try.c42 : AC :=
 (.seq
  (.region 0 [⟨(some 8), none, (.p (.mv (.c (.sl 0 [] true)))), false, []⟩] (some ⟨[0, 1, 2, 3], [], false⟩))
  (.seq
   (.seq
    (.region 0 [⟨(some 15), none, (.p (.mv (.t 0))), false, []⟩,
      ⟨(some 16), none, (.call 39 [(.t 15)] false), false, []⟩,
      ⟨(some 17), none, (.p (.un .not (.t 16))), false, []⟩,
      ⟨(some 18), none, (.p (.mv (.t 17))), false, []⟩,
      ⟨(some 19), (some (18, false)), (.p (.mv (.t 1))), false, []⟩,
      ⟨(some 20), (some (18, false)), (.call 56 [(.t 19)] false), false, []⟩,
      ⟨(some 21), (some (18, false)), (.p (.un .not (.t 20))), false, []⟩,
      ⟨(some 22), none, (.p (.pick (.t 18) (.c (.bool true)) (.t 21))), false, []⟩,
      ⟨(some 23), none, (.p (.mv (.t 22))), false, []⟩,
      ⟨(some 24), (some (23, false)), (.p (.mv (.t 3))), false, []⟩,
      ⟨(some 25), (some (23, false)), (.call 57 [(.t 24)] false), false, []⟩,
      ⟨(some 26), (some (23, false)), (.p (.un .not (.t 25))), false, []⟩,
      ⟨(some 27), none, (.p (.pick (.t 23) (.c (.bool true)) (.t 26))), false, []⟩] (some ⟨[0, 1, 2, 3, 27], [], false⟩))
    (.cond (.t 27)
     (.seq
      (.region 0 [⟨(some 28), none, (.e (.mks 62 3 (.agg [(.int .u64 0), (.int .i64 0), (.int .i64 0)]) 0 []) none), false, []⟩,
        ⟨(some 29), none, (.p (.mv (.t 0))), false, []⟩,
        ⟨(some 30), none, (.e (.append 62 3 (.t 28) (.t 29)) none), false, []⟩,
        ⟨(some 8), none, (.p (.mv (.t 30))), false, []⟩] (some ⟨[8], [], false⟩))
      .ret)
     .skip))
   (.seq
    (.region 0 [⟨(some 32), none, (.p (.mv (.t 0))), false, []⟩,
      ⟨(some 33), none, (.p (.mv (.t 1))), false, []⟩,
      ⟨(some 34), none, (.call 38 [(.t 32), (.t 33)] false), false, []⟩,
      ⟨(some 31), none, (.p (.mv (.t 34))), false, []⟩,
      ⟨(some 35), none, (.p (.ext (.t 31) 0)), false, []⟩,
      ⟨(some 36), none, (.p (.ext (.t 31) 1)), false, []⟩,
      ⟨(some 9), none, (.p (.mv (.t 35))), false, []⟩,
      ⟨(some 10), none, (.p (.mv (.t 36))), false, []⟩] (some ⟨[0, 1, 2, 3, 10], [], false⟩))
    (.seq
     (.region 0 [⟨(some 11), none, (.p (.mv (.c (.int .i64 (-1))))), false, []⟩] (some ⟨[0, 1, 2, 3, 10, 11], [], false⟩))
     (.seq
      (.seq
       (.region 0 [⟨(some 12), none, (.p (.mv (.c (.int .i64 0)))), false, []⟩] (some ⟨[0, 1, 2, 3, 10, 11, 12], [], false⟩))
       (.block 0
        (.loop (some ⟨[0, 1, 2, 3, 10, 11, 12], [], true⟩) Try.c42b0)))
      (.seq
       (.region 0 [⟨(some 13), none, (.p (.mv (.c (.sl 0 [] true)))), false, []⟩] (some ⟨[0, 1, 2, 3, 10, 11, 13], [], false⟩))
       (.seq
        (.seq
         (.region 0 [⟨(some 14), none, (.p (.mv (.c (.int .i64 0)))), false, []⟩] (some ⟨[0, 1, 2, 3, 10, 11, 13, 14], [], false⟩))
         (.block 2
          (.loop (some ⟨[0, 1, 2, 3, 10, 11, 13, 14], [(13, (3, 62))], true⟩) Try.c42b1)))
        (.seq
         (.seq
          (.region 0 [⟨(some 98), none, (.p (.mv (.t 10))), false, []⟩,
            ⟨(some 99), none, (.p (.un .not (.t 98))), false, []⟩] (some ⟨[1, 2, 3, 13, 99], [], false⟩))
          (.cond (.t 99)
           (.region 0 [⟨(some 100), none, (.p (.mv (.t 13))), false, []⟩,
             ⟨(some 101), none, (.p (.mv (.t 1))), false, []⟩,
             ⟨(some 102), none, (.p (.mv (.t 2))), false, []⟩,
             ⟨(some 103), none, (.p (.mv (.t 3))), false, []⟩,
             ⟨(some 104), none, (.p (.build [(.int .u64 0), (.int .i64 0), (.int .i64 0)] [(0, 1, (.t 101)), (1, 1, (.t 102)), (2, 1, (.t 103))])), false, []⟩,
             ⟨(some 105), none, (.e (.mks 62 3 (.agg [(.int .u64 0), (.int .i64 0), (.int .i64 0)]) 1 [(0, (.t 104))]) none), false, []⟩,
             ⟨(some 106), none, (.e (.append 62 3 (.t 100) (.t 105)) none), false, []⟩,
             ⟨(some 13), none, (.p (.mv (.t 106))), false, []⟩] (some ⟨[13], [], false⟩))
           .skip))
         (.seq
          (.region 0 [⟨(some 107), none, (.p (.mv (.t 13))), false, []⟩,
            ⟨(some 8), none, (.p (.mv (.t 107))), false, []⟩] (some ⟨[8], [], false⟩))
          .ret)))))))))
theorem Try.run42 {xs : List AV} {r : AV} (hl : xs.length ≤ 108) (h : aw Try.prog Try.c42 (Pv.Ends [8] r) (entry xs)) : Run Try.prog 42 xs r :=
  run_of (fun _ _ => drawOk Try.mixed) Try.func42 rfl rfl rfl (by kernel_rfl) (by kernel_rfl) hl h
/-! 43 paling/table.Age : params [55, 3], results [55], free 0, zeros [(.slice none 0 0), (.int .i64 (0))] -/
def Try.c43 : AC :=
 (.seq
  (.region 0 [⟨(some 3), none, (.e (.box 3 (.t 1)) none), false, []⟩,
    ⟨(some 4), none, (.p (.mv (.c (.sl 0 [] true)))), false, []⟩] (some ⟨[0, 3], [], false⟩))
  (.seq
   (.region 0 [⟨(some 6), none, (.p (.mv (.t 0))), false, []⟩,
     ⟨(some 7), none, (.call 53 [(.t 6)] false), false, []⟩,
     ⟨(some 5), none, (.p (.mv (.t 7))), false, []⟩] (some ⟨[0, 3, 5], [], false⟩))
   (.seq
    (.seq
     (.region 0 [⟨(some 8), none, (.p (.mv (.t 0))), false, []⟩,
       ⟨(some 9), none, (.call 34 [(.t 8)] false), false, []⟩,
       ⟨(some 10), none, (.p (.un .not (.t 9))), false, []⟩,
       ⟨(some 11), none, (.p (.mv (.t 10))), false, []⟩,
       ⟨(some 12), (some (11, false)), (.r (.load 1 false (.t 3))), false, []⟩,
       ⟨(some 13), (some (11, false)), (.call 51 [(.t 12)] false), false, []⟩,
       ⟨(some 14), (some (11, false)), (.p (.un .not (.t 13))), false, []⟩,
       ⟨(some 15), none, (.p (.pick (.t 11) (.c (.bool true)) (.t 14))), false, []⟩] (some ⟨[3, 5, 15], [], false⟩))
     (.cond (.t 15)
      (.seq
       (.region 0 [⟨(some 16), none, (.p (.mv (.t 5))), false, []⟩,
         ⟨(some 4), none, (.p (.mv (.t 16))), false, []⟩] (some ⟨[4], [], false⟩))
       .ret)
      .skip))
    (.seq
     (.region 0 [⟨(some 17), none, (.p (.mv (.t 5))), false, []⟩,
       ⟨(some 18), none, (.p (.mkfn 60 [(.t 3)])), false, []⟩,
       ⟨(some 19), none, (.call 59 [(.t 17), (.t 18)] false), false, []⟩,
       ⟨(some 4), none, (.p (.mv (.t 19))), false, []⟩] (some ⟨[4], [], false⟩))
     .ret))))
theorem Try.run43 {xs : List AV} {r : AV} (hl : xs.length ≤ 20) (h : aw Try.prog Try.c43 (Pv.Ends [4] r) (entry xs)) : Run Try.prog 43 xs r :=
  run_of (fun _ _ => drawOk Try.mixed) Try.func43 rfl rfl rfl (by kernel_rfl) (by kernel_rfl) hl h
/-! 44 paling/palingref26.Age : params [55, 3], results [55], free 0, zeros [(.slice none 0 0), (.int .i64 (0))] -/
def Try.c44b0 : AC :=
 (.seq
  (.seq
   (.region 0 [⟨(some 7), none, (.p (.mv (.t 6))), false, []⟩,
     ⟨(some 8), none, (.p (.mv (.t 0))), false, []⟩,
     ⟨(some 9), none, (.p (.len (.t 8))), false, []⟩,
     ⟨(some 10), none, (.p (.bin .lss (.t 7) (.t 9))), false, []⟩] (some ⟨[0, 1, 5, 6, 10], [], false⟩))
   (.cond (.t 10)
    .skip
    (.exit 0)))
  (.seq
   (.block 1
    (.seq
     (.region 0 [⟨(some 13), none, (.p (.mv (.t 0))), false, []⟩,
       ⟨(some 14), none, (.call 39 [(.t 13)] false), false, []⟩,
       ⟨(some 15), none, (.p (.un .not (.t 14))), false, []⟩,
       ⟨(some 16), none, (.p (.mv (.t 15))), false, []⟩,
       ⟨(some 17), (some (16, false)), (.p (.mv (.t 1))), false, []⟩,
       ⟨(some 18), (some (16, false)), (.call 57 [(.t 17)] false), false, []⟩,
       ⟨(some 19), (some (16, false)), (.p (.un .not (.t 18))), false, []⟩,
       ⟨(some 20), none, (.p (.pick (.t 16) (.c (.bool true)) (.t 19))), false, []⟩,
       ⟨(some 21), none, (.p (.mv (.t 20))), false, []⟩,
       ⟨(some 22), (some (21, false)), (.p (.mv (.t 1))), false, []⟩,
       ⟨(some 23), (some (21, false)), (.p (.mv (.t 0))), false, []⟩,
       ⟨(some 24), (some (21, false)), (.p (.mv (.t 6))), false, []⟩,
       ⟨(some 25), (some (21, false)), (.p (.iaddr 3 (.t 23) (.t 24))), false, []⟩,
       ⟨(some 26), (some (21, false)), (.p (.faddr 2 (.t 25))), false, []⟩,
       ⟨(some 27), (some (21, false)), (.r (.load 1 false (.t 26))), false, []⟩,
       ⟨(some 28), (some (21, false)), (.p (.bin .sub (.t 22) (.t 27))), false, []⟩,
       ⟨(some 29), (some (21, false)), (.p (.bin .leq (.t 28) (.c (.int .i64 4)))), false, []⟩,
       ⟨(some 30), none, (.p (.pick (.t 21) (.c (.bool true)) (.t 29))), false, []⟩] (some ⟨[0, 1, 5, 6, 30], [], false⟩))
     (.cond (.t 30)
      (.region 0 [⟨(some 31), none, (.p (.mv (.t 5))), false, []⟩,
        ⟨(some 32), none, (.p (.mv (.t 0))), false, []⟩,
        ⟨(some 33), none, (.p (.mv (.t 6))), false, []⟩,
        ⟨(some 34), none, (.p (.iaddr 3 (.t 32) (.t 33))), false, []⟩,
        ⟨(some 35), none, (.r (.load 3 true (.t 34))), false, []⟩,
        ⟨(some 36), none, (.e (.mks 62 3 (.agg [(.int .u64 0), (.int .i64 0), (.int .i64 0)]) 1 [(0, (.t 35))]) none), false, []⟩,
        ⟨(some 37), none, (.e (.append 62 3 (.t 31) (.t 36)) none), false, []⟩,
        ⟨(some 5), none, (.p (.mv (.t 37))), false, []⟩] (some ⟨[0, 1, 5, 6], [], false⟩))
      .skip)))
   (.region 0 [⟨(some 11), none, (.p (.mv (.t 6))), false, []⟩,
     ⟨(some 12), none, (.p (.bin .add (.t 11) (.c (.int .i64 1)))), false, []⟩,
     ⟨(some 6), none, (.p (.mv (.t 12))), false, []⟩] (some ⟨[0, 1, 5, 6], [], false⟩))))
def Try.c44 : AC :=
 (.seq
  (.region 0 [⟨(some 4), none, (.p (.mv (.c (.sl 0 [] true)))), false, []⟩] (some ⟨[0, 1], [], false⟩))
  (.seq
   (.region 0 [⟨(some 5), none, (.p (.mv (.c (.sl 0 [] true)))), false, []⟩] (some ⟨[0, 1, 5], [], false⟩))
   (.seq
    (.seq
     (.region 0 [⟨(some 6), none, (.p (.mv (.c (.int .i64 0)))), false, []⟩] (some ⟨[0, 1, 5, 6], [], false⟩))
     (.block 0
      (.loop (some ⟨[0, 1, 5, 6], [(5, (3, 62))], true⟩) Try.c44b0)))
    (.seq
     (.region 0 [⟨(some 38), none, (.p (.mv (.t 5))), false, []⟩,
       ⟨(some 4), none, (.p (.mv (.t 38))), false, []⟩] (some ⟨[4], [], false⟩))
     .ret))))
theorem Try.run44 {xs : List AV} {r : AV} (hl : xs.length ≤ 39) (h : aw Try.prog Try.c44 (Pv.Ends [4] r) (entry xs)) : Run Try.prog 44 xs r :=
  run_of (fun _ _ => drawOk Try.mixed) Try.func44 rfl rfl rfl (by kernel_rfl) (by kernel_rfl) hl h
/-! 45 paling/queue.all : params [22], results [22], free 0, zeros [(.slice none 0 0)] -/
def Try.c45b0 : AC :=
 (.seq
  (.region 0 [⟨(some 9), none, (.p (.bin .lss (.t 8) (.t 7))), false, []⟩] (some ⟨[3, 6, 7, 8, 9], [], false⟩))
  (.seq
   (.cond (.t 9)
    .skip
    (.exit 0))
   (.seq
    (.block 1
     (.seq
      (.region 0 [⟨(some 10), none, (.p (.iaddr 7 (.t 6) (.t 8))), false, []⟩,
        ⟨(some 11), none, (.r (.load 7 true (.t 10))), false, []⟩,
        ⟨(some 5), none, (.e (.alloc 28 (.agg [(.int .i64 0), (.int .i64 0), (.int .i64 0), (.int .u64 0), (.int .u64 0), (.int .i64 0), (.sl 0 [] true)])) none), false, []⟩,
        ⟨none, none, (.e (.store 7 (.t 5) (.t 11)) none), false, []⟩] (some ⟨[3, 5, 6, 7, 8], [], false⟩))
      (.region 0 [⟨(some 12), none, (.p (.mv (.t 3))), false, []⟩,
        ⟨(some 13), none, (.r (.load 7 true (.t 5))), false, []⟩,
        ⟨(some 14), none, (.call 46 [(.t 13)] false), false, []⟩,
        ⟨(some 15), none, (.e (.mks 28 7 (.agg [(.int .i64 0), (.int .i64 0), (.int .i64 0), (.int .u64 0), (.int .u64 0), (.int .i64 0), (.sl 0 [] true)]) 1 [(0, (.t 14))]) none), false, []⟩,
        ⟨(some 16), none, (.e (.append 28 7 (.t 12) (.t 15)) none), false, []⟩,
        ⟨(some 3), none, (.p (.mv (.t 16))), false, []⟩] (some ⟨[3, 6, 7, 8], [], false⟩))))
    (.region 0 [⟨(some 17), none, (.p (.bin .add (.t 8) (.c (.int .i64 1)))), false, []⟩,
      ⟨(some 8), none, (.p (.mv (.t 17))), false, []⟩] (some ⟨[3, 6, 7, 8], [], false⟩)))))
def Try.c45 : AC :=
 (.seq
  (.region 0 [⟨(some 2), none, (.p (.mv (.c (.sl 0 [] true)))), false, []⟩] (some ⟨[0], [], false⟩))
  (.seq
   (.region 0 [⟨(some 3), none, (.p (.mv (.c (.sl 0 [] true)))), false, []⟩] (some ⟨[0, 3], [], false⟩))
   (.seq
    (.seq
     (.region 0 [⟨(some 6), none, (.p (.mv (.t 0))), false, []⟩,
       ⟨(some 7), none, (.p (.len (.t 6))), false, []⟩,
       ⟨(some 8), none, (.p (.mv (.c (.int .i64 0)))), false, []⟩] (some ⟨[3, 6, 7, 8], [], false⟩))
     (.block 0
      (.loop (some ⟨[3, 6, 7, 8], [(3, (7, 28))], true⟩) Try.c45b0)))
    (.seq
     (.region 0 [⟨(some 18), none, (.p (.mv (.t 3))), false, []⟩,
       ⟨(some 2), none, (.p (.mv (.t 18))), false, []⟩] (some ⟨[2], [], false⟩))
     .ret))))
theorem Try.run45 {xs : List AV} {r : AV} (hl : xs.length ≤ 19) (h : aw Try.prog Try.c45 (Pv.Ends [2] r) (entry xs)) : Run Try.prog 45 xs r :=
  run_of (fun _ _ => drawOk Try.mixed) Try.func45 rfl rfl rfl (by kernel_rfl) (by kernel_rfl) hl h
/-! 46 paling/queue.copied : params [28], results [28], free 0, zeros [(.agg #[(.int .i64 (0)), (.int .i64 (0)), (.int .i64 (0)), (.int .u64 (0)), (.int .u64 (0)), (.int .i64 (0)), (.slice none 0 0)])] -/
def Try.c46 : AC :=
 (.seq
  (.region 0 [⟨(some 1), none, (.e (.box 28 (.t 0)) none), false, []⟩,
    ⟨(some 2), none, (.e (.alloc 28 (.agg [(.int .i64 0), (.int .i64 0), (.int .i64 0), (.int .u64 0), (.int .u64 0), (.int .i64 0), (.sl 0 [] true)])) none), false, []⟩] (some ⟨[1, 2], [], false⟩))
  (.seq
   (.region 0 [⟨(some 3), none, (.p (.faddr 3 (.t 1))), false, []⟩,
     ⟨(some 4), none, (.r (.load 4 true (.t 3))), false, []⟩,
     ⟨(some 5), none, (.call 61 [(.t 4)] false), false, []⟩,
     ⟨(some 6), none, (.p (.faddr 3 (.t 1))), false, []⟩,
     ⟨none, none, (.e (.store 4 (.t 6) (.t 5)) none), false, []⟩] (some ⟨[1, 2], [], false⟩))
   (.seq
    (.region 0 [⟨(some 7), none, (.r (.load 7 true (.t 1))), false, []⟩,
      ⟨none, none, (.e (.store 7 (.t 2) (.t 7)) none), false, []⟩] (some ⟨[2], [], false⟩))
    .ret)))
theorem Try.run46 {xs : List AV} {r : AV} (hl : xs.length ≤ 8) (h : aw Try.prog Try.c46 (Pv.EndsX (rvs [.c 2 7 true]) r) (entry xs)) : Run Try.prog 46 xs r :=
  run_ofC (fun _ _ => drawOk Try.mixed) Try.func46 rfl rfl (by kernel_rfl) (by kernel_rfl) (by kernel_rfl) hl h
/-! 47 slices.Clone[[]byte,byte] : params [24], results [24], free 0, zeros [(.slice none 0 0)] -/
def Try.c47 : AC :=
 (.seq
  (.region 0 [⟨(some 2), none, (.p (.mv (.c (.sl 0 [] true)))), false, []⟩] (some ⟨[0], [], false⟩))
  (.seq
   (.seq
    (.region 0 [⟨(some 3), none, (.p (.mv (.t 0))), false, []⟩,
      ⟨(some 4), none, (.p (.isnil false (.t 3))), false, []⟩] (some ⟨[0, 4], [], false⟩))
    (.cond (.t 4)
     (.seq
      (.region 0 [⟨(some 2), none, (.p (.mv (.c (.sl 0 [] true)))), false, []⟩] (some ⟨[2], [], false⟩))
      .ret)
     .skip))
   (.seq
    (.region 0 [⟨(some 5), none, (.e (.mks 5 1 (.int .u8 0) 0 []) none), false, []⟩,
      ⟨(some 6), none, (.p (.mv (.t 0))), false, []⟩,
      ⟨(some 7), none, (.e (.append 5 1 (.t 5) (.t 6)) none), false, []⟩,
      ⟨(some 2), none, (.p (.mv (.t 7))), false, []⟩] (some ⟨[2], [], false⟩))
    .ret)))
theorem Try.run47 {xs : List AV} {r : AV} (hl : xs.length ≤ 8) (h : aw Try.prog Try.c47 (Pv.Ends [2] r) (entry xs)) : Run Try.prog 47 xs r :=
  run_of (fun _ _ => drawOk Try.mixed) Try.func47 rfl rfl rfl (by kernel_rfl) (by kernel_rfl) hl h
/-! 48 slices.EqualFunc[[]paling/api.Queued,[]paling/api.Queued,paling/api.Queued,paling/api.Queued] : params [22, 22, 36], results [4], free 0, zeros [(.slice none 0 0), (.slice none 0 0), .nilFunc] -/
def Try.c48b0 : AC :=
 (.seq
  (.region 0 [⟨(some 18), none, (.p (.bin .lss (.t 17) (.t 16))), false, []⟩] (some ⟨[1, 2, 15, 16, 17, 18], [], false⟩))
  (.seq
   (.cond (.t 18)
    .skip
    (.exit 0))
   (.seq
    (.block 1
     (.seq
      (.region 0 [⟨(some 19), none, (.p (.mv (.t 17))), false, []⟩,
        ⟨(some 20), none, (.p (.iaddr 7 (.t 15) (.t 17))), false, []⟩,
        ⟨(some 21), none, (.r (.load 7 true (.t 20))), false, []⟩,
        ⟨(some 8), none, (.e (.alloc 28 (.agg [(.int .i64 0), (.int .i64 0), (.int .i64 0), (.int .u64 0), (.int .u64 0), (.int .i64 0), (.sl 0 [] true)])) none), false, []⟩,
        ⟨(some 7), none, (.p (.mv (.t 19))), false, []⟩,
        ⟨none, none, (.e (.store 7 (.t 8) (.t 21)) none), false, []⟩] (some ⟨[1, 2, 7, 8, 15, 16, 17], [], false⟩))
      (.seq
       (.region 0 [⟨(some 22), none, (.p (.mv (.t 1))), false, []⟩,
         ⟨(some 23), none, (.p (.mv (.t 7))), false, []⟩,
         ⟨(some 24), none, (.p (.iaddr 7 (.t 22) (.t 23))), false, []⟩,
         ⟨(some 25), none, (.r (.load 7 true (.t 24))), false, []⟩,
         ⟨(some 9), none, (.e (.alloc 28 (.agg [(.int .i64 0), (.int .i64 0), (.int .i64 0), (.int .u64 0), (.int .u64 0), (.int .i64 0), (.sl 0 [] true)])) none), false, []⟩,
         ⟨none, none, (.e (.store 7 (.t 9) (.t 25)) none), false, []⟩] (some ⟨[1, 2, 8, 9, 15, 16, 17], [], false⟩))
       (.seq
        (.region 0 [⟨(some 26), none, (.p (.mv (.t 2))), false, []⟩,
          ⟨(some 27), none, (.r (.load 7 true (.t 8))), false, []⟩,
          ⟨(some 28), none, (.r (.load 7 true (.t 9))), false, []⟩,
          ⟨(some 29), none, (.callv (.t 26) [(.t 27), (.t 28)]), false, []⟩,
          ⟨(some 30), none, (.p (.un .not (.t 29))), false, []⟩] (some ⟨[1, 2, 15, 16, 17, 30], [], false⟩))
        (.cond (.t 30)
         (.seq
          (.region 0 [⟨(some 6), none, (.p (.mv (.c (.bool false)))), false, []⟩] (some ⟨[6], [], false⟩))
          .ret)
         .skip)))))
    (.region 0 [⟨(some 31), none, (.p (.bin .add (.t 17) (.c (.int .i64 1)))), false, []⟩,
      ⟨(some 17), none, (.p (.mv (.t 31))), false, []⟩] (some ⟨[1, 2, 15, 16, 17], [], false⟩)))))
def Try.c48 : AC :=
 (.seq
  (.region 0 [⟨(some 6), none, (.p (.mv (.c (.bool false)))), false, []⟩] (some ⟨[0, 1, 2], [], false⟩))
  (.seq
   (.seq
    (.region 0 [⟨(some 10), none, (.p (.mv (.t 0))), false, []⟩,
      ⟨(some 11), none, (.p (.len (.t 10))), false, []⟩,
      ⟨(some 12), none, (.p (.mv (.t 1))), false, []⟩,
      ⟨(some 13), none, (.p (.len (.t 12))), false, []⟩,
      ⟨(some 14), none, (.p (.bin .neq (.t 11) (.t 13))), false, []⟩] (some ⟨[0, 1, 2, 14], [], false⟩))
    (.cond (.t 14)
     (.seq
      (.region 0 [⟨(some 6), none, (.p (.mv (.c (.bool false)))), false, []⟩] (some ⟨[6], [], false⟩))
      .ret)
     .skip))
   (.seq
    (.seq
     (.region 0 [⟨(some 15), none, (.p (.mv (.t 0))), false, []⟩,
       ⟨(some 16), none, (.p (.len (.t 15))), false, []⟩,
       ⟨(some 17), none, (.p (.mv (.c (.int .i64 0)))), false, []⟩] (some ⟨[1, 2, 15, 16, 17], [], false⟩))
     (.block 0
      (.loop (some ⟨[1, 2, 15, 16, 17], [], true⟩) Try.c48b0)))
    (.seq
     (.region 0 [⟨(some 6), none, (.p (.mv (.c (.bool true)))), false, []⟩] (some ⟨[6], [], false⟩))
     .ret))))
theorem Try.run48 {xs : List AV} {r : AV} (hl : xs.length ≤ 32) (h : aw Try.prog Try.c48 (Pv.Ends [6] r) (entry xs)) : Run Try.prog 48 xs r :=
  run_of (fun _ _ => drawOk Try.mixed) Try.func48 rfl rfl rfl (by kernel_rfl) (by kernel_rfl) hl h
/-! 49 paling/queue.Same.1 : params [28, 28], results [4], free 0, zeros [(.agg #[(.int .i64 (0)), (.int .i64 (0)), (.int .i64 (0)), (.int .u64 (0)), (.int .u64 (0)), (.int .i64 (0)), (.slice none 0 0)]), (.agg #[(.int .i64 (0)), (.int .i64 (0)), (.int .i64 (0)), (.int .u64 (0)), (.int .u64 (0)), (.int .i64 (0)), (.slice none 0 0)])] -/
def Try.c49 : AC :=
 (.seq
  (.region 0 [⟨(some 2), none, (.e (.box 28 (.t 0)) none), false, []⟩,
    ⟨(some 3), none, (.e (.box 28 (.t 1)) none), false, []⟩,
    ⟨(some 4), none, (.p (.mv (.c (.bool false)))), false, []⟩] (some ⟨[2, 3], [], false⟩))
  (.seq
   (.region 0 [⟨(some 5), none, (.p (.faddr 0 (.t 2))), false, []⟩,
     ⟨(some 6), none, (.r (.load 1 false (.t 5))), false, []⟩,
     ⟨(some 7), none, (.p (.faddr 0 (.t 3))), false, []⟩,
     ⟨(some 8), none, (.r (.load 1 false (.t 7))), false, []⟩,
     ⟨(some 9), none, (.p (.bin .eql (.t 6) (.t 8))), false, []⟩,
     ⟨(some 10), none, (.p (.mv (.t 9))), false, []⟩,
     ⟨(some 11), (some (10, true)), (.p (.faddr 1 (.t 2))), false, []⟩,
     ⟨(some 12), (some (10, true)), (.r (.load 1 false (.t 11))), false, []⟩,
     ⟨(some 13), (some (10, true)), (.p (.faddr 1 (.t 3))), false, []⟩,
     ⟨(some 14), (some (10, true)), (.r (.load 1 false (.t 13))), false, []⟩,
     ⟨(some 15), (some (10, true)), (.p (.bin .eql (.t 12) (.t 14))), false, []⟩,
     ⟨(some 16), none, (.p (.pick (.t 10) (.t 15) (.c (.bool false)))), false, []⟩,
     ⟨(some 17), none, (.p (.mv (.t 16))), false, []⟩,
     ⟨(some 18), (some (17, true)), (.p (.faddr 2 (.t 2))), false, []⟩,
     ⟨(some 19), (some (17, true)), (.r (.load 1 false (.t 18))), false, []⟩,
     ⟨(some 20), (some (17, true)), (.p (.faddr 2 (.t 3))), false, []⟩,
     ⟨(some 21), (some (17, true)), (.r (.load 1 false (.t 20))), false, []⟩,
     ⟨(some 22), (some (17, true)), (.p (.bin .eql (.t 19) (.t 21))), false, []⟩,
     ⟨(some 23), none, (.p (.pick (.t 17) (.t 22) (.c (.bool false)))), false, []⟩,
     ⟨(some 24), none, (.p (.mv (.t 23))), false, []⟩,
     ⟨(some 25), (some (24, true)), (.p (.faddr 3 (.t 2))), false, []⟩,
     ⟨(some 26), (some (24, true)), (.r (.load 4 true (.t 25))), false, []⟩,
     ⟨(some 27), (some (24, true)), (.p (.faddr 3 (.t 3))), false, []⟩,
     ⟨(some 28), (some (24, true)), (.r (.load 4 true (.t 27))), false, []⟩,
     ⟨(some 29), (some (24, true)), (.call 30 [(.t 26), (.t 28)] false), false, []⟩,
     ⟨(some 30), none, (.p (.pick (.t 24) (.t 29) (.c (.bool false)))), false, []⟩,
     ⟨(some 4), none, (.p (.mv (.t 30))), false, []⟩] (some ⟨[4], [], false⟩))
   .ret))
theorem Try.run49 {xs : List AV} {r : AV} (hl : xs.length ≤ 31) (h : aw Try.prog Try.c49 (Pv.Ends [4] r) (entry xs)) : Run Try.prog 49 xs r :=
  run_of (fun _ _ => drawOk Try.mixed) Try.func49 rfl rfl rfl (by kernel_rfl) (by kernel_rfl) hl h
/-! 50 paling/table.station : params [23], results [4], free 0, zeros [(.int .u64 (0))] -/
def Try.c50 : AC :=
 (.seq
  (.region 0 [⟨(some 2), none, (.p (.mv (.c (.bool false)))), false, []⟩] (some ⟨[0], [], false⟩))
  (.seq
   (.region 0 [⟨(some 3), none, (.p (.mv (.t 0))), false, []⟩,
     ⟨(some 4), none, (.p (.bin .leq (.t 3) (.c (.int .u64 281474976710655)))), false, []⟩,
     ⟨(some 5), none, (.p (.mv (.t 4))), false, []⟩,
     ⟨(some 6), (some (5, true)), (.p (.mv (.t 0))), false, []⟩,
     ⟨(some 7), (some (5, true)), (.call 35 [(.t 6)] false), false, []⟩,
     ⟨(some 8), (some (5, true)), (.p (.un .not (.t 7))), false, []⟩,
     ⟨(some 9), none, (.p (.pick (.t 5) (.t 8) (.c (.bool false)))), false, []⟩,
     ⟨(some 2), none, (.p (.mv (.t 9))), false, []⟩] (some ⟨[2], [], false⟩))
   .ret))
theorem Try.run50 {xs : List AV} {r : AV} (hl : xs.length ≤ 10) (h : aw Try.prog Try.c50 (Pv.Ends [2] r) (entry xs)) : Run Try.prog 50 xs r :=
  run_of (fun _ _ => drawOk Try.mixed) Try.func50 rfl rfl rfl (by kernel_rfl) (by kernel_rfl) hl h
/-! 51 paling/table.timely : params [3], results [4], free 0, zeros [(.int .i64 (0))] -/
def Try.c51 : AC :=
 (.seq
  (.region 0 [⟨(some 2), none, (.p (.mv (.c (.bool false)))), false, []⟩] (some ⟨[0], [], false⟩))
  (.seq
   (.region 0 [⟨(some 3), none, (.p (.mv (.t 0))), false, []⟩,
     ⟨(some 4), none, (.p (.bin .geq (.t 3) (.c (.int .i64 0)))), false, []⟩,
     ⟨(some 5), none, (.p (.mv (.t 4))), false, []⟩,
     ⟨(some 6), (some (5, true)), (.p (.mv (.t 0))), false, []⟩,
     ⟨(some 7), (some (5, true)), (.p (.bin .leq (.t 6) (.c (.int .i64 1099511627776)))), false, []⟩,
     ⟨(some 8), none, (.p (.pick (.t 5) (.t 7) (.c (.bool false)))), false, []⟩,
     ⟨(some 2), none, (.p (.mv (.t 8))), false, []⟩] (some ⟨[2], [], false⟩))
   .ret))
theorem Try.run51 {xs : List AV} {r : AV} (hl : xs.length ≤ 9) (h : aw Try.prog Try.c51 (Pv.Ends [2] r) (entry xs)) : Run Try.prog 51 xs r :=
  run_of (fun _ _ => drawOk Try.mixed) Try.func51 rfl rfl rfl (by kernel_rfl) (by kernel_rfl) hl h
/-! 52 paling/table.index : params [55, 23], results [3], free 0, zeros [(.slice none 0 0), (.int .u64 (0))] -/
def Try.c52 : AC :=
 (.seq
  (.region 0 [⟨(some 3), none, (.e (.box 23 (.t 1)) none), false, []⟩,
    ⟨(some 4), none, (.p (.mv (.c (.int .i64 0)))), false, []⟩] (some ⟨[0, 3], [], false⟩))
  (.seq
   (.region 0 [⟨(some 5), none, (.p (.mv (.t 0))), false, []⟩,
     ⟨(some 6), none, (.p (.mkfn 63 [(.t 3)])), false, []⟩,
     ⟨(some 7), none, (.call 62 [(.t 5), (.t 6)] false), false, []⟩,
     ⟨(some 4), none, (.p (.mv (.t 7))), false, []⟩] (some ⟨[4], [], false⟩))
   .ret))
theorem Try.run52 {xs : List AV} {r : AV} (hl : xs.length ≤ 8) (h : aw Try.prog Try.c52 (Pv.Ends [4] r) (entry xs)) : Run Try.prog 52 xs r :=
  run_of (fun _ _ => drawOk Try.mixed) Try.func52 rfl rfl rfl (by kernel_rfl) (by kernel_rfl) hl h
/-! 53 slices.Clone[[]paling/api.Entry,paling/api.Entry] : params [55], results [55], free 0, zeros [(.slice none 0 0)] -/
def Try.c53 : AC :=
 (.seq
  (.region 0 [⟨(some 2), none, (.p (.mv (.c (.sl 0 [] true)))), false, []⟩] (some ⟨[0], [], false⟩))
  (.seq
   (.seq
    (.region 0 [⟨(some 3), none, (.p (.mv (.t 0))), false, []⟩,
      ⟨(some 4), none, (.p (.isnil false (.t 3))), false, []⟩] (some ⟨[0, 4], [], false⟩))
    (.cond (.t 4)
     (.seq
      (.region 0 [⟨(some 2), none, (.p (.mv (.c (.sl 0 [] true)))), false, []⟩] (some ⟨[2], [], false⟩))
      .ret)
     .skip))
   (.seq
    (.region 0 [⟨(some 5), none, (.e (.mks 62 3 (.agg [(.int .u64 0), (.int .i64 0), (.int .i64 0)]) 0 []) none), false, []⟩,
      ⟨(some 6), none, (.p (.mv (.t 0))), false, []⟩,
      ⟨(some 7), none, (.e (.append 62 3 (.t 5) (.t 6)) none), false, []⟩,
      ⟨(some 2), none, (.p (.mv (.t 7))), false, []⟩] (some ⟨[2], [], false⟩))
    .ret)))
theorem Try.run53 {xs : List AV} {r : AV} (hl : xs.length ≤ 8) (h : aw Try.prog Try.c53 (Pv.Ends [2] r) (entry xs)) : Run Try.prog 53 xs r :=
  run_of (fun _ _ => drawOk Try.mixed) Try.func53 rfl rfl rfl (by kernel_rfl) (by kernel_rfl) hl h
/-! 54 paling/table.oldest : params [55], results [3], free 0, zeros [(.slice none 0 0)] -/
def Try.c54b0 : AC :=
 (.seq
  (.region 0 [⟨(some 9), none, (.p (.bin .lss (.t 8) (.t 7))), false, []⟩] (some ⟨[0, 3, 6, 7, 8, 9], [], false⟩))
  (.seq
   (.cond (.t 9)
    .skip
    (.exit 0))
   (.seq
    (.block 1
     (.seq
      (.region 0 [⟨(some 10), none, (.p (.mv (.t 8))), false, []⟩,
        ⟨(some 11), none, (.p (.iaddr 3 (.t 6) (.t 8))), false, []⟩,
        ⟨(some 12), none, (.r (.load 3 true (.t 11))), false, []⟩,
        ⟨(some 5), none, (.e (.alloc 62 (.agg [(.int .u64 0), (.int .i64 0), (.int .i64 0)])) none), false, []⟩,
        ⟨(some 4), none, (.p (.mv (.t 10))), false, []⟩,
        ⟨none, none, (.e (.store 3 (.t 5) (.t 12)) none), false, []⟩] (some ⟨[0, 3, 4, 5, 6, 7, 8], [], false⟩))
      (.seq
       (.region 8 [⟨(some 13), none, (.p (.faddr 2 (.t 5))), false, []⟩,
         ⟨(some 14), none, (.r (.load 1 false (.t 13))), false, []⟩,
         ⟨(some 15), none, (.p (.mv (.t 0))), false, []⟩,
         ⟨(some 16), none, (.p (.mv (.t 3))), false, []⟩,
         ⟨(some 17), none, (.p (.iaddr 3 (.t 15) (.t 16))), false, []⟩,
         ⟨(some 18), none, (.p (.faddr 2 (.t 17))), false, []⟩,
         ⟨(some 19), none, (.r (.load 1 false (.t 18))), false, []⟩,
         ⟨(some 20), none, (.p (.bin .lss (.t 14) (.t 19))), false, []⟩] (some ⟨[0, 3, 4, 6, 7, 8, 20], [], true⟩))
       (.cond (.t 20)
        (.region 0 [⟨(some 21), none, (.p (.mv (.t 4))), false, []⟩,
          ⟨(some 3), none, (.p (.mv (.t 21))), false, []⟩] (some ⟨[0, 3, 6, 7, 8], [], false⟩))
        .skip))))
    (.region 0 [⟨(some 22), none, (.p (.bin .add (.t 8) (.c (.int .i64 1)))), false, []⟩,
      ⟨(some 8), none, (.p (.mv (.t 22))), false, []⟩] (some ⟨[0, 3, 6, 7, 8], [], false⟩)))))
def Try.c54 : AC :=
 (.seq
  (.region 0 [⟨(some 2), none, (.p (.mv (.c (.int .i64 0)))), false, []⟩] (some ⟨[0], [], false⟩))
  (.seq
   (.region 0 [⟨(some 3), none, (.p (.mv (.c (.int .i64 0)))), false, []⟩] (some ⟨[0, 3], [], false⟩))
   (.seq
    (.seq
     (.region 0 [⟨(some 6), none, (.p (.mv (.t 0))), false, []⟩,
       ⟨(some 7), none, (.p (.len (.t 6))), false, []⟩,
       ⟨(some 8), none, (.p (.mv (.c (.int .i64 0)))), false, []⟩] (some ⟨[0, 3, 6, 7, 8], [], false⟩))
     (.block 0
      (.loop (some ⟨[0, 3, 6, 7, 8], [], true⟩) Try.c54b0)))
    (.seq
     (.region 0 [⟨(some 23), none, (.p (.mv (.t 3))), false, []⟩,
       ⟨(some 2), none, (.p (.mv (.t 23))), false, []⟩] (some ⟨[2], [], false⟩))
     .ret))))
theorem Try.run54 {xs : List AV} {r : AV} (hl : xs.length ≤ 24) (h : aw Try.prog Try.c54 (Pv.Ends [2] r) (entry xs)) : Run Try.prog 54 xs r :=
  run_of (fun _ _ => drawOk Try.mixed) Try.func54 rfl rfl rfl (by kernel_rfl) (by kernel_rfl) hl h
/-! 55 slices.Delete[[]paling/api.Entry,paling/api.Entry] : params [55, 3, 3], results [55], free 0, zeros [(.slice none 0 0), (.int .i64 (0)), (.int .i64 (0))] -/
def Try.c55 : AC :=
 (.seq
  (.region 0 [⟨(some 6), none, (.p (.mv (.c (.sl 0 [] true)))), false, []⟩] (some ⟨[0, 1, 2], [], false⟩))
  (.seq
   (.region 0 [⟨(some 8), none, (.p (.mv (.t 0))), false, []⟩,
     ⟨(some 9), none, (.p (.mv (.t 1))), false, []⟩,
     ⟨(some 10), none, (.p (.mv (.t 2))), false, []⟩,
     ⟨(some 11), none, (.p (.mv (.t 0))), false, []⟩,
     ⟨(some 12), none, (.p (.len (.t 11))), false, []⟩,
     ⟨(some 13), none, (.p (.slicev 3 (.t 8) (some (.t 9)) (some (.t 10)) (some (.t 12)))), false, []⟩] (some ⟨[0, 1, 2], [], false⟩))
   (.seq
    (.seq
     (.region 0 [⟨(some 14), none, (.p (.mv (.t 1))), false, []⟩,
       ⟨(some 15), none, (.p (.mv (.t 2))), false, []⟩,
       ⟨(some 16), none, (.p (.bin .eql (.t 14) (.t 15))), false, []⟩] (some ⟨[0, 1, 2, 16], [], false⟩))
     (.cond (.t 16)
      (.seq
       (.region 0 [⟨(some 17), none, (.p (.mv (.t 0))), false, []⟩,
         ⟨(some 6), none, (.p (.mv (.t 17))), false, []⟩] (some ⟨[6], [], false⟩))
       .ret)
      .skip))
    (.seq
     (.region 0 [⟨(some 18), none, (.p (.mv (.t 0))), false, []⟩,
       ⟨(some 19), none, (.p (.len (.t 18))), false, []⟩,
       ⟨(some 7), none, (.p (.mv (.t 19))), false, []⟩] (some ⟨[0, 1, 2, 7], [], false⟩))
     (.seq
      (.region 8 [⟨(some 20), none, (.p (.mv (.t 0))), false, [62]⟩,
        ⟨(some 21), none, (.p (.mv (.t 1))), false, [62]⟩,
        ⟨(some 22), none, (.p (.slicev 3 (.t 20) none (some (.t 21)) none)), false, [62]⟩,
        ⟨(some 23), none, (.p (.mv (.t 0))), false, [62]⟩,
        ⟨(some 24), none, (.p (.mv (.t 2))), false, [62]⟩,
        ⟨(some 25), none, (.p (.slicev 3 (.t 23) (some (.t 24)) none none)), false, [62]⟩,
        ⟨(some 26), none, (.e (.append 62 3 (.t 22) (.t 25)) (some 6)), false, [62]⟩,
        ⟨(some 0), none, (.p (.mv (.t 26))), false, [62]⟩] (some ⟨[0, 7], [], true⟩))
      (.seq
       (.region 0 [⟨(some 27), none, (.p (.mv (.t 0))), false, []⟩,
         ⟨(some 28), none, (.p (.mv (.t 0))), false, []⟩,
         ⟨(some 29), none, (.p (.len (.t 28))), false, []⟩,
         ⟨(some 30), none, (.p (.mv (.t 7))), false, []⟩,
         ⟨(some 31), none, (.r (.cut 3 (.t 27) (.t 29) (.t 30))), false, []⟩,
         ⟨none, none, (.e (.clear 3 (.agg [(.int .u64 0), (.int .i64 0), (.int .i64 0)]) (.t 31)) none), false, []⟩] (some ⟨[0], [], false⟩))
       (.seq
        (.region 0 [⟨(some 32), none, (.p (.mv (.t 0))), false, []⟩,
          ⟨(some 6), none, (.p (.mv (.t 32))), false, []⟩] (some ⟨[6], [], false⟩))
        .ret)))))))
theorem Try.run55 {xs : List AV} {r : AV} (hl : xs.length ≤ 33) (h : aw Try.prog Try.c55 (Pv.Ends [6] r) (entry xs)) : Run Try.prog 55 xs r :=
  run_of (fun _ _ => drawOk Try.mixed) Try.func55 rfl rfl rfl (by kernel_rfl) (by kernel_rfl) hl h
def Try.g55 : AC :=
 (.seq
  (.region 0 [⟨(some 6), none, (.p (.mv (.c (.sl 0 [] true)))), false, []⟩] (some ⟨[0, 1, 2], [], false⟩))
  (.seq
   (.region 0 [⟨(some 8), none, (.p (.mv (.t 0))), false, []⟩,
     ⟨(some 9), none, (.p (.mv (.t 1))), false, []⟩,
     ⟨(some 10), none, (.p (.mv (.t 2))), false, []⟩,
     ⟨(some 11), none, (.p (.mv (.t 0))), false, []⟩,
     ⟨(some 12), none, (.p (.len (.t 11))), false, []⟩,
     ⟨(some 13), none, (.p (.slicev 3 (.t 8) (some (.t 9)) (some (.t 10)) (some (.t 12)))), false, []⟩] (some ⟨[0, 1, 2], [], false⟩))
   (.seq
    (.seq
     (.region 0 [⟨(some 14), none, (.p (.mv (.t 1))), false, []⟩,
       ⟨(some 15), none, (.p (.mv (.t 2))), false, []⟩,
       ⟨(some 16), none, (.p (.bin .eql (.t 14) (.t 15))), false, []⟩] (some ⟨[0, 1, 2, 16], [], false⟩))
     (.cond (.t 16)
      (.seq
       (.region 0 [⟨(some 17), none, (.p (.mv (.t 0))), false, []⟩,
         ⟨(some 6), none, (.p (.mv (.t 17))), false, []⟩] (some ⟨[6], [], false⟩))
       .ret)
      .skip))
    (.seq
     (.region 0 [⟨(some 18), none, (.p (.mv (.t 0))), false, []⟩,
       ⟨(some 19), none, (.p (.len (.t 18))), false, []⟩,
       ⟨(some 7), none, (.p (.mv (.t 19))), false, []⟩] (some ⟨[0, 1, 2, 7], [], false⟩))
     (.seq
      (.region 8 [⟨(some 20), none, (.p (.mv (.t 0))), false, [62]⟩,
        ⟨(some 21), none, (.p (.mv (.t 1))), false, [62]⟩,
        ⟨(some 22), none, (.p (.slicev 3 (.t 20) none (some (.t 21)) none)), false, [62]⟩,
        ⟨(some 23), none, (.p (.mv (.t 0))), false, [62]⟩,
        ⟨(some 24), none, (.p (.mv (.t 2))), false, [62]⟩,
        ⟨(some 25), none, (.p (.slicev 3 (.t 23) (some (.t 24)) none none)), false, [62]⟩,
        ⟨(some 26), none, (.e (.append 62 3 (.t 22) (.t 25)) (some 6)), false, [62]⟩,
        ⟨(some 0), none, (.p (.mv (.t 26))), false, [62]⟩] (some ⟨[0, 7], [], false⟩))
      (.seq
       (.region 0 [⟨(some 27), none, (.p (.mv (.t 0))), false, []⟩,
         ⟨(some 28), none, (.p (.mv (.t 0))), false, []⟩,
         ⟨(some 29), none, (.p (.len (.t 28))), false, []⟩,
         ⟨(some 30), none, (.p (.mv (.t 7))), false, []⟩,
         ⟨(some 31), none, (.r (.cut 3 (.t 27) (.t 29) (.t 30))), false, []⟩,
         ⟨none, none, (.e (.clear 3 (.agg [(.int .u64 0), (.int .i64 0), (.int .i64 0)]) (.t 31)) none), false, []⟩] (some ⟨[0], [], false⟩))
       (.seq
        (.region 0 [⟨(some 32), none, (.p (.mv (.t 0))), false, []⟩,
          ⟨(some 6), none, (.p (.mv (.t 32))), false, []⟩] (some ⟨[6], [], false⟩))
        .ret)))))))
theorem Try.gen55 {xs : List AV} {r : AV} {H H' : Hp} (hl : xs.length ≤ 33) (h : aw Try.prog Try.g55 (Pv.EndsG [6] r H') ⟨xs.zipIdx.map fun p => (p.2, p.1), H⟩) : Gen Try.prog 55 xs H r H' :=
  gen_of (fun _ _ => drawOk Try.mixed) Try.func55 rfl rfl rfl (by kernel_rfl) (by kernel_rfl) hl h
/-! 56 paling/palingref26.station : params [23], results [4], free 0, zeros [(.int .u64 (0))] -/
def Try.c56 : AC :=
 (.seq
  (.region 0 [⟨(some 2), none, (.p (.mv (.c (.bool false)))), false, []⟩] (some ⟨[0], [], false⟩))
  (.seq
   (.region 0 [⟨(some 3), none, (.p (.mv (.t 0))), false, []⟩,
     ⟨(some 4), none, (.p (.bin .lss (.t 3) (.c (.int .u64 281474976710656)))), false, []⟩,
     ⟨(some 5), none, (.p (.mv (.t 4))), false, []⟩,
     ⟨(some 6), (some (5, true)), (.p (.mv (.t 0))), false, []⟩,
     ⟨(some 7), (some (5, true)), (.call 64 [(.t 6)] false), false, []⟩,
     ⟨(some 8), (some (5, true)), (.p (.un .not (.t 7))), false, []⟩,
     ⟨(some 9), none, (.p (.pick (.t 5) (.t 8) (.c (.bool false)))), false, []⟩,
     ⟨(some 2), none, (.p (.mv (.t 9))), false, []⟩] (some ⟨[2], [], false⟩))
   .ret))
theorem Try.run56 {xs : List AV} {r : AV} (hl : xs.length ≤ 10) (h : aw Try.prog Try.c56 (Pv.Ends [2] r) (entry xs)) : Run Try.prog 56 xs r :=
  run_of (fun _ _ => drawOk Try.mixed) Try.func56 rfl rfl rfl (by kernel_rfl) (by kernel_rfl) hl h
/-! 57 paling/palingref26.timely : params [3], results [4], free 0, zeros [(.int .i64 (0))] -/
def Try.c57 : AC :=
 (.seq
  (.region 0 [⟨(some 2), none, (.p (.mv (.c (.bool false)))), false, []⟩] (some ⟨[0], [], false⟩))
  (.seq
   (.region 0 [⟨(some 3), none, (.p (.mv (.t 0))), false, []⟩,
     ⟨(some 4), none, (.p (.bin .geq (.t 3) (.c (.int .i64 0)))), false, []⟩,
     ⟨(some 5), none, (.p (.mv (.t 4))), false, []⟩,
     ⟨(some 6), (some (5, true)), (.p (.mv (.t 0))), false, []⟩,
     ⟨(some 7), (some (5, true)), (.p (.bin .leq (.t 6) (.c (.int .i64 1099511627776)))), false, []⟩,
     ⟨(some 8), none, (.p (.pick (.t 5) (.t 7) (.c (.bool false)))), false, []⟩,
     ⟨(some 2), none, (.p (.mv (.t 8))), false, []⟩] (some ⟨[2], [], false⟩))
   .ret))
theorem Try.run57 {xs : List AV} {r : AV} (hl : xs.length ≤ 9) (h : aw Try.prog Try.c57 (Pv.Ends [2] r) (entry xs)) : Run Try.prog 57 xs r :=
  run_of (fun _ _ => drawOk Try.mixed) Try.func57 rfl rfl rfl (by kernel_rfl) (by kernel_rfl) hl h
/-! 58 slices.Equal[[]paling/api.Entry,paling/api.Entry] : params [55, 55], results [4], free 0, zeros [(.slice none 0 0), (.slice none 0 0)] -/
def Try.c58b0 : AC :=
 (.seq
  (.region 0 [⟨(some 14), none, (.p (.bin .lss (.t 13) (.t 12))), false, []⟩] (some ⟨[0, 1, 12, 13, 14], [], false⟩))
  (.seq
   (.cond (.t 14)
    .skip
    (.exit 0))
   (.seq
    (.block 1
     (.seq
      (.region 0 [⟨(some 15), none, (.p (.mv (.t 13))), false, []⟩,
        ⟨(some 5), none, (.p (.mv (.t 15))), false, []⟩] (some ⟨[0, 1, 5, 12, 13], [], false⟩))
      (.seq
       (.region 9 [⟨(some 16), none, (.p (.mv (.t 0))), false, []⟩,
         ⟨(some 17), none, (.p (.mv (.t 5))), false, []⟩,
         ⟨(some 18), none, (.p (.iaddr 3 (.t 16) (.t 17))), false, []⟩,
         ⟨(some 19), none, (.r (.load 3 true (.t 18))), false, []⟩,
         ⟨(some 20), none, (.p (.mv (.t 1))), false, []⟩,
         ⟨(some 21), none, (.p (.mv (.t 5))), false, []⟩,
         ⟨(some 22), none, (.p (.iaddr 3 (.t 20) (.t 21))), false, []⟩,
         ⟨(some 23), none, (.r (.load 3 true (.t 22))), false, []⟩,
         ⟨(some 24), none, (.p (.eqS true [0, 0, 0] (.t 19) (.t 23))), false, []⟩] (some ⟨[0, 1, 12, 13, 24], [], true⟩))
       (.cond (.t 24)
        (.seq
         (.region 0 [⟨(some 4), none, (.p (.mv (.c (.bool false)))), false, []⟩] (some ⟨[4], [], false⟩))
         .ret)
        .skip))))
    (.region 0 [⟨(some 25), none, (.p (.bin .add (.t 13) (.c (.int .i64 1)))), false, []⟩,
      ⟨(some 13), none, (.p (.mv (.t 25))), false, []⟩] (some ⟨[0, 1, 12, 13], [], false⟩)))))
def Try.c58 : AC :=
 (.seq
  (.region 0 [⟨(some 4), none, (.p (.mv (.c (.bool false)))), false, []⟩] (some ⟨[0, 1], [], false⟩))
  (.seq
   (.seq
    (.region 0 [⟨(some 6), none, (.p (.mv (.t 0))), false, []⟩,
      ⟨(some 7), none, (.p (.len (.t 6))), false, []⟩,
      ⟨(some 8), none, (.p (.mv (.t 1))), false, []⟩,
      ⟨(some 9), none, (.p (.len (.t 8))), false, []⟩,
      ⟨(some 10), none, (.p (.bin .neq (.t 7) (.t 9))), false, []⟩] (some ⟨[0, 1, 10], [], false⟩))
    (.cond (.t 10)
     (.seq
      (.region 0 [⟨(some 4), none, (.p (.mv (.c (.bool false)))), false, []⟩] (some ⟨[4], [], false⟩))
      .ret)
     .skip))
   (.seq
    (.seq
     (.region 0 [⟨(some 11), none, (.p (.mv (.t 0))), false, []⟩,
       ⟨(some 12), none, (.p (.len (.t 11))), false, []⟩,
       ⟨(some 13), none, (.p (.mv (.c (.int .i64 0)))), false, []⟩] (some ⟨[0, 1, 12, 13], [], false⟩))
     (.block 0
      (.loop (some ⟨[0, 1, 12, 13], [], true⟩) Try.c58b0)))
    (.seq
     (.region 0 [⟨(some 4), none, (.p (.mv (.c (.bool true)))), false, []⟩] (some ⟨[4], [], false⟩))
     .ret))))
theorem Try.run58 {xs : List AV} {r : AV} (hl : xs.length ≤ 26) (h : aw Try.prog Try.c58 (Pv.Ends [4] r) (entry xs)) : Run Try.prog 58 xs r :=
  run_of (fun _ _ => drawOk Try.mixed) Try.func58 rfl rfl rfl (by kernel_rfl) (by kernel_rfl) hl h
/-! 59 slices.DeleteFunc[[]paling/api.Entry,paling/api.Entry] : params [55, 80], results [55], free 0, zeros [(.slice none 0 0), .nilFunc] -/
def Try.c59b0 : AC :=
 (.seq
  (.seq
   (.region 0 [⟨(some 16), none, (.p (.mv (.t 6))), false, []⟩,
     ⟨(some 17), none, (.p (.mv (.t 0))), false, []⟩,
     ⟨(some 18), none, (.p (.len (.t 17))), false, []⟩,
     ⟨(some 19), none, (.p (.bin .lss (.t 16) (.t 18))), false, []⟩] (some ⟨[0, 1, 5, 6, 19], [], false⟩))
   (.cond (.t 19)
    .skip
    (.exit 0)))
  (.seq
   (.block 1
    (.seq
     (.region 0 [⟨(some 22), none, (.p (.mv (.t 0))), false, []⟩,
       ⟨(some 23), none, (.p (.mv (.t 6))), false, []⟩,
       ⟨(some 24), none, (.p (.iaddr 3 (.t 22) (.t 23))), false, []⟩,
       ⟨(some 25), none, (.r (.load 3 true (.t 24))), false, []⟩,
       ⟨(some 7), none, (.e (.alloc 62 (.agg [(.int .u64 0), (.int .i64 0), (.int .i64 0)])) none), false, []⟩,
       ⟨none, none, (.e (.store 3 (.t 7) (.t 25)) none), false, []⟩] (some ⟨[0, 1, 5, 6, 7], [], false⟩))
     (.seq
      (.region 0 [⟨(some 26), none, (.p (.mv (.t 1))), false, []⟩,
        ⟨(some 27), none, (.r (.load 3 true (.t 7))), false, []⟩,
        ⟨(some 28), none, (.callv (.t 26) [(.t 27)]), false, []⟩,
        ⟨(some 29), none, (.p (.un .not (.t 28))), false, []⟩] (some ⟨[0, 1, 5, 6, 7, 29], [], false⟩))
      (.cond (.t 29)
       (.seq
        (.region 0 [⟨(some 30), none, (.p (.mv (.t 0))), false, []⟩,
          ⟨(some 31), none, (.p (.mv (.t 5))), false, []⟩,
          ⟨(some 32), none, (.r (.load 3 true (.t 7))), false, []⟩,
          ⟨(some 33), none, (.p (.iaddr 3 (.t 30) (.t 31))), false, []⟩,
          ⟨none, none, (.e (.store 3 (.t 33) (.t 32)) none), false, []⟩] (some ⟨[0, 1, 5, 6], [], false⟩))
        (.region 0 [⟨(some 34), none, (.p (.mv (.t 5))), false, []⟩,
          ⟨(some 35), none, (.p (.bin .add (.t 34) (.c (.int .i64 1)))), false, []⟩,
          ⟨(some 5), none, (.p (.mv (.t 35))), false, []⟩] (some ⟨[0, 1, 5, 6], [], false⟩)))
       .skip))))
   (.region 0 [⟨(some 20), none, (.p (.mv (.t 6))), false, []⟩,
     ⟨(some 21), none, (.p (.bin .add (.t 20) (.c (.int .i64 1)))), false, []⟩,
     ⟨(some 6), none, (.p (.mv (.t 21))), false, []⟩] (some ⟨[0, 1, 5, 6], [], false⟩))))
def Try.c59 : AC :=
 (.seq
  (.region 0 [⟨(some 4), none, (.p (.mv (.c (.sl 0 [] true)))), false, []⟩] (some ⟨[0, 1], [], false⟩))
  (.seq
   (.region 0 [⟨(some 8), none, (.p (.mv (.t 0))), false, []⟩,
     ⟨(some 9), none, (.p (.mv (.t 1))), false, []⟩,
     ⟨(some 10), none, (.call 62 [(.t 8), (.t 9)] false), false, []⟩,
     ⟨(some 5), none, (.p (.mv (.t 10))), false, []⟩] (some ⟨[0, 1, 5], [], false⟩))
   (.seq
    (.seq
     (.region 0 [⟨(some 11), none, (.p (.mv (.t 5))), false, []⟩,
       ⟨(some 12), none, (.p (.bin .eql (.t 11) (.c (.int .i64 (-1))))), false, []⟩] (some ⟨[0, 1, 5, 12], [], false⟩))
     (.cond (.t 12)
      (.seq
       (.region 0 [⟨(some 13), none, (.p (.mv (.t 0))), false, []⟩,
         ⟨(some 4), none, (.p (.mv (.t 13))), false, []⟩] (some ⟨[4], [], false⟩))
       .ret)
      .skip))
    (.seq
     (.seq
      (.region 0 [⟨(some 14), none, (.p (.mv (.t 5))), false, []⟩,
        ⟨(some 15), none, (.p (.bin .add (.t 14) (.c (.int .i64 1)))), false, []⟩,
        ⟨(some 6), none, (.p (.mv (.t 15))), false, []⟩] (some ⟨[0, 1, 5, 6], [], false⟩))
      (.block 0
       (.loop (some ⟨[0, 1, 5, 6], [], true⟩) Try.c59b0)))
     (.seq
      (.region 0 [⟨(some 36), none, (.p (.mv (.t 0))), false, []⟩,
        ⟨(some 37), none, (.p (.mv (.t 5))), false, []⟩,
        ⟨(some 38), none, (.p (.slicev 3 (.t 36) (some (.t 37)) none none)), false, []⟩,
        ⟨none, none, (.e (.clear 3 (.agg [(.int .u64 0), (.int .i64 0), (.int .i64 0)]) (.t 38)) none), false, []⟩] (some ⟨[0, 5], [], false⟩))
      (.seq
       (.region 0 [⟨(some 39), none, (.p (.mv (.t 0))), false, []⟩,
         ⟨(some 40), none, (.p (.mv (.t 5))), false, []⟩,
         ⟨(some 41), none, (.p (.slicev 3 (.t 39) none (some (.t 40)) none)), false, []⟩,
         ⟨(some 4), none, (.p (.mv (.t 41))), false, []⟩] (some ⟨[4], [], false⟩))
       .ret))))))
theorem Try.run59 {xs : List AV} {r : AV} (hl : xs.length ≤ 42) (h : aw Try.prog Try.c59 (Pv.Ends [4] r) (entry xs)) : Run Try.prog 59 xs r :=
  run_of (fun _ _ => drawOk Try.mixed) Try.func59 rfl rfl rfl (by kernel_rfl) (by kernel_rfl) hl h
def Try.g59b0 : AC :=
 (.seq
  (.seq
   (.region 0 [⟨(some 16), none, (.p (.mv (.t 6))), false, []⟩,
     ⟨(some 17), none, (.p (.mv (.t 0))), false, []⟩,
     ⟨(some 18), none, (.p (.len (.t 17))), false, []⟩,
     ⟨(some 19), none, (.p (.bin .lss (.t 16) (.t 18))), false, []⟩] (some ⟨[0, 1, 5, 6, 19], [], false⟩))
   (.cond (.t 19)
    .skip
    (.exit 0)))
  (.seq
   (.block 1
    (.seq
     (.region 0 [⟨(some 22), none, (.p (.mv (.t 0))), false, []⟩,
       ⟨(some 23), none, (.p (.mv (.t 6))), false, []⟩,
       ⟨(some 24), none, (.p (.iaddr 3 (.t 22) (.t 23))), false, []⟩,
       ⟨(some 25), none, (.r (.load 3 true (.t 24))), false, []⟩,
       ⟨(some 7), none, (.e (.alloc 62 (.agg [(.int .u64 0), (.int .i64 0), (.int .i64 0)])) none), false, []⟩,
       ⟨none, none, (.e (.store 3 (.t 7) (.t 25)) none), false, []⟩] (some ⟨[0, 1, 5, 6, 7], [], false⟩))
     (.seq
      (.region 0 [⟨(some 26), none, (.p (.mv (.t 1))), false, []⟩,
        ⟨(some 27), none, (.r (.load 3 true (.t 7))), false, []⟩,
        ⟨(some 28), none, (.callv (.t 26) [(.t 27)]), false, []⟩,
        ⟨(some 29), none, (.p (.un .not (.t 28))), false, []⟩] (some ⟨[0, 1, 5, 6, 7, 29], [], false⟩))
      (.cond (.t 29)
       (.seq
        (.region 0 [⟨(some 30), none, (.p (.mv (.t 0))), false, []⟩,
          ⟨(some 31), none, (.p (.mv (.t 5))), false, []⟩,
          ⟨(some 32), none, (.r (.load 3 true (.t 7))), false, []⟩,
          ⟨(some 33), none, (.p (.iaddr 3 (.t 30) (.t 31))), false, []⟩,
          ⟨none, none, (.e (.store 3 (.t 33) (.t 32)) none), false, []⟩] (some ⟨[0, 1, 5, 6], [], false⟩))
        (.region 0 [⟨(some 34), none, (.p (.mv (.t 5))), false, []⟩,
          ⟨(some 35), none, (.p (.bin .add (.t 34) (.c (.int .i64 1)))), false, []⟩,
          ⟨(some 5), none, (.p (.mv (.t 35))), false, []⟩] (some ⟨[0, 1, 5, 6], [], false⟩)))
       .skip))))
   (.region 0 [⟨(some 20), none, (.p (.mv (.t 6))), false, []⟩,
     ⟨(some 21), none, (.p (.bin .add (.t 20) (.c (.int .i64 1)))), false, []⟩,
     ⟨(some 6), none, (.p (.mv (.t 21))), false, []⟩] (some ⟨[0, 1, 5, 6], [], false⟩))))
def Try.g59 : AC :=
 (.seq
  (.region 0 [⟨(some 4), none, (.p (.mv (.c (.sl 0 [] true)))), false, []⟩] (some ⟨[0, 1], [], false⟩))
  (.seq
   (.region 0 [⟨(some 8), none, (.p (.mv (.t 0))), false, []⟩,
     ⟨(some 9), none, (.p (.mv (.t 1))), false, []⟩,
     ⟨(some 10), none, (.call 62 [(.t 8), (.t 9)] false), false, []⟩,
     ⟨(some 5), none, (.p (.mv (.t 10))), false, []⟩] (some ⟨[0, 1, 5], [], false⟩))
   (.seq
    (.seq
     (.region 0 [⟨(some 11), none, (.p (.mv (.t 5))), false, []⟩,
       ⟨(some 12), none, (.p (.bin .eql (.t 11) (.c (.int .i64 (-1))))), false, []⟩] (some ⟨[0, 1, 5, 12], [], false⟩))
     (.cond (.t 12)
      (.seq
       (.region 0 [⟨(some 13), none, (.p (.mv (.t 0))), false, []⟩,
         ⟨(some 4), none, (.p (.mv (.t 13))), false, []⟩] (some ⟨[4], [], false⟩))
       .ret)
      .skip))
    (.seq
     (.seq
      (.region 0 [⟨(some 14), none, (.p (.mv (.t 5))), false, []⟩,
        ⟨(some 15), none, (.p (.bin .add (.t 14) (.c (.int .i64 1)))), false, []⟩,
        ⟨(some 6), none, (.p (.mv (.t 15))), false, []⟩] (some ⟨[0, 1, 5, 6], [], false⟩))
      (.block 0
       (.loop (some ⟨[0, 1, 5, 6], [], false⟩) Try.g59b0)))
     (.seq
      (.region 0 [⟨(some 36), none, (.p (.mv (.t 0))), false, []⟩,
        ⟨(some 37), none, (.p (.mv (.t 5))), false, []⟩,
        ⟨(some 38), none, (.p (.slicev 3 (.t 36) (some (.t 37)) none none)), false, []⟩,
        ⟨none, none, (.e (.clear 3 (.agg [(.int .u64 0), (.int .i64 0), (.int .i64 0)]) (.t 38)) none), false, []⟩] (some ⟨[0, 5], [], false⟩))
      (.seq
       (.region 0 [⟨(some 39), none, (.p (.mv (.t 0))), false, []⟩,
         ⟨(some 40), none, (.p (.mv (.t 5))), false, []⟩,
         ⟨(some 41), none, (.p (.slicev 3 (.t 39) none (some (.t 40)) none)), false, []⟩,
         ⟨(some 4), none, (.p (.mv (.t 41))), false, []⟩] (some ⟨[4], [], false⟩))
       .ret))))))
theorem Try.gen59 {xs : List AV} {r : AV} {H H' : Hp} (hl : xs.length ≤ 42) (h : aw Try.prog Try.g59 (Pv.EndsG [4] r H') ⟨xs.zipIdx.map fun p => (p.2, p.1), H⟩) : Gen Try.prog 59 xs H r H' :=
  gen_of (fun _ _ => drawOk Try.mixed) Try.func59 rfl rfl rfl (by kernel_rfl) (by kernel_rfl) hl h
/-! 60 paling/table.Age.1 : params [62], results [4], free 1, zeros [(.agg #[(.int .u64 (0)), (.int .i64 (0)), (.int .i64 (0))])] -/
def Try.c60 : AC :=
 (.seq
  (.region 0 [⟨(some 2), none, (.e (.box 62 (.t 0)) none), false, []⟩,
    ⟨(some 3), none, (.p (.mv (.c (.bool false)))), false, []⟩] (some ⟨[1, 2], [], false⟩))
  (.seq
   (.region 0 [⟨(some 4), none, (.p (.faddr 2 (.t 2))), false, []⟩,
     ⟨(some 5), none, (.r (.load 1 false (.t 4))), false, []⟩,
     ⟨(some 6), none, (.r (.load 1 false (.t 1))), false, []⟩,
     ⟨(some 7), none, (.p (.bin .sub (.t 6) (.c (.int .i64 4)))), false, []⟩,
     ⟨(some 8), none, (.p (.bin .lss (.t 5) (.t 7))), false, []⟩,
     ⟨(some 3), none, (.p (.mv (.t 8))), false, []⟩] (some ⟨[3], [], false⟩))
   .ret))
theorem Try.run60 {xs : List AV} {r : AV} (hl : xs.length ≤ 9) (h : aw Try.prog Try.c60 (Pv.Ends [3] r) (entry xs)) : Run Try.prog 60 xs r :=
  run_of (fun _ _ => drawOk Try.mixed) Try.func60 rfl rfl rfl (by kernel_rfl) (by kernel_rfl) hl h
theorem Try.gen60 {xs : List AV} {r : AV} {H H' : Hp} (hl : xs.length ≤ 9) (h : aw Try.prog Try.c60 (Pv.EndsG [3] r H') ⟨xs.zipIdx.map fun p => (p.2, p.1), H⟩) : Gen Try.prog 60 xs H r H' :=
  gen_of (fun _ _ => drawOk Try.mixed) Try.func60 rfl rfl rfl (by kernel_rfl) (by kernel_rfl) hl h
/-! 61 paling/ether.Copy : params [26], results [26], free 0, zeros [(.agg #[(.int .u64 (0)), (.int .u64 (0)), (.int .i64 (0)), (.slice none 0 0)])] -/
def Try.c61 : AC :=
 (.seq
  (.region 0 [⟨(some 1), none, (.e (.box 26 (.t 0)) none), false, []⟩,
    ⟨(some 2), none, (.e (.alloc 26 (.agg [(.int .u64 0), (.int .u64 0), (.int .i64 0), (.sl 0 [] true)])) none), false, []⟩] (some ⟨[1, 2], [], false⟩))
  (.seq
   (.region 0 [⟨(some 4), none, (.p (.faddr 3 (.t 1))), false, []⟩,
     ⟨(some 5), none, (.r (.load 1 false (.t 4))), false, []⟩,
     ⟨(some 6), none, (.p (.len (.t 5))), false, []⟩,
     ⟨(some 7), none, (.e (.make 5 1 (.int .u8 0) (.t 6) (.t 6)) none), false, []⟩,
     ⟨(some 3), none, (.p (.mv (.t 7))), false, []⟩] (some ⟨[1, 2, 3], [], false⟩))
   (.seq
    (.region 0 [⟨(some 8), none, (.p (.mv (.t 3))), false, []⟩,
      ⟨(some 9), none, (.p (.faddr 3 (.t 1))), false, []⟩,
      ⟨(some 10), none, (.r (.load 1 false (.t 9))), false, []⟩,
      ⟨(some 11), none, (.e (.copy 1 (.t 8) (.t 10)) none), false, []⟩] (some ⟨[1, 2, 3], [], false⟩))
    (.seq
     (.region 0 [⟨(some 12), none, (.p (.mv (.t 3))), false, []⟩,
       ⟨(some 13), none, (.p (.faddr 3 (.t 1))), false, []⟩,
       ⟨none, none, (.e (.store 1 (.t 13) (.t 12)) none), false, []⟩] (some ⟨[1, 2], [], false⟩))
     (.seq
      (.region 0 [⟨(some 14), none, (.r (.load 4 true (.t 1))), false, []⟩,
        ⟨none, none, (.e (.store 4 (.t 2) (.t 14)) none), false, []⟩] (some ⟨[2], [], false⟩))
      .ret)))))
theorem Try.run61 {xs : List AV} {r : AV} (hl : xs.length ≤ 15) (h : aw Try.prog Try.c61 (Pv.EndsX (rvs [.c 2 4 true]) r) (entry xs)) : Run Try.prog 61 xs r :=
  run_ofC (fun _ _ => drawOk Try.mixed) Try.func61 rfl rfl (by kernel_rfl) (by kernel_rfl) (by kernel_rfl) hl h
/-! 62 slices.IndexFunc[[]paling/api.Entry,paling/api.Entry] : params [55, 80], results [3], free 0, zeros [(.slice none 0 0), .nilFunc] -/
def Try.c62b0 : AC :=
 (.seq
  (.region 0 [⟨(some 9), none, (.p (.bin .lss (.t 8) (.t 7))), false, []⟩] (some ⟨[0, 1, 7, 8, 9], [], false⟩))
  (.seq
   (.cond (.t 9)
    .skip
    (.exit 0))
   (.seq
    (.block 1
     (.seq
      (.region 0 [⟨(some 10), none, (.p (.mv (.t 8))), false, []⟩,
        ⟨(some 5), none, (.p (.mv (.t 10))), false, []⟩] (some ⟨[0, 1, 5, 7, 8], [], false⟩))
      (.seq
       (.region 0 [⟨(some 11), none, (.p (.mv (.t 1))), false, []⟩,
         ⟨(some 12), none, (.p (.mv (.t 0))), false, []⟩,
         ⟨(some 13), none, (.p (.mv (.t 5))), false, []⟩,
         ⟨(some 14), none, (.p (.iaddr 3 (.t 12) (.t 13))), false, []⟩,
         ⟨(some 15), none, (.r (.load 3 true (.t 14))), false, []⟩,
         ⟨(some 16), none, (.callv (.t 11) [(.t 15)]), false, []⟩] (some ⟨[0, 1, 5, 7, 8, 16], [], false⟩))
       (.cond (.t 16)
        (.seq
         (.region 0 [⟨(some 17), none, (.p (.mv (.t 5))), false, []⟩,
           ⟨(some 4), none, (.p (.mv (.t 17))), false, []⟩] (some ⟨[4], [], false⟩))
         .ret)
        .skip))))
    (.region 0 [⟨(some 18), none, (.p (.bin .add (.t 8) (.c (.int .i64 1)))), false, []⟩,
      ⟨(some 8), none, (.p (.mv (.t 18))), false, []⟩] (some ⟨[0, 1, 7, 8], [], false⟩)))))
def Try.c62 : AC :=
 (.seq
  (.region 0 [⟨(some 4), none, (.p (.mv (.c (.int .i64 0)))), false, []⟩] (some ⟨[0, 1], [], false⟩))
  (.seq
   (.seq
    (.region 0 [⟨(some 6), none, (.p (.mv (.t 0))), false, []⟩,
      ⟨(some 7), none, (.p (.len (.t 6))), false, []⟩,
      ⟨(some 8), none, (.p (.mv (.c (.int .i64 0)))), false, []⟩] (some ⟨[0, 1, 7, 8], [], false⟩))
    (.block 0
     (.loop (some ⟨[0, 1, 7, 8], [], true⟩) Try.c62b0)))
   (.seq
    (.region 0 [⟨(some 4), none, (.p (.mv (.c (.int .i64 (-1))))), false, []⟩] (some ⟨[4], [], false⟩))
    .ret)))
theorem Try.run62 {xs : List AV} {r : AV} (hl : xs.length ≤ 19) (h : aw Try.prog Try.c62 (Pv.Ends [4] r) (entry xs)) : Run Try.prog 62 xs r :=
  run_of (fun _ _ => drawOk Try.mixed) Try.func62 rfl rfl rfl (by kernel_rfl) (by kernel_rfl) hl h
/-! 63 paling/table.index.1 : params [62], results [4], free 1, zeros [(.agg #[(.int .u64 (0)), (.int .i64 (0)), (.int .i64 (0))])] -/
def Try.c63 : AC :=
 (.seq
  (.region 0 [⟨(some 2), none, (.e (.box 62 (.t 0)) none), false, []⟩,
    ⟨(some 3), none, (.p (.mv (.c (.bool false)))), false, []⟩] (some ⟨[1, 2], [], false⟩))
  (.seq
   (.region 0 [⟨(some 4), none, (.p (.faddr 0 (.t 2))), false, []⟩,
     ⟨(some 5), none, (.r (.load 1 false (.t 4))), false, []⟩,
     ⟨(some 6), none, (.r (.load 1 false (.t 1))), false, []⟩,
     ⟨(some 7), none, (.p (.bin .eql (.t 5) (.t 6))), false, []⟩,
     ⟨(some 3), none, (.p (.mv (.t 7))), false, []⟩] (some ⟨[3], [], false⟩))
   .ret))
theorem Try.run63 {xs : List AV} {r : AV} (hl : xs.length ≤ 8) (h : aw Try.prog Try.c63 (Pv.Ends [3] r) (entry xs)) : Run Try.prog 63 xs r :=
  run_of (fun _ _ => drawOk Try.mixed) Try.func63 rfl rfl rfl (by kernel_rfl) (by kernel_rfl) hl h
theorem Try.gen63 {xs : List AV} {r : AV} {H H' : Hp} (hl : xs.length ≤ 8) (h : aw Try.prog Try.c63 (Pv.EndsG [3] r H') ⟨xs.zipIdx.map fun p => (p.2, p.1), H⟩) : Gen Try.prog 63 xs H r H' :=
  gen_of (fun _ _ => drawOk Try.mixed) Try.func63 rfl rfl rfl (by kernel_rfl) (by kernel_rfl) hl h
/-! 64 paling/palingref01.Group : params [23], results [4], free 0, zeros [(.int .u64 (0))] -/
def Try.c64 : AC :=
 (.seq
  (.region 0 [⟨(some 2), none, (.p (.mv (.c (.bool false)))), false, []⟩] (some ⟨[0], [], false⟩))
  (.seq
   (.region 0 [⟨(some 3), none, (.p (.mv (.t 0))), false, []⟩,
     ⟨(some 4), none, (.call 65 [(.t 3)] false), false, []⟩,
     ⟨(some 5), none, (.p (.iaddr 1 (.t 4) (.c (.int .i64 0)))), false, []⟩,
     ⟨(some 6), none, (.r (.load 1 false (.t 5))), false, []⟩,
     ⟨(some 7), none, (.p (.bin .rem (.t 6) (.c (.int .u8 2)))), false, []⟩,
     ⟨(some 8), none, (.p (.bin .eql (.t 7) (.c (.int .u8 1)))), false, []⟩,
     ⟨(some 2), none, (.p (.mv (.t 8))), false, []⟩] (some ⟨[2], [], false⟩))
   .ret))
theorem Try.run64 {xs : List AV} {r : AV} (hl : xs.length ≤ 9) (h : aw Try.prog Try.c64 (Pv.Ends [2] r) (entry xs)) : Run Try.prog 64 xs r :=
  run_of (fun _ _ => drawOk Try.mixed) Try.func64 rfl rfl rfl (by kernel_rfl) (by kernel_rfl) hl h
/-! 65 paling/palingref01.Bytes : params [23], results [24], free 0, zeros [(.int .u64 (0))] -/
def Try.c65b0 : AC :=
 (.seq
  (.seq
   (.region 0 [⟨(some 12), none, (.p (.mv (.t 6))), false, []⟩,
     ⟨(some 13), none, (.p (.mv (.t 4))), false, []⟩,
     ⟨(some 14), none, (.p (.bin .lss (.t 12) (.t 13))), false, []⟩] (some ⟨[0, 3, 4, 5, 6, 14], [], false⟩))
   (.cond (.t 14)
    .skip
    (.exit 2)))
  (.seq
   (.block 3
    (.region 0 [⟨(some 17), none, (.p (.mv (.t 5))), false, []⟩,
      ⟨(some 18), none, (.p (.bin .quo (.t 17) (.c (.int .u64 256)))), false, []⟩,
      ⟨(some 5), none, (.p (.mv (.t 18))), false, []⟩] (some ⟨[0, 3, 4, 5, 6], [], false⟩)))
   (.region 0 [⟨(some 15), none, (.p (.mv (.t 6))), false, []⟩,
     ⟨(some 16), none, (.p (.bin .add (.t 15) (.c (.int .i64 1)))), false, []⟩,
     ⟨(some 6), none, (.p (.mv (.t 16))), false, []⟩] (some ⟨[0, 3, 4, 5, 6], [], false⟩))))
def Try.c65b1 : AC :=
 (.seq
  (.seq
   (.region 0 [⟨(some 7), none, (.p (.mv (.t 4))), false, []⟩,
     ⟨(some 8), none, (.p (.bin .geq (.t 7) (.c (.int .i64 0)))), false, []⟩] (some ⟨[0, 3, 4, 8], [], false⟩))
   (.cond (.t 8)
    .skip
    (.exit 0)))
  (.seq
   (.block 1
    (.seq
     (.region 0 [⟨(some 11), none, (.p (.mv (.t 0))), false, []⟩,
       ⟨(some 5), none, (.p (.mv (.t 11))), false, []⟩] (some ⟨[0, 3, 4, 5], [], false⟩))
     (.seq
      (.seq
       (.region 0 [⟨(some 6), none, (.p (.mv (.c (.int .i64 0)))), false, []⟩] (some ⟨[0, 3, 4, 5, 6], [], false⟩))
       (.block 2
        (.loop (some ⟨[0, 3, 4, 5, 6], [], true⟩) Try.c65b0)))
      (.region 0 [⟨(some 19), none, (.p (.mv (.t 3))), false, []⟩,
        ⟨(some 20), none, (.p (.mv (.t 5))), false, []⟩,
        ⟨(some 21), none, (.p (.bin .rem (.t 20) (.c (.int .u64 256)))), false, []⟩,
        ⟨(some 22), none, (.p (.convI .u8 (.t 21))), false, []⟩,
        ⟨(some 23), none, (.e (.mks 5 1 (.int .u8 0) 1 [(0, (.t 22))]) none), false, []⟩,
        ⟨(some 24), none, (.e (.append 5 1 (.t 19) (.t 23)) none), false, []⟩,
        ⟨(some 3), none, (.p (.mv (.t 24))), false, []⟩] (some ⟨[0, 3, 4], [], false⟩)))))
   (.region 0 [⟨(some 9), none, (.p (.mv (.t 4))), false, []⟩,
     ⟨(some 10), none, (.p (.bin .sub (.t 9) (.c (.int .i64 1)))), false, []⟩,
     ⟨(some 4), none, (.p (.mv (.t 10))), false, []⟩] (some ⟨[0, 3, 4], [], false⟩))))
def Try.c65 : AC :=
 (.seq
  (.region 0 [⟨(some 2), none, (.p (.mv (.c (.sl 0 [] true)))), false, []⟩] (some ⟨[0], [], false⟩))
  (.seq
   (.region 0 [⟨(some 3), none, (.p (.mv (.c (.sl 0 [] true)))), false, []⟩] (some ⟨[0, 3], [], false⟩))
   (.seq
    (.seq
     (.region 0 [⟨(some 4), none, (.p (.mv (.c (.int .i64 5)))), false, []⟩] (some ⟨[0, 3, 4], [], false⟩))
     (.block 0
      (.loop (some ⟨[0, 3, 4], [(3, (1, 5))], true⟩) Try.c65b1)))
    (.seq
     (.region 0 [⟨(some 25), none, (.p (.mv (.t 3))), false, []⟩,
       ⟨(some 2), none, (.p (.mv (.t 25))), false, []⟩] (some ⟨[2], [], false⟩))
     .ret))))
theorem Try.run65 {xs : List AV} {r : AV} (hl : xs.length ≤ 26) (h : aw Try.prog Try.c65 (Pv.Ends [2] r) (entry xs)) : Run Try.prog 65 xs r :=
  run_of (fun _ _ => drawOk Try.mixed) Try.func65 rfl rfl rfl (by kernel_rfl) (by kernel_rfl) hl h
end Go.Proofs
