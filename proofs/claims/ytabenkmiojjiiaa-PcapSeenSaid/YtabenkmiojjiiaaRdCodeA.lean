/- The compiled code of this seat, part 1, and the rules that run it. (Printed by a program of ours.) -/
import Derived.Test.YtabenkmiojjiiaaPvZG
import Derived.Test.YtabenkmiojjiiaaProg
namespace Go.Proofs
open Go.Pv
theorem Try.mixed : Try.prog.follows .mixedOrders = true := by kernel_rfl
/-! 2 gosem.cut.init : params [], results [], free 0, zeros [] -/
def Try.c2 : AC :=
 (.region 0 [⟨(some 0), none, (.call 1 [] false), false, []⟩] (some ⟨[], [], false⟩))
theorem Try.run2 {xs : List AV} {r : AV} (hl : xs.length ≤ 1) (h : aw Try.prog Try.c2 (Pv.Ends [] r) (entry xs)) : Run Try.prog 2 xs r :=
  run_of (fun _ _ => drawOk Try.mixed) Try.func2 rfl rfl rfl (by kernel_rfl) (by kernel_rfl) hl h
/-! 3 paling/palinglaw48.DiffRows : params [22, 22], results [4], free 0, zeros [(.slice none 0 0), (.slice none 0 0)] -/
def Try.c3 : AC :=
 (.seq
  (.region 0 [⟨(some 4), none, (.p (.mv (.c (.bool false)))), false, []⟩] (some ⟨[0, 1], [], false⟩))
  (.seq
   (.seq
    (.region 0 [⟨(some 9), none, (.p (.mv (.t 0))), false, []⟩,
      ⟨(some 10), none, (.call 13 [(.t 9)] false), false, []⟩,
      ⟨(some 11), none, (.p (.mv (.t 10))), false, []⟩,
      ⟨(some 12), (some (11, false)), (.p (.mv (.t 1))), false, []⟩,
      ⟨(some 13), (some (11, false)), (.call 13 [(.t 12)] false), false, []⟩,
      ⟨(some 14), none, (.p (.pick (.t 11) (.c (.bool true)) (.t 13))), false, []⟩] (some ⟨[0, 1, 14], [], false⟩))
    (.cond (.t 14)
     (.seq
      (.region 0 [⟨(some 15), none, (.call 14 [] false), false, []⟩,
        ⟨(some 4), none, (.p (.mv (.t 15))), false, []⟩] (some ⟨[4], [], false⟩))
      .ret)
     .skip))
   (.seq
    (.region 0 [⟨(some 17), none, (.p (.mv (.t 0))), false, []⟩,
      ⟨(some 18), none, (.p (.mv (.t 1))), false, []⟩,
      ⟨(some 19), none, (.call 15 [(.t 17), (.t 18)] false), false, []⟩,
      ⟨(some 16), none, (.p (.mv (.t 19))), false, []⟩,
      ⟨(some 20), none, (.p (.ext (.t 16) 0)), false, []⟩,
      ⟨(some 21), none, (.p (.ext (.t 16) 1)), false, []⟩,
      ⟨(some 5), none, (.p (.mv (.t 20))), false, []⟩,
      ⟨(some 6), none, (.p (.mv (.t 21))), false, []⟩] (some ⟨[0, 1, 5, 6], [], false⟩))
    (.seq
     (.region 0 [⟨(some 23), none, (.p (.mv (.t 0))), false, []⟩,
       ⟨(some 24), none, (.p (.mv (.t 1))), false, []⟩,
       ⟨(some 25), none, (.call 16 [(.t 23), (.t 24)] false), false, []⟩,
       ⟨(some 22), none, (.p (.mv (.t 25))), false, []⟩,
       ⟨(some 26), none, (.p (.ext (.t 22) 0)), false, []⟩,
       ⟨(some 27), none, (.p (.ext (.t 22) 1)), false, []⟩,
       ⟨(some 7), none, (.p (.mv (.t 26))), false, []⟩,
       ⟨(some 8), none, (.p (.mv (.t 27))), false, []⟩] (some ⟨[5, 6, 7, 8], [], false⟩))
     (.seq
      (.region 0 [⟨(some 28), none, (.p (.mv (.t 5))), false, []⟩,
        ⟨(some 29), none, (.call 18 [(.t 28)] false), false, []⟩,
        ⟨(some 30), none, (.p (.mv (.t 7))), false, []⟩,
        ⟨(some 31), none, (.call 17 [(.t 29), (.t 30)] false), false, []⟩,
        ⟨(some 32), none, (.p (.mv (.t 31))), false, []⟩,
        ⟨(some 33), (some (32, true)), (.p (.mv (.t 6))), false, []⟩,
        ⟨(some 34), (some (32, true)), (.p (.mv (.t 8))), false, []⟩,
        ⟨(some 35), (some (32, true)), (.p (.bin .eql (.t 33) (.t 34))), false, []⟩,
        ⟨(some 36), none, (.p (.pick (.t 32) (.t 35) (.c (.bool false)))), false, []⟩,
        ⟨(some 37), none, (.p (.mv (.t 36))), false, []⟩,
        ⟨(some 38), (some (37, true)), (.call 14 [] false), false, []⟩,
        ⟨(some 39), none, (.p (.pick (.t 37) (.t 38) (.c (.bool false)))), false, []⟩,
        ⟨(some 4), none, (.p (.mv (.t 39))), false, []⟩] (some ⟨[4], [], false⟩))
      .ret)))))
theorem Try.run3 {xs : List AV} {r : AV} (hl : xs.length ≤ 40) (h : aw Try.prog Try.c3 (Pv.Ends [4] r) (entry xs)) : Run Try.prog 3 xs r :=
  run_of (fun _ _ => drawOk Try.mixed) Try.func3 rfl rfl rfl (by kernel_rfl) (by kernel_rfl) hl h
/-! 4 paling/palinglaw48.DiffFew : params [22, 22, 22, 25], results [4], free 0, zeros [(.slice none 0 0), (.slice none 0 0), (.slice none 0 0), (.slice none 0 0)] -/
def Try.c4 : AC :=
 (.seq
  (.region 0 [⟨(some 8), none, (.p (.mv (.c (.bool false)))), false, []⟩] (some ⟨[0, 1, 2, 3], [], false⟩))
  (.seq
   (.seq
    (.region 0 [⟨(some 19), none, (.call 14 [] false), false, []⟩,
      ⟨(some 20), none, (.p (.un .not (.t 19))), false, []⟩] (some ⟨[0, 1, 2, 3, 20], [], false⟩))
    (.cond (.t 20)
     (.seq
      (.region 0 [⟨(some 8), none, (.p (.mv (.c (.bool false)))), false, []⟩] (some ⟨[8], [], false⟩))
      .ret)
     .skip))
   (.seq
    (.seq
     (.region 0 [⟨(some 21), none, (.p (.mv (.t 0))), false, []⟩,
       ⟨(some 22), none, (.call 13 [(.t 21)] false), false, []⟩,
       ⟨(some 23), none, (.p (.mv (.t 22))), false, []⟩,
       ⟨(some 24), (some (23, false)), (.p (.mv (.t 1))), false, []⟩,
       ⟨(some 25), (some (23, false)), (.call 13 [(.t 24)] false), false, []⟩,
       ⟨(some 26), none, (.p (.pick (.t 23) (.c (.bool true)) (.t 25))), false, []⟩,
       ⟨(some 27), none, (.p (.mv (.t 26))), false, []⟩,
       ⟨(some 28), (some (27, false)), (.p (.mv (.t 2))), false, []⟩,
       ⟨(some 29), (some (27, false)), (.call 13 [(.t 28)] false), false, []⟩,
       ⟨(some 30), none, (.p (.pick (.t 27) (.c (.bool true)) (.t 29))), false, []⟩,
       ⟨(some 31), none, (.p (.mv (.t 30))), false, []⟩,
       ⟨(some 32), (some (31, false)), (.p (.mv (.t 3))), false, []⟩,
       ⟨(some 33), (some (31, false)), (.call 19 [(.t 32)] false), false, []⟩,
       ⟨(some 34), none, (.p (.pick (.t 31) (.c (.bool true)) (.t 33))), false, []⟩] (some ⟨[0, 1, 2, 3, 34], [], false⟩))
     (.cond (.t 34)
      (.seq
       (.region 0 [⟨(some 8), none, (.p (.mv (.c (.bool true)))), false, []⟩] (some ⟨[8], [], false⟩))
       .ret)
      .skip))
    (.seq
     (.region 0 [⟨(some 36), none, (.p (.mv (.t 0))), false, []⟩,
       ⟨(some 37), none, (.p (.mv (.t 1))), false, []⟩,
       ⟨(some 38), none, (.call 15 [(.t 36), (.t 37)] false), false, []⟩,
       ⟨(some 35), none, (.p (.mv (.t 38))), false, []⟩,
       ⟨(some 39), none, (.p (.ext (.t 35) 0)), false, []⟩,
       ⟨(some 40), none, (.p (.ext (.t 35) 1)), false, []⟩,
       ⟨(some 9), none, (.p (.mv (.t 39))), false, []⟩,
       ⟨(some 10), none, (.p (.mv (.t 40))), false, []⟩] (some ⟨[0, 1, 2, 3, 9], [], false⟩))
     (.seq
      (.region 0 [⟨(some 42), none, (.p (.mv (.t 1))), false, []⟩,
        ⟨(some 43), none, (.p (.mv (.t 2))), false, []⟩,
        ⟨(some 44), none, (.call 15 [(.t 42), (.t 43)] false), false, []⟩,
        ⟨(some 41), none, (.p (.mv (.t 44))), false, []⟩,
        ⟨(some 45), none, (.p (.ext (.t 41) 0)), false, []⟩,
        ⟨(some 46), none, (.p (.ext (.t 41) 1)), false, []⟩,
        ⟨(some 11), none, (.p (.mv (.t 45))), false, []⟩,
        ⟨(some 12), none, (.p (.mv (.t 46))), false, []⟩] (some ⟨[0, 1, 2, 3, 9, 11], [], false⟩))
      (.seq
       (.region 0 [⟨(some 48), none, (.p (.mv (.t 0))), false, []⟩,
         ⟨(some 49), none, (.p (.mv (.t 2))), false, []⟩,
         ⟨(some 50), none, (.call 15 [(.t 48), (.t 49)] false), false, []⟩,
         ⟨(some 47), none, (.p (.mv (.t 50))), false, []⟩,
         ⟨(some 51), none, (.p (.ext (.t 47) 0)), false, []⟩,
         ⟨(some 52), none, (.p (.ext (.t 47) 1)), false, []⟩,
         ⟨(some 13), none, (.p (.mv (.t 51))), false, []⟩,
         ⟨(some 14), none, (.p (.mv (.t 52))), false, []⟩] (some ⟨[0, 1, 3, 9, 11, 13], [], false⟩))
       (.seq
        (.region 0 [⟨(some 54), none, (.p (.mv (.t 0))), false, []⟩,
          ⟨(some 55), none, (.p (.mv (.t 3))), false, []⟩,
          ⟨(some 56), none, (.call 20 [(.t 54), (.t 55)] false), false, []⟩,
          ⟨(some 53), none, (.p (.mv (.t 56))), false, []⟩,
          ⟨(some 57), none, (.p (.ext (.t 53) 0)), false, []⟩,
          ⟨(some 58), none, (.p (.ext (.t 53) 1)), false, []⟩,
          ⟨(some 15), none, (.p (.mv (.t 57))), false, []⟩,
          ⟨(some 16), none, (.p (.mv (.t 58))), false, []⟩] (some ⟨[0, 1, 3, 9, 11, 13, 15, 16], [], false⟩))
        (.seq
         (.region 0 [⟨(some 60), none, (.p (.mv (.t 0))), false, []⟩,
           ⟨(some 61), none, (.p (.mv (.t 15))), false, []⟩,
           ⟨(some 62), none, (.call 15 [(.t 60), (.t 61)] false), false, []⟩,
           ⟨(some 59), none, (.p (.mv (.t 62))), false, []⟩,
           ⟨(some 63), none, (.p (.ext (.t 59) 0)), false, []⟩,
           ⟨(some 64), none, (.p (.ext (.t 59) 1)), false, []⟩,
           ⟨(some 17), none, (.p (.mv (.t 63))), false, []⟩,
           ⟨(some 18), none, (.p (.mv (.t 64))), false, []⟩] (some ⟨[0, 1, 3, 9, 11, 13, 16, 17], [], false⟩))
         (.seq
          (.region 0 [⟨(some 65), none, (.p (.mv (.t 9))), false, []⟩,
            ⟨(some 66), none, (.call 21 [(.t 65)] false), false, []⟩,
            ⟨(some 67), none, (.p (.bin .eql (.t 66) (.c (.int .i64 0)))), false, []⟩,
            ⟨(some 68), none, (.p (.mv (.t 0))), false, []⟩,
            ⟨(some 69), none, (.p (.mv (.t 1))), false, []⟩,
            ⟨(some 70), none, (.call 22 [(.t 68), (.t 69)] false), false, []⟩,
            ⟨(some 71), none, (.p (.binB .eql (.t 67) (.t 70))), false, []⟩,
            ⟨(some 72), none, (.p (.mv (.t 71))), false, []⟩,
            ⟨(some 73), (some (72, true)), (.p (.mv (.t 13))), false, []⟩,
            ⟨(some 74), (some (72, true)), (.call 21 [(.t 73)] false), false, []⟩,
            ⟨(some 75), (some (72, true)), (.p (.mv (.t 9))), false, []⟩,
            ⟨(some 76), (some (72, true)), (.call 21 [(.t 75)] false), false, []⟩,
            ⟨(some 77), (some (72, true)), (.p (.mv (.t 11))), false, []⟩,
            ⟨(some 78), (some (72, true)), (.call 21 [(.t 77)] false), false, []⟩,
            ⟨(some 79), (some (72, true)), (.p (.bin .add (.t 76) (.t 78))), false, []⟩,
            ⟨(some 80), (some (72, true)), (.p (.bin .leq (.t 74) (.t 79))), false, []⟩,
            ⟨(some 81), none, (.p (.pick (.t 72) (.t 80) (.c (.bool false)))), false, []⟩,
            ⟨(some 82), none, (.p (.mv (.t 81))), false, []⟩,
            ⟨(some 83), (some (82, true)), (.p (.mv (.t 16))), false, []⟩,
            ⟨(some 84), (some (82, true)), (.p (.un .not (.t 83))), false, []⟩,
            ⟨(some 85), (some (82, true)), (.p (.mv (.t 84))), false, []⟩,
            ⟨(some 86), (some (85, false)), (.p (.mv (.t 17))), false, []⟩,
            ⟨(some 87), (some (85, false)), (.call 21 [(.t 86)] false), false, []⟩,
            ⟨(some 88), (some (85, false)), (.p (.mv (.t 3))), false, []⟩,
            ⟨(some 89), (some (85, false)), (.call 21 [(.t 88)] false), false, []⟩,
            ⟨(some 90), (some (85, false)), (.p (.bin .leq (.t 87) (.t 89))), false, []⟩,
            ⟨(some 91), (some (82, true)), (.p (.pick (.t 85) (.c (.bool true)) (.t 90))), false, []⟩,
            ⟨(some 92), none, (.p (.pick (.t 82) (.t 91) (.c (.bool false)))), false, []⟩,
            ⟨(some 8), none, (.p (.mv (.t 92))), false, []⟩] (some ⟨[8], [], false⟩))
          .ret)))))))))
theorem Try.run4 {xs : List AV} {r : AV} (hl : xs.length ≤ 93) (h : aw Try.prog Try.c4 (Pv.Ends [8] r) (entry xs)) : Run Try.prog 4 xs r :=
  run_of (fun _ _ => drawOk Try.mixed) Try.func4 rfl rfl rfl (by kernel_rfl) (by kernel_rfl) hl h
/-! 5 paling/palinglaw46.PcapPuts : params [40], results [4], free 0, zeros [(.slice none 0 0)] -/
def Try.c5b0 : AC :=
 (.seq
  (.region 0 [⟨(some 15), none, (.p (.bin .lss (.t 14) (.t 13))), false, []⟩] (some ⟨[0, 12, 13, 14, 15], [], false⟩))
  (.seq
   (.cond (.t 15)
    .skip
    (.exit 0))
   (.seq
    (.block 1
     (.seq
      (.region 0 [⟨(some 16), none, (.p (.iaddr 4 (.t 12) (.t 14))), false, []⟩,
        ⟨(some 17), none, (.r (.load 4 true (.t 16))), false, []⟩,
        ⟨(some 4), none, (.e (.alloc 44 (.agg [(.int .i64 0), (.int .i64 0), (.int .i64 0), (.sl 0 [] true)])) none), false, []⟩,
        ⟨none, none, (.e (.store 4 (.t 4) (.t 17)) none), false, []⟩] (some ⟨[0, 4, 12, 13, 14], [], false⟩))
      (.seq
       (.region 13 [⟨(some 18), none, (.r (.load 4 true (.t 4))), false, []⟩,
         ⟨(some 20), none, (.p (.faddr 0 (.t 4))), false, []⟩,
         ⟨(some 21), none, (.r (.load 1 false (.t 20))), false, []⟩,
         ⟨(some 22), none, (.p (.faddr 1 (.t 4))), false, []⟩,
         ⟨(some 23), none, (.r (.load 1 false (.t 22))), false, []⟩,
         ⟨(some 24), none, (.p (.faddr 2 (.t 4))), false, []⟩,
         ⟨(some 25), none, (.r (.load 1 false (.t 24))), false, []⟩,
         ⟨(some 26), none, (.p (.faddr 3 (.t 4))), false, []⟩,
         ⟨(some 27), none, (.r (.load 1 false (.t 26))), false, []⟩,
         ⟨(some 28), none, (.p (.build [(.int .i64 0), (.int .i64 0), (.int .i64 0), (.sl 0 [] true)] [(0, 1, (.t 21)), (1, 1, (.t 23)), (2, 1, (.t 25)), (3, 1, (.t 27))])), false, []⟩,
         ⟨(some 19), none, (.call 25 [(.t 18)] true), false, []⟩,
         ⟨(some 29), none, (.call 26 [(.t 28)] true), false, []⟩,
         ⟨(some 30), none, (.p (.binB .neq (.t 19) (.t 29))), false, []⟩] (some ⟨[0, 12, 13, 14, 30], [], true⟩))
       (.cond (.t 30)
        (.seq
         (.region 0 [⟨(some 2), none, (.p (.mv (.c (.bool false)))), false, []⟩] (some ⟨[2], [], false⟩))
         .ret)
        .skip))))
    (.region 0 [⟨(some 31), none, (.p (.bin .add (.t 14) (.c (.int .i64 1)))), false, []⟩,
      ⟨(some 14), none, (.p (.mv (.t 31))), false, []⟩] (some ⟨[0, 12, 13, 14], [], false⟩)))))
def Try.c5 : AC :=
 (.seq
  (.region 0 [⟨(some 2), none, (.p (.mv (.c (.bool false)))), false, []⟩] (some ⟨[0], [], false⟩))
  (.seq
   (.seq
    (.region 0 [⟨(some 9), none, (.p (.mv (.t 0))), false, []⟩,
      ⟨(some 10), none, (.call 23 [(.t 9)] false), false, []⟩] (some ⟨[0, 10], [], false⟩))
    (.cond (.t 10)
     (.seq
      (.region 0 [⟨(some 11), none, (.call 24 [] false), false, []⟩,
        ⟨(some 2), none, (.p (.mv (.t 11))), false, []⟩] (some ⟨[2], [], false⟩))
      .ret)
     .skip))
   (.seq
    (.seq
     (.region 0 [⟨(some 12), none, (.p (.mv (.t 0))), false, []⟩,
       ⟨(some 13), none, (.p (.len (.t 12))), false, []⟩,
       ⟨(some 14), none, (.p (.mv (.c (.int .i64 0)))), false, []⟩] (some ⟨[0, 12, 13, 14], [], false⟩))
     (.block 0
      (.loop (some ⟨[0, 12, 13, 14], [], true⟩) Try.c5b0)))
    (.seq
     (.region 0 [⟨(some 33), none, (.p (.mv (.t 0))), false, []⟩,
       ⟨(some 34), none, (.call 27 [(.t 33)] false), false, []⟩,
       ⟨(some 32), none, (.p (.mv (.t 34))), false, []⟩,
       ⟨(some 35), none, (.p (.ext (.t 32) 0)), false, []⟩,
       ⟨(some 36), none, (.p (.ext (.t 32) 1)), false, []⟩,
       ⟨(some 5), none, (.p (.mv (.t 35))), false, []⟩,
       ⟨(some 6), none, (.p (.mv (.t 36))), false, []⟩] (some ⟨[0, 5, 6], [], false⟩))
     (.seq
      (.region 0 [⟨(some 38), none, (.p (.mv (.t 0))), false, []⟩,
        ⟨(some 39), none, (.call 29 [(.t 38)] false), false, []⟩,
        ⟨(some 40), none, (.call 28 [(.t 39)] false), false, []⟩,
        ⟨(some 37), none, (.p (.mv (.t 40))), false, []⟩,
        ⟨(some 41), none, (.p (.ext (.t 37) 0)), false, []⟩,
        ⟨(some 42), none, (.p (.ext (.t 37) 1)), false, []⟩,
        ⟨(some 7), none, (.p (.mv (.t 41))), false, []⟩,
        ⟨(some 8), none, (.p (.mv (.t 42))), false, []⟩] (some ⟨[5, 6, 7, 8], [], false⟩))
      (.seq
       (.region 0 [⟨(some 43), none, (.p (.mv (.t 5))), false, []⟩,
         ⟨(some 44), none, (.r (.b2s (.t 43))), false, []⟩,
         ⟨(some 45), none, (.p (.mv (.t 7))), false, []⟩,
         ⟨(some 46), none, (.r (.b2s (.t 45))), false, []⟩,
         ⟨(some 47), none, (.p (.bin .eql (.t 44) (.t 46))), false, []⟩,
         ⟨(some 48), none, (.p (.mv (.t 47))), false, []⟩,
         ⟨(some 49), (some (48, true)), (.p (.mv (.t 6))), false, []⟩,
         ⟨(some 50), (some (48, true)), (.p (.mv (.t 8))), false, []⟩,
         ⟨(some 51), (some (48, true)), (.p (.bin .eql (.t 49) (.t 50))), false, []⟩,
         ⟨(some 52), none, (.p (.pick (.t 48) (.t 51) (.c (.bool false)))), false, []⟩,
         ⟨(some 53), none, (.p (.mv (.t 52))), false, []⟩,
         ⟨(some 54), (some (53, true)), (.call 24 [] false), false, []⟩,
         ⟨(some 55), none, (.p (.pick (.t 53) (.t 54) (.c (.bool false)))), false, []⟩,
         ⟨(some 2), none, (.p (.mv (.t 55))), false, []⟩] (some ⟨[2], [], false⟩))
       .ret))))))
theorem Try.run5 {xs : List AV} {r : AV} (hl : xs.length ≤ 56) (h : aw Try.prog Try.c5 (Pv.Ends [2] r) (entry xs)) : Run Try.prog 5 xs r :=
  run_of (fun _ _ => drawOk Try.mixed) Try.func5 rfl rfl rfl (by kernel_rfl) (by kernel_rfl) hl h
/-! 6 paling/palinglaw46.PcapSeen : params [54, 3], results [4], free 0, zeros [(.slice none 0 0), (.int .i64 (0))] -/
def Try.c6b0 : AC :=
 (.seq
  (.seq
   (.region 0 [⟨(some 7), none, (.p (.mv (.t 6))), false, []⟩,
     ⟨(some 8), none, (.p (.mv (.t 0))), false, []⟩,
     ⟨(some 9), none, (.p (.len (.t 8))), false, []⟩,
     ⟨(some 10), none, (.p (.bin .lss (.t 7) (.t 9))), false, []⟩,
     ⟨(some 11), none, (.p (.mv (.t 10))), false, []⟩,
     ⟨(some 12), (some (11, true)), (.p (.mv (.t 6))), false, []⟩,
     ⟨(some 13), (some (11, true)), (.p (.bin .lss (.t 12) (.c (.int .i64 201)))), false, []⟩,
     ⟨(some 14), none, (.p (.pick (.t 11) (.t 13) (.c (.bool false)))), false, []⟩] (some ⟨[0, 1, 5, 6, 14], [], false⟩))
   (.cond (.t 14)
    .skip
    (.exit 0)))
  (.seq
   (.block 1
    (.seq
     (.seq
      (.region 0 [⟨(some 17), none, (.p (.mv (.t 0))), false, []⟩,
        ⟨(some 18), none, (.p (.mv (.t 6))), false, []⟩,
        ⟨(some 19), none, (.p (.iaddr 3 (.t 17) (.t 18))), false, []⟩,
        ⟨(some 20), none, (.p (.faddr 2 (.t 19))), false, []⟩,
        ⟨(some 21), none, (.r (.load 1 false (.t 20))), false, []⟩,
        ⟨(some 22), none, (.p (.len (.t 21))), false, []⟩,
        ⟨(some 23), none, (.p (.bin .gtr (.t 22) (.c (.int .i64 70000)))), false, []⟩,
        ⟨(some 24), none, (.p (.mv (.t 23))), false, []⟩,
        ⟨(some 25), (some (24, false)), (.p (.mv (.t 5))), false, []⟩,
        ⟨(some 26), (some (24, false)), (.p (.bin .gtr (.t 25) (.c (.int .i64 70000)))), false, []⟩,
        ⟨(some 27), none, (.p (.pick (.t 24) (.c (.bool true)) (.t 26))), false, []⟩] (some ⟨[0, 1, 5, 6, 27], [], false⟩))
      (.cond (.t 27)
       (.seq
        (.region 0 [⟨(some 28), none, (.call 24 [] false), false, []⟩,
          ⟨(some 4), none, (.p (.mv (.t 28))), false, []⟩] (some ⟨[4], [], false⟩))
        .ret)
       .skip))
     (.region 0 [⟨(some 29), none, (.p (.mv (.t 5))), false, []⟩,
       ⟨(some 30), none, (.p (.mv (.t 0))), false, []⟩,
       ⟨(some 31), none, (.p (.mv (.t 6))), false, []⟩,
       ⟨(some 32), none, (.p (.iaddr 3 (.t 30) (.t 31))), false, []⟩,
       ⟨(some 33), none, (.p (.faddr 2 (.t 32))), false, []⟩,
       ⟨(some 34), none, (.r (.load 1 false (.t 33))), false, []⟩,
       ⟨(some 35), none, (.p (.len (.t 34))), false, []⟩,
       ⟨(some 36), none, (.p (.bin .add (.t 29) (.t 35))), false, []⟩,
       ⟨(some 5), none, (.p (.mv (.t 36))), false, []⟩] (some ⟨[0, 1, 5, 6], [], false⟩))))
   (.region 0 [⟨(some 15), none, (.p (.mv (.t 6))), false, []⟩,
     ⟨(some 16), none, (.p (.bin .add (.t 15) (.c (.int .i64 1)))), false, []⟩,
     ⟨(some 6), none, (.p (.mv (.t 16))), false, []⟩] (some ⟨[0, 1, 5, 6], [], false⟩))))
def Try.c6 : AC :=
 (.seq
  (.region 0 [⟨(some 4), none, (.p (.mv (.c (.bool false)))), false, []⟩] (some ⟨[0, 1], [], false⟩))
  (.seq
   (.region 0 [⟨(some 5), none, (.p (.mv (.c (.int .i64 0)))), false, []⟩] (some ⟨[0, 1, 5], [], false⟩))
   (.seq
    (.seq
     (.region 0 [⟨(some 6), none, (.p (.mv (.c (.int .i64 0)))), false, []⟩] (some ⟨[0, 1, 5, 6], [], false⟩))
     (.block 0
      (.loop (some ⟨[0, 1, 5, 6], [], true⟩) Try.c6b0)))
    (.seq
     (.region 0 [⟨(some 37), none, (.p (.mv (.t 0))), false, []⟩,
       ⟨(some 38), none, (.p (.len (.t 37))), false, []⟩,
       ⟨(some 39), none, (.p (.bin .gtr (.t 38) (.c (.int .i64 200)))), false, []⟩,
       ⟨(some 40), none, (.p (.mv (.t 39))), false, []⟩,
       ⟨(some 41), (some (40, false)), (.p (.mv (.t 0))), false, []⟩,
       ⟨(some 42), (some (40, false)), (.p (.mv (.t 1))), false, []⟩,
       ⟨(some 43), (some (40, false)), (.call 31 [(.t 41), (.t 42)] false), false, []⟩,
       ⟨(some 44), (some (40, false)), (.call 29 [(.t 43)] false), false, []⟩,
       ⟨(some 45), (some (40, false)), (.p (.mv (.t 0))), false, []⟩,
       ⟨(some 46), (some (40, false)), (.p (.mv (.t 1))), false, []⟩,
       ⟨(some 47), (some (40, false)), (.call 32 [(.t 45), (.t 46)] false), false, []⟩,
       ⟨(some 48), (some (40, false)), (.call 30 [(.t 44), (.t 47)] false), false, []⟩,
       ⟨(some 49), (some (40, false)), (.p (.mv (.t 48))), false, []⟩,
       ⟨(some 50), (some (49, true)), (.call 24 [] false), false, []⟩,
       ⟨(some 51), (some (40, false)), (.p (.pick (.t 49) (.t 50) (.c (.bool false)))), false, []⟩,
       ⟨(some 52), none, (.p (.pick (.t 40) (.c (.bool true)) (.t 51))), false, []⟩,
       ⟨(some 4), none, (.p (.mv (.t 52))), false, []⟩] (some ⟨[4], [], false⟩))
     .ret))))
theorem Try.run6 {xs : List AV} {r : AV} (hl : xs.length ≤ 53) (h : aw Try.prog Try.c6 (Pv.Ends [4] r) (entry xs)) : Run Try.prog 6 xs r :=
  run_of (fun _ _ => drawOk Try.mixed) Try.func6 rfl rfl rfl (by kernel_rfl) (by kernel_rfl) hl h
/-! 7 paling/palinglaw46.PcapTakes : params [42], results [4], free 0, zeros [(.slice none 0 0)] -/
def Try.c7 : AC :=
 (.seq
  (.region 0 [⟨(some 2), none, (.p (.mv (.c (.bool false)))), false, []⟩] (some ⟨[0], [], false⟩))
  (.seq
   (.seq
    (.region 0 [⟨(some 12), none, (.p (.mv (.t 0))), false, []⟩,
      ⟨(some 13), none, (.p (.len (.t 12))), false, []⟩,
      ⟨(some 14), none, (.p (.bin .gtr (.t 13) (.c (.int .i64 20000)))), false, []⟩] (some ⟨[0, 14], [], false⟩))
    (.cond (.t 14)
     (.seq
      (.region 0 [⟨(some 15), none, (.call 24 [] false), false, []⟩,
        ⟨(some 2), none, (.p (.mv (.t 15))), false, []⟩] (some ⟨[2], [], false⟩))
      .ret)
     .skip))
   (.seq
    (.region 0 [⟨(some 17), none, (.p (.mv (.t 0))), false, []⟩,
      ⟨(some 18), none, (.call 33 [(.t 17)] false), false, []⟩,
      ⟨(some 16), none, (.p (.mv (.t 18))), false, []⟩,
      ⟨(some 19), none, (.p (.ext (.t 16) 0)), false, []⟩,
      ⟨(some 20), none, (.p (.ext (.t 16) 1)), false, []⟩,
      ⟨(some 3), none, (.p (.mv (.t 19))), false, []⟩,
      ⟨(some 4), none, (.p (.mv (.t 20))), false, []⟩] (some ⟨[0, 3, 4], [], false⟩))
    (.seq
     (.region 0 [⟨(some 22), none, (.p (.mv (.t 0))), false, []⟩,
       ⟨(some 23), none, (.call 34 [(.t 22)] false), false, []⟩,
       ⟨(some 21), none, (.p (.mv (.t 23))), false, []⟩,
       ⟨(some 24), none, (.p (.ext (.t 21) 0)), false, []⟩,
       ⟨(some 25), none, (.p (.ext (.t 21) 1)), false, []⟩,
       ⟨(some 26), none, (.p (.ext (.t 21) 2)), false, []⟩,
       ⟨(some 5), none, (.p (.mv (.t 24))), false, []⟩,
       ⟨(some 6), none, (.p (.mv (.t 25))), false, []⟩,
       ⟨(some 7), none, (.p (.mv (.t 26))), false, []⟩] (some ⟨[0, 3, 4, 5, 7], [], false⟩))
     (.seq
      (.region 0 [⟨(some 28), none, (.p (.mv (.t 0))), false, []⟩,
        ⟨(some 29), none, (.call 35 [(.t 28)] false), false, []⟩,
        ⟨(some 27), none, (.p (.mv (.t 29))), false, []⟩,
        ⟨(some 30), none, (.p (.ext (.t 27) 0)), false, []⟩,
        ⟨(some 31), none, (.p (.ext (.t 27) 1)), false, []⟩,
        ⟨(some 8), none, (.p (.mv (.t 30))), false, []⟩,
        ⟨(some 9), none, (.p (.mv (.t 31))), false, []⟩] (some ⟨[0, 3, 4, 5, 7, 8, 9], [], false⟩))
      (.seq
       (.region 0 [⟨(some 33), none, (.p (.mv (.t 0))), false, []⟩,
         ⟨(some 34), none, (.call 36 [(.t 33)] false), false, []⟩,
         ⟨(some 32), none, (.p (.mv (.t 34))), false, []⟩,
         ⟨(some 35), none, (.p (.ext (.t 32) 0)), false, []⟩,
         ⟨(some 36), none, (.p (.ext (.t 32) 1)), false, []⟩,
         ⟨(some 10), none, (.p (.mv (.t 35))), false, []⟩,
         ⟨(some 11), none, (.p (.mv (.t 36))), false, []⟩] (some ⟨[3, 4, 5, 7, 8, 9, 10, 11], [], false⟩))
       (.seq
        (.region 0 [⟨(some 37), none, (.p (.mv (.t 3))), false, []⟩,
          ⟨(some 38), none, (.call 29 [(.t 37)] false), false, []⟩,
          ⟨(some 39), none, (.p (.mv (.t 5))), false, []⟩,
          ⟨(some 40), none, (.call 30 [(.t 38), (.t 39)] false), false, []⟩,
          ⟨(some 41), none, (.p (.mv (.t 40))), false, []⟩,
          ⟨(some 42), (some (41, true)), (.p (.mv (.t 4))), false, []⟩,
          ⟨(some 43), (some (41, true)), (.p (.mv (.t 7))), false, []⟩,
          ⟨(some 44), (some (41, true)), (.p (.bin .eql (.t 42) (.t 43))), false, []⟩,
          ⟨(some 45), none, (.p (.pick (.t 41) (.t 44) (.c (.bool false)))), false, []⟩,
          ⟨(some 46), none, (.p (.mv (.t 45))), false, []⟩,
          ⟨(some 47), (some (46, true)), (.p (.mv (.t 8))), false, []⟩,
          ⟨(some 48), (some (46, true)), (.r (.b2s (.t 47))), false, []⟩,
          ⟨(some 49), (some (46, true)), (.p (.mv (.t 10))), false, []⟩,
          ⟨(some 50), (some (46, true)), (.r (.b2s (.t 49))), false, []⟩,
          ⟨(some 51), (some (46, true)), (.p (.bin .eql (.t 48) (.t 50))), false, []⟩,
          ⟨(some 52), none, (.p (.pick (.t 46) (.t 51) (.c (.bool false)))), false, []⟩,
          ⟨(some 53), none, (.p (.mv (.t 52))), false, []⟩,
          ⟨(some 54), (some (53, true)), (.p (.mv (.t 9))), false, []⟩,
          ⟨(some 55), (some (53, true)), (.p (.mv (.t 11))), false, []⟩,
          ⟨(some 56), (some (53, true)), (.p (.bin .eql (.t 54) (.t 55))), false, []⟩,
          ⟨(some 57), none, (.p (.pick (.t 53) (.t 56) (.c (.bool false)))), false, []⟩,
          ⟨(some 58), none, (.p (.mv (.t 57))), false, []⟩,
          ⟨(some 59), (some (58, true)), (.call 24 [] false), false, []⟩,
          ⟨(some 60), none, (.p (.pick (.t 58) (.t 59) (.c (.bool false)))), false, []⟩,
          ⟨(some 2), none, (.p (.mv (.t 60))), false, []⟩] (some ⟨[2], [], false⟩))
        .ret)))))))
theorem Try.run7 {xs : List AV} {r : AV} (hl : xs.length ≤ 61) (h : aw Try.prog Try.c7 (Pv.Ends [2] r) (entry xs)) : Run Try.prog 7 xs r :=
  run_of (fun _ _ => drawOk Try.mixed) Try.func7 rfl rfl rfl (by kernel_rfl) (by kernel_rfl) hl h
/-! 8 paling/palinglaw46.PcapBack : params [40, 42], results [4], free 0, zeros [(.slice none 0 0), (.slice none 0 0)] -/
def Try.c8 : AC :=
 (.seq
  (.region 0 [⟨(some 4), none, (.p (.mv (.c (.bool false)))), false, []⟩] (some ⟨[0, 1], [], false⟩))
  (.seq
   (.seq
    (.region 0 [⟨(some 19), none, (.call 24 [] false), false, []⟩,
      ⟨(some 20), none, (.p (.un .not (.t 19))), false, []⟩] (some ⟨[0, 1, 20], [], false⟩))
    (.cond (.t 20)
     (.seq
      (.region 0 [⟨(some 4), none, (.p (.mv (.c (.bool false)))), false, []⟩] (some ⟨[4], [], false⟩))
      .ret)
     .skip))
   (.seq
    (.seq
     (.region 0 [⟨(some 21), none, (.p (.mv (.t 0))), false, []⟩,
       ⟨(some 22), none, (.call 23 [(.t 21)] false), false, []⟩,
       ⟨(some 23), none, (.p (.mv (.t 22))), false, []⟩,
       ⟨(some 24), (some (23, false)), (.p (.mv (.t 1))), false, []⟩,
       ⟨(some 25), (some (23, false)), (.p (.len (.t 24))), false, []⟩,
       ⟨(some 26), (some (23, false)), (.p (.bin .gtr (.t 25) (.c (.int .i64 20000)))), false, []⟩,
       ⟨(some 27), none, (.p (.pick (.t 23) (.c (.bool true)) (.t 26))), false, []⟩] (some ⟨[0, 1, 27], [], false⟩))
     (.cond (.t 27)
      (.seq
       (.region 0 [⟨(some 4), none, (.p (.mv (.c (.bool true)))), false, []⟩] (some ⟨[4], [], false⟩))
       .ret)
      .skip))
    (.seq
     (.seq
      (.region 0 [⟨(some 29), none, (.p (.mv (.t 0))), false, []⟩,
        ⟨(some 30), none, (.call 27 [(.t 29)] false), false, []⟩,
        ⟨(some 28), none, (.p (.mv (.t 30))), false, []⟩,
        ⟨(some 31), none, (.p (.ext (.t 28) 0)), false, []⟩,
        ⟨(some 32), none, (.p (.ext (.t 28) 1)), false, []⟩,
        ⟨(some 5), none, (.p (.mv (.t 31))), false, []⟩,
        ⟨(some 6), none, (.p (.mv (.t 32))), false, []⟩] (some ⟨[0, 1, 5, 6], [], false⟩))
      (.seq
       (.region 0 [⟨(some 33), none, (.p (.mv (.t 6))), false, []⟩,
         ⟨(some 34), none, (.p (.bin .eql (.t 33) (.c (.int .i64 0)))), false, []⟩] (some ⟨[0, 1, 5, 34], [], false⟩))
       (.cond (.t 34)
        (.seq
         (.region 0 [⟨(some 36), none, (.p (.mv (.t 5))), false, []⟩,
           ⟨(some 37), none, (.call 33 [(.t 36)] false), false, []⟩,
           ⟨(some 35), none, (.p (.mv (.t 37))), false, []⟩,
           ⟨(some 38), none, (.p (.ext (.t 35) 0)), false, []⟩,
           ⟨(some 39), none, (.p (.ext (.t 35) 1)), false, []⟩,
           ⟨(some 7), none, (.p (.mv (.t 38))), false, []⟩,
           ⟨(some 8), none, (.p (.mv (.t 39))), false, []⟩] (some ⟨[0, 1, 7, 8], [], false⟩))
         (.seq
          (.region 0 [⟨(some 40), none, (.p (.mv (.t 8))), false, []⟩,
            ⟨(some 41), none, (.p (.bin .neq (.t 40) (.c (.int .i64 0)))), false, []⟩,
            ⟨(some 42), none, (.p (.mv (.t 41))), false, []⟩,
            ⟨(some 43), (some (42, false)), (.p (.mv (.t 0))), false, []⟩,
            ⟨(some 44), (some (42, false)), (.p (.mv (.t 7))), false, []⟩,
            ⟨(some 45), (some (42, false)), (.call 37 [(.t 43), (.t 44)] false), false, []⟩,
            ⟨(some 46), (some (42, false)), (.p (.un .not (.t 45))), false, []⟩,
            ⟨(some 47), none, (.p (.pick (.t 42) (.c (.bool true)) (.t 46))), false, []⟩] (some ⟨[1, 47], [], false⟩))
          (.cond (.t 47)
           (.seq
            (.region 0 [⟨(some 4), none, (.p (.mv (.c (.bool false)))), false, []⟩] (some ⟨[4], [], false⟩))
            .ret)
           .skip)))
        .skip)))
     (.seq
      (.region 0 [⟨(some 49), none, (.p (.mv (.t 1))), false, []⟩,
        ⟨(some 50), none, (.call 33 [(.t 49)] false), false, []⟩,
        ⟨(some 48), none, (.p (.mv (.t 50))), false, []⟩,
        ⟨(some 51), none, (.p (.ext (.t 48) 0)), false, []⟩,
        ⟨(some 52), none, (.p (.ext (.t 48) 1)), false, []⟩,
        ⟨(some 9), none, (.p (.mv (.t 51))), false, []⟩,
        ⟨(some 10), none, (.p (.mv (.t 52))), false, []⟩] (some ⟨[1, 9, 10], [], false⟩))
      (.seq
       (.seq
        (.region 0 [⟨(some 53), none, (.p (.mv (.t 10))), false, []⟩,
          ⟨(some 54), none, (.p (.bin .neq (.t 53) (.c (.int .i64 0)))), false, []⟩] (some ⟨[1, 9, 54], [], false⟩))
        (.cond (.t 54)
         (.seq
          (.region 0 [⟨(some 55), none, (.p (.mv (.t 9))), false, []⟩,
            ⟨(some 56), none, (.p (.len (.t 55))), false, []⟩,
            ⟨(some 57), none, (.p (.bin .eql (.t 56) (.c (.int .i64 0)))), false, []⟩,
            ⟨(some 4), none, (.p (.mv (.t 57))), false, []⟩] (some ⟨[4], [], false⟩))
          .ret)
         .skip))
       (.seq
        (.region 0 [⟨(some 59), none, (.p (.mv (.t 1))), false, []⟩,
          ⟨(some 60), none, (.call 35 [(.t 59)] false), false, []⟩,
          ⟨(some 58), none, (.p (.mv (.t 60))), false, []⟩,
          ⟨(some 61), none, (.p (.ext (.t 58) 0)), false, []⟩,
          ⟨(some 62), none, (.p (.ext (.t 58) 1)), false, []⟩,
          ⟨(some 11), none, (.p (.mv (.t 61))), false, []⟩,
          ⟨(some 12), none, (.p (.mv (.t 62))), false, []⟩] (some ⟨[1, 9, 11, 12], [], false⟩))
        (.seq
         (.region 0 [⟨(some 64), none, (.p (.mv (.t 11))), false, []⟩,
           ⟨(some 65), none, (.call 33 [(.t 64)] false), false, []⟩,
           ⟨(some 63), none, (.p (.mv (.t 65))), false, []⟩,
           ⟨(some 66), none, (.p (.ext (.t 63) 0)), false, []⟩,
           ⟨(some 67), none, (.p (.ext (.t 63) 1)), false, []⟩,
           ⟨(some 13), none, (.p (.mv (.t 66))), false, []⟩,
           ⟨(some 14), none, (.p (.mv (.t 67))), false, []⟩] (some ⟨[1, 9, 11, 12, 13, 14], [], false⟩))
         (.seq
          (.region 0 [⟨(some 69), none, (.p (.mv (.t 11))), false, []⟩,
            ⟨(some 70), none, (.call 35 [(.t 69)] false), false, []⟩,
            ⟨(some 68), none, (.p (.mv (.t 70))), false, []⟩,
            ⟨(some 71), none, (.p (.ext (.t 68) 0)), false, []⟩,
            ⟨(some 72), none, (.p (.ext (.t 68) 1)), false, []⟩,
            ⟨(some 15), none, (.p (.mv (.t 71))), false, []⟩,
            ⟨(some 16), none, (.p (.mv (.t 72))), false, []⟩] (some ⟨[1, 9, 11, 12, 13, 14, 15, 16], [], false⟩))
          (.seq
           (.region 0 [⟨(some 74), none, (.p (.mv (.t 9))), false, []⟩,
             ⟨(some 75), none, (.call 27 [(.t 74)] false), false, []⟩,
             ⟨(some 73), none, (.p (.mv (.t 75))), false, []⟩,
             ⟨(some 76), none, (.p (.ext (.t 73) 0)), false, []⟩,
             ⟨(some 77), none, (.p (.ext (.t 73) 1)), false, []⟩,
             ⟨(some 17), none, (.p (.mv (.t 76))), false, []⟩,
             ⟨(some 18), none, (.p (.mv (.t 77))), false, []⟩] (some ⟨[1, 9, 11, 12, 13, 14, 15, 16, 17, 18], [], false⟩))
           (.seq
            (.region 0 [⟨(some 78), none, (.p (.mv (.t 12))), false, []⟩,
              ⟨(some 79), none, (.p (.bin .eql (.t 78) (.c (.int .i64 0)))), false, []⟩,
              ⟨(some 80), none, (.p (.mv (.t 79))), false, []⟩,
              ⟨(some 81), (some (80, true)), (.p (.mv (.t 14))), false, []⟩,
              ⟨(some 82), (some (80, true)), (.p (.bin .eql (.t 81) (.c (.int .i64 0)))), false, []⟩,
              ⟨(some 83), none, (.p (.pick (.t 80) (.t 82) (.c (.bool false)))), false, []⟩,
              ⟨(some 84), none, (.p (.mv (.t 83))), false, []⟩,
              ⟨(some 85), (some (84, true)), (.p (.mv (.t 16))), false, []⟩,
              ⟨(some 86), (some (84, true)), (.p (.bin .eql (.t 85) (.c (.int .i64 0)))), false, []⟩,
              ⟨(some 87), none, (.p (.pick (.t 84) (.t 86) (.c (.bool false)))), false, []⟩,
              ⟨(some 88), none, (.p (.mv (.t 87))), false, []⟩,
              ⟨(some 89), (some (88, true)), (.p (.mv (.t 18))), false, []⟩,
              ⟨(some 90), (some (88, true)), (.p (.bin .eql (.t 89) (.c (.int .i64 0)))), false, []⟩,
              ⟨(some 91), none, (.p (.pick (.t 88) (.t 90) (.c (.bool false)))), false, []⟩,
              ⟨(some 92), none, (.p (.mv (.t 91))), false, []⟩,
              ⟨(some 93), (some (92, true)), (.p (.mv (.t 9))), false, []⟩,
              ⟨(some 94), (some (92, true)), (.p (.mv (.t 13))), false, []⟩,
              ⟨(some 95), (some (92, true)), (.call 37 [(.t 93), (.t 94)] false), false, []⟩,
              ⟨(some 96), none, (.p (.pick (.t 92) (.t 95) (.c (.bool false)))), false, []⟩,
              ⟨(some 97), none, (.p (.mv (.t 96))), false, []⟩,
              ⟨(some 98), (some (97, true)), (.p (.mv (.t 15))), false, []⟩,
              ⟨(some 99), (some (97, true)), (.r (.b2s (.t 98))), false, []⟩,
              ⟨(some 100), (some (97, true)), (.p (.mv (.t 1))), false, []⟩,
              ⟨(some 101), (some (97, true)), (.r (.b2s (.t 100))), false, []⟩,
              ⟨(some 102), (some (97, true)), (.p (.bin .eql (.t 99) (.t 101))), false, []⟩,
              ⟨(some 103), none, (.p (.pick (.t 97) (.t 102) (.c (.bool false)))), false, []⟩,
              ⟨(some 104), none, (.p (.mv (.t 103))), false, []⟩,
              ⟨(some 105), (some (104, true)), (.p (.mv (.t 17))), false, []⟩,
              ⟨(some 106), (some (104, true)), (.r (.b2s (.t 105))), false, []⟩,
              ⟨(some 107), (some (104, true)), (.p (.mv (.t 1))), false, []⟩,
              ⟨(some 108), (some (104, true)), (.r (.b2s (.t 107))), false, []⟩,
              ⟨(some 109), (some (104, true)), (.p (.bin .eql (.t 106) (.t 108))), false, []⟩,
              ⟨(some 110), (some (104, true)), (.p (.mv (.t 17))), false, []⟩,
              ⟨(some 111), (some (104, true)), (.r (.b2s (.t 110))), false, []⟩,
              ⟨(some 112), (some (104, true)), (.p (.mv (.t 11))), false, []⟩,
              ⟨(some 113), (some (104, true)), (.r (.b2s (.t 112))), false, []⟩,
              ⟨(some 114), (some (104, true)), (.p (.bin .eql (.t 111) (.t 113))), false, []⟩,
              ⟨(some 115), (some (104, true)), (.p (.binB .neq (.t 109) (.t 114))), false, []⟩,
              ⟨(some 116), none, (.p (.pick (.t 104) (.t 115) (.c (.bool false)))), false, []⟩,
              ⟨(some 4), none, (.p (.mv (.t 116))), false, []⟩] (some ⟨[4], [], false⟩))
            .ret)))))))))))
theorem Try.run8 {xs : List AV} {r : AV} (hl : xs.length ≤ 117) (h : aw Try.prog Try.c8 (Pv.Ends [4] r) (entry xs)) : Run Try.prog 8 xs r :=
  run_of (fun _ _ => drawOk Try.mixed) Try.func8 rfl rfl rfl (by kernel_rfl) (by kernel_rfl) hl h
/-! 9 paling/palinglaw10.LineRows : params [42], results [4], free 0, zeros [(.slice none 0 0)] -/
def Try.c9 : AC :=
 (.seq
  (.region 0 [⟨(some 2), none, (.p (.mv (.c (.bool false)))), false, []⟩] (some ⟨[0], [], false⟩))
  (.seq
   (.seq
    (.region 0 [⟨(some 7), none, (.p (.mv (.t 0))), false, []⟩,
      ⟨(some 8), none, (.p (.len (.t 7))), false, []⟩,
      ⟨(some 9), none, (.p (.bin .gtr (.t 8) (.c (.int .i64 60000)))), false, []⟩] (some ⟨[0, 9], [], false⟩))
    (.cond (.t 9)
     (.seq
      (.region 0 [⟨(some 10), none, (.call 38 [] false), false, []⟩,
        ⟨(some 2), none, (.p (.mv (.t 10))), false, []⟩] (some ⟨[2], [], false⟩))
      .ret)
     .skip))
   (.seq
    (.region 0 [⟨(some 12), none, (.p (.mv (.t 0))), false, []⟩,
      ⟨(some 13), none, (.call 39 [(.t 12)] false), false, []⟩,
      ⟨(some 11), none, (.p (.mv (.t 13))), false, []⟩,
      ⟨(some 14), none, (.p (.ext (.t 11) 0)), false, []⟩,
      ⟨(some 15), none, (.p (.ext (.t 11) 1)), false, []⟩,
      ⟨(some 3), none, (.p (.mv (.t 14))), false, []⟩,
      ⟨(some 4), none, (.p (.mv (.t 15))), false, []⟩] (some ⟨[0, 3, 4], [], false⟩))
    (.seq
     (.region 0 [⟨(some 17), none, (.p (.mv (.t 0))), false, []⟩,
       ⟨(some 18), none, (.call 40 [(.t 17)] false), false, []⟩,
       ⟨(some 16), none, (.p (.mv (.t 18))), false, []⟩,
       ⟨(some 19), none, (.p (.ext (.t 16) 0)), false, []⟩,
       ⟨(some 20), none, (.p (.ext (.t 16) 1)), false, []⟩,
       ⟨(some 5), none, (.p (.mv (.t 19))), false, []⟩,
       ⟨(some 6), none, (.p (.mv (.t 20))), false, []⟩] (some ⟨[3, 4, 5, 6], [], false⟩))
     (.seq
      (.region 0 [⟨(some 21), none, (.p (.mv (.t 3))), false, []⟩,
        ⟨(some 22), none, (.p (.mv (.t 5))), false, []⟩,
        ⟨(some 23), none, (.call 41 [(.t 21), (.t 22)] false), false, []⟩,
        ⟨(some 24), none, (.p (.mv (.t 23))), false, []⟩,
        ⟨(some 25), (some (24, true)), (.p (.mv (.t 4))), false, []⟩,
        ⟨(some 26), (some (24, true)), (.p (.mv (.t 6))), false, []⟩,
        ⟨(some 27), (some (24, true)), (.p (.bin .eql (.t 25) (.t 26))), false, []⟩,
        ⟨(some 28), none, (.p (.pick (.t 24) (.t 27) (.c (.bool false)))), false, []⟩,
        ⟨(some 29), none, (.p (.mv (.t 28))), false, []⟩,
        ⟨(some 30), (some (29, true)), (.call 38 [] false), false, []⟩,
        ⟨(some 31), none, (.p (.pick (.t 29) (.t 30) (.c (.bool false)))), false, []⟩,
        ⟨(some 2), none, (.p (.mv (.t 31))), false, []⟩] (some ⟨[2], [], false⟩))
      .ret)))))
theorem Try.run9 {xs : List AV} {r : AV} (hl : xs.length ≤ 32) (h : aw Try.prog Try.c9 (Pv.Ends [2] r) (entry xs)) : Run Try.prog 9 xs r :=
  run_of (fun _ _ => drawOk Try.mixed) Try.func9 rfl rfl rfl (by kernel_rfl) (by kernel_rfl) hl h
/-! 10 paling/palinglaw10.LineEnds : params [22], results [4], free 0, zeros [(.slice none 0 0)] -/
def Try.c10b0 : AC :=
 (.seq
  (.seq
   (.region 0 [⟨(some 33), none, (.p (.mv (.t 5))), false, []⟩,
     ⟨(some 34), none, (.p (.mv (.t 0))), false, []⟩,
     ⟨(some 35), none, (.p (.mv (.t 4))), false, []⟩,
     ⟨(some 36), none, (.p (.iaddr 1 (.t 34) (.t 35))), false, []⟩,
     ⟨(some 37), none, (.r (.load 1 false (.t 36))), false, []⟩,
     ⟨(some 38), none, (.p (.lenS (.t 37))), false, []⟩,
     ⟨(some 39), none, (.p (.bin .lss (.t 33) (.t 38))), false, []⟩] (some ⟨[0, 3, 4, 5, 39], [], false⟩))
   (.cond (.t 39)
    .skip
    (.exit 2)))
  (.seq
   (.block 3
    (.seq
     (.region 0 [⟨(some 42), none, (.p (.mv (.t 0))), false, []⟩,
       ⟨(some 43), none, (.p (.mv (.t 4))), false, []⟩,
       ⟨(some 44), none, (.p (.iaddr 1 (.t 42) (.t 43))), false, []⟩,
       ⟨(some 45), none, (.r (.load 1 false (.t 44))), false, []⟩,
       ⟨(some 46), none, (.p (.mv (.t 5))), false, []⟩,
       ⟨(some 47), none, (.p (.idxs (.t 45) (.t 46))), false, []⟩,
       ⟨(some 48), none, (.p (.bin .eql (.t 47) (.c (.int .u8 10)))), false, []⟩] (some ⟨[0, 3, 4, 5, 48], [], false⟩))
     (.cond (.t 48)
      (.seq
       (.region 0 [⟨(some 2), none, (.p (.mv (.c (.bool true)))), false, []⟩] (some ⟨[2], [], false⟩))
       .ret)
      .skip)))
   (.region 0 [⟨(some 40), none, (.p (.mv (.t 5))), false, []⟩,
     ⟨(some 41), none, (.p (.bin .add (.t 40) (.c (.int .i64 1)))), false, []⟩,
     ⟨(some 5), none, (.p (.mv (.t 41))), false, []⟩] (some ⟨[0, 3, 4, 5], [], false⟩))))
def Try.c10b1 : AC :=
 (.seq
  (.seq
   (.region 0 [⟨(some 16), none, (.p (.mv (.t 4))), false, []⟩,
     ⟨(some 17), none, (.p (.mv (.t 0))), false, []⟩,
     ⟨(some 18), none, (.p (.len (.t 17))), false, []⟩,
     ⟨(some 19), none, (.p (.bin .lss (.t 16) (.t 18))), false, []⟩] (some ⟨[0, 3, 4, 19], [], false⟩))
   (.cond (.t 19)
    .skip
    (.exit 0)))
  (.seq
   (.block 1
    (.seq
     (.seq
      (.region 0 [⟨(some 22), none, (.p (.mv (.t 0))), false, []⟩,
        ⟨(some 23), none, (.p (.mv (.t 4))), false, []⟩,
        ⟨(some 24), none, (.p (.iaddr 1 (.t 22) (.t 23))), false, []⟩,
        ⟨(some 25), none, (.r (.load 1 false (.t 24))), false, []⟩,
        ⟨(some 26), none, (.p (.lenS (.t 25))), false, []⟩,
        ⟨(some 27), none, (.p (.bin .gtr (.t 26) (.c (.int .i64 1000)))), false, []⟩,
        ⟨(some 28), none, (.p (.mv (.t 27))), false, []⟩,
        ⟨(some 29), (some (28, false)), (.p (.mv (.t 3))), false, []⟩,
        ⟨(some 30), (some (28, false)), (.p (.len (.t 29))), false, []⟩,
        ⟨(some 31), (some (28, false)), (.p (.bin .gtr (.t 30) (.c (.int .i64 19000)))), false, []⟩,
        ⟨(some 32), none, (.p (.pick (.t 28) (.c (.bool true)) (.t 31))), false, []⟩] (some ⟨[0, 3, 4, 32], [], false⟩))
      (.cond (.t 32)
       (.seq
        (.region 0 [⟨(some 2), none, (.p (.mv (.c (.bool true)))), false, []⟩] (some ⟨[2], [], false⟩))
        .ret)
       .skip))
     (.seq
      (.seq
       (.region 0 [⟨(some 5), none, (.p (.mv (.c (.int .i64 0)))), false, []⟩] (some ⟨[0, 3, 4, 5], [], false⟩))
       (.block 2
        (.loop (some ⟨[0, 3, 4, 5], [], true⟩) Try.c10b0)))
      (.region 0 [⟨(some 49), none, (.p (.mv (.t 3))), false, []⟩,
        ⟨(some 50), none, (.p (.mv (.t 0))), false, []⟩,
        ⟨(some 51), none, (.p (.mv (.t 4))), false, []⟩,
        ⟨(some 52), none, (.p (.iaddr 1 (.t 50) (.t 51))), false, []⟩,
        ⟨(some 53), none, (.r (.load 1 false (.t 52))), false, []⟩,
        ⟨(some 54), none, (.e (.append 5 1 (.t 49) (.t 53)) none), false, []⟩,
        ⟨(some 55), none, (.e (.mks 5 1 (.int .u8 0) 1 [(0, (.c (.int .u8 10)))]) none), false, []⟩,
        ⟨(some 56), none, (.e (.append 5 1 (.t 54) (.t 55)) none), false, []⟩,
        ⟨(some 3), none, (.p (.mv (.t 56))), false, []⟩] (some ⟨[0, 3, 4], [], false⟩)))))
   (.region 0 [⟨(some 20), none, (.p (.mv (.t 4))), false, []⟩,
     ⟨(some 21), none, (.p (.bin .add (.t 20) (.c (.int .i64 1)))), false, []⟩,
     ⟨(some 4), none, (.p (.mv (.t 21))), false, []⟩] (some ⟨[0, 3, 4], [], false⟩))))
def Try.c10b2 : AC :=
 (.seq
  (.region 0 [⟨(some 77), none, (.p (.bin .lss (.t 76) (.t 75))), false, []⟩] (some ⟨[0, 3, 6, 75, 76, 77], [], false⟩))
  (.seq
   (.cond (.t 77)
    .skip
    (.exit 4))
   (.seq
    (.block 5
     (.seq
      (.region 0 [⟨(some 78), none, (.p (.mv (.t 76))), false, []⟩,
        ⟨(some 8), none, (.p (.mv (.t 78))), false, []⟩] (some ⟨[0, 3, 6, 8, 75, 76], [], false⟩))
      (.seq
       (.region 9 [⟨(some 79), none, (.p (.mv (.t 6))), false, []⟩,
         ⟨(some 80), none, (.p (.mv (.t 8))), false, []⟩,
         ⟨(some 81), none, (.p (.iaddr 1 (.t 79) (.t 80))), false, []⟩,
         ⟨(some 82), none, (.r (.load 1 false (.t 81))), false, []⟩,
         ⟨(some 83), none, (.p (.mv (.t 0))), false, []⟩,
         ⟨(some 84), none, (.p (.mv (.t 8))), false, []⟩,
         ⟨(some 85), none, (.p (.iaddr 1 (.t 83) (.t 84))), false, []⟩,
         ⟨(some 86), none, (.r (.load 1 false (.t 85))), false, []⟩,
         ⟨(some 87), none, (.p (.bin .neq (.t 82) (.t 86))), false, []⟩] (some ⟨[0, 3, 6, 75, 76, 87], [], true⟩))
       (.cond (.t 87)
        (.seq
         (.region 0 [⟨(some 2), none, (.p (.mv (.c (.bool false)))), false, []⟩] (some ⟨[2], [], false⟩))
         .ret)
        .skip))))
    (.region 0 [⟨(some 88), none, (.p (.bin .add (.t 76) (.c (.int .i64 1)))), false, []⟩,
      ⟨(some 76), none, (.p (.mv (.t 88))), false, []⟩] (some ⟨[0, 3, 6, 75, 76], [], false⟩)))))
def Try.c10 : AC :=
 (.seq
  (.region 0 [⟨(some 2), none, (.p (.mv (.c (.bool false)))), false, []⟩] (some ⟨[0], [], false⟩))
  (.seq
   (.seq
    (.region 0 [⟨(some 11), none, (.call 38 [] false), false, []⟩,
      ⟨(some 12), none, (.p (.un .not (.t 11))), false, []⟩] (some ⟨[0, 12], [], false⟩))
    (.cond (.t 12)
     (.seq
      (.region 0 [⟨(some 2), none, (.p (.mv (.c (.bool false)))), false, []⟩] (some ⟨[2], [], false⟩))
      .ret)
     .skip))
   (.seq
    (.seq
     (.region 0 [⟨(some 13), none, (.p (.mv (.t 0))), false, []⟩,
       ⟨(some 14), none, (.p (.len (.t 13))), false, []⟩,
       ⟨(some 15), none, (.p (.bin .gtr (.t 14) (.c (.int .i64 400)))), false, []⟩] (some ⟨[0, 15], [], false⟩))
     (.cond (.t 15)
      (.seq
       (.region 0 [⟨(some 2), none, (.p (.mv (.c (.bool true)))), false, []⟩] (some ⟨[2], [], false⟩))
       .ret)
      .skip))
    (.seq
     (.region 0 [⟨(some 3), none, (.p (.mv (.c (.sl 0 [] true)))), false, []⟩] (some ⟨[0, 3], [], false⟩))
     (.seq
      (.seq
       (.region 0 [⟨(some 4), none, (.p (.mv (.c (.int .i64 0)))), false, []⟩] (some ⟨[0, 3, 4], [], false⟩))
       (.block 0
        (.loop (some ⟨[0, 3, 4], [(3, (1, 5))], true⟩) Try.c10b1)))
      (.seq
       (.seq
        (.region 0 [⟨(some 57), none, (.p (.mv (.t 3))), false, []⟩,
          ⟨(some 58), none, (.p (.len (.t 57))), false, []⟩,
          ⟨(some 59), none, (.p (.bin .gtr (.t 58) (.c (.int .i64 20000)))), false, []⟩] (some ⟨[0, 3, 59], [], false⟩))
        (.cond (.t 59)
         (.seq
          (.region 0 [⟨(some 2), none, (.p (.mv (.c (.bool true)))), false, []⟩] (some ⟨[2], [], false⟩))
          .ret)
         .skip))
       (.seq
        (.region 0 [⟨(some 61), none, (.p (.mv (.t 3))), false, []⟩,
          ⟨(some 62), none, (.call 39 [(.t 61)] false), false, []⟩,
          ⟨(some 60), none, (.p (.mv (.t 62))), false, []⟩,
          ⟨(some 63), none, (.p (.ext (.t 60) 0)), false, []⟩,
          ⟨(some 64), none, (.p (.ext (.t 60) 1)), false, []⟩,
          ⟨(some 6), none, (.p (.mv (.t 63))), false, []⟩,
          ⟨(some 7), none, (.p (.mv (.t 64))), false, []⟩] (some ⟨[0, 3, 6, 7], [], false⟩))
        (.seq
         (.seq
          (.region 0 [⟨(some 65), none, (.p (.mv (.t 7))), false, []⟩,
            ⟨(some 66), none, (.p (.bin .neq (.t 65) (.c (.int .i64 0)))), false, []⟩,
            ⟨(some 67), none, (.p (.mv (.t 66))), false, []⟩,
            ⟨(some 68), (some (67, false)), (.p (.mv (.t 6))), false, []⟩,
            ⟨(some 69), (some (67, false)), (.p (.len (.t 68))), false, []⟩,
            ⟨(some 70), (some (67, false)), (.p (.mv (.t 0))), false, []⟩,
            ⟨(some 71), (some (67, false)), (.p (.len (.t 70))), false, []⟩,
            ⟨(some 72), (some (67, false)), (.p (.bin .neq (.t 69) (.t 71))), false, []⟩,
            ⟨(some 73), none, (.p (.pick (.t 67) (.c (.bool true)) (.t 72))), false, []⟩] (some ⟨[0, 3, 6, 73], [], false⟩))
          (.cond (.t 73)
           (.seq
            (.region 0 [⟨(some 2), none, (.p (.mv (.c (.bool false)))), false, []⟩] (some ⟨[2], [], false⟩))
            .ret)
           .skip))
         (.seq
          (.seq
           (.region 0 [⟨(some 74), none, (.p (.mv (.t 6))), false, []⟩,
             ⟨(some 75), none, (.p (.len (.t 74))), false, []⟩,
             ⟨(some 76), none, (.p (.mv (.c (.int .i64 0)))), false, []⟩] (some ⟨[0, 3, 6, 75, 76], [], false⟩))
           (.block 4
            (.loop (some ⟨[0, 3, 6, 75, 76], [], true⟩) Try.c10b2)))
          (.seq
           (.seq
            (.region 0 [⟨(some 89), none, (.p (.mv (.t 0))), false, []⟩,
              ⟨(some 90), none, (.p (.len (.t 89))), false, []⟩,
              ⟨(some 91), none, (.p (.bin .eql (.t 90) (.c (.int .i64 0)))), false, []⟩,
              ⟨(some 92), none, (.p (.mv (.t 91))), false, []⟩,
              ⟨(some 93), (some (92, false)), (.p (.mv (.t 0))), false, []⟩,
              ⟨(some 94), (some (92, false)), (.p (.mv (.t 0))), false, []⟩,
              ⟨(some 95), (some (92, false)), (.p (.len (.t 94))), false, []⟩,
              ⟨(some 96), (some (92, false)), (.p (.bin .sub (.t 95) (.c (.int .i64 1)))), false, []⟩,
              ⟨(some 97), (some (92, false)), (.p (.iaddr 1 (.t 93) (.t 96))), false, []⟩,
              ⟨(some 98), (some (92, false)), (.r (.load 1 false (.t 97))), false, []⟩,
              ⟨(some 99), (some (92, false)), (.p (.bin .eql (.t 98) (.c (.str [])))), false, []⟩,
              ⟨(some 100), none, (.p (.pick (.t 92) (.c (.bool true)) (.t 99))), false, []⟩] (some ⟨[3, 6, 100], [], false⟩))
            (.cond (.t 100)
             (.seq
              (.region 0 [⟨(some 2), none, (.p (.mv (.c (.bool true)))), false, []⟩] (some ⟨[2], [], false⟩))
              .ret)
             .skip))
           (.seq
            (.region 0 [⟨(some 102), none, (.p (.mv (.t 3))), false, []⟩,
              ⟨(some 103), none, (.p (.mv (.t 3))), false, []⟩,
              ⟨(some 104), none, (.p (.len (.t 103))), false, []⟩,
              ⟨(some 105), none, (.p (.bin .sub (.t 104) (.c (.int .i64 1)))), false, []⟩,
              ⟨(some 106), none, (.p (.slicev 1 (.t 102) none (some (.t 105)) none)), false, []⟩,
              ⟨(some 107), none, (.call 39 [(.t 106)] false), false, []⟩,
              ⟨(some 101), none, (.p (.mv (.t 107))), false, []⟩,
              ⟨(some 108), none, (.p (.ext (.t 101) 0)), false, []⟩,
              ⟨(some 109), none, (.p (.ext (.t 101) 1)), false, []⟩,
              ⟨(some 9), none, (.p (.mv (.t 108))), false, []⟩,
              ⟨(some 10), none, (.p (.mv (.t 109))), false, []⟩] (some ⟨[6, 9, 10], [], false⟩))
            (.seq
             (.region 25 [⟨(some 110), none, (.p (.mv (.t 10))), false, []⟩,
               ⟨(some 111), none, (.p (.bin .eql (.t 110) (.c (.int .i64 0)))), false, []⟩,
               ⟨(some 112), none, (.p (.mv (.t 111))), false, []⟩,
               ⟨(some 113), (some (112, true)), (.p (.mv (.t 9))), false, []⟩,
               ⟨(some 114), (some (112, true)), (.p (.len (.t 113))), false, []⟩,
               ⟨(some 115), (some (112, true)), (.p (.mv (.t 6))), false, []⟩,
               ⟨(some 116), (some (112, true)), (.p (.len (.t 115))), false, []⟩,
               ⟨(some 117), (some (112, true)), (.p (.bin .eql (.t 114) (.t 116))), false, []⟩,
               ⟨(some 118), none, (.p (.pick (.t 112) (.t 117) (.c (.bool false)))), false, []⟩,
               ⟨(some 119), none, (.p (.mv (.t 118))), false, []⟩,
               ⟨(some 120), (some (119, true)), (.p (.mv (.t 9))), false, []⟩,
               ⟨(some 121), (some (119, true)), (.p (.mv (.t 9))), false, []⟩,
               ⟨(some 122), (some (119, true)), (.p (.len (.t 121))), false, []⟩,
               ⟨(some 123), (some (119, true)), (.p (.bin .sub (.t 122) (.c (.int .i64 1)))), false, []⟩,
               ⟨(some 124), (some (119, true)), (.p (.iaddr 1 (.t 120) (.t 123))), false, []⟩,
               ⟨(some 125), (some (119, true)), (.r (.load 1 false (.t 124))), false, []⟩,
               ⟨(some 126), (some (119, true)), (.p (.mv (.t 6))), false, []⟩,
               ⟨(some 127), (some (119, true)), (.p (.mv (.t 6))), false, []⟩,
               ⟨(some 128), (some (119, true)), (.p (.len (.t 127))), false, []⟩,
               ⟨(some 129), (some (119, true)), (.p (.bin .sub (.t 128) (.c (.int .i64 1)))), false, []⟩,
               ⟨(some 130), (some (119, true)), (.p (.iaddr 1 (.t 126) (.t 129))), false, []⟩,
               ⟨(some 131), (some (119, true)), (.r (.load 1 false (.t 130))), false, []⟩,
               ⟨(some 132), (some (119, true)), (.p (.bin .eql (.t 125) (.t 131))), false, []⟩,
               ⟨(some 133), none, (.p (.pick (.t 119) (.t 132) (.c (.bool false)))), false, []⟩,
               ⟨(some 2), none, (.p (.mv (.t 133))), false, []⟩] (some ⟨[2], [], true⟩))
             .ret))))))))))))
theorem Try.run10 {xs : List AV} {r : AV} (hl : xs.length ≤ 134) (h : aw Try.prog Try.c10 (Pv.Ends [2] r) (entry xs)) : Run Try.prog 10 xs r :=
  run_of (fun _ _ => drawOk Try.mixed) Try.func10 rfl rfl rfl (by kernel_rfl) (by kernel_rfl) hl h
/-! 11 paling/palinglaw10.LineWords : params [9, 22], results [4], free 0, zeros [(.string ⟨#[]⟩), (.slice none 0 0)] -/
def Try.c11b0 : AC :=
 (.seq
  (.seq
   (.region 0 [⟨(some 11), none, (.p (.mv (.t 6))), false, []⟩,
     ⟨(some 12), none, (.p (.mv (.t 1))), false, []⟩,
     ⟨(some 13), none, (.p (.len (.t 12))), false, []⟩,
     ⟨(some 14), none, (.p (.bin .lss (.t 11) (.t 13))), false, []⟩,
     ⟨(some 15), none, (.p (.mv (.t 14))), false, []⟩,
     ⟨(some 16), (some (15, true)), (.p (.mv (.t 6))), false, []⟩,
     ⟨(some 17), (some (15, true)), (.p (.bin .lss (.t 16) (.c (.int .i64 101)))), false, []⟩,
     ⟨(some 18), none, (.p (.pick (.t 15) (.t 17) (.c (.bool false)))), false, []⟩,
     ⟨(some 19), none, (.p (.mv (.t 18))), false, []⟩,
     ⟨(some 20), (some (19, true)), (.p (.mv (.t 5))), false, []⟩,
     ⟨(some 21), (some (19, true)), (.p (.bin .leq (.t 20) (.c (.int .i64 2000)))), false, []⟩,
     ⟨(some 22), none, (.p (.pick (.t 19) (.t 21) (.c (.bool false)))), false, []⟩] (some ⟨[0, 1, 5, 6, 22], [], false⟩))
   (.cond (.t 22)
    .skip
    (.exit 0)))
  (.seq
   (.block 1
    (.region 0 [⟨(some 25), none, (.p (.mv (.t 5))), false, []⟩,
      ⟨(some 26), none, (.p (.mv (.t 1))), false, []⟩,
      ⟨(some 27), none, (.p (.mv (.t 6))), false, []⟩,
      ⟨(some 28), none, (.p (.iaddr 1 (.t 26) (.t 27))), false, []⟩,
      ⟨(some 29), none, (.r (.load 1 false (.t 28))), false, []⟩,
      ⟨(some 30), none, (.p (.lenS (.t 29))), false, []⟩,
      ⟨(some 31), none, (.p (.bin .add (.t 25) (.t 30))), false, []⟩,
      ⟨(some 5), none, (.p (.mv (.t 31))), false, []⟩] (some ⟨[0, 1, 5, 6], [], false⟩)))
   (.region 0 [⟨(some 23), none, (.p (.mv (.t 6))), false, []⟩,
     ⟨(some 24), none, (.p (.bin .add (.t 23) (.c (.int .i64 1)))), false, []⟩,
     ⟨(some 6), none, (.p (.mv (.t 24))), false, []⟩] (some ⟨[0, 1, 5, 6], [], false⟩))))
def Try.c11 : AC :=
 (.seq
  (.region 0 [⟨(some 4), none, (.p (.mv (.c (.bool false)))), false, []⟩] (some ⟨[0, 1], [], false⟩))
  (.seq
   (.region 0 [⟨(some 5), none, (.p (.mv (.c (.int .i64 0)))), false, []⟩] (some ⟨[0, 1, 5], [], false⟩))
   (.seq
    (.seq
     (.region 0 [⟨(some 6), none, (.p (.mv (.c (.int .i64 0)))), false, []⟩] (some ⟨[0, 1, 5, 6], [], false⟩))
     (.block 0
      (.loop (some ⟨[0, 1, 5, 6], [], true⟩) Try.c11b0)))
    (.seq
     (.seq
      (.region 0 [⟨(some 32), none, (.p (.mv (.t 0))), false, []⟩,
        ⟨(some 33), none, (.p (.lenS (.t 32))), false, []⟩,
        ⟨(some 34), none, (.p (.bin .gtr (.t 33) (.c (.int .i64 2000)))), false, []⟩,
        ⟨(some 35), none, (.p (.mv (.t 34))), false, []⟩,
        ⟨(some 36), (some (35, false)), (.p (.mv (.t 1))), false, []⟩,
        ⟨(some 37), (some (35, false)), (.p (.len (.t 36))), false, []⟩,
        ⟨(some 38), (some (35, false)), (.p (.bin .gtr (.t 37) (.c (.int .i64 100)))), false, []⟩,
        ⟨(some 39), none, (.p (.pick (.t 35) (.c (.bool true)) (.t 38))), false, []⟩,
        ⟨(some 40), none, (.p (.mv (.t 39))), false, []⟩,
        ⟨(some 41), (some (40, false)), (.p (.mv (.t 5))), false, []⟩,
        ⟨(some 42), (some (40, false)), (.p (.bin .gtr (.t 41) (.c (.int .i64 2000)))), false, []⟩,
        ⟨(some 43), none, (.p (.pick (.t 40) (.c (.bool true)) (.t 42))), false, []⟩] (some ⟨[0, 1, 43], [], false⟩))
      (.cond (.t 43)
       (.seq
        (.region 0 [⟨(some 44), none, (.call 38 [] false), false, []⟩,
          ⟨(some 4), none, (.p (.mv (.t 44))), false, []⟩] (some ⟨[4], [], false⟩))
        .ret)
       .skip))
     (.seq
      (.region 0 [⟨(some 46), none, (.p (.mv (.t 0))), false, []⟩,
        ⟨(some 47), none, (.call 42 [(.t 46)] false), false, []⟩,
        ⟨(some 45), none, (.p (.mv (.t 47))), false, []⟩,
        ⟨(some 48), none, (.p (.ext (.t 45) 0)), false, []⟩,
        ⟨(some 49), none, (.p (.ext (.t 45) 1)), false, []⟩,
        ⟨(some 7), none, (.p (.mv (.t 48))), false, []⟩,
        ⟨(some 8), none, (.p (.mv (.t 49))), false, []⟩] (some ⟨[0, 1, 7, 8], [], false⟩))
      (.seq
       (.region 0 [⟨(some 51), none, (.p (.mv (.t 0))), false, []⟩,
         ⟨(some 52), none, (.call 43 [(.t 51)] false), false, []⟩,
         ⟨(some 50), none, (.p (.mv (.t 52))), false, []⟩,
         ⟨(some 53), none, (.p (.ext (.t 50) 0)), false, []⟩,
         ⟨(some 54), none, (.p (.ext (.t 50) 1)), false, []⟩,
         ⟨(some 9), none, (.p (.mv (.t 53))), false, []⟩,
         ⟨(some 10), none, (.p (.mv (.t 54))), false, []⟩] (some ⟨[0, 1, 7, 8, 9, 10], [], false⟩))
       (.seq
        (.region 0 [⟨(some 55), none, (.p (.mv (.t 7))), false, []⟩,
          ⟨(some 56), none, (.p (.mv (.t 9))), false, []⟩,
          ⟨(some 57), none, (.call 41 [(.t 55), (.t 56)] false), false, []⟩,
          ⟨(some 58), none, (.p (.mv (.t 57))), false, []⟩,
          ⟨(some 59), (some (58, true)), (.p (.mv (.t 8))), false, []⟩,
          ⟨(some 60), (some (58, true)), (.p (.mv (.t 10))), false, []⟩,
          ⟨(some 61), (some (58, true)), (.p (.bin .eql (.t 59) (.t 60))), false, []⟩,
          ⟨(some 62), none, (.p (.pick (.t 58) (.t 61) (.c (.bool false)))), false, []⟩,
          ⟨(some 63), none, (.p (.mv (.t 62))), false, []⟩,
          ⟨(some 64), (some (63, true)), (.p (.mv (.t 1))), false, []⟩,
          ⟨(some 65), (some (63, true)), (.call 44 [(.t 64)] false), false, []⟩,
          ⟨(some 66), (some (63, true)), (.p (.mv (.t 1))), false, []⟩,
          ⟨(some 67), (some (63, true)), (.call 45 [(.t 66)] false), false, []⟩,
          ⟨(some 68), (some (63, true)), (.p (.bin .eql (.t 65) (.t 67))), false, []⟩,
          ⟨(some 69), none, (.p (.pick (.t 63) (.t 68) (.c (.bool false)))), false, []⟩,
          ⟨(some 70), none, (.p (.mv (.t 69))), false, []⟩,
          ⟨(some 71), (some (70, true)), (.p (.mv (.t 0))), false, []⟩,
          ⟨(some 72), (some (70, true)), (.call 46 [(.t 71)] false), false, []⟩,
          ⟨(some 73), (some (70, true)), (.p (.mv (.t 0))), false, []⟩,
          ⟨(some 74), (some (70, true)), (.call 47 [(.t 73)] false), false, []⟩,
          ⟨(some 75), (some (70, true)), (.p (.binB .eql (.t 72) (.t 74))), false, []⟩,
          ⟨(some 76), none, (.p (.pick (.t 70) (.t 75) (.c (.bool false)))), false, []⟩,
          ⟨(some 77), none, (.p (.mv (.t 76))), false, []⟩,
          ⟨(some 78), (some (77, true)), (.call 38 [] false), false, []⟩,
          ⟨(some 79), none, (.p (.pick (.t 77) (.t 78) (.c (.bool false)))), false, []⟩,
          ⟨(some 4), none, (.p (.mv (.t 79))), false, []⟩] (some ⟨[4], [], false⟩))
        .ret)))))))
theorem Try.run11 {xs : List AV} {r : AV} (hl : xs.length ≤ 80) (h : aw Try.prog Try.c11 (Pv.Ends [4] r) (entry xs)) : Run Try.prog 11 xs r :=
  run_of (fun _ _ => drawOk Try.mixed) Try.func11 rfl rfl rfl (by kernel_rfl) (by kernel_rfl) hl h
/-! 12 paling/palinglaw10.LineBack : params [22, 9], results [4], free 0, zeros [(.slice none 0 0), (.string ⟨#[]⟩)] -/
def Try.c12b0 : AC :=
 (.seq
  (.seq
   (.region 0 [⟨(some 19), none, (.p (.mv (.t 5))), false, []⟩,
     ⟨(some 20), none, (.p (.mv (.t 0))), false, []⟩,
     ⟨(some 21), none, (.p (.len (.t 20))), false, []⟩,
     ⟨(some 22), none, (.p (.bin .lss (.t 19) (.t 21))), false, []⟩] (some ⟨[0, 1, 5, 22], [], false⟩))
   (.cond (.t 22)
    .skip
    (.exit 0)))
  (.seq
   (.block 1
    (.seq
     (.region 0 [⟨(some 25), none, (.p (.mv (.t 0))), false, []⟩,
       ⟨(some 26), none, (.p (.mv (.t 5))), false, []⟩,
       ⟨(some 27), none, (.p (.iaddr 1 (.t 25) (.t 26))), false, []⟩,
       ⟨(some 28), none, (.r (.load 1 false (.t 27))), false, []⟩,
       ⟨(some 29), none, (.call 46 [(.t 28)] false), false, []⟩,
       ⟨(some 30), none, (.p (.un .not (.t 29))), false, []⟩] (some ⟨[0, 1, 5, 30], [], false⟩))
     (.cond (.t 30)
      (.seq
       (.region 0 [⟨(some 4), none, (.p (.mv (.c (.bool true)))), false, []⟩] (some ⟨[4], [], false⟩))
       .ret)
      .skip)))
   (.region 0 [⟨(some 23), none, (.p (.mv (.t 5))), false, []⟩,
     ⟨(some 24), none, (.p (.bin .add (.t 23) (.c (.int .i64 1)))), false, []⟩,
     ⟨(some 5), none, (.p (.mv (.t 24))), false, []⟩] (some ⟨[0, 1, 5], [], false⟩))))
def Try.c12b1 : AC :=
 (.seq
  (.region 0 [⟨(some 53), none, (.p (.bin .lss (.t 52) (.t 51))), false, []⟩] (some ⟨[0, 6, 51, 52, 53], [], false⟩))
  (.seq
   (.cond (.t 53)
    .skip
    (.exit 2))
   (.seq
    (.block 3
     (.seq
      (.region 0 [⟨(some 54), none, (.p (.mv (.t 52))), false, []⟩,
        ⟨(some 8), none, (.p (.mv (.t 54))), false, []⟩] (some ⟨[0, 6, 8, 51, 52], [], false⟩))
      (.seq
       (.region 17 [⟨(some 55), none, (.p (.mv (.t 6))), false, []⟩,
         ⟨(some 56), none, (.p (.mv (.t 8))), false, []⟩,
         ⟨(some 57), none, (.p (.iaddr 1 (.t 55) (.t 56))), false, []⟩,
         ⟨(some 58), none, (.r (.load 1 false (.t 57))), false, []⟩,
         ⟨(some 59), none, (.p (.mv (.t 0))), false, []⟩,
         ⟨(some 60), none, (.p (.mv (.t 8))), false, []⟩,
         ⟨(some 61), none, (.p (.iaddr 1 (.t 59) (.t 60))), false, []⟩,
         ⟨(some 62), none, (.r (.load 1 false (.t 61))), false, []⟩,
         ⟨(some 63), none, (.p (.bin .neq (.t 58) (.t 62))), false, []⟩,
         ⟨(some 64), none, (.p (.mv (.t 63))), false, []⟩,
         ⟨(some 65), (some (64, false)), (.p (.mv (.t 6))), false, []⟩,
         ⟨(some 66), (some (64, false)), (.p (.mv (.t 8))), false, []⟩,
         ⟨(some 67), (some (64, false)), (.p (.iaddr 1 (.t 65) (.t 66))), false, []⟩,
         ⟨(some 68), (some (64, false)), (.r (.load 1 false (.t 67))), false, []⟩,
         ⟨(some 69), (some (64, false)), (.p (.lenS (.t 68))), false, []⟩,
         ⟨(some 70), (some (64, false)), (.p (.bin .gtr (.t 69) (.c (.int .i64 40)))), false, []⟩,
         ⟨(some 71), none, (.p (.pick (.t 64) (.c (.bool true)) (.t 70))), false, []⟩] (some ⟨[0, 6, 51, 52, 71], [], true⟩))
       (.cond (.t 71)
        (.seq
         (.region 0 [⟨(some 4), none, (.p (.mv (.c (.bool false)))), false, []⟩] (some ⟨[4], [], false⟩))
         .ret)
        .skip))))
    (.region 0 [⟨(some 72), none, (.p (.bin .add (.t 52) (.c (.int .i64 1)))), false, []⟩,
      ⟨(some 52), none, (.p (.mv (.t 72))), false, []⟩] (some ⟨[0, 6, 51, 52], [], false⟩)))))
def Try.c12 : AC :=
 (.seq
  (.region 0 [⟨(some 4), none, (.p (.mv (.c (.bool false)))), false, []⟩] (some ⟨[0, 1], [], false⟩))
  (.seq
   (.seq
    (.region 0 [⟨(some 9), none, (.call 38 [] false), false, []⟩,
      ⟨(some 10), none, (.p (.un .not (.t 9))), false, []⟩] (some ⟨[0, 1, 10], [], false⟩))
    (.cond (.t 10)
     (.seq
      (.region 0 [⟨(some 4), none, (.p (.mv (.c (.bool false)))), false, []⟩] (some ⟨[4], [], false⟩))
      .ret)
     .skip))
   (.seq
    (.seq
     (.region 0 [⟨(some 11), none, (.p (.mv (.t 0))), false, []⟩,
       ⟨(some 12), none, (.p (.len (.t 11))), false, []⟩,
       ⟨(some 13), none, (.p (.bin .gtr (.t 12) (.c (.int .i64 100)))), false, []⟩,
       ⟨(some 14), none, (.p (.mv (.t 13))), false, []⟩,
       ⟨(some 15), (some (14, false)), (.p (.mv (.t 1))), false, []⟩,
       ⟨(some 16), (some (14, false)), (.p (.lenS (.t 15))), false, []⟩,
       ⟨(some 17), (some (14, false)), (.p (.bin .gtr (.t 16) (.c (.int .i64 2000)))), false, []⟩,
       ⟨(some 18), none, (.p (.pick (.t 14) (.c (.bool true)) (.t 17))), false, []⟩] (some ⟨[0, 1, 18], [], false⟩))
     (.cond (.t 18)
      (.seq
       (.region 0 [⟨(some 4), none, (.p (.mv (.c (.bool true)))), false, []⟩] (some ⟨[4], [], false⟩))
       .ret)
      .skip))
    (.seq
     (.seq
      (.region 0 [⟨(some 5), none, (.p (.mv (.c (.int .i64 0)))), false, []⟩] (some ⟨[0, 1, 5], [], false⟩))
      (.block 0
       (.loop (some ⟨[0, 1, 5], [], true⟩) Try.c12b0)))
     (.seq
      (.region 0 [⟨(some 32), none, (.p (.mv (.t 0))), false, []⟩,
        ⟨(some 33), none, (.call 44 [(.t 32)] false), false, []⟩,
        ⟨(some 34), none, (.p (.bin .add (.c (.str [9])) (.t 33))), false, []⟩,
        ⟨(some 35), none, (.p (.bin .add (.t 34) (.c (.str [32, 35])))), false, []⟩,
        ⟨(some 36), none, (.p (.mv (.t 1))), false, []⟩,
        ⟨(some 37), none, (.p (.bin .add (.t 35) (.t 36))), false, []⟩,
        ⟨(some 38), none, (.call 42 [(.t 37)] false), false, []⟩,
        ⟨(some 31), none, (.p (.mv (.t 38))), false, []⟩,
        ⟨(some 39), none, (.p (.ext (.t 31) 0)), false, []⟩,
        ⟨(some 40), none, (.p (.ext (.t 31) 1)), false, []⟩,
        ⟨(some 6), none, (.p (.mv (.t 39))), false, []⟩,
        ⟨(some 7), none, (.p (.mv (.t 40))), false, []⟩] (some ⟨[0, 6, 7], [], false⟩))
      (.seq
       (.seq
        (.region 0 [⟨(some 41), none, (.p (.mv (.t 7))), false, []⟩,
          ⟨(some 42), none, (.p (.bin .neq (.t 41) (.c (.int .i64 0)))), false, []⟩,
          ⟨(some 43), none, (.p (.mv (.t 42))), false, []⟩,
          ⟨(some 44), (some (43, false)), (.p (.mv (.t 6))), false, []⟩,
          ⟨(some 45), (some (43, false)), (.p (.len (.t 44))), false, []⟩,
          ⟨(some 46), (some (43, false)), (.p (.mv (.t 0))), false, []⟩,
          ⟨(some 47), (some (43, false)), (.p (.len (.t 46))), false, []⟩,
          ⟨(some 48), (some (43, false)), (.p (.bin .neq (.t 45) (.t 47))), false, []⟩,
          ⟨(some 49), none, (.p (.pick (.t 43) (.c (.bool true)) (.t 48))), false, []⟩] (some ⟨[0, 6, 49], [], false⟩))
        (.cond (.t 49)
         (.seq
          (.region 0 [⟨(some 4), none, (.p (.mv (.c (.bool false)))), false, []⟩] (some ⟨[4], [], false⟩))
          .ret)
         .skip))
       (.seq
        (.seq
         (.region 0 [⟨(some 50), none, (.p (.mv (.t 6))), false, []⟩,
           ⟨(some 51), none, (.p (.len (.t 50))), false, []⟩,
           ⟨(some 52), none, (.p (.mv (.c (.int .i64 0)))), false, []⟩] (some ⟨[0, 6, 51, 52], [], false⟩))
         (.block 2
          (.loop (some ⟨[0, 6, 51, 52], [], true⟩) Try.c12b1)))
        (.seq
         (.region 0 [⟨(some 4), none, (.p (.mv (.c (.bool true)))), false, []⟩] (some ⟨[4], [], false⟩))
         .ret))))))))
theorem Try.run12 {xs : List AV} {r : AV} (hl : xs.length ≤ 73) (h : aw Try.prog Try.c12 (Pv.Ends [4] r) (entry xs)) : Run Try.prog 12 xs r :=
  run_of (fun _ _ => drawOk Try.mixed) Try.func12 rfl rfl rfl (by kernel_rfl) (by kernel_rfl) hl h
/-! 13 paling/palinglaw48.great : params [22], results [4], free 0, zeros [(.slice none 0 0)] -/
def Try.c13b0 : AC :=
 (.seq
  (.seq
   (.region 0 [⟨(some 5), none, (.p (.mv (.t 4))), false, []⟩,
     ⟨(some 6), none, (.p (.mv (.t 0))), false, []⟩,
     ⟨(some 7), none, (.p (.len (.t 6))), false, []⟩,
     ⟨(some 8), none, (.p (.bin .lss (.t 5) (.t 7))), false, []⟩,
     ⟨(some 9), none, (.p (.mv (.t 8))), false, []⟩,
     ⟨(some 10), (some (9, true)), (.p (.mv (.t 4))), false, []⟩,
     ⟨(some 11), (some (9, true)), (.p (.bin .lss (.t 10) (.c (.int .i64 30)))), false, []⟩,
     ⟨(some 12), none, (.p (.pick (.t 9) (.t 11) (.c (.bool false)))), false, []⟩] (some ⟨[0, 3, 4, 12], [], false⟩))
   (.cond (.t 12)
    .skip
    (.exit 0)))
  (.seq
   (.block 1
    (.seq
     (.seq
      (.region 0 [⟨(some 15), none, (.p (.mv (.t 0))), false, []⟩,
        ⟨(some 16), none, (.p (.mv (.t 4))), false, []⟩,
        ⟨(some 17), none, (.p (.iaddr 1 (.t 15) (.t 16))), false, []⟩,
        ⟨(some 18), none, (.r (.load 1 false (.t 17))), false, []⟩,
        ⟨(some 19), none, (.p (.lenS (.t 18))), false, []⟩,
        ⟨(some 20), none, (.p (.bin .gtr (.t 19) (.c (.int .i64 300)))), false, []⟩] (some ⟨[0, 3, 4, 20], [], false⟩))
      (.cond (.t 20)
       (.seq
        (.region 0 [⟨(some 2), none, (.p (.mv (.c (.bool true)))), false, []⟩] (some ⟨[2], [], false⟩))
        .ret)
       .skip))
     (.region 0 [⟨(some 21), none, (.p (.mv (.t 3))), false, []⟩,
       ⟨(some 22), none, (.p (.mv (.t 0))), false, []⟩,
       ⟨(some 23), none, (.p (.mv (.t 4))), false, []⟩,
       ⟨(some 24), none, (.p (.iaddr 1 (.t 22) (.t 23))), false, []⟩,
       ⟨(some 25), none, (.r (.load 1 false (.t 24))), false, []⟩,
       ⟨(some 26), none, (.p (.lenS (.t 25))), false, []⟩,
       ⟨(some 27), none, (.p (.bin .add (.t 21) (.t 26))), false, []⟩,
       ⟨(some 3), none, (.p (.mv (.t 27))), false, []⟩] (some ⟨[0, 3, 4], [], false⟩))))
   (.region 0 [⟨(some 13), none, (.p (.mv (.t 4))), false, []⟩,
     ⟨(some 14), none, (.p (.bin .add (.t 13) (.c (.int .i64 1)))), false, []⟩,
     ⟨(some 4), none, (.p (.mv (.t 14))), false, []⟩] (some ⟨[0, 3, 4], [], false⟩))))
def Try.c13 : AC :=
 (.seq
  (.region 0 [⟨(some 2), none, (.p (.mv (.c (.bool false)))), false, []⟩] (some ⟨[0], [], false⟩))
  (.seq
   (.region 0 [⟨(some 3), none, (.p (.mv (.c (.int .i64 0)))), false, []⟩] (some ⟨[0, 3], [], false⟩))
   (.seq
    (.seq
     (.region 0 [⟨(some 4), none, (.p (.mv (.c (.int .i64 0)))), false, []⟩] (some ⟨[0, 3, 4], [], false⟩))
     (.block 0
      (.loop (some ⟨[0, 3, 4], [], true⟩) Try.c13b0)))
    (.seq
     (.region 0 [⟨(some 28), none, (.p (.mv (.t 0))), false, []⟩,
       ⟨(some 29), none, (.p (.len (.t 28))), false, []⟩,
       ⟨(some 30), none, (.p (.bin .gtr (.t 29) (.c (.int .i64 30)))), false, []⟩,
       ⟨(some 31), none, (.p (.mv (.t 30))), false, []⟩,
       ⟨(some 32), (some (31, false)), (.p (.mv (.t 3))), false, []⟩,
       ⟨(some 33), (some (31, false)), (.p (.bin .gtr (.t 32) (.c (.int .i64 3000)))), false, []⟩,
       ⟨(some 34), none, (.p (.pick (.t 31) (.c (.bool true)) (.t 33))), false, []⟩,
       ⟨(some 2), none, (.p (.mv (.t 34))), false, []⟩] (some ⟨[2], [], false⟩))
     .ret))))
theorem Try.run13 {xs : List AV} {r : AV} (hl : xs.length ≤ 35) (h : aw Try.prog Try.c13 (Pv.Ends [2] r) (entry xs)) : Run Try.prog 13 xs r :=
  run_of (fun _ _ => drawOk Try.mixed) Try.func13 rfl rfl rfl (by kernel_rfl) (by kernel_rfl) hl h
/-! 14 paling/palinglaw48.works : params [], results [4], free 0, zeros [] -/
def Try.c14 : AC :=
 (.seq
  (.region 0 [⟨(some 0), none, (.p (.mv (.c (.bool false)))), false, []⟩] (some ⟨[], [], false⟩))
  (.seq
   (.region 0 [⟨(some 6), none, (.e (.mks 9 1 (.str []) 2 [(0, (.c (.str [97]))), (1, (.c (.str [98])))]) none), false, []⟩,
     ⟨(some 7), none, (.e (.mks 9 1 (.str []) 2 [(0, (.c (.str [98]))), (1, (.c (.str [99])))]) none), false, []⟩,
     ⟨(some 8), none, (.call 15 [(.t 6), (.t 7)] false), false, []⟩,
     ⟨(some 5), none, (.p (.mv (.t 8))), false, []⟩,
     ⟨(some 9), none, (.p (.ext (.t 5) 0)), false, []⟩,
     ⟨(some 10), none, (.p (.ext (.t 5) 1)), false, []⟩,
     ⟨(some 1), none, (.p (.mv (.t 9))), false, []⟩,
     ⟨(some 2), none, (.p (.mv (.t 10))), false, []⟩] (some ⟨[1, 2], [], false⟩))
   (.seq
    (.region 0 [⟨(some 12), none, (.e (.make 9 1 (.str []) (.c (.int .i64 401)) (.c (.int .i64 401))) none), false, []⟩,
      ⟨(some 13), none, (.call 15 [(.t 12), (.c (.sl 0 [] true))] false), false, []⟩,
      ⟨(some 11), none, (.p (.mv (.t 13))), false, []⟩,
      ⟨(some 14), none, (.p (.ext (.t 11) 0)), false, []⟩,
      ⟨(some 15), none, (.p (.ext (.t 11) 1)), false, []⟩,
      ⟨(some 3), none, (.p (.mv (.t 14))), false, []⟩,
      ⟨(some 4), none, (.p (.mv (.t 15))), false, []⟩] (some ⟨[1, 2, 4], [], false⟩))
    (.seq
     (.region 0 [⟨(some 16), none, (.p (.mv (.t 2))), false, []⟩,
       ⟨(some 17), none, (.p (.bin .eql (.t 16) (.c (.int .i64 0)))), false, []⟩,
       ⟨(some 18), none, (.p (.mv (.t 17))), false, []⟩,
       ⟨(some 19), (some (18, true)), (.p (.mv (.t 1))), false, []⟩,
       ⟨(some 20), (some (18, true)), (.p (.len (.t 19))), false, []⟩,
       ⟨(some 21), (some (18, true)), (.p (.bin .eql (.t 20) (.c (.int .i64 3)))), false, []⟩,
       ⟨(some 22), none, (.p (.pick (.t 18) (.t 21) (.c (.bool false)))), false, []⟩,
       ⟨(some 23), none, (.p (.mv (.t 22))), false, []⟩,
       ⟨(some 24), (some (23, true)), (.p (.mv (.t 1))), false, []⟩,
       ⟨(some 25), (some (23, true)), (.p (.iaddr 2 (.t 24) (.c (.int .i64 0)))), false, []⟩,
       ⟨(some 26), (some (23, true)), (.r (.load 2 true (.t 25))), false, []⟩,
       ⟨(some 27), (some (23, true)), (.p (.build [(.int .i64 0), (.str [])] [(0, 1, (.c (.int .i64 1))), (1, 1, (.c (.str [97])))])), false, []⟩,
       ⟨(some 28), (some (23, true)), (.p (.eqS false [0, 1] (.t 26) (.t 27))), false, []⟩,
       ⟨(some 29), none, (.p (.pick (.t 23) (.t 28) (.c (.bool false)))), false, []⟩,
       ⟨(some 30), none, (.p (.mv (.t 29))), false, []⟩,
       ⟨(some 31), (some (30, true)), (.p (.mv (.t 1))), false, []⟩,
       ⟨(some 32), (some (30, true)), (.p (.iaddr 2 (.t 31) (.c (.int .i64 1)))), false, []⟩,
       ⟨(some 33), (some (30, true)), (.r (.load 2 true (.t 32))), false, []⟩,
       ⟨(some 34), (some (30, true)), (.p (.build [(.int .i64 0), (.str [])] [(0, 1, (.c (.int .i64 0))), (1, 1, (.c (.str [98])))])), false, []⟩,
       ⟨(some 35), (some (30, true)), (.p (.eqS false [0, 1] (.t 33) (.t 34))), false, []⟩,
       ⟨(some 36), none, (.p (.pick (.t 30) (.t 35) (.c (.bool false)))), false, []⟩,
       ⟨(some 37), none, (.p (.mv (.t 36))), false, []⟩,
       ⟨(some 38), (some (37, true)), (.p (.mv (.t 1))), false, []⟩,
       ⟨(some 39), (some (37, true)), (.p (.iaddr 2 (.t 38) (.c (.int .i64 2)))), false, []⟩,
       ⟨(some 40), (some (37, true)), (.r (.load 2 true (.t 39))), false, []⟩,
       ⟨(some 41), (some (37, true)), (.p (.build [(.int .i64 0), (.str [])] [(0, 1, (.c (.int .i64 2))), (1, 1, (.c (.str [99])))])), false, []⟩,
       ⟨(some 42), (some (37, true)), (.p (.eqS false [0, 1] (.t 40) (.t 41))), false, []⟩,
       ⟨(some 43), none, (.p (.pick (.t 37) (.t 42) (.c (.bool false)))), false, []⟩,
       ⟨(some 44), none, (.p (.mv (.t 43))), false, []⟩,
       ⟨(some 45), (some (44, true)), (.p (.mv (.t 4))), false, []⟩,
       ⟨(some 46), (some (44, true)), (.p (.bin .eql (.t 45) (.c (.int .i64 3)))), false, []⟩,
       ⟨(some 47), none, (.p (.pick (.t 44) (.t 46) (.c (.bool false)))), false, []⟩,
       ⟨(some 0), none, (.p (.mv (.t 47))), false, []⟩] (some ⟨[0], [], false⟩))
     .ret))))
theorem Try.run14 {xs : List AV} {r : AV} (hl : xs.length ≤ 48) (h : aw Try.prog Try.c14 (Pv.Ends [0] r) (entry xs)) : Run Try.prog 14 xs r :=
  run_of (fun _ _ => drawOk Try.mixed) Try.func14 rfl rfl rfl (by kernel_rfl) (by kernel_rfl) hl h
/-! 15 paling/diff.Rows : params [22, 22], results [25, 26], free 0, zeros [(.slice none 0 0), (.slice none 0 0)] -/
def Try.c15 : AC :=
 (.seq
  (.region 0 [⟨(some 4), none, (.p (.mv (.c (.sl 0 [] true)))), false, []⟩,
    ⟨(some 5), none, (.p (.mv (.c (.int .i64 0)))), false, []⟩] (some ⟨[0, 1], [], false⟩))
  (.seq
   (.seq
    (.region 0 [⟨(some 6), none, (.p (.mv (.t 0))), false, []⟩,
      ⟨(some 7), none, (.p (.len (.t 6))), false, []⟩,
      ⟨(some 8), none, (.p (.bin .gtr (.t 7) (.c (.int .i64 400)))), false, []⟩,
      ⟨(some 9), none, (.p (.mv (.t 8))), false, []⟩,
      ⟨(some 10), (some (9, false)), (.p (.mv (.t 1))), false, []⟩,
      ⟨(some 11), (some (9, false)), (.p (.len (.t 10))), false, []⟩,
      ⟨(some 12), (some (9, false)), (.p (.bin .gtr (.t 11) (.c (.int .i64 400)))), false, []⟩,
      ⟨(some 13), none, (.p (.pick (.t 9) (.c (.bool true)) (.t 12))), false, []⟩] (some ⟨[0, 1, 13], [], false⟩))
    (.cond (.t 13)
     (.seq
      (.region 0 [⟨(some 4), none, (.p (.mv (.c (.sl 0 [] true)))), false, []⟩,
        ⟨(some 5), none, (.p (.mv (.c (.int .i64 3)))), false, []⟩] (some ⟨[4, 5], [], false⟩))
      .ret)
     .skip))
   (.seq
    (.region 0 [⟨(some 14), none, (.p (.mv (.t 0))), false, []⟩,
      ⟨(some 15), none, (.p (.mv (.t 1))), false, []⟩,
      ⟨(some 16), none, (.call 48 [(.t 14), (.t 15)] false), false, []⟩,
      ⟨(some 17), none, (.call 49 [(.t 16)] false), false, []⟩,
      ⟨(some 4), none, (.p (.mv (.t 17))), false, []⟩,
      ⟨(some 5), none, (.p (.mv (.c (.int .i64 0)))), false, []⟩] (some ⟨[4, 5], [], false⟩))
    .ret)))
theorem Try.run15 {xs : List AV} {r : AV} (hl : xs.length ≤ 18) (h : aw Try.prog Try.c15 (Pv.Ends [4, 5] r) (entry xs)) : Run Try.prog 15 xs r :=
  run_of (fun _ _ => drawOk Try.mixed) Try.func15 rfl rfl rfl (by kernel_rfl) (by kernel_rfl) hl h
/-! 16 paling/palingref48.Rows : params [22, 22], results [29, 3], free 0, zeros [(.slice none 0 0), (.slice none 0 0)] -/
def Try.c16b0 : AC :=
 (.seq
  (.seq
   (.region 0 [⟨(some 15), none, (.p (.mv (.t 0))), false, []⟩,
     ⟨(some 16), none, (.p (.len (.t 15))), false, []⟩,
     ⟨(some 17), none, (.p (.bin .gtr (.t 16) (.c (.int .i64 0)))), false, []⟩,
     ⟨(some 18), none, (.p (.mv (.t 17))), false, []⟩,
     ⟨(some 19), (some (18, false)), (.p (.mv (.t 1))), false, []⟩,
     ⟨(some 20), (some (18, false)), (.p (.len (.t 19))), false, []⟩,
     ⟨(some 21), (some (18, false)), (.p (.bin .gtr (.t 20) (.c (.int .i64 0)))), false, []⟩,
     ⟨(some 22), none, (.p (.pick (.t 18) (.c (.bool true)) (.t 21))), false, []⟩] (some ⟨[0, 1, 6, 22], [], false⟩))
   (.cond (.t 22)
    .skip
    (.exit 0)))
  (.block 1
   (.seq
    (.seq
     (.region 17 [⟨(some 23), none, (.p (.mv (.t 0))), false, []⟩,
       ⟨(some 24), none, (.p (.len (.t 23))), false, []⟩,
       ⟨(some 25), none, (.p (.bin .gtr (.t 24) (.c (.int .i64 0)))), false, []⟩,
       ⟨(some 26), none, (.p (.mv (.t 25))), false, []⟩,
       ⟨(some 27), (some (26, true)), (.p (.mv (.t 1))), false, []⟩,
       ⟨(some 28), (some (26, true)), (.p (.len (.t 27))), false, []⟩,
       ⟨(some 29), (some (26, true)), (.p (.bin .gtr (.t 28) (.c (.int .i64 0)))), false, []⟩,
       ⟨(some 30), none, (.p (.pick (.t 26) (.t 29) (.c (.bool false)))), false, []⟩,
       ⟨(some 31), none, (.p (.mv (.t 30))), false, []⟩,
       ⟨(some 32), (some (31, true)), (.p (.mv (.t 0))), false, []⟩,
       ⟨(some 33), (some (31, true)), (.p (.iaddr 1 (.t 32) (.c (.int .i64 0)))), false, []⟩,
       ⟨(some 34), (some (31, true)), (.r (.load 1 false (.t 33))), false, []⟩,
       ⟨(some 35), (some (31, true)), (.p (.mv (.t 1))), false, []⟩,
       ⟨(some 36), (some (31, true)), (.p (.iaddr 1 (.t 35) (.c (.int .i64 0)))), false, []⟩,
       ⟨(some 37), (some (31, true)), (.r (.load 1 false (.t 36))), false, []⟩,
       ⟨(some 38), (some (31, true)), (.p (.bin .eql (.t 34) (.t 37))), false, []⟩,
       ⟨(some 39), none, (.p (.pick (.t 31) (.t 38) (.c (.bool false)))), false, []⟩] (some ⟨[0, 1, 6, 39], [], true⟩))
     (.cond (.t 39)
      (.seq
       (.region 0 [⟨(some 40), none, (.p (.mv (.t 6))), false, []⟩,
         ⟨(some 41), none, (.p (.mv (.t 0))), false, []⟩,
         ⟨(some 42), none, (.p (.iaddr 1 (.t 41) (.c (.int .i64 0)))), false, []⟩,
         ⟨(some 43), none, (.r (.load 1 false (.t 42))), false, []⟩,
         ⟨(some 44), none, (.p (.build [(.int .i64 0), (.str [])] [(0, 1, (.c (.int .i64 0))), (1, 1, (.t 43))])), false, []⟩,
         ⟨(some 45), none, (.e (.mks 85 2 (.agg [(.int .i64 0), (.str [])]) 1 [(0, (.t 44))]) none), false, []⟩,
         ⟨(some 46), none, (.e (.append 85 2 (.t 40) (.t 45)) none), false, []⟩,
         ⟨(some 6), none, (.p (.mv (.t 46))), false, []⟩] (some ⟨[0, 1, 6], [], false⟩))
       (.seq
        (.region 0 [⟨(some 47), none, (.p (.mv (.t 0))), false, []⟩,
          ⟨(some 48), none, (.p (.slicev 1 (.t 47) (some (.c (.int .i64 1))) none none)), false, []⟩,
          ⟨(some 0), none, (.p (.mv (.t 48))), false, []⟩] (some ⟨[0, 1, 6], [], false⟩))
        (.seq
         (.region 0 [⟨(some 49), none, (.p (.mv (.t 1))), false, []⟩,
           ⟨(some 50), none, (.p (.slicev 1 (.t 49) (some (.c (.int .i64 1))) none none)), false, []⟩,
           ⟨(some 1), none, (.p (.mv (.t 50))), false, []⟩] (some ⟨[0, 1, 6], [], false⟩))
         (.exit 1))))
      .skip))
    (.seq
     (.seq
      (.region 19 [⟨(some 51), none, (.p (.mv (.t 0))), false, []⟩,
        ⟨(some 52), none, (.p (.len (.t 51))), false, []⟩,
        ⟨(some 53), none, (.p (.bin .gtr (.t 52) (.c (.int .i64 0)))), false, []⟩,
        ⟨(some 54), none, (.p (.mv (.t 53))), false, []⟩,
        ⟨(some 55), (some (54, true)), (.p (.mv (.t 1))), false, []⟩,
        ⟨(some 56), (some (54, true)), (.p (.len (.t 55))), false, []⟩,
        ⟨(some 57), (some (54, true)), (.p (.bin .eql (.t 56) (.c (.int .i64 0)))), false, []⟩,
        ⟨(some 58), (some (54, true)), (.p (.mv (.t 57))), false, []⟩,
        ⟨(some 59), (some (58, false)), (.p (.mv (.t 0))), false, []⟩,
        ⟨(some 60), (some (58, false)), (.p (.slicev 1 (.t 59) (some (.c (.int .i64 1))) none none)), false, []⟩,
        ⟨(some 61), (some (58, false)), (.p (.mv (.t 1))), false, []⟩,
        ⟨(some 63), (some (58, false)), (.p (.mv (.t 0))), false, []⟩,
        ⟨(some 64), (some (58, false)), (.p (.mv (.t 1))), false, []⟩,
        ⟨(some 65), (some (58, false)), (.p (.slicev 1 (.t 64) (some (.c (.int .i64 1))) none none)), false, []⟩,
        ⟨(some 62), (some (58, false)), (.call 50 [(.t 60), (.t 61)] true), false, []⟩,
        ⟨(some 66), (some (58, false)), (.call 50 [(.t 63), (.t 65)] true), false, []⟩,
        ⟨(some 67), (some (58, false)), (.p (.bin .geq (.t 62) (.t 66))), false, []⟩,
        ⟨(some 68), (some (54, true)), (.p (.pick (.t 58) (.c (.bool true)) (.t 67))), false, []⟩,
        ⟨(some 69), none, (.p (.pick (.t 54) (.t 68) (.c (.bool false)))), false, []⟩] (some ⟨[0, 1, 6, 69], [], true⟩))
      (.cond (.t 69)
       (.seq
        (.region 0 [⟨(some 70), none, (.p (.mv (.t 6))), false, []⟩,
          ⟨(some 71), none, (.p (.mv (.t 0))), false, []⟩,
          ⟨(some 72), none, (.p (.iaddr 1 (.t 71) (.c (.int .i64 0)))), false, []⟩,
          ⟨(some 73), none, (.r (.load 1 false (.t 72))), false, []⟩,
          ⟨(some 74), none, (.p (.build [(.int .i64 0), (.str [])] [(0, 1, (.c (.int .i64 1))), (1, 1, (.t 73))])), false, []⟩,
          ⟨(some 75), none, (.e (.mks 85 2 (.agg [(.int .i64 0), (.str [])]) 1 [(0, (.t 74))]) none), false, []⟩,
          ⟨(some 76), none, (.e (.append 85 2 (.t 70) (.t 75)) none), false, []⟩,
          ⟨(some 6), none, (.p (.mv (.t 76))), false, []⟩] (some ⟨[0, 1, 6], [], false⟩))
        (.seq
         (.region 0 [⟨(some 77), none, (.p (.mv (.t 0))), false, []⟩,
           ⟨(some 78), none, (.p (.slicev 1 (.t 77) (some (.c (.int .i64 1))) none none)), false, []⟩,
           ⟨(some 0), none, (.p (.mv (.t 78))), false, []⟩] (some ⟨[0, 1, 6], [], false⟩))
         (.exit 1)))
       .skip))
     (.seq
      (.region 0 [⟨(some 79), none, (.p (.mv (.t 6))), false, []⟩,
        ⟨(some 80), none, (.p (.mv (.t 1))), false, []⟩,
        ⟨(some 81), none, (.p (.iaddr 1 (.t 80) (.c (.int .i64 0)))), false, []⟩,
        ⟨(some 82), none, (.r (.load 1 false (.t 81))), false, []⟩,
        ⟨(some 83), none, (.p (.build [(.int .i64 0), (.str [])] [(0, 1, (.c (.int .i64 2))), (1, 1, (.t 82))])), false, []⟩,
        ⟨(some 84), none, (.e (.mks 85 2 (.agg [(.int .i64 0), (.str [])]) 1 [(0, (.t 83))]) none), false, []⟩,
        ⟨(some 85), none, (.e (.append 85 2 (.t 79) (.t 84)) none), false, []⟩,
        ⟨(some 6), none, (.p (.mv (.t 85))), false, []⟩] (some ⟨[0, 1, 6], [], false⟩))
      (.region 0 [⟨(some 86), none, (.p (.mv (.t 1))), false, []⟩,
        ⟨(some 87), none, (.p (.slicev 1 (.t 86) (some (.c (.int .i64 1))) none none)), false, []⟩,
        ⟨(some 1), none, (.p (.mv (.t 87))), false, []⟩] (some ⟨[0, 1, 6], [], false⟩)))))))
def Try.c16 : AC :=
 (.seq
  (.region 0 [⟨(some 4), none, (.p (.mv (.c (.sl 0 [] true)))), false, []⟩,
    ⟨(some 5), none, (.p (.mv (.c (.int .i64 0)))), false, []⟩] (some ⟨[0, 1], [], false⟩))
  (.seq
   (.seq
    (.region 0 [⟨(some 7), none, (.p (.mv (.t 0))), false, []⟩,
      ⟨(some 8), none, (.p (.len (.t 7))), false, []⟩,
      ⟨(some 9), none, (.p (.bin .gtr (.t 8) (.c (.int .i64 400)))), false, []⟩,
      ⟨(some 10), none, (.p (.mv (.t 9))), false, []⟩,
      ⟨(some 11), (some (10, false)), (.p (.mv (.t 1))), false, []⟩,
      ⟨(some 12), (some (10, false)), (.p (.len (.t 11))), false, []⟩,
      ⟨(some 13), (some (10, false)), (.p (.bin .gtr (.t 12) (.c (.int .i64 400)))), false, []⟩,
      ⟨(some 14), none, (.p (.pick (.t 10) (.c (.bool true)) (.t 13))), false, []⟩] (some ⟨[0, 1, 14], [], false⟩))
    (.cond (.t 14)
     (.seq
      (.region 0 [⟨(some 4), none, (.p (.mv (.c (.sl 0 [] true)))), false, []⟩,
        ⟨(some 5), none, (.p (.mv (.c (.int .i64 3)))), false, []⟩] (some ⟨[4, 5], [], false⟩))
      .ret)
     .skip))
   (.seq
    (.region 0 [⟨(some 6), none, (.p (.mv (.c (.sl 0 [] true)))), false, []⟩] (some ⟨[0, 1, 6], [], false⟩))
    (.seq
     (.block 0
      (.loop (some ⟨[0, 1, 6], [(6, (2, 85))], true⟩) Try.c16b0))
     (.seq
      (.region 0 [⟨(some 88), none, (.p (.mv (.t 6))), false, []⟩,
        ⟨(some 4), none, (.p (.mv (.t 88))), false, []⟩,
        ⟨(some 5), none, (.p (.mv (.c (.int .i64 0)))), false, []⟩] (some ⟨[4, 5], [], false⟩))
      .ret)))))
theorem Try.run16 {xs : List AV} {r : AV} (hl : xs.length ≤ 89) (h : aw Try.prog Try.c16 (Pv.Ends [4, 5] r) (entry xs)) : Run Try.prog 16 xs r :=
  run_of (fun _ _ => drawOk Try.mixed) Try.func16 rfl rfl rfl (by kernel_rfl) (by kernel_rfl) hl h
/-! 17 paling/palingref48.Same : params [29, 29], results [4], free 0, zeros [(.slice none 0 0), (.slice none 0 0)] -/
def Try.c17b0 : AC :=
 (.seq
  (.seq
   (.region 0 [⟨(some 11), none, (.p (.mv (.t 5))), false, []⟩,
     ⟨(some 12), none, (.p (.mv (.t 0))), false, []⟩,
     ⟨(some 13), none, (.p (.len (.t 12))), false, []⟩,
     ⟨(some 14), none, (.p (.bin .lss (.t 11) (.t 13))), false, []⟩] (some ⟨[0, 1, 5, 14], [], false⟩))
   (.cond (.t 14)
    .skip
    (.exit 0)))
  (.seq
   (.block 1
    (.seq
     (.region 9 [⟨(some 17), none, (.p (.mv (.t 0))), false, []⟩,
       ⟨(some 18), none, (.p (.mv (.t 5))), false, []⟩,
       ⟨(some 19), none, (.p (.iaddr 2 (.t 17) (.t 18))), false, []⟩,
       ⟨(some 20), none, (.r (.load 2 true (.t 19))), false, []⟩,
       ⟨(some 21), none, (.p (.mv (.t 1))), false, []⟩,
       ⟨(some 22), none, (.p (.mv (.t 5))), false, []⟩,
       ⟨(some 23), none, (.p (.iaddr 2 (.t 21) (.t 22))), false, []⟩,
       ⟨(some 24), none, (.r (.load 2 true (.t 23))), false, []⟩,
       ⟨(some 25), none, (.p (.eqS true [0, 1] (.t 20) (.t 24))), false, []⟩] (some ⟨[0, 1, 5, 25], [], true⟩))
     (.cond (.t 25)
      (.seq
       (.region 0 [⟨(some 4), none, (.p (.mv (.c (.bool false)))), false, []⟩] (some ⟨[4], [], false⟩))
       .ret)
      .skip)))
   (.region 0 [⟨(some 15), none, (.p (.mv (.t 5))), false, []⟩,
     ⟨(some 16), none, (.p (.bin .add (.t 15) (.c (.int .i64 1)))), false, []⟩,
     ⟨(some 5), none, (.p (.mv (.t 16))), false, []⟩] (some ⟨[0, 1, 5], [], false⟩))))
def Try.c17 : AC :=
 (.seq
  (.region 0 [⟨(some 4), none, (.p (.mv (.c (.bool false)))), false, []⟩] (some ⟨[0, 1], [], false⟩))
  (.seq
   (.seq
    (.region 0 [⟨(some 6), none, (.p (.mv (.t 0))), false, []⟩,
      ⟨(some 7), none, (.p (.len (.t 6))), false, []⟩,
      ⟨(some 8), none, (.p (.mv (.t 1))), false, []⟩,
      ⟨(some 9), none, (.p (.len (.t 8))), false, []⟩,
      ⟨(some 10), none, (.p (.bin .neq (.t 7) (.t 9))), false, []⟩] (some ⟨[0, 1, 10], [], false⟩))
    (.cond (.t 10)
     (.seq
      (.region 0 [⟨(some 4), none, (.p (.mv (.c (.bool false)))), false, []⟩] (some ⟨[4], [], false⟩))
      .ret)
     .skip))
   (.seq
    (.seq
     (.region 0 [⟨(some 5), none, (.p (.mv (.c (.int .i64 0)))), false, []⟩] (some ⟨[0, 1, 5], [], false⟩))
     (.block 0
      (.loop (some ⟨[0, 1, 5], [], true⟩) Try.c17b0)))
    (.seq
     (.region 0 [⟨(some 4), none, (.p (.mv (.c (.bool true)))), false, []⟩] (some ⟨[4], [], false⟩))
     .ret))))
theorem Try.run17 {xs : List AV} {r : AV} (hl : xs.length ≤ 26) (h : aw Try.prog Try.c17 (Pv.Ends [4] r) (entry xs)) : Run Try.prog 17 xs r :=
  run_of (fun _ _ => drawOk Try.mixed) Try.func17 rfl rfl rfl (by kernel_rfl) (by kernel_rfl) hl h
/-! 18 paling/palinglaw48.told : params [25], results [29], free 0, zeros [(.slice none 0 0)] -/
def Try.c18b0 : AC :=
 (.seq
  (.region 0 [⟨(some 9), none, (.p (.bin .lss (.t 8) (.t 7))), false, []⟩] (some ⟨[3, 6, 7, 8, 9], [], false⟩))
  (.seq
   (.cond (.t 9)
    .skip
    (.exit 0))
   (.seq
    (.block 1
     (.seq
      (.region 0 [⟨(some 10), none, (.p (.iaddr 2 (.t 6) (.t 8))), false, []⟩,
        ⟨(some 11), none, (.r (.load 2 true (.t 10))), false, []⟩,
        ⟨(some 5), none, (.e (.alloc 81 (.agg [(.int .i64 0), (.str [])])) none), false, []⟩,
        ⟨none, none, (.e (.store 2 (.t 5) (.t 11)) none), false, []⟩] (some ⟨[3, 5, 6, 7, 8], [], false⟩))
      (.region 0 [⟨(some 12), none, (.p (.mv (.t 3))), false, []⟩,
        ⟨(some 13), none, (.r (.load 2 true (.t 5))), false, []⟩,
        ⟨(some 14), none, (.e (.mks 85 2 (.agg [(.int .i64 0), (.str [])]) 1 [(0, (.t 13))]) none), false, []⟩,
        ⟨(some 15), none, (.e (.append 85 2 (.t 12) (.t 14)) none), false, []⟩,
        ⟨(some 3), none, (.p (.mv (.t 15))), false, []⟩] (some ⟨[3, 6, 7, 8], [], false⟩))))
    (.region 0 [⟨(some 16), none, (.p (.bin .add (.t 8) (.c (.int .i64 1)))), false, []⟩,
      ⟨(some 8), none, (.p (.mv (.t 16))), false, []⟩] (some ⟨[3, 6, 7, 8], [], false⟩)))))
def Try.c18 : AC :=
 (.seq
  (.region 0 [⟨(some 2), none, (.p (.mv (.c (.sl 0 [] true)))), false, []⟩] (some ⟨[0], [], false⟩))
  (.seq
   (.region 0 [⟨(some 3), none, (.p (.mv (.c (.sl 0 [] true)))), false, []⟩] (some ⟨[0, 3], [], false⟩))
   (.seq
    (.seq
     (.region 0 [⟨(some 6), none, (.p (.mv (.t 0))), false, []⟩,
       ⟨(some 7), none, (.p (.len (.t 6))), false, []⟩,
       ⟨(some 8), none, (.p (.mv (.c (.int .i64 0)))), false, []⟩] (some ⟨[3, 6, 7, 8], [], false⟩))
     (.block 0
      (.loop (some ⟨[3, 6, 7, 8], [(3, (2, 85))], true⟩) Try.c18b0)))
    (.seq
     (.region 0 [⟨(some 17), none, (.p (.mv (.t 3))), false, []⟩,
       ⟨(some 2), none, (.p (.mv (.t 17))), false, []⟩] (some ⟨[2], [], false⟩))
     .ret))))
theorem Try.run18 {xs : List AV} {r : AV} (hl : xs.length ≤ 18) (h : aw Try.prog Try.c18 (Pv.Ends [2] r) (entry xs)) : Run Try.prog 18 xs r :=
  run_of (fun _ _ => drawOk Try.mixed) Try.func18 rfl rfl rfl (by kernel_rfl) (by kernel_rfl) hl h
/-! 19 paling/palinglaw48.bulky : params [25], results [4], free 0, zeros [(.slice none 0 0)] -/
def Try.c19b0 : AC :=
 (.seq
  (.seq
   (.region 0 [⟨(some 4), none, (.p (.mv (.t 3))), false, []⟩,
     ⟨(some 5), none, (.p (.mv (.t 0))), false, []⟩,
     ⟨(some 6), none, (.p (.len (.t 5))), false, []⟩,
     ⟨(some 7), none, (.p (.bin .lss (.t 4) (.t 6))), false, []⟩,
     ⟨(some 8), none, (.p (.mv (.t 7))), false, []⟩,
     ⟨(some 9), (some (8, true)), (.p (.mv (.t 3))), false, []⟩,
     ⟨(some 10), (some (8, true)), (.p (.bin .lss (.t 9) (.c (.int .i64 60)))), false, []⟩,
     ⟨(some 11), none, (.p (.pick (.t 8) (.t 10) (.c (.bool false)))), false, []⟩] (some ⟨[0, 3, 11], [], false⟩))
   (.cond (.t 11)
    .skip
    (.exit 0)))
  (.seq
   (.block 1
    (.seq
     (.region 0 [⟨(some 14), none, (.p (.mv (.t 0))), false, []⟩,
       ⟨(some 15), none, (.p (.mv (.t 3))), false, []⟩,
       ⟨(some 16), none, (.p (.iaddr 2 (.t 14) (.t 15))), false, []⟩,
       ⟨(some 17), none, (.p (.faddr 1 (.t 16))), false, []⟩,
       ⟨(some 18), none, (.r (.load 1 false (.t 17))), false, []⟩,
       ⟨(some 19), none, (.p (.lenS (.t 18))), false, []⟩,
       ⟨(some 20), none, (.p (.bin .gtr (.t 19) (.c (.int .i64 300)))), false, []⟩] (some ⟨[0, 3, 20], [], false⟩))
     (.cond (.t 20)
      (.seq
       (.region 0 [⟨(some 2), none, (.p (.mv (.c (.bool true)))), false, []⟩] (some ⟨[2], [], false⟩))
       .ret)
      .skip)))
   (.region 0 [⟨(some 12), none, (.p (.mv (.t 3))), false, []⟩,
     ⟨(some 13), none, (.p (.bin .add (.t 12) (.c (.int .i64 1)))), false, []⟩,
     ⟨(some 3), none, (.p (.mv (.t 13))), false, []⟩] (some ⟨[0, 3], [], false⟩))))
def Try.c19 : AC :=
 (.seq
  (.region 0 [⟨(some 2), none, (.p (.mv (.c (.bool false)))), false, []⟩] (some ⟨[0], [], false⟩))
  (.seq
   (.seq
    (.region 0 [⟨(some 3), none, (.p (.mv (.c (.int .i64 0)))), false, []⟩] (some ⟨[0, 3], [], false⟩))
    (.block 0
     (.loop (some ⟨[0, 3], [], true⟩) Try.c19b0)))
   (.seq
    (.region 0 [⟨(some 21), none, (.p (.mv (.t 0))), false, []⟩,
      ⟨(some 22), none, (.p (.len (.t 21))), false, []⟩,
      ⟨(some 23), none, (.p (.bin .gtr (.t 22) (.c (.int .i64 60)))), false, []⟩,
      ⟨(some 2), none, (.p (.mv (.t 23))), false, []⟩] (some ⟨[2], [], false⟩))
    .ret)))
theorem Try.run19 {xs : List AV} {r : AV} (hl : xs.length ≤ 24) (h : aw Try.prog Try.c19 (Pv.Ends [2] r) (entry xs)) : Run Try.prog 19 xs r :=
  run_of (fun _ _ => drawOk Try.mixed) Try.func19 rfl rfl rfl (by kernel_rfl) (by kernel_rfl) hl h
/-! 20 paling/diff.Apply : params [22, 25], results [22, 4], free 0, zeros [(.slice none 0 0), (.slice none 0 0)] -/
def Try.c20b0 : AC :=
 (.seq
  (.region 0 [⟨(some 12), none, (.p (.bin .lss (.t 11) (.t 10))), false, []⟩] (some ⟨[0, 6, 9, 10, 11, 12], [], false⟩))
  (.seq
   (.cond (.t 12)
    .skip
    (.exit 0))
   (.seq
    (.block 1
     (.seq
      (.region 0 [⟨(some 13), none, (.p (.iaddr 2 (.t 9) (.t 11))), false, []⟩,
        ⟨(some 14), none, (.r (.load 2 true (.t 13))), false, []⟩,
        ⟨(some 8), none, (.e (.alloc 81 (.agg [(.int .i64 0), (.str [])])) none), false, []⟩,
        ⟨none, none, (.e (.store 2 (.t 8) (.t 14)) none), false, []⟩] (some ⟨[0, 6, 8, 9, 10, 11], [], false⟩))
      (.seq
       (.seq
        (.region 0 [⟨(some 15), none, (.p (.faddr 0 (.t 8))), false, []⟩,
          ⟨(some 16), none, (.r (.load 1 false (.t 15))), false, []⟩,
          ⟨(some 17), none, (.p (.bin .lss (.t 16) (.c (.int .i64 0)))), false, []⟩,
          ⟨(some 18), none, (.p (.mv (.t 17))), false, []⟩,
          ⟨(some 19), (some (18, false)), (.p (.faddr 0 (.t 8))), false, []⟩,
          ⟨(some 20), (some (18, false)), (.r (.load 1 false (.t 19))), false, []⟩,
          ⟨(some 21), (some (18, false)), (.p (.bin .gtr (.t 20) (.c (.int .i64 2)))), false, []⟩,
          ⟨(some 22), none, (.p (.pick (.t 18) (.c (.bool true)) (.t 21))), false, []⟩] (some ⟨[0, 6, 8, 9, 10, 11, 22], [], false⟩))
        (.cond (.t 22)
         (.seq
          (.region 0 [⟨(some 4), none, (.p (.mv (.c (.sl 0 [] true)))), false, []⟩,
            ⟨(some 5), none, (.p (.mv (.c (.bool false)))), false, []⟩] (some ⟨[4, 5], [], false⟩))
          .ret)
         .skip))
       (.seq
        (.seq
         (.region 0 [⟨(some 23), none, (.p (.faddr 0 (.t 8))), false, []⟩,
           ⟨(some 24), none, (.r (.load 1 false (.t 23))), false, []⟩,
           ⟨(some 25), none, (.p (.bin .neq (.t 24) (.c (.int .i64 2)))), false, []⟩] (some ⟨[0, 6, 8, 9, 10, 11, 25], [], false⟩))
         (.cond (.t 25)
          (.seq
           (.seq
            (.region 11 [⟨(some 26), none, (.p (.mv (.t 0))), false, []⟩,
              ⟨(some 27), none, (.p (.len (.t 26))), false, []⟩,
              ⟨(some 28), none, (.p (.bin .eql (.t 27) (.c (.int .i64 0)))), false, []⟩,
              ⟨(some 29), none, (.p (.mv (.t 28))), false, []⟩,
              ⟨(some 30), (some (29, false)), (.p (.mv (.t 0))), false, []⟩,
              ⟨(some 31), (some (29, false)), (.p (.iaddr 1 (.t 30) (.c (.int .i64 0)))), false, []⟩,
              ⟨(some 32), (some (29, false)), (.r (.load 1 false (.t 31))), false, []⟩,
              ⟨(some 33), (some (29, false)), (.p (.faddr 1 (.t 8))), false, []⟩,
              ⟨(some 34), (some (29, false)), (.r (.load 1 false (.t 33))), false, []⟩,
              ⟨(some 35), (some (29, false)), (.p (.bin .neq (.t 32) (.t 34))), false, []⟩,
              ⟨(some 36), none, (.p (.pick (.t 29) (.c (.bool true)) (.t 35))), false, []⟩] (some ⟨[0, 6, 8, 9, 10, 11, 36], [], true⟩))
            (.cond (.t 36)
             (.seq
              (.region 0 [⟨(some 4), none, (.p (.mv (.c (.sl 0 [] true)))), false, []⟩,
                ⟨(some 5), none, (.p (.mv (.c (.bool false)))), false, []⟩] (some ⟨[4, 5], [], false⟩))
              .ret)
             .skip))
           (.region 0 [⟨(some 37), none, (.p (.mv (.t 0))), false, []⟩,
             ⟨(some 38), none, (.p (.slicev 1 (.t 37) (some (.c (.int .i64 1))) none none)), false, []⟩,
             ⟨(some 0), none, (.p (.mv (.t 38))), false, []⟩] (some ⟨[0, 6, 8, 9, 10, 11], [], false⟩)))
          .skip))
        (.seq
         (.region 0 [⟨(some 39), none, (.p (.faddr 0 (.t 8))), false, []⟩,
           ⟨(some 40), none, (.r (.load 1 false (.t 39))), false, []⟩,
           ⟨(some 41), none, (.p (.bin .neq (.t 40) (.c (.int .i64 1)))), false, []⟩] (some ⟨[0, 6, 8, 9, 10, 11, 41], [], false⟩))
         (.cond (.t 41)
          (.region 0 [⟨(some 42), none, (.p (.mv (.t 6))), false, []⟩,
            ⟨(some 43), none, (.p (.faddr 1 (.t 8))), false, []⟩,
            ⟨(some 44), none, (.r (.load 1 false (.t 43))), false, []⟩,
            ⟨(some 45), none, (.e (.mks 9 1 (.str []) 1 [(0, (.t 44))]) none), false, []⟩,
            ⟨(some 46), none, (.e (.append 9 1 (.t 42) (.t 45)) none), false, []⟩,
            ⟨(some 6), none, (.p (.mv (.t 46))), false, []⟩] (some ⟨[0, 6, 9, 10, 11], [], false⟩))
          .skip))))))
    (.region 0 [⟨(some 47), none, (.p (.bin .add (.t 11) (.c (.int .i64 1)))), false, []⟩,
      ⟨(some 11), none, (.p (.mv (.t 47))), false, []⟩] (some ⟨[0, 6, 9, 10, 11], [], false⟩)))))
def Try.c20 : AC :=
 (.seq
  (.region 0 [⟨(some 4), none, (.p (.mv (.c (.sl 0 [] true)))), false, []⟩,
    ⟨(some 5), none, (.p (.mv (.c (.bool false)))), false, []⟩] (some ⟨[0, 1], [], false⟩))
  (.seq
   (.region 0 [⟨(some 6), none, (.p (.mv (.c (.sl 0 [] true)))), false, []⟩] (some ⟨[0, 1, 6], [], false⟩))
   (.seq
    (.seq
     (.region 0 [⟨(some 9), none, (.p (.mv (.t 1))), false, []⟩,
       ⟨(some 10), none, (.p (.len (.t 9))), false, []⟩,
       ⟨(some 11), none, (.p (.mv (.c (.int .i64 0)))), false, []⟩] (some ⟨[0, 6, 9, 10, 11], [], false⟩))
     (.block 0
      (.loop (some ⟨[0, 6, 9, 10, 11], [(6, (1, 9))], true⟩) Try.c20b0)))
    (.seq
     (.seq
      (.region 0 [⟨(some 48), none, (.p (.mv (.t 0))), false, []⟩,
        ⟨(some 49), none, (.p (.len (.t 48))), false, []⟩,
        ⟨(some 50), none, (.p (.bin .gtr (.t 49) (.c (.int .i64 0)))), false, []⟩] (some ⟨[6, 50], [], false⟩))
      (.cond (.t 50)
       (.seq
        (.region 0 [⟨(some 4), none, (.p (.mv (.c (.sl 0 [] true)))), false, []⟩,
          ⟨(some 5), none, (.p (.mv (.c (.bool false)))), false, []⟩] (some ⟨[4, 5], [], false⟩))
        .ret)
       .skip))
     (.seq
      (.region 0 [⟨(some 51), none, (.p (.mv (.t 6))), false, []⟩,
        ⟨(some 4), none, (.p (.mv (.t 51))), false, []⟩,
        ⟨(some 5), none, (.p (.mv (.c (.bool true)))), false, []⟩] (some ⟨[4, 5], [], false⟩))
      .ret)))))
theorem Try.run20 {xs : List AV} {r : AV} (hl : xs.length ≤ 52) (h : aw Try.prog Try.c20 (Pv.Ends [4, 5] r) (entry xs)) : Run Try.prog 20 xs r :=
  run_of (fun _ _ => drawOk Try.mixed) Try.func20 rfl rfl rfl (by kernel_rfl) (by kernel_rfl) hl h
/-! 21 paling/diff.Size : params [25], results [3], free 0, zeros [(.slice none 0 0)] -/
def Try.c21b0 : AC :=
 (.seq
  (.region 0 [⟨(some 9), none, (.p (.bin .lss (.t 8) (.t 7))), false, []⟩] (some ⟨[3, 6, 7, 8, 9], [], false⟩))
  (.seq
   (.cond (.t 9)
    .skip
    (.exit 0))
   (.seq
    (.block 1
     (.seq
      (.region 0 [⟨(some 10), none, (.p (.iaddr 2 (.t 6) (.t 8))), false, []⟩,
        ⟨(some 11), none, (.r (.load 2 true (.t 10))), false, []⟩,
        ⟨(some 5), none, (.e (.alloc 81 (.agg [(.int .i64 0), (.str [])])) none), false, []⟩,
        ⟨none, none, (.e (.store 2 (.t 5) (.t 11)) none), false, []⟩] (some ⟨[3, 5, 6, 7, 8], [], false⟩))
      (.seq
       (.region 0 [⟨(some 12), none, (.p (.faddr 0 (.t 5))), false, []⟩,
         ⟨(some 13), none, (.r (.load 1 false (.t 12))), false, []⟩,
         ⟨(some 14), none, (.p (.bin .neq (.t 13) (.c (.int .i64 0)))), false, []⟩] (some ⟨[3, 6, 7, 8, 14], [], false⟩))
       (.cond (.t 14)
        (.region 0 [⟨(some 15), none, (.p (.mv (.t 3))), false, []⟩,
          ⟨(some 16), none, (.p (.bin .add (.t 15) (.c (.int .i64 1)))), false, []⟩,
          ⟨(some 3), none, (.p (.mv (.t 16))), false, []⟩] (some ⟨[3, 6, 7, 8], [], false⟩))
        .skip))))
    (.region 0 [⟨(some 17), none, (.p (.bin .add (.t 8) (.c (.int .i64 1)))), false, []⟩,
      ⟨(some 8), none, (.p (.mv (.t 17))), false, []⟩] (some ⟨[3, 6, 7, 8], [], false⟩)))))
def Try.c21 : AC :=
 (.seq
  (.region 0 [⟨(some 2), none, (.p (.mv (.c (.int .i64 0)))), false, []⟩] (some ⟨[0], [], false⟩))
  (.seq
   (.region 0 [⟨(some 3), none, (.p (.mv (.c (.int .i64 0)))), false, []⟩] (some ⟨[0, 3], [], false⟩))
   (.seq
    (.seq
     (.region 0 [⟨(some 6), none, (.p (.mv (.t 0))), false, []⟩,
       ⟨(some 7), none, (.p (.len (.t 6))), false, []⟩,
       ⟨(some 8), none, (.p (.mv (.c (.int .i64 0)))), false, []⟩] (some ⟨[3, 6, 7, 8], [], false⟩))
     (.block 0
      (.loop (some ⟨[3, 6, 7, 8], [], true⟩) Try.c21b0)))
    (.seq
     (.region 0 [⟨(some 18), none, (.p (.mv (.t 3))), false, []⟩,
       ⟨(some 2), none, (.p (.mv (.t 18))), false, []⟩] (some ⟨[2], [], false⟩))
     .ret))))
theorem Try.run21 {xs : List AV} {r : AV} (hl : xs.length ≤ 19) (h : aw Try.prog Try.c21 (Pv.Ends [2] r) (entry xs)) : Run Try.prog 21 xs r :=
  run_of (fun _ _ => drawOk Try.mixed) Try.func21 rfl rfl rfl (by kernel_rfl) (by kernel_rfl) hl h
/-! 22 paling/palinglaw48.texts : params [22, 22], results [4], free 0, zeros [(.slice none 0 0), (.slice none 0 0)] -/
def Try.c22b0 : AC :=
 (.seq
  (.region 0 [⟨(some 14), none, (.p (.bin .lss (.t 13) (.t 12))), false, []⟩] (some ⟨[0, 1, 12, 13, 14], [], false⟩))
  (.seq
   (.cond (.t 14)
    .skip
    (.exit 0))
   (.seq
    (.block 1
     (.seq
      (.region 0 [⟨(some 15), none, (.p (.mv (.t 13))), false, []⟩,
        ⟨(some 5), none, (.p (.mv (.t 15))), false, []⟩] (some ⟨[0, 1, 5, 12, 13], [], false⟩))
      (.seq
       (.region 9 [⟨(some 16), none, (.p (.mv (.t 0))), false, []⟩,
         ⟨(some 17), none, (.p (.mv (.t 5))), false, []⟩,
         ⟨(some 18), none, (.p (.iaddr 1 (.t 16) (.t 17))), false, []⟩,
         ⟨(some 19), none, (.r (.load 1 false (.t 18))), false, []⟩,
         ⟨(some 20), none, (.p (.mv (.t 1))), false, []⟩,
         ⟨(some 21), none, (.p (.mv (.t 5))), false, []⟩,
         ⟨(some 22), none, (.p (.iaddr 1 (.t 20) (.t 21))), false, []⟩,
         ⟨(some 23), none, (.r (.load 1 false (.t 22))), false, []⟩,
         ⟨(some 24), none, (.p (.bin .neq (.t 19) (.t 23))), false, []⟩] (some ⟨[0, 1, 12, 13, 24], [], true⟩))
       (.cond (.t 24)
        (.seq
         (.region 0 [⟨(some 4), none, (.p (.mv (.c (.bool false)))), false, []⟩] (some ⟨[4], [], false⟩))
         .ret)
        .skip))))
    (.region 0 [⟨(some 25), none, (.p (.bin .add (.t 13) (.c (.int .i64 1)))), false, []⟩,
      ⟨(some 13), none, (.p (.mv (.t 25))), false, []⟩] (some ⟨[0, 1, 12, 13], [], false⟩)))))
def Try.c22 : AC :=
 (.seq
  (.region 0 [⟨(some 4), none, (.p (.mv (.c (.bool false)))), false, []⟩] (some ⟨[0, 1], [], false⟩))
  (.seq
   (.seq
    (.region 0 [⟨(some 6), none, (.p (.mv (.t 0))), false, []⟩,
      ⟨(some 7), none, (.p (.len (.t 6))), false, []⟩,
      ⟨(some 8), none, (.p (.mv (.t 1))), false, []⟩,
      ⟨(some 9), none, (.p (.len (.t 8))), false, []⟩,
      ⟨(some 10), none, (.p (.bin .neq (.t 7) (.t 9))), false, []⟩] (some ⟨[0, 1, 10], [], false⟩))
    (.cond (.t 10)
     (.seq
      (.region 0 [⟨(some 4), none, (.p (.mv (.c (.bool false)))), false, []⟩] (some ⟨[4], [], false⟩))
      .ret)
     .skip))
   (.seq
    (.seq
     (.region 0 [⟨(some 11), none, (.p (.mv (.t 0))), false, []⟩,
       ⟨(some 12), none, (.p (.len (.t 11))), false, []⟩,
       ⟨(some 13), none, (.p (.mv (.c (.int .i64 0)))), false, []⟩] (some ⟨[0, 1, 12, 13], [], false⟩))
     (.block 0
      (.loop (some ⟨[0, 1, 12, 13], [], true⟩) Try.c22b0)))
    (.seq
     (.region 0 [⟨(some 4), none, (.p (.mv (.c (.bool true)))), false, []⟩] (some ⟨[4], [], false⟩))
     .ret))))
theorem Try.run22 {xs : List AV} {r : AV} (hl : xs.length ≤ 26) (h : aw Try.prog Try.c22 (Pv.Ends [4] r) (entry xs)) : Run Try.prog 22 xs r :=
  run_of (fun _ _ => drawOk Try.mixed) Try.func22 rfl rfl rfl (by kernel_rfl) (by kernel_rfl) hl h
/-! 23 paling/palinglaw46.great : params [40], results [4], free 0, zeros [(.slice none 0 0)] -/
def Try.c23b0 : AC :=
 (.seq
  (.seq
   (.region 0 [⟨(some 5), none, (.p (.mv (.t 4))), false, []⟩,
     ⟨(some 6), none, (.p (.mv (.t 0))), false, []⟩,
     ⟨(some 7), none, (.p (.len (.t 6))), false, []⟩,
     ⟨(some 8), none, (.p (.bin .lss (.t 5) (.t 7))), false, []⟩,
     ⟨(some 9), none, (.p (.mv (.t 8))), false, []⟩,
     ⟨(some 10), (some (9, true)), (.p (.mv (.t 4))), false, []⟩,
     ⟨(some 11), (some (9, true)), (.p (.bin .lss (.t 10) (.c (.int .i64 1200)))), false, []⟩,
     ⟨(some 12), none, (.p (.pick (.t 9) (.t 11) (.c (.bool false)))), false, []⟩] (some ⟨[0, 3, 4, 12], [], false⟩))
   (.cond (.t 12)
    .skip
    (.exit 0)))
  (.seq
   (.block 1
    (.seq
     (.seq
      (.region 0 [⟨(some 15), none, (.p (.mv (.t 0))), false, []⟩,
        ⟨(some 16), none, (.p (.mv (.t 4))), false, []⟩,
        ⟨(some 17), none, (.p (.iaddr 4 (.t 15) (.t 16))), false, []⟩,
        ⟨(some 18), none, (.p (.faddr 3 (.t 17))), false, []⟩,
        ⟨(some 19), none, (.r (.load 1 false (.t 18))), false, []⟩,
        ⟨(some 20), none, (.p (.len (.t 19))), false, []⟩,
        ⟨(some 21), none, (.p (.bin .gtr (.t 20) (.c (.int .i64 70000)))), false, []⟩,
        ⟨(some 22), none, (.p (.mv (.t 21))), false, []⟩,
        ⟨(some 23), (some (22, false)), (.p (.mv (.t 3))), false, []⟩,
        ⟨(some 24), (some (22, false)), (.p (.bin .gtr (.t 23) (.c (.int .i64 70000)))), false, []⟩,
        ⟨(some 25), none, (.p (.pick (.t 22) (.c (.bool true)) (.t 24))), false, []⟩] (some ⟨[0, 3, 4, 25], [], false⟩))
      (.cond (.t 25)
       (.seq
        (.region 0 [⟨(some 2), none, (.p (.mv (.c (.bool true)))), false, []⟩] (some ⟨[2], [], false⟩))
        .ret)
       .skip))
     (.region 0 [⟨(some 26), none, (.p (.mv (.t 3))), false, []⟩,
       ⟨(some 27), none, (.p (.mv (.t 0))), false, []⟩,
       ⟨(some 28), none, (.p (.mv (.t 4))), false, []⟩,
       ⟨(some 29), none, (.p (.iaddr 4 (.t 27) (.t 28))), false, []⟩,
       ⟨(some 30), none, (.p (.faddr 3 (.t 29))), false, []⟩,
       ⟨(some 31), none, (.r (.load 1 false (.t 30))), false, []⟩,
       ⟨(some 32), none, (.p (.len (.t 31))), false, []⟩,
       ⟨(some 33), none, (.p (.bin .add (.t 26) (.t 32))), false, []⟩,
       ⟨(some 3), none, (.p (.mv (.t 33))), false, []⟩] (some ⟨[0, 3, 4], [], false⟩))))
   (.region 0 [⟨(some 13), none, (.p (.mv (.t 4))), false, []⟩,
     ⟨(some 14), none, (.p (.bin .add (.t 13) (.c (.int .i64 1)))), false, []⟩,
     ⟨(some 4), none, (.p (.mv (.t 14))), false, []⟩] (some ⟨[0, 3, 4], [], false⟩))))
def Try.c23 : AC :=
 (.seq
  (.region 0 [⟨(some 2), none, (.p (.mv (.c (.bool false)))), false, []⟩] (some ⟨[0], [], false⟩))
  (.seq
   (.region 0 [⟨(some 3), none, (.p (.mv (.c (.int .i64 0)))), false, []⟩] (some ⟨[0, 3], [], false⟩))
   (.seq
    (.seq
     (.region 0 [⟨(some 4), none, (.p (.mv (.c (.int .i64 0)))), false, []⟩] (some ⟨[0, 3, 4], [], false⟩))
     (.block 0
      (.loop (some ⟨[0, 3, 4], [], true⟩) Try.c23b0)))
    (.seq
     (.region 0 [⟨(some 34), none, (.p (.mv (.t 0))), false, []⟩,
       ⟨(some 35), none, (.p (.len (.t 34))), false, []⟩,
       ⟨(some 36), none, (.p (.bin .gtr (.t 35) (.c (.int .i64 1200)))), false, []⟩,
       ⟨(some 2), none, (.p (.mv (.t 36))), false, []⟩] (some ⟨[2], [], false⟩))
     .ret))))
theorem Try.run23 {xs : List AV} {r : AV} (hl : xs.length ≤ 37) (h : aw Try.prog Try.c23 (Pv.Ends [2] r) (entry xs)) : Run Try.prog 23 xs r :=
  run_of (fun _ _ => drawOk Try.mixed) Try.func23 rfl rfl rfl (by kernel_rfl) (by kernel_rfl) hl h
/-! 24 paling/palinglaw46.works : params [], results [4], free 0, zeros [] -/
def Try.c24 : AC :=
 (.seq
  (.region 0 [⟨(some 0), none, (.p (.mv (.c (.bool false)))), false, []⟩] (some ⟨[], [], false⟩))
  (.seq
   (.region 0 [⟨(some 8), none, (.call 27 [(.c (.sl 0 [] true))] false), false, []⟩,
     ⟨(some 7), none, (.p (.mv (.t 8))), false, []⟩,
     ⟨(some 9), none, (.p (.ext (.t 7) 0)), false, []⟩,
     ⟨(some 10), none, (.p (.ext (.t 7) 1)), false, []⟩,
     ⟨(some 1), none, (.p (.mv (.t 9))), false, []⟩,
     ⟨(some 2), none, (.p (.mv (.t 10))), false, []⟩] (some ⟨[1, 2], [], false⟩))
   (.seq
    (.region 0 [⟨(some 12), none, (.p (.mv (.t 1))), false, []⟩,
      ⟨(some 13), none, (.call 33 [(.t 12)] false), false, []⟩,
      ⟨(some 11), none, (.p (.mv (.t 13))), false, []⟩,
      ⟨(some 14), none, (.p (.ext (.t 11) 0)), false, []⟩,
      ⟨(some 15), none, (.p (.ext (.t 11) 1)), false, []⟩,
      ⟨(some 3), none, (.p (.mv (.t 14))), false, []⟩,
      ⟨(some 4), none, (.p (.mv (.t 15))), false, []⟩] (some ⟨[1, 2, 3, 4], [], false⟩))
    (.seq
     (.region 0 [⟨(some 17), none, (.call 33 [(.c (.sl 0 [] true))] false), false, []⟩,
       ⟨(some 16), none, (.p (.mv (.t 17))), false, []⟩,
       ⟨(some 18), none, (.p (.ext (.t 16) 0)), false, []⟩,
       ⟨(some 19), none, (.p (.ext (.t 16) 1)), false, []⟩,
       ⟨(some 5), none, (.p (.mv (.t 18))), false, []⟩,
       ⟨(some 6), none, (.p (.mv (.t 19))), false, []⟩] (some ⟨[1, 2, 3, 4, 6], [], false⟩))
     (.seq
      (.region 0 [⟨(some 20), none, (.p (.mv (.t 2))), false, []⟩,
        ⟨(some 21), none, (.p (.bin .eql (.t 20) (.c (.int .i64 0)))), false, []⟩,
        ⟨(some 22), none, (.p (.mv (.t 21))), false, []⟩,
        ⟨(some 23), (some (22, true)), (.p (.mv (.t 1))), false, []⟩,
        ⟨(some 24), (some (22, true)), (.r (.b2s (.t 23))), false, []⟩,
        ⟨(some 25), (some (22, true)), (.p (.bin .eql (.t 24) (.c (.str [212, 195, 178, 161, 2, 0, 4, 0, 0, 0, 0, 0, 0, 0, 0, 0, 255, 255, 0, 0, 1, 0, 0, 0])))), false, []⟩,
        ⟨(some 26), none, (.p (.pick (.t 22) (.t 25) (.c (.bool false)))), false, []⟩,
        ⟨(some 27), none, (.p (.mv (.t 26))), false, []⟩,
        ⟨(some 28), (some (27, true)), (.p (.mv (.t 4))), false, []⟩,
        ⟨(some 29), (some (27, true)), (.p (.bin .eql (.t 28) (.c (.int .i64 0)))), false, []⟩,
        ⟨(some 30), none, (.p (.pick (.t 27) (.t 29) (.c (.bool false)))), false, []⟩,
        ⟨(some 31), none, (.p (.mv (.t 30))), false, []⟩,
        ⟨(some 32), (some (31, true)), (.p (.mv (.t 3))), false, []⟩,
        ⟨(some 33), (some (31, true)), (.p (.len (.t 32))), false, []⟩,
        ⟨(some 34), (some (31, true)), (.p (.bin .eql (.t 33) (.c (.int .i64 0)))), false, []⟩,
        ⟨(some 35), none, (.p (.pick (.t 31) (.t 34) (.c (.bool false)))), false, []⟩,
        ⟨(some 36), none, (.p (.mv (.t 35))), false, []⟩,
        ⟨(some 37), (some (36, true)), (.p (.mv (.t 6))), false, []⟩,
        ⟨(some 38), (some (36, true)), (.p (.bin .eql (.t 37) (.c (.int .i64 10)))), false, []⟩,
        ⟨(some 39), none, (.p (.pick (.t 36) (.t 38) (.c (.bool false)))), false, []⟩,
        ⟨(some 40), none, (.p (.mv (.t 39))), false, []⟩,
        ⟨(some 41), (some (40, true)), (.p (.build [(.int .i64 0), (.int .i64 0), (.int .i64 0), (.sl 0 [] true)] [])), false, []⟩,
        ⟨(some 42), (some (40, true)), (.call 25 [(.t 41)] false), false, []⟩,
        ⟨(some 43), none, (.p (.pick (.t 40) (.t 42) (.c (.bool false)))), false, []⟩,
        ⟨(some 0), none, (.p (.mv (.t 43))), false, []⟩] (some ⟨[0], [], false⟩))
      .ret)))))
theorem Try.run24 {xs : List AV} {r : AV} (hl : xs.length ≤ 44) (h : aw Try.prog Try.c24 (Pv.Ends [0] r) (entry xs)) : Run Try.prog 24 xs r :=
  run_of (fun _ _ => drawOk Try.mixed) Try.func24 rfl rfl rfl (by kernel_rfl) (by kernel_rfl) hl h
/-! 25 paling/pcap.Right : params [44], results [4], free 0, zeros [(.agg #[(.int .i64 (0)), (.int .i64 (0)), (.int .i64 (0)), (.slice none 0 0)])] -/
def Try.c25 : AC :=
 (.seq
  (.region 0 [⟨(some 1), none, (.e (.box 44 (.t 0)) none), false, []⟩,
    ⟨(some 2), none, (.p (.mv (.c (.bool false)))), false, []⟩] (some ⟨[1], [], false⟩))
  (.seq
   (.region 0 [⟨(some 3), none, (.p (.faddr 0 (.t 1))), false, []⟩,
     ⟨(some 4), none, (.r (.load 1 false (.t 3))), false, []⟩,
     ⟨(some 5), none, (.p (.bin .geq (.t 4) (.c (.int .i64 0)))), false, []⟩,
     ⟨(some 6), none, (.p (.mv (.t 5))), false, []⟩,
     ⟨(some 7), (some (6, true)), (.p (.faddr 0 (.t 1))), false, []⟩,
     ⟨(some 8), (some (6, true)), (.r (.load 1 false (.t 7))), false, []⟩,
     ⟨(some 9), (some (6, true)), (.p (.bin .leq (.t 8) (.c (.int .i64 4294967295)))), false, []⟩,
     ⟨(some 10), none, (.p (.pick (.t 6) (.t 9) (.c (.bool false)))), false, []⟩,
     ⟨(some 11), none, (.p (.mv (.t 10))), false, []⟩,
     ⟨(some 12), (some (11, true)), (.p (.faddr 2 (.t 1))), false, []⟩,
     ⟨(some 13), (some (11, true)), (.r (.load 1 false (.t 12))), false, []⟩,
     ⟨(some 14), (some (11, true)), (.p (.bin .leq (.t 13) (.c (.int .i64 4294967295)))), false, []⟩,
     ⟨(some 15), none, (.p (.pick (.t 11) (.t 14) (.c (.bool false)))), false, []⟩,
     ⟨(some 16), none, (.p (.mv (.t 15))), false, []⟩,
     ⟨(some 17), (some (16, true)), (.p (.faddr 1 (.t 1))), false, []⟩,
     ⟨(some 18), (some (16, true)), (.r (.load 1 false (.t 17))), false, []⟩,
     ⟨(some 19), (some (16, true)), (.p (.bin .geq (.t 18) (.c (.int .i64 0)))), false, []⟩,
     ⟨(some 20), none, (.p (.pick (.t 16) (.t 19) (.c (.bool false)))), false, []⟩,
     ⟨(some 21), none, (.p (.mv (.t 20))), false, []⟩,
     ⟨(some 22), (some (21, true)), (.p (.faddr 1 (.t 1))), false, []⟩,
     ⟨(some 23), (some (21, true)), (.r (.load 1 false (.t 22))), false, []⟩,
     ⟨(some 24), (some (21, true)), (.p (.bin .lss (.t 23) (.c (.int .i64 1000000)))), false, []⟩,
     ⟨(some 25), none, (.p (.pick (.t 21) (.t 24) (.c (.bool false)))), false, []⟩,
     ⟨(some 26), none, (.p (.mv (.t 25))), false, []⟩,
     ⟨(some 27), (some (26, true)), (.p (.faddr 3 (.t 1))), false, []⟩,
     ⟨(some 28), (some (26, true)), (.r (.load 1 false (.t 27))), false, []⟩,
     ⟨(some 29), (some (26, true)), (.p (.len (.t 28))), false, []⟩,
     ⟨(some 30), (some (26, true)), (.p (.bin .leq (.t 29) (.c (.int .i64 65535)))), false, []⟩,
     ⟨(some 31), none, (.p (.pick (.t 26) (.t 30) (.c (.bool false)))), false, []⟩,
     ⟨(some 32), none, (.p (.mv (.t 31))), false, []⟩,
     ⟨(some 33), (some (32, true)), (.p (.faddr 3 (.t 1))), false, []⟩,
     ⟨(some 34), (some (32, true)), (.r (.load 1 false (.t 33))), false, []⟩,
     ⟨(some 35), (some (32, true)), (.p (.len (.t 34))), false, []⟩,
     ⟨(some 36), (some (32, true)), (.p (.faddr 2 (.t 1))), false, []⟩,
     ⟨(some 37), (some (32, true)), (.r (.load 1 false (.t 36))), false, []⟩,
     ⟨(some 38), (some (32, true)), (.p (.bin .leq (.t 35) (.t 37))), false, []⟩,
     ⟨(some 39), none, (.p (.pick (.t 32) (.t 38) (.c (.bool false)))), false, []⟩,
     ⟨(some 2), none, (.p (.mv (.t 39))), false, []⟩] (some ⟨[2], [], false⟩))
   .ret))
theorem Try.run25 {xs : List AV} {r : AV} (hl : xs.length ≤ 40) (h : aw Try.prog Try.c25 (Pv.Ends [2] r) (entry xs)) : Run Try.prog 25 xs r :=
  run_of (fun _ _ => drawOk Try.mixed) Try.func25 rfl rfl rfl (by kernel_rfl) (by kernel_rfl) hl h
/-! 26 paling/palingref46.Right : params [47], results [4], free 0, zeros [(.agg #[(.int .i64 (0)), (.int .i64 (0)), (.int .i64 (0)), (.slice none 0 0)])] -/
def Try.c26 : AC :=
 (.seq
  (.region 0 [⟨(some 1), none, (.e (.box 47 (.t 0)) none), false, []⟩,
    ⟨(some 2), none, (.p (.mv (.c (.bool false)))), false, []⟩] (some ⟨[1], [], false⟩))
  (.seq
   (.region 0 [⟨(some 3), none, (.p (.faddr 0 (.t 1))), false, []⟩,
     ⟨(some 4), none, (.r (.load 1 false (.t 3))), false, []⟩,
     ⟨(some 5), none, (.p (.bin .geq (.t 4) (.c (.int .i64 0)))), false, []⟩,
     ⟨(some 6), none, (.p (.mv (.t 5))), false, []⟩,
     ⟨(some 7), (some (6, true)), (.p (.faddr 0 (.t 1))), false, []⟩,
     ⟨(some 8), (some (6, true)), (.r (.load 1 false (.t 7))), false, []⟩,
     ⟨(some 9), (some (6, true)), (.p (.bin .lss (.t 8) (.c (.int .i64 4294967296)))), false, []⟩,
     ⟨(some 10), none, (.p (.pick (.t 6) (.t 9) (.c (.bool false)))), false, []⟩,
     ⟨(some 11), none, (.p (.mv (.t 10))), false, []⟩,
     ⟨(some 12), (some (11, true)), (.p (.faddr 1 (.t 1))), false, []⟩,
     ⟨(some 13), (some (11, true)), (.r (.load 1 false (.t 12))), false, []⟩,
     ⟨(some 14), (some (11, true)), (.p (.bin .geq (.t 13) (.c (.int .i64 0)))), false, []⟩,
     ⟨(some 15), none, (.p (.pick (.t 11) (.t 14) (.c (.bool false)))), false, []⟩,
     ⟨(some 16), none, (.p (.mv (.t 15))), false, []⟩,
     ⟨(some 17), (some (16, true)), (.p (.faddr 1 (.t 1))), false, []⟩,
     ⟨(some 18), (some (16, true)), (.r (.load 1 false (.t 17))), false, []⟩,
     ⟨(some 19), (some (16, true)), (.p (.bin .leq (.t 18) (.c (.int .i64 999999)))), false, []⟩,
     ⟨(some 20), none, (.p (.pick (.t 16) (.t 19) (.c (.bool false)))), false, []⟩,
     ⟨(some 21), none, (.p (.mv (.t 20))), false, []⟩,
     ⟨(some 22), (some (21, true)), (.p (.faddr 2 (.t 1))), false, []⟩,
     ⟨(some 23), (some (21, true)), (.r (.load 1 false (.t 22))), false, []⟩,
     ⟨(some 24), (some (21, true)), (.p (.bin .geq (.t 23) (.c (.int .i64 0)))), false, []⟩,
     ⟨(some 25), none, (.p (.pick (.t 21) (.t 24) (.c (.bool false)))), false, []⟩,
     ⟨(some 26), none, (.p (.mv (.t 25))), false, []⟩,
     ⟨(some 27), (some (26, true)), (.p (.faddr 2 (.t 1))), false, []⟩,
     ⟨(some 28), (some (26, true)), (.r (.load 1 false (.t 27))), false, []⟩,
     ⟨(some 29), (some (26, true)), (.p (.bin .lss (.t 28) (.c (.int .i64 4294967296)))), false, []⟩,
     ⟨(some 30), none, (.p (.pick (.t 26) (.t 29) (.c (.bool false)))), false, []⟩,
     ⟨(some 31), none, (.p (.mv (.t 30))), false, []⟩,
     ⟨(some 32), (some (31, true)), (.p (.faddr 3 (.t 1))), false, []⟩,
     ⟨(some 33), (some (31, true)), (.r (.load 1 false (.t 32))), false, []⟩,
     ⟨(some 34), (some (31, true)), (.p (.len (.t 33))), false, []⟩,
     ⟨(some 35), (some (31, true)), (.p (.bin .leq (.t 34) (.c (.int .i64 65535)))), false, []⟩,
     ⟨(some 36), none, (.p (.pick (.t 31) (.t 35) (.c (.bool false)))), false, []⟩,
     ⟨(some 37), none, (.p (.mv (.t 36))), false, []⟩,
     ⟨(some 38), (some (37, true)), (.p (.faddr 3 (.t 1))), false, []⟩,
     ⟨(some 39), (some (37, true)), (.r (.load 1 false (.t 38))), false, []⟩,
     ⟨(some 40), (some (37, true)), (.p (.len (.t 39))), false, []⟩,
     ⟨(some 41), (some (37, true)), (.p (.faddr 2 (.t 1))), false, []⟩,
     ⟨(some 42), (some (37, true)), (.r (.load 1 false (.t 41))), false, []⟩,
     ⟨(some 43), (some (37, true)), (.p (.bin .leq (.t 40) (.t 42))), false, []⟩,
     ⟨(some 44), none, (.p (.pick (.t 37) (.t 43) (.c (.bool false)))), false, []⟩,
     ⟨(some 2), none, (.p (.mv (.t 44))), false, []⟩] (some ⟨[2], [], false⟩))
   .ret))
theorem Try.run26 {xs : List AV} {r : AV} (hl : xs.length ≤ 45) (h : aw Try.prog Try.c26 (Pv.Ends [2] r) (entry xs)) : Run Try.prog 26 xs r :=
  run_of (fun _ _ => drawOk Try.mixed) Try.func26 rfl rfl rfl (by kernel_rfl) (by kernel_rfl) hl h
/-! 27 paling/pcap.Put : params [40], results [42, 26], free 0, zeros [(.slice none 0 0)] -/
def Try.c27b0 : AC :=
 (.seq
  (.region 0 [⟨(some 12), none, (.p (.bin .lss (.t 11) (.t 10))), false, []⟩] (some ⟨[0, 4, 9, 10, 11, 12], [], false⟩))
  (.seq
   (.cond (.t 12)
    .skip
    (.exit 0))
   (.seq
    (.block 1
     (.seq
      (.region 0 [⟨(some 13), none, (.p (.iaddr 4 (.t 9) (.t 11))), false, []⟩,
        ⟨(some 14), none, (.r (.load 4 true (.t 13))), false, []⟩,
        ⟨(some 6), none, (.e (.alloc 44 (.agg [(.int .i64 0), (.int .i64 0), (.int .i64 0), (.sl 0 [] true)])) none), false, []⟩,
        ⟨none, none, (.e (.store 4 (.t 6) (.t 14)) none), false, []⟩] (some ⟨[0, 4, 6, 9, 10, 11], [], false⟩))
      (.seq
       (.seq
        (.region 0 [⟨(some 15), none, (.p (.mv (.t 0))), false, []⟩,
          ⟨(some 16), none, (.p (.len (.t 15))), false, []⟩,
          ⟨(some 17), none, (.p (.bin .gtr (.t 16) (.c (.int .i64 1000)))), false, []⟩,
          ⟨(some 18), none, (.p (.mv (.t 17))), false, []⟩,
          ⟨(some 19), (some (18, false)), (.p (.mv (.t 4))), false, []⟩,
          ⟨(some 20), (some (18, false)), (.p (.bin .gtr (.t 19) (.c (.int .i64 1000000)))), false, []⟩,
          ⟨(some 21), none, (.p (.pick (.t 18) (.c (.bool true)) (.t 20))), false, []⟩] (some ⟨[0, 4, 6, 9, 10, 11, 21], [], false⟩))
        (.cond (.t 21)
         (.exit 0)
         .skip))
       (.region 0 [⟨(some 22), none, (.p (.mv (.t 4))), false, []⟩,
         ⟨(some 23), none, (.p (.faddr 3 (.t 6))), false, []⟩,
         ⟨(some 24), none, (.r (.load 1 false (.t 23))), false, []⟩,
         ⟨(some 25), none, (.p (.len (.t 24))), false, []⟩,
         ⟨(some 26), none, (.p (.bin .add (.c (.int .i64 16)) (.t 25))), false, []⟩,
         ⟨(some 27), none, (.p (.bin .add (.t 22) (.t 26))), false, []⟩,
         ⟨(some 4), none, (.p (.mv (.t 27))), false, []⟩] (some ⟨[0, 4, 9, 10, 11], [], false⟩)))))
    (.region 0 [⟨(some 28), none, (.p (.bin .add (.t 11) (.c (.int .i64 1)))), false, []⟩,
      ⟨(some 11), none, (.p (.mv (.t 28))), false, []⟩] (some ⟨[0, 4, 9, 10, 11], [], false⟩)))))
def Try.c27 : AC :=
 (.seq
  (.region 0 [⟨(some 2), none, (.p (.mv (.c (.sl 0 [] true)))), false, []⟩,
    ⟨(some 3), none, (.p (.mv (.c (.int .i64 0)))), false, []⟩] (some ⟨[0], [], false⟩))
  (.seq
   (.seq
    (.region 0 [⟨(some 7), none, (.p (.mv (.t 0))), false, []⟩,
      ⟨(some 8), none, (.call 51 [(.t 7), (.c (.fn 52 []))] false), false, []⟩] (some ⟨[0, 8], [], false⟩))
    (.cond (.t 8)
     (.seq
      (.region 0 [⟨(some 2), none, (.p (.mv (.c (.sl 0 [] true)))), false, []⟩,
        ⟨(some 3), none, (.p (.mv (.c (.int .i64 2)))), false, []⟩] (some ⟨[2, 3], [], false⟩))
      .ret)
     .skip))
   (.seq
    (.region 0 [⟨(some 4), none, (.p (.mv (.c (.int .i64 24)))), false, []⟩] (some ⟨[0, 4], [], false⟩))
    (.seq
     (.seq
      (.region 0 [⟨(some 9), none, (.p (.mv (.t 0))), false, []⟩,
        ⟨(some 10), none, (.p (.len (.t 9))), false, []⟩,
        ⟨(some 11), none, (.p (.mv (.c (.int .i64 0)))), false, []⟩] (some ⟨[0, 4, 9, 10, 11], [], false⟩))
      (.block 0
       (.loop (some ⟨[0, 4, 9, 10, 11], [], true⟩) Try.c27b0)))
     (.seq
      (.seq
       (.region 0 [⟨(some 29), none, (.p (.mv (.t 0))), false, []⟩,
         ⟨(some 30), none, (.p (.len (.t 29))), false, []⟩,
         ⟨(some 31), none, (.p (.bin .gtr (.t 30) (.c (.int .i64 1000)))), false, []⟩,
         ⟨(some 32), none, (.p (.mv (.t 31))), false, []⟩,
         ⟨(some 33), (some (32, false)), (.p (.mv (.t 4))), false, []⟩,
         ⟨(some 34), (some (32, false)), (.p (.bin .gtr (.t 33) (.c (.int .i64 1000000)))), false, []⟩,
         ⟨(some 35), none, (.p (.pick (.t 32) (.c (.bool true)) (.t 34))), false, []⟩] (some ⟨[0, 35], [], false⟩))
       (.cond (.t 35)
        (.seq
         (.region 0 [⟨(some 2), none, (.p (.mv (.c (.sl 0 [] true)))), false, []⟩,
           ⟨(some 3), none, (.p (.mv (.c (.int .i64 3)))), false, []⟩] (some ⟨[2, 3], [], false⟩))
         .ret)
        .skip))
      (.seq
       (.region 0 [⟨(some 36), none, (.call 53 [] false), false, []⟩,
         ⟨(some 37), none, (.p (.mv (.t 0))), false, []⟩,
         ⟨(some 38), none, (.call 54 [(.t 36), (.t 37)] false), false, []⟩,
         ⟨(some 2), none, (.p (.mv (.t 38))), false, []⟩,
         ⟨(some 3), none, (.p (.mv (.c (.int .i64 0)))), false, []⟩] (some ⟨[2, 3], [], false⟩))
       .ret))))))
theorem Try.run27 {xs : List AV} {r : AV} (hl : xs.length ≤ 39) (h : aw Try.prog Try.c27 (Pv.Ends [2, 3] r) (entry xs)) : Run Try.prog 27 xs r :=
  run_of (fun _ _ => drawOk Try.mixed) Try.func27 rfl rfl rfl (by kernel_rfl) (by kernel_rfl) hl h
/-! 28 paling/palingref46.Put : params [52], results [42, 3], free 0, zeros [(.slice none 0 0)] -/
def Try.c28b0 : AC :=
 (.seq
  (.seq
   (.region 0 [⟨(some 6), none, (.p (.mv (.t 4))), false, []⟩,
     ⟨(some 7), none, (.p (.mv (.t 0))), false, []⟩,
     ⟨(some 8), none, (.p (.len (.t 7))), false, []⟩,
     ⟨(some 9), none, (.p (.bin .lss (.t 6) (.t 8))), false, []⟩] (some ⟨[0, 4, 9], [], false⟩))
   (.cond (.t 9)
    .skip
    (.exit 0)))
  (.seq
   (.block 1
    (.seq
     (.region 0 [⟨(some 12), none, (.p (.mv (.t 0))), false, []⟩,
       ⟨(some 13), none, (.p (.mv (.t 4))), false, []⟩,
       ⟨(some 14), none, (.p (.iaddr 4 (.t 12) (.t 13))), false, []⟩,
       ⟨(some 15), none, (.r (.load 4 true (.t 14))), false, []⟩,
       ⟨(some 16), none, (.call 26 [(.t 15)] false), false, []⟩,
       ⟨(some 17), none, (.p (.un .not (.t 16))), false, []⟩] (some ⟨[0, 4, 17], [], false⟩))
     (.cond (.t 17)
      (.seq
       (.region 0 [⟨(some 2), none, (.p (.mv (.c (.sl 0 [] true)))), false, []⟩,
         ⟨(some 3), none, (.p (.mv (.c (.int .i64 2)))), false, []⟩] (some ⟨[2, 3], [], false⟩))
       .ret)
      .skip)))
   (.region 0 [⟨(some 10), none, (.p (.mv (.t 4))), false, []⟩,
     ⟨(some 11), none, (.p (.bin .add (.t 10) (.c (.int .i64 1)))), false, []⟩,
     ⟨(some 4), none, (.p (.mv (.t 11))), false, []⟩] (some ⟨[0, 4], [], false⟩))))
def Try.c28 : AC :=
 (.seq
  (.region 0 [⟨(some 2), none, (.p (.mv (.c (.sl 0 [] true)))), false, []⟩,
    ⟨(some 3), none, (.p (.mv (.c (.int .i64 0)))), false, []⟩] (some ⟨[0], [], false⟩))
  (.seq
   (.seq
    (.region 0 [⟨(some 4), none, (.p (.mv (.c (.int .i64 0)))), false, []⟩] (some ⟨[0, 4], [], false⟩))
    (.block 0
     (.loop (some ⟨[0, 4], [], true⟩) Try.c28b0)))
   (.seq
    (.seq
     (.region 0 [⟨(some 18), none, (.p (.mv (.t 0))), false, []⟩,
       ⟨(some 19), none, (.p (.len (.t 18))), false, []⟩,
       ⟨(some 20), none, (.p (.bin .gtr (.t 19) (.c (.int .i64 1000)))), false, []⟩] (some ⟨[0, 20], [], false⟩))
     (.cond (.t 20)
      (.seq
       (.region 0 [⟨(some 2), none, (.p (.mv (.c (.sl 0 [] true)))), false, []⟩,
         ⟨(some 3), none, (.p (.mv (.c (.int .i64 3)))), false, []⟩] (some ⟨[2, 3], [], false⟩))
       .ret)
      .skip))
    (.seq
     (.region 0 [⟨(some 21), none, (.p (.mv (.t 0))), false, []⟩,
       ⟨(some 22), none, (.call 55 [(.t 21), (.c (.bool true))] false), false, []⟩,
       ⟨(some 5), none, (.p (.mv (.t 22))), false, []⟩] (some ⟨[5], [], false⟩))
     (.seq
      (.seq
       (.region 0 [⟨(some 23), none, (.p (.mv (.t 5))), false, []⟩,
         ⟨(some 24), none, (.p (.len (.t 23))), false, []⟩,
         ⟨(some 25), none, (.p (.bin .gtr (.t 24) (.c (.int .i64 1000000)))), false, []⟩] (some ⟨[5, 25], [], false⟩))
       (.cond (.t 25)
        (.seq
         (.region 0 [⟨(some 2), none, (.p (.mv (.c (.sl 0 [] true)))), false, []⟩,
           ⟨(some 3), none, (.p (.mv (.c (.int .i64 3)))), false, []⟩] (some ⟨[2, 3], [], false⟩))
         .ret)
        .skip))
      (.seq
       (.region 0 [⟨(some 26), none, (.p (.mv (.t 5))), false, []⟩,
         ⟨(some 2), none, (.p (.mv (.t 26))), false, []⟩,
         ⟨(some 3), none, (.p (.mv (.c (.int .i64 0)))), false, []⟩] (some ⟨[2, 3], [], false⟩))
       .ret))))))
theorem Try.run28 {xs : List AV} {r : AV} (hl : xs.length ≤ 27) (h : aw Try.prog Try.c28 (Pv.Ends [2, 3] r) (entry xs)) : Run Try.prog 28 xs r :=
  run_of (fun _ _ => drawOk Try.mixed) Try.func28 rfl rfl rfl (by kernel_rfl) (by kernel_rfl) hl h
/-! 29 paling/palinglaw46.told : params [40], results [52], free 0, zeros [(.slice none 0 0)] -/
def Try.c29b0 : AC :=
 (.seq
  (.region 0 [⟨(some 9), none, (.p (.bin .lss (.t 8) (.t 7))), false, []⟩] (some ⟨[3, 6, 7, 8, 9], [], false⟩))
  (.seq
   (.cond (.t 9)
    .skip
    (.exit 0))
   (.seq
    (.block 1
     (.seq
      (.region 0 [⟨(some 10), none, (.p (.iaddr 4 (.t 6) (.t 8))), false, []⟩,
        ⟨(some 11), none, (.r (.load 4 true (.t 10))), false, []⟩,
        ⟨(some 5), none, (.e (.alloc 44 (.agg [(.int .i64 0), (.int .i64 0), (.int .i64 0), (.sl 0 [] true)])) none), false, []⟩,
        ⟨none, none, (.e (.store 4 (.t 5) (.t 11)) none), false, []⟩] (some ⟨[3, 5, 6, 7, 8], [], false⟩))
      (.region 0 [⟨(some 12), none, (.p (.mv (.t 3))), false, []⟩,
        ⟨(some 13), none, (.p (.faddr 0 (.t 5))), false, []⟩,
        ⟨(some 14), none, (.r (.load 1 false (.t 13))), false, []⟩,
        ⟨(some 15), none, (.p (.faddr 1 (.t 5))), false, []⟩,
        ⟨(some 16), none, (.r (.load 1 false (.t 15))), false, []⟩,
        ⟨(some 17), none, (.p (.faddr 2 (.t 5))), false, []⟩,
        ⟨(some 18), none, (.r (.load 1 false (.t 17))), false, []⟩,
        ⟨(some 19), none, (.p (.faddr 3 (.t 5))), false, []⟩,
        ⟨(some 20), none, (.r (.load 1 false (.t 19))), false, []⟩,
        ⟨(some 21), none, (.p (.build [(.int .i64 0), (.int .i64 0), (.int .i64 0), (.sl 0 [] true)] [(0, 1, (.t 14)), (1, 1, (.t 16)), (2, 1, (.t 18)), (3, 1, (.t 20))])), false, []⟩,
        ⟨(some 22), none, (.e (.mks 47 4 (.agg [(.int .i64 0), (.int .i64 0), (.int .i64 0), (.sl 0 [] true)]) 1 [(0, (.t 21))]) none), false, []⟩,
        ⟨(some 23), none, (.e (.append 47 4 (.t 12) (.t 22)) none), false, []⟩,
        ⟨(some 3), none, (.p (.mv (.t 23))), false, []⟩] (some ⟨[3, 6, 7, 8], [], false⟩))))
    (.region 0 [⟨(some 24), none, (.p (.bin .add (.t 8) (.c (.int .i64 1)))), false, []⟩,
      ⟨(some 8), none, (.p (.mv (.t 24))), false, []⟩] (some ⟨[3, 6, 7, 8], [], false⟩)))))
def Try.c29 : AC :=
 (.seq
  (.region 0 [⟨(some 2), none, (.p (.mv (.c (.sl 0 [] true)))), false, []⟩] (some ⟨[0], [], false⟩))
  (.seq
   (.region 0 [⟨(some 3), none, (.p (.mv (.c (.sl 0 [] true)))), false, []⟩] (some ⟨[0, 3], [], false⟩))
   (.seq
    (.seq
     (.region 0 [⟨(some 6), none, (.p (.mv (.t 0))), false, []⟩,
       ⟨(some 7), none, (.p (.len (.t 6))), false, []⟩,
       ⟨(some 8), none, (.p (.mv (.c (.int .i64 0)))), false, []⟩] (some ⟨[3, 6, 7, 8], [], false⟩))
     (.block 0
      (.loop (some ⟨[3, 6, 7, 8], [(3, (4, 47))], true⟩) Try.c29b0)))
    (.seq
     (.region 0 [⟨(some 25), none, (.p (.mv (.t 3))), false, []⟩,
       ⟨(some 2), none, (.p (.mv (.t 25))), false, []⟩] (some ⟨[2], [], false⟩))
     .ret))))
theorem Try.run29 {xs : List AV} {r : AV} (hl : xs.length ≤ 26) (h : aw Try.prog Try.c29 (Pv.Ends [2] r) (entry xs)) : Run Try.prog 29 xs r :=
  run_of (fun _ _ => drawOk Try.mixed) Try.func29 rfl rfl rfl (by kernel_rfl) (by kernel_rfl) hl h
/-! 30 paling/palingref46.Same : params [52, 52], results [4], free 0, zeros [(.slice none 0 0), (.slice none 0 0)] -/
def Try.c30b0 : AC :=
 (.seq
  (.seq
   (.region 0 [⟨(some 11), none, (.p (.mv (.t 5))), false, []⟩,
     ⟨(some 12), none, (.p (.mv (.t 0))), false, []⟩,
     ⟨(some 13), none, (.p (.len (.t 12))), false, []⟩,
     ⟨(some 14), none, (.p (.bin .lss (.t 11) (.t 13))), false, []⟩] (some ⟨[0, 1, 5, 14], [], false⟩))
   (.cond (.t 14)
    .skip
    (.exit 0)))
  (.seq
   (.block 1
    (.seq
     (.region 52 [⟨(some 17), none, (.p (.mv (.t 0))), false, []⟩,
       ⟨(some 18), none, (.p (.mv (.t 5))), false, []⟩,
       ⟨(some 19), none, (.p (.iaddr 4 (.t 17) (.t 18))), false, []⟩,
       ⟨(some 20), none, (.p (.faddr 0 (.t 19))), false, []⟩,
       ⟨(some 21), none, (.r (.load 1 false (.t 20))), false, []⟩,
       ⟨(some 22), none, (.p (.mv (.t 1))), false, []⟩,
       ⟨(some 23), none, (.p (.mv (.t 5))), false, []⟩,
       ⟨(some 24), none, (.p (.iaddr 4 (.t 22) (.t 23))), false, []⟩,
       ⟨(some 25), none, (.p (.faddr 0 (.t 24))), false, []⟩,
       ⟨(some 26), none, (.r (.load 1 false (.t 25))), false, []⟩,
       ⟨(some 27), none, (.p (.bin .neq (.t 21) (.t 26))), false, []⟩,
       ⟨(some 28), none, (.p (.mv (.t 27))), false, []⟩,
       ⟨(some 29), (some (28, false)), (.p (.mv (.t 0))), false, []⟩,
       ⟨(some 30), (some (28, false)), (.p (.mv (.t 5))), false, []⟩,
       ⟨(some 31), (some (28, false)), (.p (.iaddr 4 (.t 29) (.t 30))), false, []⟩,
       ⟨(some 32), (some (28, false)), (.p (.faddr 1 (.t 31))), false, []⟩,
       ⟨(some 33), (some (28, false)), (.r (.load 1 false (.t 32))), false, []⟩,
       ⟨(some 34), (some (28, false)), (.p (.mv (.t 1))), false, []⟩,
       ⟨(some 35), (some (28, false)), (.p (.mv (.t 5))), false, []⟩,
       ⟨(some 36), (some (28, false)), (.p (.iaddr 4 (.t 34) (.t 35))), false, []⟩,
       ⟨(some 37), (some (28, false)), (.p (.faddr 1 (.t 36))), false, []⟩,
       ⟨(some 38), (some (28, false)), (.r (.load 1 false (.t 37))), false, []⟩,
       ⟨(some 39), (some (28, false)), (.p (.bin .neq (.t 33) (.t 38))), false, []⟩,
       ⟨(some 40), none, (.p (.pick (.t 28) (.c (.bool true)) (.t 39))), false, []⟩,
       ⟨(some 41), none, (.p (.mv (.t 40))), false, []⟩,
       ⟨(some 42), (some (41, false)), (.p (.mv (.t 0))), false, []⟩,
       ⟨(some 43), (some (41, false)), (.p (.mv (.t 5))), false, []⟩,
       ⟨(some 44), (some (41, false)), (.p (.iaddr 4 (.t 42) (.t 43))), false, []⟩,
       ⟨(some 45), (some (41, false)), (.p (.faddr 2 (.t 44))), false, []⟩,
       ⟨(some 46), (some (41, false)), (.r (.load 1 false (.t 45))), false, []⟩,
       ⟨(some 47), (some (41, false)), (.p (.mv (.t 1))), false, []⟩,
       ⟨(some 48), (some (41, false)), (.p (.mv (.t 5))), false, []⟩,
       ⟨(some 49), (some (41, false)), (.p (.iaddr 4 (.t 47) (.t 48))), false, []⟩,
       ⟨(some 50), (some (41, false)), (.p (.faddr 2 (.t 49))), false, []⟩,
       ⟨(some 51), (some (41, false)), (.r (.load 1 false (.t 50))), false, []⟩,
       ⟨(some 52), (some (41, false)), (.p (.bin .neq (.t 46) (.t 51))), false, []⟩,
       ⟨(some 53), none, (.p (.pick (.t 41) (.c (.bool true)) (.t 52))), false, []⟩,
       ⟨(some 54), none, (.p (.mv (.t 53))), false, []⟩,
       ⟨(some 55), (some (54, false)), (.p (.mv (.t 0))), false, []⟩,
       ⟨(some 56), (some (54, false)), (.p (.mv (.t 5))), false, []⟩,
       ⟨(some 57), (some (54, false)), (.p (.iaddr 4 (.t 55) (.t 56))), false, []⟩,
       ⟨(some 58), (some (54, false)), (.p (.faddr 3 (.t 57))), false, []⟩,
       ⟨(some 59), (some (54, false)), (.r (.load 1 false (.t 58))), false, []⟩,
       ⟨(some 60), (some (54, false)), (.r (.b2s (.t 59))), false, []⟩,
       ⟨(some 61), (some (54, false)), (.p (.mv (.t 1))), false, []⟩,
       ⟨(some 62), (some (54, false)), (.p (.mv (.t 5))), false, []⟩,
       ⟨(some 63), (some (54, false)), (.p (.iaddr 4 (.t 61) (.t 62))), false, []⟩,
       ⟨(some 64), (some (54, false)), (.p (.faddr 3 (.t 63))), false, []⟩,
       ⟨(some 65), (some (54, false)), (.r (.load 1 false (.t 64))), false, []⟩,
       ⟨(some 66), (some (54, false)), (.r (.b2s (.t 65))), false, []⟩,
       ⟨(some 67), (some (54, false)), (.p (.bin .neq (.t 60) (.t 66))), false, []⟩,
       ⟨(some 68), none, (.p (.pick (.t 54) (.c (.bool true)) (.t 67))), false, []⟩] (some ⟨[0, 1, 5, 68], [], true⟩))
     (.cond (.t 68)
      (.seq
       (.region 0 [⟨(some 4), none, (.p (.mv (.c (.bool false)))), false, []⟩] (some ⟨[4], [], false⟩))
       .ret)
      .skip)))
   (.region 0 [⟨(some 15), none, (.p (.mv (.t 5))), false, []⟩,
     ⟨(some 16), none, (.p (.bin .add (.t 15) (.c (.int .i64 1)))), false, []⟩,
     ⟨(some 5), none, (.p (.mv (.t 16))), false, []⟩] (some ⟨[0, 1, 5], [], false⟩))))
def Try.c30 : AC :=
 (.seq
  (.region 0 [⟨(some 4), none, (.p (.mv (.c (.bool false)))), false, []⟩] (some ⟨[0, 1], [], false⟩))
  (.seq
   (.seq
    (.region 0 [⟨(some 6), none, (.p (.mv (.t 0))), false, []⟩,
      ⟨(some 7), none, (.p (.len (.t 6))), false, []⟩,
      ⟨(some 8), none, (.p (.mv (.t 1))), false, []⟩,
      ⟨(some 9), none, (.p (.len (.t 8))), false, []⟩,
      ⟨(some 10), none, (.p (.bin .neq (.t 7) (.t 9))), false, []⟩] (some ⟨[0, 1, 10], [], false⟩))
    (.cond (.t 10)
     (.seq
      (.region 0 [⟨(some 4), none, (.p (.mv (.c (.bool false)))), false, []⟩] (some ⟨[4], [], false⟩))
      .ret)
     .skip))
   (.seq
    (.seq
     (.region 0 [⟨(some 5), none, (.p (.mv (.c (.int .i64 0)))), false, []⟩] (some ⟨[0, 1, 5], [], false⟩))
     (.block 0
      (.loop (some ⟨[0, 1, 5], [], true⟩) Try.c30b0)))
    (.seq
     (.region 0 [⟨(some 4), none, (.p (.mv (.c (.bool true)))), false, []⟩] (some ⟨[4], [], false⟩))
     .ret))))
theorem Try.run30 {xs : List AV} {r : AV} (hl : xs.length ≤ 69) (h : aw Try.prog Try.c30 (Pv.Ends [4] r) (entry xs)) : Run Try.prog 30 xs r :=
  run_of (fun _ _ => drawOk Try.mixed) Try.func30 rfl rfl rfl (by kernel_rfl) (by kernel_rfl) hl h
/-! 31 paling/pcap.Of : params [54, 3], results [40], free 0, zeros [(.slice none 0 0), (.int .i64 (0))] -/
def Try.c31b0 : AC :=
 (.seq
  (.region 0 [⟨(some 11), none, (.p (.bin .lss (.t 10) (.t 9))), false, []⟩] (some ⟨[1, 5, 8, 9, 10, 11], [], false⟩))
  (.seq
   (.cond (.t 11)
    .skip
    (.exit 0))
   (.seq
    (.block 1
     (.seq
      (.region 0 [⟨(some 12), none, (.p (.mv (.t 10))), false, []⟩,
        ⟨(some 13), none, (.p (.iaddr 3 (.t 8) (.t 10))), false, []⟩,
        ⟨(some 14), none, (.r (.load 3 true (.t 13))), false, []⟩,
        ⟨(some 7), none, (.e (.alloc 56 (.agg [(.int .i64 0), (.int .i64 0), (.sl 0 [] true)])) none), false, []⟩,
        ⟨(some 6), none, (.p (.mv (.t 12))), false, []⟩,
        ⟨none, none, (.e (.store 3 (.t 7) (.t 14)) none), false, []⟩] (some ⟨[1, 5, 6, 7, 8, 9, 10], [], false⟩))
      (.seq
       (.region 0 [⟨(some 15), none, (.p (.faddr 0 (.t 7))), false, []⟩,
         ⟨(some 16), none, (.r (.load 1 false (.t 15))), false, []⟩,
         ⟨(some 17), none, (.p (.mv (.t 1))), false, []⟩,
         ⟨(some 18), none, (.p (.bin .eql (.t 16) (.t 17))), false, []⟩] (some ⟨[1, 5, 6, 7, 8, 9, 10, 18], [], false⟩))
       (.cond (.t 18)
        (.region 17 [⟨(some 19), none, (.p (.mv (.t 5))), true, []⟩,
          ⟨(some 20), none, (.p (.mv (.t 6))), true, []⟩,
          ⟨(some 21), none, (.p (.faddr 2 (.t 7))), true, []⟩,
          ⟨(some 22), none, (.r (.load 1 false (.t 21))), true, [5]⟩,
          ⟨(some 23), none, (.p (.len (.t 22))), true, []⟩,
          ⟨(some 24), none, (.p (.faddr 2 (.t 7))), true, []⟩,
          ⟨(some 25), none, (.r (.load 1 false (.t 24))), true, []⟩,
          ⟨(some 26), none, (.p (.faddr 2 (.t 7))), true, []⟩,
          ⟨(some 27), none, (.r (.load 1 false (.t 26))), true, []⟩,
          ⟨(some 28), none, (.p (.len (.t 27))), true, []⟩,
          ⟨(some 29), none, (.p (.minmax false (.t 28) (.c (.int .i64 65535)))), true, []⟩,
          ⟨(some 30), none, (.p (.slicev 1 (.t 25) none (some (.t 29)) none)), true, []⟩,
          ⟨(some 31), none, (.call 56 [(.t 30)] true), true, [5]⟩,
          ⟨(some 32), none, (.p (.build [(.int .i64 0), (.int .i64 0), (.int .i64 0), (.sl 0 [] true)] [(0, 1, (.t 20)), (2, 1, (.t 23)), (3, 1, (.t 31))])), true, []⟩,
          ⟨(some 33), none, (.e (.mks 44 4 (.agg [(.int .i64 0), (.int .i64 0), (.int .i64 0), (.sl 0 [] true)]) 1 [(0, (.t 32))]) (some 14)), true, []⟩,
          ⟨(some 34), none, (.e (.append 44 4 (.t 19) (.t 33)) (some 15)), true, []⟩,
          ⟨(some 5), none, (.p (.mv (.t 34))), true, []⟩] (some ⟨[1, 5, 8, 9, 10], [], true⟩))
        .skip))))
    (.region 0 [⟨(some 35), none, (.p (.bin .add (.t 10) (.c (.int .i64 1)))), false, []⟩,
      ⟨(some 10), none, (.p (.mv (.t 35))), false, []⟩] (some ⟨[1, 5, 8, 9, 10], [], false⟩)))))
def Try.c31 : AC :=
 (.seq
  (.region 0 [⟨(some 4), none, (.p (.mv (.c (.sl 0 [] true)))), false, []⟩] (some ⟨[0, 1], [], false⟩))
  (.seq
   (.region 0 [⟨(some 5), none, (.p (.mv (.c (.sl 0 [] true)))), false, []⟩] (some ⟨[0, 1, 5], [], false⟩))
   (.seq
    (.seq
     (.region 0 [⟨(some 8), none, (.p (.mv (.t 0))), false, []⟩,
       ⟨(some 9), none, (.p (.len (.t 8))), false, []⟩,
       ⟨(some 10), none, (.p (.mv (.c (.int .i64 0)))), false, []⟩] (some ⟨[1, 5, 8, 9, 10], [], false⟩))
     (.block 0
      (.loop (some ⟨[1, 5, 8, 9, 10], [(5, (4, 44))], true⟩) Try.c31b0)))
    (.seq
     (.region 0 [⟨(some 36), none, (.p (.mv (.t 5))), false, []⟩,
       ⟨(some 4), none, (.p (.mv (.t 36))), false, []⟩] (some ⟨[4], [], false⟩))
     .ret))))
theorem Try.run31 {xs : List AV} {r : AV} (hl : xs.length ≤ 37) (h : aw Try.prog Try.c31 (Pv.Ends [4] r) (entry xs)) : Run Try.prog 31 xs r :=
  run_of (fun _ _ => drawOk Try.mixed) Try.func31 rfl rfl rfl (by kernel_rfl) (by kernel_rfl) hl h
/-! 32 paling/palingref46.Of : params [54, 3], results [52], free 0, zeros [(.slice none 0 0), (.int .i64 (0))] -/
def Try.c32b0 : AC :=
 (.seq
  (.seq
   (.region 0 [⟨(some 8), none, (.p (.mv (.t 6))), false, []⟩,
     ⟨(some 9), none, (.p (.mv (.t 0))), false, []⟩,
     ⟨(some 10), none, (.p (.len (.t 9))), false, []⟩,
     ⟨(some 11), none, (.p (.bin .lss (.t 8) (.t 10))), false, []⟩] (some ⟨[0, 1, 5, 6, 11], [], false⟩))
   (.cond (.t 11)
    .skip
    (.exit 0)))
  (.seq
   (.block 1
    (.seq
     (.seq
      (.region 0 [⟨(some 14), none, (.p (.mv (.t 0))), false, []⟩,
        ⟨(some 15), none, (.p (.mv (.t 6))), false, []⟩,
        ⟨(some 16), none, (.p (.iaddr 3 (.t 14) (.t 15))), false, []⟩,
        ⟨(some 17), none, (.p (.faddr 0 (.t 16))), false, []⟩,
        ⟨(some 18), none, (.r (.load 1 false (.t 17))), false, []⟩,
        ⟨(some 19), none, (.p (.mv (.t 1))), false, []⟩,
        ⟨(some 20), none, (.p (.bin .neq (.t 18) (.t 19))), false, []⟩] (some ⟨[0, 1, 5, 6, 20], [], false⟩))
      (.cond (.t 20)
       (.exit 1)
       .skip))
     (.seq
      (.region 15 [⟨(some 21), none, (.p (.mv (.t 6))), true, []⟩,
        ⟨(some 22), none, (.p (.mv (.t 0))), true, []⟩,
        ⟨(some 23), none, (.p (.mv (.t 6))), true, []⟩,
        ⟨(some 24), none, (.p (.iaddr 3 (.t 22) (.t 23))), true, []⟩,
        ⟨(some 25), none, (.p (.faddr 2 (.t 24))), true, []⟩,
        ⟨(some 26), none, (.r (.load 1 false (.t 25))), true, []⟩,
        ⟨(some 27), none, (.p (.len (.t 26))), true, []⟩,
        ⟨(some 28), none, (.p (.mv (.t 0))), true, []⟩,
        ⟨(some 29), none, (.p (.mv (.t 6))), true, []⟩,
        ⟨(some 30), none, (.p (.iaddr 3 (.t 28) (.t 29))), true, []⟩,
        ⟨(some 31), none, (.p (.faddr 2 (.t 30))), true, []⟩,
        ⟨(some 32), none, (.r (.load 1 false (.t 31))), true, []⟩,
        ⟨(some 33), none, (.p (.build [(.int .i64 0), (.int .i64 0), (.int .i64 0), (.sl 0 [] true)] [(0, 1, (.t 21)), (2, 1, (.t 27)), (3, 1, (.t 32))])), true, []⟩,
        ⟨(some 7), none, (.e (.alloc 47 (.agg [(.int .i64 0), (.int .i64 0), (.int .i64 0), (.sl 0 [] true)])) (some 13)), true, []⟩,
        ⟨none, none, (.e (.store 4 (.t 7) (.t 33)) (some 14)), true, []⟩] (some ⟨[0, 1, 5, 6, 7], [], true⟩))
      (.seq
       (.seq
        (.region 0 [⟨(some 34), none, (.p (.faddr 3 (.t 7))), false, []⟩,
          ⟨(some 35), none, (.r (.load 1 false (.t 34))), false, []⟩,
          ⟨(some 36), none, (.p (.len (.t 35))), false, []⟩,
          ⟨(some 37), none, (.p (.bin .gtr (.t 36) (.c (.int .i64 65535)))), false, []⟩] (some ⟨[0, 1, 5, 6, 7, 37], [], false⟩))
        (.cond (.t 37)
         (.region 0 [⟨(some 38), none, (.p (.faddr 3 (.t 7))), false, []⟩,
           ⟨(some 39), none, (.r (.load 1 false (.t 38))), false, []⟩,
           ⟨(some 40), none, (.p (.slicev 1 (.t 39) none (some (.c (.int .i64 65535))) none)), false, []⟩,
           ⟨(some 41), none, (.p (.faddr 3 (.t 7))), false, []⟩,
           ⟨none, none, (.e (.store 1 (.t 41) (.t 40)) none), false, []⟩] (some ⟨[0, 1, 5, 6, 7], [], false⟩))
         .skip))
       (.region 0 [⟨(some 42), none, (.p (.mv (.t 5))), false, []⟩,
         ⟨(some 43), none, (.r (.load 4 true (.t 7))), false, []⟩,
         ⟨(some 44), none, (.e (.mks 47 4 (.agg [(.int .i64 0), (.int .i64 0), (.int .i64 0), (.sl 0 [] true)]) 1 [(0, (.t 43))]) none), false, []⟩,
         ⟨(some 45), none, (.e (.append 47 4 (.t 42) (.t 44)) none), false, []⟩,
         ⟨(some 5), none, (.p (.mv (.t 45))), false, []⟩] (some ⟨[0, 1, 5, 6], [], false⟩))))))
   (.region 0 [⟨(some 12), none, (.p (.mv (.t 6))), false, []⟩,
     ⟨(some 13), none, (.p (.bin .add (.t 12) (.c (.int .i64 1)))), false, []⟩,
     ⟨(some 6), none, (.p (.mv (.t 13))), false, []⟩] (some ⟨[0, 1, 5, 6], [], false⟩))))
def Try.c32 : AC :=
 (.seq
  (.region 0 [⟨(some 4), none, (.p (.mv (.c (.sl 0 [] true)))), false, []⟩] (some ⟨[0, 1], [], false⟩))
  (.seq
   (.region 0 [⟨(some 5), none, (.p (.mv (.c (.sl 0 [] true)))), false, []⟩] (some ⟨[0, 1, 5], [], false⟩))
   (.seq
    (.seq
     (.region 0 [⟨(some 6), none, (.p (.mv (.c (.int .i64 0)))), false, []⟩] (some ⟨[0, 1, 5, 6], [], false⟩))
     (.block 0
      (.loop (some ⟨[0, 1, 5, 6], [(5, (4, 47))], true⟩) Try.c32b0)))
    (.seq
     (.region 0 [⟨(some 46), none, (.p (.mv (.t 5))), false, []⟩,
       ⟨(some 4), none, (.p (.mv (.t 46))), false, []⟩] (some ⟨[4], [], false⟩))
     .ret))))
theorem Try.run32 {xs : List AV} {r : AV} (hl : xs.length ≤ 47) (h : aw Try.prog Try.c32 (Pv.Ends [4] r) (entry xs)) : Run Try.prog 32 xs r :=
  run_of (fun _ _ => drawOk Try.mixed) Try.func32 rfl rfl rfl (by kernel_rfl) (by kernel_rfl) hl h
/-! 33 paling/pcap.Take : params [42], results [40, 26], free 0, zeros [(.slice none 0 0)] -/
def Try.c33 : AC :=
 (.seq
  (.region 0 [⟨(some 2), none, (.p (.mv (.c (.sl 0 [] true)))), false, []⟩,
    ⟨(some 3), none, (.p (.mv (.c (.int .i64 0)))), false, []⟩] (some ⟨[0], [], false⟩))
  (.seq
   (.region 0 [⟨(some 8), none, (.p (.mv (.t 0))), false, []⟩,
     ⟨(some 9), none, (.call 57 [(.t 8)] false), false, []⟩,
     ⟨(some 7), none, (.p (.mv (.t 9))), false, []⟩,
     ⟨(some 10), none, (.p (.ext (.t 7) 0)), false, []⟩,
     ⟨(some 11), none, (.p (.ext (.t 7) 1)), false, []⟩,
     ⟨(some 12), none, (.p (.ext (.t 7) 2)), false, []⟩,
     ⟨(some 5), none, (.e (.alloc 90 (.agg [(.lit .nilFunc)])) none), false, []⟩,
     ⟨(some 4), none, (.p (.mv (.t 10))), false, []⟩,
     ⟨none, none, (.e (.store 1 (.t 5) (.t 11)) none), false, []⟩,
     ⟨(some 6), none, (.p (.mv (.t 12))), false, []⟩] (some ⟨[4, 6], [], false⟩))
   (.seq
    (.region 0 [⟨(some 13), none, (.p (.mv (.t 4))), false, []⟩,
      ⟨(some 14), none, (.p (.mv (.t 6))), false, []⟩,
      ⟨(some 2), none, (.p (.mv (.t 13))), false, []⟩,
      ⟨(some 3), none, (.p (.mv (.t 14))), false, []⟩] (some ⟨[2, 3], [], false⟩))
    .ret)))
theorem Try.run33 {xs : List AV} {r : AV} (hl : xs.length ≤ 15) (h : aw Try.prog Try.c33 (Pv.Ends [2, 3] r) (entry xs)) : Run Try.prog 33 xs r :=
  run_of (fun _ _ => drawOk Try.mixed) Try.func33 rfl rfl rfl (by kernel_rfl) (by kernel_rfl) hl h
/-! 34 paling/palingref46.Take : params [42], results [52, 4, 3], free 0, zeros [(.slice none 0 0)] -/
def Try.c34b0 : AC :=
 (.seq
  (.seq
   (.region 0 [⟨(some 29), none, (.p (.mv (.t 7))), false, []⟩,
     ⟨(some 30), none, (.p (.mv (.t 0))), false, []⟩,
     ⟨(some 31), none, (.p (.len (.t 30))), false, []⟩,
     ⟨(some 32), none, (.p (.bin .lss (.t 29) (.t 31))), false, []⟩] (some ⟨[0, 5, 6, 7, 32], [], false⟩))
   (.cond (.t 32)
    .skip
    (.exit 0)))
  (.block 1
   (.seq
    (.seq
     (.region 0 [⟨(some 33), none, (.p (.mv (.t 0))), false, []⟩,
       ⟨(some 34), none, (.p (.len (.t 33))), false, []⟩,
       ⟨(some 35), none, (.p (.mv (.t 7))), false, []⟩,
       ⟨(some 36), none, (.p (.bin .sub (.t 34) (.t 35))), false, []⟩,
       ⟨(some 37), none, (.p (.bin .lss (.t 36) (.c (.int .i64 16)))), false, []⟩] (some ⟨[0, 5, 6, 7, 37], [], false⟩))
     (.cond (.t 37)
      (.seq
       (.region 0 [⟨(some 2), none, (.p (.mv (.c (.sl 0 [] true)))), false, []⟩,
         ⟨(some 3), none, (.p (.mv (.c (.bool false)))), false, []⟩,
         ⟨(some 4), none, (.p (.mv (.c (.int .i64 10)))), false, []⟩] (some ⟨[2, 3, 4], [], false⟩))
       .ret)
      .skip))
    (.seq
     (.region 0 [⟨(some 38), none, (.p (.mv (.t 0))), false, []⟩,
       ⟨(some 39), none, (.p (.mv (.t 7))), false, []⟩,
       ⟨(some 40), none, (.p (.bin .add (.t 39) (.c (.int .i64 8)))), false, []⟩,
       ⟨(some 41), none, (.p (.mv (.t 7))), false, []⟩,
       ⟨(some 42), none, (.p (.bin .add (.t 41) (.c (.int .i64 12)))), false, []⟩,
       ⟨(some 43), none, (.r (.cut 1 (.t 38) (.t 40) (.t 42))), false, []⟩,
       ⟨(some 44), none, (.p (.mv (.t 5))), false, []⟩,
       ⟨(some 45), none, (.call 58 [(.t 43), (.t 44)] false), false, []⟩,
       ⟨(some 8), none, (.p (.mv (.t 45))), false, []⟩] (some ⟨[0, 5, 6, 7, 8], [], false⟩))
     (.seq
      (.region 26 [⟨(some 46), none, (.p (.mv (.t 0))), true, []⟩,
        ⟨(some 47), none, (.p (.mv (.t 7))), true, []⟩,
        ⟨(some 48), none, (.p (.mv (.t 7))), true, []⟩,
        ⟨(some 49), none, (.p (.bin .add (.t 48) (.c (.int .i64 4)))), true, []⟩,
        ⟨(some 50), none, (.p (.slicev 1 (.t 46) (some (.t 47)) (some (.t 49)) none)), true, []⟩,
        ⟨(some 51), none, (.p (.mv (.t 5))), true, []⟩,
        ⟨(some 53), none, (.p (.mv (.t 0))), true, []⟩,
        ⟨(some 54), none, (.p (.mv (.t 7))), true, []⟩,
        ⟨(some 55), none, (.p (.bin .add (.t 54) (.c (.int .i64 4)))), true, []⟩,
        ⟨(some 56), none, (.p (.mv (.t 7))), true, []⟩,
        ⟨(some 57), none, (.p (.bin .add (.t 56) (.c (.int .i64 8)))), true, []⟩,
        ⟨(some 58), none, (.p (.slicev 1 (.t 53) (some (.t 55)) (some (.t 57)) none)), true, []⟩,
        ⟨(some 59), none, (.p (.mv (.t 5))), true, []⟩,
        ⟨(some 61), none, (.p (.mv (.t 0))), true, []⟩,
        ⟨(some 62), none, (.p (.mv (.t 7))), true, []⟩,
        ⟨(some 63), none, (.p (.bin .add (.t 62) (.c (.int .i64 12)))), true, []⟩,
        ⟨(some 64), none, (.p (.mv (.t 7))), true, []⟩,
        ⟨(some 65), none, (.p (.bin .add (.t 64) (.c (.int .i64 16)))), true, []⟩,
        ⟨(some 66), none, (.p (.slicev 1 (.t 61) (some (.t 63)) (some (.t 65)) none)), true, []⟩,
        ⟨(some 67), none, (.p (.mv (.t 5))), true, []⟩,
        ⟨(some 52), none, (.call 58 [(.t 50), (.t 51)] true), true, []⟩,
        ⟨(some 60), none, (.call 58 [(.t 58), (.t 59)] true), true, []⟩,
        ⟨(some 68), none, (.call 58 [(.t 66), (.t 67)] true), true, []⟩,
        ⟨(some 69), none, (.p (.build [(.int .i64 0), (.int .i64 0), (.int .i64 0), (.sl 0 [] true)] [(0, 1, (.t 52)), (1, 1, (.t 60)), (2, 1, (.t 68))])), true, []⟩,
        ⟨(some 9), none, (.e (.alloc 47 (.agg [(.int .i64 0), (.int .i64 0), (.int .i64 0), (.sl 0 [] true)])) (some 24)), true, []⟩,
        ⟨none, none, (.e (.store 4 (.t 9) (.t 69)) (some 25)), true, []⟩] (some ⟨[0, 5, 6, 7, 8, 9], [(9, (1000000, 0))], true⟩))
      (.seq
       (.seq
        (.region 0 [⟨(some 70), none, (.p (.faddr 1 (.t 9))), false, []⟩,
          ⟨(some 71), none, (.r (.load 1 false (.t 70))), false, []⟩,
          ⟨(some 72), none, (.p (.bin .gtr (.t 71) (.c (.int .i64 999999)))), false, []⟩,
          ⟨(some 73), none, (.p (.mv (.t 72))), false, []⟩,
          ⟨(some 74), (some (73, false)), (.p (.mv (.t 8))), false, []⟩,
          ⟨(some 75), (some (73, false)), (.p (.bin .gtr (.t 74) (.c (.int .i64 65535)))), false, []⟩,
          ⟨(some 76), none, (.p (.pick (.t 73) (.c (.bool true)) (.t 75))), false, []⟩,
          ⟨(some 77), none, (.p (.mv (.t 76))), false, []⟩,
          ⟨(some 78), (some (77, false)), (.p (.mv (.t 8))), false, []⟩,
          ⟨(some 79), (some (77, false)), (.p (.faddr 2 (.t 9))), false, []⟩,
          ⟨(some 80), (some (77, false)), (.r (.load 1 false (.t 79))), false, []⟩,
          ⟨(some 81), (some (77, false)), (.p (.bin .gtr (.t 78) (.t 80))), false, []⟩,
          ⟨(some 82), none, (.p (.pick (.t 77) (.c (.bool true)) (.t 81))), false, []⟩] (some ⟨[0, 5, 6, 7, 8, 9, 82], [(9, (1000000, 0))], false⟩))
        (.cond (.t 82)
         (.seq
          (.region 0 [⟨(some 2), none, (.p (.mv (.c (.sl 0 [] true)))), false, []⟩,
            ⟨(some 3), none, (.p (.mv (.c (.bool false)))), false, []⟩,
            ⟨(some 4), none, (.p (.mv (.c (.int .i64 11)))), false, []⟩] (some ⟨[2, 3, 4], [], false⟩))
          .ret)
         .skip))
       (.seq
        (.seq
         (.region 0 [⟨(some 83), none, (.p (.mv (.t 0))), false, []⟩,
           ⟨(some 84), none, (.p (.len (.t 83))), false, []⟩,
           ⟨(some 85), none, (.p (.mv (.t 7))), false, []⟩,
           ⟨(some 86), none, (.p (.bin .sub (.t 84) (.t 85))), false, []⟩,
           ⟨(some 87), none, (.p (.bin .sub (.t 86) (.c (.int .i64 16)))), false, []⟩,
           ⟨(some 88), none, (.p (.mv (.t 8))), false, []⟩,
           ⟨(some 89), none, (.p (.bin .lss (.t 87) (.t 88))), false, []⟩] (some ⟨[0, 5, 6, 7, 8, 9, 89], [(9, (1000000, 0))], false⟩))
         (.cond (.t 89)
          (.seq
           (.region 0 [⟨(some 2), none, (.p (.mv (.c (.sl 0 [] true)))), false, []⟩,
             ⟨(some 3), none, (.p (.mv (.c (.bool false)))), false, []⟩,
             ⟨(some 4), none, (.p (.mv (.c (.int .i64 10)))), false, []⟩] (some ⟨[2, 3, 4], [], false⟩))
           .ret)
          .skip))
        (.seq
         (.seq
          (.region 0 [⟨(some 90), none, (.p (.mv (.t 6))), false, []⟩,
            ⟨(some 91), none, (.p (.len (.t 90))), false, []⟩,
            ⟨(some 92), none, (.p (.bin .eql (.t 91) (.c (.int .i64 1000)))), false, []⟩] (some ⟨[0, 5, 6, 7, 8, 9, 92], [(9, (1000000, 0))], false⟩))
          (.cond (.t 92)
           (.seq
            (.region 0 [⟨(some 2), none, (.p (.mv (.c (.sl 0 [] true)))), false, []⟩,
              ⟨(some 3), none, (.p (.mv (.c (.bool false)))), false, []⟩,
              ⟨(some 4), none, (.p (.mv (.c (.int .i64 3)))), false, []⟩] (some ⟨[2, 3, 4], [], false⟩))
            .ret)
           .skip))
         (.seq
          (.region 0 [⟨(some 93), none, (.e (.mks 5 1 (.int .u8 0) 0 []) none), false, []⟩,
            ⟨(some 94), none, (.p (.mv (.t 0))), false, []⟩,
            ⟨(some 95), none, (.p (.mv (.t 7))), false, []⟩,
            ⟨(some 96), none, (.p (.bin .add (.t 95) (.c (.int .i64 16)))), false, []⟩,
            ⟨(some 97), none, (.p (.mv (.t 7))), false, []⟩,
            ⟨(some 98), none, (.p (.bin .add (.t 97) (.c (.int .i64 16)))), false, []⟩,
            ⟨(some 99), none, (.p (.mv (.t 8))), false, []⟩,
            ⟨(some 100), none, (.p (.bin .add (.t 98) (.t 99))), false, []⟩,
            ⟨(some 101), none, (.r (.cut 1 (.t 94) (.t 96) (.t 100))), false, []⟩,
            ⟨(some 102), none, (.e (.append 5 1 (.t 93) (.t 101)) none), false, []⟩,
            ⟨(some 103), none, (.p (.faddr 3 (.t 9))), false, []⟩,
            ⟨none, none, (.e (.store 1 (.t 103) (.t 102)) none), false, []⟩] (some ⟨[0, 5, 6, 7, 8, 9], [(9, (1000000, 0))], false⟩))
          (.seq
           (.region 0 [⟨(some 104), none, (.p (.mv (.t 6))), false, []⟩,
             ⟨(some 105), none, (.r (.load 4 true (.t 9))), false, []⟩,
             ⟨(some 106), none, (.e (.mks 47 4 (.agg [(.int .i64 0), (.int .i64 0), (.int .i64 0), (.sl 0 [] true)]) 1 [(0, (.t 105))]) none), false, []⟩,
             ⟨(some 107), none, (.e (.append 47 4 (.t 104) (.t 106)) none), false, []⟩,
             ⟨(some 6), none, (.p (.mv (.t 107))), false, []⟩] (some ⟨[0, 5, 6, 7, 8], [], false⟩))
           (.region 0 [⟨(some 108), none, (.p (.mv (.t 7))), false, []⟩,
             ⟨(some 109), none, (.p (.bin .add (.t 108) (.c (.int .i64 16)))), false, []⟩,
             ⟨(some 110), none, (.p (.mv (.t 8))), false, []⟩,
             ⟨(some 111), none, (.p (.bin .add (.t 109) (.t 110))), false, []⟩,
             ⟨(some 7), none, (.p (.mv (.t 111))), false, []⟩] (some ⟨[0, 5, 6, 7], [], false⟩))))))))))))
def Try.c34 : AC :=
 (.seq
  (.region 0 [⟨(some 2), none, (.p (.mv (.c (.sl 0 [] true)))), false, []⟩,
    ⟨(some 3), none, (.p (.mv (.c (.bool false)))), false, []⟩,
    ⟨(some 4), none, (.p (.mv (.c (.int .i64 0)))), false, []⟩] (some ⟨[0], [], false⟩))
  (.seq
   (.seq
    (.region 0 [⟨(some 10), none, (.p (.mv (.t 0))), false, []⟩,
      ⟨(some 11), none, (.p (.len (.t 10))), false, []⟩,
      ⟨(some 12), none, (.p (.bin .lss (.t 11) (.c (.int .i64 24)))), false, []⟩] (some ⟨[0, 12], [], false⟩))
    (.cond (.t 12)
     (.seq
      (.region 0 [⟨(some 2), none, (.p (.mv (.c (.sl 0 [] true)))), false, []⟩,
        ⟨(some 3), none, (.p (.mv (.c (.bool false)))), false, []⟩,
        ⟨(some 4), none, (.p (.mv (.c (.int .i64 10)))), false, []⟩] (some ⟨[2, 3, 4], [], false⟩))
      .ret)
     .skip))
   (.seq
    (.region 7 [⟨(some 13), none, (.p (.mv (.t 0))), false, []⟩,
      ⟨(some 14), none, (.p (.slicev 1 (.t 13) none (some (.c (.int .i64 24))) none)), false, []⟩,
      ⟨(some 15), none, (.r (.b2s (.t 14))), false, []⟩,
      ⟨(some 16), none, (.call 55 [(.c (.sl 0 [] true)), (.c (.bool true))] true), false, []⟩,
      ⟨(some 17), none, (.r (.b2s (.t 16))), false, []⟩,
      ⟨(some 18), none, (.p (.bin .eql (.t 15) (.t 17))), false, []⟩,
      ⟨(some 5), none, (.p (.mv (.t 18))), false, []⟩] (some ⟨[0, 5], [], true⟩))
    (.seq
     (.seq
      (.region 10 [⟨(some 19), none, (.p (.mv (.t 5))), false, []⟩,
        ⟨(some 20), none, (.p (.un .not (.t 19))), false, []⟩,
        ⟨(some 21), none, (.p (.mv (.t 20))), false, []⟩,
        ⟨(some 22), (some (21, true)), (.p (.mv (.t 0))), false, []⟩,
        ⟨(some 23), (some (21, true)), (.p (.slicev 1 (.t 22) none (some (.c (.int .i64 24))) none)), false, []⟩,
        ⟨(some 24), (some (21, true)), (.r (.b2s (.t 23))), false, []⟩,
        ⟨(some 25), (some (21, true)), (.call 55 [(.c (.sl 0 [] true)), (.c (.bool false))] true), false, []⟩,
        ⟨(some 26), (some (21, true)), (.r (.b2s (.t 25))), false, []⟩,
        ⟨(some 27), (some (21, true)), (.p (.bin .neq (.t 24) (.t 26))), false, []⟩,
        ⟨(some 28), none, (.p (.pick (.t 21) (.t 27) (.c (.bool false)))), false, []⟩] (some ⟨[0, 5, 28], [], true⟩))
      (.cond (.t 28)
       (.seq
        (.region 0 [⟨(some 2), none, (.p (.mv (.c (.sl 0 [] true)))), false, []⟩,
          ⟨(some 3), none, (.p (.mv (.c (.bool false)))), false, []⟩,
          ⟨(some 4), none, (.p (.mv (.c (.int .i64 11)))), false, []⟩] (some ⟨[2, 3, 4], [], false⟩))
        .ret)
       .skip))
     (.seq
      (.region 0 [⟨(some 6), none, (.p (.mv (.c (.sl 0 [] true)))), false, []⟩] (some ⟨[0, 5, 6], [], false⟩))
      (.seq
       (.region 0 [⟨(some 7), none, (.p (.mv (.c (.int .i64 24)))), false, []⟩] (some ⟨[0, 5, 6, 7], [], false⟩))
       (.seq
        (.block 0
         (.loop (some ⟨[0, 5, 6, 7], [(6, (4, 47))], true⟩) Try.c34b0))
        (.seq
         (.region 0 [⟨(some 112), none, (.p (.mv (.t 6))), false, []⟩,
           ⟨(some 113), none, (.p (.mv (.t 5))), false, []⟩,
           ⟨(some 2), none, (.p (.mv (.t 112))), false, []⟩,
           ⟨(some 3), none, (.p (.mv (.t 113))), false, []⟩,
           ⟨(some 4), none, (.p (.mv (.c (.int .i64 0)))), false, []⟩] (some ⟨[2, 3, 4], [], false⟩))
         .ret))))))))
theorem Try.run34 {xs : List AV} {r : AV} (hl : xs.length ≤ 114) (h : aw Try.prog Try.c34 (Pv.Ends [2, 3, 4] r) (entry xs)) : Run Try.prog 34 xs r :=
  run_of (fun _ _ => drawOk Try.mixed) Try.func34 rfl rfl rfl (by kernel_rfl) (by kernel_rfl) hl h
/-! 35 paling/pcap.Swap : params [42], results [42, 26], free 0, zeros [(.slice none 0 0)] -/
def Try.c35 : AC :=
 (.seq
  (.region 0 [⟨(some 2), none, (.p (.mv (.c (.sl 0 [] true)))), false, []⟩,
    ⟨(some 3), none, (.p (.mv (.c (.int .i64 0)))), false, []⟩] (some ⟨[0], [], false⟩))
  (.seq
   (.region 0 [⟨(some 9), none, (.p (.mv (.t 0))), false, []⟩,
     ⟨(some 10), none, (.call 57 [(.t 9)] false), false, []⟩,
     ⟨(some 8), none, (.p (.mv (.t 10))), false, []⟩,
     ⟨(some 11), none, (.p (.ext (.t 8) 0)), false, []⟩,
     ⟨(some 12), none, (.p (.ext (.t 8) 1)), false, []⟩,
     ⟨(some 13), none, (.p (.ext (.t 8) 2)), false, []⟩,
     ⟨(some 5), none, (.e (.alloc 90 (.agg [(.lit .nilFunc)])) none), false, []⟩,
     ⟨(some 4), none, (.p (.mv (.t 11))), false, []⟩,
     ⟨none, none, (.e (.store 1 (.t 5) (.t 12)) none), false, []⟩,
     ⟨(some 6), none, (.p (.mv (.t 13))), false, []⟩] (some ⟨[4, 5, 6], [], false⟩))
   (.seq
    (.seq
     (.region 0 [⟨(some 14), none, (.p (.mv (.t 6))), false, []⟩,
       ⟨(some 15), none, (.p (.bin .neq (.t 14) (.c (.int .i64 0)))), false, []⟩] (some ⟨[4, 5, 6, 15], [], false⟩))
     (.cond (.t 15)
      (.seq
       (.region 0 [⟨(some 16), none, (.p (.mv (.t 6))), false, []⟩,
         ⟨(some 2), none, (.p (.mv (.c (.sl 0 [] true)))), false, []⟩,
         ⟨(some 3), none, (.p (.mv (.t 16))), false, []⟩] (some ⟨[2, 3], [], false⟩))
       .ret)
      .skip))
    (.seq
     (.region 0 [⟨(some 17), none, (.call 59 [] false), false, []⟩,
       ⟨(some 7), none, (.e (.alloc 90 (.agg [(.lit .nilFunc)])) none), false, []⟩,
       ⟨none, none, (.e (.store 1 (.t 7) (.t 17)) none), false, []⟩] (some ⟨[4, 5, 7], [], false⟩))
     (.seq
      (.seq
       (.region 0 [⟨(some 18), none, (.p (.faddr 0 (.t 5))), false, []⟩,
         ⟨(some 19), none, (.r (.load 1 false (.t 18))), false, []⟩,
         ⟨(some 20), none, (.callv (.t 19) [(.c (.int .i64 0)), (.c (.int .i64 4))]), false, []⟩,
         ⟨(some 21), none, (.p (.bin .neq (.t 20) (.c (.int .i64 0)))), false, []⟩] (some ⟨[4, 7, 21], [], false⟩))
       (.cond (.t 21)
        (.region 0 [⟨(some 22), none, (.call 53 [] false), false, []⟩,
          ⟨none, none, (.e (.store 1 (.t 7) (.t 22)) none), false, []⟩] (some ⟨[4, 7], [], false⟩))
        .skip))
      (.seq
       (.region 0 [⟨(some 23), none, (.r (.load 1 true (.t 7))), false, []⟩,
         ⟨(some 24), none, (.p (.mv (.t 4))), false, []⟩,
         ⟨(some 25), none, (.call 54 [(.t 23), (.t 24)] false), false, []⟩,
         ⟨(some 2), none, (.p (.mv (.t 25))), false, []⟩,
         ⟨(some 3), none, (.p (.mv (.c (.int .i64 0)))), false, []⟩] (some ⟨[2, 3], [], false⟩))
       .ret))))))
theorem Try.run35 {xs : List AV} {r : AV} (hl : xs.length ≤ 26) (h : aw Try.prog Try.c35 (Pv.Ends [2, 3] r) (entry xs)) : Run Try.prog 35 xs r :=
  run_of (fun _ _ => drawOk Try.mixed) Try.func35 rfl rfl rfl (by kernel_rfl) (by kernel_rfl) hl h
/-! 36 paling/palingref46.Swap : params [42], results [42, 3], free 0, zeros [(.slice none 0 0)] -/
def Try.c36 : AC :=
 (.seq
  (.region 0 [⟨(some 2), none, (.p (.mv (.c (.sl 0 [] true)))), false, []⟩,
    ⟨(some 3), none, (.p (.mv (.c (.int .i64 0)))), false, []⟩] (some ⟨[0], [], false⟩))
  (.seq
   (.region 0 [⟨(some 8), none, (.p (.mv (.t 0))), false, []⟩,
     ⟨(some 9), none, (.call 34 [(.t 8)] false), false, []⟩,
     ⟨(some 7), none, (.p (.mv (.t 9))), false, []⟩,
     ⟨(some 10), none, (.p (.ext (.t 7) 0)), false, []⟩,
     ⟨(some 11), none, (.p (.ext (.t 7) 1)), false, []⟩,
     ⟨(some 12), none, (.p (.ext (.t 7) 2)), false, []⟩,
     ⟨(some 4), none, (.p (.mv (.t 10))), false, []⟩,
     ⟨(some 5), none, (.p (.mv (.t 11))), false, []⟩,
     ⟨(some 6), none, (.p (.mv (.t 12))), false, []⟩] (some ⟨[4, 5, 6], [], false⟩))
   (.seq
    (.seq
     (.region 0 [⟨(some 13), none, (.p (.mv (.t 6))), false, []⟩,
       ⟨(some 14), none, (.p (.bin .neq (.t 13) (.c (.int .i64 0)))), false, []⟩] (some ⟨[4, 5, 6, 14], [], false⟩))
     (.cond (.t 14)
      (.seq
       (.region 0 [⟨(some 15), none, (.p (.mv (.t 6))), false, []⟩,
         ⟨(some 2), none, (.p (.mv (.c (.sl 0 [] true)))), false, []⟩,
         ⟨(some 3), none, (.p (.mv (.t 15))), false, []⟩] (some ⟨[2, 3], [], false⟩))
       .ret)
      .skip))
    (.seq
     (.region 0 [⟨(some 16), none, (.p (.mv (.t 4))), false, []⟩,
       ⟨(some 17), none, (.p (.mv (.t 5))), false, []⟩,
       ⟨(some 18), none, (.p (.un .not (.t 17))), false, []⟩,
       ⟨(some 19), none, (.call 55 [(.t 16), (.t 18)] false), false, []⟩,
       ⟨(some 2), none, (.p (.mv (.t 19))), false, []⟩,
       ⟨(some 3), none, (.p (.mv (.c (.int .i64 0)))), false, []⟩] (some ⟨[2, 3], [], false⟩))
     .ret))))
theorem Try.run36 {xs : List AV} {r : AV} (hl : xs.length ≤ 20) (h : aw Try.prog Try.c36 (Pv.Ends [2, 3] r) (entry xs)) : Run Try.prog 36 xs r :=
  run_of (fun _ _ => drawOk Try.mixed) Try.func36 rfl rfl rfl (by kernel_rfl) (by kernel_rfl) hl h
/-! 37 paling/palinglaw46.same : params [40, 40], results [4], free 0, zeros [(.slice none 0 0), (.slice none 0 0)] -/
def Try.c37b0 : AC :=
 (.seq
  (.region 0 [⟨(some 14), none, (.p (.bin .lss (.t 13) (.t 12))), false, []⟩] (some ⟨[0, 1, 12, 13, 14], [], false⟩))
  (.seq
   (.cond (.t 14)
    .skip
    (.exit 0))
   (.seq
    (.block 1
     (.seq
      (.region 0 [⟨(some 15), none, (.p (.mv (.t 13))), false, []⟩,
        ⟨(some 5), none, (.p (.mv (.t 15))), false, []⟩] (some ⟨[0, 1, 5, 12, 13], [], false⟩))
      (.seq
       (.region 52 [⟨(some 16), none, (.p (.mv (.t 0))), false, []⟩,
         ⟨(some 17), none, (.p (.mv (.t 5))), false, []⟩,
         ⟨(some 18), none, (.p (.iaddr 4 (.t 16) (.t 17))), false, []⟩,
         ⟨(some 19), none, (.p (.faddr 0 (.t 18))), false, []⟩,
         ⟨(some 20), none, (.r (.load 1 false (.t 19))), false, []⟩,
         ⟨(some 21), none, (.p (.mv (.t 1))), false, []⟩,
         ⟨(some 22), none, (.p (.mv (.t 5))), false, []⟩,
         ⟨(some 23), none, (.p (.iaddr 4 (.t 21) (.t 22))), false, []⟩,
         ⟨(some 24), none, (.p (.faddr 0 (.t 23))), false, []⟩,
         ⟨(some 25), none, (.r (.load 1 false (.t 24))), false, []⟩,
         ⟨(some 26), none, (.p (.bin .neq (.t 20) (.t 25))), false, []⟩,
         ⟨(some 27), none, (.p (.mv (.t 26))), false, []⟩,
         ⟨(some 28), (some (27, false)), (.p (.mv (.t 0))), false, []⟩,
         ⟨(some 29), (some (27, false)), (.p (.mv (.t 5))), false, []⟩,
         ⟨(some 30), (some (27, false)), (.p (.iaddr 4 (.t 28) (.t 29))), false, []⟩,
         ⟨(some 31), (some (27, false)), (.p (.faddr 1 (.t 30))), false, []⟩,
         ⟨(some 32), (some (27, false)), (.r (.load 1 false (.t 31))), false, []⟩,
         ⟨(some 33), (some (27, false)), (.p (.mv (.t 1))), false, []⟩,
         ⟨(some 34), (some (27, false)), (.p (.mv (.t 5))), false, []⟩,
         ⟨(some 35), (some (27, false)), (.p (.iaddr 4 (.t 33) (.t 34))), false, []⟩,
         ⟨(some 36), (some (27, false)), (.p (.faddr 1 (.t 35))), false, []⟩,
         ⟨(some 37), (some (27, false)), (.r (.load 1 false (.t 36))), false, []⟩,
         ⟨(some 38), (some (27, false)), (.p (.bin .neq (.t 32) (.t 37))), false, []⟩,
         ⟨(some 39), none, (.p (.pick (.t 27) (.c (.bool true)) (.t 38))), false, []⟩,
         ⟨(some 40), none, (.p (.mv (.t 39))), false, []⟩,
         ⟨(some 41), (some (40, false)), (.p (.mv (.t 0))), false, []⟩,
         ⟨(some 42), (some (40, false)), (.p (.mv (.t 5))), false, []⟩,
         ⟨(some 43), (some (40, false)), (.p (.iaddr 4 (.t 41) (.t 42))), false, []⟩,
         ⟨(some 44), (some (40, false)), (.p (.faddr 2 (.t 43))), false, []⟩,
         ⟨(some 45), (some (40, false)), (.r (.load 1 false (.t 44))), false, []⟩,
         ⟨(some 46), (some (40, false)), (.p (.mv (.t 1))), false, []⟩,
         ⟨(some 47), (some (40, false)), (.p (.mv (.t 5))), false, []⟩,
         ⟨(some 48), (some (40, false)), (.p (.iaddr 4 (.t 46) (.t 47))), false, []⟩,
         ⟨(some 49), (some (40, false)), (.p (.faddr 2 (.t 48))), false, []⟩,
         ⟨(some 50), (some (40, false)), (.r (.load 1 false (.t 49))), false, []⟩,
         ⟨(some 51), (some (40, false)), (.p (.bin .neq (.t 45) (.t 50))), false, []⟩,
         ⟨(some 52), none, (.p (.pick (.t 40) (.c (.bool true)) (.t 51))), false, []⟩,
         ⟨(some 53), none, (.p (.mv (.t 52))), false, []⟩,
         ⟨(some 54), (some (53, false)), (.p (.mv (.t 0))), false, []⟩,
         ⟨(some 55), (some (53, false)), (.p (.mv (.t 5))), false, []⟩,
         ⟨(some 56), (some (53, false)), (.p (.iaddr 4 (.t 54) (.t 55))), false, []⟩,
         ⟨(some 57), (some (53, false)), (.p (.faddr 3 (.t 56))), false, []⟩,
         ⟨(some 58), (some (53, false)), (.r (.load 1 false (.t 57))), false, []⟩,
         ⟨(some 59), (some (53, false)), (.r (.b2s (.t 58))), false, []⟩,
         ⟨(some 60), (some (53, false)), (.p (.mv (.t 1))), false, []⟩,
         ⟨(some 61), (some (53, false)), (.p (.mv (.t 5))), false, []⟩,
         ⟨(some 62), (some (53, false)), (.p (.iaddr 4 (.t 60) (.t 61))), false, []⟩,
         ⟨(some 63), (some (53, false)), (.p (.faddr 3 (.t 62))), false, []⟩,
         ⟨(some 64), (some (53, false)), (.r (.load 1 false (.t 63))), false, []⟩,
         ⟨(some 65), (some (53, false)), (.r (.b2s (.t 64))), false, []⟩,
         ⟨(some 66), (some (53, false)), (.p (.bin .neq (.t 59) (.t 65))), false, []⟩,
         ⟨(some 67), none, (.p (.pick (.t 53) (.c (.bool true)) (.t 66))), false, []⟩] (some ⟨[0, 1, 12, 13, 67], [], true⟩))
       (.cond (.t 67)
        (.seq
         (.region 0 [⟨(some 4), none, (.p (.mv (.c (.bool false)))), false, []⟩] (some ⟨[4], [], false⟩))
         .ret)
        .skip))))
    (.region 0 [⟨(some 68), none, (.p (.bin .add (.t 13) (.c (.int .i64 1)))), false, []⟩,
      ⟨(some 13), none, (.p (.mv (.t 68))), false, []⟩] (some ⟨[0, 1, 12, 13], [], false⟩)))))
def Try.c37 : AC :=
 (.seq
  (.region 0 [⟨(some 4), none, (.p (.mv (.c (.bool false)))), false, []⟩] (some ⟨[0, 1], [], false⟩))
  (.seq
   (.seq
    (.region 0 [⟨(some 6), none, (.p (.mv (.t 0))), false, []⟩,
      ⟨(some 7), none, (.p (.len (.t 6))), false, []⟩,
      ⟨(some 8), none, (.p (.mv (.t 1))), false, []⟩,
      ⟨(some 9), none, (.p (.len (.t 8))), false, []⟩,
      ⟨(some 10), none, (.p (.bin .neq (.t 7) (.t 9))), false, []⟩] (some ⟨[0, 1, 10], [], false⟩))
    (.cond (.t 10)
     (.seq
      (.region 0 [⟨(some 4), none, (.p (.mv (.c (.bool false)))), false, []⟩] (some ⟨[4], [], false⟩))
      .ret)
     .skip))
   (.seq
    (.seq
     (.region 0 [⟨(some 11), none, (.p (.mv (.t 0))), false, []⟩,
       ⟨(some 12), none, (.p (.len (.t 11))), false, []⟩,
       ⟨(some 13), none, (.p (.mv (.c (.int .i64 0)))), false, []⟩] (some ⟨[0, 1, 12, 13], [], false⟩))
     (.block 0
      (.loop (some ⟨[0, 1, 12, 13], [], true⟩) Try.c37b0)))
    (.seq
     (.region 0 [⟨(some 4), none, (.p (.mv (.c (.bool true)))), false, []⟩] (some ⟨[4], [], false⟩))
     .ret))))
theorem Try.run37 {xs : List AV} {r : AV} (hl : xs.length ≤ 69) (h : aw Try.prog Try.c37 (Pv.Ends [4] r) (entry xs)) : Run Try.prog 37 xs r :=
  run_of (fun _ _ => drawOk Try.mixed) Try.func37 rfl rfl rfl (by kernel_rfl) (by kernel_rfl) hl h
/-! 38 paling/palinglaw10.works : params [], results [4], free 0, zeros [] -/
def Try.c38 : AC :=
 (.seq
  (.region 0 [⟨(some 0), none, (.p (.mv (.c (.bool false)))), false, []⟩] (some ⟨[], [], false⟩))
  (.seq
   (.region 0 [⟨(some 6), none, (.call 42 [(.c (.str [97, 32, 32, 98, 32, 35, 32, 99]))] false), false, []⟩,
     ⟨(some 5), none, (.p (.mv (.t 6))), false, []⟩,
     ⟨(some 7), none, (.p (.ext (.t 5) 0)), false, []⟩,
     ⟨(some 8), none, (.p (.ext (.t 5) 1)), false, []⟩,
     ⟨(some 1), none, (.p (.mv (.t 7))), false, []⟩,
     ⟨(some 2), none, (.p (.mv (.t 8))), false, []⟩] (some ⟨[1, 2], [], false⟩))
   (.seq
    (.region 0 [⟨(some 10), none, (.e (.mks 5 1 (.int .u8 0) 3 [(0, (.c (.int .u8 97))), (1, (.c (.int .u8 10))), (2, (.c (.int .u8 98)))]) none), false, []⟩,
      ⟨(some 11), none, (.e (.mark (.t 10)) none), false, []⟩,
      ⟨(some 12), none, (.call 39 [(.t 11)] false), false, []⟩,
      ⟨(some 9), none, (.p (.mv (.t 12))), false, []⟩,
      ⟨(some 13), none, (.p (.ext (.t 9) 0)), false, []⟩,
      ⟨(some 14), none, (.p (.ext (.t 9) 1)), false, []⟩,
      ⟨(some 3), none, (.p (.mv (.t 13))), false, []⟩,
      ⟨(some 4), none, (.p (.mv (.t 14))), false, []⟩] (some ⟨[1, 2, 3, 4], [], false⟩))
    (.seq
     (.region 0 [⟨(some 15), none, (.p (.mv (.t 2))), false, []⟩,
       ⟨(some 16), none, (.p (.bin .eql (.t 15) (.c (.int .i64 0)))), false, []⟩,
       ⟨(some 17), none, (.p (.mv (.t 16))), false, []⟩,
       ⟨(some 18), (some (17, true)), (.p (.mv (.t 1))), false, []⟩,
       ⟨(some 19), (some (17, true)), (.p (.len (.t 18))), false, []⟩,
       ⟨(some 20), (some (17, true)), (.p (.bin .eql (.t 19) (.c (.int .i64 2)))), false, []⟩,
       ⟨(some 21), none, (.p (.pick (.t 17) (.t 20) (.c (.bool false)))), false, []⟩,
       ⟨(some 22), none, (.p (.mv (.t 21))), false, []⟩,
       ⟨(some 23), (some (22, true)), (.p (.mv (.t 1))), false, []⟩,
       ⟨(some 24), (some (22, true)), (.p (.iaddr 1 (.t 23) (.c (.int .i64 0)))), false, []⟩,
       ⟨(some 25), (some (22, true)), (.r (.load 1 false (.t 24))), false, []⟩,
       ⟨(some 26), (some (22, true)), (.p (.bin .eql (.t 25) (.c (.str [97])))), false, []⟩,
       ⟨(some 27), none, (.p (.pick (.t 22) (.t 26) (.c (.bool false)))), false, []⟩,
       ⟨(some 28), none, (.p (.mv (.t 27))), false, []⟩,
       ⟨(some 29), (some (28, true)), (.p (.mv (.t 1))), false, []⟩,
       ⟨(some 30), (some (28, true)), (.p (.iaddr 1 (.t 29) (.c (.int .i64 1)))), false, []⟩,
       ⟨(some 31), (some (28, true)), (.r (.load 1 false (.t 30))), false, []⟩,
       ⟨(some 32), (some (28, true)), (.p (.bin .eql (.t 31) (.c (.str [98])))), false, []⟩,
       ⟨(some 33), none, (.p (.pick (.t 28) (.t 32) (.c (.bool false)))), false, []⟩,
       ⟨(some 34), none, (.p (.mv (.t 33))), false, []⟩,
       ⟨(some 35), (some (34, true)), (.p (.mv (.t 4))), false, []⟩,
       ⟨(some 36), (some (34, true)), (.p (.bin .eql (.t 35) (.c (.int .i64 0)))), false, []⟩,
       ⟨(some 37), none, (.p (.pick (.t 34) (.t 36) (.c (.bool false)))), false, []⟩,
       ⟨(some 38), none, (.p (.mv (.t 37))), false, []⟩,
       ⟨(some 39), (some (38, true)), (.p (.mv (.t 3))), false, []⟩,
       ⟨(some 40), (some (38, true)), (.p (.len (.t 39))), false, []⟩,
       ⟨(some 41), (some (38, true)), (.p (.bin .eql (.t 40) (.c (.int .i64 2)))), false, []⟩,
       ⟨(some 42), none, (.p (.pick (.t 38) (.t 41) (.c (.bool false)))), false, []⟩,
       ⟨(some 43), none, (.p (.mv (.t 42))), false, []⟩,
       ⟨(some 44), (some (43, true)), (.call 46 [(.c (.str [97]))] false), false, []⟩,
       ⟨(some 45), none, (.p (.pick (.t 43) (.t 44) (.c (.bool false)))), false, []⟩,
       ⟨(some 46), none, (.p (.mv (.t 45))), false, []⟩,
       ⟨(some 47), (some (46, true)), (.call 46 [(.c (.str []))] false), false, []⟩,
       ⟨(some 48), (some (46, true)), (.p (.un .not (.t 47))), false, []⟩,
       ⟨(some 49), none, (.p (.pick (.t 46) (.t 48) (.c (.bool false)))), false, []⟩,
       ⟨(some 0), none, (.p (.mv (.t 49))), false, []⟩] (some ⟨[0], [], false⟩))
     .ret))))
theorem Try.run38 {xs : List AV} {r : AV} (hl : xs.length ≤ 50) (h : aw Try.prog Try.c38 (Pv.Ends [0] r) (entry xs)) : Run Try.prog 38 xs r :=
  run_of (fun _ _ => drawOk Try.mixed) Try.func38 rfl rfl rfl (by kernel_rfl) (by kernel_rfl) hl h
/-! 39 paling/line.Rows : params [42], results [22, 26], free 0, zeros [(.slice none 0 0)] -/
def Try.c39b0 : AC :=
 (.seq
  (.seq
   (.region 0 [⟨(some 12), none, (.p (.mv (.t 5))), false, []⟩,
     ⟨(some 13), none, (.p (.bin .neq (.t 12) (.c (.str [])))), false, []⟩] (some ⟨[4, 5, 13], [], false⟩))
   (.cond (.t 13)
    .skip
    (.exit 0)))
  (.block 1
   (.seq
    (.region 0 [⟨(some 6), none, (.p (.mv (.c (.str [])))), false, []⟩] (some ⟨[4, 5], [], false⟩))
    (.seq
     (.region 0 [⟨(some 15), none, (.p (.mv (.t 5))), false, []⟩,
       ⟨(some 16), none, (.call 60 [(.t 15), (.c (.str [10]))] false), false, []⟩,
       ⟨(some 14), none, (.p (.mv (.t 16))), false, []⟩,
       ⟨(some 17), none, (.p (.ext (.t 14) 0)), false, []⟩,
       ⟨(some 18), none, (.p (.ext (.t 14) 1)), false, []⟩,
       ⟨(some 19), none, (.p (.ext (.t 14) 2)), false, []⟩,
       ⟨(some 6), none, (.p (.mv (.t 17))), false, []⟩,
       ⟨(some 5), none, (.p (.mv (.t 18))), false, []⟩] (some ⟨[4, 5, 6], [], false⟩))
     (.region 0 [⟨(some 20), none, (.p (.mv (.t 4))), false, []⟩,
       ⟨(some 21), none, (.p (.mv (.t 6))), false, []⟩,
       ⟨(some 22), none, (.e (.mks 9 1 (.str []) 1 [(0, (.t 21))]) none), false, []⟩,
       ⟨(some 23), none, (.e (.append 9 1 (.t 20) (.t 22)) none), false, []⟩,
       ⟨(some 4), none, (.p (.mv (.t 23))), false, []⟩] (some ⟨[4, 5], [], false⟩))))))
def Try.c39 : AC :=
 (.seq
  (.region 0 [⟨(some 2), none, (.p (.mv (.c (.sl 0 [] true)))), false, []⟩,
    ⟨(some 3), none, (.p (.mv (.c (.int .i64 0)))), false, []⟩] (some ⟨[0], [], false⟩))
  (.seq
   (.seq
    (.region 0 [⟨(some 7), none, (.p (.mv (.t 0))), false, []⟩,
      ⟨(some 8), none, (.p (.len (.t 7))), false, []⟩,
      ⟨(some 9), none, (.p (.bin .gtr (.t 8) (.c (.int .i64 20000)))), false, []⟩] (some ⟨[0, 9], [], false⟩))
    (.cond (.t 9)
     (.seq
      (.region 0 [⟨(some 2), none, (.p (.mv (.c (.sl 0 [] true)))), false, []⟩,
        ⟨(some 3), none, (.p (.mv (.c (.int .i64 3)))), false, []⟩] (some ⟨[2, 3], [], false⟩))
      .ret)
     .skip))
   (.seq
    (.region 0 [⟨(some 4), none, (.p (.mv (.c (.sl 0 [] true)))), false, []⟩] (some ⟨[0, 4], [], false⟩))
    (.seq
     (.seq
      (.region 0 [⟨(some 10), none, (.p (.mv (.t 0))), false, []⟩,
        ⟨(some 11), none, (.r (.b2s (.t 10))), false, []⟩,
        ⟨(some 5), none, (.p (.mv (.t 11))), false, []⟩] (some ⟨[4, 5], [], false⟩))
      (.block 0
       (.loop (some ⟨[4, 5], [(4, (1, 9))], true⟩) Try.c39b0)))
     (.seq
      (.seq
       (.region 0 [⟨(some 24), none, (.p (.mv (.t 4))), false, []⟩,
         ⟨(some 25), none, (.p (.len (.t 24))), false, []⟩,
         ⟨(some 26), none, (.p (.bin .gtr (.t 25) (.c (.int .i64 400)))), false, []⟩] (some ⟨[4, 26], [], false⟩))
       (.cond (.t 26)
        (.seq
         (.region 0 [⟨(some 2), none, (.p (.mv (.c (.sl 0 [] true)))), false, []⟩,
           ⟨(some 3), none, (.p (.mv (.c (.int .i64 3)))), false, []⟩] (some ⟨[2, 3], [], false⟩))
         .ret)
        .skip))
      (.seq
       (.region 0 [⟨(some 27), none, (.p (.mv (.t 4))), false, []⟩,
         ⟨(some 2), none, (.p (.mv (.t 27))), false, []⟩,
         ⟨(some 3), none, (.p (.mv (.c (.int .i64 0)))), false, []⟩] (some ⟨[2, 3], [], false⟩))
       .ret))))))
theorem Try.run39 {xs : List AV} {r : AV} (hl : xs.length ≤ 28) (h : aw Try.prog Try.c39 (Pv.Ends [2, 3] r) (entry xs)) : Run Try.prog 39 xs r :=
  run_of (fun _ _ => drawOk Try.mixed) Try.func39 rfl rfl rfl (by kernel_rfl) (by kernel_rfl) hl h
/-! 40 paling/palingref10.Rows : params [42], results [22, 3], free 0, zeros [(.slice none 0 0)] -/
def Try.c40b0 : AC :=
 (.seq
  (.seq
   (.region 0 [⟨(some 10), none, (.p (.mv (.t 6))), false, []⟩,
     ⟨(some 11), none, (.p (.mv (.t 0))), false, []⟩,
     ⟨(some 12), none, (.p (.len (.t 11))), false, []⟩,
     ⟨(some 13), none, (.p (.bin .lss (.t 10) (.t 12))), false, []⟩] (some ⟨[0, 4, 5, 6, 13], [], false⟩))
   (.cond (.t 13)
    .skip
    (.exit 0)))
  (.seq
   (.block 1
    (.seq
     (.region 0 [⟨(some 16), none, (.p (.mv (.t 0))), false, []⟩,
       ⟨(some 17), none, (.p (.mv (.t 6))), false, []⟩,
       ⟨(some 18), none, (.p (.iaddr 1 (.t 16) (.t 17))), false, []⟩,
       ⟨(some 19), none, (.r (.load 1 false (.t 18))), false, []⟩,
       ⟨(some 20), none, (.p (.bin .eql (.t 19) (.c (.int .u8 10)))), false, []⟩] (some ⟨[0, 4, 5, 6, 20], [], false⟩))
     (.cond (.t 20)
      (.seq
       (.region 0 [⟨(some 21), none, (.p (.mv (.t 4))), false, []⟩,
         ⟨(some 22), none, (.p (.mv (.t 0))), false, []⟩,
         ⟨(some 23), none, (.p (.mv (.t 5))), false, []⟩,
         ⟨(some 24), none, (.p (.mv (.t 6))), false, []⟩,
         ⟨(some 25), none, (.r (.cut 1 (.t 22) (.t 23) (.t 24))), false, []⟩,
         ⟨(some 26), none, (.r (.b2s (.t 25))), false, []⟩,
         ⟨(some 27), none, (.e (.mks 9 1 (.str []) 1 [(0, (.t 26))]) none), false, []⟩,
         ⟨(some 28), none, (.e (.append 9 1 (.t 21) (.t 27)) none), false, []⟩,
         ⟨(some 4), none, (.p (.mv (.t 28))), false, []⟩] (some ⟨[0, 4, 6], [], false⟩))
       (.region 0 [⟨(some 29), none, (.p (.mv (.t 6))), false, []⟩,
         ⟨(some 30), none, (.p (.bin .add (.t 29) (.c (.int .i64 1)))), false, []⟩,
         ⟨(some 5), none, (.p (.mv (.t 30))), false, []⟩] (some ⟨[0, 4, 5, 6], [], false⟩)))
      .skip)))
   (.region 0 [⟨(some 14), none, (.p (.mv (.t 6))), false, []⟩,
     ⟨(some 15), none, (.p (.bin .add (.t 14) (.c (.int .i64 1)))), false, []⟩,
     ⟨(some 6), none, (.p (.mv (.t 15))), false, []⟩] (some ⟨[0, 4, 5, 6], [], false⟩))))
def Try.c40 : AC :=
 (.seq
  (.region 0 [⟨(some 2), none, (.p (.mv (.c (.sl 0 [] true)))), false, []⟩,
    ⟨(some 3), none, (.p (.mv (.c (.int .i64 0)))), false, []⟩] (some ⟨[0], [], false⟩))
  (.seq
   (.seq
    (.region 0 [⟨(some 7), none, (.p (.mv (.t 0))), false, []⟩,
      ⟨(some 8), none, (.p (.len (.t 7))), false, []⟩,
      ⟨(some 9), none, (.p (.bin .gtr (.t 8) (.c (.int .i64 20000)))), false, []⟩] (some ⟨[0, 9], [], false⟩))
    (.cond (.t 9)
     (.seq
      (.region 0 [⟨(some 2), none, (.p (.mv (.c (.sl 0 [] true)))), false, []⟩,
        ⟨(some 3), none, (.p (.mv (.c (.int .i64 3)))), false, []⟩] (some ⟨[2, 3], [], false⟩))
      .ret)
     .skip))
   (.seq
    (.region 0 [⟨(some 4), none, (.p (.mv (.c (.sl 0 [] true)))), false, []⟩] (some ⟨[0, 4], [], false⟩))
    (.seq
     (.region 0 [⟨(some 5), none, (.p (.mv (.c (.int .i64 0)))), false, []⟩] (some ⟨[0, 4, 5], [], false⟩))
     (.seq
      (.seq
       (.region 0 [⟨(some 6), none, (.p (.mv (.c (.int .i64 0)))), false, []⟩] (some ⟨[0, 4, 5, 6], [], false⟩))
       (.block 0
        (.loop (some ⟨[0, 4, 5, 6], [(4, (1, 9))], true⟩) Try.c40b0)))
      (.seq
       (.seq
        (.region 0 [⟨(some 31), none, (.p (.mv (.t 5))), false, []⟩,
          ⟨(some 32), none, (.p (.mv (.t 0))), false, []⟩,
          ⟨(some 33), none, (.p (.len (.t 32))), false, []⟩,
          ⟨(some 34), none, (.p (.bin .lss (.t 31) (.t 33))), false, []⟩] (some ⟨[0, 4, 5, 34], [], false⟩))
        (.cond (.t 34)
         (.region 0 [⟨(some 35), none, (.p (.mv (.t 4))), false, []⟩,
           ⟨(some 36), none, (.p (.mv (.t 0))), false, []⟩,
           ⟨(some 37), none, (.p (.mv (.t 5))), false, []⟩,
           ⟨(some 38), none, (.p (.slicev 1 (.t 36) (some (.t 37)) none none)), false, []⟩,
           ⟨(some 39), none, (.r (.b2s (.t 38))), false, []⟩,
           ⟨(some 40), none, (.e (.mks 9 1 (.str []) 1 [(0, (.t 39))]) none), false, []⟩,
           ⟨(some 41), none, (.e (.append 9 1 (.t 35) (.t 40)) none), false, []⟩,
           ⟨(some 4), none, (.p (.mv (.t 41))), false, []⟩] (some ⟨[4], [], false⟩))
         .skip))
       (.seq
        (.seq
         (.region 0 [⟨(some 42), none, (.p (.mv (.t 4))), false, []⟩,
           ⟨(some 43), none, (.p (.len (.t 42))), false, []⟩,
           ⟨(some 44), none, (.p (.bin .gtr (.t 43) (.c (.int .i64 400)))), false, []⟩] (some ⟨[4, 44], [], false⟩))
         (.cond (.t 44)
          (.seq
           (.region 0 [⟨(some 2), none, (.p (.mv (.c (.sl 0 [] true)))), false, []⟩,
             ⟨(some 3), none, (.p (.mv (.c (.int .i64 3)))), false, []⟩] (some ⟨[2, 3], [], false⟩))
           .ret)
          .skip))
        (.seq
         (.region 0 [⟨(some 45), none, (.p (.mv (.t 4))), false, []⟩,
           ⟨(some 2), none, (.p (.mv (.t 45))), false, []⟩,
           ⟨(some 3), none, (.p (.mv (.c (.int .i64 0)))), false, []⟩] (some ⟨[2, 3], [], false⟩))
         .ret))))))))
theorem Try.run40 {xs : List AV} {r : AV} (hl : xs.length ≤ 46) (h : aw Try.prog Try.c40 (Pv.Ends [2, 3] r) (entry xs)) : Run Try.prog 40 xs r :=
  run_of (fun _ _ => drawOk Try.mixed) Try.func40 rfl rfl rfl (by kernel_rfl) (by kernel_rfl) hl h
/-! 41 paling/palingref10.Texts : params [22, 22], results [4], free 0, zeros [(.slice none 0 0), (.slice none 0 0)] -/
def Try.c41b0 : AC :=
 (.seq
  (.seq
   (.region 0 [⟨(some 11), none, (.p (.mv (.t 5))), false, []⟩,
     ⟨(some 12), none, (.p (.mv (.t 0))), false, []⟩,
     ⟨(some 13), none, (.p (.len (.t 12))), false, []⟩,
     ⟨(some 14), none, (.p (.bin .lss (.t 11) (.t 13))), false, []⟩] (some ⟨[0, 1, 5, 14], [], false⟩))
   (.cond (.t 14)
    .skip
    (.exit 0)))
  (.seq
   (.block 1
    (.seq
     (.region 9 [⟨(some 17), none, (.p (.mv (.t 0))), false, []⟩,
       ⟨(some 18), none, (.p (.mv (.t 5))), false, []⟩,
       ⟨(some 19), none, (.p (.iaddr 1 (.t 17) (.t 18))), false, []⟩,
       ⟨(some 20), none, (.r (.load 1 false (.t 19))), false, []⟩,
       ⟨(some 21), none, (.p (.mv (.t 1))), false, []⟩,
       ⟨(some 22), none, (.p (.mv (.t 5))), false, []⟩,
       ⟨(some 23), none, (.p (.iaddr 1 (.t 21) (.t 22))), false, []⟩,
       ⟨(some 24), none, (.r (.load 1 false (.t 23))), false, []⟩,
       ⟨(some 25), none, (.p (.bin .neq (.t 20) (.t 24))), false, []⟩] (some ⟨[0, 1, 5, 25], [], true⟩))
     (.cond (.t 25)
      (.seq
       (.region 0 [⟨(some 4), none, (.p (.mv (.c (.bool false)))), false, []⟩] (some ⟨[4], [], false⟩))
       .ret)
      .skip)))
   (.region 0 [⟨(some 15), none, (.p (.mv (.t 5))), false, []⟩,
     ⟨(some 16), none, (.p (.bin .add (.t 15) (.c (.int .i64 1)))), false, []⟩,
     ⟨(some 5), none, (.p (.mv (.t 16))), false, []⟩] (some ⟨[0, 1, 5], [], false⟩))))
def Try.c41 : AC :=
 (.seq
  (.region 0 [⟨(some 4), none, (.p (.mv (.c (.bool false)))), false, []⟩] (some ⟨[0, 1], [], false⟩))
  (.seq
   (.seq
    (.region 0 [⟨(some 6), none, (.p (.mv (.t 0))), false, []⟩,
      ⟨(some 7), none, (.p (.len (.t 6))), false, []⟩,
      ⟨(some 8), none, (.p (.mv (.t 1))), false, []⟩,
      ⟨(some 9), none, (.p (.len (.t 8))), false, []⟩,
      ⟨(some 10), none, (.p (.bin .neq (.t 7) (.t 9))), false, []⟩] (some ⟨[0, 1, 10], [], false⟩))
    (.cond (.t 10)
     (.seq
      (.region 0 [⟨(some 4), none, (.p (.mv (.c (.bool false)))), false, []⟩] (some ⟨[4], [], false⟩))
      .ret)
     .skip))
   (.seq
    (.seq
     (.region 0 [⟨(some 5), none, (.p (.mv (.c (.int .i64 0)))), false, []⟩] (some ⟨[0, 1, 5], [], false⟩))
     (.block 0
      (.loop (some ⟨[0, 1, 5], [], true⟩) Try.c41b0)))
    (.seq
     (.region 0 [⟨(some 4), none, (.p (.mv (.c (.bool true)))), false, []⟩] (some ⟨[4], [], false⟩))
     .ret))))
theorem Try.run41 {xs : List AV} {r : AV} (hl : xs.length ≤ 26) (h : aw Try.prog Try.c41 (Pv.Ends [4] r) (entry xs)) : Run Try.prog 41 xs r :=
  run_of (fun _ _ => drawOk Try.mixed) Try.func41 rfl rfl rfl (by kernel_rfl) (by kernel_rfl) hl h
/-! 42 paling/line.Words : params [9], results [22, 26], free 0, zeros [(.string ⟨#[]⟩)] -/
def Try.c42b0 : AC :=
 (.seq
  (.region 0 [⟨(some 12), none, (.p (.bin .lss (.t 11) (.t 10))), false, []⟩] (some ⟨[4, 9, 10, 11, 12], [], false⟩))
  (.seq
   (.cond (.t 12)
    .skip
    (.exit 0))
   (.seq
    (.block 1
     (.seq
      (.region 0 [⟨(some 13), none, (.p (.iaddr 1 (.t 9) (.t 11))), false, []⟩,
        ⟨(some 14), none, (.r (.load 1 false (.t 13))), false, []⟩,
        ⟨(some 6), none, (.p (.mv (.t 14))), false, []⟩] (some ⟨[4, 6, 9, 10, 11], [], false⟩))
      (.seq
       (.region 0 [⟨(some 15), none, (.p (.mv (.t 6))), false, []⟩,
         ⟨(some 16), none, (.call 46 [(.t 15)] false), false, []⟩,
         ⟨(some 17), none, (.p (.un .not (.t 16))), false, []⟩] (some ⟨[4, 9, 10, 11, 17], [], false⟩))
       (.cond (.t 17)
        (.seq
         (.region 0 [⟨(some 2), none, (.p (.mv (.c (.sl 0 [] true)))), false, []⟩,
           ⟨(some 3), none, (.p (.mv (.c (.int .i64 20)))), false, []⟩] (some ⟨[2, 3], [], false⟩))
         .ret)
        .skip))))
    (.region 0 [⟨(some 18), none, (.p (.bin .add (.t 11) (.c (.int .i64 1)))), false, []⟩,
      ⟨(some 11), none, (.p (.mv (.t 18))), false, []⟩] (some ⟨[4, 9, 10, 11], [], false⟩)))))
def Try.c42 : AC :=
 (.seq
  (.region 0 [⟨(some 2), none, (.p (.mv (.c (.sl 0 [] true)))), false, []⟩,
    ⟨(some 3), none, (.p (.mv (.c (.int .i64 0)))), false, []⟩] (some ⟨[0], [], false⟩))
  (.seq
   (.region 0 [⟨(some 7), none, (.p (.mv (.t 0))), false, []⟩,
     ⟨(some 8), none, (.call 61 [(.t 7)] false), false, []⟩,
     ⟨(some 4), none, (.p (.mv (.t 8))), false, []⟩] (some ⟨[4], [], false⟩))
   (.seq
    (.seq
     (.region 0 [⟨(some 9), none, (.p (.mv (.t 4))), false, []⟩,
       ⟨(some 10), none, (.p (.len (.t 9))), false, []⟩,
       ⟨(some 11), none, (.p (.mv (.c (.int .i64 0)))), false, []⟩] (some ⟨[4, 9, 10, 11], [], false⟩))
     (.block 0
      (.loop (some ⟨[4, 9, 10, 11], [], true⟩) Try.c42b0)))
    (.seq
     (.region 0 [⟨(some 19), none, (.p (.mv (.t 4))), false, []⟩,
       ⟨(some 2), none, (.p (.mv (.t 19))), false, []⟩,
       ⟨(some 3), none, (.p (.mv (.c (.int .i64 0)))), false, []⟩] (some ⟨[2, 3], [], false⟩))
     .ret))))
theorem Try.run42 {xs : List AV} {r : AV} (hl : xs.length ≤ 20) (h : aw Try.prog Try.c42 (Pv.Ends [2, 3] r) (entry xs)) : Run Try.prog 42 xs r :=
  run_of (fun _ _ => drawOk Try.mixed) Try.func42 rfl rfl rfl (by kernel_rfl) (by kernel_rfl) hl h
/-! 43 paling/palingref10.Words : params [9], results [22, 3], free 0, zeros [(.string ⟨#[]⟩)] -/
def Try.c43b0 : AC :=
 (.seq
  (.seq
   (.region 0 [⟨(some 8), none, (.p (.mv (.t 6))), false, []⟩,
     ⟨(some 9), none, (.p (.mv (.t 0))), false, []⟩,
     ⟨(some 10), none, (.p (.lenS (.t 9))), false, []⟩,
     ⟨(some 11), none, (.p (.bin .leq (.t 8) (.t 10))), false, []⟩] (some ⟨[0, 4, 5, 6, 11], [], false⟩))
   (.cond (.t 11)
    .skip
    (.exit 0)))
  (.seq
   (.block 1
    (.seq
     (.seq
      (.region 0 [⟨(some 14), none, (.p (.mv (.t 6))), false, []⟩,
        ⟨(some 15), none, (.p (.mv (.t 0))), false, []⟩,
        ⟨(some 16), none, (.p (.lenS (.t 15))), false, []⟩,
        ⟨(some 17), none, (.p (.bin .lss (.t 14) (.t 16))), false, []⟩,
        ⟨(some 18), none, (.p (.mv (.t 17))), false, []⟩,
        ⟨(some 19), (some (18, true)), (.p (.mv (.t 0))), false, []⟩,
        ⟨(some 20), (some (18, true)), (.p (.mv (.t 6))), false, []⟩,
        ⟨(some 21), (some (18, true)), (.p (.idxs (.t 19) (.t 20))), false, []⟩,
        ⟨(some 22), (some (18, true)), (.p (.bin .eql (.t 21) (.c (.int .u8 35)))), false, []⟩,
        ⟨(some 23), none, (.p (.pick (.t 18) (.t 22) (.c (.bool false)))), false, []⟩] (some ⟨[0, 4, 5, 6, 23], [], false⟩))
      (.cond (.t 23)
       (.region 0 [⟨(some 24), none, (.p (.mv (.t 0))), false, []⟩,
         ⟨(some 25), none, (.p (.mv (.t 6))), false, []⟩,
         ⟨(some 26), none, (.p (.slices (.t 24) none (some (.t 25)))), false, []⟩,
         ⟨(some 0), none, (.p (.mv (.t 26))), false, []⟩] (some ⟨[0, 4, 5, 6], [], false⟩))
       .skip))
     (.seq
      (.seq
       (.region 0 [⟨(some 27), none, (.p (.mv (.t 6))), false, []⟩,
         ⟨(some 28), none, (.p (.mv (.t 0))), false, []⟩,
         ⟨(some 29), none, (.p (.lenS (.t 28))), false, []⟩,
         ⟨(some 30), none, (.p (.bin .lss (.t 27) (.t 29))), false, []⟩,
         ⟨(some 31), none, (.p (.mv (.t 30))), false, []⟩,
         ⟨(some 32), (some (31, true)), (.p (.mv (.t 0))), false, []⟩,
         ⟨(some 33), (some (31, true)), (.p (.mv (.t 6))), false, []⟩,
         ⟨(some 34), (some (31, true)), (.p (.idxs (.t 32) (.t 33))), false, []⟩,
         ⟨(some 35), (some (31, true)), (.p (.bin .neq (.t 34) (.c (.int .u8 32)))), false, []⟩,
         ⟨(some 36), none, (.p (.pick (.t 31) (.t 35) (.c (.bool false)))), false, []⟩,
         ⟨(some 37), none, (.p (.mv (.t 36))), false, []⟩,
         ⟨(some 38), (some (37, true)), (.p (.mv (.t 0))), false, []⟩,
         ⟨(some 39), (some (37, true)), (.p (.mv (.t 6))), false, []⟩,
         ⟨(some 40), (some (37, true)), (.p (.idxs (.t 38) (.t 39))), false, []⟩,
         ⟨(some 41), (some (37, true)), (.p (.bin .neq (.t 40) (.c (.int .u8 9)))), false, []⟩,
         ⟨(some 42), none, (.p (.pick (.t 37) (.t 41) (.c (.bool false)))), false, []⟩] (some ⟨[0, 4, 5, 6, 42], [], false⟩))
       (.cond (.t 42)
        (.seq
         (.region 0 [⟨(some 43), none, (.p (.mv (.t 5))), false, []⟩,
           ⟨(some 44), none, (.p (.mv (.t 0))), false, []⟩,
           ⟨(some 45), none, (.p (.mv (.t 6))), false, []⟩,
           ⟨(some 46), none, (.p (.mv (.t 6))), false, []⟩,
           ⟨(some 47), none, (.p (.bin .add (.t 46) (.c (.int .i64 1)))), false, []⟩,
           ⟨(some 48), none, (.p (.slices (.t 44) (some (.t 45)) (some (.t 47)))), false, []⟩,
           ⟨(some 49), none, (.p (.bin .add (.t 43) (.t 48))), false, []⟩,
           ⟨(some 5), none, (.p (.mv (.t 49))), false, []⟩] (some ⟨[0, 4, 5, 6], [], false⟩))
         (.exit 1))
        .skip))
      (.seq
       (.seq
        (.region 0 [⟨(some 50), none, (.p (.mv (.t 5))), false, []⟩,
          ⟨(some 51), none, (.p (.bin .neq (.t 50) (.c (.str [])))), false, []⟩] (some ⟨[0, 4, 5, 6, 51], [], false⟩))
        (.cond (.t 51)
         (.region 0 [⟨(some 52), none, (.p (.mv (.t 4))), false, []⟩,
           ⟨(some 53), none, (.p (.mv (.t 5))), false, []⟩,
           ⟨(some 54), none, (.e (.mks 9 1 (.str []) 1 [(0, (.t 53))]) none), false, []⟩,
           ⟨(some 55), none, (.e (.append 9 1 (.t 52) (.t 54)) none), false, []⟩,
           ⟨(some 4), none, (.p (.mv (.t 55))), false, []⟩] (some ⟨[0, 4, 6], [], false⟩))
         .skip))
       (.region 0 [⟨(some 5), none, (.p (.mv (.c (.str [])))), false, []⟩] (some ⟨[0, 4, 5, 6], [], false⟩))))))
   (.region 0 [⟨(some 12), none, (.p (.mv (.t 6))), false, []⟩,
     ⟨(some 13), none, (.p (.bin .add (.t 12) (.c (.int .i64 1)))), false, []⟩,
     ⟨(some 6), none, (.p (.mv (.t 13))), false, []⟩] (some ⟨[0, 4, 5, 6], [], false⟩))))
def Try.c43b1 : AC :=
 (.seq
  (.seq
   (.region 0 [⟨(some 56), none, (.p (.mv (.t 7))), false, []⟩,
     ⟨(some 57), none, (.p (.mv (.t 4))), false, []⟩,
     ⟨(some 58), none, (.p (.len (.t 57))), false, []⟩,
     ⟨(some 59), none, (.p (.bin .lss (.t 56) (.t 58))), false, []⟩] (some ⟨[4, 7, 59], [], false⟩))
   (.cond (.t 59)
    .skip
    (.exit 2)))
  (.seq
   (.block 3
    (.seq
     (.region 0 [⟨(some 62), none, (.p (.mv (.t 4))), false, []⟩,
       ⟨(some 63), none, (.p (.mv (.t 7))), false, []⟩,
       ⟨(some 64), none, (.p (.iaddr 1 (.t 62) (.t 63))), false, []⟩,
       ⟨(some 65), none, (.r (.load 1 false (.t 64))), false, []⟩,
       ⟨(some 66), none, (.call 47 [(.t 65)] false), false, []⟩,
       ⟨(some 67), none, (.p (.un .not (.t 66))), false, []⟩] (some ⟨[4, 7, 67], [], false⟩))
     (.cond (.t 67)
      (.seq
       (.region 0 [⟨(some 2), none, (.p (.mv (.c (.sl 0 [] true)))), false, []⟩,
         ⟨(some 3), none, (.p (.mv (.c (.int .i64 20)))), false, []⟩] (some ⟨[2, 3], [], false⟩))
       .ret)
      .skip)))
   (.region 0 [⟨(some 60), none, (.p (.mv (.t 7))), false, []⟩,
     ⟨(some 61), none, (.p (.bin .add (.t 60) (.c (.int .i64 1)))), false, []⟩,
     ⟨(some 7), none, (.p (.mv (.t 61))), false, []⟩] (some ⟨[4, 7], [], false⟩))))
def Try.c43 : AC :=
 (.seq
  (.region 0 [⟨(some 2), none, (.p (.mv (.c (.sl 0 [] true)))), false, []⟩,
    ⟨(some 3), none, (.p (.mv (.c (.int .i64 0)))), false, []⟩] (some ⟨[0], [], false⟩))
  (.seq
   (.region 0 [⟨(some 4), none, (.p (.mv (.c (.sl 0 [] true)))), false, []⟩] (some ⟨[0, 4], [], false⟩))
   (.seq
    (.region 0 [⟨(some 5), none, (.p (.mv (.c (.str [])))), false, []⟩] (some ⟨[0, 4, 5], [], false⟩))
    (.seq
     (.seq
      (.region 0 [⟨(some 6), none, (.p (.mv (.c (.int .i64 0)))), false, []⟩] (some ⟨[0, 4, 5, 6], [], false⟩))
      (.block 0
       (.loop (some ⟨[0, 4, 5, 6], [(4, (1, 9))], true⟩) Try.c43b0)))
     (.seq
      (.seq
       (.region 0 [⟨(some 7), none, (.p (.mv (.c (.int .i64 0)))), false, []⟩] (some ⟨[4, 7], [], false⟩))
       (.block 2
        (.loop (some ⟨[4, 7], [], true⟩) Try.c43b1)))
      (.seq
       (.region 0 [⟨(some 68), none, (.p (.mv (.t 4))), false, []⟩,
         ⟨(some 2), none, (.p (.mv (.t 68))), false, []⟩,
         ⟨(some 3), none, (.p (.mv (.c (.int .i64 0)))), false, []⟩] (some ⟨[2, 3], [], false⟩))
       .ret))))))
theorem Try.run43 {xs : List AV} {r : AV} (hl : xs.length ≤ 69) (h : aw Try.prog Try.c43 (Pv.Ends [2, 3] r) (entry xs)) : Run Try.prog 43 xs r :=
  run_of (fun _ _ => drawOk Try.mixed) Try.func43 rfl rfl rfl (by kernel_rfl) (by kernel_rfl) hl h
/-! 44 paling/line.Join : params [22], results [9], free 0, zeros [(.slice none 0 0)] -/
def Try.c44 : AC :=
 (.seq
  (.region 0 [⟨(some 2), none, (.p (.mv (.c (.str [])))), false, []⟩] (some ⟨[0], [], false⟩))
  (.seq
   (.region 0 [⟨(some 3), none, (.p (.mv (.t 0))), false, []⟩,
     ⟨(some 4), none, (.call 62 [(.t 3), (.c (.str [32]))] false), false, []⟩,
     ⟨(some 2), none, (.p (.mv (.t 4))), false, []⟩] (some ⟨[2], [], false⟩))
   .ret))
theorem Try.run44 {xs : List AV} {r : AV} (hl : xs.length ≤ 5) (h : aw Try.prog Try.c44 (Pv.Ends [2] r) (entry xs)) : Run Try.prog 44 xs r :=
  run_of (fun _ _ => drawOk Try.mixed) Try.func44 rfl rfl rfl (by kernel_rfl) (by kernel_rfl) hl h
/-! 45 paling/palingref10.Join : params [22], results [9], free 0, zeros [(.slice none 0 0)] -/
def Try.c45b0 : AC :=
 (.seq
  (.seq
   (.region 0 [⟨(some 5), none, (.p (.mv (.t 4))), false, []⟩,
     ⟨(some 6), none, (.p (.mv (.t 0))), false, []⟩,
     ⟨(some 7), none, (.p (.len (.t 6))), false, []⟩,
     ⟨(some 8), none, (.p (.bin .lss (.t 5) (.t 7))), false, []⟩] (some ⟨[0, 3, 4, 8], [], false⟩))
   (.cond (.t 8)
    .skip
    (.exit 0)))
  (.seq
   (.block 1
    (.seq
     (.seq
      (.region 0 [⟨(some 11), none, (.p (.mv (.t 4))), false, []⟩,
        ⟨(some 12), none, (.p (.bin .gtr (.t 11) (.c (.int .i64 0)))), false, []⟩] (some ⟨[0, 3, 4, 12], [], false⟩))
      (.cond (.t 12)
       (.region 0 [⟨(some 13), none, (.p (.mv (.t 3))), false, []⟩,
         ⟨(some 14), none, (.p (.bin .add (.t 13) (.c (.str [32])))), false, []⟩,
         ⟨(some 3), none, (.p (.mv (.t 14))), false, []⟩] (some ⟨[0, 3, 4], [], false⟩))
       .skip))
     (.region 0 [⟨(some 15), none, (.p (.mv (.t 3))), false, []⟩,
       ⟨(some 16), none, (.p (.mv (.t 0))), false, []⟩,
       ⟨(some 17), none, (.p (.mv (.t 4))), false, []⟩,
       ⟨(some 18), none, (.p (.iaddr 1 (.t 16) (.t 17))), false, []⟩,
       ⟨(some 19), none, (.r (.load 1 false (.t 18))), false, []⟩,
       ⟨(some 20), none, (.p (.bin .add (.t 15) (.t 19))), false, []⟩,
       ⟨(some 3), none, (.p (.mv (.t 20))), false, []⟩] (some ⟨[0, 3, 4], [], false⟩))))
   (.region 0 [⟨(some 9), none, (.p (.mv (.t 4))), false, []⟩,
     ⟨(some 10), none, (.p (.bin .add (.t 9) (.c (.int .i64 1)))), false, []⟩,
     ⟨(some 4), none, (.p (.mv (.t 10))), false, []⟩] (some ⟨[0, 3, 4], [], false⟩))))
def Try.c45 : AC :=
 (.seq
  (.region 0 [⟨(some 2), none, (.p (.mv (.c (.str [])))), false, []⟩] (some ⟨[0], [], false⟩))
  (.seq
   (.region 0 [⟨(some 3), none, (.p (.mv (.c (.str [])))), false, []⟩] (some ⟨[0, 3], [], false⟩))
   (.seq
    (.seq
     (.region 0 [⟨(some 4), none, (.p (.mv (.c (.int .i64 0)))), false, []⟩] (some ⟨[0, 3, 4], [], false⟩))
     (.block 0
      (.loop (some ⟨[0, 3, 4], [], true⟩) Try.c45b0)))
    (.seq
     (.region 0 [⟨(some 21), none, (.p (.mv (.t 3))), false, []⟩,
       ⟨(some 2), none, (.p (.mv (.t 21))), false, []⟩] (some ⟨[2], [], false⟩))
     .ret))))
theorem Try.run45 {xs : List AV} {r : AV} (hl : xs.length ≤ 22) (h : aw Try.prog Try.c45 (Pv.Ends [2] r) (entry xs)) : Run Try.prog 45 xs r :=
  run_of (fun _ _ => drawOk Try.mixed) Try.func45 rfl rfl rfl (by kernel_rfl) (by kernel_rfl) hl h
/-! 46 paling/line.Word : params [9], results [4], free 0, zeros [(.string ⟨#[]⟩)] -/
def Try.c46b0 : AC :=
 (.seq
  (.region 0 [⟨(some 7), none, (.p (.bin .lss (.t 6) (.t 5))), false, []⟩] (some ⟨[0, 5, 6, 7], [], false⟩))
  (.seq
   (.cond (.t 7)
    .skip
    (.exit 0))
   (.seq
    (.block 1
     (.seq
      (.region 0 [⟨(some 8), none, (.p (.mv (.t 6))), false, []⟩,
        ⟨(some 3), none, (.p (.mv (.t 8))), false, []⟩] (some ⟨[0, 3, 5, 6], [], false⟩))
      (.seq
       (.region 0 [⟨(some 9), none, (.p (.mv (.t 0))), false, []⟩,
         ⟨(some 10), none, (.p (.mv (.t 3))), false, []⟩,
         ⟨(some 11), none, (.p (.idxs (.t 9) (.t 10))), false, []⟩,
         ⟨(some 12), none, (.p (.bin .leq (.t 11) (.c (.int .u8 32)))), false, []⟩,
         ⟨(some 13), none, (.p (.mv (.t 12))), false, []⟩,
         ⟨(some 14), (some (13, false)), (.p (.mv (.t 0))), false, []⟩,
         ⟨(some 15), (some (13, false)), (.p (.mv (.t 3))), false, []⟩,
         ⟨(some 16), (some (13, false)), (.p (.idxs (.t 14) (.t 15))), false, []⟩,
         ⟨(some 17), (some (13, false)), (.p (.bin .gtr (.t 16) (.c (.int .u8 126)))), false, []⟩,
         ⟨(some 18), none, (.p (.pick (.t 13) (.c (.bool true)) (.t 17))), false, []⟩,
         ⟨(some 19), none, (.p (.mv (.t 18))), false, []⟩,
         ⟨(some 20), (some (19, false)), (.p (.mv (.t 0))), false, []⟩,
         ⟨(some 21), (some (19, false)), (.p (.mv (.t 3))), false, []⟩,
         ⟨(some 22), (some (19, false)), (.p (.idxs (.t 20) (.t 21))), false, []⟩,
         ⟨(some 23), (some (19, false)), (.p (.bin .eql (.t 22) (.c (.int .u8 35)))), false, []⟩,
         ⟨(some 24), none, (.p (.pick (.t 19) (.c (.bool true)) (.t 23))), false, []⟩] (some ⟨[0, 5, 6, 24], [], false⟩))
       (.cond (.t 24)
        (.seq
         (.region 0 [⟨(some 2), none, (.p (.mv (.c (.bool false)))), false, []⟩] (some ⟨[2], [], false⟩))
         .ret)
        .skip))))
    (.region 0 [⟨(some 25), none, (.p (.bin .add (.t 6) (.c (.int .i64 1)))), false, []⟩,
      ⟨(some 6), none, (.p (.mv (.t 25))), false, []⟩] (some ⟨[0, 5, 6], [], false⟩)))))
def Try.c46 : AC :=
 (.seq
  (.region 0 [⟨(some 2), none, (.p (.mv (.c (.bool false)))), false, []⟩] (some ⟨[0], [], false⟩))
  (.seq
   (.seq
    (.region 0 [⟨(some 4), none, (.p (.mv (.t 0))), false, []⟩,
      ⟨(some 5), none, (.p (.lenS (.t 4))), false, []⟩,
      ⟨(some 6), none, (.p (.mv (.c (.int .i64 0)))), false, []⟩] (some ⟨[0, 5, 6], [], false⟩))
    (.block 0
     (.loop (some ⟨[0, 5, 6], [], true⟩) Try.c46b0)))
   (.seq
    (.region 0 [⟨(some 26), none, (.p (.mv (.t 0))), false, []⟩,
      ⟨(some 27), none, (.p (.bin .neq (.t 26) (.c (.str [])))), false, []⟩,
      ⟨(some 28), none, (.p (.mv (.t 27))), false, []⟩,
      ⟨(some 29), (some (28, true)), (.p (.mv (.t 0))), false, []⟩,
      ⟨(some 30), (some (28, true)), (.p (.lenS (.t 29))), false, []⟩,
      ⟨(some 31), (some (28, true)), (.p (.bin .leq (.t 30) (.c (.int .i64 40)))), false, []⟩,
      ⟨(some 32), none, (.p (.pick (.t 28) (.t 31) (.c (.bool false)))), false, []⟩,
      ⟨(some 2), none, (.p (.mv (.t 32))), false, []⟩] (some ⟨[2], [], false⟩))
    .ret)))
theorem Try.run46 {xs : List AV} {r : AV} (hl : xs.length ≤ 33) (h : aw Try.prog Try.c46 (Pv.Ends [2] r) (entry xs)) : Run Try.prog 46 xs r :=
  run_of (fun _ _ => drawOk Try.mixed) Try.func46 rfl rfl rfl (by kernel_rfl) (by kernel_rfl) hl h
/-! 47 paling/palingref10.Word : params [9], results [4], free 0, zeros [(.string ⟨#[]⟩)] -/
def Try.c47b0 : AC :=
 (.seq
  (.seq
   (.region 0 [⟨(some 12), none, (.p (.mv (.t 3))), false, []⟩,
     ⟨(some 13), none, (.p (.mv (.t 0))), false, []⟩,
     ⟨(some 14), none, (.p (.lenS (.t 13))), false, []⟩,
     ⟨(some 15), none, (.p (.bin .lss (.t 12) (.t 14))), false, []⟩] (some ⟨[0, 3, 15], [], false⟩))
   (.cond (.t 15)
    .skip
    (.exit 0)))
  (.seq
   (.block 1
    (.seq
     (.region 0 [⟨(some 18), none, (.p (.mv (.t 0))), false, []⟩,
       ⟨(some 19), none, (.p (.mv (.t 3))), false, []⟩,
       ⟨(some 20), none, (.p (.idxs (.t 18) (.t 19))), false, []⟩,
       ⟨(some 21), none, (.p (.bin .lss (.t 20) (.c (.int .u8 33)))), false, []⟩,
       ⟨(some 22), none, (.p (.mv (.t 21))), false, []⟩,
       ⟨(some 23), (some (22, false)), (.p (.mv (.t 0))), false, []⟩,
       ⟨(some 24), (some (22, false)), (.p (.mv (.t 3))), false, []⟩,
       ⟨(some 25), (some (22, false)), (.p (.idxs (.t 23) (.t 24))), false, []⟩,
       ⟨(some 26), (some (22, false)), (.p (.bin .gtr (.t 25) (.c (.int .u8 126)))), false, []⟩,
       ⟨(some 27), none, (.p (.pick (.t 22) (.c (.bool true)) (.t 26))), false, []⟩,
       ⟨(some 28), none, (.p (.mv (.t 27))), false, []⟩,
       ⟨(some 29), (some (28, false)), (.p (.mv (.t 0))), false, []⟩,
       ⟨(some 30), (some (28, false)), (.p (.mv (.t 3))), false, []⟩,
       ⟨(some 31), (some (28, false)), (.p (.idxs (.t 29) (.t 30))), false, []⟩,
       ⟨(some 32), (some (28, false)), (.p (.bin .eql (.t 31) (.c (.int .u8 35)))), false, []⟩,
       ⟨(some 33), none, (.p (.pick (.t 28) (.c (.bool true)) (.t 32))), false, []⟩] (some ⟨[0, 3, 33], [], false⟩))
     (.cond (.t 33)
      (.seq
       (.region 0 [⟨(some 2), none, (.p (.mv (.c (.bool false)))), false, []⟩] (some ⟨[2], [], false⟩))
       .ret)
      .skip)))
   (.region 0 [⟨(some 16), none, (.p (.mv (.t 3))), false, []⟩,
     ⟨(some 17), none, (.p (.bin .add (.t 16) (.c (.int .i64 1)))), false, []⟩,
     ⟨(some 3), none, (.p (.mv (.t 17))), false, []⟩] (some ⟨[0, 3], [], false⟩))))
def Try.c47 : AC :=
 (.seq
  (.region 0 [⟨(some 2), none, (.p (.mv (.c (.bool false)))), false, []⟩] (some ⟨[0], [], false⟩))
  (.seq
   (.seq
    (.region 0 [⟨(some 4), none, (.p (.mv (.t 0))), false, []⟩,
      ⟨(some 5), none, (.p (.lenS (.t 4))), false, []⟩,
      ⟨(some 6), none, (.p (.bin .lss (.t 5) (.c (.int .i64 1)))), false, []⟩,
      ⟨(some 7), none, (.p (.mv (.t 6))), false, []⟩,
      ⟨(some 8), (some (7, false)), (.p (.mv (.t 0))), false, []⟩,
      ⟨(some 9), (some (7, false)), (.p (.lenS (.t 8))), false, []⟩,
      ⟨(some 10), (some (7, false)), (.p (.bin .gtr (.t 9) (.c (.int .i64 40)))), false, []⟩,
      ⟨(some 11), none, (.p (.pick (.t 7) (.c (.bool true)) (.t 10))), false, []⟩] (some ⟨[0, 11], [], false⟩))
    (.cond (.t 11)
     (.seq
      (.region 0 [⟨(some 2), none, (.p (.mv (.c (.bool false)))), false, []⟩] (some ⟨[2], [], false⟩))
      .ret)
     .skip))
   (.seq
    (.seq
     (.region 0 [⟨(some 3), none, (.p (.mv (.c (.int .i64 0)))), false, []⟩] (some ⟨[0, 3], [], false⟩))
     (.block 0
      (.loop (some ⟨[0, 3], [], true⟩) Try.c47b0)))
    (.seq
     (.region 0 [⟨(some 2), none, (.p (.mv (.c (.bool true)))), false, []⟩] (some ⟨[2], [], false⟩))
     .ret))))
theorem Try.run47 {xs : List AV} {r : AV} (hl : xs.length ≤ 34) (h : aw Try.prog Try.c47 (Pv.Ends [2] r) (entry xs)) : Run Try.prog 47 xs r :=
  run_of (fun _ _ => drawOk Try.mixed) Try.func47 rfl rfl rfl (by kernel_rfl) (by kernel_rfl) hl h
/-! 48 paling/diff.reckon : params [22, 22], results [82], free 0, zeros [(.slice none 0 0), (.slice none 0 0)] -/
def Try.c48b0 : AC :=
 (.seq
  (.region 0 [⟨(some 20), none, (.p (.bin .lss (.t 19) (.c (.int .i64 2)))), false, []⟩] (some ⟨[0, 1, 5, 6, 19, 20], [], false⟩))
  (.seq
   (.cond (.t 20)
    .skip
    (.exit 0))
   (.seq
    (.block 1
     (.seq
      (.region 0 [⟨(some 21), none, (.p (.mv (.t 19))), false, []⟩,
        ⟨(some 7), none, (.p (.mv (.t 21))), false, []⟩] (some ⟨[0, 1, 5, 6, 7, 19], [], false⟩))
      (.region 0 [⟨(some 22), none, (.p (.mv (.t 7))), false, []⟩,
        ⟨(some 23), none, (.p (.mv (.t 1))), false, []⟩,
        ⟨(some 24), none, (.p (.len (.t 23))), false, []⟩,
        ⟨(some 25), none, (.p (.bin .add (.t 24) (.c (.int .i64 1)))), false, []⟩,
        ⟨(some 26), none, (.e (.make 3 1 (.int .i64 0) (.t 25) (.t 25)) none), false, []⟩,
        ⟨(some 27), none, (.p (.aaddr 2 1 (.t 6) (.t 22))), false, []⟩,
        ⟨none, none, (.e (.store 1 (.t 27) (.t 26)) none), false, []⟩] (some ⟨[0, 1, 5, 6, 19], [], false⟩))))
    (.region 0 [⟨(some 28), none, (.p (.bin .add (.t 19) (.c (.int .i64 1)))), false, []⟩,
      ⟨(some 19), none, (.p (.mv (.t 28))), false, []⟩] (some ⟨[0, 1, 5, 6, 19], [], false⟩)))))
def Try.c48b1 : AC :=
 (.seq
  (.seq
   (.region 0 [⟨(some 61), none, (.p (.mv (.t 11))), false, []⟩,
     ⟨(some 62), none, (.p (.bin .geq (.t 61) (.c (.int .i64 0)))), false, []⟩] (some ⟨[0, 1, 5, 6, 8, 9, 10, 11, 62], [], false⟩))
   (.cond (.t 62)
    .skip
    (.exit 4)))
  (.seq
   (.block 5
    (.seq
     (.region 20 [⟨(some 65), none, (.p (.mv (.t 5))), false, []⟩,
       ⟨(some 66), none, (.p (.nilck (.t 65))), false, []⟩,
       ⟨(some 67), none, (.p (.faddr 2 (.t 66))), false, []⟩,
       ⟨(some 68), none, (.r (.load 1 false (.t 67))), false, []⟩,
       ⟨(some 69), none, (.p (.mv (.t 8))), false, []⟩,
       ⟨(some 70), none, (.p (.iaddr 1 (.t 68) (.t 69))), false, []⟩,
       ⟨(some 71), none, (.r (.load 1 false (.t 70))), false, []⟩,
       ⟨(some 72), none, (.p (.mv (.t 11))), false, []⟩,
       ⟨(some 73), none, (.p (.mv (.t 10))), false, []⟩,
       ⟨(some 74), none, (.p (.mv (.t 11))), false, []⟩,
       ⟨(some 75), none, (.p (.iaddr 1 (.t 73) (.t 74))), false, []⟩,
       ⟨(some 76), none, (.r (.load 1 false (.t 75))), false, []⟩,
       ⟨(some 77), none, (.p (.mv (.t 9))), false, []⟩,
       ⟨(some 78), none, (.p (.mv (.t 11))), false, []⟩,
       ⟨(some 79), none, (.p (.bin .add (.t 78) (.c (.int .i64 1)))), false, []⟩,
       ⟨(some 80), none, (.p (.iaddr 1 (.t 77) (.t 79))), false, []⟩,
       ⟨(some 81), none, (.r (.load 1 false (.t 80))), false, []⟩,
       ⟨(some 82), none, (.p (.bin .geq (.t 76) (.t 81))), false, []⟩,
       ⟨(some 83), none, (.p (.iaddr 1 (.t 71) (.t 72))), false, []⟩,
       ⟨none, none, (.e (.store 1 (.t 83) (.t 82)) (some 19)), false, []⟩] (some ⟨[0, 1, 5, 6, 8, 9, 10, 11], [], true⟩))
     (.seq
      (.region 14 [⟨(some 84), none, (.p (.mv (.t 9))), false, []⟩,
        ⟨(some 85), none, (.p (.mv (.t 11))), false, []⟩,
        ⟨(some 86), none, (.p (.mv (.t 10))), false, []⟩,
        ⟨(some 87), none, (.p (.mv (.t 11))), false, []⟩,
        ⟨(some 88), none, (.p (.iaddr 1 (.t 86) (.t 87))), false, []⟩,
        ⟨(some 89), none, (.r (.load 1 false (.t 88))), false, []⟩,
        ⟨(some 90), none, (.p (.mv (.t 9))), false, []⟩,
        ⟨(some 91), none, (.p (.mv (.t 11))), false, []⟩,
        ⟨(some 92), none, (.p (.bin .add (.t 91) (.c (.int .i64 1)))), false, []⟩,
        ⟨(some 93), none, (.p (.iaddr 1 (.t 90) (.t 92))), false, []⟩,
        ⟨(some 94), none, (.r (.load 1 false (.t 93))), false, []⟩,
        ⟨(some 95), none, (.p (.minmax true (.t 89) (.t 94))), false, []⟩,
        ⟨(some 96), none, (.p (.iaddr 1 (.t 84) (.t 85))), false, []⟩,
        ⟨none, none, (.e (.store 1 (.t 96) (.t 95)) (some 13)), false, []⟩] (some ⟨[0, 1, 5, 6, 8, 9, 10, 11], [], true⟩))
      (.seq
       (.region 9 [⟨(some 97), none, (.p (.mv (.t 0))), false, []⟩,
         ⟨(some 98), none, (.p (.mv (.t 8))), false, []⟩,
         ⟨(some 99), none, (.p (.iaddr 1 (.t 97) (.t 98))), false, []⟩,
         ⟨(some 100), none, (.r (.load 1 false (.t 99))), false, []⟩,
         ⟨(some 101), none, (.p (.mv (.t 1))), false, []⟩,
         ⟨(some 102), none, (.p (.mv (.t 11))), false, []⟩,
         ⟨(some 103), none, (.p (.iaddr 1 (.t 101) (.t 102))), false, []⟩,
         ⟨(some 104), none, (.r (.load 1 false (.t 103))), false, []⟩,
         ⟨(some 105), none, (.p (.bin .eql (.t 100) (.t 104))), false, []⟩] (some ⟨[0, 1, 5, 6, 8, 9, 10, 11, 105], [], true⟩))
       (.cond (.t 105)
        (.region 0 [⟨(some 106), none, (.p (.mv (.t 9))), false, []⟩,
          ⟨(some 107), none, (.p (.mv (.t 11))), false, []⟩,
          ⟨(some 108), none, (.p (.mv (.t 10))), false, []⟩,
          ⟨(some 109), none, (.p (.mv (.t 11))), false, []⟩,
          ⟨(some 110), none, (.p (.bin .add (.t 109) (.c (.int .i64 1)))), false, []⟩,
          ⟨(some 111), none, (.p (.iaddr 1 (.t 108) (.t 110))), false, []⟩,
          ⟨(some 112), none, (.r (.load 1 false (.t 111))), false, []⟩,
          ⟨(some 113), none, (.p (.bin .add (.t 112) (.c (.int .i64 1)))), false, []⟩,
          ⟨(some 114), none, (.p (.iaddr 1 (.t 106) (.t 107))), false, []⟩,
          ⟨none, none, (.e (.store 1 (.t 114) (.t 113)) none), false, []⟩] (some ⟨[0, 1, 5, 6, 8, 9, 10, 11], [], false⟩))
        .skip)))))
   (.region 0 [⟨(some 63), none, (.p (.mv (.t 11))), false, []⟩,
     ⟨(some 64), none, (.p (.bin .sub (.t 63) (.c (.int .i64 1)))), false, []⟩,
     ⟨(some 11), none, (.p (.mv (.t 64))), false, []⟩] (some ⟨[0, 1, 5, 6, 8, 9, 10, 11], [], false⟩))))
def Try.c48b2 : AC :=
 (.seq
  (.seq
   (.region 0 [⟨(some 32), none, (.p (.mv (.t 8))), false, []⟩,
     ⟨(some 33), none, (.p (.bin .geq (.t 32) (.c (.int .i64 0)))), false, []⟩] (some ⟨[0, 1, 5, 6, 8, 33], [], false⟩))
   (.cond (.t 33)
    .skip
    (.exit 2)))
  (.seq
   (.block 3
    (.seq
     (.region 11 [⟨(some 36), none, (.p (.mv (.t 8))), false, []⟩,
       ⟨(some 37), none, (.p (.bin .rem (.t 36) (.c (.int .i64 2)))), false, []⟩,
       ⟨(some 38), none, (.p (.aaddr 2 1 (.t 6) (.t 37))), false, []⟩,
       ⟨(some 39), none, (.r (.load 1 false (.t 38))), false, []⟩,
       ⟨(some 40), none, (.p (.mv (.t 8))), false, []⟩,
       ⟨(some 41), none, (.p (.bin .add (.t 40) (.c (.int .i64 1)))), false, []⟩,
       ⟨(some 42), none, (.p (.bin .rem (.t 41) (.c (.int .i64 2)))), false, []⟩,
       ⟨(some 43), none, (.p (.aaddr 2 1 (.t 6) (.t 42))), false, []⟩,
       ⟨(some 44), none, (.r (.load 1 false (.t 43))), false, []⟩,
       ⟨(some 9), none, (.p (.mv (.t 39))), false, []⟩,
       ⟨(some 10), none, (.p (.mv (.t 44))), false, []⟩] (some ⟨[0, 1, 5, 6, 8, 9, 10], [], true⟩))
     (.seq
      (.region 10 [⟨(some 45), none, (.p (.mv (.t 5))), true, []⟩,
        ⟨(some 46), none, (.p (.nilck (.t 45))), true, []⟩,
        ⟨(some 47), none, (.p (.faddr 2 (.t 46))), true, []⟩,
        ⟨(some 48), none, (.r (.load 1 false (.t 47))), true, []⟩,
        ⟨(some 49), none, (.p (.mv (.t 8))), true, []⟩,
        ⟨(some 50), none, (.p (.mv (.t 1))), true, []⟩,
        ⟨(some 51), none, (.p (.len (.t 50))), true, []⟩,
        ⟨(some 52), none, (.e (.make 4 1 (.bool false) (.t 51) (.t 51)) (some 7)), true, []⟩,
        ⟨(some 53), none, (.p (.iaddr 1 (.t 48) (.t 49))), true, []⟩,
        ⟨none, none, (.e (.store 1 (.t 53) (.t 52)) (some 9)), true, []⟩] (some ⟨[0, 1, 5, 6, 8, 9, 10], [], true⟩))
      (.seq
       (.region 0 [⟨(some 54), none, (.p (.mv (.t 9))), false, []⟩,
         ⟨(some 55), none, (.p (.mv (.t 1))), false, []⟩,
         ⟨(some 56), none, (.p (.len (.t 55))), false, []⟩,
         ⟨(some 57), none, (.p (.iaddr 1 (.t 54) (.t 56))), false, []⟩,
         ⟨none, none, (.e (.store 1 (.t 57) (.c (.int .i64 0))) none), false, []⟩] (some ⟨[0, 1, 5, 6, 8, 9, 10], [], false⟩))
       (.seq
        (.region 0 [⟨(some 58), none, (.p (.mv (.t 1))), false, []⟩,
          ⟨(some 59), none, (.p (.len (.t 58))), false, []⟩,
          ⟨(some 60), none, (.p (.bin .sub (.t 59) (.c (.int .i64 1)))), false, []⟩,
          ⟨(some 11), none, (.p (.mv (.t 60))), false, []⟩] (some ⟨[0, 1, 5, 6, 8, 9, 10, 11], [], false⟩))
        (.block 4
         (.loop (some ⟨[0, 1, 5, 6, 8, 9, 10, 11], [], true⟩) Try.c48b1)))))))
   (.region 0 [⟨(some 34), none, (.p (.mv (.t 8))), false, []⟩,
     ⟨(some 35), none, (.p (.bin .sub (.t 34) (.c (.int .i64 1)))), false, []⟩,
     ⟨(some 8), none, (.p (.mv (.t 35))), false, []⟩] (some ⟨[0, 1, 5, 6, 8], [], false⟩))))
def Try.c48 : AC :=
 (.seq
  (.region 0 [⟨(some 4), none, (.p (.mv (.c (.lit (.pointer none))))), false, []⟩] (some ⟨[0, 1], [], false⟩))
  (.seq
   (.region 0 [⟨(some 12), none, (.p (.mv (.t 0))), false, []⟩,
     ⟨(some 13), none, (.p (.mv (.t 1))), false, []⟩,
     ⟨(some 14), none, (.p (.mv (.t 0))), false, []⟩,
     ⟨(some 15), none, (.p (.len (.t 14))), false, []⟩,
     ⟨(some 16), none, (.e (.make 107 1 (.sl 0 [] true) (.t 15) (.t 15)) none), false, []⟩,
     ⟨(some 17), none, (.p (.build [(.sl 0 [] true), (.sl 0 [] true), (.sl 0 [] true)] [(0, 1, (.t 12)), (1, 1, (.t 13)), (2, 1, (.t 16))])), false, []⟩,
     ⟨(some 18), none, (.e (.box 104 (.t 17)) none), false, []⟩,
     ⟨(some 5), none, (.p (.mv (.t 18))), false, []⟩] (some ⟨[0, 1, 5], [], false⟩))
   (.seq
    (.region 0 [⟨(some 6), none, (.e (.alloc 106 (.agg [(.sl 0 [] true), (.sl 0 [] true)])) none), false, []⟩] (some ⟨[0, 1, 5, 6], [], false⟩))
    (.seq
     (.seq
      (.region 0 [⟨(some 19), none, (.p (.mv (.c (.int .i64 0)))), false, []⟩] (some ⟨[0, 1, 5, 6, 19], [], false⟩))
      (.block 0
       (.loop (some ⟨[0, 1, 5, 6, 19], [], true⟩) Try.c48b0)))
     (.seq
      (.seq
       (.region 0 [⟨(some 29), none, (.p (.mv (.t 0))), false, []⟩,
         ⟨(some 30), none, (.p (.len (.t 29))), false, []⟩,
         ⟨(some 31), none, (.p (.bin .sub (.t 30) (.c (.int .i64 1)))), false, []⟩,
         ⟨(some 8), none, (.p (.mv (.t 31))), false, []⟩] (some ⟨[0, 1, 5, 6, 8], [], false⟩))
       (.block 2
        (.loop (some ⟨[0, 1, 5, 6, 8], [], true⟩) Try.c48b2)))
      (.seq
       (.region 0 [⟨(some 115), none, (.p (.mv (.t 5))), false, []⟩,
         ⟨(some 4), none, (.p (.mv (.t 115))), false, []⟩] (some ⟨[4], [], false⟩))
       .ret))))))
theorem Try.run48 {xs : List AV} {r : AV} (hl : xs.length ≤ 116) (h : aw Try.prog Try.c48 (Pv.Ends [4] r) (entry xs)) : Run Try.prog 48 xs r :=
  run_of (fun _ _ => drawOk Try.mixed) Try.func48 rfl rfl rfl (by kernel_rfl) (by kernel_rfl) hl h
/-! 49 (*paling/diff.common).edits : params [82], results [25], free 0, zeros [(.pointer none)] -/
def Try.c49b0 : AC :=
 (.seq
  (.seq
   (.region 0 [⟨(some 6), none, (.p (.mv (.t 4))), false, []⟩,
     ⟨(some 7), none, (.p (.mv (.t 0))), false, []⟩,
     ⟨(some 8), none, (.p (.nilck (.t 7))), false, []⟩,
     ⟨(some 9), none, (.p (.faddr 0 (.t 8))), false, []⟩,
     ⟨(some 10), none, (.r (.load 1 false (.t 9))), false, []⟩,
     ⟨(some 11), none, (.p (.len (.t 10))), false, []⟩,
     ⟨(some 12), none, (.p (.bin .lss (.t 6) (.t 11))), false, []⟩,
     ⟨(some 13), none, (.p (.mv (.t 12))), false, []⟩,
     ⟨(some 14), (some (13, false)), (.p (.mv (.t 5))), false, []⟩,
     ⟨(some 15), (some (13, false)), (.p (.mv (.t 0))), false, []⟩,
     ⟨(some 16), (some (13, false)), (.p (.nilck (.t 15))), false, []⟩,
     ⟨(some 17), (some (13, false)), (.p (.faddr 1 (.t 16))), false, []⟩,
     ⟨(some 18), (some (13, false)), (.r (.load 1 false (.t 17))), false, []⟩,
     ⟨(some 19), (some (13, false)), (.p (.len (.t 18))), false, []⟩,
     ⟨(some 20), (some (13, false)), (.p (.bin .lss (.t 14) (.t 19))), false, []⟩,
     ⟨(some 21), none, (.p (.pick (.t 13) (.c (.bool true)) (.t 20))), false, []⟩] (some ⟨[0, 3, 4, 5, 21], [], false⟩))
   (.cond (.t 21)
    .skip
    (.exit 0)))
  (.block 1
   (.block 2
    (.seq
     (.region 34 [⟨(some 36), none, (.p (.mv (.t 4))), false, []⟩,
       ⟨(some 37), none, (.p (.mv (.t 0))), false, []⟩,
       ⟨(some 38), none, (.p (.nilck (.t 37))), false, []⟩,
       ⟨(some 39), none, (.p (.faddr 0 (.t 38))), false, []⟩,
       ⟨(some 40), none, (.r (.load 1 false (.t 39))), false, []⟩,
       ⟨(some 41), none, (.p (.len (.t 40))), false, []⟩,
       ⟨(some 42), none, (.p (.bin .lss (.t 36) (.t 41))), false, []⟩,
       ⟨(some 43), none, (.p (.mv (.t 42))), false, []⟩,
       ⟨(some 44), (some (43, true)), (.p (.mv (.t 5))), false, []⟩,
       ⟨(some 45), (some (43, true)), (.p (.mv (.t 0))), false, []⟩,
       ⟨(some 46), (some (43, true)), (.p (.nilck (.t 45))), false, []⟩,
       ⟨(some 47), (some (43, true)), (.p (.faddr 1 (.t 46))), false, []⟩,
       ⟨(some 48), (some (43, true)), (.r (.load 1 false (.t 47))), false, []⟩,
       ⟨(some 49), (some (43, true)), (.p (.len (.t 48))), false, []⟩,
       ⟨(some 50), (some (43, true)), (.p (.bin .lss (.t 44) (.t 49))), false, []⟩,
       ⟨(some 51), none, (.p (.pick (.t 43) (.t 50) (.c (.bool false)))), false, []⟩,
       ⟨(some 52), none, (.p (.mv (.t 51))), false, []⟩,
       ⟨(some 53), (some (52, true)), (.p (.mv (.t 0))), false, []⟩,
       ⟨(some 54), (some (52, true)), (.p (.nilck (.t 53))), false, []⟩,
       ⟨(some 55), (some (52, true)), (.p (.faddr 0 (.t 54))), false, []⟩,
       ⟨(some 56), (some (52, true)), (.r (.load 1 false (.t 55))), false, []⟩,
       ⟨(some 57), (some (52, true)), (.p (.mv (.t 4))), false, []⟩,
       ⟨(some 58), (some (52, true)), (.p (.iaddr 1 (.t 56) (.t 57))), false, []⟩,
       ⟨(some 59), (some (52, true)), (.r (.load 1 false (.t 58))), false, []⟩,
       ⟨(some 60), (some (52, true)), (.p (.mv (.t 0))), false, []⟩,
       ⟨(some 61), (some (52, true)), (.p (.nilck (.t 60))), false, []⟩,
       ⟨(some 62), (some (52, true)), (.p (.faddr 1 (.t 61))), false, []⟩,
       ⟨(some 63), (some (52, true)), (.r (.load 1 false (.t 62))), false, []⟩,
       ⟨(some 64), (some (52, true)), (.p (.mv (.t 5))), false, []⟩,
       ⟨(some 65), (some (52, true)), (.p (.iaddr 1 (.t 63) (.t 64))), false, []⟩,
       ⟨(some 66), (some (52, true)), (.r (.load 1 false (.t 65))), false, []⟩,
       ⟨(some 67), (some (52, true)), (.p (.bin .eql (.t 59) (.t 66))), false, []⟩,
       ⟨(some 68), none, (.p (.pick (.t 52) (.t 67) (.c (.bool false)))), false, []⟩,
       ⟨(some 35), none, (.p (.mv (.t 68))), false, []⟩] (some ⟨[0, 3, 4, 5, 35], [], true⟩))
     (.cond (.t 35)
      (.seq
       (.region 0 [⟨(some 69), none, (.p (.mv (.t 3))), false, []⟩,
         ⟨(some 70), none, (.p (.mv (.t 0))), false, []⟩,
         ⟨(some 71), none, (.p (.nilck (.t 70))), false, []⟩,
         ⟨(some 72), none, (.p (.faddr 0 (.t 71))), false, []⟩,
         ⟨(some 73), none, (.r (.load 1 false (.t 72))), false, []⟩,
         ⟨(some 74), none, (.p (.mv (.t 4))), false, []⟩,
         ⟨(some 75), none, (.p (.iaddr 1 (.t 73) (.t 74))), false, []⟩,
         ⟨(some 76), none, (.r (.load 1 false (.t 75))), false, []⟩,
         ⟨(some 77), none, (.p (.build [(.int .i64 0), (.str [])] [(0, 1, (.c (.int .i64 0))), (1, 1, (.t 76))])), false, []⟩,
         ⟨(some 78), none, (.e (.mks 81 2 (.agg [(.int .i64 0), (.str [])]) 1 [(0, (.t 77))]) none), false, []⟩,
         ⟨(some 79), none, (.e (.append 81 2 (.t 69) (.t 78)) none), false, []⟩,
         ⟨(some 3), none, (.p (.mv (.t 79))), false, []⟩] (some ⟨[0, 3, 4, 5], [], false⟩))
       (.region 0 [⟨(some 80), none, (.p (.mv (.t 4))), false, []⟩,
         ⟨(some 81), none, (.p (.bin .add (.t 80) (.c (.int .i64 1)))), false, []⟩,
         ⟨(some 82), none, (.p (.mv (.t 5))), false, []⟩,
         ⟨(some 83), none, (.p (.bin .add (.t 82) (.c (.int .i64 1)))), false, []⟩,
         ⟨(some 4), none, (.p (.mv (.t 81))), false, []⟩,
         ⟨(some 5), none, (.p (.mv (.t 83))), false, []⟩] (some ⟨[0, 3, 4, 5], [], false⟩)))
      (.seq
       (.region 0 [⟨(some 85), none, (.p (.mv (.t 4))), false, []⟩,
         ⟨(some 86), none, (.p (.mv (.t 0))), false, []⟩,
         ⟨(some 87), none, (.p (.nilck (.t 86))), false, []⟩,
         ⟨(some 88), none, (.p (.faddr 0 (.t 87))), false, []⟩,
         ⟨(some 89), none, (.r (.load 1 false (.t 88))), false, []⟩,
         ⟨(some 90), none, (.p (.len (.t 89))), false, []⟩,
         ⟨(some 91), none, (.p (.bin .lss (.t 85) (.t 90))), false, []⟩,
         ⟨(some 92), none, (.p (.mv (.t 91))), false, []⟩,
         ⟨(some 93), (some (92, true)), (.p (.mv (.t 5))), false, []⟩,
         ⟨(some 94), (some (92, true)), (.p (.mv (.t 0))), false, []⟩,
         ⟨(some 95), (some (92, true)), (.p (.nilck (.t 94))), false, []⟩,
         ⟨(some 96), (some (92, true)), (.p (.faddr 1 (.t 95))), false, []⟩,
         ⟨(some 97), (some (92, true)), (.r (.load 1 false (.t 96))), false, []⟩,
         ⟨(some 98), (some (92, true)), (.p (.len (.t 97))), false, []⟩,
         ⟨(some 99), (some (92, true)), (.p (.bin .eql (.t 93) (.t 98))), false, []⟩,
         ⟨(some 100), (some (92, true)), (.p (.mv (.t 99))), false, []⟩,
         ⟨(some 101), (some (100, false)), (.p (.mv (.t 0))), false, []⟩,
         ⟨(some 102), (some (100, false)), (.p (.nilck (.t 101))), false, []⟩,
         ⟨(some 103), (some (100, false)), (.p (.faddr 2 (.t 102))), false, []⟩,
         ⟨(some 104), (some (100, false)), (.r (.load 1 false (.t 103))), false, []⟩,
         ⟨(some 105), (some (100, false)), (.p (.mv (.t 4))), false, []⟩,
         ⟨(some 106), (some (100, false)), (.p (.iaddr 1 (.t 104) (.t 105))), false, []⟩,
         ⟨(some 107), (some (100, false)), (.r (.load 1 false (.t 106))), false, []⟩,
         ⟨(some 108), (some (100, false)), (.p (.mv (.t 5))), false, []⟩,
         ⟨(some 109), (some (100, false)), (.p (.iaddr 1 (.t 107) (.t 108))), false, []⟩,
         ⟨(some 110), (some (100, false)), (.r (.load 1 false (.t 109))), false, []⟩,
         ⟨(some 111), (some (92, true)), (.p (.pick (.t 100) (.c (.bool true)) (.t 110))), false, []⟩,
         ⟨(some 112), none, (.p (.pick (.t 92) (.t 111) (.c (.bool false)))), false, []⟩,
         ⟨(some 84), none, (.p (.mv (.t 112))), false, []⟩] (some ⟨[0, 3, 4, 5, 84], [], false⟩))
       (.cond (.t 84)
        (.seq
         (.region 0 [⟨(some 113), none, (.p (.mv (.t 3))), false, []⟩,
           ⟨(some 114), none, (.p (.mv (.t 0))), false, []⟩,
           ⟨(some 115), none, (.p (.nilck (.t 114))), false, []⟩,
           ⟨(some 116), none, (.p (.faddr 0 (.t 115))), false, []⟩,
           ⟨(some 117), none, (.r (.load 1 false (.t 116))), false, []⟩,
           ⟨(some 118), none, (.p (.mv (.t 4))), false, []⟩,
           ⟨(some 119), none, (.p (.iaddr 1 (.t 117) (.t 118))), false, []⟩,
           ⟨(some 120), none, (.r (.load 1 false (.t 119))), false, []⟩,
           ⟨(some 121), none, (.p (.build [(.int .i64 0), (.str [])] [(0, 1, (.c (.int .i64 1))), (1, 1, (.t 120))])), false, []⟩,
           ⟨(some 122), none, (.e (.mks 81 2 (.agg [(.int .i64 0), (.str [])]) 1 [(0, (.t 121))]) none), false, []⟩,
           ⟨(some 123), none, (.e (.append 81 2 (.t 113) (.t 122)) none), false, []⟩,
           ⟨(some 3), none, (.p (.mv (.t 123))), false, []⟩] (some ⟨[0, 3, 4, 5], [], false⟩))
         (.region 0 [⟨(some 124), none, (.p (.mv (.t 4))), false, []⟩,
           ⟨(some 125), none, (.p (.bin .add (.t 124) (.c (.int .i64 1)))), false, []⟩,
           ⟨(some 4), none, (.p (.mv (.t 125))), false, []⟩] (some ⟨[0, 3, 4, 5], [], false⟩)))
        (.seq
         (.region 0 [⟨(some 22), none, (.p (.mv (.t 3))), false, []⟩,
           ⟨(some 23), none, (.p (.mv (.t 0))), false, []⟩,
           ⟨(some 24), none, (.p (.nilck (.t 23))), false, []⟩,
           ⟨(some 25), none, (.p (.faddr 1 (.t 24))), false, []⟩,
           ⟨(some 26), none, (.r (.load 1 false (.t 25))), false, []⟩,
           ⟨(some 27), none, (.p (.mv (.t 5))), false, []⟩,
           ⟨(some 28), none, (.p (.iaddr 1 (.t 26) (.t 27))), false, []⟩,
           ⟨(some 29), none, (.r (.load 1 false (.t 28))), false, []⟩,
           ⟨(some 30), none, (.p (.build [(.int .i64 0), (.str [])] [(0, 1, (.c (.int .i64 2))), (1, 1, (.t 29))])), false, []⟩,
           ⟨(some 31), none, (.e (.mks 81 2 (.agg [(.int .i64 0), (.str [])]) 1 [(0, (.t 30))]) none), false, []⟩,
           ⟨(some 32), none, (.e (.append 81 2 (.t 22) (.t 31)) none), false, []⟩,
           ⟨(some 3), none, (.p (.mv (.t 32))), false, []⟩] (some ⟨[0, 3, 4, 5], [], false⟩))
         (.region 0 [⟨(some 33), none, (.p (.mv (.t 5))), false, []⟩,
           ⟨(some 34), none, (.p (.bin .add (.t 33) (.c (.int .i64 1)))), false, []⟩,
           ⟨(some 5), none, (.p (.mv (.t 34))), false, []⟩] (some ⟨[0, 3, 4, 5], [], false⟩))))))))))
def Try.c49 : AC :=
 (.seq
  (.region 0 [⟨(some 2), none, (.p (.mv (.c (.sl 0 [] true)))), false, []⟩] (some ⟨[0], [], false⟩))
  (.seq
   (.region 0 [⟨(some 3), none, (.p (.mv (.c (.sl 0 [] true)))), false, []⟩] (some ⟨[0, 3], [], false⟩))
   (.seq
    (.region 0 [⟨(some 4), none, (.p (.mv (.c (.int .i64 0)))), false, []⟩,
      ⟨(some 5), none, (.p (.mv (.c (.int .i64 0)))), false, []⟩] (some ⟨[0, 3, 4, 5], [], false⟩))
    (.seq
     (.block 0
      (.loop (some ⟨[0, 3, 4, 5], [(3, (2, 81))], true⟩) Try.c49b0))
     (.seq
      (.region 0 [⟨(some 126), none, (.p (.mv (.t 3))), false, []⟩,
        ⟨(some 2), none, (.p (.mv (.t 126))), false, []⟩] (some ⟨[2], [], false⟩))
      .ret)))))
theorem Try.run49 {xs : List AV} {r : AV} (hl : xs.length ≤ 127) (h : aw Try.prog Try.c49 (Pv.Ends [2] r) (entry xs)) : Run Try.prog 49 xs r :=
  run_of (fun _ _ => drawOk Try.mixed) Try.func49 rfl rfl rfl (by kernel_rfl) (by kernel_rfl) hl h
end Go.Proofs
