/- The compiled code of this seat, part 2, and the rules that run it. (Printed by a program of ours.) -/
import Derived.Test.YtabenkmiojjiiaaRdCodeA
namespace Go.Proofs
open Go.Pv
/-! 50 paling/palingref48.Common : params [22, 22], results [3], free 0, zeros [(.slice none 0 0), (.slice none 0 0)] -/
def Try.c50b0 : AC :=
 (.seq
  (.seq
   (.region 0 [⟨(some 23), none, (.p (.mv (.t 8))), false, []⟩,
     ⟨(some 24), none, (.p (.mv (.t 1))), false, []⟩,
     ⟨(some 25), none, (.p (.len (.t 24))), false, []⟩,
     ⟨(some 26), none, (.p (.bin .lss (.t 23) (.t 25))), false, []⟩] (some ⟨[0, 1, 5, 6, 7, 8, 26], [], false⟩))
   (.cond (.t 26)
    .skip
    (.exit 2)))
  (.seq
   (.block 3
    (.seq
     (.region 0 [⟨(some 29), none, (.p (.mv (.t 7))), false, []⟩,
       ⟨(some 30), none, (.p (.mv (.t 8))), false, []⟩,
       ⟨(some 31), none, (.p (.bin .add (.t 30) (.c (.int .i64 1)))), false, []⟩,
       ⟨(some 32), none, (.p (.mv (.t 7))), false, []⟩,
       ⟨(some 33), none, (.p (.mv (.t 8))), false, []⟩,
       ⟨(some 34), none, (.p (.iaddr 1 (.t 32) (.t 33))), false, []⟩,
       ⟨(some 35), none, (.r (.load 1 false (.t 34))), false, []⟩,
       ⟨(some 36), none, (.p (.iaddr 1 (.t 29) (.t 31))), false, []⟩,
       ⟨none, none, (.e (.store 1 (.t 36) (.t 35)) none), false, []⟩] (some ⟨[0, 1, 5, 6, 7, 8], [], false⟩))
     (.seq
      (.seq
       (.region 11 [⟨(some 37), none, (.p (.mv (.t 5))), false, []⟩,
         ⟨(some 38), none, (.p (.mv (.t 8))), false, []⟩,
         ⟨(some 39), none, (.p (.bin .add (.t 38) (.c (.int .i64 1)))), false, []⟩,
         ⟨(some 40), none, (.p (.iaddr 1 (.t 37) (.t 39))), false, []⟩,
         ⟨(some 41), none, (.r (.load 1 false (.t 40))), false, []⟩,
         ⟨(some 42), none, (.p (.mv (.t 7))), false, []⟩,
         ⟨(some 43), none, (.p (.mv (.t 8))), false, []⟩,
         ⟨(some 44), none, (.p (.bin .add (.t 43) (.c (.int .i64 1)))), false, []⟩,
         ⟨(some 45), none, (.p (.iaddr 1 (.t 42) (.t 44))), false, []⟩,
         ⟨(some 46), none, (.r (.load 1 false (.t 45))), false, []⟩,
         ⟨(some 47), none, (.p (.bin .gtr (.t 41) (.t 46))), false, []⟩] (some ⟨[0, 1, 5, 6, 7, 8, 47], [], true⟩))
       (.cond (.t 47)
        (.region 0 [⟨(some 48), none, (.p (.mv (.t 7))), false, []⟩,
          ⟨(some 49), none, (.p (.mv (.t 8))), false, []⟩,
          ⟨(some 50), none, (.p (.bin .add (.t 49) (.c (.int .i64 1)))), false, []⟩,
          ⟨(some 51), none, (.p (.mv (.t 5))), false, []⟩,
          ⟨(some 52), none, (.p (.mv (.t 8))), false, []⟩,
          ⟨(some 53), none, (.p (.bin .add (.t 52) (.c (.int .i64 1)))), false, []⟩,
          ⟨(some 54), none, (.p (.iaddr 1 (.t 51) (.t 53))), false, []⟩,
          ⟨(some 55), none, (.r (.load 1 false (.t 54))), false, []⟩,
          ⟨(some 56), none, (.p (.iaddr 1 (.t 48) (.t 50))), false, []⟩,
          ⟨none, none, (.e (.store 1 (.t 56) (.t 55)) none), false, []⟩] (some ⟨[0, 1, 5, 6, 7, 8], [], false⟩))
        .skip))
      (.seq
       (.region 9 [⟨(some 57), none, (.p (.mv (.t 0))), false, []⟩,
         ⟨(some 58), none, (.p (.mv (.t 6))), false, []⟩,
         ⟨(some 59), none, (.p (.iaddr 1 (.t 57) (.t 58))), false, []⟩,
         ⟨(some 60), none, (.r (.load 1 false (.t 59))), false, []⟩,
         ⟨(some 61), none, (.p (.mv (.t 1))), false, []⟩,
         ⟨(some 62), none, (.p (.mv (.t 8))), false, []⟩,
         ⟨(some 63), none, (.p (.iaddr 1 (.t 61) (.t 62))), false, []⟩,
         ⟨(some 64), none, (.r (.load 1 false (.t 63))), false, []⟩,
         ⟨(some 65), none, (.p (.bin .eql (.t 60) (.t 64))), false, []⟩] (some ⟨[0, 1, 5, 6, 7, 8, 65], [], true⟩))
       (.cond (.t 65)
        (.region 0 [⟨(some 66), none, (.p (.mv (.t 7))), false, []⟩,
          ⟨(some 67), none, (.p (.mv (.t 8))), false, []⟩,
          ⟨(some 68), none, (.p (.bin .add (.t 67) (.c (.int .i64 1)))), false, []⟩,
          ⟨(some 69), none, (.p (.mv (.t 5))), false, []⟩,
          ⟨(some 70), none, (.p (.mv (.t 8))), false, []⟩,
          ⟨(some 71), none, (.p (.iaddr 1 (.t 69) (.t 70))), false, []⟩,
          ⟨(some 72), none, (.r (.load 1 false (.t 71))), false, []⟩,
          ⟨(some 73), none, (.p (.bin .add (.t 72) (.c (.int .i64 1)))), false, []⟩,
          ⟨(some 74), none, (.p (.iaddr 1 (.t 66) (.t 68))), false, []⟩,
          ⟨none, none, (.e (.store 1 (.t 74) (.t 73)) none), false, []⟩] (some ⟨[0, 1, 5, 6, 7, 8], [], false⟩))
        .skip)))))
   (.region 0 [⟨(some 27), none, (.p (.mv (.t 8))), false, []⟩,
     ⟨(some 28), none, (.p (.bin .add (.t 27) (.c (.int .i64 1)))), false, []⟩,
     ⟨(some 8), none, (.p (.mv (.t 28))), false, []⟩] (some ⟨[0, 1, 5, 6, 7, 8], [], false⟩))))
def Try.c50b1 : AC :=
 (.seq
  (.seq
   (.region 0 [⟨(some 13), none, (.p (.mv (.t 6))), false, []⟩,
     ⟨(some 14), none, (.p (.mv (.t 0))), false, []⟩,
     ⟨(some 15), none, (.p (.len (.t 14))), false, []⟩,
     ⟨(some 16), none, (.p (.bin .lss (.t 13) (.t 15))), false, []⟩] (some ⟨[0, 1, 5, 6, 16], [], false⟩))
   (.cond (.t 16)
    .skip
    (.exit 0)))
  (.seq
   (.block 1
    (.seq
     (.region 0 [⟨(some 19), none, (.p (.mv (.t 1))), false, []⟩,
       ⟨(some 20), none, (.p (.len (.t 19))), false, []⟩,
       ⟨(some 21), none, (.p (.bin .add (.t 20) (.c (.int .i64 1)))), false, []⟩,
       ⟨(some 22), none, (.e (.make 3 1 (.int .i64 0) (.t 21) (.t 21)) none), false, []⟩,
       ⟨(some 7), none, (.p (.mv (.t 22))), false, []⟩] (some ⟨[0, 1, 5, 6, 7], [], false⟩))
     (.seq
      (.seq
       (.region 0 [⟨(some 8), none, (.p (.mv (.c (.int .i64 0)))), false, []⟩] (some ⟨[0, 1, 5, 6, 7, 8], [], false⟩))
       (.block 2
        (.loop (some ⟨[0, 1, 5, 6, 7, 8], [], true⟩) Try.c50b0)))
      (.region 0 [⟨(some 75), none, (.p (.mv (.t 7))), false, []⟩,
        ⟨(some 5), none, (.p (.mv (.t 75))), false, []⟩] (some ⟨[0, 1, 5, 6], [], false⟩)))))
   (.region 0 [⟨(some 17), none, (.p (.mv (.t 6))), false, []⟩,
     ⟨(some 18), none, (.p (.bin .add (.t 17) (.c (.int .i64 1)))), false, []⟩,
     ⟨(some 6), none, (.p (.mv (.t 18))), false, []⟩] (some ⟨[0, 1, 5, 6], [], false⟩))))
def Try.c50 : AC :=
 (.seq
  (.region 0 [⟨(some 4), none, (.p (.mv (.c (.int .i64 0)))), false, []⟩] (some ⟨[0, 1], [], false⟩))
  (.seq
   (.region 0 [⟨(some 9), none, (.p (.mv (.t 1))), false, []⟩,
     ⟨(some 10), none, (.p (.len (.t 9))), false, []⟩,
     ⟨(some 11), none, (.p (.bin .add (.t 10) (.c (.int .i64 1)))), false, []⟩,
     ⟨(some 12), none, (.e (.make 3 1 (.int .i64 0) (.t 11) (.t 11)) none), false, []⟩,
     ⟨(some 5), none, (.p (.mv (.t 12))), false, []⟩] (some ⟨[0, 1, 5], [], false⟩))
   (.seq
    (.seq
     (.region 0 [⟨(some 6), none, (.p (.mv (.c (.int .i64 0)))), false, []⟩] (some ⟨[0, 1, 5, 6], [], false⟩))
     (.block 0
      (.loop (some ⟨[0, 1, 5, 6], [], true⟩) Try.c50b1)))
    (.seq
     (.region 0 [⟨(some 76), none, (.p (.mv (.t 5))), false, []⟩,
       ⟨(some 77), none, (.p (.mv (.t 1))), false, []⟩,
       ⟨(some 78), none, (.p (.len (.t 77))), false, []⟩,
       ⟨(some 79), none, (.p (.iaddr 1 (.t 76) (.t 78))), false, []⟩,
       ⟨(some 80), none, (.r (.load 1 false (.t 79))), false, []⟩,
       ⟨(some 4), none, (.p (.mv (.t 80))), false, []⟩] (some ⟨[4], [], false⟩))
     .ret))))
theorem Try.run50 {xs : List AV} {r : AV} (hl : xs.length ≤ 81) (h : aw Try.prog Try.c50 (Pv.Ends [4] r) (entry xs)) : Run Try.prog 50 xs r :=
  run_of (fun _ _ => drawOk Try.mixed) Try.func50 rfl rfl rfl (by kernel_rfl) (by kernel_rfl) hl h
/-! 51 slices.ContainsFunc[[]paling/pcap.Record,paling/pcap.Record] : params [40, 45], results [4], free 0, zeros [(.slice none 0 0), .nilFunc] -/
def Try.c51 : AC :=
 (.seq
  (.region 0 [⟨(some 4), none, (.p (.mv (.c (.bool false)))), false, []⟩] (some ⟨[0, 1], [], false⟩))
  (.seq
   (.region 0 [⟨(some 5), none, (.p (.mv (.t 0))), false, []⟩,
     ⟨(some 6), none, (.p (.mv (.t 1))), false, []⟩,
     ⟨(some 7), none, (.call 63 [(.t 5), (.t 6)] false), false, []⟩,
     ⟨(some 8), none, (.p (.bin .geq (.t 7) (.c (.int .i64 0)))), false, []⟩,
     ⟨(some 4), none, (.p (.mv (.t 8))), false, []⟩] (some ⟨[4], [], false⟩))
   .ret))
theorem Try.run51 {xs : List AV} {r : AV} (hl : xs.length ≤ 9) (h : aw Try.prog Try.c51 (Pv.Ends [4] r) (entry xs)) : Run Try.prog 51 xs r :=
  run_of (fun _ _ => drawOk Try.mixed) Try.func51 rfl rfl rfl (by kernel_rfl) (by kernel_rfl) hl h
/-! 52 paling/pcap.Put.1 : params [44], results [4], free 0, zeros [(.agg #[(.int .i64 (0)), (.int .i64 (0)), (.int .i64 (0)), (.slice none 0 0)])] -/
def Try.c52 : AC :=
 (.seq
  (.region 0 [⟨(some 1), none, (.e (.box 44 (.t 0)) none), false, []⟩,
    ⟨(some 2), none, (.p (.mv (.c (.bool false)))), false, []⟩] (some ⟨[1], [], false⟩))
  (.seq
   (.region 0 [⟨(some 3), none, (.r (.load 4 true (.t 1))), false, []⟩,
     ⟨(some 4), none, (.call 25 [(.t 3)] false), false, []⟩,
     ⟨(some 5), none, (.p (.un .not (.t 4))), false, []⟩,
     ⟨(some 2), none, (.p (.mv (.t 5))), false, []⟩] (some ⟨[2], [], false⟩))
   .ret))
theorem Try.run52 {xs : List AV} {r : AV} (hl : xs.length ≤ 6) (h : aw Try.prog Try.c52 (Pv.Ends [2] r) (entry xs)) : Run Try.prog 52 xs r :=
  run_of (fun _ _ => drawOk Try.mixed) Try.func52 rfl rfl rfl (by kernel_rfl) (by kernel_rfl) hl h
/-! 53 paling/pcap.little : params [], results [90], free 0, zeros [] -/
def Try.c53 : AC :=
 (.seq
  (.region 0 [⟨(some 0), none, (.e (.alloc 90 (.agg [(.lit .nilFunc)])) none), false, []⟩] (some ⟨[0], [], false⟩))
  (.seq
   (.region 0 [⟨(some 1), none, (.p (.build [(.lit .nilFunc)] [(0, 1, (.c (.fn 64 [])))])), false, []⟩,
     ⟨none, none, (.e (.store 1 (.t 0) (.t 1)) none), false, []⟩] (some ⟨[0], [], false⟩))
   .ret))
theorem Try.run53 {xs : List AV} {r : AV} (hl : xs.length ≤ 2) (h : aw Try.prog Try.c53 (Pv.EndsX (rvs [.c 0 1 true]) r) (entry xs)) : Run Try.prog 53 xs r :=
  run_ofC (fun _ _ => drawOk Try.mixed) Try.func53 rfl rfl (by kernel_rfl) (by kernel_rfl) (by kernel_rfl) hl h
/-! 54 (paling/pcap.order).file : params [90, 40], results [42], free 0, zeros [(.agg #[.nilFunc]), (.slice none 0 0)] -/
def Try.c54b0 : AC :=
 (.seq
  (.region 0 [⟨(some 30), none, (.p (.bin .lss (.t 29) (.t 28))), false, []⟩] (some ⟨[2, 5, 7, 12, 13, 14, 27, 28, 29, 30], [], false⟩))
  (.seq
   (.cond (.t 30)
    .skip
    (.exit 2))
   (.seq
    (.block 3
     (.seq
      (.region 0 [⟨(some 31), none, (.p (.iaddr 1 (.t 27) (.t 29))), false, []⟩,
        ⟨(some 32), none, (.r (.load 1 false (.t 31))), false, []⟩,
        ⟨(some 9), none, (.p (.mv (.t 32))), false, []⟩] (some ⟨[2, 5, 7, 9, 12, 13, 14, 27, 28, 29], [], false⟩))
      (.region 0 [⟨(some 33), none, (.r (.load 1 true (.t 2))), false, []⟩,
        ⟨(some 34), none, (.p (.mv (.t 5))), false, []⟩,
        ⟨(some 35), none, (.p (.mv (.t 9))), false, []⟩,
        ⟨(some 36), none, (.call 66 [(.t 33), (.t 34), (.t 35), (.c (.int .i64 4))] false), false, []⟩,
        ⟨(some 5), none, (.p (.mv (.t 36))), false, []⟩] (some ⟨[2, 5, 7, 12, 13, 14, 27, 28, 29], [], false⟩))))
    (.region 0 [⟨(some 37), none, (.p (.bin .add (.t 29) (.c (.int .i64 1)))), false, []⟩,
      ⟨(some 29), none, (.p (.mv (.t 37))), false, []⟩] (some ⟨[2, 5, 7, 12, 13, 14, 27, 28, 29], [], false⟩)))))
def Try.c54b1 : AC :=
 (.seq
  (.region 0 [⟨(some 15), none, (.p (.bin .lss (.t 14) (.t 13))), false, []⟩] (some ⟨[2, 5, 12, 13, 14, 15], [], false⟩))
  (.seq
   (.cond (.t 15)
    .skip
    (.exit 0))
   (.seq
    (.block 1
     (.seq
      (.region 0 [⟨(some 16), none, (.p (.iaddr 4 (.t 12) (.t 14))), false, []⟩,
        ⟨(some 17), none, (.r (.load 4 true (.t 16))), false, []⟩,
        ⟨(some 7), none, (.e (.alloc 44 (.agg [(.int .i64 0), (.int .i64 0), (.int .i64 0), (.sl 0 [] true)])) none), false, []⟩,
        ⟨none, none, (.e (.store 4 (.t 7) (.t 17)) none), false, []⟩] (some ⟨[2, 5, 7, 12, 13, 14], [], false⟩))
      (.seq
       (.seq
        (.region 0 [⟨(some 18), none, (.p (.faddr 0 (.t 7))), false, []⟩,
          ⟨(some 19), none, (.r (.load 1 false (.t 18))), false, []⟩,
          ⟨(some 20), none, (.p (.faddr 1 (.t 7))), false, []⟩,
          ⟨(some 21), none, (.r (.load 1 false (.t 20))), false, []⟩,
          ⟨(some 22), none, (.p (.faddr 3 (.t 7))), false, []⟩,
          ⟨(some 23), none, (.r (.load 1 false (.t 22))), false, []⟩,
          ⟨(some 24), none, (.p (.len (.t 23))), false, []⟩,
          ⟨(some 25), none, (.p (.faddr 2 (.t 7))), false, []⟩,
          ⟨(some 26), none, (.r (.load 1 false (.t 25))), false, []⟩,
          ⟨(some 27), none, (.e (.mks 3 1 (.int .i64 0) 4 [(0, (.t 19)), (1, (.t 21)), (2, (.t 24)), (3, (.t 26))]) none), false, []⟩,
          ⟨(some 28), none, (.p (.len (.t 27))), false, []⟩,
          ⟨(some 29), none, (.p (.mv (.c (.int .i64 0)))), false, []⟩] (some ⟨[2, 5, 7, 12, 13, 14, 27, 28, 29], [], false⟩))
        (.block 2
         (.loop (some ⟨[2, 5, 7, 12, 13, 14, 27, 28, 29], [], true⟩) Try.c54b0)))
       (.region 0 [⟨(some 38), none, (.p (.mv (.t 5))), false, []⟩,
         ⟨(some 39), none, (.p (.faddr 3 (.t 7))), false, []⟩,
         ⟨(some 40), none, (.r (.load 1 false (.t 39))), false, []⟩,
         ⟨(some 41), none, (.e (.append 5 1 (.t 38) (.t 40)) none), false, []⟩,
         ⟨(some 5), none, (.p (.mv (.t 41))), false, []⟩] (some ⟨[2, 5, 12, 13, 14], [], false⟩)))))
    (.region 0 [⟨(some 42), none, (.p (.bin .add (.t 14) (.c (.int .i64 1)))), false, []⟩,
      ⟨(some 14), none, (.p (.mv (.t 42))), false, []⟩] (some ⟨[2, 5, 12, 13, 14], [], false⟩)))))
def Try.c54 : AC :=
 (.seq
  (.region 0 [⟨(some 2), none, (.e (.box 90 (.t 0)) none), false, []⟩,
    ⟨(some 4), none, (.p (.mv (.c (.sl 0 [] true)))), false, []⟩] (some ⟨[1, 2], [], false⟩))
  (.seq
   (.region 0 [⟨(some 10), none, (.r (.load 1 true (.t 2))), false, []⟩,
     ⟨(some 11), none, (.call 65 [(.t 10)] false), false, []⟩,
     ⟨(some 5), none, (.p (.mv (.t 11))), false, []⟩] (some ⟨[1, 2, 5], [], false⟩))
   (.seq
    (.seq
     (.region 0 [⟨(some 12), none, (.p (.mv (.t 1))), false, []⟩,
       ⟨(some 13), none, (.p (.len (.t 12))), false, []⟩,
       ⟨(some 14), none, (.p (.mv (.c (.int .i64 0)))), false, []⟩] (some ⟨[2, 5, 12, 13, 14], [], false⟩))
     (.block 0
      (.loop (some ⟨[2, 5, 12, 13, 14], [(5, (1, 5))], true⟩) Try.c54b1)))
    (.seq
     (.region 0 [⟨(some 43), none, (.p (.mv (.t 5))), false, []⟩,
       ⟨(some 4), none, (.p (.mv (.t 43))), false, []⟩] (some ⟨[4], [], false⟩))
     .ret))))
theorem Try.run54 {xs : List AV} {r : AV} (hl : xs.length ≤ 44) (h : aw Try.prog Try.c54 (Pv.Ends [4] r) (entry xs)) : Run Try.prog 54 xs r :=
  run_of (fun _ _ => drawOk Try.mixed) Try.func54 rfl rfl rfl (by kernel_rfl) (by kernel_rfl) hl h
/-! 55 paling/palingref46.File : params [52, 4], results [42], free 0, zeros [(.slice none 0 0), (.bool false)] -/
def Try.c55b0 : AC :=
 (.seq
  (.seq
   (.region 0 [⟨(some 28), none, (.p (.mv (.t 6))), false, []⟩,
     ⟨(some 29), none, (.p (.mv (.t 0))), false, []⟩,
     ⟨(some 30), none, (.p (.len (.t 29))), false, []⟩,
     ⟨(some 31), none, (.p (.bin .lss (.t 28) (.t 30))), false, []⟩] (some ⟨[0, 1, 5, 6, 31], [], false⟩))
   (.cond (.t 31)
    .skip
    (.exit 0)))
  (.seq
   (.block 1
    (.seq
     (.region 0 [⟨(some 34), none, (.p (.mv (.t 5))), false, []⟩,
       ⟨(some 35), none, (.p (.mv (.t 0))), false, []⟩,
       ⟨(some 36), none, (.p (.mv (.t 6))), false, []⟩,
       ⟨(some 37), none, (.p (.iaddr 4 (.t 35) (.t 36))), false, []⟩,
       ⟨(some 38), none, (.p (.faddr 0 (.t 37))), false, []⟩,
       ⟨(some 39), none, (.r (.load 1 false (.t 38))), false, []⟩,
       ⟨(some 40), none, (.p (.mv (.t 1))), false, []⟩,
       ⟨(some 41), none, (.call 67 [(.t 39), (.c (.int .i64 4)), (.t 40)] false), false, []⟩,
       ⟨(some 42), none, (.e (.append 5 1 (.t 34) (.t 41)) none), false, []⟩,
       ⟨(some 5), none, (.p (.mv (.t 42))), false, []⟩] (some ⟨[0, 1, 5, 6], [], false⟩))
     (.seq
      (.region 0 [⟨(some 43), none, (.p (.mv (.t 5))), false, []⟩,
        ⟨(some 44), none, (.p (.mv (.t 0))), false, []⟩,
        ⟨(some 45), none, (.p (.mv (.t 6))), false, []⟩,
        ⟨(some 46), none, (.p (.iaddr 4 (.t 44) (.t 45))), false, []⟩,
        ⟨(some 47), none, (.p (.faddr 1 (.t 46))), false, []⟩,
        ⟨(some 48), none, (.r (.load 1 false (.t 47))), false, []⟩,
        ⟨(some 49), none, (.p (.mv (.t 1))), false, []⟩,
        ⟨(some 50), none, (.call 67 [(.t 48), (.c (.int .i64 4)), (.t 49)] false), false, []⟩,
        ⟨(some 51), none, (.e (.append 5 1 (.t 43) (.t 50)) none), false, []⟩,
        ⟨(some 5), none, (.p (.mv (.t 51))), false, []⟩] (some ⟨[0, 1, 5, 6], [], false⟩))
      (.seq
       (.region 0 [⟨(some 52), none, (.p (.mv (.t 5))), false, []⟩,
         ⟨(some 53), none, (.p (.mv (.t 0))), false, []⟩,
         ⟨(some 54), none, (.p (.mv (.t 6))), false, []⟩,
         ⟨(some 55), none, (.p (.iaddr 4 (.t 53) (.t 54))), false, []⟩,
         ⟨(some 56), none, (.p (.faddr 3 (.t 55))), false, []⟩,
         ⟨(some 57), none, (.r (.load 1 false (.t 56))), false, []⟩,
         ⟨(some 58), none, (.p (.len (.t 57))), false, []⟩,
         ⟨(some 59), none, (.p (.mv (.t 1))), false, []⟩,
         ⟨(some 60), none, (.call 67 [(.t 58), (.c (.int .i64 4)), (.t 59)] false), false, []⟩,
         ⟨(some 61), none, (.e (.append 5 1 (.t 52) (.t 60)) none), false, []⟩,
         ⟨(some 5), none, (.p (.mv (.t 61))), false, []⟩] (some ⟨[0, 1, 5, 6], [], false⟩))
       (.seq
        (.region 0 [⟨(some 62), none, (.p (.mv (.t 5))), false, []⟩,
          ⟨(some 63), none, (.p (.mv (.t 0))), false, []⟩,
          ⟨(some 64), none, (.p (.mv (.t 6))), false, []⟩,
          ⟨(some 65), none, (.p (.iaddr 4 (.t 63) (.t 64))), false, []⟩,
          ⟨(some 66), none, (.p (.faddr 2 (.t 65))), false, []⟩,
          ⟨(some 67), none, (.r (.load 1 false (.t 66))), false, []⟩,
          ⟨(some 68), none, (.p (.mv (.t 1))), false, []⟩,
          ⟨(some 69), none, (.call 67 [(.t 67), (.c (.int .i64 4)), (.t 68)] false), false, []⟩,
          ⟨(some 70), none, (.e (.append 5 1 (.t 62) (.t 69)) none), false, []⟩,
          ⟨(some 5), none, (.p (.mv (.t 70))), false, []⟩] (some ⟨[0, 1, 5, 6], [], false⟩))
        (.region 0 [⟨(some 71), none, (.p (.mv (.t 5))), false, []⟩,
          ⟨(some 72), none, (.p (.mv (.t 0))), false, []⟩,
          ⟨(some 73), none, (.p (.mv (.t 6))), false, []⟩,
          ⟨(some 74), none, (.p (.iaddr 4 (.t 72) (.t 73))), false, []⟩,
          ⟨(some 75), none, (.p (.faddr 3 (.t 74))), false, []⟩,
          ⟨(some 76), none, (.r (.load 1 false (.t 75))), false, []⟩,
          ⟨(some 77), none, (.e (.append 5 1 (.t 71) (.t 76)) none), false, []⟩,
          ⟨(some 5), none, (.p (.mv (.t 77))), false, []⟩] (some ⟨[0, 1, 5, 6], [], false⟩)))))))
   (.region 0 [⟨(some 32), none, (.p (.mv (.t 6))), false, []⟩,
     ⟨(some 33), none, (.p (.bin .add (.t 32) (.c (.int .i64 1)))), false, []⟩,
     ⟨(some 6), none, (.p (.mv (.t 33))), false, []⟩] (some ⟨[0, 1, 5, 6], [], false⟩))))
def Try.c55 : AC :=
 (.seq
  (.region 0 [⟨(some 4), none, (.p (.mv (.c (.sl 0 [] true)))), false, []⟩] (some ⟨[0, 1], [], false⟩))
  (.seq
   (.region 0 [⟨(some 7), none, (.p (.mv (.t 1))), false, []⟩,
     ⟨(some 8), none, (.call 67 [(.c (.int .i64 2712847316)), (.c (.int .i64 4)), (.t 7)] false), false, []⟩,
     ⟨(some 5), none, (.p (.mv (.t 8))), false, []⟩] (some ⟨[0, 1, 5], [], false⟩))
   (.seq
    (.region 0 [⟨(some 9), none, (.p (.mv (.t 5))), false, []⟩,
      ⟨(some 10), none, (.p (.mv (.t 1))), false, []⟩,
      ⟨(some 11), none, (.call 67 [(.c (.int .i64 2)), (.c (.int .i64 2)), (.t 10)] false), false, []⟩,
      ⟨(some 12), none, (.e (.append 5 1 (.t 9) (.t 11)) none), false, []⟩,
      ⟨(some 5), none, (.p (.mv (.t 12))), false, []⟩] (some ⟨[0, 1, 5], [], false⟩))
    (.seq
     (.region 0 [⟨(some 13), none, (.p (.mv (.t 5))), false, []⟩,
       ⟨(some 14), none, (.p (.mv (.t 1))), false, []⟩,
       ⟨(some 15), none, (.call 67 [(.c (.int .i64 4)), (.c (.int .i64 2)), (.t 14)] false), false, []⟩,
       ⟨(some 16), none, (.e (.append 5 1 (.t 13) (.t 15)) none), false, []⟩,
       ⟨(some 5), none, (.p (.mv (.t 16))), false, []⟩] (some ⟨[0, 1, 5], [], false⟩))
     (.seq
      (.region 0 [⟨(some 17), none, (.p (.mv (.t 5))), false, []⟩,
        ⟨(some 18), none, (.e (.mks 5 1 (.int .u8 0) 8 [(0, (.c (.int .u8 0))), (1, (.c (.int .u8 0))), (2, (.c (.int .u8 0))), (3, (.c (.int .u8 0))), (4, (.c (.int .u8 0))), (5, (.c (.int .u8 0))), (6, (.c (.int .u8 0))), (7, (.c (.int .u8 0)))]) none), false, []⟩,
        ⟨(some 19), none, (.e (.append 5 1 (.t 17) (.t 18)) none), false, []⟩,
        ⟨(some 5), none, (.p (.mv (.t 19))), false, []⟩] (some ⟨[0, 1, 5], [], false⟩))
      (.seq
       (.region 0 [⟨(some 20), none, (.p (.mv (.t 5))), false, []⟩,
         ⟨(some 21), none, (.p (.mv (.t 1))), false, []⟩,
         ⟨(some 22), none, (.call 67 [(.c (.int .i64 65535)), (.c (.int .i64 4)), (.t 21)] false), false, []⟩,
         ⟨(some 23), none, (.e (.append 5 1 (.t 20) (.t 22)) none), false, []⟩,
         ⟨(some 5), none, (.p (.mv (.t 23))), false, []⟩] (some ⟨[0, 1, 5], [], false⟩))
       (.seq
        (.region 0 [⟨(some 24), none, (.p (.mv (.t 5))), false, []⟩,
          ⟨(some 25), none, (.p (.mv (.t 1))), false, []⟩,
          ⟨(some 26), none, (.call 67 [(.c (.int .i64 1)), (.c (.int .i64 4)), (.t 25)] false), false, []⟩,
          ⟨(some 27), none, (.e (.append 5 1 (.t 24) (.t 26)) none), false, []⟩,
          ⟨(some 5), none, (.p (.mv (.t 27))), false, []⟩] (some ⟨[0, 1, 5], [], false⟩))
        (.seq
         (.seq
          (.region 0 [⟨(some 6), none, (.p (.mv (.c (.int .i64 0)))), false, []⟩] (some ⟨[0, 1, 5, 6], [], false⟩))
          (.block 0
           (.loop (some ⟨[0, 1, 5, 6], [(5, (1, 5))], true⟩) Try.c55b0)))
         (.seq
          (.region 0 [⟨(some 78), none, (.p (.mv (.t 5))), false, []⟩,
            ⟨(some 4), none, (.p (.mv (.t 78))), false, []⟩] (some ⟨[4], [], false⟩))
          .ret)))))))))
theorem Try.run55 {xs : List AV} {r : AV} (hl : xs.length ≤ 79) (h : aw Try.prog Try.c55 (Pv.Ends [4] r) (entry xs)) : Run Try.prog 55 xs r :=
  run_of (fun _ _ => drawOk Try.mixed) Try.func55 rfl rfl rfl (by kernel_rfl) (by kernel_rfl) hl h
/-! 56 slices.Clone[[]byte,byte] : params [42], results [42], free 0, zeros [(.slice none 0 0)] -/
def Try.c56 : AC :=
 (.seq
  (.region 0 [⟨(some 2), none, (.p (.mv (.c (.sl 0 [] true)))), false, []⟩] (some ⟨[0], [], false⟩))
  (.seq
   (.seq
    (.region 0 [⟨(some 3), none, (.p (.mv (.t 0))), false, []⟩,
      ⟨(some 4), none, (.p (.isnil false (.t 3))), false, []⟩] (some ⟨[0, 4], [], false⟩))
    (.cond (.t 4)
     (.seq
      (.region 0 [⟨(some 2), none, (.p (.mv (.c (.sl 0 [] true)))), false, []⟩] (some ⟨[2], [], false⟩))
      .ret)
     .skip))
   (.seq
    (.region 0 [⟨(some 5), none, (.e (.mks 5 1 (.int .u8 0) 0 []) none), false, []⟩,
      ⟨(some 6), none, (.p (.mv (.t 0))), false, []⟩,
      ⟨(some 7), none, (.e (.append 5 1 (.t 5) (.t 6)) none), false, []⟩,
      ⟨(some 2), none, (.p (.mv (.t 7))), false, []⟩] (some ⟨[2], [], false⟩))
    .ret)))
theorem Try.run56 {xs : List AV} {r : AV} (hl : xs.length ≤ 8) (h : aw Try.prog Try.c56 (Pv.Ends [2] r) (entry xs)) : Run Try.prog 56 xs r :=
  run_of (fun _ _ => drawOk Try.mixed) Try.func56 rfl rfl rfl (by kernel_rfl) (by kernel_rfl) hl h
/-! 57 paling/pcap.read : params [42], results [40, 90, 26], free 0, zeros [(.slice none 0 0)] -/
def Try.c57b0 : AC :=
 (.seq
  (.seq
   (.region 0 [⟨(some 35), none, (.p (.mv (.t 8))), false, []⟩,
     ⟨(some 36), none, (.p (.len (.t 35))), false, []⟩,
     ⟨(some 37), none, (.p (.bin .gtr (.t 36) (.c (.int .i64 0)))), false, []⟩] (some ⟨[3, 5, 7, 8, 37], [], false⟩))
   (.cond (.t 37)
    .skip
    (.exit 0)))
  (.block 1
   (.seq
    (.region 0 [⟨(some 39), none, (.r (.load 1 true (.t 5))), false, []⟩,
      ⟨(some 40), none, (.p (.mv (.t 8))), false, []⟩,
      ⟨(some 41), none, (.call 69 [(.t 39), (.t 40)] false), false, []⟩,
      ⟨(some 38), none, (.p (.mv (.t 41))), false, []⟩,
      ⟨(some 42), none, (.p (.ext (.t 38) 0)), false, []⟩,
      ⟨(some 43), none, (.p (.ext (.t 38) 1)), false, []⟩,
      ⟨(some 44), none, (.p (.ext (.t 38) 2)), false, []⟩,
      ⟨(some 9), none, (.e (.alloc 44 (.agg [(.int .i64 0), (.int .i64 0), (.int .i64 0), (.sl 0 [] true)])) none), false, []⟩,
      ⟨none, none, (.e (.store 4 (.t 9) (.t 42)) none), false, []⟩,
      ⟨(some 10), none, (.p (.mv (.t 43))), false, []⟩,
      ⟨(some 11), none, (.p (.mv (.t 44))), false, []⟩] (some ⟨[3, 5, 7, 8, 9, 10, 11], [], false⟩))
    (.seq
     (.seq
      (.region 0 [⟨(some 45), none, (.p (.mv (.t 11))), false, []⟩,
        ⟨(some 46), none, (.p (.bin .eql (.t 45) (.c (.int .i64 0)))), false, []⟩,
        ⟨(some 47), none, (.p (.mv (.t 46))), false, []⟩,
        ⟨(some 48), (some (47, true)), (.p (.mv (.t 7))), false, []⟩,
        ⟨(some 49), (some (47, true)), (.p (.len (.t 48))), false, []⟩,
        ⟨(some 50), (some (47, true)), (.p (.bin .eql (.t 49) (.c (.int .i64 1000)))), false, []⟩,
        ⟨(some 51), none, (.p (.pick (.t 47) (.t 50) (.c (.bool false)))), false, []⟩] (some ⟨[3, 5, 7, 8, 9, 10, 11, 51], [], false⟩))
      (.cond (.t 51)
       (.region 0 [⟨(some 11), none, (.p (.mv (.c (.int .i64 3)))), false, []⟩] (some ⟨[3, 5, 7, 8, 9, 10, 11], [], false⟩))
       .skip))
     (.seq
      (.seq
       (.region 0 [⟨(some 52), none, (.p (.mv (.t 11))), false, []⟩,
         ⟨(some 53), none, (.p (.bin .neq (.t 52) (.c (.int .i64 0)))), false, []⟩] (some ⟨[3, 5, 7, 8, 9, 10, 11, 53], [], false⟩))
       (.cond (.t 53)
        (.seq
         (.region 0 [⟨(some 54), none, (.p (.build [(.lit .nilFunc)] [])), false, []⟩,
           ⟨(some 55), none, (.p (.mv (.t 11))), false, []⟩,
           ⟨(some 2), none, (.p (.mv (.c (.sl 0 [] true)))), false, []⟩,
           ⟨none, none, (.e (.store 1 (.t 3) (.t 54)) none), false, []⟩,
           ⟨(some 4), none, (.p (.mv (.t 55))), false, []⟩] (some ⟨[2, 3, 4], [], false⟩))
         .ret)
        .skip))
      (.region 9 [⟨(some 56), none, (.p (.mv (.t 7))), true, []⟩,
        ⟨(some 57), none, (.r (.load 4 true (.t 9))), true, []⟩,
        ⟨(some 60), none, (.p (.mv (.t 8))), true, []⟩,
        ⟨(some 61), none, (.p (.mv (.t 10))), true, []⟩,
        ⟨(some 62), none, (.p (.slicev 1 (.t 60) (some (.t 61)) none none)), true, []⟩,
        ⟨(some 58), none, (.e (.mks 44 4 (.agg [(.int .i64 0), (.int .i64 0), (.int .i64 0), (.sl 0 [] true)]) 1 [(0, (.t 57))]) (some 2)), true, []⟩,
        ⟨(some 59), none, (.e (.append 44 4 (.t 56) (.t 58)) (some 3)), true, []⟩,
        ⟨(some 7), none, (.p (.mv (.t 59))), true, []⟩,
        ⟨(some 8), none, (.p (.mv (.t 62))), true, []⟩] (some ⟨[3, 5, 7, 8], [], true⟩)))))))
def Try.c57 : AC :=
 (.seq
  (.region 0 [⟨(some 2), none, (.p (.mv (.c (.sl 0 [] true)))), false, []⟩,
    ⟨(some 3), none, (.e (.alloc 90 (.agg [(.lit .nilFunc)])) none), false, []⟩,
    ⟨(some 4), none, (.p (.mv (.c (.int .i64 0)))), false, []⟩] (some ⟨[0, 3], [], false⟩))
  (.seq
   (.seq
    (.region 0 [⟨(some 12), none, (.p (.mv (.t 0))), false, []⟩,
      ⟨(some 13), none, (.p (.len (.t 12))), false, []⟩,
      ⟨(some 14), none, (.p (.bin .lss (.t 13) (.c (.int .i64 24)))), false, []⟩] (some ⟨[0, 3, 14], [], false⟩))
    (.cond (.t 14)
     (.seq
      (.region 0 [⟨(some 15), none, (.p (.build [(.lit .nilFunc)] [])), false, []⟩,
        ⟨(some 2), none, (.p (.mv (.c (.sl 0 [] true)))), false, []⟩,
        ⟨none, none, (.e (.store 1 (.t 3) (.t 15)) none), false, []⟩,
        ⟨(some 4), none, (.p (.mv (.c (.int .i64 10)))), false, []⟩] (some ⟨[2, 3, 4], [], false⟩))
      .ret)
     .skip))
   (.seq
    (.region 0 [⟨(some 17), none, (.p (.mv (.t 0))), false, []⟩,
      ⟨(some 18), none, (.call 68 [(.t 17)] false), false, []⟩,
      ⟨(some 16), none, (.p (.mv (.t 18))), false, []⟩,
      ⟨(some 19), none, (.p (.ext (.t 16) 0)), false, []⟩,
      ⟨(some 20), none, (.p (.ext (.t 16) 1)), false, []⟩,
      ⟨(some 5), none, (.e (.alloc 90 (.agg [(.lit .nilFunc)])) none), false, []⟩,
      ⟨none, none, (.e (.store 1 (.t 5) (.t 19)) none), false, []⟩,
      ⟨(some 6), none, (.p (.mv (.t 20))), false, []⟩] (some ⟨[0, 3, 5, 6], [], false⟩))
    (.seq
     (.seq
      (.region 11 [⟨(some 21), none, (.p (.mv (.t 6))), false, []⟩,
        ⟨(some 22), none, (.p (.un .not (.t 21))), false, []⟩,
        ⟨(some 23), none, (.p (.mv (.t 22))), false, []⟩,
        ⟨(some 24), (some (23, false)), (.p (.mv (.t 0))), false, []⟩,
        ⟨(some 25), (some (23, false)), (.p (.slicev 1 (.t 24) none (some (.c (.int .i64 24))) none)), false, []⟩,
        ⟨(some 26), (some (23, false)), (.r (.b2s (.t 25))), false, []⟩,
        ⟨(some 27), (some (23, false)), (.r (.load 1 true (.t 5))), false, []⟩,
        ⟨(some 28), (some (23, false)), (.call 65 [(.t 27)] true), false, []⟩,
        ⟨(some 29), (some (23, false)), (.r (.b2s (.t 28))), false, []⟩,
        ⟨(some 30), (some (23, false)), (.p (.bin .neq (.t 26) (.t 29))), false, []⟩,
        ⟨(some 31), none, (.p (.pick (.t 23) (.c (.bool true)) (.t 30))), false, []⟩] (some ⟨[0, 3, 5, 31], [], true⟩))
      (.cond (.t 31)
       (.seq
        (.region 0 [⟨(some 32), none, (.p (.build [(.lit .nilFunc)] [])), false, []⟩,
          ⟨(some 2), none, (.p (.mv (.c (.sl 0 [] true)))), false, []⟩,
          ⟨none, none, (.e (.store 1 (.t 3) (.t 32)) none), false, []⟩,
          ⟨(some 4), none, (.p (.mv (.c (.int .i64 11)))), false, []⟩] (some ⟨[2, 3, 4], [], false⟩))
        .ret)
       .skip))
     (.seq
      (.region 0 [⟨(some 7), none, (.p (.mv (.c (.sl 0 [] true)))), false, []⟩] (some ⟨[0, 3, 5, 7], [], false⟩))
      (.seq
       (.seq
        (.region 0 [⟨(some 33), none, (.p (.mv (.t 0))), false, []⟩,
          ⟨(some 34), none, (.p (.slicev 1 (.t 33) (some (.c (.int .i64 24))) none none)), false, []⟩,
          ⟨(some 8), none, (.p (.mv (.t 34))), false, []⟩] (some ⟨[3, 5, 7, 8], [], false⟩))
        (.block 0
         (.loop (some ⟨[3, 5, 7, 8], [(7, (4, 44))], true⟩) Try.c57b0)))
       (.seq
        (.region 5 [⟨(some 63), none, (.p (.mv (.t 7))), false, []⟩,
          ⟨(some 64), none, (.r (.load 1 true (.t 5))), false, []⟩,
          ⟨(some 2), none, (.p (.mv (.t 63))), false, []⟩,
          ⟨none, none, (.e (.store 1 (.t 3) (.t 64)) (some 3)), false, []⟩,
          ⟨(some 4), none, (.p (.mv (.c (.int .i64 0)))), false, []⟩] (some ⟨[2, 3, 4], [], true⟩))
        .ret)))))))
theorem Try.run57 {xs : List AV} {r : AV} (hl : xs.length ≤ 65) (h : aw Try.prog Try.c57 (Pv.EndsX (rvs [.t 2, .c 3 1 true, .t 4]) r) (entry xs)) : Run Try.prog 57 xs r :=
  run_ofC (fun _ _ => drawOk Try.mixed) Try.func57 rfl rfl (by kernel_rfl) (by kernel_rfl) (by kernel_rfl) hl h
/-! 58 paling/palingref46.number : params [42, 4], results [3], free 0, zeros [(.slice none 0 0), (.bool false)] -/
def Try.c58b0 : AC :=
 (.seq
  (.seq
   (.region 0 [⟨(some 7), none, (.p (.mv (.t 6))), false, []⟩,
     ⟨(some 8), none, (.p (.mv (.t 0))), false, []⟩,
     ⟨(some 9), none, (.p (.len (.t 8))), false, []⟩,
     ⟨(some 10), none, (.p (.bin .lss (.t 7) (.t 9))), false, []⟩] (some ⟨[0, 1, 5, 6, 10], [], false⟩))
   (.cond (.t 10)
    .skip
    (.exit 0)))
  (.seq
   (.block 1
    (.seq
     (.region 0 [⟨(some 13), none, (.p (.mv (.t 1))), false, []⟩] (some ⟨[0, 1, 5, 6, 13], [], false⟩))
     (.cond (.t 13)
      (.region 0 [⟨(some 14), none, (.p (.mv (.t 5))), false, []⟩,
        ⟨(some 15), none, (.p (.bin .mul (.t 14) (.c (.int .i64 256)))), false, []⟩,
        ⟨(some 16), none, (.p (.mv (.t 0))), false, []⟩,
        ⟨(some 17), none, (.p (.mv (.t 0))), false, []⟩,
        ⟨(some 18), none, (.p (.len (.t 17))), false, []⟩,
        ⟨(some 19), none, (.p (.bin .sub (.t 18) (.c (.int .i64 1)))), false, []⟩,
        ⟨(some 20), none, (.p (.mv (.t 6))), false, []⟩,
        ⟨(some 21), none, (.p (.bin .sub (.t 19) (.t 20))), false, []⟩,
        ⟨(some 22), none, (.p (.iaddr 1 (.t 16) (.t 21))), false, []⟩,
        ⟨(some 23), none, (.r (.load 1 false (.t 22))), false, []⟩,
        ⟨(some 24), none, (.p (.convI .i64 (.t 23))), false, []⟩,
        ⟨(some 25), none, (.p (.bin .add (.t 15) (.t 24))), false, []⟩,
        ⟨(some 5), none, (.p (.mv (.t 25))), false, []⟩] (some ⟨[0, 1, 5, 6], [], false⟩))
      (.region 0 [⟨(some 26), none, (.p (.mv (.t 5))), false, []⟩,
        ⟨(some 27), none, (.p (.bin .mul (.t 26) (.c (.int .i64 256)))), false, []⟩,
        ⟨(some 28), none, (.p (.mv (.t 0))), false, []⟩,
        ⟨(some 29), none, (.p (.mv (.t 6))), false, []⟩,
        ⟨(some 30), none, (.p (.iaddr 1 (.t 28) (.t 29))), false, []⟩,
        ⟨(some 31), none, (.r (.load 1 false (.t 30))), false, []⟩,
        ⟨(some 32), none, (.p (.convI .i64 (.t 31))), false, []⟩,
        ⟨(some 33), none, (.p (.bin .add (.t 27) (.t 32))), false, []⟩,
        ⟨(some 5), none, (.p (.mv (.t 33))), false, []⟩] (some ⟨[0, 1, 5, 6], [], false⟩)))))
   (.region 0 [⟨(some 11), none, (.p (.mv (.t 6))), false, []⟩,
     ⟨(some 12), none, (.p (.bin .add (.t 11) (.c (.int .i64 1)))), false, []⟩,
     ⟨(some 6), none, (.p (.mv (.t 12))), false, []⟩] (some ⟨[0, 1, 5, 6], [], false⟩))))
def Try.c58 : AC :=
 (.seq
  (.region 0 [⟨(some 4), none, (.p (.mv (.c (.int .i64 0)))), false, []⟩] (some ⟨[0, 1], [], false⟩))
  (.seq
   (.region 0 [⟨(some 5), none, (.p (.mv (.c (.int .i64 0)))), false, []⟩] (some ⟨[0, 1, 5], [], false⟩))
   (.seq
    (.seq
     (.region 0 [⟨(some 6), none, (.p (.mv (.c (.int .i64 0)))), false, []⟩] (some ⟨[0, 1, 5, 6], [], false⟩))
     (.block 0
      (.loop (some ⟨[0, 1, 5, 6], [], true⟩) Try.c58b0)))
    (.seq
     (.region 0 [⟨(some 34), none, (.p (.mv (.t 5))), false, []⟩,
       ⟨(some 4), none, (.p (.mv (.t 34))), false, []⟩] (some ⟨[4], [], false⟩))
     .ret))))
theorem Try.run58 {xs : List AV} {r : AV} (hl : xs.length ≤ 35) (h : aw Try.prog Try.c58 (Pv.Ends [4] r) (entry xs)) : Run Try.prog 58 xs r :=
  run_of (fun _ _ => drawOk Try.mixed) Try.func58 rfl rfl rfl (by kernel_rfl) (by kernel_rfl) hl h
/-! 59 paling/pcap.big : params [], results [90], free 0, zeros [] -/
def Try.c59 : AC :=
 (.seq
  (.region 0 [⟨(some 0), none, (.e (.alloc 90 (.agg [(.lit .nilFunc)])) none), false, []⟩] (some ⟨[0], [], false⟩))
  (.seq
   (.region 0 [⟨(some 1), none, (.p (.build [(.lit .nilFunc)] [(0, 1, (.c (.fn 70 [])))])), false, []⟩,
     ⟨none, none, (.e (.store 1 (.t 0) (.t 1)) none), false, []⟩] (some ⟨[0], [], false⟩))
   .ret))
theorem Try.run59 {xs : List AV} {r : AV} (hl : xs.length ≤ 2) (h : aw Try.prog Try.c59 (Pv.EndsX (rvs [.c 0 1 true]) r) (entry xs)) : Run Try.prog 59 xs r :=
  run_ofC (fun _ _ => drawOk Try.mixed) Try.func59 rfl rfl (by kernel_rfl) (by kernel_rfl) (by kernel_rfl) hl h
/-! 60 strings.Cut : params [9, 9], results [9, 9, 4], free 0, zeros [(.string ⟨#[]⟩), (.string ⟨#[]⟩)] -/
def Try.c60 : AC :=
 (.seq
  (.region 0 [⟨(some 4), none, (.p (.mv (.c (.str [])))), false, []⟩,
    ⟨(some 5), none, (.p (.mv (.c (.str [])))), false, []⟩,
    ⟨(some 6), none, (.p (.mv (.c (.bool false)))), false, []⟩] (some ⟨[0, 1], [], false⟩))
  (.seq
   (.region 0 [⟨(some 7), none, (.p (.mv (.t 0))), false, []⟩,
     ⟨(some 8), none, (.p (.mv (.t 1))), false, []⟩,
     ⟨(some 9), none, (.call 71 [(.t 7), (.t 8)] false), false, []⟩,
     ⟨(some 10), none, (.p (.ext (.t 9) 0)), false, []⟩,
     ⟨(some 11), none, (.p (.ext (.t 9) 1)), false, []⟩,
     ⟨(some 12), none, (.p (.ext (.t 9) 2)), false, []⟩,
     ⟨(some 4), none, (.p (.mv (.t 10))), false, []⟩,
     ⟨(some 5), none, (.p (.mv (.t 11))), false, []⟩,
     ⟨(some 6), none, (.p (.mv (.t 12))), false, []⟩] (some ⟨[4, 5, 6], [], false⟩))
   .ret))
theorem Try.run60 {xs : List AV} {r : AV} (hl : xs.length ≤ 13) (h : aw Try.prog Try.c60 (Pv.Ends [4, 5, 6] r) (entry xs)) : Run Try.prog 60 xs r :=
  run_of (fun _ _ => drawOk Try.mixed) Try.func60 rfl rfl rfl (by kernel_rfl) (by kernel_rfl) hl h
/-! 61 paling/line.stretches : params [9], results [22], free 0, zeros [(.string ⟨#[]⟩)] -/
def Try.c61b0 : AC :=
 (.seq
  (.seq
   (.region 0 [⟨(some 8), none, (.p (.mv (.t 6))), false, []⟩,
     ⟨(some 9), none, (.r (.load 1 false (.t 1))), false, []⟩,
     ⟨(some 10), none, (.p (.lenS (.t 9))), false, []⟩,
     ⟨(some 11), none, (.p (.bin .lss (.t 8) (.t 10))), false, []⟩] (some ⟨[1, 3, 5, 6, 11], [], false⟩))
   (.cond (.t 11)
    .skip
    (.exit 0)))
  (.seq
   (.block 1
    (.seq
     (.region 0 [⟨(some 14), none, (.r (.load 1 false (.t 1))), false, []⟩,
       ⟨(some 15), none, (.p (.mv (.t 6))), false, []⟩,
       ⟨(some 16), none, (.p (.idxs (.t 14) (.t 15))), false, []⟩] (some ⟨[1, 3, 5, 6, 16], [], false⟩))
     (.block 2
      (.seq
       (.region 0 [⟨(some 18), none, (.p (.bin .eql (.t 16) (.c (.int .u8 35)))), false, []⟩,
         ⟨(some 17), none, (.p (.mv (.t 18))), false, []⟩] (some ⟨[1, 3, 5, 6, 16, 17], [], false⟩))
       (.cond (.t 17)
        (.exit 0)
        (.seq
         (.seq
          (.region 0 [⟨(some 20), none, (.p (.bin .eql (.t 16) (.c (.int .u8 32)))), false, []⟩,
            ⟨(some 19), none, (.p (.mv (.t 20))), false, []⟩] (some ⟨[1, 3, 5, 6, 16, 19], [], false⟩))
          (.cond (.t 19)
           .skip
           (.region 0 [⟨(some 21), none, (.p (.bin .eql (.t 16) (.c (.int .u8 9)))), false, []⟩,
             ⟨(some 19), none, (.p (.mv (.t 21))), false, []⟩] (some ⟨[1, 3, 5, 6, 19], [], false⟩))))
         (.cond (.t 19)
          (.region 0 [⟨(some 22), none, (.p (.mv (.t 5))), false, []⟩,
            ⟨(some 23), none, (.p (.mv (.t 6))), false, []⟩,
            ⟨(some 24), none, (.callv (.t 22) [(.t 23)]), false, []⟩] (some ⟨[1, 3, 5, 6], [], false⟩))
          .skip)))))))
   (.region 0 [⟨(some 12), none, (.p (.mv (.t 6))), false, []⟩,
     ⟨(some 13), none, (.p (.bin .add (.t 12) (.c (.int .i64 1)))), false, []⟩,
     ⟨(some 6), none, (.p (.mv (.t 13))), false, []⟩] (some ⟨[1, 3, 5, 6], [], false⟩))))
def Try.c61 : AC :=
 (.seq
  (.region 0 [⟨(some 1), none, (.e (.box 9 (.t 0)) none), false, []⟩,
    ⟨(some 2), none, (.p (.mv (.c (.sl 0 [] true)))), false, []⟩] (some ⟨[1], [], false⟩))
  (.scope
   (.seq
    (.region 0 [⟨(some 3), none, (.e (.alloc 22 (.sl 0 [] true)) none), false, []⟩] (some ⟨[1, 3], [], false⟩))
    (.seq
     (.region 0 [⟨(some 4), none, (.e (.alloc 3 (.int .i64 0)) none), false, []⟩,
       ⟨none, none, (.e (.store 1 (.t 4) (.c (.int .i64 0))) none), false, []⟩] (some ⟨[1, 3, 4], [], false⟩))
     (.seq
      (.region 0 [⟨(some 7), none, (.p (.mkfn 72 [(.t 4), (.t 3), (.t 1)])), false, []⟩,
        ⟨(some 5), none, (.p (.mv (.t 7))), false, []⟩] (some ⟨[1, 3, 5], [], false⟩))
      (.seq
       (.region 0 [⟨(some 6), none, (.p (.mv (.c (.int .i64 0)))), false, []⟩] (some ⟨[1, 3, 5, 6], [], false⟩))
       (.seq
        .skip
        (.seq
         (.block 0
          (.loop (some ⟨[1, 3, 5, 6], [], true⟩) Try.c61b0))
         (.seq
          (.region 0 [⟨(some 25), none, (.p (.mv (.t 5))), false, []⟩,
            ⟨(some 26), none, (.p (.mv (.t 6))), false, []⟩,
            ⟨(some 27), none, (.callv (.t 25) [(.t 26)]), false, []⟩] (some ⟨[3], [], false⟩))
          (.seq
           (.region 0 [⟨(some 28), none, (.r (.load 1 false (.t 3))), false, []⟩,
             ⟨(some 2), none, (.p (.mv (.t 28))), false, []⟩] (some ⟨[2], [], false⟩))
           .ret))))))))))
theorem Try.run61 {xs : List AV} {r : AV} (hl : xs.length ≤ 29) (h : aw Try.prog Try.c61 (Pv.Ends [2] r) (entry xs)) : Run Try.prog 61 xs r :=
  run_of (fun _ _ => drawOk Try.mixed) Try.func61 rfl rfl rfl (by kernel_rfl) (by kernel_rfl) hl h
/- 62 strings.Join: NOT COVERED -/
/-! 63 slices.IndexFunc[[]paling/pcap.Record,paling/pcap.Record] : params [40, 45], results [3], free 0, zeros [(.slice none 0 0), .nilFunc] -/
def Try.c63b0 : AC :=
 (.seq
  (.region 0 [⟨(some 9), none, (.p (.bin .lss (.t 8) (.t 7))), false, []⟩] (some ⟨[0, 1, 7, 8, 9], [], false⟩))
  (.seq
   (.cond (.t 9)
    .skip
    (.exit 0))
   (.seq
    (.block 1
     (.seq
      (.region 0 [⟨(some 10), none, (.p (.mv (.t 8))), false, []⟩,
        ⟨(some 5), none, (.p (.mv (.t 10))), false, []⟩] (some ⟨[0, 1, 5, 7, 8], [], false⟩))
      (.seq
       (.region 0 [⟨(some 11), none, (.p (.mv (.t 1))), false, []⟩,
         ⟨(some 12), none, (.p (.mv (.t 0))), false, []⟩,
         ⟨(some 13), none, (.p (.mv (.t 5))), false, []⟩,
         ⟨(some 14), none, (.p (.iaddr 4 (.t 12) (.t 13))), false, []⟩,
         ⟨(some 15), none, (.r (.load 4 true (.t 14))), false, []⟩,
         ⟨(some 16), none, (.callv (.t 11) [(.t 15)]), false, []⟩] (some ⟨[0, 1, 5, 7, 8, 16], [], false⟩))
       (.cond (.t 16)
        (.seq
         (.region 0 [⟨(some 17), none, (.p (.mv (.t 5))), false, []⟩,
           ⟨(some 4), none, (.p (.mv (.t 17))), false, []⟩] (some ⟨[4], [], false⟩))
         .ret)
        .skip))))
    (.region 0 [⟨(some 18), none, (.p (.bin .add (.t 8) (.c (.int .i64 1)))), false, []⟩,
      ⟨(some 8), none, (.p (.mv (.t 18))), false, []⟩] (some ⟨[0, 1, 7, 8], [], false⟩)))))
def Try.c63 : AC :=
 (.seq
  (.region 0 [⟨(some 4), none, (.p (.mv (.c (.int .i64 0)))), false, []⟩] (some ⟨[0, 1], [], false⟩))
  (.seq
   (.seq
    (.region 0 [⟨(some 6), none, (.p (.mv (.t 0))), false, []⟩,
      ⟨(some 7), none, (.p (.len (.t 6))), false, []⟩,
      ⟨(some 8), none, (.p (.mv (.c (.int .i64 0)))), false, []⟩] (some ⟨[0, 1, 7, 8], [], false⟩))
    (.block 0
     (.loop (some ⟨[0, 1, 7, 8], [], true⟩) Try.c63b0)))
   (.seq
    (.region 0 [⟨(some 4), none, (.p (.mv (.c (.int .i64 (-1))))), false, []⟩] (some ⟨[4], [], false⟩))
    .ret)))
theorem Try.run63 {xs : List AV} {r : AV} (hl : xs.length ≤ 19) (h : aw Try.prog Try.c63 (Pv.Ends [4] r) (entry xs)) : Run Try.prog 63 xs r :=
  run_of (fun _ _ => drawOk Try.mixed) Try.func63 rfl rfl rfl (by kernel_rfl) (by kernel_rfl) hl h
/-! 64 paling/pcap.little.1 : params [3, 3], results [3], free 0, zeros [(.int .i64 (0)), (.int .i64 (0))] -/
def Try.c64 : AC :=
 (.seq
  (.region 0 [⟨(some 4), none, (.p (.mv (.c (.int .i64 0)))), false, []⟩] (some ⟨[0], [], false⟩))
  (.seq
   (.region 0 [⟨(some 5), none, (.p (.mv (.t 0))), false, []⟩,
     ⟨(some 6), none, (.p (.bin .mul (.c (.int .i64 8)) (.t 5))), false, []⟩,
     ⟨(some 4), none, (.p (.mv (.t 6))), false, []⟩] (some ⟨[4], [], false⟩))
   .ret))
theorem Try.run64 {xs : List AV} {r : AV} (hl : xs.length ≤ 7) (h : aw Try.prog Try.c64 (Pv.Ends [4] r) (entry xs)) : Run Try.prog 64 xs r :=
  run_of (fun _ _ => drawOk Try.mixed) Try.func64 rfl rfl rfl (by kernel_rfl) (by kernel_rfl) hl h
/-! 65 (paling/pcap.order).head : params [90], results [42], free 0, zeros [(.agg #[.nilFunc])] -/
def Try.c65b0 : AC :=
 (.seq
  (.region 0 [⟨(some 16), none, (.p (.bin .lss (.t 15) (.t 14))), false, []⟩] (some ⟨[1, 3, 13, 14, 15, 16], [], false⟩))
  (.seq
   (.cond (.t 16)
    .skip
    (.exit 0))
   (.seq
    (.block 1
     (.seq
      (.region 0 [⟨(some 17), none, (.p (.iaddr 1 (.t 13) (.t 15))), false, []⟩,
        ⟨(some 18), none, (.r (.load 1 false (.t 17))), false, []⟩,
        ⟨(some 5), none, (.p (.mv (.t 18))), false, []⟩] (some ⟨[1, 3, 5, 13, 14, 15], [], false⟩))
      (.region 0 [⟨(some 19), none, (.r (.load 1 true (.t 1))), false, []⟩,
        ⟨(some 20), none, (.p (.mv (.t 3))), false, []⟩,
        ⟨(some 21), none, (.p (.mv (.t 5))), false, []⟩,
        ⟨(some 22), none, (.call 66 [(.t 19), (.t 20), (.t 21), (.c (.int .i64 4))] false), false, []⟩,
        ⟨(some 3), none, (.p (.mv (.t 22))), false, []⟩] (some ⟨[1, 3, 13, 14, 15], [], false⟩))))
    (.region 0 [⟨(some 23), none, (.p (.bin .add (.t 15) (.c (.int .i64 1)))), false, []⟩,
      ⟨(some 15), none, (.p (.mv (.t 23))), false, []⟩] (some ⟨[1, 3, 13, 14, 15], [], false⟩)))))
def Try.c65 : AC :=
 (.seq
  (.region 0 [⟨(some 1), none, (.e (.box 90 (.t 0)) none), false, []⟩,
    ⟨(some 2), none, (.p (.mv (.c (.sl 0 [] true)))), false, []⟩] (some ⟨[1], [], false⟩))
  (.seq
   (.region 0 [⟨(some 6), none, (.r (.load 1 true (.t 1))), false, []⟩,
     ⟨(some 7), none, (.call 66 [(.t 6), (.c (.sl 0 [] true)), (.c (.int .i64 2712847316)), (.c (.int .i64 4))] false), false, []⟩,
     ⟨(some 3), none, (.p (.mv (.t 7))), false, []⟩] (some ⟨[1, 3], [], false⟩))
   (.seq
    (.region 6 [⟨(some 8), none, (.r (.load 1 true (.t 1))), false, [5]⟩,
      ⟨(some 9), none, (.r (.load 1 true (.t 1))), false, []⟩,
      ⟨(some 10), none, (.p (.mv (.t 3))), false, []⟩,
      ⟨(some 11), none, (.call 66 [(.t 9), (.t 10), (.c (.int .i64 2)), (.c (.int .i64 2))] true), false, [5]⟩,
      ⟨(some 12), none, (.call 66 [(.t 8), (.t 11), (.c (.int .i64 4)), (.c (.int .i64 2))] true), false, [5]⟩,
      ⟨(some 3), none, (.p (.mv (.t 12))), false, []⟩] (some ⟨[1, 3], [], true⟩))
    (.seq
     (.seq
      (.region 0 [⟨(some 13), none, (.e (.mks 3 1 (.int .i64 0) 4 [(0, (.c (.int .i64 0))), (1, (.c (.int .i64 0))), (2, (.c (.int .i64 65535))), (3, (.c (.int .i64 1)))]) none), false, []⟩,
        ⟨(some 14), none, (.p (.len (.t 13))), false, []⟩,
        ⟨(some 15), none, (.p (.mv (.c (.int .i64 0)))), false, []⟩] (some ⟨[1, 3, 13, 14, 15], [], false⟩))
      (.block 0
       (.loop (some ⟨[1, 3, 13, 14, 15], [], true⟩) Try.c65b0)))
     (.seq
      (.region 0 [⟨(some 24), none, (.p (.mv (.t 3))), false, []⟩,
        ⟨(some 2), none, (.p (.mv (.t 24))), false, []⟩] (some ⟨[2], [], false⟩))
      .ret)))))
theorem Try.run65 {xs : List AV} {r : AV} (hl : xs.length ≤ 25) (h : aw Try.prog Try.c65 (Pv.Ends [2] r) (entry xs)) : Run Try.prog 65 xs r :=
  run_of (fun _ _ => drawOk Try.mixed) Try.func65 rfl rfl rfl (by kernel_rfl) (by kernel_rfl) hl h
/-! 66 (paling/pcap.order).put : params [90, 42, 3, 3], results [42], free 0, zeros [(.agg #[.nilFunc]), (.slice none 0 0), (.int .i64 (0)), (.int .i64 (0))] -/
def Try.c66b0 : AC :=
 (.seq
  (.region 0 [⟨(some 12), none, (.p (.bin .lss (.t 11) (.t 10))), false, []⟩] (some ⟨[1, 2, 3, 4, 10, 11, 12], [], false⟩))
  (.seq
   (.cond (.t 12)
    .skip
    (.exit 0))
   (.seq
    (.block 1
     (.seq
      (.region 0 [⟨(some 13), none, (.p (.mv (.t 11))), false, []⟩,
        ⟨(some 9), none, (.p (.mv (.t 13))), false, []⟩] (some ⟨[1, 2, 3, 4, 9, 10, 11], [], false⟩))
      (.region 0 [⟨(some 14), none, (.p (.mv (.t 1))), false, []⟩,
        ⟨(some 15), none, (.p (.mv (.t 2))), false, []⟩,
        ⟨(some 16), none, (.p (.faddr 0 (.t 4))), false, []⟩,
        ⟨(some 17), none, (.r (.load 1 false (.t 16))), false, []⟩,
        ⟨(some 18), none, (.p (.mv (.t 9))), false, []⟩,
        ⟨(some 19), none, (.p (.mv (.t 3))), false, []⟩,
        ⟨(some 20), none, (.callv (.t 17) [(.t 18), (.t 19)]), false, []⟩,
        ⟨(some 21), none, (.p (.bin .shr (.t 15) (.t 20))), false, []⟩,
        ⟨(some 22), none, (.p (.convI .u8 (.t 21))), false, []⟩,
        ⟨(some 23), none, (.e (.mks 5 1 (.int .u8 0) 1 [(0, (.t 22))]) none), false, []⟩,
        ⟨(some 24), none, (.e (.append 5 1 (.t 14) (.t 23)) none), false, []⟩,
        ⟨(some 1), none, (.p (.mv (.t 24))), false, []⟩] (some ⟨[1, 2, 3, 4, 10, 11], [], false⟩))))
    (.region 0 [⟨(some 25), none, (.p (.bin .add (.t 11) (.c (.int .i64 1)))), false, []⟩,
      ⟨(some 11), none, (.p (.mv (.t 25))), false, []⟩] (some ⟨[1, 2, 3, 4, 10, 11], [], false⟩)))))
def Try.c66 : AC :=
 (.seq
  (.region 0 [⟨(some 4), none, (.e (.box 90 (.t 0)) none), false, []⟩,
    ⟨(some 8), none, (.p (.mv (.c (.sl 0 [] true)))), false, []⟩] (some ⟨[1, 2, 3, 4], [], false⟩))
  (.seq
   (.seq
    (.region 0 [⟨(some 10), none, (.p (.mv (.t 3))), false, []⟩,
      ⟨(some 11), none, (.p (.mv (.c (.int .i64 0)))), false, []⟩] (some ⟨[1, 2, 3, 4, 10, 11], [], false⟩))
    (.block 0
     (.loop (some ⟨[1, 2, 3, 4, 10, 11], [(1, (1, 5))], true⟩) Try.c66b0)))
   (.seq
    (.region 0 [⟨(some 26), none, (.p (.mv (.t 1))), false, []⟩,
      ⟨(some 8), none, (.p (.mv (.t 26))), false, []⟩] (some ⟨[8], [], false⟩))
    .ret)))
theorem Try.run66 {xs : List AV} {r : AV} (hl : xs.length ≤ 27) (h : aw Try.prog Try.c66 (Pv.Ends [8] r) (entry xs)) : Run Try.prog 66 xs r :=
  run_of (fun _ _ => drawOk Try.mixed) Try.func66 rfl rfl rfl (by kernel_rfl) (by kernel_rfl) hl h
/-! 67 paling/palingref46.Bytes : params [3, 3, 4], results [42], free 0, zeros [(.int .i64 (0)), (.int .i64 (0)), (.bool false)] -/
def Try.c67b0 : AC :=
 (.seq
  (.seq
   (.region 0 [⟨(some 11), none, (.p (.mv (.t 8))), false, []⟩,
     ⟨(some 12), none, (.p (.mv (.t 1))), false, []⟩,
     ⟨(some 13), none, (.p (.bin .lss (.t 11) (.t 12))), false, []⟩] (some ⟨[0, 1, 2, 7, 8, 13], [], false⟩))
   (.cond (.t 13)
    .skip
    (.exit 0)))
  (.seq
   (.block 1
    (.seq
     (.seq
      (.region 0 [⟨(some 16), none, (.p (.mv (.t 2))), false, []⟩] (some ⟨[0, 1, 2, 7, 8, 16], [], false⟩))
      (.cond (.t 16)
       (.region 0 [⟨(some 17), none, (.p (.mv (.t 7))), false, []⟩,
         ⟨(some 18), none, (.p (.mv (.t 8))), false, []⟩,
         ⟨(some 19), none, (.p (.mv (.t 0))), false, []⟩,
         ⟨(some 20), none, (.p (.bin .rem (.t 19) (.c (.int .i64 256)))), false, []⟩,
         ⟨(some 21), none, (.p (.convI .u8 (.t 20))), false, []⟩,
         ⟨(some 22), none, (.p (.iaddr 1 (.t 17) (.t 18))), false, []⟩,
         ⟨none, none, (.e (.store 1 (.t 22) (.t 21)) none), false, []⟩] (some ⟨[0, 1, 2, 7, 8], [], false⟩))
       (.region 0 [⟨(some 23), none, (.p (.mv (.t 7))), false, []⟩,
         ⟨(some 24), none, (.p (.mv (.t 1))), false, []⟩,
         ⟨(some 25), none, (.p (.bin .sub (.t 24) (.c (.int .i64 1)))), false, []⟩,
         ⟨(some 26), none, (.p (.mv (.t 8))), false, []⟩,
         ⟨(some 27), none, (.p (.bin .sub (.t 25) (.t 26))), false, []⟩,
         ⟨(some 28), none, (.p (.mv (.t 0))), false, []⟩,
         ⟨(some 29), none, (.p (.bin .rem (.t 28) (.c (.int .i64 256)))), false, []⟩,
         ⟨(some 30), none, (.p (.convI .u8 (.t 29))), false, []⟩,
         ⟨(some 31), none, (.p (.iaddr 1 (.t 23) (.t 27))), false, []⟩,
         ⟨none, none, (.e (.store 1 (.t 31) (.t 30)) none), false, []⟩] (some ⟨[0, 1, 2, 7, 8], [], false⟩))))
     (.region 0 [⟨(some 32), none, (.p (.mv (.t 0))), false, []⟩,
       ⟨(some 33), none, (.p (.bin .quo (.t 32) (.c (.int .i64 256)))), false, []⟩,
       ⟨(some 0), none, (.p (.mv (.t 33))), false, []⟩] (some ⟨[0, 1, 2, 7, 8], [], false⟩))))
   (.region 0 [⟨(some 14), none, (.p (.mv (.t 8))), false, []⟩,
     ⟨(some 15), none, (.p (.bin .add (.t 14) (.c (.int .i64 1)))), false, []⟩,
     ⟨(some 8), none, (.p (.mv (.t 15))), false, []⟩] (some ⟨[0, 1, 2, 7, 8], [], false⟩))))
def Try.c67 : AC :=
 (.seq
  (.region 0 [⟨(some 6), none, (.p (.mv (.c (.sl 0 [] true)))), false, []⟩] (some ⟨[0, 1, 2], [], false⟩))
  (.seq
   (.region 0 [⟨(some 9), none, (.p (.mv (.t 1))), false, []⟩,
     ⟨(some 10), none, (.e (.make 5 1 (.int .u8 0) (.t 9) (.t 9)) none), false, []⟩,
     ⟨(some 7), none, (.p (.mv (.t 10))), false, []⟩] (some ⟨[0, 1, 2, 7], [], false⟩))
   (.seq
    (.seq
     (.region 0 [⟨(some 8), none, (.p (.mv (.c (.int .i64 0)))), false, []⟩] (some ⟨[0, 1, 2, 7, 8], [], false⟩))
     (.block 0
      (.loop (some ⟨[0, 1, 2, 7, 8], [], true⟩) Try.c67b0)))
    (.seq
     (.region 0 [⟨(some 34), none, (.p (.mv (.t 7))), false, []⟩,
       ⟨(some 6), none, (.p (.mv (.t 34))), false, []⟩] (some ⟨[6], [], false⟩))
     .ret))))
theorem Try.run67 {xs : List AV} {r : AV} (hl : xs.length ≤ 35) (h : aw Try.prog Try.c67 (Pv.Ends [6] r) (entry xs)) : Run Try.prog 67 xs r :=
  run_of (fun _ _ => drawOk Try.mixed) Try.func67 rfl rfl rfl (by kernel_rfl) (by kernel_rfl) hl h
/-! 68 paling/pcap.of : params [42], results [90, 4], free 0, zeros [(.slice none 0 0)] -/
def Try.c68b0 : AC :=
 (.seq
  (.region 0 [⟨(some 11), none, (.p (.bin .lss (.t 10) (.t 9))), false, []⟩] (some ⟨[0, 2, 8, 9, 10, 11], [], false⟩))
  (.seq
   (.cond (.t 11)
    .skip
    (.exit 0))
   (.seq
    (.block 1
     (.seq
      (.region 0 [⟨(some 12), none, (.p (.iaddr 1 (.t 8) (.t 10))), false, []⟩,
        ⟨(some 13), none, (.r (.load 1 true (.t 12))), false, []⟩,
        ⟨(some 5), none, (.e (.alloc 90 (.agg [(.lit .nilFunc)])) none), false, []⟩,
        ⟨none, none, (.e (.store 1 (.t 5) (.t 13)) none), false, []⟩] (some ⟨[0, 2, 5, 8, 9, 10], [], false⟩))
      (.seq
       (.region 5 [⟨(some 14), none, (.r (.load 1 true (.t 5))), false, []⟩,
         ⟨(some 15), none, (.p (.mv (.t 0))), false, []⟩,
         ⟨(some 16), none, (.p (.slicev 1 (.t 15) none (some (.c (.int .i64 4))) none)), false, []⟩,
         ⟨(some 17), none, (.call 76 [(.t 14), (.t 16)] true), false, []⟩,
         ⟨(some 18), none, (.p (.bin .eql (.t 17) (.c (.int .i64 2712847316)))), false, []⟩] (some ⟨[0, 2, 5, 8, 9, 10, 18], [], true⟩))
       (.cond (.t 18)
        (.seq
         (.region 0 [⟨(some 19), none, (.r (.load 1 true (.t 5))), false, []⟩,
           ⟨none, none, (.e (.store 1 (.t 2) (.t 19)) none), false, []⟩,
           ⟨(some 3), none, (.p (.mv (.c (.bool true)))), false, []⟩] (some ⟨[2, 3], [], false⟩))
         .ret)
        .skip))))
    (.region 0 [⟨(some 20), none, (.p (.bin .add (.t 10) (.c (.int .i64 1)))), false, []⟩,
      ⟨(some 10), none, (.p (.mv (.t 20))), false, []⟩] (some ⟨[0, 2, 8, 9, 10], [], false⟩)))))
def Try.c68 : AC :=
 (.seq
  (.region 0 [⟨(some 2), none, (.e (.alloc 90 (.agg [(.lit .nilFunc)])) none), false, []⟩,
    ⟨(some 3), none, (.p (.mv (.c (.bool false)))), false, []⟩] (some ⟨[0, 2], [], false⟩))
  (.seq
   (.seq
    (.region 0 [⟨(some 6), none, (.call 53 [] false), false, []⟩,
      ⟨(some 7), none, (.call 59 [] false), false, []⟩,
      ⟨(some 8), none, (.e (.mks 90 1 (.agg [(.lit .nilFunc)]) 2 [(0, (.t 6)), (1, (.t 7))]) none), false, []⟩,
      ⟨(some 9), none, (.p (.len (.t 8))), false, []⟩,
      ⟨(some 10), none, (.p (.mv (.c (.int .i64 0)))), false, []⟩] (some ⟨[0, 2, 8, 9, 10], [], false⟩))
    (.block 0
     (.loop (some ⟨[0, 2, 8, 9, 10], [], true⟩) Try.c68b0)))
   (.seq
    (.region 0 [⟨(some 21), none, (.p (.build [(.lit .nilFunc)] [])), false, []⟩,
      ⟨none, none, (.e (.store 1 (.t 2) (.t 21)) none), false, []⟩,
      ⟨(some 3), none, (.p (.mv (.c (.bool false)))), false, []⟩] (some ⟨[2, 3], [], false⟩))
    .ret)))
theorem Try.run68 {xs : List AV} {r : AV} (hl : xs.length ≤ 22) (h : aw Try.prog Try.c68 (Pv.EndsX (rvs [.c 2 1 true, .t 3]) r) (entry xs)) : Run Try.prog 68 xs r :=
  run_ofC (fun _ _ => drawOk Try.mixed) Try.func68 rfl rfl (by kernel_rfl) (by kernel_rfl) (by kernel_rfl) hl h
/-! 69 (paling/pcap.order).record : params [90, 42], results [44, 3, 26], free 0, zeros [(.agg #[.nilFunc]), (.slice none 0 0)] -/
def Try.c69b0 : AC :=
 (.seq
  (.region 0 [⟨(some 16), none, (.p (.bin .lss (.t 15) (.c (.int .i64 4)))), false, []⟩] (some ⟨[1, 2, 4, 7, 15, 16], [], false⟩))
  (.seq
   (.cond (.t 16)
    .skip
    (.exit 0))
   (.seq
    (.block 1
     (.seq
      (.region 0 [⟨(some 17), none, (.p (.mv (.t 15))), false, []⟩,
        ⟨(some 8), none, (.p (.mv (.t 17))), false, []⟩] (some ⟨[1, 2, 4, 7, 8, 15], [], false⟩))
      (.region 12 [⟨(some 18), none, (.p (.mv (.t 8))), false, []⟩,
        ⟨(some 19), none, (.r (.load 1 true (.t 2))), false, []⟩,
        ⟨(some 20), none, (.p (.mv (.t 1))), false, []⟩,
        ⟨(some 21), none, (.p (.mv (.t 8))), false, []⟩,
        ⟨(some 22), none, (.p (.bin .mul (.c (.int .i64 4)) (.t 21))), false, []⟩,
        ⟨(some 23), none, (.p (.mv (.t 8))), false, []⟩,
        ⟨(some 24), none, (.p (.bin .mul (.c (.int .i64 4)) (.t 23))), false, []⟩,
        ⟨(some 25), none, (.p (.bin .add (.t 24) (.c (.int .i64 4)))), false, []⟩,
        ⟨(some 26), none, (.p (.slicev 1 (.t 20) (some (.t 22)) (some (.t 25)) none)), false, []⟩,
        ⟨(some 27), none, (.call 76 [(.t 19), (.t 26)] true), false, []⟩,
        ⟨(some 28), none, (.p (.aaddr 4 1 (.t 7) (.t 18))), false, []⟩,
        ⟨none, none, (.e (.store 1 (.t 28) (.t 27)) (some 11)), false, []⟩] (some ⟨[1, 2, 4, 7, 15], [], true⟩))))
    (.region 0 [⟨(some 29), none, (.p (.bin .add (.t 15) (.c (.int .i64 1)))), false, []⟩,
      ⟨(some 15), none, (.p (.mv (.t 29))), false, []⟩] (some ⟨[1, 2, 4, 7, 15], [], false⟩)))))
def Try.c69 : AC :=
 (.seq
  (.region 0 [⟨(some 2), none, (.e (.box 90 (.t 0)) none), false, []⟩,
    ⟨(some 4), none, (.e (.alloc 44 (.agg [(.int .i64 0), (.int .i64 0), (.int .i64 0), (.sl 0 [] true)])) none), false, []⟩,
    ⟨(some 5), none, (.p (.mv (.c (.int .i64 0)))), false, []⟩,
    ⟨(some 6), none, (.p (.mv (.c (.int .i64 0)))), false, []⟩] (some ⟨[1, 2, 4], [], false⟩))
  (.seq
   (.seq
    (.region 0 [⟨(some 11), none, (.p (.mv (.t 1))), false, []⟩,
      ⟨(some 12), none, (.p (.len (.t 11))), false, []⟩,
      ⟨(some 13), none, (.p (.bin .lss (.t 12) (.c (.int .i64 16)))), false, []⟩] (some ⟨[1, 2, 4, 13], [], false⟩))
    (.cond (.t 13)
     (.seq
      (.region 0 [⟨(some 14), none, (.p (.build [(.int .i64 0), (.int .i64 0), (.int .i64 0), (.sl 0 [] true)] [])), false, []⟩,
        ⟨none, none, (.e (.store 4 (.t 4) (.t 14)) none), false, []⟩,
        ⟨(some 5), none, (.p (.mv (.c (.int .i64 0)))), false, []⟩,
        ⟨(some 6), none, (.p (.mv (.c (.int .i64 10)))), false, []⟩] (some ⟨[4, 5, 6], [], false⟩))
      .ret)
     .skip))
   (.seq
    (.region 0 [⟨(some 7), none, (.e (.alloc 127 (.agg [(.int .i64 0), (.int .i64 0), (.int .i64 0), (.int .i64 0)])) none), false, []⟩] (some ⟨[1, 2, 4, 7], [], false⟩))
    (.seq
     (.seq
      (.region 0 [⟨(some 15), none, (.p (.mv (.c (.int .i64 0)))), false, []⟩] (some ⟨[1, 2, 4, 7, 15], [], false⟩))
      (.block 0
       (.loop (some ⟨[1, 2, 4, 7, 15], [], true⟩) Try.c69b0)))
     (.seq
      (.region 0 [⟨(some 30), none, (.p (.aaddr 4 1 (.t 7) (.c (.int .i64 0)))), false, []⟩,
        ⟨(some 31), none, (.r (.load 1 false (.t 30))), false, []⟩,
        ⟨(some 32), none, (.p (.aaddr 4 1 (.t 7) (.c (.int .i64 1)))), false, []⟩,
        ⟨(some 33), none, (.r (.load 1 false (.t 32))), false, []⟩,
        ⟨(some 34), none, (.p (.aaddr 4 1 (.t 7) (.c (.int .i64 3)))), false, []⟩,
        ⟨(some 35), none, (.r (.load 1 false (.t 34))), false, []⟩,
        ⟨(some 36), none, (.p (.build [(.int .i64 0), (.int .i64 0), (.int .i64 0), (.sl 0 [] true)] [(0, 1, (.t 31)), (1, 1, (.t 33)), (2, 1, (.t 35))])), false, []⟩,
        ⟨(some 9), none, (.e (.alloc 44 (.agg [(.int .i64 0), (.int .i64 0), (.int .i64 0), (.sl 0 [] true)])) none), false, []⟩,
        ⟨none, none, (.e (.store 4 (.t 9) (.t 36)) none), false, []⟩] (some ⟨[1, 4, 7, 9], [], false⟩))
      (.seq
       (.block 2
        (.seq
         (.region 0 [⟨(some 38), none, (.r (.load 4 true (.t 9))), false, []⟩,
           ⟨(some 39), none, (.call 25 [(.t 38)] false), false, []⟩,
           ⟨(some 40), none, (.p (.un .not (.t 39))), false, []⟩,
           ⟨(some 41), none, (.p (.mv (.t 40))), false, []⟩,
           ⟨(some 42), (some (41, false)), (.p (.aaddr 4 1 (.t 7) (.c (.int .i64 2)))), false, []⟩,
           ⟨(some 43), (some (41, false)), (.r (.load 1 false (.t 42))), false, []⟩,
           ⟨(some 44), (some (41, false)), (.p (.bin .gtr (.t 43) (.c (.int .i64 65535)))), false, []⟩,
           ⟨(some 45), none, (.p (.pick (.t 41) (.c (.bool true)) (.t 44))), false, []⟩,
           ⟨(some 46), none, (.p (.mv (.t 45))), false, []⟩,
           ⟨(some 47), (some (46, false)), (.p (.aaddr 4 1 (.t 7) (.c (.int .i64 2)))), false, []⟩,
           ⟨(some 48), (some (46, false)), (.r (.load 1 false (.t 47))), false, []⟩,
           ⟨(some 49), (some (46, false)), (.p (.faddr 2 (.t 9))), false, []⟩,
           ⟨(some 50), (some (46, false)), (.r (.load 1 false (.t 49))), false, []⟩,
           ⟨(some 51), (some (46, false)), (.p (.bin .gtr (.t 48) (.t 50))), false, []⟩,
           ⟨(some 52), none, (.p (.pick (.t 46) (.c (.bool true)) (.t 51))), false, []⟩,
           ⟨(some 37), none, (.p (.mv (.t 52))), false, []⟩] (some ⟨[1, 4, 7, 9, 37], [], false⟩))
         (.cond (.t 37)
          (.seq
           (.region 0 [⟨(some 53), none, (.p (.build [(.int .i64 0), (.int .i64 0), (.int .i64 0), (.sl 0 [] true)] [])), false, []⟩,
             ⟨none, none, (.e (.store 4 (.t 4) (.t 53)) none), false, []⟩,
             ⟨(some 5), none, (.p (.mv (.c (.int .i64 0)))), false, []⟩,
             ⟨(some 6), none, (.p (.mv (.c (.int .i64 11)))), false, []⟩] (some ⟨[4, 5, 6], [], false⟩))
           .ret)
          (.seq
           (.region 0 [⟨(some 55), none, (.p (.aaddr 4 1 (.t 7) (.c (.int .i64 2)))), false, []⟩,
             ⟨(some 56), none, (.r (.load 1 false (.t 55))), false, []⟩,
             ⟨(some 57), none, (.p (.mv (.t 1))), false, []⟩,
             ⟨(some 58), none, (.p (.len (.t 57))), false, []⟩,
             ⟨(some 59), none, (.p (.bin .sub (.t 58) (.c (.int .i64 16)))), false, []⟩,
             ⟨(some 60), none, (.p (.bin .gtr (.t 56) (.t 59))), false, []⟩,
             ⟨(some 54), none, (.p (.mv (.t 60))), false, []⟩] (some ⟨[1, 4, 7, 9, 54], [], false⟩))
           (.cond (.t 54)
            (.seq
             (.region 0 [⟨(some 61), none, (.p (.build [(.int .i64 0), (.int .i64 0), (.int .i64 0), (.sl 0 [] true)] [])), false, []⟩,
               ⟨none, none, (.e (.store 4 (.t 4) (.t 61)) none), false, []⟩,
               ⟨(some 5), none, (.p (.mv (.c (.int .i64 0)))), false, []⟩,
               ⟨(some 6), none, (.p (.mv (.c (.int .i64 10)))), false, []⟩] (some ⟨[4, 5, 6], [], false⟩))
             .ret)
            .skip)))))
       (.seq
        (.region 0 [⟨(some 62), none, (.p (.aaddr 4 1 (.t 7) (.c (.int .i64 2)))), false, []⟩,
          ⟨(some 63), none, (.r (.load 1 false (.t 62))), false, []⟩,
          ⟨(some 64), none, (.p (.bin .add (.c (.int .i64 16)) (.t 63))), false, []⟩,
          ⟨(some 10), none, (.p (.mv (.t 64))), false, []⟩] (some ⟨[1, 4, 9, 10], [], false⟩))
        (.seq
         (.region 0 [⟨(some 65), none, (.p (.mv (.t 1))), false, []⟩,
           ⟨(some 66), none, (.p (.mv (.t 10))), false, []⟩,
           ⟨(some 67), none, (.r (.cut 1 (.t 65) (.c (.int .i64 16)) (.t 66))), false, []⟩,
           ⟨(some 68), none, (.call 56 [(.t 67)] false), false, []⟩,
           ⟨(some 69), none, (.p (.faddr 3 (.t 9))), false, []⟩,
           ⟨none, none, (.e (.store 1 (.t 69) (.t 68)) none), false, []⟩] (some ⟨[4, 9, 10], [], false⟩))
         (.seq
          (.region 0 [⟨(some 70), none, (.r (.load 4 true (.t 9))), false, []⟩,
            ⟨(some 71), none, (.p (.mv (.t 10))), false, []⟩,
            ⟨none, none, (.e (.store 4 (.t 4) (.t 70)) none), false, []⟩,
            ⟨(some 5), none, (.p (.mv (.t 71))), false, []⟩,
            ⟨(some 6), none, (.p (.mv (.c (.int .i64 0)))), false, []⟩] (some ⟨[4, 5, 6], [], false⟩))
          .ret)))))))))
theorem Try.run69 {xs : List AV} {r : AV} (hl : xs.length ≤ 72) (h : aw Try.prog Try.c69 (Pv.EndsX (rvs [.c 4 4 true, .t 5, .t 6]) r) (entry xs)) : Run Try.prog 69 xs r :=
  run_ofC (fun _ _ => drawOk Try.mixed) Try.func69 rfl rfl (by kernel_rfl) (by kernel_rfl) (by kernel_rfl) hl h
/-! 70 paling/pcap.big.1 : params [3, 3], results [3], free 0, zeros [(.int .i64 (0)), (.int .i64 (0))] -/
def Try.c70 : AC :=
 (.seq
  (.region 0 [⟨(some 4), none, (.p (.mv (.c (.int .i64 0)))), false, []⟩] (some ⟨[0, 1], [], false⟩))
  (.seq
   (.region 0 [⟨(some 5), none, (.p (.mv (.t 1))), false, []⟩,
     ⟨(some 6), none, (.p (.bin .sub (.t 5) (.c (.int .i64 1)))), false, []⟩,
     ⟨(some 7), none, (.p (.mv (.t 0))), false, []⟩,
     ⟨(some 8), none, (.p (.bin .sub (.t 6) (.t 7))), false, []⟩,
     ⟨(some 9), none, (.p (.bin .mul (.c (.int .i64 8)) (.t 8))), false, []⟩,
     ⟨(some 4), none, (.p (.mv (.t 9))), false, []⟩] (some ⟨[4], [], false⟩))
   .ret))
theorem Try.run70 {xs : List AV} {r : AV} (hl : xs.length ≤ 10) (h : aw Try.prog Try.c70 (Pv.Ends [4] r) (entry xs)) : Run Try.prog 70 xs r :=
  run_of (fun _ _ => drawOk Try.mixed) Try.func70 rfl rfl rfl (by kernel_rfl) (by kernel_rfl) hl h
/-! 71 internal/stringslite.Cut : params [9, 9], results [9, 9, 4], free 0, zeros [(.string ⟨#[]⟩), (.string ⟨#[]⟩)] -/
def Try.c71 : AC :=
 (.seq
  (.region 0 [⟨(some 4), none, (.p (.mv (.c (.str [])))), false, []⟩,
    ⟨(some 5), none, (.p (.mv (.c (.str [])))), false, []⟩,
    ⟨(some 6), none, (.p (.mv (.c (.bool false)))), false, []⟩] (some ⟨[0, 1], [], false⟩))
  (.seq
   (.seq
    (.region 0 [⟨(some 8), none, (.p (.mv (.t 0))), false, []⟩,
      ⟨(some 9), none, (.p (.mv (.t 1))), false, []⟩,
      ⟨(some 10), none, (.call 77 [(.t 8), (.t 9)] false), false, []⟩,
      ⟨(some 7), none, (.p (.mv (.t 10))), false, []⟩] (some ⟨[0, 1, 7], [], false⟩))
    (.seq
     (.region 0 [⟨(some 11), none, (.p (.mv (.t 7))), false, []⟩,
       ⟨(some 12), none, (.p (.bin .geq (.t 11) (.c (.int .i64 0)))), false, []⟩] (some ⟨[0, 1, 7, 12], [], false⟩))
     (.cond (.t 12)
      (.seq
       (.region 12 [⟨(some 13), none, (.p (.mv (.t 0))), false, []⟩,
         ⟨(some 14), none, (.p (.mv (.t 7))), false, []⟩,
         ⟨(some 15), none, (.p (.slices (.t 13) none (some (.t 14)))), false, []⟩,
         ⟨(some 16), none, (.p (.mv (.t 0))), false, []⟩,
         ⟨(some 17), none, (.p (.mv (.t 7))), false, []⟩,
         ⟨(some 18), none, (.p (.mv (.t 1))), false, []⟩,
         ⟨(some 19), none, (.p (.lenS (.t 18))), false, []⟩,
         ⟨(some 20), none, (.p (.bin .add (.t 17) (.t 19))), false, []⟩,
         ⟨(some 21), none, (.p (.slices (.t 16) (some (.t 20)) none)), false, []⟩,
         ⟨(some 4), none, (.p (.mv (.t 15))), false, []⟩,
         ⟨(some 5), none, (.p (.mv (.t 21))), false, []⟩,
         ⟨(some 6), none, (.p (.mv (.c (.bool true)))), false, []⟩] (some ⟨[4, 5, 6], [], true⟩))
       .ret)
      .skip)))
   (.seq
    (.region 0 [⟨(some 22), none, (.p (.mv (.t 0))), false, []⟩,
      ⟨(some 4), none, (.p (.mv (.t 22))), false, []⟩,
      ⟨(some 5), none, (.p (.mv (.c (.str [])))), false, []⟩,
      ⟨(some 6), none, (.p (.mv (.c (.bool false)))), false, []⟩] (some ⟨[4, 5, 6], [], false⟩))
    .ret)))
theorem Try.run71 {xs : List AV} {r : AV} (hl : xs.length ≤ 23) (h : aw Try.prog Try.c71 (Pv.Ends [4, 5, 6] r) (entry xs)) : Run Try.prog 71 xs r :=
  run_of (fun _ _ => drawOk Try.mixed) Try.func71 rfl rfl rfl (by kernel_rfl) (by kernel_rfl) hl h
/-! 72 paling/line.stretches.1 : params [3], results [], free 3, zeros [(.int .i64 (0))] -/
def Try.c72 : AC :=
 (.seq
  (.seq
   (.region 0 [⟨(some 5), none, (.p (.mv (.t 0))), false, []⟩,
     ⟨(some 6), none, (.r (.load 1 false (.t 1))), false, []⟩,
     ⟨(some 7), none, (.p (.bin .gtr (.t 5) (.t 6))), false, []⟩] (some ⟨[0, 1, 2, 3, 7], [], false⟩))
   (.cond (.t 7)
    (.region 8 [⟨(some 8), none, (.r (.load 1 false (.t 2))), true, []⟩,
      ⟨(some 9), none, (.r (.load 1 false (.t 3))), true, []⟩,
      ⟨(some 10), none, (.r (.load 1 false (.t 1))), true, []⟩,
      ⟨(some 11), none, (.p (.mv (.t 0))), true, []⟩,
      ⟨(some 12), none, (.p (.slices (.t 9) (some (.t 10)) (some (.t 11)))), true, []⟩,
      ⟨(some 13), none, (.e (.mks 9 1 (.str []) 1 [(0, (.t 12))]) (some 5)), true, []⟩,
      ⟨(some 14), none, (.e (.append 9 1 (.t 8) (.t 13)) (some 6)), true, []⟩,
      ⟨none, none, (.e (.store 1 (.t 2) (.t 14)) (some 7)), true, []⟩] (some ⟨[0, 1], [], false⟩))
    .skip))
  (.region 0 [⟨(some 15), none, (.p (.mv (.t 0))), false, []⟩,
    ⟨(some 16), none, (.p (.bin .add (.t 15) (.c (.int .i64 1)))), false, []⟩,
    ⟨none, none, (.e (.store 1 (.t 1) (.t 16)) none), false, []⟩] (some ⟨[], [], false⟩)))
theorem Try.run72 {xs : List AV} {r : AV} (hl : xs.length ≤ 17) (h : aw Try.prog Try.c72 (Pv.Ends [] r) (entry xs)) : Run Try.prog 72 xs r :=
  run_of (fun _ _ => drawOk Try.mixed) Try.func72 rfl rfl rfl (by kernel_rfl) (by kernel_rfl) hl h
theorem Try.gen72 {xs : List AV} {r : AV} {H H' : Hp} (hl : xs.length ≤ 17) (h : aw Try.prog Try.c72 (Pv.EndsG [] r H') ⟨xs.zipIdx.map fun p => (p.2, p.1), H⟩) : Gen Try.prog 72 xs H r H' :=
  gen_of (fun _ _ => drawOk Try.mixed) Try.func72 rfl rfl rfl (by kernel_rfl) (by kernel_rfl) hl h
/- 73 (*strings.Builder).Grow: NOT COVERED -/
/-! 74 (*strings.Builder).WriteString : params [117, 9], results [3, 121], free 0, zeros [(.pointer none), (.string ⟨#[]⟩)] -/
def Try.c74 : AC :=
 (.seq
  (.region 0 [⟨(some 4), none, (.p (.mv (.c (.int .i64 0)))), false, []⟩,
    ⟨(some 5), none, (.p (.mv (.c (.lit .nilIface)))), false, []⟩] (some ⟨[0, 1], [], false⟩))
  (.seq
   (.region 0 [⟨(some 6), none, (.p (.mv (.t 0))), false, []⟩,
     ⟨(some 7), none, (.call 78 [(.t 6)] false), false, []⟩] (some ⟨[0, 1], [], false⟩))
   (.seq
    (.region 0 [⟨(some 8), none, (.p (.mv (.t 0))), false, []⟩,
      ⟨(some 9), none, (.p (.mv (.t 0))), false, []⟩,
      ⟨(some 10), none, (.p (.nilck (.t 9))), false, []⟩,
      ⟨(some 11), none, (.p (.faddr 1 (.t 10))), false, []⟩,
      ⟨(some 12), none, (.r (.load 1 false (.t 11))), false, []⟩,
      ⟨(some 13), none, (.p (.mv (.t 1))), false, []⟩,
      ⟨(some 14), none, (.e (.append 5 1 (.t 12) (.t 13)) none), false, []⟩,
      ⟨(some 15), none, (.p (.nilck (.t 8))), false, []⟩,
      ⟨(some 16), none, (.p (.faddr 1 (.t 15))), false, []⟩,
      ⟨none, none, (.e (.store 1 (.t 16) (.t 14)) none), false, []⟩] (some ⟨[1], [], false⟩))
    (.seq
     (.region 0 [⟨(some 17), none, (.p (.mv (.t 1))), false, []⟩,
       ⟨(some 18), none, (.p (.lenS (.t 17))), false, []⟩,
       ⟨(some 4), none, (.p (.mv (.t 18))), false, []⟩,
       ⟨(some 5), none, (.p (.mv (.c (.lit .nilIface)))), false, []⟩] (some ⟨[4, 5], [], false⟩))
     .ret))))
theorem Try.run74 {xs : List AV} {r : AV} (hl : xs.length ≤ 19) (h : aw Try.prog Try.c74 (Pv.Ends [4, 5] r) (entry xs)) : Run Try.prog 74 xs r :=
  run_of (fun _ _ => drawOk Try.mixed) Try.func74 rfl rfl rfl (by kernel_rfl) (by kernel_rfl) hl h
/- 75 (*strings.Builder).String: NOT COVERED -/
/-! 76 (paling/pcap.order).take : params [90, 42], results [3], free 0, zeros [(.agg #[.nilFunc]), (.slice none 0 0)] -/
def Try.c76b0 : AC :=
 (.seq
  (.region 0 [⟨(some 11), none, (.p (.bin .lss (.t 10) (.t 9))), false, []⟩] (some ⟨[1, 2, 5, 8, 9, 10, 11], [], false⟩))
  (.seq
   (.cond (.t 11)
    .skip
    (.exit 0))
   (.seq
    (.block 1
     (.seq
      (.region 0 [⟨(some 12), none, (.p (.mv (.t 10))), false, []⟩,
        ⟨(some 13), none, (.p (.iaddr 1 (.t 8) (.t 10))), false, []⟩,
        ⟨(some 14), none, (.r (.load 1 false (.t 13))), false, []⟩,
        ⟨(some 6), none, (.p (.mv (.t 12))), false, []⟩,
        ⟨(some 7), none, (.p (.mv (.t 14))), false, []⟩] (some ⟨[1, 2, 5, 6, 7, 8, 9, 10], [], false⟩))
      (.region 0 [⟨(some 15), none, (.p (.mv (.t 5))), false, []⟩,
        ⟨(some 16), none, (.p (.mv (.t 7))), false, []⟩,
        ⟨(some 17), none, (.p (.convI .i64 (.t 16))), false, []⟩,
        ⟨(some 18), none, (.p (.faddr 0 (.t 2))), false, []⟩,
        ⟨(some 19), none, (.r (.load 1 false (.t 18))), false, []⟩,
        ⟨(some 20), none, (.p (.mv (.t 6))), false, []⟩,
        ⟨(some 21), none, (.p (.mv (.t 1))), false, []⟩,
        ⟨(some 22), none, (.p (.len (.t 21))), false, []⟩,
        ⟨(some 23), none, (.callv (.t 19) [(.t 20), (.t 22)]), false, []⟩,
        ⟨(some 24), none, (.p (.bin .shl (.t 17) (.t 23))), false, []⟩,
        ⟨(some 25), none, (.p (.bin .or (.t 15) (.t 24))), false, []⟩,
        ⟨(some 5), none, (.p (.mv (.t 25))), false, []⟩] (some ⟨[1, 2, 5, 8, 9, 10], [], false⟩))))
    (.region 0 [⟨(some 26), none, (.p (.bin .add (.t 10) (.c (.int .i64 1)))), false, []⟩,
      ⟨(some 10), none, (.p (.mv (.t 26))), false, []⟩] (some ⟨[1, 2, 5, 8, 9, 10], [], false⟩)))))
def Try.c76 : AC :=
 (.seq
  (.region 0 [⟨(some 2), none, (.e (.box 90 (.t 0)) none), false, []⟩,
    ⟨(some 4), none, (.p (.mv (.c (.int .i64 0)))), false, []⟩] (some ⟨[1, 2], [], false⟩))
  (.seq
   (.region 0 [⟨(some 5), none, (.p (.mv (.c (.int .i64 0)))), false, []⟩] (some ⟨[1, 2, 5], [], false⟩))
   (.seq
    (.seq
     (.region 0 [⟨(some 8), none, (.p (.mv (.t 1))), false, []⟩,
       ⟨(some 9), none, (.p (.len (.t 8))), false, []⟩,
       ⟨(some 10), none, (.p (.mv (.c (.int .i64 0)))), false, []⟩] (some ⟨[1, 2, 5, 8, 9, 10], [], false⟩))
     (.block 0
      (.loop (some ⟨[1, 2, 5, 8, 9, 10], [], true⟩) Try.c76b0)))
    (.seq
     (.region 0 [⟨(some 27), none, (.p (.mv (.t 5))), false, []⟩,
       ⟨(some 4), none, (.p (.mv (.t 27))), false, []⟩] (some ⟨[4], [], false⟩))
     .ret))))
theorem Try.run76 {xs : List AV} {r : AV} (hl : xs.length ≤ 28) (h : aw Try.prog Try.c76 (Pv.Ends [4] r) (entry xs)) : Run Try.prog 76 xs r :=
  run_of (fun _ _ => drawOk Try.mixed) Try.func76 rfl rfl rfl (by kernel_rfl) (by kernel_rfl) hl h
/-! 77 internal/stringslite.Index : params [9, 9], results [3], free 0, zeros [(.string ⟨#[]⟩), (.string ⟨#[]⟩)] -/
def Try.c77b0 : AC :=
 (.seq
  (.seq
   (.region 0 [⟨(some 57), none, (.p (.mv (.t 8))), false, []⟩,
     ⟨(some 58), none, (.p (.mv (.t 9))), false, []⟩,
     ⟨(some 59), none, (.p (.bin .lss (.t 57) (.t 58))), false, []⟩] (some ⟨[0, 1, 5, 6, 7, 8, 9, 10, 59], [], false⟩))
   (.cond (.t 59)
    .skip
    (.exit 1)))
  (.block 2
   (.seq
    (.seq
     (.region 0 [⟨(some 60), none, (.p (.mv (.t 0))), false, []⟩,
       ⟨(some 61), none, (.p (.mv (.t 8))), false, []⟩,
       ⟨(some 62), none, (.p (.idxs (.t 60) (.t 61))), false, []⟩,
       ⟨(some 63), none, (.p (.mv (.t 6))), false, []⟩,
       ⟨(some 64), none, (.p (.bin .neq (.t 62) (.t 63))), false, []⟩] (some ⟨[0, 1, 5, 6, 7, 8, 9, 10, 64], [], false⟩))
     (.cond (.t 64)
      (.seq
       (.region 0 [⟨(some 65), none, (.p (.mv (.t 0))), false, []⟩,
         ⟨(some 66), none, (.p (.mv (.t 8))), false, []⟩,
         ⟨(some 67), none, (.p (.bin .add (.t 66) (.c (.int .i64 1)))), false, []⟩,
         ⟨(some 68), none, (.p (.mv (.t 9))), false, []⟩,
         ⟨(some 69), none, (.p (.slices (.t 65) (some (.t 67)) (some (.t 68)))), false, []⟩,
         ⟨(some 70), none, (.p (.mv (.t 6))), false, []⟩,
         ⟨(some 71), none, (.call 80 [(.t 69), (.t 70)] false), false, []⟩,
         ⟨(some 11), none, (.p (.mv (.t 71))), false, []⟩] (some ⟨[0, 1, 5, 6, 7, 8, 9, 10, 11], [], false⟩))
       (.seq
        (.seq
         (.region 0 [⟨(some 72), none, (.p (.mv (.t 11))), false, []⟩,
           ⟨(some 73), none, (.p (.bin .lss (.t 72) (.c (.int .i64 0)))), false, []⟩] (some ⟨[0, 1, 5, 6, 7, 8, 9, 10, 11, 73], [], false⟩))
         (.cond (.t 73)
          (.seq
           (.region 0 [⟨(some 4), none, (.p (.mv (.c (.int .i64 (-1))))), false, []⟩] (some ⟨[4], [], false⟩))
           .ret)
          .skip))
        (.region 0 [⟨(some 74), none, (.p (.mv (.t 8))), false, []⟩,
          ⟨(some 75), none, (.p (.mv (.t 11))), false, []⟩,
          ⟨(some 76), none, (.p (.bin .add (.t 75) (.c (.int .i64 1)))), false, []⟩,
          ⟨(some 77), none, (.p (.bin .add (.t 74) (.t 76))), false, []⟩,
          ⟨(some 8), none, (.p (.mv (.t 77))), false, []⟩] (some ⟨[0, 1, 5, 6, 7, 8, 9, 10], [], false⟩))))
      .skip))
    (.seq
     (.seq
      (.region 0 [⟨(some 78), none, (.p (.mv (.t 0))), false, []⟩,
        ⟨(some 79), none, (.p (.mv (.t 8))), false, []⟩,
        ⟨(some 80), none, (.p (.bin .add (.t 79) (.c (.int .i64 1)))), false, []⟩,
        ⟨(some 81), none, (.p (.idxs (.t 78) (.t 80))), false, []⟩,
        ⟨(some 82), none, (.p (.mv (.t 7))), false, []⟩,
        ⟨(some 83), none, (.p (.bin .eql (.t 81) (.t 82))), false, []⟩,
        ⟨(some 84), none, (.p (.mv (.t 83))), false, []⟩,
        ⟨(some 85), (some (84, true)), (.p (.mv (.t 0))), false, []⟩,
        ⟨(some 86), (some (84, true)), (.p (.mv (.t 8))), false, []⟩,
        ⟨(some 87), (some (84, true)), (.p (.mv (.t 8))), false, []⟩,
        ⟨(some 88), (some (84, true)), (.p (.mv (.t 5))), false, []⟩,
        ⟨(some 89), (some (84, true)), (.p (.bin .add (.t 87) (.t 88))), false, []⟩,
        ⟨(some 90), (some (84, true)), (.p (.slices (.t 85) (some (.t 86)) (some (.t 89)))), false, []⟩,
        ⟨(some 91), (some (84, true)), (.p (.mv (.t 1))), false, []⟩,
        ⟨(some 92), (some (84, true)), (.p (.bin .eql (.t 90) (.t 91))), false, []⟩,
        ⟨(some 93), none, (.p (.pick (.t 84) (.t 92) (.c (.bool false)))), false, []⟩] (some ⟨[0, 1, 5, 6, 7, 8, 9, 10, 93], [], false⟩))
      (.cond (.t 93)
       (.seq
        (.region 0 [⟨(some 94), none, (.p (.mv (.t 8))), false, []⟩,
          ⟨(some 4), none, (.p (.mv (.t 94))), false, []⟩] (some ⟨[4], [], false⟩))
        .ret)
       .skip))
     (.seq
      (.region 0 [⟨(some 95), none, (.p (.mv (.t 8))), false, []⟩,
        ⟨(some 96), none, (.p (.bin .add (.t 95) (.c (.int .i64 1)))), false, []⟩,
        ⟨(some 8), none, (.p (.mv (.t 96))), false, []⟩] (some ⟨[0, 1, 5, 6, 7, 8, 9, 10], [], false⟩))
      (.seq
       (.region 0 [⟨(some 97), none, (.p (.mv (.t 10))), false, []⟩,
         ⟨(some 98), none, (.p (.bin .add (.t 97) (.c (.int .i64 1)))), false, []⟩,
         ⟨(some 10), none, (.p (.mv (.t 98))), false, []⟩] (some ⟨[0, 1, 5, 6, 7, 8, 9, 10], [], false⟩))
       (.seq
        (.region 0 [⟨(some 99), none, (.p (.mv (.t 5))), false, []⟩,
          ⟨(some 100), none, (.r (.load 1 false (.c (.lit (.pointer (some ⟨0, 0, none⟩)))))), false, []⟩,
          ⟨(some 101), none, (.p (.bin .leq (.t 99) (.t 100))), false, []⟩,
          ⟨(some 102), none, (.p (.mv (.t 101))), false, []⟩,
          ⟨(some 103), (some (102, true)), (.p (.mv (.t 10))), false, []⟩,
          ⟨(some 104), (some (102, true)), (.p (.mv (.t 8))), false, []⟩,
          ⟨(some 105), (some (102, true)), (.call 82 [(.t 104)] false), false, []⟩,
          ⟨(some 106), (some (102, true)), (.p (.bin .gtr (.t 103) (.t 105))), false, []⟩,
          ⟨(some 107), none, (.p (.pick (.t 102) (.t 106) (.c (.bool false)))), false, []⟩] (some ⟨[0, 1, 5, 6, 7, 8, 9, 10, 107], [], false⟩))
        (.cond (.t 107)
         (.seq
          (.region 0 [⟨(some 108), none, (.p (.mv (.t 0))), false, []⟩,
            ⟨(some 109), none, (.p (.mv (.t 8))), false, []⟩,
            ⟨(some 110), none, (.p (.slices (.t 108) (some (.t 109)) none)), false, []⟩,
            ⟨(some 111), none, (.p (.mv (.t 1))), false, []⟩,
            ⟨(some 112), none, (.call 81 [(.t 110), (.t 111)] false), false, []⟩,
            ⟨(some 12), none, (.p (.mv (.t 112))), false, []⟩] (some ⟨[8, 12], [], false⟩))
          (.seq
           (.seq
            (.region 0 [⟨(some 113), none, (.p (.mv (.t 12))), false, []⟩,
              ⟨(some 114), none, (.p (.bin .geq (.t 113) (.c (.int .i64 0)))), false, []⟩] (some ⟨[8, 12, 114], [], false⟩))
            (.cond (.t 114)
             (.seq
              (.region 0 [⟨(some 115), none, (.p (.mv (.t 12))), false, []⟩,
                ⟨(some 116), none, (.p (.mv (.t 8))), false, []⟩,
                ⟨(some 117), none, (.p (.bin .add (.t 115) (.t 116))), false, []⟩,
                ⟨(some 4), none, (.p (.mv (.t 117))), false, []⟩] (some ⟨[4], [], false⟩))
              .ret)
             .skip))
           (.seq
            (.region 0 [⟨(some 4), none, (.p (.mv (.c (.int .i64 (-1))))), false, []⟩] (some ⟨[4], [], false⟩))
            .ret)))
         (.seq
          (.region 0 [⟨(some 118), none, (.p (.mv (.t 5))), false, []⟩,
            ⟨(some 119), none, (.r (.load 1 false (.c (.lit (.pointer (some ⟨0, 0, none⟩)))))), false, []⟩,
            ⟨(some 120), none, (.p (.bin .gtr (.t 118) (.t 119))), false, []⟩,
            ⟨(some 121), none, (.p (.mv (.t 120))), false, []⟩,
            ⟨(some 122), (some (121, true)), (.p (.mv (.t 10))), false, []⟩,
            ⟨(some 123), (some (121, true)), (.p (.mv (.t 8))), false, []⟩,
            ⟨(some 124), (some (121, true)), (.p (.bin .shr (.t 123) (.c (.int .u64 4)))), false, []⟩,
            ⟨(some 125), (some (121, true)), (.p (.bin .add (.c (.int .i64 4)) (.t 124))), false, []⟩,
            ⟨(some 126), (some (121, true)), (.p (.bin .geq (.t 122) (.t 125))), false, []⟩,
            ⟨(some 127), none, (.p (.pick (.t 121) (.t 126) (.c (.bool false)))), false, []⟩,
            ⟨(some 128), none, (.p (.mv (.t 127))), false, []⟩,
            ⟨(some 129), (some (128, true)), (.p (.mv (.t 8))), false, []⟩,
            ⟨(some 130), (some (128, true)), (.p (.mv (.t 9))), false, []⟩,
            ⟨(some 131), (some (128, true)), (.p (.bin .lss (.t 129) (.t 130))), false, []⟩,
            ⟨(some 132), none, (.p (.pick (.t 128) (.t 131) (.c (.bool false)))), false, []⟩] (some ⟨[0, 1, 5, 6, 7, 8, 9, 10, 132], [], false⟩))
          (.cond (.t 132)
           (.seq
            (.region 0 [⟨(some 133), none, (.p (.mv (.t 0))), false, []⟩,
              ⟨(some 134), none, (.p (.mv (.t 8))), false, []⟩,
              ⟨(some 135), none, (.p (.slices (.t 133) (some (.t 134)) none)), false, []⟩,
              ⟨(some 136), none, (.p (.mv (.t 1))), false, []⟩,
              ⟨(some 137), none, (.call 83 [(.t 135), (.t 136)] false), false, []⟩,
              ⟨(some 13), none, (.p (.mv (.t 137))), false, []⟩] (some ⟨[8, 13], [], false⟩))
            (.seq
             (.seq
              (.region 0 [⟨(some 138), none, (.p (.mv (.t 13))), false, []⟩,
                ⟨(some 139), none, (.p (.bin .lss (.t 138) (.c (.int .i64 0)))), false, []⟩] (some ⟨[8, 13, 139], [], false⟩))
              (.cond (.t 139)
               (.seq
                (.region 0 [⟨(some 4), none, (.p (.mv (.c (.int .i64 (-1))))), false, []⟩] (some ⟨[4], [], false⟩))
                .ret)
               .skip))
             (.seq
              (.region 0 [⟨(some 140), none, (.p (.mv (.t 8))), false, []⟩,
                ⟨(some 141), none, (.p (.mv (.t 13))), false, []⟩,
                ⟨(some 142), none, (.p (.bin .add (.t 140) (.t 141))), false, []⟩,
                ⟨(some 4), none, (.p (.mv (.t 142))), false, []⟩] (some ⟨[4], [], false⟩))
              .ret)))
           .skip))))))))))
def Try.c77 : AC :=
 (.seq
  (.region 0 [⟨(some 4), none, (.p (.mv (.c (.int .i64 0)))), false, []⟩] (some ⟨[0, 1], [], false⟩))
  (.seq
   (.region 0 [⟨(some 14), none, (.p (.mv (.t 1))), false, []⟩,
     ⟨(some 15), none, (.p (.lenS (.t 14))), false, []⟩,
     ⟨(some 5), none, (.p (.mv (.t 15))), false, []⟩] (some ⟨[0, 1, 5], [], false⟩))
   (.seq
    (.block 0
     (.seq
      (.region 0 [⟨(some 17), none, (.p (.mv (.t 5))), false, []⟩,
        ⟨(some 18), none, (.p (.bin .eql (.t 17) (.c (.int .i64 0)))), false, []⟩,
        ⟨(some 19), none, (.p (.mv (.t 18))), false, []⟩,
        ⟨(some 20), (some (19, false)), (.p (.mv (.t 1))), false, []⟩,
        ⟨(some 21), (some (19, false)), (.p (.mv (.t 0))), false, []⟩,
        ⟨(some 22), (some (19, false)), (.p (.bin .eql (.t 20) (.t 21))), false, []⟩,
        ⟨(some 23), none, (.p (.pick (.t 19) (.c (.bool true)) (.t 22))), false, []⟩,
        ⟨(some 16), none, (.p (.mv (.t 23))), false, []⟩] (some ⟨[0, 1, 5, 16], [], false⟩))
      (.cond (.t 16)
       (.seq
        (.region 0 [⟨(some 4), none, (.p (.mv (.c (.int .i64 0)))), false, []⟩] (some ⟨[4], [], false⟩))
        .ret)
       (.seq
        (.region 0 [⟨(some 25), none, (.p (.mv (.t 5))), false, []⟩,
          ⟨(some 26), none, (.p (.bin .eql (.t 25) (.c (.int .i64 1)))), false, []⟩,
          ⟨(some 24), none, (.p (.mv (.t 26))), false, []⟩] (some ⟨[0, 1, 5, 24], [], false⟩))
        (.cond (.t 24)
         (.seq
          (.region 0 [⟨(some 27), none, (.p (.mv (.t 0))), false, []⟩,
            ⟨(some 28), none, (.p (.mv (.t 1))), false, []⟩,
            ⟨(some 29), none, (.p (.idxs (.t 28) (.c (.int .i64 0)))), false, []⟩,
            ⟨(some 30), none, (.call 80 [(.t 27), (.t 29)] false), false, []⟩,
            ⟨(some 4), none, (.p (.mv (.t 30))), false, []⟩] (some ⟨[4], [], false⟩))
          .ret)
         (.seq
          (.region 0 [⟨(some 32), none, (.p (.mv (.t 5))), false, []⟩,
            ⟨(some 33), none, (.p (.mv (.t 0))), false, []⟩,
            ⟨(some 34), none, (.p (.lenS (.t 33))), false, []⟩,
            ⟨(some 35), none, (.p (.bin .geq (.t 32) (.t 34))), false, []⟩,
            ⟨(some 31), none, (.p (.mv (.t 35))), false, []⟩] (some ⟨[0, 1, 5, 31], [], false⟩))
          (.cond (.t 31)
           (.seq
            (.region 0 [⟨(some 4), none, (.p (.mv (.c (.int .i64 (-1))))), false, []⟩] (some ⟨[4], [], false⟩))
            .ret)
           (.seq
            (.region 0 [⟨(some 37), none, (.p (.mv (.t 5))), false, []⟩,
              ⟨(some 38), none, (.r (.load 1 false (.c (.lit (.pointer (some ⟨0, 0, none⟩)))))), false, []⟩,
              ⟨(some 39), none, (.p (.bin .leq (.t 37) (.t 38))), false, []⟩,
              ⟨(some 40), none, (.p (.mv (.t 39))), false, []⟩,
              ⟨(some 41), (some (40, true)), (.p (.mv (.t 0))), false, []⟩,
              ⟨(some 42), (some (40, true)), (.p (.lenS (.t 41))), false, []⟩,
              ⟨(some 43), (some (40, true)), (.p (.bin .leq (.t 42) (.c (.int .i64 64)))), false, []⟩,
              ⟨(some 44), none, (.p (.pick (.t 40) (.t 43) (.c (.bool false)))), false, []⟩,
              ⟨(some 36), none, (.p (.mv (.t 44))), false, []⟩] (some ⟨[0, 1, 5, 36], [], false⟩))
            (.cond (.t 36)
             (.seq
              (.region 0 [⟨(some 45), none, (.p (.mv (.t 0))), false, []⟩,
                ⟨(some 46), none, (.p (.mv (.t 1))), false, []⟩,
                ⟨(some 47), none, (.call 81 [(.t 45), (.t 46)] false), false, []⟩,
                ⟨(some 4), none, (.p (.mv (.t 47))), false, []⟩] (some ⟨[4], [], false⟩))
              .ret)
             .skip)))))))))
    (.seq
     (.region 0 [⟨(some 48), none, (.p (.mv (.t 1))), false, []⟩,
       ⟨(some 49), none, (.p (.idxs (.t 48) (.c (.int .i64 0)))), false, []⟩,
       ⟨(some 6), none, (.p (.mv (.t 49))), false, []⟩] (some ⟨[0, 1, 5, 6], [], false⟩))
     (.seq
      (.region 0 [⟨(some 50), none, (.p (.mv (.t 1))), false, []⟩,
        ⟨(some 51), none, (.p (.idxs (.t 50) (.c (.int .i64 1)))), false, []⟩,
        ⟨(some 7), none, (.p (.mv (.t 51))), false, []⟩] (some ⟨[0, 1, 5, 6, 7], [], false⟩))
      (.seq
       (.region 0 [⟨(some 8), none, (.p (.mv (.c (.int .i64 0)))), false, []⟩] (some ⟨[0, 1, 5, 6, 7, 8], [], false⟩))
       (.seq
        (.region 0 [⟨(some 52), none, (.p (.mv (.t 0))), false, []⟩,
          ⟨(some 53), none, (.p (.lenS (.t 52))), false, []⟩,
          ⟨(some 54), none, (.p (.mv (.t 5))), false, []⟩,
          ⟨(some 55), none, (.p (.bin .sub (.t 53) (.t 54))), false, []⟩,
          ⟨(some 56), none, (.p (.bin .add (.t 55) (.c (.int .i64 1)))), false, []⟩,
          ⟨(some 9), none, (.p (.mv (.t 56))), false, []⟩] (some ⟨[0, 1, 5, 6, 7, 8, 9], [], false⟩))
        (.seq
         (.region 0 [⟨(some 10), none, (.p (.mv (.c (.int .i64 0)))), false, []⟩] (some ⟨[0, 1, 5, 6, 7, 8, 9, 10], [], false⟩))
         (.seq
          (.block 1
           (.loop (some ⟨[0, 1, 5, 6, 7, 8, 9, 10], [], true⟩) Try.c77b0))
          (.seq
           (.region 0 [⟨(some 4), none, (.p (.mv (.c (.int .i64 (-1))))), false, []⟩] (some ⟨[4], [], false⟩))
           .ret))))))))))
theorem Try.run77 {xs : List AV} {r : AV} (hl : xs.length ≤ 143) (h : aw Try.prog Try.c77 (Pv.Ends [4] r) (entry xs)) : Run Try.prog 77 xs r :=
  run_of (fun _ _ => drawOk Try.mixed) Try.func77 rfl rfl rfl (by kernel_rfl) (by kernel_rfl) hl h
/- 78 (*strings.Builder).copyCheck: NOT COVERED -/
/- 79 (*strings.Builder).grow: NOT COVERED -/
/-! 80 internal/stringslite.IndexByte : params [9, 5], results [3], free 0, zeros [(.string ⟨#[]⟩), (.int .u8 (0))] -/
def Try.c80 : AC :=
 (.seq
  (.region 0 [⟨(some 4), none, (.p (.mv (.c (.int .i64 0)))), false, []⟩] (some ⟨[0, 1], [], false⟩))
  (.seq
   (.region 0 [⟨(some 5), none, (.p (.mv (.t 0))), false, []⟩,
     ⟨(some 6), none, (.p (.mv (.t 1))), false, []⟩,
     ⟨(some 7), none, (.p (.idxb (.t 5) (.t 6))), false, []⟩,
     ⟨(some 4), none, (.p (.mv (.t 7))), false, []⟩] (some ⟨[4], [], false⟩))
   .ret))
theorem Try.run80 {xs : List AV} {r : AV} (hl : xs.length ≤ 8) (h : aw Try.prog Try.c80 (Pv.Ends [4] r) (entry xs)) : Run Try.prog 80 xs r :=
  run_of (fun _ _ => drawOk Try.mixed) Try.func80 rfl rfl rfl (by kernel_rfl) (by kernel_rfl) hl h
/-! 82 internal/bytealg.Cutover : params [3], results [3], free 0, zeros [(.int .i64 (0))] -/
def Try.c82 : AC :=
 (.seq
  (.region 0 [⟨(some 2), none, (.p (.mv (.c (.int .i64 0)))), false, []⟩] (some ⟨[0], [], false⟩))
  (.seq
   (.region 0 [⟨(some 3), none, (.p (.mv (.t 0))), false, []⟩,
     ⟨(some 4), none, (.p (.bin .add (.t 3) (.c (.int .i64 16)))), false, []⟩,
     ⟨(some 5), none, (.p (.bin .quo (.t 4) (.c (.int .i64 8)))), false, []⟩,
     ⟨(some 2), none, (.p (.mv (.t 5))), false, []⟩] (some ⟨[2], [], false⟩))
   .ret))
theorem Try.run82 {xs : List AV} {r : AV} (hl : xs.length ≤ 6) (h : aw Try.prog Try.c82 (Pv.Ends [2] r) (entry xs)) : Run Try.prog 82 xs r :=
  run_of (fun _ _ => drawOk Try.mixed) Try.func82 rfl rfl rfl (by kernel_rfl) (by kernel_rfl) hl h
/-! 83 internal/bytealg.IndexRabinKarp[string] : params [9, 9], results [3], free 0, zeros [(.string ⟨#[]⟩), (.string ⟨#[]⟩)] -/
def Try.c83b0 : AC :=
 (.seq
  (.seq
   (.region 0 [⟨(some 18), none, (.p (.mv (.t 9))), false, []⟩,
     ⟨(some 19), none, (.p (.mv (.t 7))), false, []⟩,
     ⟨(some 20), none, (.p (.bin .lss (.t 18) (.t 19))), false, []⟩] (some ⟨[0, 1, 5, 6, 7, 8, 9, 20], [], false⟩))
   (.cond (.t 20)
    .skip
    (.exit 0)))
  (.seq
   (.block 1
    (.region 0 [⟨(some 23), none, (.p (.mv (.t 8))), false, []⟩,
      ⟨(some 24), none, (.p (.bin .mul (.t 23) (.c (.int .u32 16777619)))), false, []⟩,
      ⟨(some 25), none, (.p (.mv (.t 0))), false, []⟩,
      ⟨(some 26), none, (.p (.mv (.t 9))), false, []⟩,
      ⟨(some 27), none, (.p (.idxs (.t 25) (.t 26))), false, []⟩,
      ⟨(some 28), none, (.p (.convI .u32 (.t 27))), false, []⟩,
      ⟨(some 29), none, (.p (.bin .add (.t 24) (.t 28))), false, []⟩,
      ⟨(some 8), none, (.p (.mv (.t 29))), false, []⟩] (some ⟨[0, 1, 5, 6, 7, 8, 9], [], false⟩)))
   (.region 0 [⟨(some 21), none, (.p (.mv (.t 9))), false, []⟩,
     ⟨(some 22), none, (.p (.bin .add (.t 21) (.c (.int .i64 1)))), false, []⟩,
     ⟨(some 9), none, (.p (.mv (.t 22))), false, []⟩] (some ⟨[0, 1, 5, 6, 7, 8, 9], [], false⟩))))
def Try.c83b1 : AC :=
 (.seq
  (.seq
   (.region 0 [⟨(some 41), none, (.p (.mv (.t 10))), false, []⟩,
     ⟨(some 42), none, (.p (.mv (.t 0))), false, []⟩,
     ⟨(some 43), none, (.p (.lenS (.t 42))), false, []⟩,
     ⟨(some 44), none, (.p (.bin .lss (.t 41) (.t 43))), false, []⟩] (some ⟨[0, 1, 5, 6, 7, 8, 10, 44], [], false⟩))
   (.cond (.t 44)
    .skip
    (.exit 2)))
  (.block 3
   (.seq
    (.region 0 [⟨(some 45), none, (.p (.mv (.t 8))), false, []⟩,
      ⟨(some 46), none, (.p (.bin .mul (.t 45) (.c (.int .u32 16777619)))), false, []⟩,
      ⟨(some 8), none, (.p (.mv (.t 46))), false, []⟩] (some ⟨[0, 1, 5, 6, 7, 8, 10], [], false⟩))
    (.seq
     (.region 0 [⟨(some 47), none, (.p (.mv (.t 8))), false, []⟩,
       ⟨(some 48), none, (.p (.mv (.t 0))), false, []⟩,
       ⟨(some 49), none, (.p (.mv (.t 10))), false, []⟩,
       ⟨(some 50), none, (.p (.idxs (.t 48) (.t 49))), false, []⟩,
       ⟨(some 51), none, (.p (.convI .u32 (.t 50))), false, []⟩,
       ⟨(some 52), none, (.p (.bin .add (.t 47) (.t 51))), false, []⟩,
       ⟨(some 8), none, (.p (.mv (.t 52))), false, []⟩] (some ⟨[0, 1, 5, 6, 7, 8, 10], [], false⟩))
     (.seq
      (.region 0 [⟨(some 53), none, (.p (.mv (.t 8))), false, []⟩,
        ⟨(some 54), none, (.p (.mv (.t 6))), false, []⟩,
        ⟨(some 55), none, (.p (.mv (.t 0))), false, []⟩,
        ⟨(some 56), none, (.p (.mv (.t 10))), false, []⟩,
        ⟨(some 57), none, (.p (.mv (.t 7))), false, []⟩,
        ⟨(some 58), none, (.p (.bin .sub (.t 56) (.t 57))), false, []⟩,
        ⟨(some 59), none, (.p (.idxs (.t 55) (.t 58))), false, []⟩,
        ⟨(some 60), none, (.p (.convI .u32 (.t 59))), false, []⟩,
        ⟨(some 61), none, (.p (.bin .mul (.t 54) (.t 60))), false, []⟩,
        ⟨(some 62), none, (.p (.bin .sub (.t 53) (.t 61))), false, []⟩,
        ⟨(some 8), none, (.p (.mv (.t 62))), false, []⟩] (some ⟨[0, 1, 5, 6, 7, 8, 10], [], false⟩))
      (.seq
       (.region 0 [⟨(some 63), none, (.p (.mv (.t 10))), false, []⟩,
         ⟨(some 64), none, (.p (.bin .add (.t 63) (.c (.int .i64 1)))), false, []⟩,
         ⟨(some 10), none, (.p (.mv (.t 64))), false, []⟩] (some ⟨[0, 1, 5, 6, 7, 8, 10], [], false⟩))
       (.seq
        (.region 0 [⟨(some 65), none, (.p (.mv (.t 8))), false, []⟩,
          ⟨(some 66), none, (.p (.mv (.t 5))), false, []⟩,
          ⟨(some 67), none, (.p (.bin .eql (.t 65) (.t 66))), false, []⟩,
          ⟨(some 68), none, (.p (.mv (.t 67))), false, []⟩,
          ⟨(some 69), (some (68, true)), (.p (.mv (.t 0))), false, []⟩,
          ⟨(some 70), (some (68, true)), (.p (.mv (.t 10))), false, []⟩,
          ⟨(some 71), (some (68, true)), (.p (.mv (.t 7))), false, []⟩,
          ⟨(some 72), (some (68, true)), (.p (.bin .sub (.t 70) (.t 71))), false, []⟩,
          ⟨(some 73), (some (68, true)), (.p (.mv (.t 10))), false, []⟩,
          ⟨(some 74), (some (68, true)), (.p (.slices (.t 69) (some (.t 72)) (some (.t 73)))), false, []⟩,
          ⟨(some 75), (some (68, true)), (.p (.mv (.t 1))), false, []⟩,
          ⟨(some 76), (some (68, true)), (.p (.bin .eql (.t 74) (.t 75))), false, []⟩,
          ⟨(some 77), none, (.p (.pick (.t 68) (.t 76) (.c (.bool false)))), false, []⟩] (some ⟨[0, 1, 5, 6, 7, 8, 10, 77], [], false⟩))
        (.cond (.t 77)
         (.seq
          (.region 0 [⟨(some 78), none, (.p (.mv (.t 10))), false, []⟩,
            ⟨(some 79), none, (.p (.mv (.t 7))), false, []⟩,
            ⟨(some 80), none, (.p (.bin .sub (.t 78) (.t 79))), false, []⟩,
            ⟨(some 4), none, (.p (.mv (.t 80))), false, []⟩] (some ⟨[4], [], false⟩))
          .ret)
         .skip))))))))
def Try.c83 : AC :=
 (.seq
  (.region 0 [⟨(some 4), none, (.p (.mv (.c (.int .i64 0)))), false, []⟩] (some ⟨[0, 1], [], false⟩))
  (.seq
   (.region 0 [⟨(some 12), none, (.p (.mv (.t 1))), false, []⟩,
     ⟨(some 13), none, (.call 87 [(.t 12)] false), false, []⟩,
     ⟨(some 11), none, (.p (.mv (.t 13))), false, []⟩,
     ⟨(some 14), none, (.p (.ext (.t 11) 0)), false, []⟩,
     ⟨(some 15), none, (.p (.ext (.t 11) 1)), false, []⟩,
     ⟨(some 5), none, (.p (.mv (.t 14))), false, []⟩,
     ⟨(some 6), none, (.p (.mv (.t 15))), false, []⟩] (some ⟨[0, 1, 5, 6], [], false⟩))
   (.seq
    (.region 0 [⟨(some 16), none, (.p (.mv (.t 1))), false, []⟩,
      ⟨(some 17), none, (.p (.lenS (.t 16))), false, []⟩,
      ⟨(some 7), none, (.p (.mv (.t 17))), false, []⟩] (some ⟨[0, 1, 5, 6, 7], [], false⟩))
    (.seq
     (.region 0 [⟨(some 8), none, (.p (.mv (.c (.int .u32 0)))), false, []⟩] (some ⟨[0, 1, 5, 6, 7, 8], [], false⟩))
     (.seq
      (.seq
       (.region 0 [⟨(some 9), none, (.p (.mv (.c (.int .i64 0)))), false, []⟩] (some ⟨[0, 1, 5, 6, 7, 8, 9], [], false⟩))
       (.block 0
        (.loop (some ⟨[0, 1, 5, 6, 7, 8, 9], [], true⟩) Try.c83b0)))
      (.seq
       (.seq
        (.region 0 [⟨(some 30), none, (.p (.mv (.t 8))), false, []⟩,
          ⟨(some 31), none, (.p (.mv (.t 5))), false, []⟩,
          ⟨(some 32), none, (.p (.bin .eql (.t 30) (.t 31))), false, []⟩,
          ⟨(some 33), none, (.p (.mv (.t 32))), false, []⟩,
          ⟨(some 34), (some (33, true)), (.p (.mv (.t 0))), false, []⟩,
          ⟨(some 35), (some (33, true)), (.p (.mv (.t 7))), false, []⟩,
          ⟨(some 36), (some (33, true)), (.p (.slices (.t 34) none (some (.t 35)))), false, []⟩,
          ⟨(some 37), (some (33, true)), (.p (.mv (.t 1))), false, []⟩,
          ⟨(some 38), (some (33, true)), (.p (.bin .eql (.t 36) (.t 37))), false, []⟩,
          ⟨(some 39), none, (.p (.pick (.t 33) (.t 38) (.c (.bool false)))), false, []⟩] (some ⟨[0, 1, 5, 6, 7, 8, 39], [], false⟩))
        (.cond (.t 39)
         (.seq
          (.region 0 [⟨(some 4), none, (.p (.mv (.c (.int .i64 0)))), false, []⟩] (some ⟨[4], [], false⟩))
          .ret)
         .skip))
       (.seq
        (.seq
         (.region 0 [⟨(some 40), none, (.p (.mv (.t 7))), false, []⟩,
           ⟨(some 10), none, (.p (.mv (.t 40))), false, []⟩] (some ⟨[0, 1, 5, 6, 7, 8, 10], [], false⟩))
         (.block 2
          (.loop (some ⟨[0, 1, 5, 6, 7, 8, 10], [], true⟩) Try.c83b1)))
        (.seq
         (.region 0 [⟨(some 4), none, (.p (.mv (.c (.int .i64 (-1))))), false, []⟩] (some ⟨[4], [], false⟩))
         .ret))))))))
theorem Try.run83 {xs : List AV} {r : AV} (hl : xs.length ≤ 81) (h : aw Try.prog Try.c83 (Pv.Ends [4] r) (entry xs)) : Run Try.prog 83 xs r :=
  run_of (fun _ _ => drawOk Try.mixed) Try.func83 rfl rfl rfl (by kernel_rfl) (by kernel_rfl) hl h
/-! 87 internal/bytealg.hashStr[string] : params [9], results [136, 136], free 0, zeros [(.string ⟨#[]⟩)] -/
def Try.c87b0 : AC :=
 (.seq
  (.seq
   (.region 0 [⟨(some 9), none, (.p (.mv (.t 5))), false, []⟩,
     ⟨(some 10), none, (.p (.mv (.t 0))), false, []⟩,
     ⟨(some 11), none, (.p (.lenS (.t 10))), false, []⟩,
     ⟨(some 12), none, (.p (.bin .lss (.t 9) (.t 11))), false, []⟩] (some ⟨[0, 4, 5, 12], [], false⟩))
   (.cond (.t 12)
    .skip
    (.exit 0)))
  (.seq
   (.block 1
    (.region 0 [⟨(some 15), none, (.p (.mv (.t 4))), false, []⟩,
      ⟨(some 16), none, (.p (.bin .mul (.t 15) (.c (.int .u32 16777619)))), false, []⟩,
      ⟨(some 17), none, (.p (.mv (.t 0))), false, []⟩,
      ⟨(some 18), none, (.p (.mv (.t 5))), false, []⟩,
      ⟨(some 19), none, (.p (.idxs (.t 17) (.t 18))), false, []⟩,
      ⟨(some 20), none, (.p (.convI .u32 (.t 19))), false, []⟩,
      ⟨(some 21), none, (.p (.bin .add (.t 16) (.t 20))), false, []⟩,
      ⟨(some 4), none, (.p (.mv (.t 21))), false, []⟩] (some ⟨[0, 4, 5], [], false⟩)))
   (.region 0 [⟨(some 13), none, (.p (.mv (.t 5))), false, []⟩,
     ⟨(some 14), none, (.p (.bin .add (.t 13) (.c (.int .i64 1)))), false, []⟩,
     ⟨(some 5), none, (.p (.mv (.t 14))), false, []⟩] (some ⟨[0, 4, 5], [], false⟩))))
def Try.c87b1 : AC :=
 (.seq
  (.seq
   (.region 0 [⟨(some 24), none, (.p (.mv (.t 8))), false, []⟩,
     ⟨(some 25), none, (.p (.bin .gtr (.t 24) (.c (.int .i64 0)))), false, []⟩] (some ⟨[4, 6, 7, 8, 25], [], false⟩))
   (.cond (.t 25)
    .skip
    (.exit 2)))
  (.seq
   (.block 3
    (.seq
     (.seq
      (.region 0 [⟨(some 28), none, (.p (.mv (.t 8))), false, []⟩,
        ⟨(some 29), none, (.p (.bin .and (.t 28) (.c (.int .i64 1)))), false, []⟩,
        ⟨(some 30), none, (.p (.bin .neq (.t 29) (.c (.int .i64 0)))), false, []⟩] (some ⟨[4, 6, 7, 8, 30], [], false⟩))
      (.cond (.t 30)
       (.region 0 [⟨(some 31), none, (.p (.mv (.t 6))), false, []⟩,
         ⟨(some 32), none, (.p (.mv (.t 7))), false, []⟩,
         ⟨(some 33), none, (.p (.bin .mul (.t 31) (.t 32))), false, []⟩,
         ⟨(some 6), none, (.p (.mv (.t 33))), false, []⟩] (some ⟨[4, 6, 7, 8], [], false⟩))
       .skip))
     (.region 0 [⟨(some 34), none, (.p (.mv (.t 7))), false, []⟩,
       ⟨(some 35), none, (.p (.mv (.t 7))), false, []⟩,
       ⟨(some 36), none, (.p (.bin .mul (.t 34) (.t 35))), false, []⟩,
       ⟨(some 7), none, (.p (.mv (.t 36))), false, []⟩] (some ⟨[4, 6, 7, 8], [], false⟩))))
   (.region 0 [⟨(some 26), none, (.p (.mv (.t 8))), false, []⟩,
     ⟨(some 27), none, (.p (.bin .shr (.t 26) (.c (.int .u64 1)))), false, []⟩,
     ⟨(some 8), none, (.p (.mv (.t 27))), false, []⟩] (some ⟨[4, 6, 7, 8], [], false⟩))))
def Try.c87 : AC :=
 (.seq
  (.region 0 [⟨(some 2), none, (.p (.mv (.c (.int .u32 0)))), false, []⟩,
    ⟨(some 3), none, (.p (.mv (.c (.int .u32 0)))), false, []⟩] (some ⟨[0], [], false⟩))
  (.seq
   (.region 0 [⟨(some 4), none, (.p (.mv (.c (.int .u32 0)))), false, []⟩] (some ⟨[0, 4], [], false⟩))
   (.seq
    (.seq
     (.region 0 [⟨(some 5), none, (.p (.mv (.c (.int .i64 0)))), false, []⟩] (some ⟨[0, 4, 5], [], false⟩))
     (.block 0
      (.loop (some ⟨[0, 4, 5], [], true⟩) Try.c87b0)))
    (.seq
     (.region 0 [⟨(some 6), none, (.p (.mv (.c (.int .u32 1)))), false, []⟩,
       ⟨(some 7), none, (.p (.mv (.c (.int .u32 16777619)))), false, []⟩] (some ⟨[0, 4, 6, 7], [], false⟩))
     (.seq
      (.seq
       (.region 0 [⟨(some 22), none, (.p (.mv (.t 0))), false, []⟩,
         ⟨(some 23), none, (.p (.lenS (.t 22))), false, []⟩,
         ⟨(some 8), none, (.p (.mv (.t 23))), false, []⟩] (some ⟨[4, 6, 7, 8], [], false⟩))
       (.block 2
        (.loop (some ⟨[4, 6, 7, 8], [], true⟩) Try.c87b1)))
      (.seq
       (.region 0 [⟨(some 37), none, (.p (.mv (.t 4))), false, []⟩,
         ⟨(some 38), none, (.p (.mv (.t 6))), false, []⟩,
         ⟨(some 2), none, (.p (.mv (.t 37))), false, []⟩,
         ⟨(some 3), none, (.p (.mv (.t 38))), false, []⟩] (some ⟨[2, 3], [], false⟩))
       .ret))))))
theorem Try.run87 {xs : List AV} {r : AV} (hl : xs.length ≤ 39) (h : aw Try.prog Try.c87 (Pv.Ends [2, 3] r) (entry xs)) : Run Try.prog 87 xs r :=
  run_of (fun _ _ => drawOk Try.mixed) Try.func87 rfl rfl rfl (by kernel_rfl) (by kernel_rfl) hl h
end Go.Proofs
