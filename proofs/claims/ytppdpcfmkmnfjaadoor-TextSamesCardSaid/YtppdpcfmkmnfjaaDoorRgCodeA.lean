/- The compiled code of this seat, and the rules that run it. (Printed by a program of ours.) -/
import Derived.Test.YtppdpcfmkmnfjaaDoorPvM4
import Derived.Test.YtppdpcfmkmnfjaaDoorProg
namespace Go.Proofs

open Go.Pv
set_option maxHeartbeats 4000000
theorem Tryd.mixed : Tryd.prog.follows .mixedOrders = true := by kernel_rfl
/-! 22 paling/text.Read.1 : params [], results [], free 2, zeros [] -/
def Tryd.c22 : AC :=
 (.seq
  (.region 0 [⟨(some 2), none, (.r (.load 1 false (.t 0))), false, []⟩,
    ⟨(some 3), none, (.p (.bin .neq (.t 2) (.c (.int .i64 0)))), false, []⟩] (some ⟨[1, 3], [], false⟩))
  (.cond (.t 3)
   (.region 0 [⟨none, none, (.e (.store 1 (.t 1) (.c (.sl 0 [] true))) none), false, []⟩] (some ⟨[], [], false⟩))
   .skip))
theorem Tryd.run22 {xs : List AV} {r : AV} (hl : xs.length ≤ 4) (h : aw Tryd.prog Tryd.c22 (Pv.Ends [] r) (entry xs)) : Run Tryd.prog 22 xs r :=
  run_of (fun _ _ => drawOk Tryd.mixed) Tryd.func22 rfl rfl rfl (by kernel_rfl) (by kernel_rfl) hl h
theorem Tryd.gen22 {xs : List AV} {r : AV} {H H' : Hp} (hl : xs.length ≤ 4) (h : aw Tryd.prog Tryd.c22 (Pv.EndsG [] r H') ⟨xs.zipIdx.map fun p => (p.2, p.1), H⟩) : Gen Tryd.prog 22 xs H r H' :=
  gen_of (fun _ _ => drawOk Tryd.mixed) Tryd.func22 rfl rfl rfl (by kernel_rfl) (by kernel_rfl) hl h
/-! 72 paling/line.stretches.1 : params [3], results [], free 3, zeros [(.int .i64 (0))] -/
def Tryd.c72 : AC :=
 (.seq
  (.seq
   (.region 0 [⟨(some 5), none, (.p (.mv (.t 0))), false, []⟩,
     ⟨(some 6), none, (.r (.load 1 false (.t 1))), false, []⟩,
     ⟨(some 7), none, (.p (.bin .gtr (.t 5) (.t 6))), false, []⟩] (some ⟨[0, 1, 2, 3, 7], [], false⟩))
   (.cond (.t 7)
    (.region 8 [⟨(some 8), none, (.r (.load 1 false (.t 2))), true, []⟩,
      ⟨(some 9), none, (.r (.load 1 false (.t 3))), true, []⟩,
      ⟨(some 10), none, (.r (.load 1 false (.t 1))), true, []⟩,
      ⟨(some 11), none, (.p (.mv (.t 0))), true, []⟩,
      ⟨(some 12), none, (.p (.slices (.t 9) (some (.t 10)) (some (.t 11)))), true, []⟩,
      ⟨(some 13), none, (.e (.mks 9 1 (.str []) 1 [(0, (.t 12))]) (some 5)), true, []⟩,
      ⟨(some 14), none, (.e (.append 9 1 1000000000 (.t 8) (.t 13)) (some 6)), true, []⟩,
      ⟨none, none, (.e (.store 1 (.t 2) (.t 14)) (some 7)), true, []⟩] (some ⟨[0, 1], [], false⟩))
    .skip))
  (.region 0 [⟨(some 15), none, (.p (.mv (.t 0))), false, []⟩,
    ⟨(some 16), none, (.p (.bin .add (.t 15) (.c (.int .i64 1)))), false, []⟩,
    ⟨none, none, (.e (.store 1 (.t 1) (.t 16)) none), false, []⟩] (some ⟨[], [], false⟩)))
theorem Tryd.run72 {xs : List AV} {r : AV} (hl : xs.length ≤ 17) (h : aw Tryd.prog Tryd.c72 (Pv.Ends [] r) (entry xs)) : Run Tryd.prog 72 xs r :=
  run_of (fun _ _ => drawOk Tryd.mixed) Tryd.func72 rfl rfl rfl (by kernel_rfl) (by kernel_rfl) hl h
theorem Tryd.gen72 {xs : List AV} {r : AV} {H H' : Hp} (hl : xs.length ≤ 17) (h : aw Tryd.prog Tryd.c72 (Pv.EndsG [] r H') ⟨xs.zipIdx.map fun p => (p.2, p.1), H⟩) : Gen Tryd.prog 72 xs H r H' :=
  gen_of (fun _ _ => drawOk Tryd.mixed) Tryd.func72 rfl rfl rfl (by kernel_rfl) (by kernel_rfl) hl h
/-! 82 paling/num.ReadList.1 : params [9], results [3, 4], free 2, zeros [(.string ⟨#[]⟩)] -/
def Tryd.c82 : AC :=
 (.seq
  (.region 0 [⟨(some 4), none, (.p (.mv (.c (.int .i64 0)))), false, []⟩,
    ⟨(some 5), none, (.p (.mv (.c (.bool false)))), false, []⟩] (some ⟨[0, 1, 2], [], false⟩))
  (.seq
   (.region 0 [⟨(some 6), none, (.p (.mv (.t 0))), false, []⟩,
     ⟨(some 7), none, (.r (.load 1 false (.t 1))), false, []⟩,
     ⟨(some 8), none, (.r (.load 1 false (.t 2))), false, []⟩,
     ⟨(some 9), none, (.call 54 [(.t 6), (.t 7), (.t 8)] false), false, []⟩,
     ⟨(some 10), none, (.p (.ext (.t 9) 0)), false, []⟩,
     ⟨(some 11), none, (.p (.ext (.t 9) 1)), false, []⟩,
     ⟨(some 4), none, (.p (.mv (.t 10))), false, []⟩,
     ⟨(some 5), none, (.p (.mv (.t 11))), false, []⟩] (some ⟨[4, 5], [], false⟩))
   .ret))
theorem Tryd.run82 {xs : List AV} {r : AV} (hl : xs.length ≤ 12) (h : aw Tryd.prog Tryd.c82 (Pv.Ends [4, 5] r) (entry xs)) : Run Tryd.prog 82 xs r :=
  run_of (fun _ _ => drawOk Tryd.mixed) Tryd.func82 rfl rfl rfl (by kernel_rfl) (by kernel_rfl) hl h
theorem Tryd.gen82 {xs : List AV} {r : AV} {H H' : Hp} (hl : xs.length ≤ 12) (h : aw Tryd.prog Tryd.c82 (Pv.EndsG [4, 5] r H') ⟨xs.zipIdx.map fun p => (p.2, p.1), H⟩) : Gen Tryd.prog 82 xs H r H' :=
  gen_of (fun _ _ => drawOk Tryd.mixed) Tryd.func82 rfl rfl rfl (by kernel_rfl) (by kernel_rfl) hl h
/-! 3 paling/palinglaw12.TextSames : params [22, 22], results [4], free 0, zeros [(.slice none 0 0), (.slice none 0 0)] -/
def Tryd.c3 : AC :=
 (.seq
  (.region 0 [⟨(some 4), none, (.p (.mv (.c (.bool false)))), false, []⟩] (some ⟨[0, 1], [], false⟩))
  (.seq
   (.seq
    (.region 0 [⟨(some 5), none, (.p (.mv (.t 0))), false, []⟩,
      ⟨(some 6), none, (.call 8 [(.t 5)] false), false, []⟩,
      ⟨(some 7), none, (.p (.mv (.t 6))), false, []⟩,
      ⟨(some 8), (some (7, false)), (.p (.mv (.t 1))), false, []⟩,
      ⟨(some 9), (some (7, false)), (.call 8 [(.t 8)] false), false, []⟩,
      ⟨(some 10), none, (.p (.pick (.t 7) (.c (.bool true)) (.t 9))), false, []⟩] (some ⟨[0, 1, 10], [], false⟩))
    (.cond (.t 10)
     (.seq
      (.region 0 [⟨(some 11), none, (.call 9 [] false), false, []⟩,
        ⟨(some 4), none, (.p (.mv (.t 11))), false, []⟩] (some ⟨[4], [], false⟩))
      .ret)
     .skip))
   (.seq
    (.region 0 [⟨(some 12), none, (.p (.mv (.t 0))), false, []⟩,
      ⟨(some 13), none, (.p (.mv (.t 1))), false, []⟩,
      ⟨(some 14), none, (.call 10 [(.t 12), (.t 13)] false), false, []⟩,
      ⟨(some 15), none, (.p (.mv (.t 0))), false, []⟩,
      ⟨(some 16), none, (.p (.mv (.t 1))), false, []⟩,
      ⟨(some 17), none, (.call 11 [(.t 15), (.t 16)] false), false, []⟩,
      ⟨(some 18), none, (.p (.binB .eql (.t 14) (.t 17))), false, []⟩,
      ⟨(some 19), none, (.p (.mv (.t 18))), false, []⟩,
      ⟨(some 20), (some (19, true)), (.p (.mv (.t 0))), false, []⟩,
      ⟨(some 21), (some (19, true)), (.p (.mv (.t 0))), false, []⟩,
      ⟨(some 22), (some (19, true)), (.call 10 [(.t 20), (.t 21)] false), false, []⟩,
      ⟨(some 23), none, (.p (.pick (.t 19) (.t 22) (.c (.bool false)))), false, []⟩,
      ⟨(some 24), none, (.p (.mv (.t 23))), false, []⟩,
      ⟨(some 25), (some (24, true)), (.call 9 [] false), false, []⟩,
      ⟨(some 26), none, (.p (.pick (.t 24) (.t 25) (.c (.bool false)))), false, []⟩,
      ⟨(some 4), none, (.p (.mv (.t 26))), false, []⟩] (some ⟨[4], [], false⟩))
    .ret)))
theorem Tryd.run3 {xs : List AV} {r : AV} (hl : xs.length ≤ 27) (h : aw Tryd.prog Tryd.c3 (Pv.Ends [4] r) (entry xs)) : Run Tryd.prog 3 xs r :=
  run_of (fun _ _ => drawOk Tryd.mixed) Tryd.func3 rfl rfl rfl (by kernel_rfl) (by kernel_rfl) hl h
/-! 8 paling/palinglaw12.Great : params [22], results [4], free 0, zeros [(.slice none 0 0)] -/
def Tryd.c8b0 : AC :=
 (.seq
  (.region 0 [⟨(some 73), none, (.p (.bin .lss (.t 72) (.t 71))), false, []⟩] (some ⟨[0, 3, 4, 70, 71, 72, 73], [], false⟩))
  (.seq
   (.cond (.t 73)
    .skip
    (.exit 2))
   (.seq
    (.block 3
     (.seq
      (.region 0 [⟨(some 74), none, (.p (.iaddr 1 (.t 70) (.t 72))), false, []⟩,
        ⟨(some 75), none, (.r (.load 1 false (.t 74))), false, []⟩,
        ⟨(some 6), none, (.p (.mv (.t 75))), false, []⟩] (some ⟨[0, 3, 4, 6, 70, 71, 72], [], false⟩))
      (.seq
       (.seq
        (.region 0 [⟨(some 76), none, (.p (.mv (.t 6))), false, []⟩,
          ⟨(some 77), none, (.p (.bin .gtr (.t 76) (.c (.int .i64 300)))), false, []⟩] (some ⟨[0, 3, 4, 6, 70, 71, 72, 77], [], false⟩))
        (.cond (.t 77)
         (.seq
          (.region 0 [⟨(some 2), none, (.p (.mv (.c (.bool true)))), false, []⟩] (some ⟨[2], [], false⟩))
          .ret)
         .skip))
       (.region 0 [⟨(some 78), none, (.p (.mv (.t 3))), false, []⟩,
         ⟨(some 79), none, (.p (.mv (.t 6))), false, []⟩,
         ⟨(some 80), none, (.p (.bin .add (.t 78) (.t 79))), false, []⟩,
         ⟨(some 3), none, (.p (.mv (.t 80))), false, []⟩] (some ⟨[0, 3, 4, 70, 71, 72], [], false⟩)))))
    (.region 0 [⟨(some 81), none, (.p (.bin .add (.t 72) (.c (.int .i64 1)))), false, []⟩,
      ⟨(some 72), none, (.p (.mv (.t 81))), false, []⟩] (some ⟨[0, 3, 4, 70, 71, 72], [], false⟩)))))
def Tryd.c8b1 : AC :=
 (.seq
  (.seq
   (.region 0 [⟨(some 10), none, (.p (.mv (.t 4))), false, []⟩,
     ⟨(some 11), none, (.p (.mv (.t 0))), false, []⟩,
     ⟨(some 12), none, (.p (.len (.t 11))), false, []⟩,
     ⟨(some 13), none, (.p (.bin .lss (.t 10) (.t 12))), false, []⟩] (some ⟨[0, 3, 4, 13], [], false⟩))
   (.cond (.t 13)
    .skip
    (.exit 0)))
  (.seq
   (.block 1
    (.seq
     (.region 57 [⟨(some 16), none, (.p (.mv (.t 0))), true, []⟩,
       ⟨(some 17), none, (.p (.mv (.t 4))), true, []⟩,
       ⟨(some 18), none, (.p (.iaddr 17 (.t 16) (.t 17))), true, []⟩,
       ⟨(some 19), none, (.p (.faddr 2 (.t 18))), true, []⟩,
       ⟨(some 20), none, (.r (.load 1 false (.t 19))), true, []⟩,
       ⟨(some 21), none, (.p (.lenS (.t 20))), true, []⟩,
       ⟨(some 22), none, (.p (.mv (.t 0))), true, []⟩,
       ⟨(some 23), none, (.p (.mv (.t 4))), true, []⟩,
       ⟨(some 24), none, (.p (.iaddr 17 (.t 22) (.t 23))), true, []⟩,
       ⟨(some 25), none, (.p (.faddr 3 (.t 24))), true, []⟩,
       ⟨(some 26), none, (.r (.load 1 false (.t 25))), true, []⟩,
       ⟨(some 27), none, (.p (.lenS (.t 26))), true, []⟩,
       ⟨(some 28), none, (.p (.mv (.t 0))), true, []⟩,
       ⟨(some 29), none, (.p (.mv (.t 4))), true, []⟩,
       ⟨(some 30), none, (.p (.iaddr 17 (.t 28) (.t 29))), true, []⟩,
       ⟨(some 31), none, (.p (.faddr 4 (.t 30))), true, []⟩,
       ⟨(some 32), none, (.r (.load 1 false (.t 31))), true, []⟩,
       ⟨(some 33), none, (.p (.lenS (.t 32))), true, []⟩,
       ⟨(some 34), none, (.p (.mv (.t 0))), true, []⟩,
       ⟨(some 35), none, (.p (.mv (.t 4))), true, []⟩,
       ⟨(some 36), none, (.p (.iaddr 17 (.t 34) (.t 35))), true, []⟩,
       ⟨(some 37), none, (.p (.faddr 5 (.t 36))), true, []⟩,
       ⟨(some 38), none, (.r (.load 1 false (.t 37))), true, []⟩,
       ⟨(some 39), none, (.p (.lenS (.t 38))), true, []⟩,
       ⟨(some 40), none, (.p (.mv (.t 0))), true, []⟩,
       ⟨(some 41), none, (.p (.mv (.t 4))), true, []⟩,
       ⟨(some 42), none, (.p (.iaddr 17 (.t 40) (.t 41))), true, []⟩,
       ⟨(some 43), none, (.p (.faddr 6 (.t 42))), true, []⟩,
       ⟨(some 44), none, (.r (.load 1 false (.t 43))), true, []⟩,
       ⟨(some 45), none, (.p (.lenS (.t 44))), true, []⟩,
       ⟨(some 46), none, (.p (.mv (.t 0))), true, []⟩,
       ⟨(some 47), none, (.p (.mv (.t 4))), true, []⟩,
       ⟨(some 48), none, (.p (.iaddr 17 (.t 46) (.t 47))), true, []⟩,
       ⟨(some 49), none, (.p (.faddr 13 (.t 48))), true, []⟩,
       ⟨(some 50), none, (.r (.load 1 false (.t 49))), true, []⟩,
       ⟨(some 51), none, (.p (.len (.t 50))), true, []⟩,
       ⟨(some 52), none, (.p (.mv (.t 0))), true, []⟩,
       ⟨(some 53), none, (.p (.mv (.t 4))), true, []⟩,
       ⟨(some 54), none, (.p (.iaddr 17 (.t 52) (.t 53))), true, []⟩,
       ⟨(some 55), none, (.p (.faddr 14 (.t 54))), true, []⟩,
       ⟨(some 56), none, (.r (.load 1 false (.t 55))), true, []⟩,
       ⟨(some 57), none, (.p (.len (.t 56))), true, []⟩,
       ⟨(some 58), none, (.p (.mv (.t 0))), true, []⟩,
       ⟨(some 59), none, (.p (.mv (.t 4))), true, []⟩,
       ⟨(some 60), none, (.p (.iaddr 17 (.t 58) (.t 59))), true, []⟩,
       ⟨(some 61), none, (.p (.faddr 15 (.t 60))), true, []⟩,
       ⟨(some 62), none, (.r (.load 1 false (.t 61))), true, []⟩,
       ⟨(some 63), none, (.p (.len (.t 62))), true, []⟩,
       ⟨(some 64), none, (.p (.mv (.t 0))), true, []⟩,
       ⟨(some 65), none, (.p (.mv (.t 4))), true, []⟩,
       ⟨(some 66), none, (.p (.iaddr 17 (.t 64) (.t 65))), true, []⟩,
       ⟨(some 67), none, (.p (.faddr 16 (.t 66))), true, []⟩,
       ⟨(some 68), none, (.r (.load 1 false (.t 67))), true, []⟩,
       ⟨(some 69), none, (.p (.len (.t 68))), true, []⟩,
       ⟨(some 72), none, (.p (.mv (.c (.int .i64 0)))), true, []⟩,
       ⟨(some 70), none, (.e (.mks 3 1 (.int .i64 0) 9 [(0, (.t 21)), (1, (.t 27)), (2, (.t 33)), (3, (.t 39)), (4, (.t 45)), (5, (.t 51)), (6, (.t 57)), (7, (.t 63)), (8, (.t 69))]) (some 54)), true, []⟩,
       ⟨(some 71), none, (.p (.len (.t 70))), true, []⟩] (some ⟨[0, 3, 4, 70, 71, 72], [], true⟩))
     (.block 2
      (.loop (some ⟨[0, 3, 4, 70, 71, 72], [], true⟩) Tryd.c8b0))))
   (.region 0 [⟨(some 14), none, (.p (.mv (.t 4))), false, []⟩,
     ⟨(some 15), none, (.p (.bin .add (.t 14) (.c (.int .i64 1)))), false, []⟩,
     ⟨(some 4), none, (.p (.mv (.t 15))), false, []⟩] (some ⟨[0, 3, 4], [], false⟩))))
def Tryd.c8 : AC :=
 (.seq
  (.region 0 [⟨(some 2), none, (.p (.mv (.c (.bool false)))), false, []⟩] (some ⟨[0], [], false⟩))
  (.seq
   (.seq
    (.region 0 [⟨(some 7), none, (.p (.mv (.t 0))), false, []⟩,
      ⟨(some 8), none, (.p (.len (.t 7))), false, []⟩,
      ⟨(some 9), none, (.p (.bin .gtr (.t 8) (.c (.int .i64 400)))), false, []⟩] (some ⟨[0, 9], [], false⟩))
    (.cond (.t 9)
     (.seq
      (.region 0 [⟨(some 2), none, (.p (.mv (.c (.bool true)))), false, []⟩] (some ⟨[2], [], false⟩))
      .ret)
     .skip))
   (.seq
    (.region 0 [⟨(some 3), none, (.p (.mv (.c (.int .i64 0)))), false, []⟩] (some ⟨[0, 3], [], false⟩))
    (.seq
     (.seq
      (.region 0 [⟨(some 4), none, (.p (.mv (.c (.int .i64 0)))), false, []⟩] (some ⟨[0, 3, 4], [], false⟩))
      (.block 0
       (.loop (some ⟨[0, 3, 4], [], true⟩) Tryd.c8b1)))
     (.seq
      (.region 0 [⟨(some 82), none, (.p (.mv (.t 3))), false, []⟩,
        ⟨(some 83), none, (.p (.bin .gtr (.t 82) (.c (.int .i64 10000)))), false, []⟩,
        ⟨(some 2), none, (.p (.mv (.t 83))), false, []⟩] (some ⟨[2], [], false⟩))
      .ret)))))
theorem Tryd.run8 {xs : List AV} {r : AV} (hl : xs.length ≤ 84) (h : aw Tryd.prog Tryd.c8 (Pv.Ends [2] r) (entry xs)) : Run Tryd.prog 8 xs r :=
  run_of (fun _ _ => drawOk Tryd.mixed) Tryd.func8 rfl rfl rfl (by kernel_rfl) (by kernel_rfl) hl h
/-! 9 paling/palinglaw12.works : params [], results [4], free 0, zeros [] -/
def Tryd.c9 : AC :=
 (.seq
  (.region 0 [⟨(some 0), none, (.p (.mv (.c (.bool false)))), false, []⟩] (some ⟨[], [], false⟩))
  (.seq
   (.region 0 [⟨(some 8), none, (.e (.mks 5 1 (.int .u8 0) 16 [(0, (.c (.int .u8 10))), (1, (.c (.int .u8 118))), (2, (.c (.int .u8 116))), (3, (.c (.int .u8 101))), (4, (.c (.int .u8 112))), (5, (.c (.int .u8 32))), (6, (.c (.int .u8 97))), (7, (.c (.int .u8 32))), (8, (.c (.int .u8 49))), (9, (.c (.int .u8 48))), (10, (.c (.int .u8 46))), (11, (.c (.int .u8 48))), (12, (.c (.int .u8 46))), (13, (.c (.int .u8 48))), (14, (.c (.int .u8 46))), (15, (.c (.int .u8 49)))]) none), false, []⟩,
     ⟨(some 9), none, (.e (.mark (.t 8)) none), false, []⟩,
     ⟨(some 10), none, (.call 12 [(.t 9)] false), false, []⟩,
     ⟨(some 7), none, (.p (.mv (.t 10))), false, []⟩,
     ⟨(some 11), none, (.p (.ext (.t 7) 0)), false, []⟩,
     ⟨(some 12), none, (.p (.ext (.t 7) 1)), false, []⟩,
     ⟨(some 13), none, (.p (.ext (.t 7) 2)), false, []⟩,
     ⟨(some 1), none, (.p (.mv (.t 11))), false, []⟩,
     ⟨(some 2), none, (.p (.mv (.t 12))), false, []⟩,
     ⟨(some 3), none, (.p (.mv (.t 13))), false, []⟩] (some ⟨[1, 2, 3], [], false⟩))
   (.seq
    (.region 0 [⟨(some 15), none, (.e (.mks 5 1 (.int .u8 0) 7 [(0, (.c (.int .u8 10))), (1, (.c (.int .u8 118))), (2, (.c (.int .u8 116))), (3, (.c (.int .u8 101))), (4, (.c (.int .u8 112))), (5, (.c (.int .u8 32))), (6, (.c (.int .u8 97)))]) none), false, []⟩,
      ⟨(some 16), none, (.e (.mark (.t 15)) none), false, []⟩,
      ⟨(some 17), none, (.call 12 [(.t 16)] false), false, []⟩,
      ⟨(some 14), none, (.p (.mv (.t 17))), false, []⟩,
      ⟨(some 18), none, (.p (.ext (.t 14) 0)), false, []⟩,
      ⟨(some 19), none, (.p (.ext (.t 14) 1)), false, []⟩,
      ⟨(some 20), none, (.p (.ext (.t 14) 2)), false, []⟩,
      ⟨(some 4), none, (.p (.mv (.t 18))), false, []⟩,
      ⟨(some 5), none, (.p (.mv (.t 19))), false, []⟩,
      ⟨(some 6), none, (.p (.mv (.t 20))), false, []⟩] (some ⟨[1, 2, 3, 5, 6], [], false⟩))
    (.seq
     (.region 0 [⟨(some 21), none, (.p (.mv (.t 3))), false, []⟩,
       ⟨(some 22), none, (.p (.bin .eql (.t 21) (.c (.int .i64 0)))), false, []⟩,
       ⟨(some 23), none, (.p (.mv (.t 22))), false, []⟩,
       ⟨(some 24), (some (23, true)), (.p (.mv (.t 2))), false, []⟩,
       ⟨(some 25), (some (23, true)), (.p (.bin .eql (.t 24) (.c (.int .i64 0)))), false, []⟩,
       ⟨(some 26), none, (.p (.pick (.t 23) (.t 25) (.c (.bool false)))), false, []⟩,
       ⟨(some 27), none, (.p (.mv (.t 26))), false, []⟩,
       ⟨(some 28), (some (27, true)), (.p (.mv (.t 1))), false, []⟩,
       ⟨(some 29), (some (27, true)), (.p (.len (.t 28))), false, []⟩,
       ⟨(some 30), (some (27, true)), (.p (.bin .eql (.t 29) (.c (.int .i64 1)))), false, []⟩,
       ⟨(some 31), none, (.p (.pick (.t 27) (.t 30) (.c (.bool false)))), false, []⟩,
       ⟨(some 32), none, (.p (.mv (.t 31))), false, []⟩,
       ⟨(some 33), (some (32, true)), (.p (.mv (.t 1))), false, []⟩,
       ⟨(some 34), (some (32, true)), (.p (.iaddr 17 (.t 33) (.c (.int .i64 0)))), false, []⟩,
       ⟨(some 35), (some (32, true)), (.p (.faddr 0 (.t 34))), false, []⟩,
       ⟨(some 36), (some (32, true)), (.r (.load 1 false (.t 35))), false, []⟩,
       ⟨(some 37), (some (32, true)), (.p (.bin .eql (.t 36) (.c (.int .i64 2)))), false, []⟩,
       ⟨(some 38), none, (.p (.pick (.t 32) (.t 37) (.c (.bool false)))), false, []⟩,
       ⟨(some 39), none, (.p (.mv (.t 38))), false, []⟩,
       ⟨(some 40), (some (39, true)), (.p (.mv (.t 1))), false, []⟩,
       ⟨(some 41), (some (39, true)), (.p (.iaddr 17 (.t 40) (.c (.int .i64 0)))), false, []⟩,
       ⟨(some 42), (some (39, true)), (.p (.faddr 8 (.t 41))), false, []⟩,
       ⟨(some 43), (some (39, true)), (.r (.load 1 false (.t 42))), false, []⟩,
       ⟨(some 44), (some (39, true)), (.p (.bin .eql (.t 43) (.c (.int .u32 167772161)))), false, []⟩,
       ⟨(some 45), none, (.p (.pick (.t 39) (.t 44) (.c (.bool false)))), false, []⟩,
       ⟨(some 46), none, (.p (.mv (.t 45))), false, []⟩,
       ⟨(some 47), (some (46, true)), (.p (.mv (.t 6))), false, []⟩,
       ⟨(some 48), (some (46, true)), (.p (.bin .eql (.t 47) (.c (.int .i64 22)))), false, []⟩,
       ⟨(some 49), none, (.p (.pick (.t 46) (.t 48) (.c (.bool false)))), false, []⟩,
       ⟨(some 50), none, (.p (.mv (.t 49))), false, []⟩,
       ⟨(some 51), (some (50, true)), (.p (.mv (.t 5))), false, []⟩,
       ⟨(some 52), (some (50, true)), (.p (.bin .eql (.t 51) (.c (.int .i64 2)))), false, []⟩,
       ⟨(some 53), none, (.p (.pick (.t 50) (.t 52) (.c (.bool false)))), false, []⟩,
       ⟨(some 0), none, (.p (.mv (.t 53))), false, []⟩] (some ⟨[0], [], false⟩))
     .ret))))
theorem Tryd.run9 {xs : List AV} {r : AV} (hl : xs.length ≤ 54) (h : Hold (aw Tryd.prog Tryd.c9 (Pv.Ends [0] r) (entry xs))) : Run Tryd.prog 9 xs r :=
  run_ofH (fun _ _ => drawOk Tryd.mixed) Tryd.func9 rfl rfl rfl (by kernel_rfl) (by kernel_rfl) hl h
/-! 10 paling/text.Same : params [22, 22], results [4], free 0, zeros [(.slice none 0 0), (.slice none 0 0)] -/
def Tryd.c10b0 : AC :=
 (.seq
  (.region 0 [⟨(some 15), none, (.p (.bin .lss (.t 14) (.t 13))), false, []⟩] (some ⟨[1, 12, 13, 14, 15], [], false⟩))
  (.seq
   (.cond (.t 15)
    .skip
    (.exit 0))
   (.seq
    (.block 1
     (.seq
      (.region 0 [⟨(some 16), none, (.p (.mv (.t 14))), false, []⟩,
        ⟨(some 17), none, (.p (.iaddr 17 (.t 12) (.t 14))), false, []⟩,
        ⟨(some 18), none, (.r (.load 17 true (.t 17))), false, []⟩,
        ⟨(some 6), none, (.e (.alloc 35 (.agg [(.int .i64 0), (.int .i64 0), (.str []), (.str []), (.str []), (.str []), (.str []), (.int .u64 0), (.int .u32 0), (.int .i64 0), (.int .i64 0), (.int .i64 0), (.int .i64 0), (.sl 0 [] true), (.sl 0 [] true), (.sl 0 [] true), (.sl 0 [] true)])) none), false, []⟩,
        ⟨(some 5), none, (.p (.mv (.t 16))), false, []⟩,
        ⟨none, none, (.e (.store 17 (.t 6) (.t 18)) none), false, []⟩] (some ⟨[1, 5, 6, 12, 13, 14], [], false⟩))
      (.seq
       (.region 0 [⟨(some 19), none, (.p (.mv (.t 1))), false, []⟩,
         ⟨(some 20), none, (.p (.mv (.t 5))), false, []⟩,
         ⟨(some 21), none, (.p (.iaddr 17 (.t 19) (.t 20))), false, []⟩,
         ⟨(some 22), none, (.p (.faddr 0 (.t 21))), false, []⟩,
         ⟨(some 23), none, (.r (.load 1 false (.t 22))), false, []⟩,
         ⟨(some 24), none, (.p (.faddr 0 (.t 6))), false, []⟩,
         ⟨none, none, (.e (.store 1 (.t 24) (.t 23)) none), false, []⟩] (some ⟨[1, 5, 6, 12, 13, 14], [], false⟩))
       (.seq
        (.region 7 [⟨(some 25), none, (.r (.load 17 true (.t 6))), false, []⟩,
          ⟨(some 26), none, (.p (.mv (.t 1))), false, []⟩,
          ⟨(some 27), none, (.p (.mv (.t 5))), false, []⟩,
          ⟨(some 28), none, (.p (.iaddr 17 (.t 26) (.t 27))), false, []⟩,
          ⟨(some 29), none, (.r (.load 17 true (.t 28))), false, []⟩,
          ⟨(some 30), none, (.call 16 [(.t 25), (.t 29)] true), false, []⟩,
          ⟨(some 31), none, (.p (.un .not (.t 30))), false, []⟩] (some ⟨[1, 12, 13, 14, 31], [], true⟩))
        (.cond (.t 31)
         (.seq
          (.region 0 [⟨(some 4), none, (.p (.mv (.c (.bool false)))), false, []⟩] (some ⟨[4], [], false⟩))
          .ret)
         .skip)))))
    (.region 0 [⟨(some 32), none, (.p (.bin .add (.t 14) (.c (.int .i64 1)))), false, []⟩,
      ⟨(some 14), none, (.p (.mv (.t 32))), false, []⟩] (some ⟨[1, 12, 13, 14], [], false⟩)))))
def Tryd.c10 : AC :=
 (.seq
  (.region 0 [⟨(some 4), none, (.p (.mv (.c (.bool false)))), false, []⟩] (some ⟨[0, 1], [], false⟩))
  (.seq
   (.seq
    (.region 0 [⟨(some 7), none, (.p (.mv (.t 0))), false, []⟩,
      ⟨(some 8), none, (.p (.len (.t 7))), false, []⟩,
      ⟨(some 9), none, (.p (.mv (.t 1))), false, []⟩,
      ⟨(some 10), none, (.p (.len (.t 9))), false, []⟩,
      ⟨(some 11), none, (.p (.bin .neq (.t 8) (.t 10))), false, []⟩] (some ⟨[0, 1, 11], [], false⟩))
    (.cond (.t 11)
     (.seq
      (.region 0 [⟨(some 4), none, (.p (.mv (.c (.bool false)))), false, []⟩] (some ⟨[4], [], false⟩))
      .ret)
     .skip))
   (.seq
    (.seq
     (.region 0 [⟨(some 12), none, (.p (.mv (.t 0))), false, []⟩,
       ⟨(some 13), none, (.p (.len (.t 12))), false, []⟩,
       ⟨(some 14), none, (.p (.mv (.c (.int .i64 0)))), false, []⟩] (some ⟨[1, 12, 13, 14], [], false⟩))
     (.block 0
      (.loop (some ⟨[1, 12, 13, 14], [], true⟩) Tryd.c10b0)))
    (.seq
     (.region 0 [⟨(some 4), none, (.p (.mv (.c (.bool true)))), false, []⟩] (some ⟨[4], [], false⟩))
     .ret))))
theorem Tryd.run10 {xs : List AV} {r : AV} (hl : xs.length ≤ 33) (h : aw Tryd.prog Tryd.c10 (Pv.Ends [4] r) (entry xs)) : Run Tryd.prog 10 xs r :=
  run_of (fun _ _ => drawOk Tryd.mixed) Tryd.func10 rfl rfl rfl (by kernel_rfl) (by kernel_rfl) hl h
/-! 11 paling/palingref12.Same : params [22, 22], results [4], free 0, zeros [(.slice none 0 0), (.slice none 0 0)] -/
def Tryd.c11b0 : AC :=
 (.seq
  (.seq
   (.region 0 [⟨(some 8), none, (.p (.mv (.t 6))), false, []⟩,
     ⟨(some 9), none, (.p (.mv (.t 0))), false, []⟩,
     ⟨(some 10), none, (.p (.len (.t 9))), false, []⟩,
     ⟨(some 11), none, (.p (.bin .lss (.t 8) (.t 10))), false, []⟩,
     ⟨(some 12), none, (.p (.mv (.t 11))), false, []⟩,
     ⟨(some 13), (some (12, true)), (.p (.mv (.t 6))), false, []⟩,
     ⟨(some 14), (some (12, true)), (.p (.mv (.t 1))), false, []⟩,
     ⟨(some 15), (some (12, true)), (.p (.len (.t 14))), false, []⟩,
     ⟨(some 16), (some (12, true)), (.p (.bin .lss (.t 13) (.t 15))), false, []⟩,
     ⟨(some 17), none, (.p (.pick (.t 12) (.t 16) (.c (.bool false)))), false, []⟩] (some ⟨[0, 1, 5, 6, 17], [], false⟩))
   (.cond (.t 17)
    .skip
    (.exit 0)))
  (.seq
   (.block 1
    (.seq
     (.region 0 [⟨(some 20), none, (.p (.mv (.t 0))), false, []⟩,
       ⟨(some 21), none, (.p (.mv (.t 6))), false, []⟩,
       ⟨(some 22), none, (.p (.iaddr 17 (.t 20) (.t 21))), false, []⟩,
       ⟨(some 23), none, (.r (.load 17 true (.t 22))), false, []⟩,
       ⟨(some 7), none, (.e (.alloc 35 (.agg [(.int .i64 0), (.int .i64 0), (.str []), (.str []), (.str []), (.str []), (.str []), (.int .u64 0), (.int .u32 0), (.int .i64 0), (.int .i64 0), (.int .i64 0), (.int .i64 0), (.sl 0 [] true), (.sl 0 [] true), (.sl 0 [] true), (.sl 0 [] true)])) none), false, []⟩,
       ⟨none, none, (.e (.store 17 (.t 7) (.t 23)) none), false, []⟩] (some ⟨[0, 1, 5, 6, 7], [], false⟩))
     (.seq
      (.region 0 [⟨(some 24), none, (.p (.mv (.t 1))), false, []⟩,
        ⟨(some 25), none, (.p (.mv (.t 6))), false, []⟩,
        ⟨(some 26), none, (.p (.iaddr 17 (.t 24) (.t 25))), false, []⟩,
        ⟨(some 27), none, (.p (.faddr 0 (.t 26))), false, []⟩,
        ⟨(some 28), none, (.r (.load 1 false (.t 27))), false, []⟩,
        ⟨(some 29), none, (.p (.faddr 0 (.t 7))), false, []⟩,
        ⟨none, none, (.e (.store 1 (.t 29) (.t 28)) none), false, []⟩] (some ⟨[0, 1, 5, 6, 7], [], false⟩))
      (.region 0 [⟨(some 30), none, (.p (.mv (.t 5))), false, []⟩,
        ⟨(some 31), none, (.r (.load 17 true (.t 7))), false, []⟩,
        ⟨(some 32), none, (.e (.mks 35 17 (.agg [(.int .i64 0), (.int .i64 0), (.str []), (.str []), (.str []), (.str []), (.str []), (.int .u64 0), (.int .u32 0), (.int .i64 0), (.int .i64 0), (.int .i64 0), (.int .i64 0), (.sl 0 [] true), (.sl 0 [] true), (.sl 0 [] true), (.sl 0 [] true)]) 1 [(0, (.t 31))]) none), false, []⟩,
        ⟨(some 33), none, (.e (.append 35 17 1000000000 (.t 30) (.t 32)) none), false, []⟩,
        ⟨(some 5), none, (.p (.mv (.t 33))), false, []⟩] (some ⟨[0, 1, 5, 6], [], false⟩)))))
   (.region 0 [⟨(some 18), none, (.p (.mv (.t 6))), false, []⟩,
     ⟨(some 19), none, (.p (.bin .add (.t 18) (.c (.int .i64 1)))), false, []⟩,
     ⟨(some 6), none, (.p (.mv (.t 19))), false, []⟩] (some ⟨[0, 1, 5, 6], [], false⟩))))
def Tryd.c11 : AC :=
 (.seq
  (.region 0 [⟨(some 4), none, (.p (.mv (.c (.bool false)))), false, []⟩] (some ⟨[0, 1], [], false⟩))
  (.seq
   (.region 0 [⟨(some 5), none, (.p (.mv (.c (.sl 0 [] true)))), false, []⟩] (some ⟨[0, 1, 5], [], false⟩))
   (.seq
    (.seq
     (.region 0 [⟨(some 6), none, (.p (.mv (.c (.int .i64 0)))), false, []⟩] (some ⟨[0, 1, 5, 6], [], false⟩))
     (.block 0
      (.loop (some ⟨[0, 1, 5, 6], [(5, (17, 35))], true⟩) Tryd.c11b0)))
    (.seq
     (.region 0 [⟨(some 34), none, (.p (.mv (.t 0))), false, []⟩,
       ⟨(some 35), none, (.p (.len (.t 34))), false, []⟩,
       ⟨(some 36), none, (.p (.mv (.t 1))), false, []⟩,
       ⟨(some 37), none, (.p (.len (.t 36))), false, []⟩,
       ⟨(some 38), none, (.p (.bin .eql (.t 35) (.t 37))), false, []⟩,
       ⟨(some 39), none, (.p (.mv (.t 38))), false, []⟩,
       ⟨(some 40), (some (39, true)), (.p (.mv (.t 5))), false, []⟩,
       ⟨(some 41), (some (39, true)), (.p (.mv (.t 1))), false, []⟩,
       ⟨(some 42), (some (39, true)), (.call 21 [(.t 40), (.t 41)] false), false, []⟩,
       ⟨(some 43), none, (.p (.pick (.t 39) (.t 42) (.c (.bool false)))), false, []⟩,
       ⟨(some 4), none, (.p (.mv (.t 43))), false, []⟩] (some ⟨[4], [], false⟩))
     .ret))))
theorem Tryd.run11 {xs : List AV} {r : AV} (hl : xs.length ≤ 44) (h : aw Tryd.prog Tryd.c11 (Pv.Ends [4] r) (entry xs)) : Run Tryd.prog 11 xs r :=
  run_of (fun _ _ => drawOk Tryd.mixed) Tryd.func11 rfl rfl rfl (by kernel_rfl) (by kernel_rfl) hl h
/-! 12 paling/text.Read : params [26], results [22, 3, 27], free 0, zeros [(.slice none 0 0)] -/
def Tryd.c12b0 : AC :=
 (.seq
  (.region 0 [⟨(some 23), none, (.p (.bin .lss (.t 22) (.t 21))), false, []⟩] (some ⟨[2, 4, 11, 20, 21, 22, 23], [], false⟩))
  (.seq
   (.cond (.t 23)
    .skip
    (.exit 0))
   (.seq
    (.block 1
     (.seq
      (.region 0 [⟨(some 24), none, (.p (.mv (.t 22))), false, []⟩,
        ⟨(some 25), none, (.p (.iaddr 1 (.t 20) (.t 22))), false, []⟩,
        ⟨(some 26), none, (.r (.load 1 false (.t 25))), false, []⟩,
        ⟨(some 6), none, (.p (.mv (.t 24))), false, []⟩,
        ⟨(some 7), none, (.p (.mv (.t 26))), false, []⟩] (some ⟨[2, 4, 6, 7, 11, 20, 21, 22], [], false⟩))
      (.seq
       (.region 0 [⟨(some 28), none, (.p (.mv (.t 7))), false, []⟩,
         ⟨(some 29), none, (.call 24 [(.t 28)] false), false, []⟩,
         ⟨(some 27), none, (.p (.mv (.t 29))), false, []⟩,
         ⟨(some 30), none, (.p (.ext (.t 27) 0)), false, []⟩,
         ⟨(some 31), none, (.p (.ext (.t 27) 1)), false, []⟩,
         ⟨(some 8), none, (.p (.mv (.t 30))), false, []⟩,
         ⟨(some 9), none, (.p (.mv (.t 31))), false, []⟩] (some ⟨[2, 4, 6, 8, 9, 11, 20, 21, 22], [], false⟩))
       (.seq
        (.seq
         (.region 0 [⟨(some 32), none, (.p (.mv (.t 9))), false, []⟩,
           ⟨(some 33), none, (.p (.bin .neq (.t 32) (.c (.int .i64 0)))), false, []⟩] (some ⟨[2, 4, 6, 8, 9, 11, 20, 21, 22, 33], [], false⟩))
         (.cond (.t 33)
          (.seq
           (.region 0 [⟨(some 34), none, (.p (.mv (.t 6))), false, []⟩,
             ⟨(some 35), none, (.p (.bin .add (.t 34) (.c (.int .i64 1)))), false, []⟩,
             ⟨(some 36), none, (.p (.mv (.t 9))), false, []⟩,
             ⟨none, none, (.e (.store 1 (.t 2) (.c (.sl 0 [] true))) none), false, []⟩,
             ⟨(some 3), none, (.p (.mv (.t 35))), false, []⟩,
             ⟨none, none, (.e (.store 1 (.t 4) (.t 36)) none), false, []⟩] (some ⟨[2, 3, 4, 11], [], false⟩))
           .ret)
          .skip))
        (.seq
         (.seq
          (.region 0 [⟨(some 37), none, (.p (.mv (.t 8))), false, []⟩,
            ⟨(some 38), none, (.p (.len (.t 37))), false, []⟩,
            ⟨(some 39), none, (.p (.bin .eql (.t 38) (.c (.int .i64 0)))), false, []⟩] (some ⟨[2, 4, 6, 8, 11, 20, 21, 22, 39], [], false⟩))
          (.cond (.t 39)
           (.exit 1)
           .skip))
         (.seq
          (.region 0 [⟨(some 41), none, (.p (.mv (.t 8))), false, []⟩,
            ⟨(some 42), none, (.p (.mv (.t 6))), false, []⟩,
            ⟨(some 43), none, (.p (.bin .add (.t 42) (.c (.int .i64 1)))), false, []⟩,
            ⟨(some 44), none, (.call 15 [(.t 41), (.t 43)] false), false, []⟩,
            ⟨(some 40), none, (.p (.mv (.t 44))), false, []⟩,
            ⟨(some 45), none, (.p (.ext (.t 40) 0)), false, []⟩,
            ⟨(some 46), none, (.p (.ext (.t 40) 1)), false, []⟩,
            ⟨(some 10), none, (.e (.alloc 35 (.agg [(.int .i64 0), (.int .i64 0), (.str []), (.str []), (.str []), (.str []), (.str []), (.int .u64 0), (.int .u32 0), (.int .i64 0), (.int .i64 0), (.int .i64 0), (.int .i64 0), (.sl 0 [] true), (.sl 0 [] true), (.sl 0 [] true), (.sl 0 [] true)])) none), false, []⟩,
            ⟨none, none, (.e (.store 17 (.t 10) (.t 45)) none), false, []⟩,
            ⟨(some 9), none, (.p (.mv (.t 46))), false, []⟩] (some ⟨[2, 4, 6, 9, 10, 11, 20, 21, 22], [], false⟩))
          (.seq
           (.seq
            (.region 0 [⟨(some 47), none, (.p (.mv (.t 9))), false, []⟩,
              ⟨(some 48), none, (.p (.bin .neq (.t 47) (.c (.int .i64 0)))), false, []⟩] (some ⟨[2, 4, 6, 9, 10, 11, 20, 21, 22, 48], [], false⟩))
            (.cond (.t 48)
             (.seq
              (.region 0 [⟨(some 49), none, (.r (.load 1 false (.t 2))), false, []⟩,
                ⟨(some 50), none, (.p (.mv (.t 6))), false, []⟩,
                ⟨(some 51), none, (.p (.bin .add (.t 50) (.c (.int .i64 1)))), false, []⟩,
                ⟨(some 52), none, (.p (.mv (.t 9))), false, []⟩,
                ⟨none, none, (.e (.store 1 (.t 2) (.t 49)) none), false, []⟩,
                ⟨(some 3), none, (.p (.mv (.t 51))), false, []⟩,
                ⟨none, none, (.e (.store 1 (.t 4) (.t 52)) none), false, []⟩] (some ⟨[2, 3, 4, 11], [], false⟩))
              .ret)
             .skip))
           (.region 0 [⟨(some 53), none, (.r (.load 1 false (.t 2))), false, []⟩,
             ⟨(some 54), none, (.r (.load 17 true (.t 10))), false, []⟩,
             ⟨(some 55), none, (.e (.mks 35 17 (.agg [(.int .i64 0), (.int .i64 0), (.str []), (.str []), (.str []), (.str []), (.str []), (.int .u64 0), (.int .u32 0), (.int .i64 0), (.int .i64 0), (.int .i64 0), (.int .i64 0), (.sl 0 [] true), (.sl 0 [] true), (.sl 0 [] true), (.sl 0 [] true)]) 1 [(0, (.t 54))]) none), false, []⟩,
             ⟨(some 56), none, (.e (.append 35 17 1000000000 (.t 53) (.t 55)) none), false, []⟩,
             ⟨none, none, (.e (.store 1 (.t 2) (.t 56)) none), false, []⟩] (some ⟨[2, 4, 11, 20, 21, 22], [], false⟩)))))))))
    (.region 0 [⟨(some 57), none, (.p (.bin .add (.t 22) (.c (.int .i64 1)))), false, []⟩,
      ⟨(some 22), none, (.p (.mv (.t 57))), false, []⟩] (some ⟨[2, 4, 11, 20, 21, 22], [], false⟩)))))
def Tryd.c12a : AC :=
 (.region 0 [⟨(some 2), none, (.e (.alloc 22 (.sl 0 [] true)) none), false, []⟩,
   ⟨(some 3), none, (.p (.mv (.c (.int .i64 0)))), false, []⟩,
   ⟨(some 4), none, (.e (.alloc 27 (.int .i64 0)) none), false, []⟩] (some ⟨[0, 2, 4], [], false⟩))
def Tryd.c12b : AC :=
 (.region 0 [⟨(some 11), none, (.p (.mkfn 22 [(.t 4), (.t 2)])), false, []⟩] none)
def Tryd.c12 : AC :=
 (.seq
  (.region 0 [⟨(some 13), none, (.p (.mv (.t 0))), false, []⟩,
    ⟨(some 14), none, (.call 23 [(.t 13)] false), false, []⟩,
    ⟨(some 12), none, (.p (.mv (.t 14))), false, []⟩,
    ⟨(some 15), none, (.p (.ext (.t 12) 0)), false, []⟩,
    ⟨(some 16), none, (.p (.ext (.t 12) 1)), false, []⟩,
    ⟨(some 5), none, (.p (.mv (.t 15))), false, []⟩,
    ⟨none, none, (.e (.store 1 (.t 4) (.t 16)) none), false, []⟩] (some ⟨[2, 4, 5, 11], [], false⟩))
  (.seq
   (.seq
    (.region 0 [⟨(some 17), none, (.r (.load 1 false (.t 4))), false, []⟩,
      ⟨(some 18), none, (.p (.bin .neq (.t 17) (.c (.int .i64 0)))), false, []⟩] (some ⟨[2, 4, 5, 11, 18], [], false⟩))
    (.cond (.t 18)
     (.seq
      (.regionA 4 [⟨(some 19), none, (.r (.load 1 false (.t 4))), false, []⟩,
        ⟨none, none, (.e (.store 1 (.t 2) (.c (.sl 0 [] true))) (some 1)), false, []⟩,
        ⟨(some 3), none, (.p (.mv (.c (.int .i64 0)))), false, []⟩,
        ⟨none, none, (.e (.store 1 (.t 4) (.t 19)) (some 3)), false, []⟩] [(4, 2)] (some ⟨[2, 3, 4, 11], [], true⟩))
      .ret)
     .skip))
   (.seq
    (.seq
     (.region 0 [⟨(some 20), none, (.p (.mv (.t 5))), false, []⟩,
       ⟨(some 21), none, (.p (.len (.t 20))), false, []⟩,
       ⟨(some 22), none, (.p (.mv (.c (.int .i64 0)))), false, []⟩] (some ⟨[2, 4, 11, 20, 21, 22], [], false⟩))
     (.block 0
      (.loop (some ⟨[2, 4, 11, 20, 21, 22], [], true⟩) Tryd.c12b0)))
    (.seq
     (.region 0 [⟨(some 58), none, (.r (.load 1 false (.t 2))), false, []⟩,
       ⟨none, none, (.e (.store 1 (.t 2) (.t 58)) none), false, []⟩,
       ⟨(some 3), none, (.p (.mv (.c (.int .i64 0)))), false, []⟩,
       ⟨none, none, (.e (.store 1 (.t 4) (.c (.int .i64 0))) none), false, []⟩] (some ⟨[2, 3, 4, 11], [], false⟩))
     .ret))))
theorem Tryd.run12 {xs : List AV} {r : AV} (hl : xs.length ≤ 59) (h : aw Tryd.prog Tryd.c12a (andThen (aw Tryd.prog Tryd.c12b (Begins Tryd.prog Tryd.c22 22 4 11 Tryd.c12 (rvs [.c 2 1 false, .t 3, .c 4 1 false]) r)) (fun _ _ => False)) (entry xs)) : Run Tryd.prog 12 xs r :=
  run_ofCD (fun _ _ _ => drawOk Tryd.mixed) (fun _ _ => drawOk Tryd.mixed) Tryd.func12 rfl rfl rfl rfl rfl rfl Tryd.func22 rfl rfl rfl (by decide) (by kernel_rfl) (by kernel_rfl) (by kernel_rfl) (by kernel_rfl) (by kernel_rfl) (by kernel_rfl) (by kernel_rfl) (by kernel_rfl) (by kernel_rfl) hl h
/-! 15 paling/stmt.Read : params [38, 3], results [35, 27], free 0, zeros [(.slice none 0 0), (.int .i64 (0))] -/
def Tryd.c15 : AC :=
 (.seq
  (.region 0 [⟨(some 4), none, (.e (.alloc 35 (.agg [(.int .i64 0), (.int .i64 0), (.str []), (.str []), (.str []), (.str []), (.str []), (.int .u64 0), (.int .u32 0), (.int .i64 0), (.int .i64 0), (.int .i64 0), (.int .i64 0), (.sl 0 [] true), (.sl 0 [] true), (.sl 0 [] true), (.sl 0 [] true)])) none), false, []⟩,
    ⟨(some 5), none, (.p (.mv (.c (.int .i64 0)))), false, []⟩] (some ⟨[0, 1, 4], [], false⟩))
  (.seq
   (.seq
    (.region 0 [⟨(some 16), none, (.p (.mv (.t 0))), false, []⟩,
      ⟨(some 17), none, (.p (.len (.t 16))), false, []⟩,
      ⟨(some 18), none, (.p (.bin .eql (.t 17) (.c (.int .i64 0)))), false, []⟩,
      ⟨(some 19), none, (.p (.mv (.t 18))), false, []⟩,
      ⟨(some 20), (some (19, false)), (.p (.mv (.t 0))), false, []⟩,
      ⟨(some 21), (some (19, false)), (.p (.iaddr 1 (.t 20) (.c (.int .i64 0)))), false, []⟩,
      ⟨(some 22), (some (19, false)), (.r (.load 1 false (.t 21))), false, []⟩,
      ⟨(some 23), (some (19, false)), (.call 27 [(.t 22)] false), false, []⟩,
      ⟨(some 24), (some (19, false)), (.p (.mv (.t 0))), false, []⟩,
      ⟨(some 25), (some (19, false)), (.call 26 [(.t 23), (.t 24)] false), false, []⟩,
      ⟨(some 26), (some (19, false)), (.p (.un .not (.t 25))), false, []⟩,
      ⟨(some 27), none, (.p (.pick (.t 19) (.c (.bool true)) (.t 26))), false, []⟩] (some ⟨[0, 1, 4, 27], [], false⟩))
    (.cond (.t 27)
     (.seq
      (.region 0 [⟨(some 28), none, (.p (.build [(.int .i64 0), (.int .i64 0), (.str []), (.str []), (.str []), (.str []), (.str []), (.int .u64 0), (.int .u32 0), (.int .i64 0), (.int .i64 0), (.int .i64 0), (.int .i64 0), (.sl 0 [] true), (.sl 0 [] true), (.sl 0 [] true), (.sl 0 [] true)] [])), false, []⟩,
        ⟨none, none, (.e (.store 17 (.t 4) (.t 28)) none), false, []⟩,
        ⟨(some 5), none, (.p (.mv (.c (.int .i64 22)))), false, []⟩] (some ⟨[4, 5], [], false⟩))
      .ret)
     .skip))
   (.seq
    (.region 0 [⟨(some 29), none, (.p (.mv (.t 0))), false, []⟩,
      ⟨(some 30), none, (.p (.build [(.sl 0 [] true), (.int .i64 0), (.int .i64 0)] [(0, 1, (.t 29)), (1, 1, (.c (.int .i64 1)))])), false, []⟩,
      ⟨(some 31), none, (.e (.box 57 (.t 30)) none), false, []⟩,
      ⟨(some 6), none, (.p (.mv (.t 31))), false, []⟩] (some ⟨[0, 1, 4, 6], [], false⟩))
    (.seq
     (.region 0 [⟨(some 32), none, (.p (.mv (.t 6))), false, []⟩,
       ⟨(some 33), none, (.p (.mkfn 1000028 [(.t 32)])), false, []⟩,
       ⟨(some 34), none, (.p (.mv (.t 6))), false, []⟩,
       ⟨(some 35), none, (.p (.mkfn 1000029 [(.t 34)])), false, []⟩,
       ⟨(some 7), none, (.p (.mv (.t 33))), false, []⟩,
       ⟨(some 8), none, (.p (.mv (.t 35))), false, []⟩] (some ⟨[0, 1, 4, 6, 7, 8], [], false⟩))
     (.seq
      (.region 0 [⟨(some 36), none, (.p (.mv (.t 1))), false, []⟩,
        ⟨(some 37), none, (.p (.mv (.t 0))), false, []⟩,
        ⟨(some 38), none, (.p (.iaddr 1 (.t 37) (.c (.int .i64 0)))), false, []⟩,
        ⟨(some 39), none, (.r (.load 1 false (.t 38))), false, []⟩,
        ⟨(some 40), none, (.call 27 [(.t 39)] false), false, []⟩,
        ⟨(some 41), none, (.p (.build [(.int .i64 0), (.int .i64 0), (.str []), (.str []), (.str []), (.str []), (.str []), (.int .u64 0), (.int .u32 0), (.int .i64 0), (.int .i64 0), (.int .i64 0), (.int .i64 0), (.sl 0 [] true), (.sl 0 [] true), (.sl 0 [] true), (.sl 0 [] true)] [(0, 1, (.t 36)), (1, 1, (.t 40))])), false, []⟩,
        ⟨(some 9), none, (.e (.alloc 35 (.agg [(.int .i64 0), (.int .i64 0), (.str []), (.str []), (.str []), (.str []), (.str []), (.int .u64 0), (.int .u32 0), (.int .i64 0), (.int .i64 0), (.int .i64 0), (.int .i64 0), (.sl 0 [] true), (.sl 0 [] true), (.sl 0 [] true), (.sl 0 [] true)])) none), false, []⟩,
        ⟨none, none, (.e (.store 17 (.t 9) (.t 41)) none), false, []⟩] (some ⟨[0, 4, 6, 7, 8, 9], [], false⟩))
      (.seq
       (.region 0 [⟨(some 42), none, (.p (.mv (.t 7))), false, []⟩,
         ⟨(some 43), none, (.callv (.t 42) []), false, []⟩,
         ⟨(some 44), none, (.p (.faddr 2 (.t 9))), false, []⟩,
         ⟨none, none, (.e (.store 1 (.t 44) (.t 43)) none), false, []⟩] (some ⟨[0, 4, 6, 7, 8, 9], [], false⟩))
       (.seq
        (.seq
         (.region 0 [⟨(some 45), none, (.p (.faddr 1 (.t 9))), false, []⟩,
           ⟨(some 46), none, (.r (.load 1 false (.t 45))), false, []⟩] (some ⟨[0, 4, 6, 7, 8, 9, 46], [], false⟩))
         (.block 0
          (.seq
           (.region 0 [⟨(some 48), none, (.p (.bin .eql (.t 46) (.c (.int .i64 1)))), false, []⟩,
             ⟨(some 47), none, (.p (.mv (.t 48))), false, []⟩] (some ⟨[0, 4, 6, 7, 8, 9, 46, 47], [], false⟩))
           (.cond (.t 47)
            (.region 0 [⟨(some 49), none, (.p (.mv (.t 6))), false, []⟩,
              ⟨(some 50), none, (.call 30 [(.t 49), (.c (.int .i64 0)), (.c (.int .i64 65535))] false), false, []⟩,
              ⟨(some 51), none, (.p (.mv (.t 6))), false, []⟩,
              ⟨(some 52), none, (.call 31 [(.t 51)] false), false, []⟩,
              ⟨(some 53), none, (.p (.faddr 11 (.t 9))), false, []⟩,
              ⟨none, none, (.e (.store 1 (.t 53) (.t 50)) none), false, []⟩,
              ⟨(some 54), none, (.p (.faddr 7 (.t 9))), false, []⟩,
              ⟨none, none, (.e (.store 1 (.t 54) (.t 52)) none), false, []⟩] (some ⟨[4, 6, 9], [], false⟩))
            (.seq
             (.region 0 [⟨(some 56), none, (.p (.bin .eql (.t 46) (.c (.int .i64 2)))), false, []⟩,
               ⟨(some 55), none, (.p (.mv (.t 56))), false, []⟩] (some ⟨[0, 4, 6, 7, 8, 9, 46, 55], [], false⟩))
             (.cond (.t 55)
              (.seq
               (.region 0 [⟨(some 57), none, (.p (.mv (.t 7))), false, []⟩,
                 ⟨(some 58), none, (.callv (.t 57) []), false, []⟩,
                 ⟨(some 59), none, (.p (.mv (.t 6))), false, []⟩,
                 ⟨(some 60), none, (.call 30 [(.t 59), (.c (.int .i64 1)), (.c (.int .i64 65535))] false), false, []⟩,
                 ⟨(some 61), none, (.p (.faddr 3 (.t 9))), false, []⟩,
                 ⟨none, none, (.e (.store 1 (.t 61) (.t 58)) none), false, []⟩,
                 ⟨(some 62), none, (.p (.faddr 12 (.t 9))), false, []⟩,
                 ⟨none, none, (.e (.store 1 (.t 62) (.t 60)) none), false, []⟩] (some ⟨[0, 4, 6, 9], [], false⟩))
               (.seq
                (.region 0 [⟨(some 63), none, (.p (.mv (.t 6))), false, []⟩,
                  ⟨(some 64), none, (.p (.mv (.t 0))), false, []⟩,
                  ⟨(some 65), none, (.p (.iaddr 1 (.t 64) (.c (.int .i64 4)))), false, []⟩,
                  ⟨(some 66), none, (.r (.load 1 false (.t 65))), false, []⟩,
                  ⟨(some 67), none, (.p (.bin .neq (.t 66) (.c (.str [97, 99, 99, 101, 115, 115])))), false, []⟩,
                  ⟨(some 68), none, (.p (.mv (.t 67))), false, []⟩,
                  ⟨(some 69), (some (68, true)), (.p (.mv (.t 0))), false, []⟩,
                  ⟨(some 70), (some (68, true)), (.p (.iaddr 1 (.t 69) (.c (.int .i64 4)))), false, []⟩,
                  ⟨(some 71), (some (68, true)), (.r (.load 1 false (.t 70))), false, []⟩,
                  ⟨(some 72), (some (68, true)), (.p (.bin .neq (.t 71) (.c (.str [116, 114, 117, 110, 107])))), false, []⟩,
                  ⟨(some 73), none, (.p (.pick (.t 68) (.t 72) (.c (.bool false)))), false, []⟩,
                  ⟨(some 74), none, (.call 32 [(.t 63), (.t 73), (.c (.int .i64 20))] false), false, []⟩] (some ⟨[4, 6, 9], [], false⟩))
                (.region 0 [⟨(some 75), none, (.p (.mv (.t 6))), false, []⟩,
                  ⟨(some 76), none, (.call 33 [(.t 75), (.t 9)] false), false, []⟩] (some ⟨[4, 6, 9], [], false⟩))))
              (.seq
               (.region 0 [⟨(some 78), none, (.p (.bin .eql (.t 46) (.c (.int .i64 3)))), false, []⟩,
                 ⟨(some 77), none, (.p (.mv (.t 78))), false, []⟩] (some ⟨[4, 6, 7, 8, 9, 46, 77], [], false⟩))
               (.cond (.t 77)
                (.region 0 [⟨(some 79), none, (.p (.mv (.t 7))), false, []⟩,
                  ⟨(some 80), none, (.callv (.t 79) []), false, []⟩,
                  ⟨(some 81), none, (.p (.mv (.t 7))), false, []⟩,
                  ⟨(some 82), none, (.callv (.t 81) []), false, []⟩,
                  ⟨(some 83), none, (.p (.mv (.t 7))), false, []⟩,
                  ⟨(some 84), none, (.callv (.t 83) []), false, []⟩,
                  ⟨(some 85), none, (.p (.faddr 3 (.t 9))), false, []⟩,
                  ⟨none, none, (.e (.store 1 (.t 85) (.t 80)) none), false, []⟩,
                  ⟨(some 86), none, (.p (.faddr 4 (.t 9))), false, []⟩,
                  ⟨none, none, (.e (.store 1 (.t 86) (.t 82)) none), false, []⟩,
                  ⟨(some 87), none, (.p (.faddr 5 (.t 9))), false, []⟩,
                  ⟨none, none, (.e (.store 1 (.t 87) (.t 84)) none), false, []⟩] (some ⟨[4, 6, 9], [], false⟩))
                (.seq
                 (.region 0 [⟨(some 89), none, (.p (.bin .eql (.t 46) (.c (.int .i64 4)))), false, []⟩,
                   ⟨(some 88), none, (.p (.mv (.t 89))), false, []⟩] (some ⟨[4, 6, 7, 8, 9, 46, 88], [], false⟩))
                 (.cond (.t 88)
                  (.region 0 [⟨(some 90), none, (.p (.mv (.t 8))), false, []⟩,
                    ⟨(some 91), none, (.callv (.t 90) []), false, []⟩,
                    ⟨(some 92), none, (.p (.mv (.t 6))), false, []⟩,
                    ⟨(some 93), none, (.call 31 [(.t 92)] false), false, []⟩,
                    ⟨(some 94), none, (.p (.mv (.t 7))), false, []⟩,
                    ⟨(some 95), none, (.callv (.t 94) []), false, []⟩,
                    ⟨(some 96), none, (.p (.faddr 10 (.t 9))), false, []⟩,
                    ⟨none, none, (.e (.store 1 (.t 96) (.t 91)) none), false, []⟩,
                    ⟨(some 97), none, (.p (.faddr 7 (.t 9))), false, []⟩,
                    ⟨none, none, (.e (.store 1 (.t 97) (.t 93)) none), false, []⟩,
                    ⟨(some 98), none, (.p (.faddr 3 (.t 9))), false, []⟩,
                    ⟨none, none, (.e (.store 1 (.t 98) (.t 95)) none), false, []⟩] (some ⟨[4, 6, 9], [], false⟩))
                  (.seq
                   (.region 0 [⟨(some 100), none, (.p (.bin .eql (.t 46) (.c (.int .i64 5)))), false, []⟩,
                     ⟨(some 99), none, (.p (.mv (.t 100))), false, []⟩] (some ⟨[4, 6, 7, 8, 9, 46, 99], [], false⟩))
                   (.cond (.t 99)
                    (.seq
                     (.region 0 [⟨(some 102), none, (.p (.mv (.t 6))), false, []⟩,
                       ⟨(some 103), none, (.call 35 [(.t 102)] false), false, []⟩,
                       ⟨(some 104), none, (.call 34 [(.t 103)] false), false, []⟩,
                       ⟨(some 101), none, (.p (.mv (.t 104))), false, []⟩,
                       ⟨(some 105), none, (.p (.ext (.t 101) 0)), false, []⟩,
                       ⟨(some 106), none, (.p (.ext (.t 101) 1)), false, []⟩,
                       ⟨(some 10), none, (.p (.mv (.t 105))), false, []⟩,
                       ⟨(some 11), none, (.p (.mv (.t 106))), false, []⟩] (some ⟨[4, 6, 9, 10, 11], [], false⟩))
                     (.seq
                      (.region 0 [⟨(some 107), none, (.p (.mv (.t 6))), false, []⟩,
                        ⟨(some 108), none, (.p (.mv (.t 11))), false, []⟩,
                        ⟨(some 109), none, (.p (.un .not (.t 108))), false, []⟩,
                        ⟨(some 110), none, (.p (.mv (.t 109))), false, []⟩,
                        ⟨(some 111), (some (110, false)), (.p (.mv (.t 10))), false, []⟩,
                        ⟨(some 112), (some (110, false)), (.p (.bin .eql (.t 111) (.c (.int .u32 0)))), false, []⟩,
                        ⟨(some 113), none, (.p (.pick (.t 110) (.c (.bool true)) (.t 112))), false, []⟩,
                        ⟨(some 114), none, (.call 32 [(.t 107), (.t 113), (.c (.int .i64 21))] false), false, []⟩] (some ⟨[4, 6, 9, 10], [], false⟩))
                      (.region 0 [⟨(some 115), none, (.p (.mv (.t 10))), false, []⟩,
                        ⟨(some 116), none, (.p (.faddr 8 (.t 9))), false, []⟩,
                        ⟨none, none, (.e (.store 1 (.t 116) (.t 115)) none), false, []⟩] (some ⟨[4, 6, 9], [], false⟩))))
                    (.seq
                     (.region 0 [⟨(some 118), none, (.p (.bin .eql (.t 46) (.c (.int .i64 6)))), false, []⟩,
                       ⟨(some 117), none, (.p (.mv (.t 118))), false, []⟩] (some ⟨[4, 6, 7, 8, 9, 46, 117], [], false⟩))
                     (.cond (.t 117)
                      (.region 0 [⟨(some 119), none, (.p (.mv (.t 8))), false, []⟩,
                        ⟨(some 120), none, (.callv (.t 119) []), false, []⟩,
                        ⟨(some 121), none, (.p (.mv (.t 6))), false, []⟩,
                        ⟨(some 122), none, (.call 36 [(.t 121)] false), false, []⟩,
                        ⟨(some 123), none, (.p (.faddr 10 (.t 9))), false, []⟩,
                        ⟨none, none, (.e (.store 1 (.t 123) (.t 120)) none), false, []⟩,
                        ⟨(some 124), none, (.p (.faddr 11 (.t 9))), false, []⟩,
                        ⟨none, none, (.e (.store 1 (.t 124) (.t 122)) none), false, []⟩] (some ⟨[4, 6, 9], [], false⟩))
                      (.seq
                       (.region 0 [⟨(some 126), none, (.p (.bin .eql (.t 46) (.c (.int .i64 7)))), false, []⟩,
                         ⟨(some 125), none, (.p (.mv (.t 126))), false, []⟩] (some ⟨[4, 6, 7, 8, 9, 46, 125], [], false⟩))
                       (.cond (.t 125)
                        (.seq
                         (.region 0 [⟨(some 127), none, (.p (.mv (.t 6))), false, []⟩,
                           ⟨(some 128), none, (.call 36 [(.t 127)] false), false, []⟩,
                           ⟨(some 129), none, (.p (.faddr 11 (.t 9))), false, []⟩,
                           ⟨none, none, (.e (.store 1 (.t 129) (.t 128)) none), false, []⟩] (some ⟨[4, 6, 9], [], false⟩))
                         (.seq
                          (.region 0 [⟨(some 131), none, (.p (.mv (.t 6))), false, []⟩,
                            ⟨(some 132), none, (.call 35 [(.t 131)] false), false, []⟩,
                            ⟨(some 133), none, (.call 37 [(.t 132)] false), false, []⟩,
                            ⟨(some 130), none, (.p (.mv (.t 133))), false, []⟩,
                            ⟨(some 134), none, (.p (.ext (.t 130) 0)), false, []⟩,
                            ⟨(some 135), none, (.p (.ext (.t 130) 1)), false, []⟩,
                            ⟨(some 12), none, (.p (.mv (.t 134))), false, []⟩,
                            ⟨(some 13), none, (.p (.mv (.t 135))), false, []⟩] (some ⟨[4, 6, 9, 12, 13], [], false⟩))
                          (.seq
                           (.region 0 [⟨(some 136), none, (.p (.mv (.t 6))), false, []⟩,
                             ⟨(some 137), none, (.p (.mv (.t 13))), false, []⟩,
                             ⟨(some 138), none, (.p (.un .not (.t 137))), false, []⟩,
                             ⟨(some 139), none, (.p (.mv (.t 138))), false, []⟩,
                             ⟨(some 140), (some (139, false)), (.p (.mv (.t 12))), false, []⟩,
                             ⟨(some 141), (some (139, false)), (.p (.iaddr 1 (.t 140) (.c (.int .i64 0)))), false, []⟩,
                             ⟨(some 142), (some (139, false)), (.r (.load 1 false (.t 141))), false, []⟩,
                             ⟨(some 143), (some (139, false)), (.p (.bin .eql (.t 142) (.c (.int .u32 0)))), false, []⟩,
                             ⟨(some 144), none, (.p (.pick (.t 139) (.c (.bool true)) (.t 143))), false, []⟩,
                             ⟨(some 145), none, (.call 32 [(.t 136), (.t 144), (.c (.int .i64 21))] false), false, []⟩] (some ⟨[4, 6, 9, 12], [], false⟩))
                           (.region 0 [⟨(some 146), none, (.p (.mv (.t 12))), false, []⟩,
                             ⟨(some 147), none, (.p (.faddr 16 (.t 9))), false, []⟩,
                             ⟨none, none, (.e (.store 1 (.t 147) (.t 146)) none), false, []⟩] (some ⟨[4, 6, 9], [], false⟩)))))
                        (.seq
                         (.region 0 [⟨(some 149), none, (.p (.bin .eql (.t 46) (.c (.int .i64 8)))), false, []⟩,
                           ⟨(some 148), none, (.p (.mv (.t 149))), false, []⟩] (some ⟨[4, 6, 7, 8, 9, 46, 148], [], false⟩))
                         (.cond (.t 148)
                          (.region 0 [⟨(some 150), none, (.p (.mv (.t 7))), false, []⟩,
                            ⟨(some 151), none, (.callv (.t 150) []), false, []⟩,
                            ⟨(some 152), none, (.p (.mv (.t 6))), false, []⟩,
                            ⟨(some 153), none, (.call 38 [(.t 152), (.c (.int .i64 65535))] false), false, []⟩,
                            ⟨(some 154), none, (.p (.mv (.t 6))), false, []⟩,
                            ⟨(some 155), none, (.call 38 [(.t 154), (.c (.int .i64 65535))] false), false, []⟩,
                            ⟨(some 156), none, (.p (.faddr 6 (.t 9))), false, []⟩,
                            ⟨none, none, (.e (.store 1 (.t 156) (.t 151)) none), false, []⟩,
                            ⟨(some 157), none, (.p (.faddr 14 (.t 9))), false, []⟩,
                            ⟨none, none, (.e (.store 1 (.t 157) (.t 153)) none), false, []⟩,
                            ⟨(some 158), none, (.p (.faddr 15 (.t 9))), false, []⟩,
                            ⟨none, none, (.e (.store 1 (.t 158) (.t 155)) none), false, []⟩] (some ⟨[4, 6, 9], [], false⟩))
                          (.seq
                           (.region 0 [⟨(some 160), none, (.p (.bin .eql (.t 46) (.c (.int .i64 9)))), false, []⟩,
                             ⟨(some 159), none, (.p (.mv (.t 160))), false, []⟩] (some ⟨[4, 6, 7, 8, 9, 159], [], false⟩))
                           (.cond (.t 159)
                            (.seq
                             (.region 0 [⟨(some 161), none, (.p (.mv (.t 8))), false, []⟩,
                               ⟨(some 162), none, (.callv (.t 161) []), false, []⟩,
                               ⟨(some 163), none, (.p (.mv (.t 7))), false, []⟩,
                               ⟨(some 164), none, (.callv (.t 163) []), false, []⟩,
                               ⟨(some 165), none, (.p (.faddr 10 (.t 9))), false, []⟩,
                               ⟨none, none, (.e (.store 1 (.t 165) (.t 162)) none), false, []⟩,
                               ⟨(some 166), none, (.p (.faddr 6 (.t 9))), false, []⟩,
                               ⟨none, none, (.e (.store 1 (.t 166) (.t 164)) none), false, []⟩] (some ⟨[4, 6, 9], [], false⟩))
                             (.seq
                              (.region 0 [⟨(some 168), none, (.p (.mv (.t 6))), false, []⟩,
                                ⟨(some 169), none, (.call 35 [(.t 168)] false), false, []⟩,
                                ⟨(some 170), none, (.call 39 [(.t 169)] false), false, []⟩,
                                ⟨(some 167), none, (.p (.mv (.t 170))), false, []⟩,
                                ⟨(some 171), none, (.p (.ext (.t 167) 0)), false, []⟩,
                                ⟨(some 172), none, (.p (.ext (.t 167) 1)), false, []⟩,
                                ⟨(some 14), none, (.e (.alloc 71 (.agg [(.int .u32 0), (.int .i64 0)])) none), false, []⟩,
                                ⟨none, none, (.e (.store 2 (.t 14) (.t 171)) none), false, []⟩,
                                ⟨(some 15), none, (.p (.mv (.t 172))), false, []⟩] (some ⟨[4, 6, 9, 14, 15], [], false⟩))
                              (.seq
                               (.region 0 [⟨(some 173), none, (.p (.mv (.t 6))), false, []⟩,
                                 ⟨(some 174), none, (.p (.mv (.t 15))), false, []⟩,
                                 ⟨(some 175), none, (.p (.un .not (.t 174))), false, []⟩,
                                 ⟨(some 176), none, (.p (.mv (.t 175))), false, []⟩,
                                 ⟨(some 177), (some (176, false)), (.r (.load 2 true (.t 14))), false, []⟩,
                                 ⟨(some 178), (some (176, false)), (.call 40 [(.t 177)] false), false, []⟩,
                                 ⟨(some 179), (some (176, false)), (.p (.un .not (.t 178))), false, []⟩,
                                 ⟨(some 180), none, (.p (.pick (.t 176) (.c (.bool true)) (.t 179))), false, []⟩,
                                 ⟨(some 181), none, (.call 32 [(.t 173), (.t 180), (.c (.int .i64 21))] false), false, []⟩] (some ⟨[4, 6, 9, 14], [], false⟩))
                               (.regionA 8 [⟨(some 182), none, (.p (.faddr 0 (.t 14))), false, []⟩,
                                 ⟨(some 183), none, (.r (.load 1 false (.t 182))), false, []⟩,
                                 ⟨(some 184), none, (.p (.faddr 1 (.t 14))), false, []⟩,
                                 ⟨(some 185), none, (.r (.load 1 false (.t 184))), false, []⟩,
                                 ⟨(some 186), none, (.p (.faddr 8 (.t 9))), false, []⟩,
                                 ⟨none, none, (.e (.store 1 (.t 186) (.t 183)) (some 5)), false, []⟩,
                                 ⟨(some 187), none, (.p (.faddr 9 (.t 9))), false, []⟩,
                                 ⟨none, none, (.e (.store 1 (.t 187) (.t 185)) (some 7)), false, []⟩] [(184, 186)] (some ⟨[4, 6, 9], [], true⟩)))))
                            .skip))))))))))))))))))))
        (.seq
         (.seq
          (.region 0 [⟨(some 188), none, (.p (.mv (.t 6))), false, []⟩,
            ⟨(some 189), none, (.p (.nilck (.t 188))), false, []⟩,
            ⟨(some 190), none, (.p (.faddr 2 (.t 189))), false, []⟩,
            ⟨(some 191), none, (.r (.load 1 false (.t 190))), false, []⟩,
            ⟨(some 192), none, (.p (.bin .neq (.t 191) (.c (.int .i64 0)))), false, []⟩] (some ⟨[4, 6, 9, 192], [], false⟩))
          (.cond (.t 192)
           (.seq
            (.regionA 7 [⟨(some 193), none, (.p (.build [(.int .i64 0), (.int .i64 0), (.str []), (.str []), (.str []), (.str []), (.str []), (.int .u64 0), (.int .u32 0), (.int .i64 0), (.int .i64 0), (.int .i64 0), (.int .i64 0), (.sl 0 [] true), (.sl 0 [] true), (.sl 0 [] true), (.sl 0 [] true)] [])), false, []⟩,
              ⟨(some 194), none, (.p (.mv (.t 6))), false, []⟩,
              ⟨(some 195), none, (.p (.nilck (.t 194))), false, []⟩,
              ⟨(some 196), none, (.p (.faddr 2 (.t 195))), false, []⟩,
              ⟨(some 197), none, (.r (.load 1 false (.t 196))), false, []⟩,
              ⟨none, none, (.e (.store 17 (.t 4) (.t 193)) (some 5)), false, []⟩,
              ⟨(some 5), none, (.p (.mv (.t 197))), false, []⟩] [(196, 4)] (some ⟨[4, 5], [], true⟩))
            .ret)
           .skip))
         (.seq
          (.region 0 [⟨(some 198), none, (.r (.load 17 true (.t 9))), false, []⟩,
            ⟨none, none, (.e (.store 17 (.t 4) (.t 198)) none), false, []⟩,
            ⟨(some 5), none, (.p (.mv (.c (.int .i64 0)))), false, []⟩] (some ⟨[4, 5], [], false⟩))
          .ret)))))))))
theorem Tryd.run15 {xs : List AV} {r : AV} (hl : xs.length ≤ 199) (h : aw Tryd.prog Tryd.c15 (Pv.EndsX (rvs [.c 4 17 true, .t 5]) r) (entry xs)) : Run Tryd.prog 15 xs r :=
  run_ofC (fun _ _ => drawOk Tryd.mixed) Tryd.func15 rfl rfl (by kernel_rfl) (by kernel_rfl) (by kernel_rfl) hl h
/-! 16 paling/stmt.Same : params [35, 35], results [4], free 0, zeros [(.agg #[(.int .i64 (0)), (.int .i64 (0)), (.string ⟨#[]⟩), (.string ⟨#[]⟩), (.string ⟨#[]⟩), (.string ⟨#[]⟩), (.string ⟨#[]⟩), (.int .u64 (0)), (.int .u32 (0)), (.int .i64 (0)), (.int .i64 (0)), (.int .i64 (0)), (.int .i64 (0)), (.slice none 0 0), (.slice none 0 0), (.slice none 0 0), (.slice none 0 0)]), (.agg #[(.int .i64 (0)), (.int .i64 (0)), (.string ⟨#[]⟩), (.string ⟨#[]⟩), (.string ⟨#[]⟩), (.string ⟨#[]⟩), (.string ⟨#[]⟩), (.int .u64 (0)), (.int .u32 (0)), (.int .i64 (0)), (.int .i64 (0)), (.int .i64 (0)), (.int .i64 (0)), (.slice none 0 0), (.slice none 0 0), (.slice none 0 0), (.slice none 0 0)])] -/
def Tryd.c16 : AC :=
 (.seq
  (.region 0 [⟨(some 2), none, (.e (.box 35 (.t 0)) none), false, []⟩,
    ⟨(some 3), none, (.e (.box 35 (.t 1)) none), false, []⟩,
    ⟨(some 4), none, (.p (.mv (.c (.bool false)))), false, []⟩] (some ⟨[2, 3], [], false⟩))
  (.seq
   (.region 0 [⟨(some 5), none, (.p (.faddr 0 (.t 2))), false, []⟩,
     ⟨(some 6), none, (.r (.load 1 false (.t 5))), false, []⟩,
     ⟨(some 7), none, (.p (.faddr 0 (.t 3))), false, []⟩,
     ⟨(some 8), none, (.r (.load 1 false (.t 7))), false, []⟩,
     ⟨(some 9), none, (.p (.bin .eql (.t 6) (.t 8))), false, []⟩,
     ⟨(some 10), none, (.p (.mv (.t 9))), false, []⟩,
     ⟨(some 11), (some (10, true)), (.p (.faddr 1 (.t 2))), false, []⟩,
     ⟨(some 12), (some (10, true)), (.r (.load 1 false (.t 11))), false, []⟩,
     ⟨(some 13), (some (10, true)), (.p (.faddr 1 (.t 3))), false, []⟩,
     ⟨(some 14), (some (10, true)), (.r (.load 1 false (.t 13))), false, []⟩,
     ⟨(some 15), (some (10, true)), (.p (.bin .eql (.t 12) (.t 14))), false, []⟩,
     ⟨(some 16), none, (.p (.pick (.t 10) (.t 15) (.c (.bool false)))), false, []⟩,
     ⟨(some 17), none, (.p (.mv (.t 16))), false, []⟩,
     ⟨(some 18), (some (17, true)), (.p (.faddr 2 (.t 2))), false, []⟩,
     ⟨(some 19), (some (17, true)), (.r (.load 1 false (.t 18))), false, []⟩,
     ⟨(some 20), (some (17, true)), (.p (.faddr 2 (.t 3))), false, []⟩,
     ⟨(some 21), (some (17, true)), (.r (.load 1 false (.t 20))), false, []⟩,
     ⟨(some 22), (some (17, true)), (.p (.bin .eql (.t 19) (.t 21))), false, []⟩,
     ⟨(some 23), none, (.p (.pick (.t 17) (.t 22) (.c (.bool false)))), false, []⟩,
     ⟨(some 24), none, (.p (.mv (.t 23))), false, []⟩,
     ⟨(some 25), (some (24, true)), (.p (.faddr 3 (.t 2))), false, []⟩,
     ⟨(some 26), (some (24, true)), (.r (.load 1 false (.t 25))), false, []⟩,
     ⟨(some 27), (some (24, true)), (.p (.faddr 3 (.t 3))), false, []⟩,
     ⟨(some 28), (some (24, true)), (.r (.load 1 false (.t 27))), false, []⟩,
     ⟨(some 29), (some (24, true)), (.p (.bin .eql (.t 26) (.t 28))), false, []⟩,
     ⟨(some 30), none, (.p (.pick (.t 24) (.t 29) (.c (.bool false)))), false, []⟩,
     ⟨(some 31), none, (.p (.mv (.t 30))), false, []⟩,
     ⟨(some 32), (some (31, true)), (.p (.faddr 4 (.t 2))), false, []⟩,
     ⟨(some 33), (some (31, true)), (.r (.load 1 false (.t 32))), false, []⟩,
     ⟨(some 34), (some (31, true)), (.p (.faddr 4 (.t 3))), false, []⟩,
     ⟨(some 35), (some (31, true)), (.r (.load 1 false (.t 34))), false, []⟩,
     ⟨(some 36), (some (31, true)), (.p (.bin .eql (.t 33) (.t 35))), false, []⟩,
     ⟨(some 37), none, (.p (.pick (.t 31) (.t 36) (.c (.bool false)))), false, []⟩,
     ⟨(some 38), none, (.p (.mv (.t 37))), false, []⟩,
     ⟨(some 39), (some (38, true)), (.p (.faddr 5 (.t 2))), false, []⟩,
     ⟨(some 40), (some (38, true)), (.r (.load 1 false (.t 39))), false, []⟩,
     ⟨(some 41), (some (38, true)), (.p (.faddr 5 (.t 3))), false, []⟩,
     ⟨(some 42), (some (38, true)), (.r (.load 1 false (.t 41))), false, []⟩,
     ⟨(some 43), (some (38, true)), (.p (.bin .eql (.t 40) (.t 42))), false, []⟩,
     ⟨(some 44), none, (.p (.pick (.t 38) (.t 43) (.c (.bool false)))), false, []⟩,
     ⟨(some 45), none, (.p (.mv (.t 44))), false, []⟩,
     ⟨(some 46), (some (45, true)), (.p (.faddr 6 (.t 2))), false, []⟩,
     ⟨(some 47), (some (45, true)), (.r (.load 1 false (.t 46))), false, []⟩,
     ⟨(some 48), (some (45, true)), (.p (.faddr 6 (.t 3))), false, []⟩,
     ⟨(some 49), (some (45, true)), (.r (.load 1 false (.t 48))), false, []⟩,
     ⟨(some 50), (some (45, true)), (.p (.bin .eql (.t 47) (.t 49))), false, []⟩,
     ⟨(some 51), none, (.p (.pick (.t 45) (.t 50) (.c (.bool false)))), false, []⟩,
     ⟨(some 52), none, (.p (.mv (.t 51))), false, []⟩,
     ⟨(some 53), (some (52, true)), (.p (.faddr 7 (.t 2))), false, []⟩,
     ⟨(some 54), (some (52, true)), (.r (.load 1 false (.t 53))), false, []⟩,
     ⟨(some 55), (some (52, true)), (.p (.faddr 7 (.t 3))), false, []⟩,
     ⟨(some 56), (some (52, true)), (.r (.load 1 false (.t 55))), false, []⟩,
     ⟨(some 57), (some (52, true)), (.p (.bin .eql (.t 54) (.t 56))), false, []⟩,
     ⟨(some 58), none, (.p (.pick (.t 52) (.t 57) (.c (.bool false)))), false, []⟩,
     ⟨(some 59), none, (.p (.mv (.t 58))), false, []⟩,
     ⟨(some 60), (some (59, true)), (.p (.faddr 8 (.t 2))), false, []⟩,
     ⟨(some 61), (some (59, true)), (.r (.load 1 false (.t 60))), false, []⟩,
     ⟨(some 62), (some (59, true)), (.p (.faddr 8 (.t 3))), false, []⟩,
     ⟨(some 63), (some (59, true)), (.r (.load 1 false (.t 62))), false, []⟩,
     ⟨(some 64), (some (59, true)), (.p (.bin .eql (.t 61) (.t 63))), false, []⟩,
     ⟨(some 65), none, (.p (.pick (.t 59) (.t 64) (.c (.bool false)))), false, []⟩,
     ⟨(some 66), none, (.p (.mv (.t 65))), false, []⟩,
     ⟨(some 67), (some (66, true)), (.p (.faddr 9 (.t 2))), false, []⟩,
     ⟨(some 68), (some (66, true)), (.r (.load 1 false (.t 67))), false, []⟩,
     ⟨(some 69), (some (66, true)), (.p (.faddr 9 (.t 3))), false, []⟩,
     ⟨(some 70), (some (66, true)), (.r (.load 1 false (.t 69))), false, []⟩,
     ⟨(some 71), (some (66, true)), (.p (.bin .eql (.t 68) (.t 70))), false, []⟩,
     ⟨(some 72), none, (.p (.pick (.t 66) (.t 71) (.c (.bool false)))), false, []⟩,
     ⟨(some 73), none, (.p (.mv (.t 72))), false, []⟩,
     ⟨(some 74), (some (73, true)), (.p (.faddr 10 (.t 2))), false, []⟩,
     ⟨(some 75), (some (73, true)), (.r (.load 1 false (.t 74))), false, []⟩,
     ⟨(some 76), (some (73, true)), (.p (.faddr 10 (.t 3))), false, []⟩,
     ⟨(some 77), (some (73, true)), (.r (.load 1 false (.t 76))), false, []⟩,
     ⟨(some 78), (some (73, true)), (.p (.bin .eql (.t 75) (.t 77))), false, []⟩,
     ⟨(some 79), none, (.p (.pick (.t 73) (.t 78) (.c (.bool false)))), false, []⟩,
     ⟨(some 80), none, (.p (.mv (.t 79))), false, []⟩,
     ⟨(some 81), (some (80, true)), (.p (.faddr 11 (.t 2))), false, []⟩,
     ⟨(some 82), (some (80, true)), (.r (.load 1 false (.t 81))), false, []⟩,
     ⟨(some 83), (some (80, true)), (.p (.faddr 11 (.t 3))), false, []⟩,
     ⟨(some 84), (some (80, true)), (.r (.load 1 false (.t 83))), false, []⟩,
     ⟨(some 85), (some (80, true)), (.p (.bin .eql (.t 82) (.t 84))), false, []⟩,
     ⟨(some 86), none, (.p (.pick (.t 80) (.t 85) (.c (.bool false)))), false, []⟩,
     ⟨(some 87), none, (.p (.mv (.t 86))), false, []⟩,
     ⟨(some 88), (some (87, true)), (.p (.faddr 12 (.t 2))), false, []⟩,
     ⟨(some 89), (some (87, true)), (.r (.load 1 false (.t 88))), false, []⟩,
     ⟨(some 90), (some (87, true)), (.p (.faddr 12 (.t 3))), false, []⟩,
     ⟨(some 91), (some (87, true)), (.r (.load 1 false (.t 90))), false, []⟩,
     ⟨(some 92), (some (87, true)), (.p (.bin .eql (.t 89) (.t 91))), false, []⟩,
     ⟨(some 93), none, (.p (.pick (.t 87) (.t 92) (.c (.bool false)))), false, []⟩,
     ⟨(some 94), none, (.p (.mv (.t 93))), false, []⟩,
     ⟨(some 95), (some (94, true)), (.p (.faddr 13 (.t 2))), false, []⟩,
     ⟨(some 96), (some (94, true)), (.r (.load 1 false (.t 95))), false, []⟩,
     ⟨(some 97), (some (94, true)), (.p (.faddr 13 (.t 3))), false, []⟩,
     ⟨(some 98), (some (94, true)), (.r (.load 1 false (.t 97))), false, []⟩,
     ⟨(some 99), (some (94, true)), (.call 41 [(.t 96), (.t 98)] false), false, []⟩,
     ⟨(some 100), none, (.p (.pick (.t 94) (.t 99) (.c (.bool false)))), false, []⟩,
     ⟨(some 101), none, (.p (.mv (.t 100))), false, []⟩,
     ⟨(some 102), (some (101, true)), (.p (.faddr 14 (.t 2))), false, []⟩,
     ⟨(some 103), (some (101, true)), (.r (.load 1 false (.t 102))), false, []⟩,
     ⟨(some 104), (some (101, true)), (.p (.faddr 14 (.t 3))), false, []⟩,
     ⟨(some 105), (some (101, true)), (.r (.load 1 false (.t 104))), false, []⟩,
     ⟨(some 106), (some (101, true)), (.call 41 [(.t 103), (.t 105)] false), false, []⟩,
     ⟨(some 107), none, (.p (.pick (.t 101) (.t 106) (.c (.bool false)))), false, []⟩,
     ⟨(some 108), none, (.p (.mv (.t 107))), false, []⟩,
     ⟨(some 109), (some (108, true)), (.p (.faddr 15 (.t 2))), false, []⟩,
     ⟨(some 110), (some (108, true)), (.r (.load 1 false (.t 109))), false, []⟩,
     ⟨(some 111), (some (108, true)), (.p (.faddr 15 (.t 3))), false, []⟩,
     ⟨(some 112), (some (108, true)), (.r (.load 1 false (.t 111))), false, []⟩,
     ⟨(some 113), (some (108, true)), (.call 41 [(.t 110), (.t 112)] false), false, []⟩,
     ⟨(some 114), none, (.p (.pick (.t 108) (.t 113) (.c (.bool false)))), false, []⟩,
     ⟨(some 115), none, (.p (.mv (.t 114))), false, []⟩,
     ⟨(some 116), (some (115, true)), (.p (.faddr 16 (.t 2))), false, []⟩,
     ⟨(some 117), (some (115, true)), (.r (.load 1 false (.t 116))), false, []⟩,
     ⟨(some 118), (some (115, true)), (.p (.faddr 16 (.t 3))), false, []⟩,
     ⟨(some 119), (some (115, true)), (.r (.load 1 false (.t 118))), false, []⟩,
     ⟨(some 120), (some (115, true)), (.call 42 [(.t 117), (.t 119)] false), false, []⟩,
     ⟨(some 121), none, (.p (.pick (.t 115) (.t 120) (.c (.bool false)))), false, []⟩,
     ⟨(some 4), none, (.p (.mv (.t 121))), false, []⟩] (some ⟨[4], [], false⟩))
   .ret))
theorem Tryd.run16 {xs : List AV} {r : AV} (hl : xs.length ≤ 122) (h : aw Tryd.prog Tryd.c16 (Pv.Ends [4] r) (entry xs)) : Run Tryd.prog 16 xs r :=
  run_of (fun _ _ => drawOk Tryd.mixed) Tryd.func16 rfl rfl rfl (by kernel_rfl) (by kernel_rfl) hl h
/-! 21 paling/palingref12.Exact : params [22, 22], results [4], free 0, zeros [(.slice none 0 0), (.slice none 0 0)] -/
def Tryd.c21b0 : AC :=
 (.seq
  (.seq
   (.region 0 [⟨(some 11), none, (.p (.mv (.t 5))), false, []⟩,
     ⟨(some 12), none, (.p (.mv (.t 0))), false, []⟩,
     ⟨(some 13), none, (.p (.len (.t 12))), false, []⟩,
     ⟨(some 14), none, (.p (.bin .lss (.t 11) (.t 13))), false, []⟩] (some ⟨[0, 1, 5, 14], [], false⟩))
   (.cond (.t 14)
    .skip
    (.exit 0)))
  (.seq
   (.block 1
    (.seq
     (.region 10 [⟨(some 17), none, (.p (.mv (.t 0))), false, []⟩,
       ⟨(some 18), none, (.p (.mv (.t 5))), false, []⟩,
       ⟨(some 19), none, (.p (.iaddr 17 (.t 17) (.t 18))), false, []⟩,
       ⟨(some 20), none, (.r (.load 17 true (.t 19))), false, []⟩,
       ⟨(some 21), none, (.p (.mv (.t 1))), false, []⟩,
       ⟨(some 22), none, (.p (.mv (.t 5))), false, []⟩,
       ⟨(some 23), none, (.p (.iaddr 17 (.t 21) (.t 22))), false, []⟩,
       ⟨(some 24), none, (.r (.load 17 true (.t 23))), false, []⟩,
       ⟨(some 25), none, (.call 48 [(.t 20), (.t 24)] true), false, []⟩,
       ⟨(some 26), none, (.p (.un .not (.t 25))), false, []⟩] (some ⟨[0, 1, 5, 26], [], true⟩))
     (.cond (.t 26)
      (.seq
       (.region 0 [⟨(some 4), none, (.p (.mv (.c (.bool false)))), false, []⟩] (some ⟨[4], [], false⟩))
       .ret)
      .skip)))
   (.region 0 [⟨(some 15), none, (.p (.mv (.t 5))), false, []⟩,
     ⟨(some 16), none, (.p (.bin .add (.t 15) (.c (.int .i64 1)))), false, []⟩,
     ⟨(some 5), none, (.p (.mv (.t 16))), false, []⟩] (some ⟨[0, 1, 5], [], false⟩))))
def Tryd.c21 : AC :=
 (.seq
  (.region 0 [⟨(some 4), none, (.p (.mv (.c (.bool false)))), false, []⟩] (some ⟨[0, 1], [], false⟩))
  (.seq
   (.seq
    (.region 0 [⟨(some 6), none, (.p (.mv (.t 0))), false, []⟩,
      ⟨(some 7), none, (.p (.len (.t 6))), false, []⟩,
      ⟨(some 8), none, (.p (.mv (.t 1))), false, []⟩,
      ⟨(some 9), none, (.p (.len (.t 8))), false, []⟩,
      ⟨(some 10), none, (.p (.bin .neq (.t 7) (.t 9))), false, []⟩] (some ⟨[0, 1, 10], [], false⟩))
    (.cond (.t 10)
     (.seq
      (.region 0 [⟨(some 4), none, (.p (.mv (.c (.bool false)))), false, []⟩] (some ⟨[4], [], false⟩))
      .ret)
     .skip))
   (.seq
    (.seq
     (.region 0 [⟨(some 5), none, (.p (.mv (.c (.int .i64 0)))), false, []⟩] (some ⟨[0, 1, 5], [], false⟩))
     (.block 0
      (.loop (some ⟨[0, 1, 5], [], true⟩) Tryd.c21b0)))
    (.seq
     (.region 0 [⟨(some 4), none, (.p (.mv (.c (.bool true)))), false, []⟩] (some ⟨[4], [], false⟩))
     .ret))))
theorem Tryd.run21 {xs : List AV} {r : AV} (hl : xs.length ≤ 27) (h : aw Tryd.prog Tryd.c21 (Pv.Ends [4] r) (entry xs)) : Run Tryd.prog 21 xs r :=
  run_of (fun _ _ => drawOk Tryd.mixed) Tryd.func21 rfl rfl rfl (by kernel_rfl) (by kernel_rfl) hl h
/-! 23 paling/line.Rows : params [26], results [38, 27], free 0, zeros [(.slice none 0 0)] -/
def Tryd.c23b0 : AC :=
 (.seq
  (.seq
   (.region 0 [⟨(some 12), none, (.p (.mv (.t 5))), false, []⟩,
     ⟨(some 13), none, (.p (.bin .neq (.t 12) (.c (.str [])))), false, []⟩] (some ⟨[4, 5, 13], [], false⟩))
   (.cond (.t 13)
    .skip
    (.exit 0)))
  (.block 1
   (.seq
    (.region 0 [⟨(some 6), none, (.p (.mv (.c (.str [])))), false, []⟩] (some ⟨[4, 5], [], false⟩))
    (.seq
     (.region 0 [⟨(some 15), none, (.p (.mv (.t 5))), false, []⟩,
       ⟨(some 16), none, (.call 49 [(.t 15), (.c (.str [10]))] false), false, []⟩,
       ⟨(some 14), none, (.p (.mv (.t 16))), false, []⟩,
       ⟨(some 17), none, (.p (.ext (.t 14) 0)), false, []⟩,
       ⟨(some 18), none, (.p (.ext (.t 14) 1)), false, []⟩,
       ⟨(some 19), none, (.p (.ext (.t 14) 2)), false, []⟩,
       ⟨(some 6), none, (.p (.mv (.t 17))), false, []⟩,
       ⟨(some 5), none, (.p (.mv (.t 18))), false, []⟩] (some ⟨[4, 5, 6], [], false⟩))
     (.region 0 [⟨(some 20), none, (.p (.mv (.t 4))), false, []⟩,
       ⟨(some 21), none, (.p (.mv (.t 6))), false, []⟩,
       ⟨(some 22), none, (.e (.mks 9 1 (.str []) 1 [(0, (.t 21))]) none), false, []⟩,
       ⟨(some 23), none, (.e (.append 9 1 1000000000 (.t 20) (.t 22)) none), false, []⟩,
       ⟨(some 4), none, (.p (.mv (.t 23))), false, []⟩] (some ⟨[4, 5], [], false⟩))))))
def Tryd.c23 : AC :=
 (.seq
  (.region 0 [⟨(some 2), none, (.p (.mv (.c (.sl 0 [] true)))), false, []⟩,
    ⟨(some 3), none, (.p (.mv (.c (.int .i64 0)))), false, []⟩] (some ⟨[0], [], false⟩))
  (.seq
   (.seq
    (.region 0 [⟨(some 7), none, (.p (.mv (.t 0))), false, []⟩,
      ⟨(some 8), none, (.p (.len (.t 7))), false, []⟩,
      ⟨(some 9), none, (.p (.bin .gtr (.t 8) (.c (.int .i64 20000)))), false, []⟩] (some ⟨[0, 9], [], false⟩))
    (.cond (.t 9)
     (.seq
      (.region 0 [⟨(some 2), none, (.p (.mv (.c (.sl 0 [] true)))), false, []⟩,
        ⟨(some 3), none, (.p (.mv (.c (.int .i64 3)))), false, []⟩] (some ⟨[2, 3], [], false⟩))
      .ret)
     .skip))
   (.seq
    (.region 0 [⟨(some 4), none, (.p (.mv (.c (.sl 0 [] true)))), false, []⟩] (some ⟨[0, 4], [], false⟩))
    (.seq
     (.seq
      (.region 0 [⟨(some 10), none, (.p (.mv (.t 0))), false, []⟩,
        ⟨(some 11), none, (.r (.b2s (.t 10))), false, []⟩,
        ⟨(some 5), none, (.p (.mv (.t 11))), false, []⟩] (some ⟨[4, 5], [], false⟩))
      (.block 0
       (.loop (some ⟨[4, 5], [(4, (1, 9))], true⟩) Tryd.c23b0)))
     (.seq
      (.seq
       (.region 0 [⟨(some 24), none, (.p (.mv (.t 4))), false, []⟩,
         ⟨(some 25), none, (.p (.len (.t 24))), false, []⟩,
         ⟨(some 26), none, (.p (.bin .gtr (.t 25) (.c (.int .i64 400)))), false, []⟩] (some ⟨[4, 26], [], false⟩))
       (.cond (.t 26)
        (.seq
         (.region 0 [⟨(some 2), none, (.p (.mv (.c (.sl 0 [] true)))), false, []⟩,
           ⟨(some 3), none, (.p (.mv (.c (.int .i64 3)))), false, []⟩] (some ⟨[2, 3], [], false⟩))
         .ret)
        .skip))
      (.seq
       (.region 0 [⟨(some 27), none, (.p (.mv (.t 4))), false, []⟩,
         ⟨(some 2), none, (.p (.mv (.t 27))), false, []⟩,
         ⟨(some 3), none, (.p (.mv (.c (.int .i64 0)))), false, []⟩] (some ⟨[2, 3], [], false⟩))
       .ret))))))
theorem Tryd.run23 {xs : List AV} {r : AV} (hl : xs.length ≤ 28) (h : aw Tryd.prog Tryd.c23 (Pv.Ends [2, 3] r) (entry xs)) : Run Tryd.prog 23 xs r :=
  run_of (fun _ _ => drawOk Tryd.mixed) Tryd.func23 rfl rfl rfl (by kernel_rfl) (by kernel_rfl) hl h
/-! 24 paling/line.Words : params [9], results [38, 27], free 0, zeros [(.string ⟨#[]⟩)] -/
def Tryd.c24b0 : AC :=
 (.seq
  (.region 0 [⟨(some 12), none, (.p (.bin .lss (.t 11) (.t 10))), false, []⟩] (some ⟨[4, 9, 10, 11, 12], [], false⟩))
  (.seq
   (.cond (.t 12)
    .skip
    (.exit 0))
   (.seq
    (.block 1
     (.seq
      (.region 0 [⟨(some 13), none, (.p (.iaddr 1 (.t 9) (.t 11))), false, []⟩,
        ⟨(some 14), none, (.r (.load 1 false (.t 13))), false, []⟩,
        ⟨(some 6), none, (.p (.mv (.t 14))), false, []⟩] (some ⟨[4, 6, 9, 10, 11], [], false⟩))
      (.seq
       (.region 0 [⟨(some 15), none, (.p (.mv (.t 6))), false, []⟩,
         ⟨(some 16), none, (.call 51 [(.t 15)] false), false, []⟩,
         ⟨(some 17), none, (.p (.un .not (.t 16))), false, []⟩] (some ⟨[4, 9, 10, 11, 17], [], false⟩))
       (.cond (.t 17)
        (.seq
         (.region 0 [⟨(some 2), none, (.p (.mv (.c (.sl 0 [] true)))), false, []⟩,
           ⟨(some 3), none, (.p (.mv (.c (.int .i64 20)))), false, []⟩] (some ⟨[2, 3], [], false⟩))
         .ret)
        .skip))))
    (.region 0 [⟨(some 18), none, (.p (.bin .add (.t 11) (.c (.int .i64 1)))), false, []⟩,
      ⟨(some 11), none, (.p (.mv (.t 18))), false, []⟩] (some ⟨[4, 9, 10, 11], [], false⟩)))))
def Tryd.c24 : AC :=
 (.seq
  (.region 0 [⟨(some 2), none, (.p (.mv (.c (.sl 0 [] true)))), false, []⟩,
    ⟨(some 3), none, (.p (.mv (.c (.int .i64 0)))), false, []⟩] (some ⟨[0], [], false⟩))
  (.seq
   (.region 0 [⟨(some 7), none, (.p (.mv (.t 0))), false, []⟩,
     ⟨(some 8), none, (.call 50 [(.t 7)] false), false, []⟩,
     ⟨(some 4), none, (.p (.mv (.t 8))), false, []⟩] (some ⟨[4], [], false⟩))
   (.seq
    (.seq
     (.region 0 [⟨(some 9), none, (.p (.mv (.t 4))), false, []⟩,
       ⟨(some 10), none, (.p (.len (.t 9))), false, []⟩,
       ⟨(some 11), none, (.p (.mv (.c (.int .i64 0)))), false, []⟩] (some ⟨[4, 9, 10, 11], [], false⟩))
     (.block 0
      (.loop (some ⟨[4, 9, 10, 11], [], true⟩) Tryd.c24b0)))
    (.seq
     (.region 0 [⟨(some 19), none, (.p (.mv (.t 4))), false, []⟩,
       ⟨(some 2), none, (.p (.mv (.t 19))), false, []⟩,
       ⟨(some 3), none, (.p (.mv (.c (.int .i64 0)))), false, []⟩] (some ⟨[2, 3], [], false⟩))
     .ret))))
theorem Tryd.run24 {xs : List AV} {r : AV} (hl : xs.length ≤ 20) (h : aw Tryd.prog Tryd.c24 (Pv.Ends [2, 3] r) (entry xs)) : Run Tryd.prog 24 xs r :=
  run_of (fun _ _ => drawOk Tryd.mixed) Tryd.func24 rfl rfl rfl (by kernel_rfl) (by kernel_rfl) hl h
/-! 26 paling/stmt.many : params [3, 38], results [4], free 0, zeros [(.int .i64 (0)), (.slice none 0 0)] -/
def Tryd.c26 : AC :=
 (.seq
  (.region 0 [⟨(some 4), none, (.p (.mv (.c (.bool false)))), false, []⟩] (some ⟨[0, 1], [], false⟩))
  (.seq
   (.region 0 [⟨(some 5), none, (.p (.mv (.c (.int .i64 4)))), false, []⟩] (some ⟨[0, 1, 5], [], false⟩))
   (.seq
    (.seq
     (.region 0 [⟨(some 6), none, (.p (.mv (.t 0))), false, []⟩] (some ⟨[1, 5, 6], [], false⟩))
     (.block 0
      (.seq
       (.region 0 [⟨(some 8), none, (.p (.bin .eql (.t 6) (.c (.int .i64 0)))), false, []⟩,
         ⟨(some 7), none, (.p (.mv (.t 8))), false, []⟩] (some ⟨[1, 5, 6, 7], [], false⟩))
       (.cond (.t 7)
        (.seq
         (.region 0 [⟨(some 4), none, (.p (.mv (.c (.bool false)))), false, []⟩] (some ⟨[4], [], false⟩))
         .ret)
        (.seq
         (.region 0 [⟨(some 10), none, (.p (.bin .eql (.t 6) (.c (.int .i64 2)))), false, []⟩,
           ⟨(some 9), none, (.p (.mv (.t 10))), false, []⟩] (some ⟨[1, 5, 6, 9], [], false⟩))
         (.cond (.t 9)
          (.seq
           (.seq
            (.region 0 [⟨(some 11), none, (.p (.mv (.t 1))), false, []⟩,
              ⟨(some 12), none, (.p (.len (.t 11))), false, []⟩,
              ⟨(some 13), none, (.p (.bin .lss (.t 12) (.c (.int .i64 6)))), false, []⟩] (some ⟨[1, 13], [], false⟩))
            (.cond (.t 13)
             (.seq
              (.region 0 [⟨(some 4), none, (.p (.mv (.c (.bool false)))), false, []⟩] (some ⟨[4], [], false⟩))
              .ret)
             .skip))
           (.seq
            (.region 0 [⟨(some 14), none, (.p (.mv (.t 1))), false, []⟩,
              ⟨(some 15), none, (.p (.iaddr 1 (.t 14) (.c (.int .i64 4)))), false, []⟩,
              ⟨(some 16), none, (.r (.load 1 false (.t 15))), false, []⟩,
              ⟨(some 17), none, (.p (.bin .eql (.t 16) (.c (.str [97, 99, 99, 101, 115, 115])))), false, []⟩,
              ⟨(some 18), none, (.p (.mv (.t 17))), false, []⟩,
              ⟨(some 19), (some (18, true)), (.p (.mv (.t 1))), false, []⟩,
              ⟨(some 20), (some (18, true)), (.p (.len (.t 19))), false, []⟩,
              ⟨(some 21), (some (18, true)), (.p (.bin .eql (.t 20) (.c (.int .i64 6)))), false, []⟩,
              ⟨(some 22), none, (.p (.pick (.t 18) (.t 21) (.c (.bool false)))), false, []⟩,
              ⟨(some 23), none, (.p (.mv (.t 22))), false, []⟩,
              ⟨(some 24), (some (23, false)), (.p (.mv (.t 1))), false, []⟩,
              ⟨(some 25), (some (23, false)), (.p (.iaddr 1 (.t 24) (.c (.int .i64 4)))), false, []⟩,
              ⟨(some 26), (some (23, false)), (.r (.load 1 false (.t 25))), false, []⟩,
              ⟨(some 27), (some (23, false)), (.p (.bin .eql (.t 26) (.c (.str [116, 114, 117, 110, 107])))), false, []⟩,
              ⟨(some 28), (some (23, false)), (.p (.mv (.t 27))), false, []⟩,
              ⟨(some 29), (some (28, true)), (.p (.mv (.t 1))), false, []⟩,
              ⟨(some 30), (some (28, true)), (.p (.len (.t 29))), false, []⟩,
              ⟨(some 31), (some (28, true)), (.p (.bin .eql (.t 30) (.c (.int .i64 7)))), false, []⟩,
              ⟨(some 32), (some (23, false)), (.p (.pick (.t 28) (.t 31) (.c (.bool false)))), false, []⟩,
              ⟨(some 33), none, (.p (.pick (.t 23) (.c (.bool true)) (.t 32))), false, []⟩,
              ⟨(some 34), none, (.p (.mv (.t 33))), false, []⟩,
              ⟨(some 35), (some (34, false)), (.p (.mv (.t 1))), false, []⟩,
              ⟨(some 36), (some (34, false)), (.p (.iaddr 1 (.t 35) (.c (.int .i64 4)))), false, []⟩,
              ⟨(some 37), (some (34, false)), (.r (.load 1 false (.t 36))), false, []⟩,
              ⟨(some 38), (some (34, false)), (.p (.bin .neq (.t 37) (.c (.str [97, 99, 99, 101, 115, 115])))), false, []⟩,
              ⟨(some 39), (some (34, false)), (.p (.mv (.t 38))), false, []⟩,
              ⟨(some 40), (some (39, true)), (.p (.mv (.t 1))), false, []⟩,
              ⟨(some 41), (some (39, true)), (.p (.iaddr 1 (.t 40) (.c (.int .i64 4)))), false, []⟩,
              ⟨(some 42), (some (39, true)), (.r (.load 1 false (.t 41))), false, []⟩,
              ⟨(some 43), (some (39, true)), (.p (.bin .neq (.t 42) (.c (.str [116, 114, 117, 110, 107])))), false, []⟩,
              ⟨(some 44), (some (34, false)), (.p (.pick (.t 39) (.t 43) (.c (.bool false)))), false, []⟩,
              ⟨(some 45), (some (34, false)), (.p (.mv (.t 44))), false, []⟩,
              ⟨(some 46), (some (45, true)), (.p (.mv (.t 1))), false, []⟩,
              ⟨(some 47), (some (45, true)), (.p (.len (.t 46))), false, []⟩,
              ⟨(some 48), (some (45, true)), (.p (.bin .leq (.t 47) (.c (.int .i64 7)))), false, []⟩,
              ⟨(some 49), (some (34, false)), (.p (.pick (.t 45) (.t 48) (.c (.bool false)))), false, []⟩,
              ⟨(some 50), none, (.p (.pick (.t 34) (.c (.bool true)) (.t 49))), false, []⟩,
              ⟨(some 4), none, (.p (.mv (.t 50))), false, []⟩] (some ⟨[4], [], false⟩))
            .ret))
          (.seq
           (.seq
            (.region 0 [⟨(some 52), none, (.p (.bin .eql (.t 6) (.c (.int .i64 3)))), false, []⟩,
              ⟨(some 51), none, (.p (.mv (.t 52))), false, []⟩] (some ⟨[1, 5, 6, 51], [], false⟩))
            (.cond (.t 51)
             .skip
             (.seq
              (.region 0 [⟨(some 53), none, (.p (.bin .eql (.t 6) (.c (.int .i64 4)))), false, []⟩,
                ⟨(some 51), none, (.p (.mv (.t 53))), false, []⟩] (some ⟨[1, 5, 6, 51], [], false⟩))
              (.cond (.t 51)
               .skip
               (.seq
                (.region 0 [⟨(some 54), none, (.p (.bin .eql (.t 6) (.c (.int .i64 8)))), false, []⟩,
                  ⟨(some 51), none, (.p (.mv (.t 54))), false, []⟩] (some ⟨[1, 5, 6, 51], [], false⟩))
                (.cond (.t 51)
                 .skip
                 (.region 0 [⟨(some 55), none, (.p (.bin .eql (.t 6) (.c (.int .i64 9)))), false, []⟩,
                   ⟨(some 51), none, (.p (.mv (.t 55))), false, []⟩] (some ⟨[1, 5, 6, 51], [], false⟩))))))))
           (.cond (.t 51)
            (.region 0 [⟨(some 5), none, (.p (.mv (.c (.int .i64 5)))), false, []⟩] (some ⟨[1, 5], [], false⟩))
            (.seq
             (.region 0 [⟨(some 57), none, (.p (.bin .eql (.t 6) (.c (.int .i64 5)))), false, []⟩,
               ⟨(some 56), none, (.p (.mv (.t 57))), false, []⟩] (some ⟨[1, 5, 56], [], false⟩))
             (.cond (.t 56)
              (.region 0 [⟨(some 5), none, (.p (.mv (.c (.int .i64 3)))), false, []⟩] (some ⟨[1, 5], [], false⟩))
              .skip))))))))))
    (.seq
     (.region 0 [⟨(some 58), none, (.p (.mv (.t 1))), false, []⟩,
       ⟨(some 59), none, (.p (.len (.t 58))), false, []⟩,
       ⟨(some 60), none, (.p (.mv (.t 5))), false, []⟩,
       ⟨(some 61), none, (.p (.bin .eql (.t 59) (.t 60))), false, []⟩,
       ⟨(some 4), none, (.p (.mv (.t 61))), false, []⟩] (some ⟨[4], [], false⟩))
     .ret))))
theorem Tryd.run26 {xs : List AV} {r : AV} (hl : xs.length ≤ 62) (h : aw Tryd.prog Tryd.c26 (Pv.Ends [4] r) (entry xs)) : Run Tryd.prog 26 xs r :=
  run_of (fun _ _ => drawOk Tryd.mixed) Tryd.func26 rfl rfl rfl (by kernel_rfl) (by kernel_rfl) hl h
/-! 27 paling/stmt.kind : params [9], results [3], free 0, zeros [(.string ⟨#[]⟩)] -/
def Tryd.c27 : AC :=
 (.seq
  (.region 0 [⟨(some 2), none, (.p (.mv (.c (.int .i64 0)))), false, []⟩] (some ⟨[0], [], false⟩))
  (.seq
   (.seq
    (.region 0 [⟨(some 3), none, (.p (.mv (.t 0))), false, []⟩] (some ⟨[3], [], false⟩))
    (.block 0
     (.seq
      (.region 0 [⟨(some 5), none, (.p (.bin .eql (.t 3) (.c (.str [100, 101, 118, 105, 99, 101])))), false, []⟩,
        ⟨(some 4), none, (.p (.mv (.t 5))), false, []⟩] (some ⟨[3, 4], [], false⟩))
      (.cond (.t 4)
       (.seq
        (.region 0 [⟨(some 2), none, (.p (.mv (.c (.int .i64 1)))), false, []⟩] (some ⟨[2], [], false⟩))
        .ret)
       (.seq
        (.region 0 [⟨(some 7), none, (.p (.bin .eql (.t 3) (.c (.str [112, 111, 114, 116])))), false, []⟩,
          ⟨(some 6), none, (.p (.mv (.t 7))), false, []⟩] (some ⟨[3, 6], [], false⟩))
        (.cond (.t 6)
         (.seq
          (.region 0 [⟨(some 2), none, (.p (.mv (.c (.int .i64 2)))), false, []⟩] (some ⟨[2], [], false⟩))
          .ret)
         (.seq
          (.region 0 [⟨(some 9), none, (.p (.bin .eql (.t 3) (.c (.str [108, 105, 110, 107])))), false, []⟩,
            ⟨(some 8), none, (.p (.mv (.t 9))), false, []⟩] (some ⟨[3, 8], [], false⟩))
          (.cond (.t 8)
           (.seq
            (.region 0 [⟨(some 2), none, (.p (.mv (.c (.int .i64 3)))), false, []⟩] (some ⟨[2], [], false⟩))
            .ret)
           (.seq
            (.region 0 [⟨(some 11), none, (.p (.bin .eql (.t 3) (.c (.str [115, 116, 97, 116, 105, 99])))), false, []⟩,
              ⟨(some 10), none, (.p (.mv (.t 11))), false, []⟩] (some ⟨[3, 10], [], false⟩))
            (.cond (.t 10)
             (.seq
              (.region 0 [⟨(some 2), none, (.p (.mv (.c (.int .i64 4)))), false, []⟩] (some ⟨[2], [], false⟩))
              .ret)
             (.seq
              (.region 0 [⟨(some 13), none, (.p (.bin .eql (.t 3) (.c (.str [118, 116, 101, 112])))), false, []⟩,
                ⟨(some 12), none, (.p (.mv (.t 13))), false, []⟩] (some ⟨[3, 12], [], false⟩))
              (.cond (.t 12)
               (.seq
                (.region 0 [⟨(some 2), none, (.p (.mv (.c (.int .i64 5)))), false, []⟩] (some ⟨[2], [], false⟩))
                .ret)
               (.seq
                (.region 0 [⟨(some 15), none, (.p (.bin .eql (.t 3) (.c (.str [118, 110, 105])))), false, []⟩,
                  ⟨(some 14), none, (.p (.mv (.t 15))), false, []⟩] (some ⟨[3, 14], [], false⟩))
                (.cond (.t 14)
                 (.seq
                  (.region 0 [⟨(some 2), none, (.p (.mv (.c (.int .i64 6)))), false, []⟩] (some ⟨[2], [], false⟩))
                  .ret)
                 (.seq
                  (.region 0 [⟨(some 17), none, (.p (.bin .eql (.t 3) (.c (.str [102, 108, 111, 111, 100])))), false, []⟩,
                    ⟨(some 16), none, (.p (.mv (.t 17))), false, []⟩] (some ⟨[3, 16], [], false⟩))
                  (.cond (.t 16)
                   (.seq
                    (.region 0 [⟨(some 2), none, (.p (.mv (.c (.int .i64 7)))), false, []⟩] (some ⟨[2], [], false⟩))
                    .ret)
                   (.seq
                    (.region 0 [⟨(some 19), none, (.p (.bin .eql (.t 3) (.c (.str [118, 114, 102])))), false, []⟩,
                      ⟨(some 18), none, (.p (.mv (.t 19))), false, []⟩] (some ⟨[3, 18], [], false⟩))
                    (.cond (.t 18)
                     (.seq
                      (.region 0 [⟨(some 2), none, (.p (.mv (.c (.int .i64 8)))), false, []⟩] (some ⟨[2], [], false⟩))
                      .ret)
                     (.seq
                      (.region 0 [⟨(some 21), none, (.p (.bin .eql (.t 3) (.c (.str [105, 114, 98])))), false, []⟩,
                        ⟨(some 20), none, (.p (.mv (.t 21))), false, []⟩] (some ⟨[20], [], false⟩))
                      (.cond (.t 20)
                       (.seq
                        (.region 0 [⟨(some 2), none, (.p (.mv (.c (.int .i64 9)))), false, []⟩] (some ⟨[2], [], false⟩))
                        .ret)
                       .skip))))))))))))))))))))
   (.seq
    (.region 0 [⟨(some 2), none, (.p (.mv (.c (.int .i64 0)))), false, []⟩] (some ⟨[2], [], false⟩))
    .ret)))
theorem Tryd.run27 {xs : List AV} {r : AV} (hl : xs.length ≤ 22) (h : aw Tryd.prog Tryd.c27 (Pv.Ends [2] r) (entry xs)) : Run Tryd.prog 27 xs r :=
  run_of (fun _ _ => drawOk Tryd.mixed) Tryd.func27 rfl rfl rfl (by kernel_rfl) (by kernel_rfl) hl h
/-! 28 (*paling/stmt.reader).name : params [55], results [9], free 0, zeros [(.pointer none)] -/
def Tryd.c28 : AC :=
 (.seq
  (.region 0 [⟨(some 2), none, (.p (.mv (.c (.str [])))), false, []⟩] (some ⟨[0], [], false⟩))
  (.seq
   (.region 0 [⟨(some 4), none, (.p (.mv (.t 0))), false, []⟩,
     ⟨(some 5), none, (.call 35 [(.t 4)] false), false, []⟩,
     ⟨(some 3), none, (.p (.mv (.t 5))), false, []⟩] (some ⟨[0, 3], [], false⟩))
   (.seq
    (.region 0 [⟨(some 6), none, (.p (.mv (.t 0))), false, []⟩,
      ⟨(some 7), none, (.p (.mv (.t 3))), false, []⟩,
      ⟨(some 8), none, (.call 46 [(.t 7)] false), false, []⟩,
      ⟨(some 9), none, (.p (.un .not (.t 8))), false, []⟩,
      ⟨(some 10), none, (.call 32 [(.t 6), (.t 9), (.c (.int .i64 20))] false), false, []⟩] (some ⟨[3], [], false⟩))
    (.seq
     (.region 0 [⟨(some 11), none, (.p (.mv (.t 3))), false, []⟩,
       ⟨(some 2), none, (.p (.mv (.t 11))), false, []⟩] (some ⟨[2], [], false⟩))
     .ret))))
theorem Tryd.run28 {xs : List AV} {r : AV} (hl : xs.length ≤ 12) (h : aw Tryd.prog Tryd.c28 (Pv.Ends [2] r) (entry xs)) : Run Tryd.prog 28 xs r :=
  run_of (fun _ _ => drawOk Tryd.mixed) Tryd.func28 rfl rfl rfl (by kernel_rfl) (by kernel_rfl) hl h
def Tryd.g28 : AC :=
 (.seq
  (.region 0 [⟨(some 2), none, (.p (.mv (.c (.str [])))), false, []⟩] (some ⟨[0], [], false⟩))
  (.seq
   (.region 0 [⟨(some 4), none, (.p (.mv (.t 0))), false, []⟩,
     ⟨(some 5), none, (.call 35 [(.t 4)] false), false, []⟩,
     ⟨(some 3), none, (.p (.mv (.t 5))), false, []⟩] (some ⟨[0, 3], [], false⟩))
   (.seq
    (.region 0 [⟨(some 6), none, (.p (.mv (.t 0))), false, []⟩,
      ⟨(some 7), none, (.p (.mv (.t 3))), false, []⟩,
      ⟨(some 8), none, (.call 46 [(.t 7)] false), false, []⟩,
      ⟨(some 9), none, (.p (.un .not (.t 8))), false, []⟩,
      ⟨(some 10), none, (.call 32 [(.t 6), (.t 9), (.c (.int .i64 20))] false), false, []⟩] (some ⟨[3], [], false⟩))
    (.seq
     (.region 0 [⟨(some 11), none, (.p (.mv (.t 3))), false, []⟩,
       ⟨(some 2), none, (.p (.mv (.t 11))), false, []⟩] (some ⟨[2], [], false⟩))
     .ret))))
theorem Tryd.gen28 {xs : List AV} {r : AV} {H H' : Hp} (hl : xs.length ≤ 12) (h : aw Tryd.prog Tryd.g28 (Pv.EndsG [2] r H') ⟨xs.zipIdx.map fun p => (p.2, p.1), H⟩) : Gen Tryd.prog 28 xs H r H' :=
  gen_of (fun _ _ => drawOk Tryd.mixed) Tryd.func28 rfl rfl rfl (by kernel_rfl) (by kernel_rfl) hl h
/-! 29 (*paling/stmt.reader).vlan : params [55], results [3], free 0, zeros [(.pointer none)] -/
def Tryd.c29 : AC :=
 (.seq
  (.region 0 [⟨(some 2), none, (.p (.mv (.c (.int .i64 0)))), false, []⟩] (some ⟨[0], [], false⟩))
  (.seq
   (.region 0 [⟨(some 3), none, (.p (.mv (.t 0))), false, []⟩,
     ⟨(some 4), none, (.call 30 [(.t 3), (.c (.int .i64 1)), (.c (.int .i64 4094))] false), false, []⟩,
     ⟨(some 2), none, (.p (.mv (.t 4))), false, []⟩] (some ⟨[2], [], false⟩))
   .ret))
theorem Tryd.run29 {xs : List AV} {r : AV} (hl : xs.length ≤ 5) (h : aw Tryd.prog Tryd.c29 (Pv.Ends [2] r) (entry xs)) : Run Tryd.prog 29 xs r :=
  run_of (fun _ _ => drawOk Tryd.mixed) Tryd.func29 rfl rfl rfl (by kernel_rfl) (by kernel_rfl) hl h
def Tryd.g29 : AC :=
 (.seq
  (.region 0 [⟨(some 2), none, (.p (.mv (.c (.int .i64 0)))), false, []⟩] (some ⟨[0], [], false⟩))
  (.seq
   (.region 0 [⟨(some 3), none, (.p (.mv (.t 0))), false, []⟩,
     ⟨(some 4), none, (.call 30 [(.t 3), (.c (.int .i64 1)), (.c (.int .i64 4094))] false), false, []⟩,
     ⟨(some 2), none, (.p (.mv (.t 4))), false, []⟩] (some ⟨[2], [], false⟩))
   .ret))
theorem Tryd.gen29 {xs : List AV} {r : AV} {H H' : Hp} (hl : xs.length ≤ 5) (h : aw Tryd.prog Tryd.g29 (Pv.EndsG [2] r H') ⟨xs.zipIdx.map fun p => (p.2, p.1), H⟩) : Gen Tryd.prog 29 xs H r H' :=
  gen_of (fun _ _ => drawOk Tryd.mixed) Tryd.func29 rfl rfl rfl (by kernel_rfl) (by kernel_rfl) hl h
/-! 30 (*paling/stmt.reader).number : params [55, 3, 3], results [3], free 0, zeros [(.pointer none), (.int .i64 (0)), (.int .i64 (0))] -/
def Tryd.c30 : AC :=
 (.seq
  (.region 0 [⟨(some 6), none, (.p (.mv (.c (.int .i64 0)))), false, []⟩] (some ⟨[0, 1, 2], [], false⟩))
  (.seq
   (.region 0 [⟨(some 10), none, (.p (.mv (.t 0))), false, []⟩,
     ⟨(some 11), none, (.call 35 [(.t 10)] false), false, []⟩,
     ⟨(some 12), none, (.p (.mv (.t 1))), false, []⟩,
     ⟨(some 13), none, (.p (.mv (.t 2))), false, []⟩,
     ⟨(some 14), none, (.call 54 [(.t 11), (.t 12), (.t 13)] false), false, []⟩,
     ⟨(some 9), none, (.p (.mv (.t 14))), false, []⟩,
     ⟨(some 15), none, (.p (.ext (.t 9) 0)), false, []⟩,
     ⟨(some 16), none, (.p (.ext (.t 9) 1)), false, []⟩,
     ⟨(some 7), none, (.p (.mv (.t 15))), false, []⟩,
     ⟨(some 8), none, (.p (.mv (.t 16))), false, []⟩] (some ⟨[0, 7, 8], [], false⟩))
   (.seq
    (.region 0 [⟨(some 17), none, (.p (.mv (.t 0))), false, []⟩,
      ⟨(some 18), none, (.p (.mv (.t 8))), false, []⟩,
      ⟨(some 19), none, (.p (.un .not (.t 18))), false, []⟩,
      ⟨(some 20), none, (.call 32 [(.t 17), (.t 19), (.c (.int .i64 21))] false), false, []⟩] (some ⟨[7], [], false⟩))
    (.seq
     (.region 0 [⟨(some 21), none, (.p (.mv (.t 7))), false, []⟩,
       ⟨(some 6), none, (.p (.mv (.t 21))), false, []⟩] (some ⟨[6], [], false⟩))
     .ret))))
theorem Tryd.run30 {xs : List AV} {r : AV} (hl : xs.length ≤ 22) (h : aw Tryd.prog Tryd.c30 (Pv.Ends [6] r) (entry xs)) : Run Tryd.prog 30 xs r :=
  run_of (fun _ _ => drawOk Tryd.mixed) Tryd.func30 rfl rfl rfl (by kernel_rfl) (by kernel_rfl) hl h
def Tryd.g30 : AC :=
 (.seq
  (.region 0 [⟨(some 6), none, (.p (.mv (.c (.int .i64 0)))), false, []⟩] (some ⟨[0, 1, 2], [], false⟩))
  (.seq
   (.region 0 [⟨(some 10), none, (.p (.mv (.t 0))), false, []⟩,
     ⟨(some 11), none, (.call 35 [(.t 10)] false), false, []⟩,
     ⟨(some 12), none, (.p (.mv (.t 1))), false, []⟩,
     ⟨(some 13), none, (.p (.mv (.t 2))), false, []⟩,
     ⟨(some 14), none, (.call 54 [(.t 11), (.t 12), (.t 13)] false), false, []⟩,
     ⟨(some 9), none, (.p (.mv (.t 14))), false, []⟩,
     ⟨(some 15), none, (.p (.ext (.t 9) 0)), false, []⟩,
     ⟨(some 16), none, (.p (.ext (.t 9) 1)), false, []⟩,
     ⟨(some 7), none, (.p (.mv (.t 15))), false, []⟩,
     ⟨(some 8), none, (.p (.mv (.t 16))), false, []⟩] (some ⟨[0, 7, 8], [], false⟩))
   (.seq
    (.region 0 [⟨(some 17), none, (.p (.mv (.t 0))), false, []⟩,
      ⟨(some 18), none, (.p (.mv (.t 8))), false, []⟩,
      ⟨(some 19), none, (.p (.un .not (.t 18))), false, []⟩,
      ⟨(some 20), none, (.call 32 [(.t 17), (.t 19), (.c (.int .i64 21))] false), false, []⟩] (some ⟨[7], [], false⟩))
    (.seq
     (.region 0 [⟨(some 21), none, (.p (.mv (.t 7))), false, []⟩,
       ⟨(some 6), none, (.p (.mv (.t 21))), false, []⟩] (some ⟨[6], [], false⟩))
     .ret))))
theorem Tryd.gen30 {xs : List AV} {r : AV} {H H' : Hp} (hl : xs.length ≤ 22) (h : aw Tryd.prog Tryd.g30 (Pv.EndsG [6] r H') ⟨xs.zipIdx.map fun p => (p.2, p.1), H⟩) : Gen Tryd.prog 30 xs H r H' :=
  gen_of (fun _ _ => drawOk Tryd.mixed) Tryd.func30 rfl rfl rfl (by kernel_rfl) (by kernel_rfl) hl h
/-! 31 (*paling/stmt.reader).mac : params [55], results [30], free 0, zeros [(.pointer none)] -/
def Tryd.c31 : AC :=
 (.seq
  (.region 0 [⟨(some 2), none, (.p (.mv (.c (.int .u64 0)))), false, []⟩] (some ⟨[0], [], false⟩))
  (.seq
   (.region 0 [⟨(some 6), none, (.p (.mv (.t 0))), false, []⟩,
     ⟨(some 7), none, (.call 35 [(.t 6)] false), false, []⟩,
     ⟨(some 8), none, (.call 55 [(.t 7)] false), false, []⟩,
     ⟨(some 5), none, (.p (.mv (.t 8))), false, []⟩,
     ⟨(some 9), none, (.p (.ext (.t 5) 0)), false, []⟩,
     ⟨(some 10), none, (.p (.ext (.t 5) 1)), false, []⟩,
     ⟨(some 3), none, (.p (.mv (.t 9))), false, []⟩,
     ⟨(some 4), none, (.p (.mv (.t 10))), false, []⟩] (some ⟨[0, 3, 4], [], false⟩))
   (.seq
    (.region 0 [⟨(some 11), none, (.p (.mv (.t 0))), false, []⟩,
      ⟨(some 12), none, (.p (.mv (.t 4))), false, []⟩,
      ⟨(some 13), none, (.p (.un .not (.t 12))), false, []⟩,
      ⟨(some 14), none, (.p (.mv (.t 13))), false, []⟩,
      ⟨(some 15), (some (14, false)), (.p (.mv (.t 3))), false, []⟩,
      ⟨(some 16), (some (14, false)), (.call 56 [(.t 15)] false), false, []⟩,
      ⟨(some 17), (some (14, false)), (.p (.un .not (.t 16))), false, []⟩,
      ⟨(some 18), none, (.p (.pick (.t 14) (.c (.bool true)) (.t 17))), false, []⟩,
      ⟨(some 19), none, (.call 32 [(.t 11), (.t 18), (.c (.int .i64 21))] false), false, []⟩] (some ⟨[3], [], false⟩))
    (.seq
     (.region 0 [⟨(some 20), none, (.p (.mv (.t 3))), false, []⟩,
       ⟨(some 2), none, (.p (.mv (.t 20))), false, []⟩] (some ⟨[2], [], false⟩))
     .ret))))
theorem Tryd.run31 {xs : List AV} {r : AV} (hl : xs.length ≤ 21) (h : aw Tryd.prog Tryd.c31 (Pv.Ends [2] r) (entry xs)) : Run Tryd.prog 31 xs r :=
  run_of (fun _ _ => drawOk Tryd.mixed) Tryd.func31 rfl rfl rfl (by kernel_rfl) (by kernel_rfl) hl h
def Tryd.g31 : AC :=
 (.seq
  (.region 0 [⟨(some 2), none, (.p (.mv (.c (.int .u64 0)))), false, []⟩] (some ⟨[0], [], false⟩))
  (.seq
   (.region 0 [⟨(some 6), none, (.p (.mv (.t 0))), false, []⟩,
     ⟨(some 7), none, (.call 35 [(.t 6)] false), false, []⟩,
     ⟨(some 8), none, (.call 55 [(.t 7)] false), false, []⟩,
     ⟨(some 5), none, (.p (.mv (.t 8))), false, []⟩,
     ⟨(some 9), none, (.p (.ext (.t 5) 0)), false, []⟩,
     ⟨(some 10), none, (.p (.ext (.t 5) 1)), false, []⟩,
     ⟨(some 3), none, (.p (.mv (.t 9))), false, []⟩,
     ⟨(some 4), none, (.p (.mv (.t 10))), false, []⟩] (some ⟨[0, 3, 4], [], false⟩))
   (.seq
    (.region 0 [⟨(some 11), none, (.p (.mv (.t 0))), false, []⟩,
      ⟨(some 12), none, (.p (.mv (.t 4))), false, []⟩,
      ⟨(some 13), none, (.p (.un .not (.t 12))), false, []⟩,
      ⟨(some 14), none, (.p (.mv (.t 13))), false, []⟩,
      ⟨(some 15), (some (14, false)), (.p (.mv (.t 3))), false, []⟩,
      ⟨(some 16), (some (14, false)), (.call 56 [(.t 15)] false), false, []⟩,
      ⟨(some 17), (some (14, false)), (.p (.un .not (.t 16))), false, []⟩,
      ⟨(some 18), none, (.p (.pick (.t 14) (.c (.bool true)) (.t 17))), false, []⟩,
      ⟨(some 19), none, (.call 32 [(.t 11), (.t 18), (.c (.int .i64 21))] false), false, []⟩] (some ⟨[3], [], false⟩))
    (.seq
     (.region 0 [⟨(some 20), none, (.p (.mv (.t 3))), false, []⟩,
       ⟨(some 2), none, (.p (.mv (.t 20))), false, []⟩] (some ⟨[2], [], false⟩))
     .ret))))
theorem Tryd.gen31 {xs : List AV} {r : AV} {H H' : Hp} (hl : xs.length ≤ 21) (h : aw Tryd.prog Tryd.g31 (Pv.EndsG [2] r H') ⟨xs.zipIdx.map fun p => (p.2, p.1), H⟩) : Gen Tryd.prog 31 xs H r H' :=
  gen_of (fun _ _ => drawOk Tryd.mixed) Tryd.func31 rfl rfl rfl (by kernel_rfl) (by kernel_rfl) hl h
/-! 32 (*paling/stmt.reader).fail : params [55, 4, 27], results [], free 0, zeros [(.pointer none), (.bool false), (.int .i64 (0))] -/
def Tryd.c32 : AC :=
 (.seq
  (.region 0 [⟨(some 6), none, (.p (.mv (.t 1))), false, []⟩,
    ⟨(some 7), none, (.p (.mv (.t 6))), false, []⟩,
    ⟨(some 8), (some (7, true)), (.p (.mv (.t 0))), false, []⟩,
    ⟨(some 9), (some (7, true)), (.p (.nilck (.t 8))), false, []⟩,
    ⟨(some 10), (some (7, true)), (.p (.faddr 2 (.t 9))), false, []⟩,
    ⟨(some 11), (some (7, true)), (.r (.load 1 false (.t 10))), false, []⟩,
    ⟨(some 12), (some (7, true)), (.p (.bin .eql (.t 11) (.c (.int .i64 0)))), false, []⟩,
    ⟨(some 13), none, (.p (.pick (.t 7) (.t 12) (.c (.bool false)))), false, []⟩] (some ⟨[0, 2, 13], [], false⟩))
  (.cond (.t 13)
   (.region 0 [⟨(some 14), none, (.p (.mv (.t 0))), false, []⟩,
     ⟨(some 15), none, (.p (.mv (.t 2))), false, []⟩,
     ⟨(some 16), none, (.p (.nilck (.t 14))), false, []⟩,
     ⟨(some 17), none, (.p (.faddr 2 (.t 16))), false, []⟩,
     ⟨none, none, (.e (.store 1 (.t 17) (.t 15)) none), false, []⟩] (some ⟨[], [], false⟩))
   .skip))
theorem Tryd.run32 {xs : List AV} {r : AV} (hl : xs.length ≤ 18) (h : aw Tryd.prog Tryd.c32 (Pv.Ends [] r) (entry xs)) : Run Tryd.prog 32 xs r :=
  run_of (fun _ _ => drawOk Tryd.mixed) Tryd.func32 rfl rfl rfl (by kernel_rfl) (by kernel_rfl) hl h
def Tryd.g32 : AC :=
 (.seq
  (.region 0 [⟨(some 6), none, (.p (.mv (.t 1))), false, []⟩,
    ⟨(some 7), none, (.p (.mv (.t 6))), false, []⟩,
    ⟨(some 8), (some (7, true)), (.p (.mv (.t 0))), false, []⟩,
    ⟨(some 9), (some (7, true)), (.p (.nilck (.t 8))), false, []⟩,
    ⟨(some 10), (some (7, true)), (.p (.faddr 2 (.t 9))), false, []⟩,
    ⟨(some 11), (some (7, true)), (.r (.load 1 false (.t 10))), false, []⟩,
    ⟨(some 12), (some (7, true)), (.p (.bin .eql (.t 11) (.c (.int .i64 0)))), false, []⟩,
    ⟨(some 13), none, (.p (.pick (.t 7) (.t 12) (.c (.bool false)))), false, []⟩] (some ⟨[0, 2, 13], [], false⟩))
  (.cond (.t 13)
   (.region 0 [⟨(some 14), none, (.p (.mv (.t 0))), false, []⟩,
     ⟨(some 15), none, (.p (.mv (.t 2))), false, []⟩,
     ⟨(some 16), none, (.p (.nilck (.t 14))), false, []⟩,
     ⟨(some 17), none, (.p (.faddr 2 (.t 16))), false, []⟩,
     ⟨none, none, (.e (.store 1 (.t 17) (.t 15)) none), false, []⟩] (some ⟨[], [], false⟩))
   .skip))
theorem Tryd.gen32 {xs : List AV} {r : AV} {H H' : Hp} (hl : xs.length ≤ 18) (h : aw Tryd.prog Tryd.g32 (Pv.EndsG [] r H') ⟨xs.zipIdx.map fun p => (p.2, p.1), H⟩) : Gen Tryd.prog 32 xs H r H' :=
  gen_of (fun _ _ => drawOk Tryd.mixed) Tryd.func32 rfl rfl rfl (by kernel_rfl) (by kernel_rfl) hl h
/-! 33 (*paling/stmt.reader).port : params [55, 64], results [], free 0, zeros [(.pointer none), (.pointer none)] -/
def Tryd.c33 : AC :=
 (.seq
  (.seq
   (.region 0 [⟨(some 5), none, (.p (.mv (.t 0))), false, []⟩,
     ⟨(some 6), none, (.call 35 [(.t 5)] false), false, []⟩,
     ⟨(some 4), none, (.p (.mv (.t 6))), false, []⟩] (some ⟨[0, 1, 4], [], false⟩))
   (.seq
    (.region 0 [⟨(some 7), none, (.p (.mv (.t 4))), false, []⟩] (some ⟨[0, 1, 7], [], false⟩))
    (.block 0
     (.seq
      (.region 0 [⟨(some 9), none, (.p (.bin .eql (.t 7) (.c (.str [97, 99, 99, 101, 115, 115])))), false, []⟩,
        ⟨(some 8), none, (.p (.mv (.t 9))), false, []⟩] (some ⟨[0, 1, 7, 8], [], false⟩))
      (.cond (.t 8)
       (.region 0 [⟨(some 10), none, (.p (.mv (.t 1))), false, []⟩,
         ⟨(some 11), none, (.p (.mv (.t 0))), false, []⟩,
         ⟨(some 12), none, (.call 29 [(.t 11)] false), false, []⟩,
         ⟨(some 13), none, (.p (.nilck (.t 10))), false, []⟩,
         ⟨(some 14), none, (.p (.faddr 10 (.t 13))), false, []⟩,
         ⟨none, none, (.e (.store 1 (.t 14) (.t 12)) none), false, []⟩] (some ⟨[0, 1], [], false⟩))
       (.seq
        (.region 0 [⟨(some 16), none, (.p (.bin .eql (.t 7) (.c (.str [116, 114, 117, 110, 107])))), false, []⟩,
          ⟨(some 15), none, (.p (.mv (.t 16))), false, []⟩] (some ⟨[0, 1, 15], [], false⟩))
        (.cond (.t 15)
         (.seq
          (.seq
           (.region 11 [⟨(some 17), none, (.p (.mv (.t 0))), false, []⟩,
             ⟨(some 18), none, (.p (.nilck (.t 17))), false, []⟩,
             ⟨(some 19), none, (.p (.faddr 0 (.t 18))), false, []⟩,
             ⟨(some 20), none, (.r (.load 1 false (.t 19))), false, []⟩,
             ⟨(some 21), none, (.p (.mv (.t 0))), false, []⟩,
             ⟨(some 22), none, (.p (.nilck (.t 21))), false, []⟩,
             ⟨(some 23), none, (.p (.faddr 1 (.t 22))), false, []⟩,
             ⟨(some 24), none, (.r (.load 1 false (.t 23))), false, []⟩,
             ⟨(some 25), none, (.p (.iaddr 1 (.t 20) (.t 24))), false, []⟩,
             ⟨(some 26), none, (.r (.load 1 false (.t 25))), false, []⟩,
             ⟨(some 27), none, (.p (.bin .eql (.t 26) (.c (.str [45])))), false, []⟩] (some ⟨[0, 1, 27], [], true⟩))
           (.cond (.t 27)
            (.region 0 [⟨(some 28), none, (.p (.mv (.t 0))), false, []⟩,
              ⟨(some 29), none, (.p (.nilck (.t 28))), false, []⟩,
              ⟨(some 30), none, (.p (.faddr 1 (.t 29))), false, []⟩,
              ⟨(some 31), none, (.r (.load 1 false (.t 30))), false, []⟩,
              ⟨(some 32), none, (.p (.bin .add (.t 31) (.c (.int .i64 1)))), false, []⟩,
              ⟨(some 33), none, (.p (.nilck (.t 28))), false, []⟩,
              ⟨(some 34), none, (.p (.faddr 1 (.t 33))), false, []⟩,
              ⟨none, none, (.e (.store 1 (.t 34) (.t 32)) none), false, []⟩] (some ⟨[0, 1], [], false⟩))
            (.region 0 [⟨(some 35), none, (.p (.mv (.t 1))), false, []⟩,
              ⟨(some 36), none, (.p (.mv (.t 0))), false, []⟩,
              ⟨(some 37), none, (.call 29 [(.t 36)] false), false, []⟩,
              ⟨(some 38), none, (.p (.nilck (.t 35))), false, []⟩,
              ⟨(some 39), none, (.p (.faddr 10 (.t 38))), false, []⟩,
              ⟨none, none, (.e (.store 1 (.t 39) (.t 37)) none), false, []⟩] (some ⟨[0, 1], [], false⟩))))
          (.region 0 [⟨(some 40), none, (.p (.mv (.t 1))), false, []⟩,
            ⟨(some 41), none, (.p (.mv (.t 0))), false, []⟩,
            ⟨(some 42), none, (.call 38 [(.t 41), (.c (.int .i64 4094))] false), false, []⟩,
            ⟨(some 43), none, (.p (.nilck (.t 40))), false, []⟩,
            ⟨(some 44), none, (.p (.faddr 13 (.t 43))), false, []⟩,
            ⟨none, none, (.e (.store 1 (.t 44) (.t 42)) none), false, []⟩] (some ⟨[0, 1], [], false⟩)))
         .skip)))))))
  (.region 0 [⟨(some 45), none, (.p (.mv (.t 0))), false, []⟩,
    ⟨(some 46), none, (.p (.mv (.t 1))), false, []⟩,
    ⟨(some 47), none, (.p (.nilck (.t 46))), false, []⟩,
    ⟨(some 48), none, (.r (.load 17 true (.t 47))), false, []⟩,
    ⟨(some 49), none, (.call 57 [(.t 48)] false), false, []⟩,
    ⟨(some 50), none, (.p (.un .not (.t 49))), false, []⟩,
    ⟨(some 51), none, (.call 32 [(.t 45), (.t 50), (.c (.int .i64 21))] false), false, []⟩] (some ⟨[], [], false⟩)))
theorem Tryd.run33 {xs : List AV} {r : AV} (hl : xs.length ≤ 52) (h : aw Tryd.prog Tryd.c33 (Pv.Ends [] r) (entry xs)) : Run Tryd.prog 33 xs r :=
  run_of (fun _ _ => drawOk Tryd.mixed) Tryd.func33 rfl rfl rfl (by kernel_rfl) (by kernel_rfl) hl h
def Tryd.g33 : AC :=
 (.seq
  (.seq
   (.region 0 [⟨(some 5), none, (.p (.mv (.t 0))), false, []⟩,
     ⟨(some 6), none, (.call 35 [(.t 5)] false), false, []⟩,
     ⟨(some 4), none, (.p (.mv (.t 6))), false, []⟩] (some ⟨[0, 1, 4], [], false⟩))
   (.seq
    (.region 0 [⟨(some 7), none, (.p (.mv (.t 4))), false, []⟩] (some ⟨[0, 1, 7], [], false⟩))
    (.block 0
     (.seq
      (.region 0 [⟨(some 9), none, (.p (.bin .eql (.t 7) (.c (.str [97, 99, 99, 101, 115, 115])))), false, []⟩,
        ⟨(some 8), none, (.p (.mv (.t 9))), false, []⟩] (some ⟨[0, 1, 7, 8], [], false⟩))
      (.cond (.t 8)
       (.region 0 [⟨(some 10), none, (.p (.mv (.t 1))), false, []⟩,
         ⟨(some 11), none, (.p (.mv (.t 0))), false, []⟩,
         ⟨(some 12), none, (.call 29 [(.t 11)] false), false, []⟩,
         ⟨(some 13), none, (.p (.nilck (.t 10))), false, []⟩,
         ⟨(some 14), none, (.p (.faddr 10 (.t 13))), false, []⟩,
         ⟨none, none, (.e (.store 1 (.t 14) (.t 12)) none), false, []⟩] (some ⟨[0, 1], [], false⟩))
       (.seq
        (.region 0 [⟨(some 16), none, (.p (.bin .eql (.t 7) (.c (.str [116, 114, 117, 110, 107])))), false, []⟩,
          ⟨(some 15), none, (.p (.mv (.t 16))), false, []⟩] (some ⟨[0, 1, 15], [], false⟩))
        (.cond (.t 15)
         (.seq
          (.seq
           (.region 11 [⟨(some 17), none, (.p (.mv (.t 0))), false, []⟩,
             ⟨(some 18), none, (.p (.nilck (.t 17))), false, []⟩,
             ⟨(some 19), none, (.p (.faddr 0 (.t 18))), false, []⟩,
             ⟨(some 20), none, (.r (.load 1 false (.t 19))), false, []⟩,
             ⟨(some 21), none, (.p (.mv (.t 0))), false, []⟩,
             ⟨(some 22), none, (.p (.nilck (.t 21))), false, []⟩,
             ⟨(some 23), none, (.p (.faddr 1 (.t 22))), false, []⟩,
             ⟨(some 24), none, (.r (.load 1 false (.t 23))), false, []⟩,
             ⟨(some 25), none, (.p (.iaddr 1 (.t 20) (.t 24))), false, []⟩,
             ⟨(some 26), none, (.r (.load 1 false (.t 25))), false, []⟩,
             ⟨(some 27), none, (.p (.bin .eql (.t 26) (.c (.str [45])))), false, []⟩] (some ⟨[0, 1, 27], [], false⟩))
           (.cond (.t 27)
            (.region 0 [⟨(some 28), none, (.p (.mv (.t 0))), false, []⟩,
              ⟨(some 29), none, (.p (.nilck (.t 28))), false, []⟩,
              ⟨(some 30), none, (.p (.faddr 1 (.t 29))), false, []⟩,
              ⟨(some 31), none, (.r (.load 1 false (.t 30))), false, []⟩,
              ⟨(some 32), none, (.p (.bin .add (.t 31) (.c (.int .i64 1)))), false, []⟩,
              ⟨(some 33), none, (.p (.nilck (.t 28))), false, []⟩,
              ⟨(some 34), none, (.p (.faddr 1 (.t 33))), false, []⟩,
              ⟨none, none, (.e (.store 1 (.t 34) (.t 32)) none), false, []⟩] (some ⟨[0, 1], [], false⟩))
            (.region 0 [⟨(some 35), none, (.p (.mv (.t 1))), false, []⟩,
              ⟨(some 36), none, (.p (.mv (.t 0))), false, []⟩,
              ⟨(some 37), none, (.call 29 [(.t 36)] false), false, []⟩,
              ⟨(some 38), none, (.p (.nilck (.t 35))), false, []⟩,
              ⟨(some 39), none, (.p (.faddr 10 (.t 38))), false, []⟩,
              ⟨none, none, (.e (.store 1 (.t 39) (.t 37)) none), false, []⟩] (some ⟨[0, 1], [], false⟩))))
          (.region 0 [⟨(some 40), none, (.p (.mv (.t 1))), false, []⟩,
            ⟨(some 41), none, (.p (.mv (.t 0))), false, []⟩,
            ⟨(some 42), none, (.call 38 [(.t 41), (.c (.int .i64 4094))] false), false, []⟩,
            ⟨(some 43), none, (.p (.nilck (.t 40))), false, []⟩,
            ⟨(some 44), none, (.p (.faddr 13 (.t 43))), false, []⟩,
            ⟨none, none, (.e (.store 1 (.t 44) (.t 42)) none), false, []⟩] (some ⟨[0, 1], [], false⟩)))
         .skip)))))))
  (.region 0 [⟨(some 45), none, (.p (.mv (.t 0))), false, []⟩,
    ⟨(some 46), none, (.p (.mv (.t 1))), false, []⟩,
    ⟨(some 47), none, (.p (.nilck (.t 46))), false, []⟩,
    ⟨(some 48), none, (.r (.load 17 true (.t 47))), false, []⟩,
    ⟨(some 49), none, (.call 57 [(.t 48)] false), false, []⟩,
    ⟨(some 50), none, (.p (.un .not (.t 49))), false, []⟩,
    ⟨(some 51), none, (.call 32 [(.t 45), (.t 50), (.c (.int .i64 21))] false), false, []⟩] (some ⟨[], [], false⟩)))
theorem Tryd.gen33 {xs : List AV} {r : AV} {H H' : Hp} (hl : xs.length ≤ 52) (h : aw Tryd.prog Tryd.g33 (Pv.EndsG [] r H') ⟨xs.zipIdx.map fun p => (p.2, p.1), H⟩) : Gen Tryd.prog 33 xs H r H' :=
  gen_of (fun _ _ => drawOk Tryd.mixed) Tryd.func33 rfl rfl rfl (by kernel_rfl) (by kernel_rfl) hl h
/-! 35 (*paling/stmt.reader).next : params [55], results [9], free 0, zeros [(.pointer none)] -/
def Tryd.c35 : AC :=
 (.seq
  (.region 0 [⟨(some 2), none, (.p (.mv (.c (.str [])))), false, []⟩] (some ⟨[0], [], false⟩))
  (.seq
   (.region 0 [⟨(some 3), none, (.p (.mv (.t 0))), false, []⟩,
     ⟨(some 4), none, (.p (.nilck (.t 3))), false, []⟩,
     ⟨(some 5), none, (.p (.faddr 1 (.t 4))), false, []⟩,
     ⟨(some 6), none, (.r (.load 1 false (.t 5))), false, []⟩,
     ⟨(some 7), none, (.p (.bin .add (.t 6) (.c (.int .i64 1)))), false, []⟩,
     ⟨(some 8), none, (.p (.nilck (.t 3))), false, []⟩,
     ⟨(some 9), none, (.p (.faddr 1 (.t 8))), false, []⟩,
     ⟨none, none, (.e (.store 1 (.t 9) (.t 7)) none), false, []⟩] (some ⟨[0], [], false⟩))
   (.seq
    (.region 12 [⟨(some 10), none, (.p (.mv (.t 0))), false, []⟩,
      ⟨(some 11), none, (.p (.nilck (.t 10))), false, []⟩,
      ⟨(some 12), none, (.p (.faddr 0 (.t 11))), false, []⟩,
      ⟨(some 13), none, (.r (.load 1 false (.t 12))), false, []⟩,
      ⟨(some 14), none, (.p (.mv (.t 0))), false, []⟩,
      ⟨(some 15), none, (.p (.nilck (.t 14))), false, []⟩,
      ⟨(some 16), none, (.p (.faddr 1 (.t 15))), false, []⟩,
      ⟨(some 17), none, (.r (.load 1 false (.t 16))), false, []⟩,
      ⟨(some 18), none, (.p (.bin .sub (.t 17) (.c (.int .i64 1)))), false, []⟩,
      ⟨(some 19), none, (.p (.iaddr 1 (.t 13) (.t 18))), false, []⟩,
      ⟨(some 20), none, (.r (.load 1 false (.t 19))), false, []⟩,
      ⟨(some 2), none, (.p (.mv (.t 20))), false, []⟩] (some ⟨[2], [], true⟩))
    .ret)))
theorem Tryd.run35 {xs : List AV} {r : AV} (hl : xs.length ≤ 21) (h : aw Tryd.prog Tryd.c35 (Pv.Ends [2] r) (entry xs)) : Run Tryd.prog 35 xs r :=
  run_of (fun _ _ => drawOk Tryd.mixed) Tryd.func35 rfl rfl rfl (by kernel_rfl) (by kernel_rfl) hl h
def Tryd.g35 : AC :=
 (.seq
  (.region 0 [⟨(some 2), none, (.p (.mv (.c (.str [])))), false, []⟩] (some ⟨[0], [], false⟩))
  (.seq
   (.region 0 [⟨(some 3), none, (.p (.mv (.t 0))), false, []⟩,
     ⟨(some 4), none, (.p (.nilck (.t 3))), false, []⟩,
     ⟨(some 5), none, (.p (.faddr 1 (.t 4))), false, []⟩,
     ⟨(some 6), none, (.r (.load 1 false (.t 5))), false, []⟩,
     ⟨(some 7), none, (.p (.bin .add (.t 6) (.c (.int .i64 1)))), false, []⟩,
     ⟨(some 8), none, (.p (.nilck (.t 3))), false, []⟩,
     ⟨(some 9), none, (.p (.faddr 1 (.t 8))), false, []⟩,
     ⟨none, none, (.e (.store 1 (.t 9) (.t 7)) none), false, []⟩] (some ⟨[0], [], false⟩))
   (.seq
    (.region 12 [⟨(some 10), none, (.p (.mv (.t 0))), false, []⟩,
      ⟨(some 11), none, (.p (.nilck (.t 10))), false, []⟩,
      ⟨(some 12), none, (.p (.faddr 0 (.t 11))), false, []⟩,
      ⟨(some 13), none, (.r (.load 1 false (.t 12))), false, []⟩,
      ⟨(some 14), none, (.p (.mv (.t 0))), false, []⟩,
      ⟨(some 15), none, (.p (.nilck (.t 14))), false, []⟩,
      ⟨(some 16), none, (.p (.faddr 1 (.t 15))), false, []⟩,
      ⟨(some 17), none, (.r (.load 1 false (.t 16))), false, []⟩,
      ⟨(some 18), none, (.p (.bin .sub (.t 17) (.c (.int .i64 1)))), false, []⟩,
      ⟨(some 19), none, (.p (.iaddr 1 (.t 13) (.t 18))), false, []⟩,
      ⟨(some 20), none, (.r (.load 1 false (.t 19))), false, []⟩,
      ⟨(some 2), none, (.p (.mv (.t 20))), false, []⟩] (some ⟨[2], [], false⟩))
    .ret)))
theorem Tryd.gen35 {xs : List AV} {r : AV} {H H' : Hp} (hl : xs.length ≤ 21) (h : aw Tryd.prog Tryd.g35 (Pv.EndsG [2] r H') ⟨xs.zipIdx.map fun p => (p.2, p.1), H⟩) : Gen Tryd.prog 35 xs H r H' :=
  gen_of (fun _ _ => drawOk Tryd.mixed) Tryd.func35 rfl rfl rfl (by kernel_rfl) (by kernel_rfl) hl h
/-! 36 (*paling/stmt.reader).vni : params [55], results [3], free 0, zeros [(.pointer none)] -/
def Tryd.c36 : AC :=
 (.seq
  (.region 0 [⟨(some 2), none, (.p (.mv (.c (.int .i64 0)))), false, []⟩] (some ⟨[0], [], false⟩))
  (.seq
   (.region 0 [⟨(some 3), none, (.p (.mv (.t 0))), false, []⟩,
     ⟨(some 4), none, (.call 30 [(.t 3), (.c (.int .i64 1)), (.c (.int .i64 16777215))] false), false, []⟩,
     ⟨(some 2), none, (.p (.mv (.t 4))), false, []⟩] (some ⟨[2], [], false⟩))
   .ret))
theorem Tryd.run36 {xs : List AV} {r : AV} (hl : xs.length ≤ 5) (h : aw Tryd.prog Tryd.c36 (Pv.Ends [2] r) (entry xs)) : Run Tryd.prog 36 xs r :=
  run_of (fun _ _ => drawOk Tryd.mixed) Tryd.func36 rfl rfl rfl (by kernel_rfl) (by kernel_rfl) hl h
def Tryd.g36 : AC :=
 (.seq
  (.region 0 [⟨(some 2), none, (.p (.mv (.c (.int .i64 0)))), false, []⟩] (some ⟨[0], [], false⟩))
  (.seq
   (.region 0 [⟨(some 3), none, (.p (.mv (.t 0))), false, []⟩,
     ⟨(some 4), none, (.call 30 [(.t 3), (.c (.int .i64 1)), (.c (.int .i64 16777215))] false), false, []⟩,
     ⟨(some 2), none, (.p (.mv (.t 4))), false, []⟩] (some ⟨[2], [], false⟩))
   .ret))
theorem Tryd.gen36 {xs : List AV} {r : AV} {H H' : Hp} (hl : xs.length ≤ 5) (h : aw Tryd.prog Tryd.g36 (Pv.EndsG [2] r H') ⟨xs.zipIdx.map fun p => (p.2, p.1), H⟩) : Gen Tryd.prog 36 xs H r H' :=
  gen_of (fun _ _ => drawOk Tryd.mixed) Tryd.func36 rfl rfl rfl (by kernel_rfl) (by kernel_rfl) hl h
/-! 37 paling/num.ReadAddrs : params [9], results [33, 4], free 0, zeros [(.string ⟨#[]⟩)] -/
def Tryd.c37 : AC :=
 (.seq
  (.region 0 [⟨(some 2), none, (.p (.mv (.c (.sl 0 [] true)))), false, []⟩,
    ⟨(some 3), none, (.p (.mv (.c (.bool false)))), false, []⟩] (some ⟨[0], [], false⟩))
  (.seq
   (.region 0 [⟨(some 4), none, (.p (.mv (.t 0))), false, []⟩,
     ⟨(some 5), none, (.call 60 [(.t 4), (.c (.fn 34 []))] false), false, []⟩,
     ⟨(some 6), none, (.p (.ext (.t 5) 0)), false, []⟩,
     ⟨(some 7), none, (.p (.ext (.t 5) 1)), false, []⟩,
     ⟨(some 2), none, (.p (.mv (.t 6))), false, []⟩,
     ⟨(some 3), none, (.p (.mv (.t 7))), false, []⟩] (some ⟨[2, 3], [], false⟩))
   .ret))
theorem Tryd.run37 {xs : List AV} {r : AV} (hl : xs.length ≤ 8) (h : aw Tryd.prog Tryd.c37 (Pv.Ends [2, 3] r) (entry xs)) : Run Tryd.prog 37 xs r :=
  run_of (fun _ _ => drawOk Tryd.mixed) Tryd.func37 rfl rfl rfl (by kernel_rfl) (by kernel_rfl) hl h
/-! 38 (*paling/stmt.reader).list : params [55, 3], results [32], free 0, zeros [(.pointer none), (.int .i64 (0))] -/
def Tryd.c38 : AC :=
 (.seq
  (.region 0 [⟨(some 4), none, (.p (.mv (.c (.sl 0 [] true)))), false, []⟩] (some ⟨[0, 1], [], false⟩))
  (.seq
   (.region 0 [⟨(some 8), none, (.p (.mv (.t 0))), false, []⟩,
     ⟨(some 9), none, (.call 35 [(.t 8)] false), false, []⟩,
     ⟨(some 5), none, (.p (.mv (.t 9))), false, []⟩] (some ⟨[0, 1, 5], [], false⟩))
   (.seq
    (.seq
     (.region 0 [⟨(some 10), none, (.p (.mv (.t 5))), false, []⟩,
       ⟨(some 11), none, (.p (.bin .eql (.t 10) (.c (.str [45])))), false, []⟩] (some ⟨[0, 1, 5, 11], [], false⟩))
     (.cond (.t 11)
      (.seq
       (.region 0 [⟨(some 4), none, (.p (.mv (.c (.sl 0 [] true)))), false, []⟩] (some ⟨[4], [], false⟩))
       .ret)
      .skip))
    (.seq
     (.region 0 [⟨(some 13), none, (.p (.mv (.t 5))), false, []⟩,
       ⟨(some 14), none, (.p (.mv (.t 1))), false, []⟩,
       ⟨(some 15), none, (.call 61 [(.t 13), (.c (.int .i64 1)), (.t 14)] false), false, []⟩,
       ⟨(some 12), none, (.p (.mv (.t 15))), false, []⟩,
       ⟨(some 16), none, (.p (.ext (.t 12) 0)), false, []⟩,
       ⟨(some 17), none, (.p (.ext (.t 12) 1)), false, []⟩,
       ⟨(some 6), none, (.p (.mv (.t 16))), false, []⟩,
       ⟨(some 7), none, (.p (.mv (.t 17))), false, []⟩] (some ⟨[0, 6, 7], [], false⟩))
     (.seq
      (.region 0 [⟨(some 18), none, (.p (.mv (.t 0))), false, []⟩,
        ⟨(some 19), none, (.p (.mv (.t 7))), false, []⟩,
        ⟨(some 20), none, (.p (.un .not (.t 19))), false, []⟩,
        ⟨(some 21), none, (.call 32 [(.t 18), (.t 20), (.c (.int .i64 21))] false), false, []⟩] (some ⟨[6], [], false⟩))
      (.seq
       (.region 0 [⟨(some 22), none, (.p (.mv (.t 6))), false, []⟩,
         ⟨(some 4), none, (.p (.mv (.t 22))), false, []⟩] (some ⟨[4], [], false⟩))
       .ret))))))
theorem Tryd.run38 {xs : List AV} {r : AV} (hl : xs.length ≤ 23) (h : aw Tryd.prog Tryd.c38 (Pv.Ends [4] r) (entry xs)) : Run Tryd.prog 38 xs r :=
  run_of (fun _ _ => drawOk Tryd.mixed) Tryd.func38 rfl rfl rfl (by kernel_rfl) (by kernel_rfl) hl h
def Tryd.g38 : AC :=
 (.seq
  (.region 0 [⟨(some 4), none, (.p (.mv (.c (.sl 0 [] true)))), false, []⟩] (some ⟨[0, 1], [], false⟩))
  (.seq
   (.region 0 [⟨(some 8), none, (.p (.mv (.t 0))), false, []⟩,
     ⟨(some 9), none, (.call 35 [(.t 8)] false), false, []⟩,
     ⟨(some 5), none, (.p (.mv (.t 9))), false, []⟩] (some ⟨[0, 1, 5], [], false⟩))
   (.seq
    (.seq
     (.region 0 [⟨(some 10), none, (.p (.mv (.t 5))), false, []⟩,
       ⟨(some 11), none, (.p (.bin .eql (.t 10) (.c (.str [45])))), false, []⟩] (some ⟨[0, 1, 5, 11], [], false⟩))
     (.cond (.t 11)
      (.seq
       (.region 0 [⟨(some 4), none, (.p (.mv (.c (.sl 0 [] true)))), false, []⟩] (some ⟨[4], [], false⟩))
       .ret)
      .skip))
    (.seq
     (.region 0 [⟨(some 13), none, (.p (.mv (.t 5))), false, []⟩,
       ⟨(some 14), none, (.p (.mv (.t 1))), false, []⟩,
       ⟨(some 15), none, (.call 61 [(.t 13), (.c (.int .i64 1)), (.t 14)] false), false, []⟩,
       ⟨(some 12), none, (.p (.mv (.t 15))), false, []⟩,
       ⟨(some 16), none, (.p (.ext (.t 12) 0)), false, []⟩,
       ⟨(some 17), none, (.p (.ext (.t 12) 1)), false, []⟩,
       ⟨(some 6), none, (.p (.mv (.t 16))), false, []⟩,
       ⟨(some 7), none, (.p (.mv (.t 17))), false, []⟩] (some ⟨[0, 6, 7], [], false⟩))
     (.seq
      (.region 0 [⟨(some 18), none, (.p (.mv (.t 0))), false, []⟩,
        ⟨(some 19), none, (.p (.mv (.t 7))), false, []⟩,
        ⟨(some 20), none, (.p (.un .not (.t 19))), false, []⟩,
        ⟨(some 21), none, (.call 32 [(.t 18), (.t 20), (.c (.int .i64 21))] false), false, []⟩] (some ⟨[6], [], false⟩))
      (.seq
       (.region 0 [⟨(some 22), none, (.p (.mv (.t 6))), false, []⟩,
         ⟨(some 4), none, (.p (.mv (.t 22))), false, []⟩] (some ⟨[4], [], false⟩))
       .ret))))))
theorem Tryd.gen38 {xs : List AV} {r : AV} {H H' : Hp} (hl : xs.length ≤ 23) (h : aw Tryd.prog Tryd.g38 (Pv.EndsG [4] r H') ⟨xs.zipIdx.map fun p => (p.2, p.1), H⟩) : Gen Tryd.prog 38 xs H r H' :=
  gen_of (fun _ _ => drawOk Tryd.mixed) Tryd.func38 rfl rfl rfl (by kernel_rfl) (by kernel_rfl) hl h
/-! 39 paling/addr.ReadPrefix : params [9], results [71, 4], free 0, zeros [(.string ⟨#[]⟩)] -/
def Tryd.c39 : AC :=
 (.seq
  (.region 0 [⟨(some 2), none, (.e (.alloc 71 (.agg [(.int .u32 0), (.int .i64 0)])) none), false, []⟩,
    ⟨(some 3), none, (.p (.mv (.c (.bool false)))), false, []⟩] (some ⟨[0, 2], [], false⟩))
  (.seq
   (.region 0 [⟨(some 12), none, (.p (.mv (.t 0))), false, []⟩,
     ⟨(some 13), none, (.call 49 [(.t 12), (.c (.str [47]))] false), false, []⟩,
     ⟨(some 11), none, (.p (.mv (.t 13))), false, []⟩,
     ⟨(some 14), none, (.p (.ext (.t 11) 0)), false, []⟩,
     ⟨(some 15), none, (.p (.ext (.t 11) 1)), false, []⟩,
     ⟨(some 16), none, (.p (.ext (.t 11) 2)), false, []⟩,
     ⟨(some 4), none, (.p (.mv (.t 14))), false, []⟩,
     ⟨(some 5), none, (.p (.mv (.t 15))), false, []⟩,
     ⟨(some 6), none, (.p (.mv (.t 16))), false, []⟩] (some ⟨[2, 4, 5, 6], [], false⟩))
   (.seq
    (.region 0 [⟨(some 18), none, (.p (.mv (.t 4))), false, []⟩,
      ⟨(some 19), none, (.call 34 [(.t 18)] false), false, []⟩,
      ⟨(some 17), none, (.p (.mv (.t 19))), false, []⟩,
      ⟨(some 20), none, (.p (.ext (.t 17) 0)), false, []⟩,
      ⟨(some 21), none, (.p (.ext (.t 17) 1)), false, []⟩,
      ⟨(some 7), none, (.p (.mv (.t 20))), false, []⟩,
      ⟨(some 8), none, (.p (.mv (.t 21))), false, []⟩] (some ⟨[2, 5, 6, 7, 8], [], false⟩))
    (.seq
     (.region 0 [⟨(some 23), none, (.p (.mv (.t 5))), false, []⟩,
       ⟨(some 24), none, (.call 59 [(.t 23), (.c (.int .i64 32))] false), false, []⟩,
       ⟨(some 22), none, (.p (.mv (.t 24))), false, []⟩,
       ⟨(some 25), none, (.p (.ext (.t 22) 0)), false, []⟩,
       ⟨(some 26), none, (.p (.ext (.t 22) 1)), false, []⟩,
       ⟨(some 9), none, (.p (.mv (.t 25))), false, []⟩,
       ⟨(some 10), none, (.p (.mv (.t 26))), false, []⟩] (some ⟨[2, 6, 7, 8, 9, 10], [], false⟩))
     (.seq
      (.seq
       (.region 0 [⟨(some 27), none, (.p (.mv (.t 6))), false, []⟩,
         ⟨(some 28), none, (.p (.un .not (.t 27))), false, []⟩,
         ⟨(some 29), none, (.p (.mv (.t 28))), false, []⟩,
         ⟨(some 30), (some (29, false)), (.p (.mv (.t 8))), false, []⟩,
         ⟨(some 31), (some (29, false)), (.p (.un .not (.t 30))), false, []⟩,
         ⟨(some 32), none, (.p (.pick (.t 29) (.c (.bool true)) (.t 31))), false, []⟩,
         ⟨(some 33), none, (.p (.mv (.t 32))), false, []⟩,
         ⟨(some 34), (some (33, false)), (.p (.mv (.t 10))), false, []⟩,
         ⟨(some 35), (some (33, false)), (.p (.un .not (.t 34))), false, []⟩,
         ⟨(some 36), none, (.p (.pick (.t 33) (.c (.bool true)) (.t 35))), false, []⟩] (some ⟨[2, 7, 9, 36], [], false⟩))
       (.cond (.t 36)
        (.seq
         (.region 0 [⟨(some 37), none, (.p (.build [(.int .u32 0), (.int .i64 0)] [])), false, []⟩,
           ⟨none, none, (.e (.store 2 (.t 2) (.t 37)) none), false, []⟩,
           ⟨(some 3), none, (.p (.mv (.c (.bool false)))), false, []⟩] (some ⟨[2, 3], [], false⟩))
         .ret)
        .skip))
      (.seq
       (.region 0 [⟨(some 38), none, (.p (.mv (.t 7))), false, []⟩,
         ⟨(some 39), none, (.p (.mv (.t 9))), false, []⟩,
         ⟨(some 40), none, (.p (.build [(.int .u32 0), (.int .i64 0)] [(0, 1, (.t 38)), (1, 1, (.t 39))])), false, []⟩,
         ⟨none, none, (.e (.store 2 (.t 2) (.t 40)) none), false, []⟩,
         ⟨(some 3), none, (.p (.mv (.c (.bool true)))), false, []⟩] (some ⟨[2, 3], [], false⟩))
       .ret))))))
theorem Tryd.run39 {xs : List AV} {r : AV} (hl : xs.length ≤ 41) (h : aw Tryd.prog Tryd.c39 (Pv.EndsX (rvs [.c 2 2 true, .t 3]) r) (entry xs)) : Run Tryd.prog 39 xs r :=
  run_ofC (fun _ _ => drawOk Tryd.mixed) Tryd.func39 rfl rfl (by kernel_rfl) (by kernel_rfl) (by kernel_rfl) hl h
/-! 40 paling/stmt.subnet : params [71], results [4], free 0, zeros [(.agg #[(.int .u32 (0)), (.int .i64 (0))])] -/
def Tryd.c40 : AC :=
 (.seq
  (.region 0 [⟨(some 1), none, (.e (.box 71 (.t 0)) none), false, []⟩,
    ⟨(some 2), none, (.p (.mv (.c (.bool false)))), false, []⟩] (some ⟨[1], [], false⟩))
  (.seq
   (.region 23 [⟨(some 3), none, (.p (.faddr 1 (.t 1))), false, []⟩,
     ⟨(some 4), none, (.r (.load 1 false (.t 3))), false, []⟩,
     ⟨(some 5), none, (.p (.bin .geq (.t 4) (.c (.int .i64 1)))), false, []⟩,
     ⟨(some 6), none, (.p (.mv (.t 5))), false, []⟩,
     ⟨(some 7), (some (6, true)), (.p (.faddr 1 (.t 1))), false, []⟩,
     ⟨(some 8), (some (6, true)), (.r (.load 1 false (.t 7))), false, []⟩,
     ⟨(some 9), (some (6, true)), (.p (.bin .leq (.t 8) (.c (.int .i64 30)))), false, []⟩,
     ⟨(some 10), none, (.p (.pick (.t 6) (.t 9) (.c (.bool false)))), false, []⟩,
     ⟨(some 11), none, (.p (.mv (.t 10))), false, []⟩,
     ⟨(some 12), (some (11, true)), (.p (.faddr 0 (.t 1))), false, []⟩,
     ⟨(some 13), (some (11, true)), (.r (.load 1 false (.t 12))), false, []⟩,
     ⟨(some 14), (some (11, true)), (.r (.load 2 true (.t 1))), false, []⟩,
     ⟨(some 15), (some (11, true)), (.call 62 [(.t 14)] true), false, []⟩,
     ⟨(some 16), (some (11, true)), (.p (.bin .neq (.t 13) (.t 15))), false, []⟩,
     ⟨(some 17), none, (.p (.pick (.t 11) (.t 16) (.c (.bool false)))), false, []⟩,
     ⟨(some 18), none, (.p (.mv (.t 17))), false, []⟩,
     ⟨(some 19), (some (18, true)), (.p (.faddr 0 (.t 1))), false, []⟩,
     ⟨(some 20), (some (18, true)), (.r (.load 1 false (.t 19))), false, []⟩,
     ⟨(some 21), (some (18, true)), (.r (.load 2 true (.t 1))), false, []⟩,
     ⟨(some 22), (some (18, true)), (.call 63 [(.t 21)] true), false, []⟩,
     ⟨(some 23), (some (18, true)), (.p (.bin .neq (.t 20) (.t 22))), false, []⟩,
     ⟨(some 24), none, (.p (.pick (.t 18) (.t 23) (.c (.bool false)))), false, []⟩,
     ⟨(some 2), none, (.p (.mv (.t 24))), false, []⟩] (some ⟨[2], [], true⟩))
   .ret))
theorem Tryd.run40 {xs : List AV} {r : AV} (hl : xs.length ≤ 25) (h : aw Tryd.prog Tryd.c40 (Pv.Ends [2] r) (entry xs)) : Run Tryd.prog 40 xs r :=
  run_of (fun _ _ => drawOk Tryd.mixed) Tryd.func40 rfl rfl rfl (by kernel_rfl) (by kernel_rfl) hl h
/-! 41 slices.Equal[[]int,int] : params [32, 32], results [4], free 0, zeros [(.slice none 0 0), (.slice none 0 0)] -/
def Tryd.c41b0 : AC :=
 (.seq
  (.region 0 [⟨(some 14), none, (.p (.bin .lss (.t 13) (.t 12))), false, []⟩] (some ⟨[0, 1, 12, 13, 14], [], false⟩))
  (.seq
   (.cond (.t 14)
    .skip
    (.exit 0))
   (.seq
    (.block 1
     (.seq
      (.region 0 [⟨(some 15), none, (.p (.mv (.t 13))), false, []⟩,
        ⟨(some 5), none, (.p (.mv (.t 15))), false, []⟩] (some ⟨[0, 1, 5, 12, 13], [], false⟩))
      (.seq
       (.region 9 [⟨(some 16), none, (.p (.mv (.t 0))), false, []⟩,
         ⟨(some 17), none, (.p (.mv (.t 5))), false, []⟩,
         ⟨(some 18), none, (.p (.iaddr 1 (.t 16) (.t 17))), false, []⟩,
         ⟨(some 19), none, (.r (.load 1 false (.t 18))), false, []⟩,
         ⟨(some 20), none, (.p (.mv (.t 1))), false, []⟩,
         ⟨(some 21), none, (.p (.mv (.t 5))), false, []⟩,
         ⟨(some 22), none, (.p (.iaddr 1 (.t 20) (.t 21))), false, []⟩,
         ⟨(some 23), none, (.r (.load 1 false (.t 22))), false, []⟩,
         ⟨(some 24), none, (.p (.bin .neq (.t 19) (.t 23))), false, []⟩] (some ⟨[0, 1, 12, 13, 24], [], true⟩))
       (.cond (.t 24)
        (.seq
         (.region 0 [⟨(some 4), none, (.p (.mv (.c (.bool false)))), false, []⟩] (some ⟨[4], [], false⟩))
         .ret)
        .skip))))
    (.region 0 [⟨(some 25), none, (.p (.bin .add (.t 13) (.c (.int .i64 1)))), false, []⟩,
      ⟨(some 13), none, (.p (.mv (.t 25))), false, []⟩] (some ⟨[0, 1, 12, 13], [], false⟩)))))
def Tryd.c41 : AC :=
 (.seq
  (.region 0 [⟨(some 4), none, (.p (.mv (.c (.bool false)))), false, []⟩] (some ⟨[0, 1], [], false⟩))
  (.seq
   (.seq
    (.region 0 [⟨(some 6), none, (.p (.mv (.t 0))), false, []⟩,
      ⟨(some 7), none, (.p (.len (.t 6))), false, []⟩,
      ⟨(some 8), none, (.p (.mv (.t 1))), false, []⟩,
      ⟨(some 9), none, (.p (.len (.t 8))), false, []⟩,
      ⟨(some 10), none, (.p (.bin .neq (.t 7) (.t 9))), false, []⟩] (some ⟨[0, 1, 10], [], false⟩))
    (.cond (.t 10)
     (.seq
      (.region 0 [⟨(some 4), none, (.p (.mv (.c (.bool false)))), false, []⟩] (some ⟨[4], [], false⟩))
      .ret)
     .skip))
   (.seq
    (.seq
     (.region 0 [⟨(some 11), none, (.p (.mv (.t 0))), false, []⟩,
       ⟨(some 12), none, (.p (.len (.t 11))), false, []⟩,
       ⟨(some 13), none, (.p (.mv (.c (.int .i64 0)))), false, []⟩] (some ⟨[0, 1, 12, 13], [], false⟩))
     (.block 0
      (.loop (some ⟨[0, 1, 12, 13], [], true⟩) Tryd.c41b0)))
    (.seq
     (.region 0 [⟨(some 4), none, (.p (.mv (.c (.bool true)))), false, []⟩] (some ⟨[4], [], false⟩))
     .ret))))
theorem Tryd.run41 {xs : List AV} {r : AV} (hl : xs.length ≤ 26) (h : aw Tryd.prog Tryd.c41 (Pv.Ends [4] r) (entry xs)) : Run Tryd.prog 41 xs r :=
  run_of (fun _ _ => drawOk Tryd.mixed) Tryd.func41 rfl rfl rfl (by kernel_rfl) (by kernel_rfl) hl h
/-! 42 slices.Equal[[]uint32,uint32] : params [33, 33], results [4], free 0, zeros [(.slice none 0 0), (.slice none 0 0)] -/
def Tryd.c42b0 : AC :=
 (.seq
  (.region 0 [⟨(some 14), none, (.p (.bin .lss (.t 13) (.t 12))), false, []⟩] (some ⟨[0, 1, 12, 13, 14], [], false⟩))
  (.seq
   (.cond (.t 14)
    .skip
    (.exit 0))
   (.seq
    (.block 1
     (.seq
      (.region 0 [⟨(some 15), none, (.p (.mv (.t 13))), false, []⟩,
        ⟨(some 5), none, (.p (.mv (.t 15))), false, []⟩] (some ⟨[0, 1, 5, 12, 13], [], false⟩))
      (.seq
       (.region 9 [⟨(some 16), none, (.p (.mv (.t 0))), false, []⟩,
         ⟨(some 17), none, (.p (.mv (.t 5))), false, []⟩,
         ⟨(some 18), none, (.p (.iaddr 1 (.t 16) (.t 17))), false, []⟩,
         ⟨(some 19), none, (.r (.load 1 false (.t 18))), false, []⟩,
         ⟨(some 20), none, (.p (.mv (.t 1))), false, []⟩,
         ⟨(some 21), none, (.p (.mv (.t 5))), false, []⟩,
         ⟨(some 22), none, (.p (.iaddr 1 (.t 20) (.t 21))), false, []⟩,
         ⟨(some 23), none, (.r (.load 1 false (.t 22))), false, []⟩,
         ⟨(some 24), none, (.p (.bin .neq (.t 19) (.t 23))), false, []⟩] (some ⟨[0, 1, 12, 13, 24], [], true⟩))
       (.cond (.t 24)
        (.seq
         (.region 0 [⟨(some 4), none, (.p (.mv (.c (.bool false)))), false, []⟩] (some ⟨[4], [], false⟩))
         .ret)
        .skip))))
    (.region 0 [⟨(some 25), none, (.p (.bin .add (.t 13) (.c (.int .i64 1)))), false, []⟩,
      ⟨(some 13), none, (.p (.mv (.t 25))), false, []⟩] (some ⟨[0, 1, 12, 13], [], false⟩)))))
def Tryd.c42 : AC :=
 (.seq
  (.region 0 [⟨(some 4), none, (.p (.mv (.c (.bool false)))), false, []⟩] (some ⟨[0, 1], [], false⟩))
  (.seq
   (.seq
    (.region 0 [⟨(some 6), none, (.p (.mv (.t 0))), false, []⟩,
      ⟨(some 7), none, (.p (.len (.t 6))), false, []⟩,
      ⟨(some 8), none, (.p (.mv (.t 1))), false, []⟩,
      ⟨(some 9), none, (.p (.len (.t 8))), false, []⟩,
      ⟨(some 10), none, (.p (.bin .neq (.t 7) (.t 9))), false, []⟩] (some ⟨[0, 1, 10], [], false⟩))
    (.cond (.t 10)
     (.seq
      (.region 0 [⟨(some 4), none, (.p (.mv (.c (.bool false)))), false, []⟩] (some ⟨[4], [], false⟩))
      .ret)
     .skip))
   (.seq
    (.seq
     (.region 0 [⟨(some 11), none, (.p (.mv (.t 0))), false, []⟩,
       ⟨(some 12), none, (.p (.len (.t 11))), false, []⟩,
       ⟨(some 13), none, (.p (.mv (.c (.int .i64 0)))), false, []⟩] (some ⟨[0, 1, 12, 13], [], false⟩))
     (.block 0
      (.loop (some ⟨[0, 1, 12, 13], [], true⟩) Tryd.c42b0)))
    (.seq
     (.region 0 [⟨(some 4), none, (.p (.mv (.c (.bool true)))), false, []⟩] (some ⟨[4], [], false⟩))
     .ret))))
theorem Tryd.run42 {xs : List AV} {r : AV} (hl : xs.length ≤ 26) (h : aw Tryd.prog Tryd.c42 (Pv.Ends [4] r) (entry xs)) : Run Tryd.prog 42 xs r :=
  run_of (fun _ _ => drawOk Tryd.mixed) Tryd.func42 rfl rfl rfl (by kernel_rfl) (by kernel_rfl) hl h
/-! 46 paling/num.Name : params [9], results [4], free 0, zeros [(.string ⟨#[]⟩)] -/
def Tryd.c46b0 : AC :=
 (.seq
  (.region 0 [⟨(some 9), none, (.p (.bin .lss (.t 8) (.t 7))), false, []⟩] (some ⟨[0, 7, 8, 9], [], false⟩))
  (.seq
   (.cond (.t 9)
    .skip
    (.exit 0))
   (.seq
    (.block 1
     (.seq
      (.region 0 [⟨(some 10), none, (.p (.mv (.t 8))), false, []⟩,
        ⟨(some 3), none, (.p (.mv (.t 10))), false, []⟩] (some ⟨[0, 3, 7, 8], [], false⟩))
      (.seq
       (.region 22 [⟨(some 11), none, (.p (.mv (.t 0))), false, []⟩,
         ⟨(some 12), none, (.p (.mv (.t 3))), false, []⟩,
         ⟨(some 13), none, (.p (.idxs (.t 11) (.t 12))), false, []⟩,
         ⟨(some 14), none, (.p (.bin .geq (.t 13) (.c (.int .u8 97)))), false, []⟩,
         ⟨(some 15), none, (.p (.mv (.t 14))), false, []⟩,
         ⟨(some 16), (some (15, true)), (.p (.mv (.t 0))), false, []⟩,
         ⟨(some 17), (some (15, true)), (.p (.mv (.t 3))), false, []⟩,
         ⟨(some 18), (some (15, true)), (.p (.idxs (.t 16) (.t 17))), false, []⟩,
         ⟨(some 19), (some (15, true)), (.p (.bin .leq (.t 18) (.c (.int .u8 122)))), false, []⟩,
         ⟨(some 20), none, (.p (.pick (.t 15) (.t 19) (.c (.bool false)))), false, []⟩,
         ⟨(some 21), none, (.p (.mv (.t 0))), false, []⟩,
         ⟨(some 22), none, (.p (.mv (.t 3))), false, []⟩,
         ⟨(some 23), none, (.p (.idxs (.t 21) (.t 22))), false, []⟩,
         ⟨(some 24), none, (.p (.bin .geq (.t 23) (.c (.int .u8 48)))), false, []⟩,
         ⟨(some 25), none, (.p (.mv (.t 24))), false, []⟩,
         ⟨(some 26), (some (25, true)), (.p (.mv (.t 0))), false, []⟩,
         ⟨(some 27), (some (25, true)), (.p (.mv (.t 3))), false, []⟩,
         ⟨(some 28), (some (25, true)), (.p (.idxs (.t 26) (.t 27))), false, []⟩,
         ⟨(some 29), (some (25, true)), (.p (.bin .leq (.t 28) (.c (.int .u8 57)))), false, []⟩,
         ⟨(some 30), none, (.p (.pick (.t 25) (.t 29) (.c (.bool false)))), false, []⟩,
         ⟨(some 4), none, (.p (.mv (.t 20))), false, []⟩,
         ⟨(some 5), none, (.p (.mv (.t 30))), false, []⟩] (some ⟨[0, 3, 4, 5, 7, 8], [], true⟩))
       (.seq
        (.region 0 [⟨(some 31), none, (.p (.mv (.t 4))), false, []⟩,
          ⟨(some 32), none, (.p (.un .not (.t 31))), false, []⟩,
          ⟨(some 33), none, (.p (.mv (.t 32))), false, []⟩,
          ⟨(some 34), (some (33, true)), (.p (.mv (.t 5))), false, []⟩,
          ⟨(some 35), (some (33, true)), (.p (.un .not (.t 34))), false, []⟩,
          ⟨(some 36), (some (33, true)), (.p (.mv (.t 35))), false, []⟩,
          ⟨(some 37), (some (36, false)), (.p (.mv (.t 3))), false, []⟩,
          ⟨(some 38), (some (36, false)), (.p (.bin .eql (.t 37) (.c (.int .i64 0)))), false, []⟩,
          ⟨(some 39), (some (33, true)), (.p (.pick (.t 36) (.c (.bool true)) (.t 38))), false, []⟩,
          ⟨(some 40), none, (.p (.pick (.t 33) (.t 39) (.c (.bool false)))), false, []⟩] (some ⟨[0, 7, 8, 40], [], false⟩))
        (.cond (.t 40)
         (.seq
          (.region 0 [⟨(some 2), none, (.p (.mv (.c (.bool false)))), false, []⟩] (some ⟨[2], [], false⟩))
          .ret)
         .skip)))))
    (.region 0 [⟨(some 41), none, (.p (.bin .add (.t 8) (.c (.int .i64 1)))), false, []⟩,
      ⟨(some 8), none, (.p (.mv (.t 41))), false, []⟩] (some ⟨[0, 7, 8], [], false⟩)))))
def Tryd.c46 : AC :=
 (.seq
  (.region 0 [⟨(some 2), none, (.p (.mv (.c (.bool false)))), false, []⟩] (some ⟨[0], [], false⟩))
  (.seq
   (.seq
    (.region 0 [⟨(some 6), none, (.p (.mv (.t 0))), false, []⟩,
      ⟨(some 7), none, (.p (.lenS (.t 6))), false, []⟩,
      ⟨(some 8), none, (.p (.mv (.c (.int .i64 0)))), false, []⟩] (some ⟨[0, 7, 8], [], false⟩))
    (.block 0
     (.loop (some ⟨[0, 7, 8], [], true⟩) Tryd.c46b0)))
   (.seq
    (.region 0 [⟨(some 42), none, (.p (.mv (.t 0))), false, []⟩,
      ⟨(some 43), none, (.p (.lenS (.t 42))), false, []⟩,
      ⟨(some 44), none, (.p (.bin .gtr (.t 43) (.c (.int .i64 0)))), false, []⟩,
      ⟨(some 45), none, (.p (.mv (.t 44))), false, []⟩,
      ⟨(some 46), (some (45, true)), (.p (.mv (.t 0))), false, []⟩,
      ⟨(some 47), (some (45, true)), (.p (.lenS (.t 46))), false, []⟩,
      ⟨(some 48), (some (45, true)), (.p (.bin .leq (.t 47) (.c (.int .i64 12)))), false, []⟩,
      ⟨(some 49), none, (.p (.pick (.t 45) (.t 48) (.c (.bool false)))), false, []⟩,
      ⟨(some 2), none, (.p (.mv (.t 49))), false, []⟩] (some ⟨[2], [], false⟩))
    .ret)))
theorem Tryd.run46 {xs : List AV} {r : AV} (hl : xs.length ≤ 50) (h : aw Tryd.prog Tryd.c46 (Pv.Ends [2] r) (entry xs)) : Run Tryd.prog 46 xs r :=
  run_of (fun _ _ => drawOk Tryd.mixed) Tryd.func46 rfl rfl rfl (by kernel_rfl) (by kernel_rfl) hl h
/-! 48 paling/palingref11.Same : params [35, 35], results [4], free 0, zeros [(.agg #[(.int .i64 (0)), (.int .i64 (0)), (.string ⟨#[]⟩), (.string ⟨#[]⟩), (.string ⟨#[]⟩), (.string ⟨#[]⟩), (.string ⟨#[]⟩), (.int .u64 (0)), (.int .u32 (0)), (.int .i64 (0)), (.int .i64 (0)), (.int .i64 (0)), (.int .i64 (0)), (.slice none 0 0), (.slice none 0 0), (.slice none 0 0), (.slice none 0 0)]), (.agg #[(.int .i64 (0)), (.int .i64 (0)), (.string ⟨#[]⟩), (.string ⟨#[]⟩), (.string ⟨#[]⟩), (.string ⟨#[]⟩), (.string ⟨#[]⟩), (.int .u64 (0)), (.int .u32 (0)), (.int .i64 (0)), (.int .i64 (0)), (.int .i64 (0)), (.int .i64 (0)), (.slice none 0 0), (.slice none 0 0), (.slice none 0 0), (.slice none 0 0)])] -/
def Tryd.c48 : AC :=
 (.seq
  (.region 0 [⟨(some 2), none, (.e (.box 35 (.t 0)) none), false, []⟩,
    ⟨(some 3), none, (.e (.box 35 (.t 1)) none), false, []⟩,
    ⟨(some 4), none, (.p (.mv (.c (.bool false)))), false, []⟩] (some ⟨[2, 3], [], false⟩))
  (.seq
   (.region 0 [⟨(some 5), none, (.p (.faddr 0 (.t 2))), false, []⟩,
     ⟨(some 6), none, (.r (.load 1 false (.t 5))), false, []⟩,
     ⟨(some 7), none, (.p (.faddr 0 (.t 3))), false, []⟩,
     ⟨(some 8), none, (.r (.load 1 false (.t 7))), false, []⟩,
     ⟨(some 9), none, (.p (.bin .eql (.t 6) (.t 8))), false, []⟩,
     ⟨(some 10), none, (.p (.mv (.t 9))), false, []⟩,
     ⟨(some 11), (some (10, true)), (.p (.faddr 1 (.t 2))), false, []⟩,
     ⟨(some 12), (some (10, true)), (.r (.load 1 false (.t 11))), false, []⟩,
     ⟨(some 13), (some (10, true)), (.p (.faddr 1 (.t 3))), false, []⟩,
     ⟨(some 14), (some (10, true)), (.r (.load 1 false (.t 13))), false, []⟩,
     ⟨(some 15), (some (10, true)), (.p (.bin .eql (.t 12) (.t 14))), false, []⟩,
     ⟨(some 16), none, (.p (.pick (.t 10) (.t 15) (.c (.bool false)))), false, []⟩,
     ⟨(some 17), none, (.p (.mv (.t 16))), false, []⟩,
     ⟨(some 18), (some (17, true)), (.p (.faddr 2 (.t 2))), false, []⟩,
     ⟨(some 19), (some (17, true)), (.r (.load 1 false (.t 18))), false, []⟩,
     ⟨(some 20), (some (17, true)), (.p (.faddr 2 (.t 3))), false, []⟩,
     ⟨(some 21), (some (17, true)), (.r (.load 1 false (.t 20))), false, []⟩,
     ⟨(some 22), (some (17, true)), (.p (.bin .eql (.t 19) (.t 21))), false, []⟩,
     ⟨(some 23), none, (.p (.pick (.t 17) (.t 22) (.c (.bool false)))), false, []⟩,
     ⟨(some 24), none, (.p (.mv (.t 23))), false, []⟩,
     ⟨(some 25), (some (24, true)), (.p (.faddr 3 (.t 2))), false, []⟩,
     ⟨(some 26), (some (24, true)), (.r (.load 1 false (.t 25))), false, []⟩,
     ⟨(some 27), (some (24, true)), (.p (.faddr 3 (.t 3))), false, []⟩,
     ⟨(some 28), (some (24, true)), (.r (.load 1 false (.t 27))), false, []⟩,
     ⟨(some 29), (some (24, true)), (.p (.bin .eql (.t 26) (.t 28))), false, []⟩,
     ⟨(some 30), none, (.p (.pick (.t 24) (.t 29) (.c (.bool false)))), false, []⟩,
     ⟨(some 31), none, (.p (.mv (.t 30))), false, []⟩,
     ⟨(some 32), (some (31, true)), (.p (.faddr 4 (.t 2))), false, []⟩,
     ⟨(some 33), (some (31, true)), (.r (.load 1 false (.t 32))), false, []⟩,
     ⟨(some 34), (some (31, true)), (.p (.faddr 4 (.t 3))), false, []⟩,
     ⟨(some 35), (some (31, true)), (.r (.load 1 false (.t 34))), false, []⟩,
     ⟨(some 36), (some (31, true)), (.p (.bin .eql (.t 33) (.t 35))), false, []⟩,
     ⟨(some 37), none, (.p (.pick (.t 31) (.t 36) (.c (.bool false)))), false, []⟩,
     ⟨(some 38), none, (.p (.mv (.t 37))), false, []⟩,
     ⟨(some 39), (some (38, true)), (.p (.faddr 5 (.t 2))), false, []⟩,
     ⟨(some 40), (some (38, true)), (.r (.load 1 false (.t 39))), false, []⟩,
     ⟨(some 41), (some (38, true)), (.p (.faddr 5 (.t 3))), false, []⟩,
     ⟨(some 42), (some (38, true)), (.r (.load 1 false (.t 41))), false, []⟩,
     ⟨(some 43), (some (38, true)), (.p (.bin .eql (.t 40) (.t 42))), false, []⟩,
     ⟨(some 44), none, (.p (.pick (.t 38) (.t 43) (.c (.bool false)))), false, []⟩,
     ⟨(some 45), none, (.p (.mv (.t 44))), false, []⟩,
     ⟨(some 46), (some (45, true)), (.p (.faddr 6 (.t 2))), false, []⟩,
     ⟨(some 47), (some (45, true)), (.r (.load 1 false (.t 46))), false, []⟩,
     ⟨(some 48), (some (45, true)), (.p (.faddr 6 (.t 3))), false, []⟩,
     ⟨(some 49), (some (45, true)), (.r (.load 1 false (.t 48))), false, []⟩,
     ⟨(some 50), (some (45, true)), (.p (.bin .eql (.t 47) (.t 49))), false, []⟩,
     ⟨(some 51), none, (.p (.pick (.t 45) (.t 50) (.c (.bool false)))), false, []⟩,
     ⟨(some 52), none, (.p (.mv (.t 51))), false, []⟩,
     ⟨(some 53), (some (52, true)), (.p (.faddr 7 (.t 2))), false, []⟩,
     ⟨(some 54), (some (52, true)), (.r (.load 1 false (.t 53))), false, []⟩,
     ⟨(some 55), (some (52, true)), (.p (.faddr 7 (.t 3))), false, []⟩,
     ⟨(some 56), (some (52, true)), (.r (.load 1 false (.t 55))), false, []⟩,
     ⟨(some 57), (some (52, true)), (.p (.bin .eql (.t 54) (.t 56))), false, []⟩,
     ⟨(some 58), none, (.p (.pick (.t 52) (.t 57) (.c (.bool false)))), false, []⟩,
     ⟨(some 59), none, (.p (.mv (.t 58))), false, []⟩,
     ⟨(some 60), (some (59, true)), (.p (.faddr 8 (.t 2))), false, []⟩,
     ⟨(some 61), (some (59, true)), (.r (.load 1 false (.t 60))), false, []⟩,
     ⟨(some 62), (some (59, true)), (.p (.faddr 8 (.t 3))), false, []⟩,
     ⟨(some 63), (some (59, true)), (.r (.load 1 false (.t 62))), false, []⟩,
     ⟨(some 64), (some (59, true)), (.p (.bin .eql (.t 61) (.t 63))), false, []⟩,
     ⟨(some 65), none, (.p (.pick (.t 59) (.t 64) (.c (.bool false)))), false, []⟩,
     ⟨(some 66), none, (.p (.mv (.t 65))), false, []⟩,
     ⟨(some 67), (some (66, true)), (.p (.faddr 9 (.t 2))), false, []⟩,
     ⟨(some 68), (some (66, true)), (.r (.load 1 false (.t 67))), false, []⟩,
     ⟨(some 69), (some (66, true)), (.p (.faddr 9 (.t 3))), false, []⟩,
     ⟨(some 70), (some (66, true)), (.r (.load 1 false (.t 69))), false, []⟩,
     ⟨(some 71), (some (66, true)), (.p (.bin .eql (.t 68) (.t 70))), false, []⟩,
     ⟨(some 72), none, (.p (.pick (.t 66) (.t 71) (.c (.bool false)))), false, []⟩,
     ⟨(some 73), none, (.p (.mv (.t 72))), false, []⟩,
     ⟨(some 74), (some (73, true)), (.p (.faddr 10 (.t 2))), false, []⟩,
     ⟨(some 75), (some (73, true)), (.r (.load 1 false (.t 74))), false, []⟩,
     ⟨(some 76), (some (73, true)), (.p (.faddr 10 (.t 3))), false, []⟩,
     ⟨(some 77), (some (73, true)), (.r (.load 1 false (.t 76))), false, []⟩,
     ⟨(some 78), (some (73, true)), (.p (.bin .eql (.t 75) (.t 77))), false, []⟩,
     ⟨(some 79), none, (.p (.pick (.t 73) (.t 78) (.c (.bool false)))), false, []⟩,
     ⟨(some 80), none, (.p (.mv (.t 79))), false, []⟩,
     ⟨(some 81), (some (80, true)), (.p (.faddr 11 (.t 2))), false, []⟩,
     ⟨(some 82), (some (80, true)), (.r (.load 1 false (.t 81))), false, []⟩,
     ⟨(some 83), (some (80, true)), (.p (.faddr 11 (.t 3))), false, []⟩,
     ⟨(some 84), (some (80, true)), (.r (.load 1 false (.t 83))), false, []⟩,
     ⟨(some 85), (some (80, true)), (.p (.bin .eql (.t 82) (.t 84))), false, []⟩,
     ⟨(some 86), none, (.p (.pick (.t 80) (.t 85) (.c (.bool false)))), false, []⟩,
     ⟨(some 87), none, (.p (.mv (.t 86))), false, []⟩,
     ⟨(some 88), (some (87, true)), (.p (.faddr 12 (.t 2))), false, []⟩,
     ⟨(some 89), (some (87, true)), (.r (.load 1 false (.t 88))), false, []⟩,
     ⟨(some 90), (some (87, true)), (.p (.faddr 12 (.t 3))), false, []⟩,
     ⟨(some 91), (some (87, true)), (.r (.load 1 false (.t 90))), false, []⟩,
     ⟨(some 92), (some (87, true)), (.p (.bin .eql (.t 89) (.t 91))), false, []⟩,
     ⟨(some 93), none, (.p (.pick (.t 87) (.t 92) (.c (.bool false)))), false, []⟩,
     ⟨(some 94), none, (.p (.mv (.t 93))), false, []⟩,
     ⟨(some 95), (some (94, true)), (.p (.faddr 13 (.t 2))), false, []⟩,
     ⟨(some 96), (some (94, true)), (.r (.load 1 false (.t 95))), false, []⟩,
     ⟨(some 97), (some (94, true)), (.p (.faddr 13 (.t 3))), false, []⟩,
     ⟨(some 98), (some (94, true)), (.r (.load 1 false (.t 97))), false, []⟩,
     ⟨(some 99), (some (94, true)), (.call 69 [(.t 96), (.t 98)] false), false, []⟩,
     ⟨(some 100), none, (.p (.pick (.t 94) (.t 99) (.c (.bool false)))), false, []⟩,
     ⟨(some 101), none, (.p (.mv (.t 100))), false, []⟩,
     ⟨(some 102), (some (101, true)), (.p (.faddr 14 (.t 2))), false, []⟩,
     ⟨(some 103), (some (101, true)), (.r (.load 1 false (.t 102))), false, []⟩,
     ⟨(some 104), (some (101, true)), (.p (.faddr 14 (.t 3))), false, []⟩,
     ⟨(some 105), (some (101, true)), (.r (.load 1 false (.t 104))), false, []⟩,
     ⟨(some 106), (some (101, true)), (.call 69 [(.t 103), (.t 105)] false), false, []⟩,
     ⟨(some 107), none, (.p (.pick (.t 101) (.t 106) (.c (.bool false)))), false, []⟩,
     ⟨(some 108), none, (.p (.mv (.t 107))), false, []⟩,
     ⟨(some 109), (some (108, true)), (.p (.faddr 15 (.t 2))), false, []⟩,
     ⟨(some 110), (some (108, true)), (.r (.load 1 false (.t 109))), false, []⟩,
     ⟨(some 111), (some (108, true)), (.p (.faddr 15 (.t 3))), false, []⟩,
     ⟨(some 112), (some (108, true)), (.r (.load 1 false (.t 111))), false, []⟩,
     ⟨(some 113), (some (108, true)), (.call 69 [(.t 110), (.t 112)] false), false, []⟩,
     ⟨(some 114), none, (.p (.pick (.t 108) (.t 113) (.c (.bool false)))), false, []⟩,
     ⟨(some 115), none, (.p (.mv (.t 114))), false, []⟩,
     ⟨(some 116), (some (115, true)), (.p (.faddr 16 (.t 2))), false, []⟩,
     ⟨(some 117), (some (115, true)), (.r (.load 1 false (.t 116))), false, []⟩,
     ⟨(some 118), (some (115, true)), (.p (.faddr 16 (.t 3))), false, []⟩,
     ⟨(some 119), (some (115, true)), (.r (.load 1 false (.t 118))), false, []⟩,
     ⟨(some 120), (some (115, true)), (.call 70 [(.t 117), (.t 119)] false), false, []⟩,
     ⟨(some 121), none, (.p (.pick (.t 115) (.t 120) (.c (.bool false)))), false, []⟩,
     ⟨(some 4), none, (.p (.mv (.t 121))), false, []⟩] (some ⟨[4], [], false⟩))
   .ret))
theorem Tryd.run48 {xs : List AV} {r : AV} (hl : xs.length ≤ 122) (h : aw Tryd.prog Tryd.c48 (Pv.Ends [4] r) (entry xs)) : Run Tryd.prog 48 xs r :=
  run_of (fun _ _ => drawOk Tryd.mixed) Tryd.func48 rfl rfl rfl (by kernel_rfl) (by kernel_rfl) hl h
/-! 49 strings.Cut : params [9, 9], results [9, 9, 4], free 0, zeros [(.string ⟨#[]⟩), (.string ⟨#[]⟩)] -/
def Tryd.c49 : AC :=
 (.seq
  (.region 0 [⟨(some 4), none, (.p (.mv (.c (.str [])))), false, []⟩,
    ⟨(some 5), none, (.p (.mv (.c (.str [])))), false, []⟩,
    ⟨(some 6), none, (.p (.mv (.c (.bool false)))), false, []⟩] (some ⟨[0, 1], [], false⟩))
  (.seq
   (.region 0 [⟨(some 7), none, (.p (.mv (.t 0))), false, []⟩,
     ⟨(some 8), none, (.p (.mv (.t 1))), false, []⟩,
     ⟨(some 9), none, (.call 71 [(.t 7), (.t 8)] false), false, []⟩,
     ⟨(some 10), none, (.p (.ext (.t 9) 0)), false, []⟩,
     ⟨(some 11), none, (.p (.ext (.t 9) 1)), false, []⟩,
     ⟨(some 12), none, (.p (.ext (.t 9) 2)), false, []⟩,
     ⟨(some 4), none, (.p (.mv (.t 10))), false, []⟩,
     ⟨(some 5), none, (.p (.mv (.t 11))), false, []⟩,
     ⟨(some 6), none, (.p (.mv (.t 12))), false, []⟩] (some ⟨[4, 5, 6], [], false⟩))
   .ret))
theorem Tryd.run49 {xs : List AV} {r : AV} (hl : xs.length ≤ 13) (h : aw Tryd.prog Tryd.c49 (Pv.Ends [4, 5, 6] r) (entry xs)) : Run Tryd.prog 49 xs r :=
  run_of (fun _ _ => drawOk Tryd.mixed) Tryd.func49 rfl rfl rfl (by kernel_rfl) (by kernel_rfl) hl h
/-! 50 paling/line.stretches : params [9], results [38], free 0, zeros [(.string ⟨#[]⟩)] -/
def Tryd.c50b0 : AC :=
 (.seq
  (.seq
   (.region 0 [⟨(some 8), none, (.p (.mv (.t 6))), false, []⟩,
     ⟨(some 9), none, (.r (.load 1 false (.t 1))), false, []⟩,
     ⟨(some 10), none, (.p (.lenS (.t 9))), false, []⟩,
     ⟨(some 11), none, (.p (.bin .lss (.t 8) (.t 10))), false, []⟩] (some ⟨[1, 3, 5, 6, 11], [], false⟩))
   (.cond (.t 11)
    .skip
    (.exit 0)))
  (.seq
   (.block 1
    (.seq
     (.region 0 [⟨(some 14), none, (.r (.load 1 false (.t 1))), false, []⟩,
       ⟨(some 15), none, (.p (.mv (.t 6))), false, []⟩,
       ⟨(some 16), none, (.p (.idxs (.t 14) (.t 15))), false, []⟩] (some ⟨[1, 3, 5, 6, 16], [], false⟩))
     (.block 2
      (.seq
       (.region 0 [⟨(some 18), none, (.p (.bin .eql (.t 16) (.c (.int .u8 35)))), false, []⟩,
         ⟨(some 17), none, (.p (.mv (.t 18))), false, []⟩] (some ⟨[1, 3, 5, 6, 16, 17], [], false⟩))
       (.cond (.t 17)
        (.exit 0)
        (.seq
         (.seq
          (.region 0 [⟨(some 20), none, (.p (.bin .eql (.t 16) (.c (.int .u8 32)))), false, []⟩,
            ⟨(some 19), none, (.p (.mv (.t 20))), false, []⟩] (some ⟨[1, 3, 5, 6, 16, 19], [], false⟩))
          (.cond (.t 19)
           .skip
           (.region 0 [⟨(some 21), none, (.p (.bin .eql (.t 16) (.c (.int .u8 9)))), false, []⟩,
             ⟨(some 19), none, (.p (.mv (.t 21))), false, []⟩] (some ⟨[1, 3, 5, 6, 19], [], false⟩))))
         (.cond (.t 19)
          (.region 0 [⟨(some 22), none, (.p (.mv (.t 5))), false, []⟩,
            ⟨(some 23), none, (.p (.mv (.t 6))), false, []⟩,
            ⟨(some 24), none, (.callv (.t 22) [(.t 23)]), false, []⟩] (some ⟨[1, 3, 5, 6], [], false⟩))
          .skip)))))))
   (.region 0 [⟨(some 12), none, (.p (.mv (.t 6))), false, []⟩,
     ⟨(some 13), none, (.p (.bin .add (.t 12) (.c (.int .i64 1)))), false, []⟩,
     ⟨(some 6), none, (.p (.mv (.t 13))), false, []⟩] (some ⟨[1, 3, 5, 6], [], false⟩))))
def Tryd.c50 : AC :=
 (.seq
  (.region 0 [⟨(some 1), none, (.e (.box 9 (.t 0)) none), false, []⟩,
    ⟨(some 2), none, (.p (.mv (.c (.sl 0 [] true)))), false, []⟩] (some ⟨[1], [], false⟩))
  (.scope
   (.seq
    (.region 0 [⟨(some 3), none, (.e (.alloc 38 (.sl 0 [] true)) none), false, []⟩] (some ⟨[1, 3], [], false⟩))
    (.seq
     (.region 0 [⟨(some 4), none, (.e (.alloc 3 (.int .i64 0)) none), false, []⟩,
       ⟨none, none, (.e (.store 1 (.t 4) (.c (.int .i64 0))) none), false, []⟩] (some ⟨[1, 3, 4], [], false⟩))
     (.seq
      (.region 0 [⟨(some 7), none, (.p (.mkfn 72 [(.t 4), (.t 3), (.t 1)])), false, []⟩,
        ⟨(some 5), none, (.p (.mv (.t 7))), false, []⟩] (some ⟨[1, 3, 5], [], false⟩))
      (.seq
       (.region 0 [⟨(some 6), none, (.p (.mv (.c (.int .i64 0)))), false, []⟩] (some ⟨[1, 3, 5, 6], [], false⟩))
       (.seq
        .skip
        (.seq
         (.block 0
          (.loop (some ⟨[1, 3, 5, 6], [], true⟩) Tryd.c50b0))
         (.seq
          (.region 0 [⟨(some 25), none, (.p (.mv (.t 5))), false, []⟩,
            ⟨(some 26), none, (.p (.mv (.t 6))), false, []⟩,
            ⟨(some 27), none, (.callv (.t 25) [(.t 26)]), false, []⟩] (some ⟨[3], [], false⟩))
          (.seq
           (.region 0 [⟨(some 28), none, (.r (.load 1 false (.t 3))), false, []⟩,
             ⟨(some 2), none, (.p (.mv (.t 28))), false, []⟩] (some ⟨[2], [], false⟩))
           .ret))))))))))
theorem Tryd.run50 {xs : List AV} {r : AV} (hl : xs.length ≤ 29) (h : aw Tryd.prog Tryd.c50 (Pv.Ends [2] r) (entry xs)) : Run Tryd.prog 50 xs r :=
  run_of (fun _ _ => drawOk Tryd.mixed) Tryd.func50 rfl rfl rfl (by kernel_rfl) (by kernel_rfl) hl h
/-! 51 paling/line.Word : params [9], results [4], free 0, zeros [(.string ⟨#[]⟩)] -/
def Tryd.c51b0 : AC :=
 (.seq
  (.region 0 [⟨(some 7), none, (.p (.bin .lss (.t 6) (.t 5))), false, []⟩] (some ⟨[0, 5, 6, 7], [], false⟩))
  (.seq
   (.cond (.t 7)
    .skip
    (.exit 0))
   (.seq
    (.block 1
     (.seq
      (.region 0 [⟨(some 8), none, (.p (.mv (.t 6))), false, []⟩,
        ⟨(some 3), none, (.p (.mv (.t 8))), false, []⟩] (some ⟨[0, 3, 5, 6], [], false⟩))
      (.seq
       (.region 0 [⟨(some 9), none, (.p (.mv (.t 0))), false, []⟩,
         ⟨(some 10), none, (.p (.mv (.t 3))), false, []⟩,
         ⟨(some 11), none, (.p (.idxs (.t 9) (.t 10))), false, []⟩,
         ⟨(some 12), none, (.p (.bin .leq (.t 11) (.c (.int .u8 32)))), false, []⟩,
         ⟨(some 13), none, (.p (.mv (.t 12))), false, []⟩,
         ⟨(some 14), (some (13, false)), (.p (.mv (.t 0))), false, []⟩,
         ⟨(some 15), (some (13, false)), (.p (.mv (.t 3))), false, []⟩,
         ⟨(some 16), (some (13, false)), (.p (.idxs (.t 14) (.t 15))), false, []⟩,
         ⟨(some 17), (some (13, false)), (.p (.bin .gtr (.t 16) (.c (.int .u8 126)))), false, []⟩,
         ⟨(some 18), none, (.p (.pick (.t 13) (.c (.bool true)) (.t 17))), false, []⟩,
         ⟨(some 19), none, (.p (.mv (.t 18))), false, []⟩,
         ⟨(some 20), (some (19, false)), (.p (.mv (.t 0))), false, []⟩,
         ⟨(some 21), (some (19, false)), (.p (.mv (.t 3))), false, []⟩,
         ⟨(some 22), (some (19, false)), (.p (.idxs (.t 20) (.t 21))), false, []⟩,
         ⟨(some 23), (some (19, false)), (.p (.bin .eql (.t 22) (.c (.int .u8 35)))), false, []⟩,
         ⟨(some 24), none, (.p (.pick (.t 19) (.c (.bool true)) (.t 23))), false, []⟩] (some ⟨[0, 5, 6, 24], [], false⟩))
       (.cond (.t 24)
        (.seq
         (.region 0 [⟨(some 2), none, (.p (.mv (.c (.bool false)))), false, []⟩] (some ⟨[2], [], false⟩))
         .ret)
        .skip))))
    (.region 0 [⟨(some 25), none, (.p (.bin .add (.t 6) (.c (.int .i64 1)))), false, []⟩,
      ⟨(some 6), none, (.p (.mv (.t 25))), false, []⟩] (some ⟨[0, 5, 6], [], false⟩)))))
def Tryd.c51 : AC :=
 (.seq
  (.region 0 [⟨(some 2), none, (.p (.mv (.c (.bool false)))), false, []⟩] (some ⟨[0], [], false⟩))
  (.seq
   (.seq
    (.region 0 [⟨(some 4), none, (.p (.mv (.t 0))), false, []⟩,
      ⟨(some 5), none, (.p (.lenS (.t 4))), false, []⟩,
      ⟨(some 6), none, (.p (.mv (.c (.int .i64 0)))), false, []⟩] (some ⟨[0, 5, 6], [], false⟩))
    (.block 0
     (.loop (some ⟨[0, 5, 6], [], true⟩) Tryd.c51b0)))
   (.seq
    (.region 0 [⟨(some 26), none, (.p (.mv (.t 0))), false, []⟩,
      ⟨(some 27), none, (.p (.bin .neq (.t 26) (.c (.str [])))), false, []⟩,
      ⟨(some 28), none, (.p (.mv (.t 27))), false, []⟩,
      ⟨(some 29), (some (28, true)), (.p (.mv (.t 0))), false, []⟩,
      ⟨(some 30), (some (28, true)), (.p (.lenS (.t 29))), false, []⟩,
      ⟨(some 31), (some (28, true)), (.p (.bin .leq (.t 30) (.c (.int .i64 40)))), false, []⟩,
      ⟨(some 32), none, (.p (.pick (.t 28) (.t 31) (.c (.bool false)))), false, []⟩,
      ⟨(some 2), none, (.p (.mv (.t 32))), false, []⟩] (some ⟨[2], [], false⟩))
    .ret)))
theorem Tryd.run51 {xs : List AV} {r : AV} (hl : xs.length ≤ 33) (h : aw Tryd.prog Tryd.c51 (Pv.Ends [2] r) (entry xs)) : Run Tryd.prog 51 xs r :=
  run_of (fun _ _ => drawOk Tryd.mixed) Tryd.func51 rfl rfl rfl (by kernel_rfl) (by kernel_rfl) hl h
/-! 54 paling/num.Read : params [9, 3, 3], results [3, 4], free 0, zeros [(.string ⟨#[]⟩), (.int .i64 (0)), (.int .i64 (0))] -/
def Tryd.c54b0 : AC :=
 (.seq
  (.region 0 [⟨(some 23), none, (.p (.bin .lss (.t 22) (.t 21))), false, []⟩] (some ⟨[0, 1, 2, 8, 9, 21, 22, 23], [], false⟩))
  (.seq
   (.cond (.t 23)
    .skip
    (.exit 0))
   (.seq
    (.block 1
     (.seq
      (.region 0 [⟨(some 24), none, (.p (.mv (.t 22))), false, []⟩,
        ⟨(some 10), none, (.p (.mv (.t 24))), false, []⟩] (some ⟨[0, 1, 2, 8, 9, 10, 21, 22], [], false⟩))
      (.seq
       (.seq
        (.region 0 [⟨(some 25), none, (.p (.mv (.t 8))), false, []⟩,
          ⟨(some 26), none, (.p (.mv (.t 10))), false, []⟩,
          ⟨(some 27), none, (.p (.idxs (.t 25) (.t 26))), false, []⟩,
          ⟨(some 28), none, (.p (.bin .lss (.t 27) (.c (.int .u8 48)))), false, []⟩,
          ⟨(some 29), none, (.p (.mv (.t 28))), false, []⟩,
          ⟨(some 30), (some (29, false)), (.p (.mv (.t 8))), false, []⟩,
          ⟨(some 31), (some (29, false)), (.p (.mv (.t 10))), false, []⟩,
          ⟨(some 32), (some (29, false)), (.p (.idxs (.t 30) (.t 31))), false, []⟩,
          ⟨(some 33), (some (29, false)), (.p (.bin .gtr (.t 32) (.c (.int .u8 57)))), false, []⟩,
          ⟨(some 34), none, (.p (.pick (.t 29) (.c (.bool true)) (.t 33))), false, []⟩] (some ⟨[0, 1, 2, 8, 9, 10, 21, 22, 34], [], false⟩))
        (.cond (.t 34)
         (.seq
          (.region 0 [⟨(some 6), none, (.p (.mv (.c (.int .i64 0)))), false, []⟩,
            ⟨(some 7), none, (.p (.mv (.c (.bool false)))), false, []⟩] (some ⟨[6, 7], [], false⟩))
          .ret)
         .skip))
       (.region 0 [⟨(some 35), none, (.p (.mv (.t 9))), false, []⟩,
         ⟨(some 36), none, (.p (.bin .mul (.c (.int .i64 10)) (.t 35))), false, []⟩,
         ⟨(some 37), none, (.p (.mv (.t 8))), false, []⟩,
         ⟨(some 38), none, (.p (.mv (.t 10))), false, []⟩,
         ⟨(some 39), none, (.p (.idxs (.t 37) (.t 38))), false, []⟩,
         ⟨(some 40), none, (.p (.bin .sub (.t 39) (.c (.int .u8 48)))), false, []⟩,
         ⟨(some 41), none, (.p (.convI .i64 (.t 40))), false, []⟩,
         ⟨(some 42), none, (.p (.bin .add (.t 36) (.t 41))), false, []⟩,
         ⟨(some 9), none, (.p (.mv (.t 42))), false, []⟩] (some ⟨[0, 1, 2, 8, 9, 21, 22], [], false⟩)))))
    (.region 0 [⟨(some 43), none, (.p (.bin .add (.t 22) (.c (.int .i64 1)))), false, []⟩,
      ⟨(some 22), none, (.p (.mv (.t 43))), false, []⟩] (some ⟨[0, 1, 2, 8, 9, 21, 22], [], false⟩)))))
def Tryd.c54 : AC :=
 (.seq
  (.region 0 [⟨(some 6), none, (.p (.mv (.c (.int .i64 0)))), false, []⟩,
    ⟨(some 7), none, (.p (.mv (.c (.bool false)))), false, []⟩] (some ⟨[0, 1, 2], [], false⟩))
  (.seq
   (.region 0 [⟨(some 11), none, (.p (.mv (.t 0))), false, []⟩,
     ⟨(some 12), none, (.call 74 [(.t 11), (.c (.str [45]))] false), false, []⟩,
     ⟨(some 8), none, (.p (.mv (.t 12))), false, []⟩] (some ⟨[0, 1, 2, 8], [], false⟩))
   (.seq
    (.seq
     (.region 0 [⟨(some 13), none, (.p (.mv (.t 8))), false, []⟩,
       ⟨(some 14), none, (.p (.bin .eql (.t 13) (.c (.str [])))), false, []⟩,
       ⟨(some 15), none, (.p (.mv (.t 14))), false, []⟩,
       ⟨(some 16), (some (15, false)), (.p (.mv (.t 8))), false, []⟩,
       ⟨(some 17), (some (15, false)), (.p (.lenS (.t 16))), false, []⟩,
       ⟨(some 18), (some (15, false)), (.p (.bin .gtr (.t 17) (.c (.int .i64 10)))), false, []⟩,
       ⟨(some 19), none, (.p (.pick (.t 15) (.c (.bool true)) (.t 18))), false, []⟩] (some ⟨[0, 1, 2, 8, 19], [], false⟩))
     (.cond (.t 19)
      (.seq
       (.region 0 [⟨(some 6), none, (.p (.mv (.c (.int .i64 0)))), false, []⟩,
         ⟨(some 7), none, (.p (.mv (.c (.bool false)))), false, []⟩] (some ⟨[6, 7], [], false⟩))
       .ret)
      .skip))
    (.seq
     (.region 0 [⟨(some 9), none, (.p (.mv (.c (.int .i64 0)))), false, []⟩] (some ⟨[0, 1, 2, 8, 9], [], false⟩))
     (.seq
      (.seq
       (.region 0 [⟨(some 20), none, (.p (.mv (.t 8))), false, []⟩,
         ⟨(some 21), none, (.p (.lenS (.t 20))), false, []⟩,
         ⟨(some 22), none, (.p (.mv (.c (.int .i64 0)))), false, []⟩] (some ⟨[0, 1, 2, 8, 9, 21, 22], [], false⟩))
       (.block 0
        (.loop (some ⟨[0, 1, 2, 8, 9, 21, 22], [], true⟩) Tryd.c54b0)))
      (.seq
       (.seq
        (.region 0 [⟨(some 44), none, (.p (.mv (.t 8))), false, []⟩,
          ⟨(some 45), none, (.p (.lenS (.t 44))), false, []⟩,
          ⟨(some 46), none, (.p (.mv (.t 0))), false, []⟩,
          ⟨(some 47), none, (.p (.lenS (.t 46))), false, []⟩,
          ⟨(some 48), none, (.p (.bin .lss (.t 45) (.t 47))), false, []⟩] (some ⟨[0, 1, 2, 9, 48], [], false⟩))
        (.cond (.t 48)
         (.region 0 [⟨(some 49), none, (.p (.mv (.t 9))), false, []⟩,
           ⟨(some 50), none, (.p (.un .neg (.t 49))), false, []⟩,
           ⟨(some 9), none, (.p (.mv (.t 50))), false, []⟩] (some ⟨[0, 1, 2, 9], [], false⟩))
         .skip))
       (.seq
        (.seq
         (.region 0 [⟨(some 51), none, (.p (.mv (.t 9))), false, []⟩,
           ⟨(some 52), none, (.p (.mv (.t 1))), false, []⟩,
           ⟨(some 53), none, (.p (.bin .lss (.t 51) (.t 52))), false, []⟩,
           ⟨(some 54), none, (.p (.mv (.t 53))), false, []⟩,
           ⟨(some 55), (some (54, false)), (.p (.mv (.t 9))), false, []⟩,
           ⟨(some 56), (some (54, false)), (.p (.mv (.t 2))), false, []⟩,
           ⟨(some 57), (some (54, false)), (.p (.bin .gtr (.t 55) (.t 56))), false, []⟩,
           ⟨(some 58), none, (.p (.pick (.t 54) (.c (.bool true)) (.t 57))), false, []⟩,
           ⟨(some 59), none, (.p (.mv (.t 58))), false, []⟩,
           ⟨(some 60), (some (59, false)), (.p (.mv (.t 9))), false, []⟩,
           ⟨(some 61), (some (59, false)), (.call 75 [(.t 60)] false), false, []⟩,
           ⟨(some 62), (some (59, false)), (.p (.mv (.t 0))), false, []⟩,
           ⟨(some 63), (some (59, false)), (.p (.bin .neq (.t 61) (.t 62))), false, []⟩,
           ⟨(some 64), none, (.p (.pick (.t 59) (.c (.bool true)) (.t 63))), false, []⟩] (some ⟨[9, 64], [], false⟩))
         (.cond (.t 64)
          (.seq
           (.region 0 [⟨(some 6), none, (.p (.mv (.c (.int .i64 0)))), false, []⟩,
             ⟨(some 7), none, (.p (.mv (.c (.bool false)))), false, []⟩] (some ⟨[6, 7], [], false⟩))
           .ret)
          .skip))
        (.seq
         (.region 0 [⟨(some 65), none, (.p (.mv (.t 9))), false, []⟩,
           ⟨(some 6), none, (.p (.mv (.t 65))), false, []⟩,
           ⟨(some 7), none, (.p (.mv (.c (.bool true)))), false, []⟩] (some ⟨[6, 7], [], false⟩))
         .ret))))))))
theorem Tryd.run54 {xs : List AV} {r : AV} (hl : xs.length ≤ 66) (h : aw Tryd.prog Tryd.c54 (Pv.Ends [6, 7] r) (entry xs)) : Run Tryd.prog 54 xs r :=
  run_of (fun _ _ => drawOk Tryd.mixed) Tryd.func54 rfl rfl rfl (by kernel_rfl) (by kernel_rfl) hl h
/-! 55 paling/mac.Read : params [9], results [30, 4], free 0, zeros [(.string ⟨#[]⟩)] -/
def Tryd.c55b0 : AC :=
 (.seq
  (.region 0 [⟨(some 12), none, (.p (.bin .lss (.t 11) (.c (.int .i64 6)))), false, []⟩] (some ⟨[0, 4, 11, 12], [], false⟩))
  (.seq
   (.cond (.t 12)
    .skip
    (.exit 0))
   (.seq
    (.block 1
     (.seq
      (.region 0 [⟨(some 13), none, (.p (.mv (.t 11))), false, []⟩,
        ⟨(some 5), none, (.p (.mv (.t 13))), false, []⟩] (some ⟨[0, 4, 5, 11], [], false⟩))
      (.seq
       (.region 13 [⟨(some 14), none, (.p (.mv (.t 0))), false, []⟩,
         ⟨(some 15), none, (.p (.mv (.t 5))), false, []⟩,
         ⟨(some 16), none, (.p (.bin .mul (.c (.int .i64 3)) (.t 15))), false, []⟩,
         ⟨(some 17), none, (.p (.idxs (.t 14) (.t 16))), false, []⟩,
         ⟨(some 19), none, (.p (.mv (.t 0))), false, []⟩,
         ⟨(some 20), none, (.p (.mv (.t 5))), false, []⟩,
         ⟨(some 21), none, (.p (.bin .mul (.c (.int .i64 3)) (.t 20))), false, []⟩,
         ⟨(some 22), none, (.p (.bin .add (.t 21) (.c (.int .i64 1)))), false, []⟩,
         ⟨(some 23), none, (.p (.idxs (.t 19) (.t 22))), false, []⟩,
         ⟨(some 18), none, (.call 76 [(.t 17)] true), false, []⟩,
         ⟨(some 24), none, (.call 76 [(.t 23)] true), false, []⟩,
         ⟨(some 6), none, (.p (.mv (.t 18))), false, []⟩,
         ⟨(some 7), none, (.p (.mv (.t 24))), false, []⟩] (some ⟨[0, 4, 5, 6, 7, 11], [], true⟩))
       (.seq
        (.seq
         (.region 0 [⟨(some 25), none, (.p (.mv (.t 6))), false, []⟩,
           ⟨(some 26), none, (.p (.bin .gtr (.t 25) (.c (.int .u64 15)))), false, []⟩,
           ⟨(some 27), none, (.p (.mv (.t 26))), false, []⟩,
           ⟨(some 28), (some (27, false)), (.p (.mv (.t 7))), false, []⟩,
           ⟨(some 29), (some (27, false)), (.p (.bin .gtr (.t 28) (.c (.int .u64 15)))), false, []⟩,
           ⟨(some 30), none, (.p (.pick (.t 27) (.c (.bool true)) (.t 29))), false, []⟩,
           ⟨(some 31), none, (.p (.mv (.t 30))), false, []⟩,
           ⟨(some 32), (some (31, false)), (.p (.mv (.t 5))), false, []⟩,
           ⟨(some 33), (some (31, false)), (.p (.bin .add (.t 32) (.c (.int .i64 1)))), false, []⟩,
           ⟨(some 34), (some (31, false)), (.p (.bin .lss (.t 33) (.c (.int .i64 6)))), false, []⟩,
           ⟨(some 35), (some (31, false)), (.p (.mv (.t 34))), false, []⟩,
           ⟨(some 36), (some (35, true)), (.p (.mv (.t 0))), false, []⟩,
           ⟨(some 37), (some (35, true)), (.p (.mv (.t 5))), false, []⟩,
           ⟨(some 38), (some (35, true)), (.p (.bin .mul (.c (.int .i64 3)) (.t 37))), false, []⟩,
           ⟨(some 39), (some (35, true)), (.p (.bin .add (.t 38) (.c (.int .i64 2)))), false, []⟩,
           ⟨(some 40), (some (35, true)), (.p (.idxs (.t 36) (.t 39))), false, []⟩,
           ⟨(some 41), (some (35, true)), (.p (.bin .neq (.t 40) (.c (.int .u8 58)))), false, []⟩,
           ⟨(some 42), (some (31, false)), (.p (.pick (.t 35) (.t 41) (.c (.bool false)))), false, []⟩,
           ⟨(some 43), none, (.p (.pick (.t 31) (.c (.bool true)) (.t 42))), false, []⟩] (some ⟨[0, 4, 6, 7, 11, 43], [], false⟩))
         (.cond (.t 43)
          (.seq
           (.region 0 [⟨(some 2), none, (.p (.mv (.c (.int .u64 0)))), false, []⟩,
             ⟨(some 3), none, (.p (.mv (.c (.bool false)))), false, []⟩] (some ⟨[2, 3], [], false⟩))
           .ret)
          .skip))
        (.region 0 [⟨(some 44), none, (.p (.mv (.t 4))), false, []⟩,
          ⟨(some 45), none, (.p (.bin .shl (.t 44) (.c (.int .u64 8)))), false, []⟩,
          ⟨(some 46), none, (.p (.mv (.t 6))), false, []⟩,
          ⟨(some 47), none, (.p (.bin .shl (.t 46) (.c (.int .u64 4)))), false, []⟩,
          ⟨(some 48), none, (.p (.bin .or (.t 45) (.t 47))), false, []⟩,
          ⟨(some 49), none, (.p (.mv (.t 7))), false, []⟩,
          ⟨(some 50), none, (.p (.bin .or (.t 48) (.t 49))), false, []⟩,
          ⟨(some 4), none, (.p (.mv (.t 50))), false, []⟩] (some ⟨[0, 4, 11], [], false⟩))))))
    (.region 0 [⟨(some 51), none, (.p (.bin .add (.t 11) (.c (.int .i64 1)))), false, []⟩,
      ⟨(some 11), none, (.p (.mv (.t 51))), false, []⟩] (some ⟨[0, 4, 11], [], false⟩)))))
def Tryd.c55 : AC :=
 (.seq
  (.region 0 [⟨(some 2), none, (.p (.mv (.c (.int .u64 0)))), false, []⟩,
    ⟨(some 3), none, (.p (.mv (.c (.bool false)))), false, []⟩] (some ⟨[0], [], false⟩))
  (.seq
   (.seq
    (.region 0 [⟨(some 8), none, (.p (.mv (.t 0))), false, []⟩,
      ⟨(some 9), none, (.p (.lenS (.t 8))), false, []⟩,
      ⟨(some 10), none, (.p (.bin .neq (.t 9) (.c (.int .i64 17)))), false, []⟩] (some ⟨[0, 10], [], false⟩))
    (.cond (.t 10)
     (.seq
      (.region 0 [⟨(some 2), none, (.p (.mv (.c (.int .u64 0)))), false, []⟩,
        ⟨(some 3), none, (.p (.mv (.c (.bool false)))), false, []⟩] (some ⟨[2, 3], [], false⟩))
      .ret)
     .skip))
   (.seq
    (.region 0 [⟨(some 4), none, (.p (.mv (.c (.int .u64 0)))), false, []⟩] (some ⟨[0, 4], [], false⟩))
    (.seq
     (.seq
      (.region 0 [⟨(some 11), none, (.p (.mv (.c (.int .i64 0)))), false, []⟩] (some ⟨[0, 4, 11], [], false⟩))
      (.block 0
       (.loop (some ⟨[0, 4, 11], [], true⟩) Tryd.c55b0)))
     (.seq
      (.region 0 [⟨(some 52), none, (.p (.mv (.t 4))), false, []⟩,
        ⟨(some 2), none, (.p (.mv (.t 52))), false, []⟩,
        ⟨(some 3), none, (.p (.mv (.c (.bool true)))), false, []⟩] (some ⟨[2, 3], [], false⟩))
      .ret)))))
theorem Tryd.run55 {xs : List AV} {r : AV} (hl : xs.length ≤ 53) (h : aw Tryd.prog Tryd.c55 (Pv.Ends [2, 3] r) (entry xs)) : Run Tryd.prog 55 xs r :=
  run_of (fun _ _ => drawOk Tryd.mixed) Tryd.func55 rfl rfl rfl (by kernel_rfl) (by kernel_rfl) hl h
/-! 56 paling/stmt.station : params [30], results [4], free 0, zeros [(.int .u64 (0))] -/
def Tryd.c56 : AC :=
 (.seq
  (.region 0 [⟨(some 2), none, (.p (.mv (.c (.bool false)))), false, []⟩] (some ⟨[0], [], false⟩))
  (.seq
   (.region 0 [⟨(some 6), none, (.p (.mv (.t 0))), false, []⟩,
     ⟨(some 7), none, (.call 77 [(.t 6)] false), false, []⟩,
     ⟨(some 5), none, (.p (.mv (.t 7))), false, []⟩,
     ⟨(some 8), none, (.p (.ext (.t 5) 0)), false, []⟩,
     ⟨(some 9), none, (.p (.ext (.t 5) 1)), false, []⟩,
     ⟨(some 3), none, (.p (.mv (.t 8))), false, []⟩,
     ⟨(some 4), none, (.p (.mv (.t 9))), false, []⟩] (some ⟨[0, 4], [], false⟩))
   (.seq
    (.region 0 [⟨(some 10), none, (.p (.mv (.t 0))), false, []⟩,
      ⟨(some 11), none, (.p (.bin .leq (.t 10) (.c (.int .u64 281474976710655)))), false, []⟩,
      ⟨(some 12), none, (.p (.mv (.t 11))), false, []⟩,
      ⟨(some 13), (some (12, true)), (.p (.mv (.t 4))), false, []⟩,
      ⟨(some 14), (some (12, true)), (.p (.un .not (.t 13))), false, []⟩,
      ⟨(some 15), none, (.p (.pick (.t 12) (.t 14) (.c (.bool false)))), false, []⟩,
      ⟨(some 16), none, (.p (.mv (.t 15))), false, []⟩,
      ⟨(some 17), (some (16, true)), (.p (.mv (.t 0))), false, []⟩,
      ⟨(some 18), (some (16, true)), (.call 78 [(.t 17)] false), false, []⟩,
      ⟨(some 19), (some (16, true)), (.p (.un .not (.t 18))), false, []⟩,
      ⟨(some 20), none, (.p (.pick (.t 16) (.t 19) (.c (.bool false)))), false, []⟩,
      ⟨(some 2), none, (.p (.mv (.t 20))), false, []⟩] (some ⟨[2], [], false⟩))
    .ret)))
theorem Tryd.run56 {xs : List AV} {r : AV} (hl : xs.length ≤ 21) (h : aw Tryd.prog Tryd.c56 (Pv.Ends [2] r) (entry xs)) : Run Tryd.prog 56 xs r :=
  run_of (fun _ _ => drawOk Tryd.mixed) Tryd.func56 rfl rfl rfl (by kernel_rfl) (by kernel_rfl) hl h
/-! 57 paling/stmt.members : params [35], results [4], free 0, zeros [(.agg #[(.int .i64 (0)), (.int .i64 (0)), (.string ⟨#[]⟩), (.string ⟨#[]⟩), (.string ⟨#[]⟩), (.string ⟨#[]⟩), (.string ⟨#[]⟩), (.int .u64 (0)), (.int .u32 (0)), (.int .i64 (0)), (.int .i64 (0)), (.int .i64 (0)), (.int .i64 (0)), (.slice none 0 0), (.slice none 0 0), (.slice none 0 0), (.slice none 0 0)])] -/
def Tryd.c57 : AC :=
 (.seq
  (.region 0 [⟨(some 1), none, (.e (.box 35 (.t 0)) none), false, []⟩,
    ⟨(some 2), none, (.p (.mv (.c (.bool false)))), false, []⟩] (some ⟨[1], [], false⟩))
  (.seq
   (.region 0 [⟨(some 3), none, (.p (.faddr 10 (.t 1))), false, []⟩,
     ⟨(some 4), none, (.r (.load 1 false (.t 3))), false, []⟩,
     ⟨(some 5), none, (.p (.bin .gtr (.t 4) (.c (.int .i64 0)))), false, []⟩,
     ⟨(some 6), none, (.p (.mv (.t 5))), false, []⟩,
     ⟨(some 7), (some (6, false)), (.p (.faddr 13 (.t 1))), false, []⟩,
     ⟨(some 8), (some (6, false)), (.r (.load 1 false (.t 7))), false, []⟩,
     ⟨(some 9), (some (6, false)), (.p (.len (.t 8))), false, []⟩,
     ⟨(some 10), (some (6, false)), (.p (.bin .gtr (.t 9) (.c (.int .i64 0)))), false, []⟩,
     ⟨(some 11), none, (.p (.pick (.t 6) (.c (.bool true)) (.t 10))), false, []⟩,
     ⟨(some 12), none, (.p (.mv (.t 11))), false, []⟩,
     ⟨(some 13), (some (12, true)), (.p (.faddr 13 (.t 1))), false, []⟩,
     ⟨(some 14), (some (12, true)), (.r (.load 1 false (.t 13))), false, []⟩,
     ⟨(some 15), (some (12, true)), (.p (.faddr 10 (.t 1))), false, []⟩,
     ⟨(some 16), (some (12, true)), (.r (.load 1 false (.t 15))), false, []⟩,
     ⟨(some 17), (some (12, true)), (.call 79 [(.t 14), (.t 16)] false), false, []⟩,
     ⟨(some 18), (some (12, true)), (.p (.un .not (.t 17))), false, []⟩,
     ⟨(some 19), none, (.p (.pick (.t 12) (.t 18) (.c (.bool false)))), false, []⟩,
     ⟨(some 2), none, (.p (.mv (.t 19))), false, []⟩] (some ⟨[2], [], false⟩))
   .ret))
theorem Tryd.run57 {xs : List AV} {r : AV} (hl : xs.length ≤ 20) (h : aw Tryd.prog Tryd.c57 (Pv.Ends [2] r) (entry xs)) : Run Tryd.prog 57 xs r :=
  run_of (fun _ _ => drawOk Tryd.mixed) Tryd.func57 rfl rfl rfl (by kernel_rfl) (by kernel_rfl) hl h
/-! 59 paling/addr.small : params [9, 3], results [3, 4], free 0, zeros [(.string ⟨#[]⟩), (.int .i64 (0))] -/
def Tryd.c59b0 : AC :=
 (.seq
  (.region 0 [⟨(some 29), none, (.p (.bin .lss (.t 28) (.t 27))), false, []⟩] (some ⟨[0, 1, 6, 27, 28, 29], [], false⟩))
  (.seq
   (.cond (.t 29)
    .skip
    (.exit 0))
   (.seq
    (.block 1
     (.seq
      (.region 0 [⟨(some 30), none, (.p (.mv (.t 28))), false, []⟩,
        ⟨(some 7), none, (.p (.mv (.t 30))), false, []⟩] (some ⟨[0, 1, 6, 7, 27, 28], [], false⟩))
      (.seq
       (.seq
        (.region 0 [⟨(some 31), none, (.p (.mv (.t 0))), false, []⟩,
          ⟨(some 32), none, (.p (.mv (.t 7))), false, []⟩,
          ⟨(some 33), none, (.p (.idxs (.t 31) (.t 32))), false, []⟩,
          ⟨(some 34), none, (.p (.bin .lss (.t 33) (.c (.int .u8 48)))), false, []⟩,
          ⟨(some 35), none, (.p (.mv (.t 34))), false, []⟩,
          ⟨(some 36), (some (35, false)), (.p (.mv (.t 0))), false, []⟩,
          ⟨(some 37), (some (35, false)), (.p (.mv (.t 7))), false, []⟩,
          ⟨(some 38), (some (35, false)), (.p (.idxs (.t 36) (.t 37))), false, []⟩,
          ⟨(some 39), (some (35, false)), (.p (.bin .gtr (.t 38) (.c (.int .u8 57)))), false, []⟩,
          ⟨(some 40), none, (.p (.pick (.t 35) (.c (.bool true)) (.t 39))), false, []⟩] (some ⟨[0, 1, 6, 7, 27, 28, 40], [], false⟩))
        (.cond (.t 40)
         (.seq
          (.region 0 [⟨(some 4), none, (.p (.mv (.c (.int .i64 0)))), false, []⟩,
            ⟨(some 5), none, (.p (.mv (.c (.bool false)))), false, []⟩] (some ⟨[4, 5], [], false⟩))
          .ret)
         .skip))
       (.region 0 [⟨(some 41), none, (.p (.mv (.t 6))), false, []⟩,
         ⟨(some 42), none, (.p (.bin .mul (.c (.int .i64 10)) (.t 41))), false, []⟩,
         ⟨(some 43), none, (.p (.mv (.t 0))), false, []⟩,
         ⟨(some 44), none, (.p (.mv (.t 7))), false, []⟩,
         ⟨(some 45), none, (.p (.idxs (.t 43) (.t 44))), false, []⟩,
         ⟨(some 46), none, (.p (.bin .sub (.t 45) (.c (.int .u8 48)))), false, []⟩,
         ⟨(some 47), none, (.p (.convI .i64 (.t 46))), false, []⟩,
         ⟨(some 48), none, (.p (.bin .add (.t 42) (.t 47))), false, []⟩,
         ⟨(some 6), none, (.p (.mv (.t 48))), false, []⟩] (some ⟨[0, 1, 6, 27, 28], [], false⟩)))))
    (.region 0 [⟨(some 49), none, (.p (.bin .add (.t 28) (.c (.int .i64 1)))), false, []⟩,
      ⟨(some 28), none, (.p (.mv (.t 49))), false, []⟩] (some ⟨[0, 1, 6, 27, 28], [], false⟩)))))
def Tryd.c59 : AC :=
 (.seq
  (.region 0 [⟨(some 4), none, (.p (.mv (.c (.int .i64 0)))), false, []⟩,
    ⟨(some 5), none, (.p (.mv (.c (.bool false)))), false, []⟩] (some ⟨[0, 1], [], false⟩))
  (.seq
   (.seq
    (.region 0 [⟨(some 8), none, (.p (.mv (.t 0))), false, []⟩,
      ⟨(some 9), none, (.p (.lenS (.t 8))), false, []⟩,
      ⟨(some 10), none, (.p (.bin .eql (.t 9) (.c (.int .i64 0)))), false, []⟩,
      ⟨(some 11), none, (.p (.mv (.t 10))), false, []⟩,
      ⟨(some 12), (some (11, false)), (.p (.mv (.t 0))), false, []⟩,
      ⟨(some 13), (some (11, false)), (.p (.lenS (.t 12))), false, []⟩,
      ⟨(some 14), (some (11, false)), (.p (.bin .gtr (.t 13) (.c (.int .i64 3)))), false, []⟩,
      ⟨(some 15), none, (.p (.pick (.t 11) (.c (.bool true)) (.t 14))), false, []⟩,
      ⟨(some 16), none, (.p (.mv (.t 15))), false, []⟩,
      ⟨(some 17), (some (16, false)), (.p (.mv (.t 0))), false, []⟩,
      ⟨(some 18), (some (16, false)), (.p (.lenS (.t 17))), false, []⟩,
      ⟨(some 19), (some (16, false)), (.p (.bin .gtr (.t 18) (.c (.int .i64 1)))), false, []⟩,
      ⟨(some 20), (some (16, false)), (.p (.mv (.t 19))), false, []⟩,
      ⟨(some 21), (some (20, true)), (.p (.mv (.t 0))), false, []⟩,
      ⟨(some 22), (some (20, true)), (.p (.idxs (.t 21) (.c (.int .i64 0)))), false, []⟩,
      ⟨(some 23), (some (20, true)), (.p (.bin .eql (.t 22) (.c (.int .u8 48)))), false, []⟩,
      ⟨(some 24), (some (16, false)), (.p (.pick (.t 20) (.t 23) (.c (.bool false)))), false, []⟩,
      ⟨(some 25), none, (.p (.pick (.t 16) (.c (.bool true)) (.t 24))), false, []⟩] (some ⟨[0, 1, 25], [], false⟩))
    (.cond (.t 25)
     (.seq
      (.region 0 [⟨(some 4), none, (.p (.mv (.c (.int .i64 0)))), false, []⟩,
        ⟨(some 5), none, (.p (.mv (.c (.bool false)))), false, []⟩] (some ⟨[4, 5], [], false⟩))
      .ret)
     .skip))
   (.seq
    (.region 0 [⟨(some 6), none, (.p (.mv (.c (.int .i64 0)))), false, []⟩] (some ⟨[0, 1, 6], [], false⟩))
    (.seq
     (.seq
      (.region 0 [⟨(some 26), none, (.p (.mv (.t 0))), false, []⟩,
        ⟨(some 27), none, (.p (.lenS (.t 26))), false, []⟩,
        ⟨(some 28), none, (.p (.mv (.c (.int .i64 0)))), false, []⟩] (some ⟨[0, 1, 6, 27, 28], [], false⟩))
      (.block 0
       (.loop (some ⟨[0, 1, 6, 27, 28], [], true⟩) Tryd.c59b0)))
     (.seq
      (.region 0 [⟨(some 50), none, (.p (.mv (.t 6))), false, []⟩,
        ⟨(some 51), none, (.p (.mv (.t 6))), false, []⟩,
        ⟨(some 52), none, (.p (.mv (.t 1))), false, []⟩,
        ⟨(some 53), none, (.p (.bin .leq (.t 51) (.t 52))), false, []⟩,
        ⟨(some 4), none, (.p (.mv (.t 50))), false, []⟩,
        ⟨(some 5), none, (.p (.mv (.t 53))), false, []⟩] (some ⟨[4, 5], [], false⟩))
      .ret)))))
theorem Tryd.run59 {xs : List AV} {r : AV} (hl : xs.length ≤ 54) (h : aw Tryd.prog Tryd.c59 (Pv.Ends [4, 5] r) (entry xs)) : Run Tryd.prog 59 xs r :=
  run_of (fun _ _ => drawOk Tryd.mixed) Tryd.func59 rfl rfl rfl (by kernel_rfl) (by kernel_rfl) hl h
/-! 60 paling/num.read[uint32] : params [9, 66], results [33, 4], free 0, zeros [(.string ⟨#[]⟩), .nilFunc] -/
def Tryd.c60b0 : AC :=
 (.seq
  (.seq
   (.region 0 [⟨(some 11), none, (.p (.mv (.t 7))), false, []⟩] (some ⟨[0, 1, 6, 11], [], false⟩))
   (.cond (.t 11)
    .skip
    (.exit 0)))
  (.block 1
   (.seq
    (.region 0 [⟨(some 8), none, (.p (.mv (.c (.str [])))), false, []⟩] (some ⟨[0, 1, 6], [], false⟩))
    (.seq
     (.region 0 [⟨(some 13), none, (.p (.mv (.t 0))), false, []⟩,
       ⟨(some 14), none, (.call 49 [(.t 13), (.c (.str [44]))] false), false, []⟩,
       ⟨(some 12), none, (.p (.mv (.t 14))), false, []⟩,
       ⟨(some 15), none, (.p (.ext (.t 12) 0)), false, []⟩,
       ⟨(some 16), none, (.p (.ext (.t 12) 1)), false, []⟩,
       ⟨(some 17), none, (.p (.ext (.t 12) 2)), false, []⟩,
       ⟨(some 8), none, (.p (.mv (.t 15))), false, []⟩,
       ⟨(some 0), none, (.p (.mv (.t 16))), false, []⟩,
       ⟨(some 7), none, (.p (.mv (.t 17))), false, []⟩] (some ⟨[0, 1, 6, 7, 8], [], false⟩))
     (.seq
      (.region 0 [⟨(some 19), none, (.p (.mv (.t 1))), false, []⟩,
        ⟨(some 20), none, (.p (.mv (.t 8))), false, []⟩,
        ⟨(some 21), none, (.callv (.t 19) [(.t 20)]), false, []⟩,
        ⟨(some 18), none, (.p (.mv (.t 21))), false, []⟩,
        ⟨(some 22), none, (.p (.ext (.t 18) 0)), false, []⟩,
        ⟨(some 23), none, (.p (.ext (.t 18) 1)), false, []⟩,
        ⟨(some 9), none, (.p (.mv (.t 22))), false, []⟩,
        ⟨(some 10), none, (.p (.mv (.t 23))), false, []⟩] (some ⟨[0, 1, 6, 7, 9, 10], [], false⟩))
      (.seq
       (.seq
        (.region 0 [⟨(some 24), none, (.p (.mv (.t 10))), false, []⟩,
          ⟨(some 25), none, (.p (.un .not (.t 24))), false, []⟩,
          ⟨(some 26), none, (.p (.mv (.t 25))), false, []⟩,
          ⟨(some 27), (some (26, false)), (.p (.mv (.t 6))), false, []⟩,
          ⟨(some 28), (some (26, false)), (.p (.len (.t 27))), false, []⟩,
          ⟨(some 29), (some (26, false)), (.p (.bin .eql (.t 28) (.c (.int .i64 16)))), false, []⟩,
          ⟨(some 30), none, (.p (.pick (.t 26) (.c (.bool true)) (.t 29))), false, []⟩,
          ⟨(some 31), none, (.p (.mv (.t 30))), false, []⟩,
          ⟨(some 32), (some (31, false)), (.p (.mv (.t 6))), false, []⟩,
          ⟨(some 33), (some (31, false)), (.p (.len (.t 32))), false, []⟩,
          ⟨(some 34), (some (31, false)), (.p (.bin .gtr (.t 33) (.c (.int .i64 0)))), false, []⟩,
          ⟨(some 35), (some (31, false)), (.p (.mv (.t 34))), false, []⟩,
          ⟨(some 36), (some (35, true)), (.p (.mv (.t 6))), false, []⟩,
          ⟨(some 37), (some (35, true)), (.p (.mv (.t 6))), false, []⟩,
          ⟨(some 38), (some (35, true)), (.p (.len (.t 37))), false, []⟩,
          ⟨(some 39), (some (35, true)), (.p (.bin .sub (.t 38) (.c (.int .i64 1)))), false, []⟩,
          ⟨(some 40), (some (35, true)), (.p (.iaddr 1 (.t 36) (.t 39))), false, []⟩,
          ⟨(some 41), (some (35, true)), (.r (.load 1 false (.t 40))), false, []⟩,
          ⟨(some 42), (some (35, true)), (.p (.mv (.t 9))), false, []⟩,
          ⟨(some 43), (some (35, true)), (.p (.bin .geq (.t 41) (.t 42))), false, []⟩,
          ⟨(some 44), (some (31, false)), (.p (.pick (.t 35) (.t 43) (.c (.bool false)))), false, []⟩,
          ⟨(some 45), none, (.p (.pick (.t 31) (.c (.bool true)) (.t 44))), false, []⟩] (some ⟨[0, 1, 6, 7, 9, 45], [], false⟩))
        (.cond (.t 45)
         (.seq
          (.region 0 [⟨(some 4), none, (.p (.mv (.c (.sl 0 [] true)))), false, []⟩,
            ⟨(some 5), none, (.p (.mv (.c (.bool false)))), false, []⟩] (some ⟨[4, 5], [], false⟩))
          .ret)
         .skip))
       (.region 0 [⟨(some 46), none, (.p (.mv (.t 6))), false, []⟩,
         ⟨(some 47), none, (.p (.mv (.t 9))), false, []⟩,
         ⟨(some 48), none, (.e (.mks 31 1 (.int .u32 0) 1 [(0, (.t 47))]) none), false, []⟩,
         ⟨(some 49), none, (.e (.append 31 1 1000000000 (.t 46) (.t 48)) none), false, []⟩,
         ⟨(some 6), none, (.p (.mv (.t 49))), false, []⟩] (some ⟨[0, 1, 6, 7], [], false⟩))))))))
def Tryd.c60 : AC :=
 (.seq
  (.region 0 [⟨(some 4), none, (.p (.mv (.c (.sl 0 [] true)))), false, []⟩,
    ⟨(some 5), none, (.p (.mv (.c (.bool false)))), false, []⟩] (some ⟨[0, 1], [], false⟩))
  (.seq
   (.region 0 [⟨(some 6), none, (.p (.mv (.c (.sl 0 [] true)))), false, []⟩] (some ⟨[0, 1, 6], [], false⟩))
   (.seq
    (.seq
     (.region 0 [⟨(some 7), none, (.p (.mv (.c (.bool true)))), false, []⟩] (some ⟨[0, 1, 6, 7], [], false⟩))
     (.block 0
      (.loop (some ⟨[0, 1, 6, 7], [(6, (1, 31))], true⟩) Tryd.c60b0)))
    (.seq
     (.region 0 [⟨(some 50), none, (.p (.mv (.t 6))), false, []⟩,
       ⟨(some 4), none, (.p (.mv (.t 50))), false, []⟩,
       ⟨(some 5), none, (.p (.mv (.c (.bool true)))), false, []⟩] (some ⟨[4, 5], [], false⟩))
     .ret))))
theorem Tryd.run60 {xs : List AV} {r : AV} (hl : xs.length ≤ 51) (h : aw Tryd.prog Tryd.c60 (Pv.Ends [4, 5] r) (entry xs)) : Run Tryd.prog 60 xs r :=
  run_of (fun _ _ => drawOk Tryd.mixed) Tryd.func60 rfl rfl rfl (by kernel_rfl) (by kernel_rfl) hl h
/-! 61 paling/num.ReadList : params [9, 3, 3], results [32, 4], free 0, zeros [(.string ⟨#[]⟩), (.int .i64 (0)), (.int .i64 (0))] -/
def Tryd.c61 : AC :=
 (.seq
  (.region 0 [⟨(some 4), none, (.e (.box 3 (.t 1)) none), false, []⟩,
    ⟨(some 5), none, (.e (.box 3 (.t 2)) none), false, []⟩,
    ⟨(some 6), none, (.p (.mv (.c (.sl 0 [] true)))), false, []⟩,
    ⟨(some 7), none, (.p (.mv (.c (.bool false)))), false, []⟩] (some ⟨[0, 4, 5], [], false⟩))
  (.seq
   (.region 0 [⟨(some 8), none, (.p (.mv (.t 0))), false, []⟩,
     ⟨(some 9), none, (.p (.mkfn 82 [(.t 4), (.t 5)])), false, []⟩,
     ⟨(some 10), none, (.call 81 [(.t 8), (.t 9)] false), false, []⟩,
     ⟨(some 11), none, (.p (.ext (.t 10) 0)), false, []⟩,
     ⟨(some 12), none, (.p (.ext (.t 10) 1)), false, []⟩,
     ⟨(some 6), none, (.p (.mv (.t 11))), false, []⟩,
     ⟨(some 7), none, (.p (.mv (.t 12))), false, []⟩] (some ⟨[6, 7], [], false⟩))
   .ret))
theorem Tryd.run61 {xs : List AV} {r : AV} (hl : xs.length ≤ 13) (h : aw Tryd.prog Tryd.c61 (Pv.Ends [6, 7] r) (entry xs)) : Run Tryd.prog 61 xs r :=
  run_of (fun _ _ => drawOk Tryd.mixed) Tryd.func61 rfl rfl rfl (by kernel_rfl) (by kernel_rfl) hl h
/-! 62 paling/addr.First : params [71], results [31], free 0, zeros [(.agg #[(.int .u32 (0)), (.int .i64 (0))])] -/
def Tryd.c62 : AC :=
 (.seq
  (.region 0 [⟨(some 1), none, (.e (.box 71 (.t 0)) none), false, []⟩,
    ⟨(some 2), none, (.p (.mv (.c (.int .u32 0)))), false, []⟩] (some ⟨[1], [], false⟩))
  (.seq
   (.seq
    (.region 0 [⟨(some 3), none, (.r (.load 2 true (.t 1))), false, []⟩,
      ⟨(some 4), none, (.call 83 [(.t 3)] false), false, []⟩,
      ⟨(some 5), none, (.p (.un .not (.t 4))), false, []⟩] (some ⟨[1, 5], [], false⟩))
    (.cond (.t 5)
     (.seq
      (.region 0 [⟨(some 2), none, (.p (.mv (.c (.int .u32 0)))), false, []⟩] (some ⟨[2], [], false⟩))
      .ret)
     .skip))
   (.seq
    (.region 6 [⟨(some 6), none, (.p (.faddr 0 (.t 1))), false, []⟩,
      ⟨(some 7), none, (.r (.load 1 false (.t 6))), false, []⟩,
      ⟨(some 8), none, (.r (.load 2 true (.t 1))), false, []⟩,
      ⟨(some 9), none, (.call 84 [(.t 8)] true), false, []⟩,
      ⟨(some 10), none, (.p (.bin .andNot (.t 7) (.t 9))), false, []⟩,
      ⟨(some 2), none, (.p (.mv (.t 10))), false, []⟩] (some ⟨[2], [], true⟩))
    .ret)))
theorem Tryd.run62 {xs : List AV} {r : AV} (hl : xs.length ≤ 11) (h : aw Tryd.prog Tryd.c62 (Pv.Ends [2] r) (entry xs)) : Run Tryd.prog 62 xs r :=
  run_of (fun _ _ => drawOk Tryd.mixed) Tryd.func62 rfl rfl rfl (by kernel_rfl) (by kernel_rfl) hl h
/-! 63 paling/addr.Last : params [71], results [31], free 0, zeros [(.agg #[(.int .u32 (0)), (.int .i64 (0))])] -/
def Tryd.c63 : AC :=
 (.seq
  (.region 0 [⟨(some 1), none, (.e (.box 71 (.t 0)) none), false, []⟩,
    ⟨(some 2), none, (.p (.mv (.c (.int .u32 0)))), false, []⟩] (some ⟨[1], [], false⟩))
  (.seq
   (.seq
    (.region 0 [⟨(some 3), none, (.r (.load 2 true (.t 1))), false, []⟩,
      ⟨(some 4), none, (.call 83 [(.t 3)] false), false, []⟩,
      ⟨(some 5), none, (.p (.un .not (.t 4))), false, []⟩] (some ⟨[1, 5], [], false⟩))
    (.cond (.t 5)
     (.seq
      (.region 0 [⟨(some 2), none, (.p (.mv (.c (.int .u32 0)))), false, []⟩] (some ⟨[2], [], false⟩))
      .ret)
     .skip))
   (.seq
    (.region 6 [⟨(some 6), none, (.p (.faddr 0 (.t 1))), false, []⟩,
      ⟨(some 7), none, (.r (.load 1 false (.t 6))), false, []⟩,
      ⟨(some 8), none, (.r (.load 2 true (.t 1))), false, []⟩,
      ⟨(some 9), none, (.call 84 [(.t 8)] true), false, []⟩,
      ⟨(some 10), none, (.p (.bin .or (.t 7) (.t 9))), false, []⟩,
      ⟨(some 2), none, (.p (.mv (.t 10))), false, []⟩] (some ⟨[2], [], true⟩))
    .ret)))
theorem Tryd.run63 {xs : List AV} {r : AV} (hl : xs.length ≤ 11) (h : aw Tryd.prog Tryd.c63 (Pv.Ends [2] r) (entry xs)) : Run Tryd.prog 63 xs r :=
  run_of (fun _ _ => drawOk Tryd.mixed) Tryd.func63 rfl rfl rfl (by kernel_rfl) (by kernel_rfl) hl h
/-! 69 paling/palingref03.Ints : params [32, 32], results [4], free 0, zeros [(.slice none 0 0), (.slice none 0 0)] -/
def Tryd.c69b0 : AC :=
 (.seq
  (.seq
   (.region 0 [⟨(some 11), none, (.p (.mv (.t 5))), false, []⟩,
     ⟨(some 12), none, (.p (.mv (.t 0))), false, []⟩,
     ⟨(some 13), none, (.p (.len (.t 12))), false, []⟩,
     ⟨(some 14), none, (.p (.bin .lss (.t 11) (.t 13))), false, []⟩] (some ⟨[0, 1, 5, 14], [], false⟩))
   (.cond (.t 14)
    .skip
    (.exit 0)))
  (.seq
   (.block 1
    (.seq
     (.region 9 [⟨(some 17), none, (.p (.mv (.t 0))), false, []⟩,
       ⟨(some 18), none, (.p (.mv (.t 5))), false, []⟩,
       ⟨(some 19), none, (.p (.iaddr 1 (.t 17) (.t 18))), false, []⟩,
       ⟨(some 20), none, (.r (.load 1 false (.t 19))), false, []⟩,
       ⟨(some 21), none, (.p (.mv (.t 1))), false, []⟩,
       ⟨(some 22), none, (.p (.mv (.t 5))), false, []⟩,
       ⟨(some 23), none, (.p (.iaddr 1 (.t 21) (.t 22))), false, []⟩,
       ⟨(some 24), none, (.r (.load 1 false (.t 23))), false, []⟩,
       ⟨(some 25), none, (.p (.bin .neq (.t 20) (.t 24))), false, []⟩] (some ⟨[0, 1, 5, 25], [], true⟩))
     (.cond (.t 25)
      (.seq
       (.region 0 [⟨(some 4), none, (.p (.mv (.c (.bool false)))), false, []⟩] (some ⟨[4], [], false⟩))
       .ret)
      .skip)))
   (.region 0 [⟨(some 15), none, (.p (.mv (.t 5))), false, []⟩,
     ⟨(some 16), none, (.p (.bin .add (.t 15) (.c (.int .i64 1)))), false, []⟩,
     ⟨(some 5), none, (.p (.mv (.t 16))), false, []⟩] (some ⟨[0, 1, 5], [], false⟩))))
def Tryd.c69 : AC :=
 (.seq
  (.region 0 [⟨(some 4), none, (.p (.mv (.c (.bool false)))), false, []⟩] (some ⟨[0, 1], [], false⟩))
  (.seq
   (.seq
    (.region 0 [⟨(some 6), none, (.p (.mv (.t 0))), false, []⟩,
      ⟨(some 7), none, (.p (.len (.t 6))), false, []⟩,
      ⟨(some 8), none, (.p (.mv (.t 1))), false, []⟩,
      ⟨(some 9), none, (.p (.len (.t 8))), false, []⟩,
      ⟨(some 10), none, (.p (.bin .neq (.t 7) (.t 9))), false, []⟩] (some ⟨[0, 1, 10], [], false⟩))
    (.cond (.t 10)
     (.seq
      (.region 0 [⟨(some 4), none, (.p (.mv (.c (.bool false)))), false, []⟩] (some ⟨[4], [], false⟩))
      .ret)
     .skip))
   (.seq
    (.seq
     (.region 0 [⟨(some 5), none, (.p (.mv (.c (.int .i64 0)))), false, []⟩] (some ⟨[0, 1, 5], [], false⟩))
     (.block 0
      (.loop (some ⟨[0, 1, 5], [], true⟩) Tryd.c69b0)))
    (.seq
     (.region 0 [⟨(some 4), none, (.p (.mv (.c (.bool true)))), false, []⟩] (some ⟨[4], [], false⟩))
     .ret))))
theorem Tryd.run69 {xs : List AV} {r : AV} (hl : xs.length ≤ 26) (h : aw Tryd.prog Tryd.c69 (Pv.Ends [4] r) (entry xs)) : Run Tryd.prog 69 xs r :=
  run_of (fun _ _ => drawOk Tryd.mixed) Tryd.func69 rfl rfl rfl (by kernel_rfl) (by kernel_rfl) hl h
/-! 70 paling/palingref03.Addrs : params [33, 33], results [4], free 0, zeros [(.slice none 0 0), (.slice none 0 0)] -/
def Tryd.c70b0 : AC :=
 (.seq
  (.seq
   (.region 0 [⟨(some 11), none, (.p (.mv (.t 5))), false, []⟩,
     ⟨(some 12), none, (.p (.mv (.t 0))), false, []⟩,
     ⟨(some 13), none, (.p (.len (.t 12))), false, []⟩,
     ⟨(some 14), none, (.p (.bin .lss (.t 11) (.t 13))), false, []⟩] (some ⟨[0, 1, 5, 14], [], false⟩))
   (.cond (.t 14)
    .skip
    (.exit 0)))
  (.seq
   (.block 1
    (.seq
     (.region 9 [⟨(some 17), none, (.p (.mv (.t 0))), false, []⟩,
       ⟨(some 18), none, (.p (.mv (.t 5))), false, []⟩,
       ⟨(some 19), none, (.p (.iaddr 1 (.t 17) (.t 18))), false, []⟩,
       ⟨(some 20), none, (.r (.load 1 false (.t 19))), false, []⟩,
       ⟨(some 21), none, (.p (.mv (.t 1))), false, []⟩,
       ⟨(some 22), none, (.p (.mv (.t 5))), false, []⟩,
       ⟨(some 23), none, (.p (.iaddr 1 (.t 21) (.t 22))), false, []⟩,
       ⟨(some 24), none, (.r (.load 1 false (.t 23))), false, []⟩,
       ⟨(some 25), none, (.p (.bin .neq (.t 20) (.t 24))), false, []⟩] (some ⟨[0, 1, 5, 25], [], true⟩))
     (.cond (.t 25)
      (.seq
       (.region 0 [⟨(some 4), none, (.p (.mv (.c (.bool false)))), false, []⟩] (some ⟨[4], [], false⟩))
       .ret)
      .skip)))
   (.region 0 [⟨(some 15), none, (.p (.mv (.t 5))), false, []⟩,
     ⟨(some 16), none, (.p (.bin .add (.t 15) (.c (.int .i64 1)))), false, []⟩,
     ⟨(some 5), none, (.p (.mv (.t 16))), false, []⟩] (some ⟨[0, 1, 5], [], false⟩))))
def Tryd.c70 : AC :=
 (.seq
  (.region 0 [⟨(some 4), none, (.p (.mv (.c (.bool false)))), false, []⟩] (some ⟨[0, 1], [], false⟩))
  (.seq
   (.seq
    (.region 0 [⟨(some 6), none, (.p (.mv (.t 0))), false, []⟩,
      ⟨(some 7), none, (.p (.len (.t 6))), false, []⟩,
      ⟨(some 8), none, (.p (.mv (.t 1))), false, []⟩,
      ⟨(some 9), none, (.p (.len (.t 8))), false, []⟩,
      ⟨(some 10), none, (.p (.bin .neq (.t 7) (.t 9))), false, []⟩] (some ⟨[0, 1, 10], [], false⟩))
    (.cond (.t 10)
     (.seq
      (.region 0 [⟨(some 4), none, (.p (.mv (.c (.bool false)))), false, []⟩] (some ⟨[4], [], false⟩))
      .ret)
     .skip))
   (.seq
    (.seq
     (.region 0 [⟨(some 5), none, (.p (.mv (.c (.int .i64 0)))), false, []⟩] (some ⟨[0, 1, 5], [], false⟩))
     (.block 0
      (.loop (some ⟨[0, 1, 5], [], true⟩) Tryd.c70b0)))
    (.seq
     (.region 0 [⟨(some 4), none, (.p (.mv (.c (.bool true)))), false, []⟩] (some ⟨[4], [], false⟩))
     .ret))))
theorem Tryd.run70 {xs : List AV} {r : AV} (hl : xs.length ≤ 26) (h : aw Tryd.prog Tryd.c70 (Pv.Ends [4] r) (entry xs)) : Run Tryd.prog 70 xs r :=
  run_of (fun _ _ => drawOk Tryd.mixed) Tryd.func70 rfl rfl rfl (by kernel_rfl) (by kernel_rfl) hl h
/-! 71 internal/stringslite.Cut : params [9, 9], results [9, 9, 4], free 0, zeros [(.string ⟨#[]⟩), (.string ⟨#[]⟩)] -/
def Tryd.c71 : AC :=
 (.seq
  (.region 0 [⟨(some 4), none, (.p (.mv (.c (.str [])))), false, []⟩,
    ⟨(some 5), none, (.p (.mv (.c (.str [])))), false, []⟩,
    ⟨(some 6), none, (.p (.mv (.c (.bool false)))), false, []⟩] (some ⟨[0, 1], [], false⟩))
  (.seq
   (.seq
    (.region 0 [⟨(some 8), none, (.p (.mv (.t 0))), false, []⟩,
      ⟨(some 9), none, (.p (.mv (.t 1))), false, []⟩,
      ⟨(some 10), none, (.call 94 [(.t 8), (.t 9)] false), false, []⟩,
      ⟨(some 7), none, (.p (.mv (.t 10))), false, []⟩] (some ⟨[0, 1, 7], [], false⟩))
    (.seq
     (.region 0 [⟨(some 11), none, (.p (.mv (.t 7))), false, []⟩,
       ⟨(some 12), none, (.p (.bin .geq (.t 11) (.c (.int .i64 0)))), false, []⟩] (some ⟨[0, 1, 7, 12], [], false⟩))
     (.cond (.t 12)
      (.seq
       (.region 12 [⟨(some 13), none, (.p (.mv (.t 0))), false, []⟩,
         ⟨(some 14), none, (.p (.mv (.t 7))), false, []⟩,
         ⟨(some 15), none, (.p (.slices (.t 13) none (some (.t 14)))), false, []⟩,
         ⟨(some 16), none, (.p (.mv (.t 0))), false, []⟩,
         ⟨(some 17), none, (.p (.mv (.t 7))), false, []⟩,
         ⟨(some 18), none, (.p (.mv (.t 1))), false, []⟩,
         ⟨(some 19), none, (.p (.lenS (.t 18))), false, []⟩,
         ⟨(some 20), none, (.p (.bin .add (.t 17) (.t 19))), false, []⟩,
         ⟨(some 21), none, (.p (.slices (.t 16) (some (.t 20)) none)), false, []⟩,
         ⟨(some 4), none, (.p (.mv (.t 15))), false, []⟩,
         ⟨(some 5), none, (.p (.mv (.t 21))), false, []⟩,
         ⟨(some 6), none, (.p (.mv (.c (.bool true)))), false, []⟩] (some ⟨[4, 5, 6], [], true⟩))
       .ret)
      .skip)))
   (.seq
    (.region 0 [⟨(some 22), none, (.p (.mv (.t 0))), false, []⟩,
      ⟨(some 4), none, (.p (.mv (.t 22))), false, []⟩,
      ⟨(some 5), none, (.p (.mv (.c (.str [])))), false, []⟩,
      ⟨(some 6), none, (.p (.mv (.c (.bool false)))), false, []⟩] (some ⟨[4, 5, 6], [], false⟩))
    .ret)))
theorem Tryd.run71 {xs : List AV} {r : AV} (hl : xs.length ≤ 23) (h : aw Tryd.prog Tryd.c71 (Pv.Ends [4, 5, 6] r) (entry xs)) : Run Tryd.prog 71 xs r :=
  run_of (fun _ _ => drawOk Tryd.mixed) Tryd.func71 rfl rfl rfl (by kernel_rfl) (by kernel_rfl) hl h
/-! 74 strings.TrimPrefix : params [9, 9], results [9], free 0, zeros [(.string ⟨#[]⟩), (.string ⟨#[]⟩)] -/
def Tryd.c74 : AC :=
 (.seq
  (.region 0 [⟨(some 4), none, (.p (.mv (.c (.str [])))), false, []⟩] (some ⟨[0, 1], [], false⟩))
  (.seq
   (.region 0 [⟨(some 5), none, (.p (.mv (.t 0))), false, []⟩,
     ⟨(some 6), none, (.p (.mv (.t 1))), false, []⟩,
     ⟨(some 7), none, (.call 97 [(.t 5), (.t 6)] false), false, []⟩,
     ⟨(some 4), none, (.p (.mv (.t 7))), false, []⟩] (some ⟨[4], [], false⟩))
   .ret))
theorem Tryd.run74 {xs : List AV} {r : AV} (hl : xs.length ≤ 8) (h : aw Tryd.prog Tryd.c74 (Pv.Ends [4] r) (entry xs)) : Run Tryd.prog 74 xs r :=
  run_of (fun _ _ => drawOk Tryd.mixed) Tryd.func74 rfl rfl rfl (by kernel_rfl) (by kernel_rfl) hl h
/-! 75 paling/num.Text : params [3], results [9], free 0, zeros [(.int .i64 (0))] -/
def Tryd.c75b0 : AC :=
 (.seq
  (.seq
   (.region 0 [⟨(some 14), none, (.p (.mv (.t 5))), false, []⟩] (some ⟨[0, 3, 4, 14], [], false⟩))
   (.cond (.t 14)
    .skip
    (.exit 0)))
  (.seq
   (.block 1
    (.seq
     (.region 0 [⟨(some 17), none, (.p (.mv (.t 3))), false, []⟩,
       ⟨(some 18), none, (.p (.mv (.t 4))), false, []⟩,
       ⟨(some 19), none, (.p (.bin .rem (.t 18) (.c (.int .u64 10)))), false, []⟩,
       ⟨(some 20), none, (.p (.bin .add (.c (.int .u64 48)) (.t 19))), false, []⟩,
       ⟨(some 21), none, (.p (.convI .u8 (.t 20))), false, []⟩,
       ⟨(some 22), none, (.e (.mks 5 1 (.int .u8 0) 1 [(0, (.t 21))]) none), false, []⟩,
       ⟨(some 23), none, (.e (.append 5 1 140737488355328 (.t 17) (.t 22)) none), false, []⟩,
       ⟨(some 3), none, (.p (.mv (.t 23))), false, []⟩] (some ⟨[0, 3, 4], [], false⟩))
     (.region 0 [⟨(some 24), none, (.p (.mv (.t 4))), false, []⟩,
       ⟨(some 25), none, (.p (.bin .quo (.t 24) (.c (.int .u64 10)))), false, []⟩,
       ⟨(some 4), none, (.p (.mv (.t 25))), false, []⟩] (some ⟨[0, 3, 4], [], false⟩))))
   (.region 0 [⟨(some 15), none, (.p (.mv (.t 4))), false, []⟩,
     ⟨(some 16), none, (.p (.bin .gtr (.t 15) (.c (.int .u64 0)))), false, []⟩,
     ⟨(some 5), none, (.p (.mv (.t 16))), false, []⟩] (some ⟨[0, 3, 4, 5], [], false⟩))))
def Tryd.c75b1 : AC :=
 (.seq
  (.seq
   (.region 0 [⟨(some 34), none, (.p (.mv (.t 6))), false, []⟩,
     ⟨(some 35), none, (.p (.mv (.t 7))), false, []⟩,
     ⟨(some 36), none, (.p (.bin .lss (.t 34) (.t 35))), false, []⟩] (some ⟨[3, 6, 7, 36], [], false⟩))
   (.cond (.t 36)
    .skip
    (.exit 2)))
  (.seq
   (.block 3
    (.region 16 [⟨(some 41), none, (.p (.mv (.t 3))), false, []⟩,
      ⟨(some 42), none, (.p (.mv (.t 6))), false, []⟩,
      ⟨(some 43), none, (.p (.mv (.t 3))), false, []⟩,
      ⟨(some 44), none, (.p (.mv (.t 7))), false, []⟩,
      ⟨(some 45), none, (.p (.mv (.t 3))), false, []⟩,
      ⟨(some 46), none, (.p (.mv (.t 7))), false, []⟩,
      ⟨(some 47), none, (.p (.iaddr 1 (.t 45) (.t 46))), false, []⟩,
      ⟨(some 48), none, (.r (.load 1 false (.t 47))), false, []⟩,
      ⟨(some 49), none, (.p (.mv (.t 3))), false, []⟩,
      ⟨(some 50), none, (.p (.mv (.t 6))), false, []⟩,
      ⟨(some 51), none, (.p (.iaddr 1 (.t 49) (.t 50))), false, []⟩,
      ⟨(some 52), none, (.r (.load 1 false (.t 51))), false, []⟩,
      ⟨(some 53), none, (.p (.iaddr 1 (.t 41) (.t 42))), false, []⟩,
      ⟨none, none, (.e (.store 1 (.t 53) (.t 48)) (some 13)), false, []⟩,
      ⟨(some 54), none, (.p (.iaddr 1 (.t 43) (.t 44))), false, []⟩,
      ⟨none, none, (.e (.store 1 (.t 54) (.t 52)) (some 15)), false, []⟩] (some ⟨[3, 6, 7], [], true⟩)))
   (.region 0 [⟨(some 37), none, (.p (.mv (.t 6))), false, []⟩,
     ⟨(some 38), none, (.p (.bin .add (.t 37) (.c (.int .i64 1)))), false, []⟩,
     ⟨(some 39), none, (.p (.mv (.t 7))), false, []⟩,
     ⟨(some 40), none, (.p (.bin .sub (.t 39) (.c (.int .i64 1)))), false, []⟩,
     ⟨(some 6), none, (.p (.mv (.t 38))), false, []⟩,
     ⟨(some 7), none, (.p (.mv (.t 40))), false, []⟩] (some ⟨[3, 6, 7], [], false⟩))))
def Tryd.c75 : AC :=
 (.seq
  (.region 0 [⟨(some 2), none, (.p (.mv (.c (.str [])))), false, []⟩] (some ⟨[0], [], false⟩))
  (.seq
   (.region 0 [⟨(some 3), none, (.p (.mv (.c (.sl 0 [] true)))), false, []⟩] (some ⟨[0, 3], [], false⟩))
   (.seq
    (.region 0 [⟨(some 8), none, (.p (.mv (.t 0))), false, []⟩,
      ⟨(some 9), none, (.p (.convI .u64 (.t 8))), false, []⟩,
      ⟨(some 4), none, (.p (.mv (.t 9))), false, []⟩] (some ⟨[0, 3, 4], [], false⟩))
    (.seq
     (.seq
      (.region 0 [⟨(some 10), none, (.p (.mv (.t 0))), false, []⟩,
        ⟨(some 11), none, (.p (.bin .lss (.t 10) (.c (.int .i64 0)))), false, []⟩] (some ⟨[0, 3, 4, 11], [], false⟩))
      (.cond (.t 11)
       (.region 0 [⟨(some 12), none, (.p (.mv (.t 4))), false, []⟩,
         ⟨(some 13), none, (.p (.un .neg (.t 12))), false, []⟩,
         ⟨(some 4), none, (.p (.mv (.t 13))), false, []⟩] (some ⟨[0, 3, 4], [], false⟩))
       .skip))
     (.seq
      (.seq
       (.region 0 [⟨(some 5), none, (.p (.mv (.c (.bool true)))), false, []⟩] (some ⟨[0, 3, 4, 5], [], false⟩))
       (.block 0
        (.loop (some ⟨[0, 3, 4, 5], [(3, (1, 5))], true⟩) Tryd.c75b0)))
      (.seq
       (.seq
        (.region 0 [⟨(some 26), none, (.p (.mv (.t 0))), false, []⟩,
          ⟨(some 27), none, (.p (.bin .lss (.t 26) (.c (.int .i64 0)))), false, []⟩] (some ⟨[3, 27], [], false⟩))
        (.cond (.t 27)
         (.region 0 [⟨(some 28), none, (.p (.mv (.t 3))), false, []⟩,
           ⟨(some 29), none, (.e (.mks 5 1 (.int .u8 0) 1 [(0, (.c (.int .u8 45)))]) none), false, []⟩,
           ⟨(some 30), none, (.e (.append 5 1 140737488355328 (.t 28) (.t 29)) none), false, []⟩,
           ⟨(some 3), none, (.p (.mv (.t 30))), false, []⟩] (some ⟨[3], [], false⟩))
         .skip))
       (.seq
        (.seq
         (.region 0 [⟨(some 31), none, (.p (.mv (.t 3))), false, []⟩,
           ⟨(some 32), none, (.p (.len (.t 31))), false, []⟩,
           ⟨(some 33), none, (.p (.bin .sub (.t 32) (.c (.int .i64 1)))), false, []⟩,
           ⟨(some 6), none, (.p (.mv (.c (.int .i64 0)))), false, []⟩,
           ⟨(some 7), none, (.p (.mv (.t 33))), false, []⟩] (some ⟨[3, 6, 7], [], false⟩))
         (.block 2
          (.loop (some ⟨[3, 6, 7], [], true⟩) Tryd.c75b1)))
        (.seq
         (.region 0 [⟨(some 55), none, (.p (.mv (.t 3))), false, []⟩,
           ⟨(some 56), none, (.r (.b2s (.t 55))), false, []⟩,
           ⟨(some 2), none, (.p (.mv (.t 56))), false, []⟩] (some ⟨[2], [], false⟩))
         .ret))))))))
theorem Tryd.run75 {xs : List AV} {r : AV} (hl : xs.length ≤ 57) (h : aw Tryd.prog Tryd.c75 (Pv.Ends [2] r) (entry xs)) : Run Tryd.prog 75 xs r :=
  run_of (fun _ _ => drawOk Tryd.mixed) Tryd.func75 rfl rfl rfl (by kernel_rfl) (by kernel_rfl) hl h
/-! 76 paling/mac.digit : params [5], results [30], free 0, zeros [(.int .u8 (0))] -/
def Tryd.c76 : AC :=
 (.seq
  (.region 0 [⟨(some 2), none, (.p (.mv (.c (.int .u64 0)))), false, []⟩] (some ⟨[0], [], false⟩))
  (.seq
   (.block 0
    (.seq
     (.region 0 [⟨(some 4), none, (.p (.mv (.t 0))), false, []⟩,
       ⟨(some 5), none, (.p (.bin .geq (.t 4) (.c (.int .u8 48)))), false, []⟩,
       ⟨(some 6), none, (.p (.mv (.t 5))), false, []⟩,
       ⟨(some 7), (some (6, true)), (.p (.mv (.t 0))), false, []⟩,
       ⟨(some 8), (some (6, true)), (.p (.bin .leq (.t 7) (.c (.int .u8 57)))), false, []⟩,
       ⟨(some 9), none, (.p (.pick (.t 6) (.t 8) (.c (.bool false)))), false, []⟩,
       ⟨(some 3), none, (.p (.mv (.t 9))), false, []⟩] (some ⟨[0, 3], [], false⟩))
     (.cond (.t 3)
      (.seq
       (.region 0 [⟨(some 10), none, (.p (.mv (.t 0))), false, []⟩,
         ⟨(some 11), none, (.p (.bin .sub (.t 10) (.c (.int .u8 48)))), false, []⟩,
         ⟨(some 12), none, (.p (.convI .u64 (.t 11))), false, []⟩,
         ⟨(some 2), none, (.p (.mv (.t 12))), false, []⟩] (some ⟨[2], [], false⟩))
       .ret)
      (.seq
       (.region 0 [⟨(some 14), none, (.p (.mv (.t 0))), false, []⟩,
         ⟨(some 15), none, (.p (.bin .geq (.t 14) (.c (.int .u8 97)))), false, []⟩,
         ⟨(some 16), none, (.p (.mv (.t 15))), false, []⟩,
         ⟨(some 17), (some (16, true)), (.p (.mv (.t 0))), false, []⟩,
         ⟨(some 18), (some (16, true)), (.p (.bin .leq (.t 17) (.c (.int .u8 102)))), false, []⟩,
         ⟨(some 19), none, (.p (.pick (.t 16) (.t 18) (.c (.bool false)))), false, []⟩,
         ⟨(some 13), none, (.p (.mv (.t 19))), false, []⟩] (some ⟨[0, 13], [], false⟩))
       (.cond (.t 13)
        (.seq
         (.region 0 [⟨(some 20), none, (.p (.mv (.t 0))), false, []⟩,
           ⟨(some 21), none, (.p (.bin .sub (.t 20) (.c (.int .u8 97)))), false, []⟩,
           ⟨(some 22), none, (.p (.convI .u64 (.t 21))), false, []⟩,
           ⟨(some 23), none, (.p (.bin .add (.t 22) (.c (.int .u64 10)))), false, []⟩,
           ⟨(some 2), none, (.p (.mv (.t 23))), false, []⟩] (some ⟨[2], [], false⟩))
         .ret)
        .skip)))))
   (.seq
    (.region 0 [⟨(some 2), none, (.p (.mv (.c (.int .u64 16)))), false, []⟩] (some ⟨[2], [], false⟩))
    .ret)))
theorem Tryd.run76 {xs : List AV} {r : AV} (hl : xs.length ≤ 24) (h : aw Tryd.prog Tryd.c76 (Pv.Ends [2] r) (entry xs)) : Run Tryd.prog 76 xs r :=
  run_of (fun _ _ => drawOk Tryd.mixed) Tryd.func76 rfl rfl rfl (by kernel_rfl) (by kernel_rfl) hl h
/-! 77 paling/mac.IsHost : params [30], results [31, 4], free 0, zeros [(.int .u64 (0))] -/
def Tryd.c77 : AC :=
 (.seq
  (.region 0 [⟨(some 2), none, (.p (.mv (.c (.int .u32 0)))), false, []⟩,
    ⟨(some 3), none, (.p (.mv (.c (.bool false)))), false, []⟩] (some ⟨[0], [], false⟩))
  (.seq
   (.region 0 [⟨(some 4), none, (.p (.mv (.t 0))), false, []⟩,
     ⟨(some 5), none, (.p (.bin .and (.t 4) (.c (.int .u64 281474976710655)))), false, []⟩,
     ⟨(some 0), none, (.p (.mv (.t 5))), false, []⟩] (some ⟨[0], [], false⟩))
   (.seq
    (.seq
     (.region 0 [⟨(some 6), none, (.p (.mv (.t 0))), false, []⟩,
       ⟨(some 7), none, (.p (.bin .shr (.t 6) (.c (.int .u64 32)))), false, []⟩,
       ⟨(some 8), none, (.p (.bin .neq (.t 7) (.c (.int .u64 512)))), false, []⟩] (some ⟨[0, 8], [], false⟩))
     (.cond (.t 8)
      (.seq
       (.region 0 [⟨(some 2), none, (.p (.mv (.c (.int .u32 0)))), false, []⟩,
         ⟨(some 3), none, (.p (.mv (.c (.bool false)))), false, []⟩] (some ⟨[2, 3], [], false⟩))
       .ret)
      .skip))
    (.seq
     (.region 0 [⟨(some 9), none, (.p (.mv (.t 0))), false, []⟩,
       ⟨(some 10), none, (.p (.convI .u32 (.t 9))), false, []⟩,
       ⟨(some 2), none, (.p (.mv (.t 10))), false, []⟩,
       ⟨(some 3), none, (.p (.mv (.c (.bool true)))), false, []⟩] (some ⟨[2, 3], [], false⟩))
     .ret))))
theorem Tryd.run77 {xs : List AV} {r : AV} (hl : xs.length ≤ 11) (h : aw Tryd.prog Tryd.c77 (Pv.Ends [2, 3] r) (entry xs)) : Run Tryd.prog 77 xs r :=
  run_of (fun _ _ => drawOk Tryd.mixed) Tryd.func77 rfl rfl rfl (by kernel_rfl) (by kernel_rfl) hl h
/-! 78 paling/mac.Group : params [30], results [4], free 0, zeros [(.int .u64 (0))] -/
def Tryd.c78 : AC :=
 (.seq
  (.region 0 [⟨(some 2), none, (.p (.mv (.c (.bool false)))), false, []⟩] (some ⟨[0], [], false⟩))
  (.seq
   (.region 0 [⟨(some 3), none, (.p (.mv (.t 0))), false, []⟩,
     ⟨(some 4), none, (.p (.bin .and (.t 3) (.c (.int .u64 1099511627776)))), false, []⟩,
     ⟨(some 5), none, (.p (.bin .neq (.t 4) (.c (.int .u64 0)))), false, []⟩,
     ⟨(some 2), none, (.p (.mv (.t 5))), false, []⟩] (some ⟨[2], [], false⟩))
   .ret))
theorem Tryd.run78 {xs : List AV} {r : AV} (hl : xs.length ≤ 6) (h : aw Tryd.prog Tryd.c78 (Pv.Ends [2] r) (entry xs)) : Run Tryd.prog 78 xs r :=
  run_of (fun _ _ => drawOk Tryd.mixed) Tryd.func78 rfl rfl rfl (by kernel_rfl) (by kernel_rfl) hl h
/-! 79 slices.Contains[[]int,int] : params [32, 3], results [4], free 0, zeros [(.slice none 0 0), (.int .i64 (0))] -/
def Tryd.c79 : AC :=
 (.seq
  (.region 0 [⟨(some 4), none, (.p (.mv (.c (.bool false)))), false, []⟩] (some ⟨[0, 1], [], false⟩))
  (.seq
   (.region 0 [⟨(some 5), none, (.p (.mv (.t 0))), false, []⟩,
     ⟨(some 6), none, (.p (.mv (.t 1))), false, []⟩,
     ⟨(some 7), none, (.call 98 [(.t 5), (.t 6)] false), false, []⟩,
     ⟨(some 8), none, (.p (.bin .geq (.t 7) (.c (.int .i64 0)))), false, []⟩,
     ⟨(some 4), none, (.p (.mv (.t 8))), false, []⟩] (some ⟨[4], [], false⟩))
   .ret))
theorem Tryd.run79 {xs : List AV} {r : AV} (hl : xs.length ≤ 9) (h : aw Tryd.prog Tryd.c79 (Pv.Ends [4] r) (entry xs)) : Run Tryd.prog 79 xs r :=
  run_of (fun _ _ => drawOk Tryd.mixed) Tryd.func79 rfl rfl rfl (by kernel_rfl) (by kernel_rfl) hl h
/-! 81 paling/num.read[int] : params [9, 120], results [32, 4], free 0, zeros [(.string ⟨#[]⟩), .nilFunc] -/
def Tryd.c81b0 : AC :=
 (.seq
  (.seq
   (.region 0 [⟨(some 11), none, (.p (.mv (.t 7))), false, []⟩] (some ⟨[0, 1, 6, 11], [], false⟩))
   (.cond (.t 11)
    .skip
    (.exit 0)))
  (.block 1
   (.seq
    (.region 0 [⟨(some 8), none, (.p (.mv (.c (.str [])))), false, []⟩] (some ⟨[0, 1, 6], [], false⟩))
    (.seq
     (.region 0 [⟨(some 13), none, (.p (.mv (.t 0))), false, []⟩,
       ⟨(some 14), none, (.call 49 [(.t 13), (.c (.str [44]))] false), false, []⟩,
       ⟨(some 12), none, (.p (.mv (.t 14))), false, []⟩,
       ⟨(some 15), none, (.p (.ext (.t 12) 0)), false, []⟩,
       ⟨(some 16), none, (.p (.ext (.t 12) 1)), false, []⟩,
       ⟨(some 17), none, (.p (.ext (.t 12) 2)), false, []⟩,
       ⟨(some 8), none, (.p (.mv (.t 15))), false, []⟩,
       ⟨(some 0), none, (.p (.mv (.t 16))), false, []⟩,
       ⟨(some 7), none, (.p (.mv (.t 17))), false, []⟩] (some ⟨[0, 1, 6, 7, 8], [], false⟩))
     (.seq
      (.region 0 [⟨(some 19), none, (.p (.mv (.t 1))), false, []⟩,
        ⟨(some 20), none, (.p (.mv (.t 8))), false, []⟩,
        ⟨(some 21), none, (.callv (.t 19) [(.t 20)]), false, []⟩,
        ⟨(some 18), none, (.p (.mv (.t 21))), false, []⟩,
        ⟨(some 22), none, (.p (.ext (.t 18) 0)), false, []⟩,
        ⟨(some 23), none, (.p (.ext (.t 18) 1)), false, []⟩,
        ⟨(some 9), none, (.p (.mv (.t 22))), false, []⟩,
        ⟨(some 10), none, (.p (.mv (.t 23))), false, []⟩] (some ⟨[0, 1, 6, 7, 9, 10], [], false⟩))
      (.seq
       (.seq
        (.region 0 [⟨(some 24), none, (.p (.mv (.t 10))), false, []⟩,
          ⟨(some 25), none, (.p (.un .not (.t 24))), false, []⟩,
          ⟨(some 26), none, (.p (.mv (.t 25))), false, []⟩,
          ⟨(some 27), (some (26, false)), (.p (.mv (.t 6))), false, []⟩,
          ⟨(some 28), (some (26, false)), (.p (.len (.t 27))), false, []⟩,
          ⟨(some 29), (some (26, false)), (.p (.bin .eql (.t 28) (.c (.int .i64 16)))), false, []⟩,
          ⟨(some 30), none, (.p (.pick (.t 26) (.c (.bool true)) (.t 29))), false, []⟩,
          ⟨(some 31), none, (.p (.mv (.t 30))), false, []⟩,
          ⟨(some 32), (some (31, false)), (.p (.mv (.t 6))), false, []⟩,
          ⟨(some 33), (some (31, false)), (.p (.len (.t 32))), false, []⟩,
          ⟨(some 34), (some (31, false)), (.p (.bin .gtr (.t 33) (.c (.int .i64 0)))), false, []⟩,
          ⟨(some 35), (some (31, false)), (.p (.mv (.t 34))), false, []⟩,
          ⟨(some 36), (some (35, true)), (.p (.mv (.t 6))), false, []⟩,
          ⟨(some 37), (some (35, true)), (.p (.mv (.t 6))), false, []⟩,
          ⟨(some 38), (some (35, true)), (.p (.len (.t 37))), false, []⟩,
          ⟨(some 39), (some (35, true)), (.p (.bin .sub (.t 38) (.c (.int .i64 1)))), false, []⟩,
          ⟨(some 40), (some (35, true)), (.p (.iaddr 1 (.t 36) (.t 39))), false, []⟩,
          ⟨(some 41), (some (35, true)), (.r (.load 1 false (.t 40))), false, []⟩,
          ⟨(some 42), (some (35, true)), (.p (.mv (.t 9))), false, []⟩,
          ⟨(some 43), (some (35, true)), (.p (.bin .geq (.t 41) (.t 42))), false, []⟩,
          ⟨(some 44), (some (31, false)), (.p (.pick (.t 35) (.t 43) (.c (.bool false)))), false, []⟩,
          ⟨(some 45), none, (.p (.pick (.t 31) (.c (.bool true)) (.t 44))), false, []⟩] (some ⟨[0, 1, 6, 7, 9, 45], [], false⟩))
        (.cond (.t 45)
         (.seq
          (.region 0 [⟨(some 4), none, (.p (.mv (.c (.sl 0 [] true)))), false, []⟩,
            ⟨(some 5), none, (.p (.mv (.c (.bool false)))), false, []⟩] (some ⟨[4, 5], [], false⟩))
          .ret)
         .skip))
       (.region 0 [⟨(some 46), none, (.p (.mv (.t 6))), false, []⟩,
         ⟨(some 47), none, (.p (.mv (.t 9))), false, []⟩,
         ⟨(some 48), none, (.e (.mks 3 1 (.int .i64 0) 1 [(0, (.t 47))]) none), false, []⟩,
         ⟨(some 49), none, (.e (.append 3 1 1000000000 (.t 46) (.t 48)) none), false, []⟩,
         ⟨(some 6), none, (.p (.mv (.t 49))), false, []⟩] (some ⟨[0, 1, 6, 7], [], false⟩))))))))
def Tryd.c81 : AC :=
 (.seq
  (.region 0 [⟨(some 4), none, (.p (.mv (.c (.sl 0 [] true)))), false, []⟩,
    ⟨(some 5), none, (.p (.mv (.c (.bool false)))), false, []⟩] (some ⟨[0, 1], [], false⟩))
  (.seq
   (.region 0 [⟨(some 6), none, (.p (.mv (.c (.sl 0 [] true)))), false, []⟩] (some ⟨[0, 1, 6], [], false⟩))
   (.seq
    (.seq
     (.region 0 [⟨(some 7), none, (.p (.mv (.c (.bool true)))), false, []⟩] (some ⟨[0, 1, 6, 7], [], false⟩))
     (.block 0
      (.loop (some ⟨[0, 1, 6, 7], [(6, (1, 3))], true⟩) Tryd.c81b0)))
    (.seq
     (.region 0 [⟨(some 50), none, (.p (.mv (.t 6))), false, []⟩,
       ⟨(some 4), none, (.p (.mv (.t 50))), false, []⟩,
       ⟨(some 5), none, (.p (.mv (.c (.bool true)))), false, []⟩] (some ⟨[4, 5], [], false⟩))
     .ret))))
theorem Tryd.run81 {xs : List AV} {r : AV} (hl : xs.length ≤ 51) (h : aw Tryd.prog Tryd.c81 (Pv.Ends [4, 5] r) (entry xs)) : Run Tryd.prog 81 xs r :=
  run_of (fun _ _ => drawOk Tryd.mixed) Tryd.func81 rfl rfl rfl (by kernel_rfl) (by kernel_rfl) hl h
/-! 83 paling/addr.Right : params [71], results [4], free 0, zeros [(.agg #[(.int .u32 (0)), (.int .i64 (0))])] -/
def Tryd.c83 : AC :=
 (.seq
  (.region 0 [⟨(some 1), none, (.e (.box 71 (.t 0)) none), false, []⟩,
    ⟨(some 2), none, (.p (.mv (.c (.bool false)))), false, []⟩] (some ⟨[1], [], false⟩))
  (.seq
   (.region 0 [⟨(some 3), none, (.p (.faddr 1 (.t 1))), false, []⟩,
     ⟨(some 4), none, (.r (.load 1 false (.t 3))), false, []⟩,
     ⟨(some 5), none, (.p (.bin .geq (.t 4) (.c (.int .i64 0)))), false, []⟩,
     ⟨(some 6), none, (.p (.mv (.t 5))), false, []⟩,
     ⟨(some 7), (some (6, true)), (.p (.faddr 1 (.t 1))), false, []⟩,
     ⟨(some 8), (some (6, true)), (.r (.load 1 false (.t 7))), false, []⟩,
     ⟨(some 9), (some (6, true)), (.p (.bin .leq (.t 8) (.c (.int .i64 32)))), false, []⟩,
     ⟨(some 10), none, (.p (.pick (.t 6) (.t 9) (.c (.bool false)))), false, []⟩,
     ⟨(some 2), none, (.p (.mv (.t 10))), false, []⟩] (some ⟨[2], [], false⟩))
   .ret))
theorem Tryd.run83 {xs : List AV} {r : AV} (hl : xs.length ≤ 11) (h : aw Tryd.prog Tryd.c83 (Pv.Ends [2] r) (entry xs)) : Run Tryd.prog 83 xs r :=
  run_of (fun _ _ => drawOk Tryd.mixed) Tryd.func83 rfl rfl rfl (by kernel_rfl) (by kernel_rfl) hl h
/-! 84 paling/addr.rest : params [71], results [31], free 0, zeros [(.agg #[(.int .u32 (0)), (.int .i64 (0))])] -/
def Tryd.c84 : AC :=
 (.seq
  (.region 0 [⟨(some 1), none, (.e (.box 71 (.t 0)) none), false, []⟩,
    ⟨(some 2), none, (.p (.mv (.c (.int .u32 0)))), false, []⟩] (some ⟨[1], [], false⟩))
  (.seq
   (.region 0 [⟨(some 3), none, (.p (.faddr 1 (.t 1))), false, []⟩,
     ⟨(some 4), none, (.r (.load 1 false (.t 3))), false, []⟩,
     ⟨(some 5), none, (.p (.bin .sub (.c (.int .i64 32)) (.t 4))), false, []⟩,
     ⟨(some 6), none, (.p (.bin .shl (.c (.int .u32 1)) (.t 5))), false, []⟩,
     ⟨(some 7), none, (.p (.bin .sub (.t 6) (.c (.int .u32 1)))), false, []⟩,
     ⟨(some 2), none, (.p (.mv (.t 7))), false, []⟩] (some ⟨[2], [], false⟩))
   .ret))
theorem Tryd.run84 {xs : List AV} {r : AV} (hl : xs.length ≤ 8) (h : aw Tryd.prog Tryd.c84 (Pv.Ends [2] r) (entry xs)) : Run Tryd.prog 84 xs r :=
  run_of (fun _ _ => drawOk Tryd.mixed) Tryd.func84 rfl rfl rfl (by kernel_rfl) (by kernel_rfl) hl h
/-! 87 paling/mac.Text : params [30], results [9], free 0, zeros [(.int .u64 (0))] -/
def Tryd.c87b0 : AC :=
 (.seq
  (.region 0 [⟨(some 7), none, (.p (.bin .lss (.t 6) (.c (.int .i64 6)))), false, []⟩] (some ⟨[0, 3, 6, 7], [], false⟩))
  (.seq
   (.cond (.t 7)
    .skip
    (.exit 0))
   (.seq
    (.block 1
     (.seq
      (.region 0 [⟨(some 8), none, (.p (.mv (.t 6))), false, []⟩,
        ⟨(some 4), none, (.p (.mv (.t 8))), false, []⟩] (some ⟨[0, 3, 4, 6], [], false⟩))
      (.seq
       (.region 0 [⟨(some 9), none, (.p (.mv (.t 0))), false, []⟩,
         ⟨(some 10), none, (.p (.mv (.t 4))), false, []⟩,
         ⟨(some 11), none, (.call 102 [(.t 10)] false), false, []⟩,
         ⟨(some 12), none, (.p (.bin .shr (.t 9) (.t 11))), false, []⟩,
         ⟨(some 13), none, (.p (.convI .u8 (.t 12))), false, []⟩,
         ⟨(some 5), none, (.p (.mv (.t 13))), false, []⟩] (some ⟨[0, 3, 4, 5, 6], [], false⟩))
       (.seq
        (.seq
         (.region 0 [⟨(some 14), none, (.p (.mv (.t 4))), false, []⟩,
           ⟨(some 15), none, (.p (.bin .gtr (.t 14) (.c (.int .i64 0)))), false, []⟩] (some ⟨[0, 3, 5, 6, 15], [], false⟩))
         (.cond (.t 15)
          (.region 0 [⟨(some 16), none, (.p (.mv (.t 3))), false, []⟩,
            ⟨(some 17), none, (.e (.mks 5 1 (.int .u8 0) 1 [(0, (.c (.int .u8 58)))]) none), false, []⟩,
            ⟨(some 18), none, (.e (.append 5 1 140737488355328 (.t 16) (.t 17)) none), false, []⟩,
            ⟨(some 3), none, (.p (.mv (.t 18))), false, []⟩] (some ⟨[0, 3, 5, 6], [], false⟩))
          .skip))
        (.region 10 [⟨(some 19), none, (.p (.mv (.t 3))), true, []⟩,
          ⟨(some 20), none, (.p (.mv (.t 5))), true, []⟩,
          ⟨(some 21), none, (.p (.bin .shr (.t 20) (.c (.int .u64 4)))), true, []⟩,
          ⟨(some 22), none, (.p (.idxs (.c (.str [48, 49, 50, 51, 52, 53, 54, 55, 56, 57, 97, 98, 99, 100, 101, 102])) (.t 21))), true, []⟩,
          ⟨(some 23), none, (.p (.mv (.t 5))), true, []⟩,
          ⟨(some 24), none, (.p (.bin .and (.t 23) (.c (.int .u8 15)))), true, []⟩,
          ⟨(some 25), none, (.p (.idxs (.c (.str [48, 49, 50, 51, 52, 53, 54, 55, 56, 57, 97, 98, 99, 100, 101, 102])) (.t 24))), true, []⟩,
          ⟨(some 26), none, (.e (.mks 5 1 (.int .u8 0) 2 [(0, (.t 22)), (1, (.t 25))]) (some 7)), true, []⟩,
          ⟨(some 27), none, (.e (.append 5 1 140737488355328 (.t 19) (.t 26)) (some 8)), true, []⟩,
          ⟨(some 3), none, (.p (.mv (.t 27))), true, []⟩] (some ⟨[0, 3, 6], [], true⟩))))))
    (.region 0 [⟨(some 28), none, (.p (.bin .add (.t 6) (.c (.int .i64 1)))), false, []⟩,
      ⟨(some 6), none, (.p (.mv (.t 28))), false, []⟩] (some ⟨[0, 3, 6], [], false⟩)))))
def Tryd.c87 : AC :=
 (.seq
  (.region 0 [⟨(some 2), none, (.p (.mv (.c (.str [])))), false, []⟩] (some ⟨[0], [], false⟩))
  (.seq
   (.region 0 [⟨(some 3), none, (.p (.mv (.c (.sl 0 [] true)))), false, []⟩] (some ⟨[0, 3], [], false⟩))
   (.seq
    (.seq
     (.region 0 [⟨(some 6), none, (.p (.mv (.c (.int .i64 0)))), false, []⟩] (some ⟨[0, 3, 6], [], false⟩))
     (.block 0
      (.loop (some ⟨[0, 3, 6], [(3, (1, 5))], true⟩) Tryd.c87b0)))
    (.seq
     (.region 0 [⟨(some 29), none, (.p (.mv (.t 3))), false, []⟩,
       ⟨(some 30), none, (.r (.b2s (.t 29))), false, []⟩,
       ⟨(some 2), none, (.p (.mv (.t 30))), false, []⟩] (some ⟨[2], [], false⟩))
     .ret))))
theorem Tryd.run87 {xs : List AV} {r : AV} (hl : xs.length ≤ 31) (h : aw Tryd.prog Tryd.c87 (Pv.Ends [2] r) (entry xs)) : Run Tryd.prog 87 xs r :=
  run_of (fun _ _ => drawOk Tryd.mixed) Tryd.func87 rfl rfl rfl (by kernel_rfl) (by kernel_rfl) hl h
end Go.Proofs
