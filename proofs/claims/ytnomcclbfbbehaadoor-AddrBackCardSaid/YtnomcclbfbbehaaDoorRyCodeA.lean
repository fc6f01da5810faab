/- The compiled code of this seat, and the rules that run it. (Printed by a program of ours.) -/
import Derived.Test.YtnomcclbfbbehaaDoorPvM3
import Derived.Test.YtnomcclbfbbehaaDoorProg
namespace Go.Proofs

open Go.Pv
set_option maxHeartbeats 4000000
theorem Tryd.mixed : Tryd.prog.follows .mixedOrders = true := by kernel_rfl
/-! 4 paling/palinglaw02.AddrBack : params [24], results [4], free 0, zeros [(.agg #[(.int .u32 (0)), (.int .i64 (0))])] -/
def Tryd.c4 : AC :=
 (.seq
  (.region 0 [⟨(some 1), none, (.e (.box 24 (.t 0)) none), false, []⟩,
    ⟨(some 2), none, (.p (.mv (.c (.bool false)))), false, []⟩] (some ⟨[1], [], false⟩))
  (.seq
   (.region 0 [⟨(some 8), none, (.p (.faddr 0 (.t 1))), false, []⟩,
     ⟨(some 9), none, (.r (.load 1 false (.t 8))), false, []⟩,
     ⟨(some 10), none, (.call 14 [(.t 9)] false), false, []⟩,
     ⟨(some 11), none, (.call 10 [(.t 10)] false), false, []⟩,
     ⟨(some 7), none, (.p (.mv (.t 11))), false, []⟩,
     ⟨(some 12), none, (.p (.ext (.t 7) 0)), false, []⟩,
     ⟨(some 13), none, (.p (.ext (.t 7) 1)), false, []⟩,
     ⟨(some 3), none, (.p (.mv (.t 12))), false, []⟩,
     ⟨(some 4), none, (.p (.mv (.t 13))), false, []⟩] (some ⟨[1, 3, 4], [], false⟩))
   (.seq
    (.region 0 [⟨(some 15), none, (.r (.load 2 true (.t 1))), false, []⟩,
      ⟨(some 16), none, (.call 16 [(.t 15)] false), false, []⟩,
      ⟨(some 17), none, (.call 12 [(.t 16)] false), false, []⟩,
      ⟨(some 14), none, (.p (.mv (.t 17))), false, []⟩,
      ⟨(some 18), none, (.p (.ext (.t 14) 0)), false, []⟩,
      ⟨(some 19), none, (.p (.ext (.t 14) 1)), false, []⟩,
      ⟨(some 5), none, (.e (.alloc 24 (.agg [(.int .u32 0), (.int .i64 0)])) none), false, []⟩,
      ⟨none, none, (.e (.store 2 (.t 5) (.t 18)) none), false, []⟩,
      ⟨(some 6), none, (.p (.mv (.t 19))), false, []⟩] (some ⟨[1, 3, 4, 5, 6], [], false⟩))
    (.seq
     (.region 0 [⟨(some 20), none, (.call 9 [] false), false, []⟩,
       ⟨(some 21), none, (.p (.mv (.t 20))), false, []⟩,
       ⟨(some 22), (some (21, true)), (.p (.mv (.t 4))), false, []⟩,
       ⟨(some 23), none, (.p (.pick (.t 21) (.t 22) (.c (.bool false)))), false, []⟩,
       ⟨(some 24), none, (.p (.mv (.t 23))), false, []⟩,
       ⟨(some 25), (some (24, true)), (.p (.mv (.t 3))), false, []⟩,
       ⟨(some 26), (some (24, true)), (.p (.faddr 0 (.t 1))), false, []⟩,
       ⟨(some 27), (some (24, true)), (.r (.load 1 false (.t 26))), false, []⟩,
       ⟨(some 28), (some (24, true)), (.p (.bin .eql (.t 25) (.t 27))), false, []⟩,
       ⟨(some 29), none, (.p (.pick (.t 24) (.t 28) (.c (.bool false)))), false, []⟩,
       ⟨(some 30), none, (.p (.mv (.t 29))), false, []⟩,
       ⟨(some 31), (some (30, true)), (.p (.mv (.t 6))), false, []⟩,
       ⟨(some 32), (some (30, true)), (.r (.load 2 true (.t 1))), false, []⟩,
       ⟨(some 33), (some (30, true)), (.call 18 [(.t 32)] false), false, []⟩,
       ⟨(some 34), (some (30, true)), (.p (.binB .eql (.t 31) (.t 33))), false, []⟩,
       ⟨(some 35), none, (.p (.pick (.t 30) (.t 34) (.c (.bool false)))), false, []⟩,
       ⟨(some 36), none, (.p (.mv (.t 35))), false, []⟩,
       ⟨(some 37), (some (36, true)), (.p (.mv (.t 6))), false, []⟩,
       ⟨(some 38), (some (36, true)), (.p (.un .not (.t 37))), false, []⟩,
       ⟨(some 39), (some (36, true)), (.p (.mv (.t 38))), false, []⟩,
       ⟨(some 40), (some (39, false)), (.r (.load 2 true (.t 5))), false, []⟩,
       ⟨(some 41), (some (39, false)), (.r (.load 2 true (.t 1))), false, []⟩,
       ⟨(some 42), (some (39, false)), (.p (.eqS false [0, 0] (.t 40) (.t 41))), false, []⟩,
       ⟨(some 43), (some (36, true)), (.p (.pick (.t 39) (.c (.bool true)) (.t 42))), false, []⟩,
       ⟨(some 44), none, (.p (.pick (.t 36) (.t 43) (.c (.bool false)))), false, []⟩,
       ⟨(some 2), none, (.p (.mv (.t 44))), false, []⟩] (some ⟨[2], [], false⟩))
     .ret))))
theorem Tryd.run4 {xs : List AV} {r : AV} (hl : xs.length ≤ 45) (h : aw Tryd.prog Tryd.c4 (Pv.Ends [2] r) (entry xs)) : Run Tryd.prog 4 xs r :=
  run_of (fun _ _ => drawOk Tryd.mixed) Tryd.func4 rfl rfl rfl (by kernel_rfl) (by kernel_rfl) hl h
/-! 9 paling/palinglaw02.works : params [], results [4], free 0, zeros [] -/
def Tryd.c9 : AC :=
 (.seq
  (.region 0 [⟨(some 0), none, (.p (.mv (.c (.bool false)))), false, []⟩] (some ⟨[], [], false⟩))
  (.seq
   (.region 0 [⟨(some 4), none, (.call 12 [(.c (.str [49, 48, 46, 48, 46, 48, 46, 55, 47, 50, 52]))] false), false, []⟩,
     ⟨(some 3), none, (.p (.mv (.t 4))), false, []⟩,
     ⟨(some 5), none, (.p (.ext (.t 3) 0)), false, []⟩,
     ⟨(some 6), none, (.p (.ext (.t 3) 1)), false, []⟩,
     ⟨(some 1), none, (.e (.alloc 24 (.agg [(.int .u32 0), (.int .i64 0)])) none), false, []⟩,
     ⟨none, none, (.e (.store 2 (.t 1) (.t 5)) none), false, []⟩,
     ⟨(some 2), none, (.p (.mv (.t 6))), false, []⟩] (some ⟨[1, 2], [], false⟩))
   (.seq
    (.region 0 [⟨(some 7), none, (.p (.mv (.t 2))), false, []⟩,
      ⟨(some 8), none, (.p (.mv (.t 7))), false, []⟩,
      ⟨(some 9), (some (8, true)), (.r (.load 2 true (.t 1))), false, []⟩,
      ⟨(some 10), (some (8, true)), (.call 20 [(.t 9)] false), false, []⟩,
      ⟨(some 11), (some (8, true)), (.call 14 [(.t 10)] false), false, []⟩,
      ⟨(some 12), (some (8, true)), (.p (.bin .eql (.t 11) (.c (.str [49, 48, 46, 48, 46, 48, 46, 48])))), false, []⟩,
      ⟨(some 13), none, (.p (.pick (.t 8) (.t 12) (.c (.bool false)))), false, []⟩,
      ⟨(some 14), none, (.p (.mv (.t 13))), false, []⟩,
      ⟨(some 15), (some (14, true)), (.r (.load 2 true (.t 1))), false, []⟩,
      ⟨(some 16), (some (14, true)), (.call 22 [(.t 15)] false), false, []⟩,
      ⟨(some 17), (some (14, true)), (.call 14 [(.t 16)] false), false, []⟩,
      ⟨(some 18), (some (14, true)), (.p (.bin .eql (.t 17) (.c (.str [49, 48, 46, 48, 46, 48, 46, 50, 53, 53])))), false, []⟩,
      ⟨(some 19), none, (.p (.pick (.t 14) (.t 18) (.c (.bool false)))), false, []⟩,
      ⟨(some 20), none, (.p (.mv (.t 19))), false, []⟩,
      ⟨(some 21), (some (20, true)), (.r (.load 2 true (.t 1))), false, []⟩,
      ⟨(some 22), (some (20, true)), (.call 16 [(.t 21)] false), false, []⟩,
      ⟨(some 23), (some (20, true)), (.p (.bin .eql (.t 22) (.c (.str [49, 48, 46, 48, 46, 48, 46, 55, 47, 50, 52])))), false, []⟩,
      ⟨(some 24), none, (.p (.pick (.t 20) (.t 23) (.c (.bool false)))), false, []⟩,
      ⟨(some 0), none, (.p (.mv (.t 24))), false, []⟩] (some ⟨[0], [], false⟩))
    .ret)))
theorem Tryd.run9 {xs : List AV} {r : AV} (hl : xs.length ≤ 25) (h : aw Tryd.prog Tryd.c9 (Pv.Ends [0] r) (entry xs)) : Run Tryd.prog 9 xs r :=
  run_of (fun _ _ => drawOk Tryd.mixed) Tryd.func9 rfl rfl rfl (by kernel_rfl) (by kernel_rfl) hl h
/-! 12 paling/addr.ReadPrefix : params [9], results [24, 4], free 0, zeros [(.string ⟨#[]⟩)] -/
def Tryd.c12 : AC :=
 (.seq
  (.region 0 [⟨(some 2), none, (.e (.alloc 24 (.agg [(.int .u32 0), (.int .i64 0)])) none), false, []⟩,
    ⟨(some 3), none, (.p (.mv (.c (.bool false)))), false, []⟩] (some ⟨[0, 2], [], false⟩))
  (.seq
   (.region 0 [⟨(some 12), none, (.p (.mv (.t 0))), false, []⟩,
     ⟨(some 13), none, (.call 44 [(.t 12), (.c (.str [47]))] false), false, []⟩,
     ⟨(some 11), none, (.p (.mv (.t 13))), false, []⟩,
     ⟨(some 14), none, (.p (.ext (.t 11) 0)), false, []⟩,
     ⟨(some 15), none, (.p (.ext (.t 11) 1)), false, []⟩,
     ⟨(some 16), none, (.p (.ext (.t 11) 2)), false, []⟩,
     ⟨(some 4), none, (.p (.mv (.t 14))), false, []⟩,
     ⟨(some 5), none, (.p (.mv (.t 15))), false, []⟩,
     ⟨(some 6), none, (.p (.mv (.t 16))), false, []⟩] (some ⟨[2, 4, 5, 6], [], false⟩))
   (.seq
    (.region 0 [⟨(some 18), none, (.p (.mv (.t 4))), false, []⟩,
      ⟨(some 19), none, (.call 10 [(.t 18)] false), false, []⟩,
      ⟨(some 17), none, (.p (.mv (.t 19))), false, []⟩,
      ⟨(some 20), none, (.p (.ext (.t 17) 0)), false, []⟩,
      ⟨(some 21), none, (.p (.ext (.t 17) 1)), false, []⟩,
      ⟨(some 7), none, (.p (.mv (.t 20))), false, []⟩,
      ⟨(some 8), none, (.p (.mv (.t 21))), false, []⟩] (some ⟨[2, 5, 6, 7, 8], [], false⟩))
    (.seq
     (.region 0 [⟨(some 23), none, (.p (.mv (.t 5))), false, []⟩,
       ⟨(some 24), none, (.call 42 [(.t 23), (.c (.int .i64 32))] false), false, []⟩,
       ⟨(some 22), none, (.p (.mv (.t 24))), false, []⟩,
       ⟨(some 25), none, (.p (.ext (.t 22) 0)), false, []⟩,
       ⟨(some 26), none, (.p (.ext (.t 22) 1)), false, []⟩,
       ⟨(some 9), none, (.p (.mv (.t 25))), false, []⟩,
       ⟨(some 10), none, (.p (.mv (.t 26))), false, []⟩] (some ⟨[2, 6, 7, 8, 9, 10], [], false⟩))
     (.seq
      (.seq
       (.region 0 [⟨(some 27), none, (.p (.mv (.t 6))), false, []⟩,
         ⟨(some 28), none, (.p (.un .not (.t 27))), false, []⟩,
         ⟨(some 29), none, (.p (.mv (.t 28))), false, []⟩,
         ⟨(some 30), (some (29, false)), (.p (.mv (.t 8))), false, []⟩,
         ⟨(some 31), (some (29, false)), (.p (.un .not (.t 30))), false, []⟩,
         ⟨(some 32), none, (.p (.pick (.t 29) (.c (.bool true)) (.t 31))), false, []⟩,
         ⟨(some 33), none, (.p (.mv (.t 32))), false, []⟩,
         ⟨(some 34), (some (33, false)), (.p (.mv (.t 10))), false, []⟩,
         ⟨(some 35), (some (33, false)), (.p (.un .not (.t 34))), false, []⟩,
         ⟨(some 36), none, (.p (.pick (.t 33) (.c (.bool true)) (.t 35))), false, []⟩] (some ⟨[2, 7, 9, 36], [], false⟩))
       (.cond (.t 36)
        (.seq
         (.region 0 [⟨(some 37), none, (.p (.build [(.int .u32 0), (.int .i64 0)] [])), false, []⟩,
           ⟨none, none, (.e (.store 2 (.t 2) (.t 37)) none), false, []⟩,
           ⟨(some 3), none, (.p (.mv (.c (.bool false)))), false, []⟩] (some ⟨[2, 3], [], false⟩))
         .ret)
        .skip))
      (.seq
       (.region 0 [⟨(some 38), none, (.p (.mv (.t 7))), false, []⟩,
         ⟨(some 39), none, (.p (.mv (.t 9))), false, []⟩,
         ⟨(some 40), none, (.p (.build [(.int .u32 0), (.int .i64 0)] [(0, 1, (.t 38)), (1, 1, (.t 39))])), false, []⟩,
         ⟨none, none, (.e (.store 2 (.t 2) (.t 40)) none), false, []⟩,
         ⟨(some 3), none, (.p (.mv (.c (.bool true)))), false, []⟩] (some ⟨[2, 3], [], false⟩))
       .ret))))))
theorem Tryd.run12 {xs : List AV} {r : AV} (hl : xs.length ≤ 41) (h : aw Tryd.prog Tryd.c12 (Pv.EndsX (rvs [.c 2 2 true, .t 3]) r) (entry xs)) : Run Tryd.prog 12 xs r :=
  run_ofC (fun _ _ => drawOk Tryd.mixed) Tryd.func12 rfl rfl (by kernel_rfl) (by kernel_rfl) (by kernel_rfl) hl h
/-! 14 paling/addr.Text : params [22], results [9], free 0, zeros [(.int .u32 (0))] -/
def Tryd.c14b0 : AC :=
 (.seq
  (.region 0 [⟨(some 6), none, (.p (.bin .lss (.t 5) (.c (.int .i64 4)))), false, []⟩] (some ⟨[0, 3, 5, 6], [], false⟩))
  (.seq
   (.cond (.t 6)
    .skip
    (.exit 0))
   (.seq
    (.block 1
     (.seq
      (.region 0 [⟨(some 7), none, (.p (.mv (.t 5))), false, []⟩,
        ⟨(some 4), none, (.p (.mv (.t 7))), false, []⟩] (some ⟨[0, 3, 4, 5], [], false⟩))
      (.seq
       (.seq
        (.region 0 [⟨(some 8), none, (.p (.mv (.t 4))), false, []⟩,
          ⟨(some 9), none, (.p (.bin .gtr (.t 8) (.c (.int .i64 0)))), false, []⟩] (some ⟨[0, 3, 4, 5, 9], [], false⟩))
        (.cond (.t 9)
         (.region 0 [⟨(some 10), none, (.p (.mv (.t 3))), false, []⟩,
           ⟨(some 11), none, (.e (.mks 5 1 (.int .u8 0) 1 [(0, (.c (.int .u8 46)))]) none), false, []⟩,
           ⟨(some 12), none, (.e (.append 5 1 140737488355328 (.t 10) (.t 11)) none), false, []⟩,
           ⟨(some 3), none, (.p (.mv (.t 12))), false, []⟩] (some ⟨[0, 3, 4, 5], [], false⟩))
         .skip))
       (.region 0 [⟨(some 13), none, (.p (.mv (.t 3))), false, []⟩,
         ⟨(some 14), none, (.p (.mv (.t 0))), false, []⟩,
         ⟨(some 15), none, (.p (.mv (.t 4))), false, []⟩,
         ⟨(some 16), none, (.p (.bin .sub (.c (.int .i64 3)) (.t 15))), false, []⟩,
         ⟨(some 17), none, (.p (.bin .mul (.c (.int .i64 8)) (.t 16))), false, []⟩,
         ⟨(some 18), none, (.p (.bin .shr (.t 14) (.t 17))), false, []⟩,
         ⟨(some 19), none, (.p (.convI .u8 (.t 18))), false, []⟩,
         ⟨(some 20), none, (.p (.convI .i64 (.t 19))), false, []⟩,
         ⟨(some 21), none, (.call 45 [(.t 13), (.t 20)] false), false, []⟩,
         ⟨(some 3), none, (.p (.mv (.t 21))), false, []⟩] (some ⟨[0, 3, 5], [], false⟩)))))
    (.region 0 [⟨(some 22), none, (.p (.bin .add (.t 5) (.c (.int .i64 1)))), false, []⟩,
      ⟨(some 5), none, (.p (.mv (.t 22))), false, []⟩] (some ⟨[0, 3, 5], [], false⟩)))))
def Tryd.c14 : AC :=
 (.seq
  (.region 0 [⟨(some 2), none, (.p (.mv (.c (.str [])))), false, []⟩] (some ⟨[0], [], false⟩))
  (.seq
   (.region 0 [⟨(some 3), none, (.p (.mv (.c (.sl 0 [] true)))), false, []⟩] (some ⟨[0, 3], [], false⟩))
   (.seq
    (.seq
     (.region 0 [⟨(some 5), none, (.p (.mv (.c (.int .i64 0)))), false, []⟩] (some ⟨[0, 3, 5], [], false⟩))
     (.block 0
      (.loop (some ⟨[0, 3, 5], [(3, (1, 5))], true⟩) Tryd.c14b0)))
    (.seq
     (.region 0 [⟨(some 23), none, (.p (.mv (.t 3))), false, []⟩,
       ⟨(some 24), none, (.r (.b2s (.t 23))), false, []⟩,
       ⟨(some 2), none, (.p (.mv (.t 24))), false, []⟩] (some ⟨[2], [], false⟩))
     .ret))))
theorem Tryd.run14 {xs : List AV} {r : AV} (hl : xs.length ≤ 25) (h : aw Tryd.prog Tryd.c14 (Pv.Ends [2] r) (entry xs)) : Run Tryd.prog 14 xs r :=
  run_of (fun _ _ => drawOk Tryd.mixed) Tryd.func14 rfl rfl rfl (by kernel_rfl) (by kernel_rfl) hl h
/-! 16 paling/addr.PrefixText : params [24], results [9], free 0, zeros [(.agg #[(.int .u32 (0)), (.int .i64 (0))])] -/
def Tryd.c16 : AC :=
 (.seq
  (.region 0 [⟨(some 1), none, (.e (.box 24 (.t 0)) none), false, []⟩,
    ⟨(some 2), none, (.p (.mv (.c (.str [])))), false, []⟩] (some ⟨[1], [], false⟩))
  (.seq
   (.seq
    (.region 0 [⟨(some 3), none, (.r (.load 2 true (.t 1))), false, []⟩,
      ⟨(some 4), none, (.call 18 [(.t 3)] false), false, []⟩,
      ⟨(some 5), none, (.p (.un .not (.t 4))), false, []⟩] (some ⟨[1, 5], [], false⟩))
    (.cond (.t 5)
     (.seq
      (.region 0 [⟨(some 2), none, (.p (.mv (.c (.str [])))), false, []⟩] (some ⟨[2], [], false⟩))
      .ret)
     .skip))
   (.seq
    (.region 10 [⟨(some 6), none, (.p (.faddr 0 (.t 1))), true, []⟩,
      ⟨(some 7), none, (.r (.load 1 false (.t 6))), true, []⟩,
      ⟨(some 11), none, (.p (.faddr 1 (.t 1))), true, []⟩,
      ⟨(some 12), none, (.r (.load 1 false (.t 11))), true, []⟩,
      ⟨(some 8), none, (.call 14 [(.t 7)] true), true, []⟩,
      ⟨(some 9), none, (.p (.bin .add (.t 8) (.c (.str [47])))), true, []⟩,
      ⟨(some 10), none, (.e (.s2b 5 (.t 9)) (some 4)), true, []⟩,
      ⟨(some 13), none, (.call 45 [(.t 10), (.t 12)] true), true, [5]⟩,
      ⟨(some 14), none, (.r (.b2s (.t 13))), true, []⟩,
      ⟨(some 2), none, (.p (.mv (.t 14))), true, []⟩] (some ⟨[2], [], true⟩))
    .ret)))
theorem Tryd.run16 {xs : List AV} {r : AV} (hl : xs.length ≤ 15) (h : aw Tryd.prog Tryd.c16 (Pv.Ends [2] r) (entry xs)) : Run Tryd.prog 16 xs r :=
  run_of (fun _ _ => drawOk Tryd.mixed) Tryd.func16 rfl rfl rfl (by kernel_rfl) (by kernel_rfl) hl h
/-! 18 paling/addr.Right : params [24], results [4], free 0, zeros [(.agg #[(.int .u32 (0)), (.int .i64 (0))])] -/
def Tryd.c18 : AC :=
 (.seq
  (.region 0 [⟨(some 1), none, (.e (.box 24 (.t 0)) none), false, []⟩,
    ⟨(some 2), none, (.p (.mv (.c (.bool false)))), false, []⟩] (some ⟨[1], [], false⟩))
  (.seq
   (.region 0 [⟨(some 3), none, (.p (.faddr 1 (.t 1))), false, []⟩,
     ⟨(some 4), none, (.r (.load 1 false (.t 3))), false, []⟩,
     ⟨(some 5), none, (.p (.bin .geq (.t 4) (.c (.int .i64 0)))), false, []⟩,
     ⟨(some 6), none, (.p (.mv (.t 5))), false, []⟩,
     ⟨(some 7), (some (6, true)), (.p (.faddr 1 (.t 1))), false, []⟩,
     ⟨(some 8), (some (6, true)), (.r (.load 1 false (.t 7))), false, []⟩,
     ⟨(some 9), (some (6, true)), (.p (.bin .leq (.t 8) (.c (.int .i64 32)))), false, []⟩,
     ⟨(some 10), none, (.p (.pick (.t 6) (.t 9) (.c (.bool false)))), false, []⟩,
     ⟨(some 2), none, (.p (.mv (.t 10))), false, []⟩] (some ⟨[2], [], false⟩))
   .ret))
theorem Tryd.run18 {xs : List AV} {r : AV} (hl : xs.length ≤ 11) (h : aw Tryd.prog Tryd.c18 (Pv.Ends [2] r) (entry xs)) : Run Tryd.prog 18 xs r :=
  run_of (fun _ _ => drawOk Tryd.mixed) Tryd.func18 rfl rfl rfl (by kernel_rfl) (by kernel_rfl) hl h
/-! 20 paling/addr.First : params [24], results [22], free 0, zeros [(.agg #[(.int .u32 (0)), (.int .i64 (0))])] -/
def Tryd.c20 : AC :=
 (.seq
  (.region 0 [⟨(some 1), none, (.e (.box 24 (.t 0)) none), false, []⟩,
    ⟨(some 2), none, (.p (.mv (.c (.int .u32 0)))), false, []⟩] (some ⟨[1], [], false⟩))
  (.seq
   (.seq
    (.region 0 [⟨(some 3), none, (.r (.load 2 true (.t 1))), false, []⟩,
      ⟨(some 4), none, (.call 18 [(.t 3)] false), false, []⟩,
      ⟨(some 5), none, (.p (.un .not (.t 4))), false, []⟩] (some ⟨[1, 5], [], false⟩))
    (.cond (.t 5)
     (.seq
      (.region 0 [⟨(some 2), none, (.p (.mv (.c (.int .u32 0)))), false, []⟩] (some ⟨[2], [], false⟩))
      .ret)
     .skip))
   (.seq
    (.region 6 [⟨(some 6), none, (.p (.faddr 0 (.t 1))), false, []⟩,
      ⟨(some 7), none, (.r (.load 1 false (.t 6))), false, []⟩,
      ⟨(some 8), none, (.r (.load 2 true (.t 1))), false, []⟩,
      ⟨(some 9), none, (.call 47 [(.t 8)] true), false, []⟩,
      ⟨(some 10), none, (.p (.bin .andNot (.t 7) (.t 9))), false, []⟩,
      ⟨(some 2), none, (.p (.mv (.t 10))), false, []⟩] (some ⟨[2], [], true⟩))
    .ret)))
theorem Tryd.run20 {xs : List AV} {r : AV} (hl : xs.length ≤ 11) (h : aw Tryd.prog Tryd.c20 (Pv.Ends [2] r) (entry xs)) : Run Tryd.prog 20 xs r :=
  run_of (fun _ _ => drawOk Tryd.mixed) Tryd.func20 rfl rfl rfl (by kernel_rfl) (by kernel_rfl) hl h
/-! 22 paling/addr.Last : params [24], results [22], free 0, zeros [(.agg #[(.int .u32 (0)), (.int .i64 (0))])] -/
def Tryd.c22 : AC :=
 (.seq
  (.region 0 [⟨(some 1), none, (.e (.box 24 (.t 0)) none), false, []⟩,
    ⟨(some 2), none, (.p (.mv (.c (.int .u32 0)))), false, []⟩] (some ⟨[1], [], false⟩))
  (.seq
   (.seq
    (.region 0 [⟨(some 3), none, (.r (.load 2 true (.t 1))), false, []⟩,
      ⟨(some 4), none, (.call 18 [(.t 3)] false), false, []⟩,
      ⟨(some 5), none, (.p (.un .not (.t 4))), false, []⟩] (some ⟨[1, 5], [], false⟩))
    (.cond (.t 5)
     (.seq
      (.region 0 [⟨(some 2), none, (.p (.mv (.c (.int .u32 0)))), false, []⟩] (some ⟨[2], [], false⟩))
      .ret)
     .skip))
   (.seq
    (.region 6 [⟨(some 6), none, (.p (.faddr 0 (.t 1))), false, []⟩,
      ⟨(some 7), none, (.r (.load 1 false (.t 6))), false, []⟩,
      ⟨(some 8), none, (.r (.load 2 true (.t 1))), false, []⟩,
      ⟨(some 9), none, (.call 47 [(.t 8)] true), false, []⟩,
      ⟨(some 10), none, (.p (.bin .or (.t 7) (.t 9))), false, []⟩,
      ⟨(some 2), none, (.p (.mv (.t 10))), false, []⟩] (some ⟨[2], [], true⟩))
    .ret)))
theorem Tryd.run22 {xs : List AV} {r : AV} (hl : xs.length ≤ 11) (h : aw Tryd.prog Tryd.c22 (Pv.Ends [2] r) (entry xs)) : Run Tryd.prog 22 xs r :=
  run_of (fun _ _ => drawOk Tryd.mixed) Tryd.func22 rfl rfl rfl (by kernel_rfl) (by kernel_rfl) hl h
/-! 42 paling/addr.small : params [9, 3], results [3, 4], free 0, zeros [(.string ⟨#[]⟩), (.int .i64 (0))] -/
def Tryd.c42b0 : AC :=
 (.seq
  (.region 0 [⟨(some 29), none, (.p (.bin .lss (.t 28) (.t 27))), false, []⟩] (some ⟨[0, 1, 6, 27, 28, 29], [], false⟩))
  (.seq
   (.cond (.t 29)
    .skip
    (.exit 0))
   (.seq
    (.block 1
     (.seq
      (.region 0 [⟨(some 30), none, (.p (.mv (.t 28))), false, []⟩,
        ⟨(some 7), none, (.p (.mv (.t 30))), false, []⟩] (some ⟨[0, 1, 6, 7, 27, 28], [], false⟩))
      (.seq
       (.seq
        (.region 0 [⟨(some 31), none, (.p (.mv (.t 0))), false, []⟩,
          ⟨(some 32), none, (.p (.mv (.t 7))), false, []⟩,
          ⟨(some 33), none, (.p (.idxs (.t 31) (.t 32))), false, []⟩,
          ⟨(some 34), none, (.p (.bin .lss (.t 33) (.c (.int .u8 48)))), false, []⟩,
          ⟨(some 35), none, (.p (.mv (.t 34))), false, []⟩,
          ⟨(some 36), (some (35, false)), (.p (.mv (.t 0))), false, []⟩,
          ⟨(some 37), (some (35, false)), (.p (.mv (.t 7))), false, []⟩,
          ⟨(some 38), (some (35, false)), (.p (.idxs (.t 36) (.t 37))), false, []⟩,
          ⟨(some 39), (some (35, false)), (.p (.bin .gtr (.t 38) (.c (.int .u8 57)))), false, []⟩,
          ⟨(some 40), none, (.p (.pick (.t 35) (.c (.bool true)) (.t 39))), false, []⟩] (some ⟨[0, 1, 6, 7, 27, 28, 40], [], false⟩))
        (.cond (.t 40)
         (.seq
          (.region 0 [⟨(some 4), none, (.p (.mv (.c (.int .i64 0)))), false, []⟩,
            ⟨(some 5), none, (.p (.mv (.c (.bool false)))), false, []⟩] (some ⟨[4, 5], [], false⟩))
          .ret)
         .skip))
       (.region 0 [⟨(some 41), none, (.p (.mv (.t 6))), false, []⟩,
         ⟨(some 42), none, (.p (.bin .mul (.c (.int .i64 10)) (.t 41))), false, []⟩,
         ⟨(some 43), none, (.p (.mv (.t 0))), false, []⟩,
         ⟨(some 44), none, (.p (.mv (.t 7))), false, []⟩,
         ⟨(some 45), none, (.p (.idxs (.t 43) (.t 44))), false, []⟩,
         ⟨(some 46), none, (.p (.bin .sub (.t 45) (.c (.int .u8 48)))), false, []⟩,
         ⟨(some 47), none, (.p (.convI .i64 (.t 46))), false, []⟩,
         ⟨(some 48), none, (.p (.bin .add (.t 42) (.t 47))), false, []⟩,
         ⟨(some 6), none, (.p (.mv (.t 48))), false, []⟩] (some ⟨[0, 1, 6, 27, 28], [], false⟩)))))
    (.region 0 [⟨(some 49), none, (.p (.bin .add (.t 28) (.c (.int .i64 1)))), false, []⟩,
      ⟨(some 28), none, (.p (.mv (.t 49))), false, []⟩] (some ⟨[0, 1, 6, 27, 28], [], false⟩)))))
def Tryd.c42 : AC :=
 (.seq
  (.region 0 [⟨(some 4), none, (.p (.mv (.c (.int .i64 0)))), false, []⟩,
    ⟨(some 5), none, (.p (.mv (.c (.bool false)))), false, []⟩] (some ⟨[0, 1], [], false⟩))
  (.seq
   (.seq
    (.region 0 [⟨(some 8), none, (.p (.mv (.t 0))), false, []⟩,
      ⟨(some 9), none, (.p (.lenS (.t 8))), false, []⟩,
      ⟨(some 10), none, (.p (.bin .eql (.t 9) (.c (.int .i64 0)))), false, []⟩,
      ⟨(some 11), none, (.p (.mv (.t 10))), false, []⟩,
      ⟨(some 12), (some (11, false)), (.p (.mv (.t 0))), false, []⟩,
      ⟨(some 13), (some (11, false)), (.p (.lenS (.t 12))), false, []⟩,
      ⟨(some 14), (some (11, false)), (.p (.bin .gtr (.t 13) (.c (.int .i64 3)))), false, []⟩,
      ⟨(some 15), none, (.p (.pick (.t 11) (.c (.bool true)) (.t 14))), false, []⟩,
      ⟨(some 16), none, (.p (.mv (.t 15))), false, []⟩,
      ⟨(some 17), (some (16, false)), (.p (.mv (.t 0))), false, []⟩,
      ⟨(some 18), (some (16, false)), (.p (.lenS (.t 17))), false, []⟩,
      ⟨(some 19), (some (16, false)), (.p (.bin .gtr (.t 18) (.c (.int .i64 1)))), false, []⟩,
      ⟨(some 20), (some (16, false)), (.p (.mv (.t 19))), false, []⟩,
      ⟨(some 21), (some (20, true)), (.p (.mv (.t 0))), false, []⟩,
      ⟨(some 22), (some (20, true)), (.p (.idxs (.t 21) (.c (.int .i64 0)))), false, []⟩,
      ⟨(some 23), (some (20, true)), (.p (.bin .eql (.t 22) (.c (.int .u8 48)))), false, []⟩,
      ⟨(some 24), (some (16, false)), (.p (.pick (.t 20) (.t 23) (.c (.bool false)))), false, []⟩,
      ⟨(some 25), none, (.p (.pick (.t 16) (.c (.bool true)) (.t 24))), false, []⟩] (some ⟨[0, 1, 25], [], false⟩))
    (.cond (.t 25)
     (.seq
      (.region 0 [⟨(some 4), none, (.p (.mv (.c (.int .i64 0)))), false, []⟩,
        ⟨(some 5), none, (.p (.mv (.c (.bool false)))), false, []⟩] (some ⟨[4, 5], [], false⟩))
      .ret)
     .skip))
   (.seq
    (.region 0 [⟨(some 6), none, (.p (.mv (.c (.int .i64 0)))), false, []⟩] (some ⟨[0, 1, 6], [], false⟩))
    (.seq
     (.seq
      (.region 0 [⟨(some 26), none, (.p (.mv (.t 0))), false, []⟩,
        ⟨(some 27), none, (.p (.lenS (.t 26))), false, []⟩,
        ⟨(some 28), none, (.p (.mv (.c (.int .i64 0)))), false, []⟩] (some ⟨[0, 1, 6, 27, 28], [], false⟩))
      (.block 0
       (.loop (some ⟨[0, 1, 6, 27, 28], [], true⟩) Tryd.c42b0)))
     (.seq
      (.region 0 [⟨(some 50), none, (.p (.mv (.t 6))), false, []⟩,
        ⟨(some 51), none, (.p (.mv (.t 6))), false, []⟩,
        ⟨(some 52), none, (.p (.mv (.t 1))), false, []⟩,
        ⟨(some 53), none, (.p (.bin .leq (.t 51) (.t 52))), false, []⟩,
        ⟨(some 4), none, (.p (.mv (.t 50))), false, []⟩,
        ⟨(some 5), none, (.p (.mv (.t 53))), false, []⟩] (some ⟨[4, 5], [], false⟩))
      .ret)))))
theorem Tryd.run42 {xs : List AV} {r : AV} (hl : xs.length ≤ 54) (h : aw Tryd.prog Tryd.c42 (Pv.Ends [4, 5] r) (entry xs)) : Run Tryd.prog 42 xs r :=
  run_of (fun _ _ => drawOk Tryd.mixed) Tryd.func42 rfl rfl rfl (by kernel_rfl) (by kernel_rfl) hl h
/-! 44 strings.Cut : params [9, 9], results [9, 9, 4], free 0, zeros [(.string ⟨#[]⟩), (.string ⟨#[]⟩)] -/
def Tryd.c44 : AC :=
 (.seq
  (.region 0 [⟨(some 4), none, (.p (.mv (.c (.str [])))), false, []⟩,
    ⟨(some 5), none, (.p (.mv (.c (.str [])))), false, []⟩,
    ⟨(some 6), none, (.p (.mv (.c (.bool false)))), false, []⟩] (some ⟨[0, 1], [], false⟩))
  (.seq
   (.region 0 [⟨(some 7), none, (.p (.mv (.t 0))), false, []⟩,
     ⟨(some 8), none, (.p (.mv (.t 1))), false, []⟩,
     ⟨(some 9), none, (.call 61 [(.t 7), (.t 8)] false), false, []⟩,
     ⟨(some 10), none, (.p (.ext (.t 9) 0)), false, []⟩,
     ⟨(some 11), none, (.p (.ext (.t 9) 1)), false, []⟩,
     ⟨(some 12), none, (.p (.ext (.t 9) 2)), false, []⟩,
     ⟨(some 4), none, (.p (.mv (.t 10))), false, []⟩,
     ⟨(some 5), none, (.p (.mv (.t 11))), false, []⟩,
     ⟨(some 6), none, (.p (.mv (.t 12))), false, []⟩] (some ⟨[4, 5, 6], [], false⟩))
   .ret))
theorem Tryd.run44 {xs : List AV} {r : AV} (hl : xs.length ≤ 13) (h : aw Tryd.prog Tryd.c44 (Pv.Ends [4, 5, 6] r) (entry xs)) : Run Tryd.prog 44 xs r :=
  run_of (fun _ _ => drawOk Tryd.mixed) Tryd.func44 rfl rfl rfl (by kernel_rfl) (by kernel_rfl) hl h
/-! 45 paling/addr.put : params [61, 3], results [61], free 0, zeros [(.slice none 0 0), (.int .i64 (0))] -/
def Tryd.c45 : AC :=
 (.seq
  (.region 0 [⟨(some 4), none, (.p (.mv (.c (.sl 0 [] true)))), false, []⟩] (some ⟨[0, 1], [], false⟩))
  (.seq
   (.seq
    (.region 0 [⟨(some 5), none, (.p (.mv (.t 1))), false, []⟩,
      ⟨(some 6), none, (.p (.bin .geq (.t 5) (.c (.int .i64 10)))), false, []⟩] (some ⟨[0, 1, 6], [], false⟩))
    (.cond (.t 6)
     (.region 0 [⟨(some 7), none, (.p (.mv (.t 0))), false, []⟩,
       ⟨(some 8), none, (.p (.mv (.t 1))), false, []⟩,
       ⟨(some 9), none, (.p (.bin .quo (.t 8) (.c (.int .i64 10)))), false, []⟩,
       ⟨(some 10), none, (.call 45 [(.t 7), (.t 9)] false), false, []⟩,
       ⟨(some 0), none, (.p (.mv (.t 10))), false, []⟩] (some ⟨[0, 1], [], false⟩))
     .skip))
   (.seq
    (.region 0 [⟨(some 11), none, (.p (.mv (.t 0))), false, []⟩,
      ⟨(some 12), none, (.p (.mv (.t 1))), false, []⟩,
      ⟨(some 13), none, (.p (.bin .rem (.t 12) (.c (.int .i64 10)))), false, []⟩,
      ⟨(some 14), none, (.p (.bin .add (.c (.int .i64 48)) (.t 13))), false, []⟩,
      ⟨(some 15), none, (.p (.convI .u8 (.t 14))), false, []⟩,
      ⟨(some 16), none, (.e (.mks 5 1 (.int .u8 0) 1 [(0, (.t 15))]) none), false, []⟩,
      ⟨(some 17), none, (.e (.append 5 1 140737488355328 (.t 11) (.t 16)) none), false, []⟩,
      ⟨(some 4), none, (.p (.mv (.t 17))), false, []⟩] (some ⟨[4], [], false⟩))
    .ret)))
theorem Tryd.run45 {xs : List AV} {r : AV} (hl : xs.length ≤ 18) (h : aw Tryd.prog Tryd.c45 (Pv.Ends [4] r) (entry xs)) : Run Tryd.prog 45 xs r :=
  run_of (fun _ _ => drawOk Tryd.mixed) Tryd.func45 rfl rfl rfl (by kernel_rfl) (by kernel_rfl) hl h
/-! 47 paling/addr.rest : params [24], results [22], free 0, zeros [(.agg #[(.int .u32 (0)), (.int .i64 (0))])] -/
def Tryd.c47 : AC :=
 (.seq
  (.region 0 [⟨(some 1), none, (.e (.box 24 (.t 0)) none), false, []⟩,
    ⟨(some 2), none, (.p (.mv (.c (.int .u32 0)))), false, []⟩] (some ⟨[1], [], false⟩))
  (.seq
   (.region 0 [⟨(some 3), none, (.p (.faddr 1 (.t 1))), false, []⟩,
     ⟨(some 4), none, (.r (.load 1 false (.t 3))), false, []⟩,
     ⟨(some 5), none, (.p (.bin .sub (.c (.int .i64 32)) (.t 4))), false, []⟩,
     ⟨(some 6), none, (.p (.bin .shl (.c (.int .u32 1)) (.t 5))), false, []⟩,
     ⟨(some 7), none, (.p (.bin .sub (.t 6) (.c (.int .u32 1)))), false, []⟩,
     ⟨(some 2), none, (.p (.mv (.t 7))), false, []⟩] (some ⟨[2], [], false⟩))
   .ret))
theorem Tryd.run47 {xs : List AV} {r : AV} (hl : xs.length ≤ 8) (h : aw Tryd.prog Tryd.c47 (Pv.Ends [2] r) (entry xs)) : Run Tryd.prog 47 xs r :=
  run_of (fun _ _ => drawOk Tryd.mixed) Tryd.func47 rfl rfl rfl (by kernel_rfl) (by kernel_rfl) hl h
/-! 61 internal/stringslite.Cut : params [9, 9], results [9, 9, 4], free 0, zeros [(.string ⟨#[]⟩), (.string ⟨#[]⟩)] -/
def Tryd.c61 : AC :=
 (.seq
  (.region 0 [⟨(some 4), none, (.p (.mv (.c (.str [])))), false, []⟩,
    ⟨(some 5), none, (.p (.mv (.c (.str [])))), false, []⟩,
    ⟨(some 6), none, (.p (.mv (.c (.bool false)))), false, []⟩] (some ⟨[0, 1], [], false⟩))
  (.seq
   (.seq
    (.region 0 [⟨(some 8), none, (.p (.mv (.t 0))), false, []⟩,
      ⟨(some 9), none, (.p (.mv (.t 1))), false, []⟩,
      ⟨(some 10), none, (.call 68 [(.t 8), (.t 9)] false), false, []⟩,
      ⟨(some 7), none, (.p (.mv (.t 10))), false, []⟩] (some ⟨[0, 1, 7], [], false⟩))
    (.seq
     (.region 0 [⟨(some 11), none, (.p (.mv (.t 7))), false, []⟩,
       ⟨(some 12), none, (.p (.bin .geq (.t 11) (.c (.int .i64 0)))), false, []⟩] (some ⟨[0, 1, 7, 12], [], false⟩))
     (.cond (.t 12)
      (.seq
       (.region 12 [⟨(some 13), none, (.p (.mv (.t 0))), false, []⟩,
         ⟨(some 14), none, (.p (.mv (.t 7))), false, []⟩,
         ⟨(some 15), none, (.p (.slices (.t 13) none (some (.t 14)))), false, []⟩,
         ⟨(some 16), none, (.p (.mv (.t 0))), false, []⟩,
         ⟨(some 17), none, (.p (.mv (.t 7))), false, []⟩,
         ⟨(some 18), none, (.p (.mv (.t 1))), false, []⟩,
         ⟨(some 19), none, (.p (.lenS (.t 18))), false, []⟩,
         ⟨(some 20), none, (.p (.bin .add (.t 17) (.t 19))), false, []⟩,
         ⟨(some 21), none, (.p (.slices (.t 16) (some (.t 20)) none)), false, []⟩,
         ⟨(some 4), none, (.p (.mv (.t 15))), false, []⟩,
         ⟨(some 5), none, (.p (.mv (.t 21))), false, []⟩,
         ⟨(some 6), none, (.p (.mv (.c (.bool true)))), false, []⟩] (some ⟨[4, 5, 6], [], true⟩))
       .ret)
      .skip)))
   (.seq
    (.region 0 [⟨(some 22), none, (.p (.mv (.t 0))), false, []⟩,
      ⟨(some 4), none, (.p (.mv (.t 22))), false, []⟩,
      ⟨(some 5), none, (.p (.mv (.c (.str [])))), false, []⟩,
      ⟨(some 6), none, (.p (.mv (.c (.bool false)))), false, []⟩] (some ⟨[4, 5, 6], [], false⟩))
    .ret)))
theorem Tryd.run61 {xs : List AV} {r : AV} (hl : xs.length ≤ 23) (h : aw Tryd.prog Tryd.c61 (Pv.Ends [4, 5, 6] r) (entry xs)) : Run Tryd.prog 61 xs r :=
  run_of (fun _ _ => drawOk Tryd.mixed) Tryd.func61 rfl rfl rfl (by kernel_rfl) (by kernel_rfl) hl h
/-! 67 strings.Index : params [9, 9], results [3], free 0, zeros [(.string ⟨#[]⟩), (.string ⟨#[]⟩)] -/
def Tryd.c67 : AC :=
 (.seq
  (.region 0 [⟨(some 4), none, (.p (.mv (.c (.int .i64 0)))), false, []⟩] (some ⟨[0, 1], [], false⟩))
  (.seq
   (.region 0 [⟨(some 5), none, (.p (.mv (.t 0))), false, []⟩,
     ⟨(some 6), none, (.p (.mv (.t 1))), false, []⟩,
     ⟨(some 7), none, (.call 68 [(.t 5), (.t 6)] false), false, []⟩,
     ⟨(some 4), none, (.p (.mv (.t 7))), false, []⟩] (some ⟨[4], [], false⟩))
   .ret))
theorem Tryd.run67 {xs : List AV} {r : AV} (hl : xs.length ≤ 8) (h : aw Tryd.prog Tryd.c67 (Pv.Ends [4] r) (entry xs)) : Run Tryd.prog 67 xs r :=
  run_of (fun _ _ => drawOk Tryd.mixed) Tryd.func67 rfl rfl rfl (by kernel_rfl) (by kernel_rfl) hl h
/-! 68 internal/stringslite.Index : params [9, 9], results [3], free 0, zeros [(.string ⟨#[]⟩), (.string ⟨#[]⟩)] -/
def Tryd.c68b0 : AC :=
 (.seq
  (.seq
   (.region 0 [⟨(some 57), none, (.p (.mv (.t 8))), false, []⟩,
     ⟨(some 58), none, (.p (.mv (.t 9))), false, []⟩,
     ⟨(some 59), none, (.p (.bin .lss (.t 57) (.t 58))), false, []⟩] (some ⟨[0, 1, 5, 6, 7, 8, 9, 10, 59], [], false⟩))
   (.cond (.t 59)
    .skip
    (.exit 1)))
  (.block 2
   (.seq
    (.seq
     (.region 0 [⟨(some 60), none, (.p (.mv (.t 0))), false, []⟩,
       ⟨(some 61), none, (.p (.mv (.t 8))), false, []⟩,
       ⟨(some 62), none, (.p (.idxs (.t 60) (.t 61))), false, []⟩,
       ⟨(some 63), none, (.p (.mv (.t 6))), false, []⟩,
       ⟨(some 64), none, (.p (.bin .neq (.t 62) (.t 63))), false, []⟩] (some ⟨[0, 1, 5, 6, 7, 8, 9, 10, 64], [], false⟩))
     (.cond (.t 64)
      (.seq
       (.region 0 [⟨(some 65), none, (.p (.mv (.t 0))), false, []⟩,
         ⟨(some 66), none, (.p (.mv (.t 8))), false, []⟩,
         ⟨(some 67), none, (.p (.bin .add (.t 66) (.c (.int .i64 1)))), false, []⟩,
         ⟨(some 68), none, (.p (.mv (.t 9))), false, []⟩,
         ⟨(some 69), none, (.p (.slices (.t 65) (some (.t 67)) (some (.t 68)))), false, []⟩,
         ⟨(some 70), none, (.p (.mv (.t 6))), false, []⟩,
         ⟨(some 71), none, (.call 74 [(.t 69), (.t 70)] false), false, []⟩,
         ⟨(some 11), none, (.p (.mv (.t 71))), false, []⟩] (some ⟨[0, 1, 5, 6, 7, 8, 9, 10, 11], [], false⟩))
       (.seq
        (.seq
         (.region 0 [⟨(some 72), none, (.p (.mv (.t 11))), false, []⟩,
           ⟨(some 73), none, (.p (.bin .lss (.t 72) (.c (.int .i64 0)))), false, []⟩] (some ⟨[0, 1, 5, 6, 7, 8, 9, 10, 11, 73], [], false⟩))
         (.cond (.t 73)
          (.seq
           (.region 0 [⟨(some 4), none, (.p (.mv (.c (.int .i64 (-1))))), false, []⟩] (some ⟨[4], [], false⟩))
           .ret)
          .skip))
        (.region 0 [⟨(some 74), none, (.p (.mv (.t 8))), false, []⟩,
          ⟨(some 75), none, (.p (.mv (.t 11))), false, []⟩,
          ⟨(some 76), none, (.p (.bin .add (.t 75) (.c (.int .i64 1)))), false, []⟩,
          ⟨(some 77), none, (.p (.bin .add (.t 74) (.t 76))), false, []⟩,
          ⟨(some 8), none, (.p (.mv (.t 77))), false, []⟩] (some ⟨[0, 1, 5, 6, 7, 8, 9, 10], [], false⟩))))
      .skip))
    (.seq
     (.seq
      (.region 0 [⟨(some 78), none, (.p (.mv (.t 0))), false, []⟩,
        ⟨(some 79), none, (.p (.mv (.t 8))), false, []⟩,
        ⟨(some 80), none, (.p (.bin .add (.t 79) (.c (.int .i64 1)))), false, []⟩,
        ⟨(some 81), none, (.p (.idxs (.t 78) (.t 80))), false, []⟩,
        ⟨(some 82), none, (.p (.mv (.t 7))), false, []⟩,
        ⟨(some 83), none, (.p (.bin .eql (.t 81) (.t 82))), false, []⟩,
        ⟨(some 84), none, (.p (.mv (.t 83))), false, []⟩,
        ⟨(some 85), (some (84, true)), (.p (.mv (.t 0))), false, []⟩,
        ⟨(some 86), (some (84, true)), (.p (.mv (.t 8))), false, []⟩,
        ⟨(some 87), (some (84, true)), (.p (.mv (.t 8))), false, []⟩,
        ⟨(some 88), (some (84, true)), (.p (.mv (.t 5))), false, []⟩,
        ⟨(some 89), (some (84, true)), (.p (.bin .add (.t 87) (.t 88))), false, []⟩,
        ⟨(some 90), (some (84, true)), (.p (.slices (.t 85) (some (.t 86)) (some (.t 89)))), false, []⟩,
        ⟨(some 91), (some (84, true)), (.p (.mv (.t 1))), false, []⟩,
        ⟨(some 92), (some (84, true)), (.p (.bin .eql (.t 90) (.t 91))), false, []⟩,
        ⟨(some 93), none, (.p (.pick (.t 84) (.t 92) (.c (.bool false)))), false, []⟩] (some ⟨[0, 1, 5, 6, 7, 8, 9, 10, 93], [], false⟩))
      (.cond (.t 93)
       (.seq
        (.region 0 [⟨(some 94), none, (.p (.mv (.t 8))), false, []⟩,
          ⟨(some 4), none, (.p (.mv (.t 94))), false, []⟩] (some ⟨[4], [], false⟩))
        .ret)
       .skip))
     (.seq
      (.region 0 [⟨(some 95), none, (.p (.mv (.t 8))), false, []⟩,
        ⟨(some 96), none, (.p (.bin .add (.t 95) (.c (.int .i64 1)))), false, []⟩,
        ⟨(some 8), none, (.p (.mv (.t 96))), false, []⟩] (some ⟨[0, 1, 5, 6, 7, 8, 9, 10], [], false⟩))
      (.seq
       (.region 0 [⟨(some 97), none, (.p (.mv (.t 10))), false, []⟩,
         ⟨(some 98), none, (.p (.bin .add (.t 97) (.c (.int .i64 1)))), false, []⟩,
         ⟨(some 10), none, (.p (.mv (.t 98))), false, []⟩] (some ⟨[0, 1, 5, 6, 7, 8, 9, 10], [], false⟩))
       (.seq
        (.region 0 [⟨(some 99), none, (.p (.mv (.t 5))), false, []⟩,
          ⟨(some 100), none, (.r (.load 1 false (.c (.lit (.pointer (some ⟨0, 0, none⟩)))))), false, []⟩,
          ⟨(some 101), none, (.p (.bin .leq (.t 99) (.t 100))), false, []⟩,
          ⟨(some 102), none, (.p (.mv (.t 101))), false, []⟩,
          ⟨(some 103), (some (102, true)), (.p (.mv (.t 10))), false, []⟩,
          ⟨(some 104), (some (102, true)), (.p (.mv (.t 8))), false, []⟩,
          ⟨(some 105), (some (102, true)), (.call 76 [(.t 104)] false), false, []⟩,
          ⟨(some 106), (some (102, true)), (.p (.bin .gtr (.t 103) (.t 105))), false, []⟩,
          ⟨(some 107), none, (.p (.pick (.t 102) (.t 106) (.c (.bool false)))), false, []⟩] (some ⟨[0, 1, 5, 6, 7, 8, 9, 10, 107], [], false⟩))
        (.cond (.t 107)
         (.seq
          (.region 0 [⟨(some 108), none, (.p (.mv (.t 0))), false, []⟩,
            ⟨(some 109), none, (.p (.mv (.t 8))), false, []⟩,
            ⟨(some 110), none, (.p (.slices (.t 108) (some (.t 109)) none)), false, []⟩,
            ⟨(some 111), none, (.p (.mv (.t 1))), false, []⟩,
            ⟨(some 112), none, (.call 75 [(.t 110), (.t 111)] false), false, []⟩,
            ⟨(some 12), none, (.p (.mv (.t 112))), false, []⟩] (some ⟨[8, 12], [], false⟩))
          (.seq
           (.seq
            (.region 0 [⟨(some 113), none, (.p (.mv (.t 12))), false, []⟩,
              ⟨(some 114), none, (.p (.bin .geq (.t 113) (.c (.int .i64 0)))), false, []⟩] (some ⟨[8, 12, 114], [], false⟩))
            (.cond (.t 114)
             (.seq
              (.region 0 [⟨(some 115), none, (.p (.mv (.t 12))), false, []⟩,
                ⟨(some 116), none, (.p (.mv (.t 8))), false, []⟩,
                ⟨(some 117), none, (.p (.bin .add (.t 115) (.t 116))), false, []⟩,
                ⟨(some 4), none, (.p (.mv (.t 117))), false, []⟩] (some ⟨[4], [], false⟩))
              .ret)
             .skip))
           (.seq
            (.region 0 [⟨(some 4), none, (.p (.mv (.c (.int .i64 (-1))))), false, []⟩] (some ⟨[4], [], false⟩))
            .ret)))
         (.seq
          (.region 0 [⟨(some 118), none, (.p (.mv (.t 5))), false, []⟩,
            ⟨(some 119), none, (.r (.load 1 false (.c (.lit (.pointer (some ⟨0, 0, none⟩)))))), false, []⟩,
            ⟨(some 120), none, (.p (.bin .gtr (.t 118) (.t 119))), false, []⟩,
            ⟨(some 121), none, (.p (.mv (.t 120))), false, []⟩,
            ⟨(some 122), (some (121, true)), (.p (.mv (.t 10))), false, []⟩,
            ⟨(some 123), (some (121, true)), (.p (.mv (.t 8))), false, []⟩,
            ⟨(some 124), (some (121, true)), (.p (.bin .shr (.t 123) (.c (.int .u64 4)))), false, []⟩,
            ⟨(some 125), (some (121, true)), (.p (.bin .add (.c (.int .i64 4)) (.t 124))), false, []⟩,
            ⟨(some 126), (some (121, true)), (.p (.bin .geq (.t 122) (.t 125))), false, []⟩,
            ⟨(some 127), none, (.p (.pick (.t 121) (.t 126) (.c (.bool false)))), false, []⟩,
            ⟨(some 128), none, (.p (.mv (.t 127))), false, []⟩,
            ⟨(some 129), (some (128, true)), (.p (.mv (.t 8))), false, []⟩,
            ⟨(some 130), (some (128, true)), (.p (.mv (.t 9))), false, []⟩,
            ⟨(some 131), (some (128, true)), (.p (.bin .lss (.t 129) (.t 130))), false, []⟩,
            ⟨(some 132), none, (.p (.pick (.t 128) (.t 131) (.c (.bool false)))), false, []⟩] (some ⟨[0, 1, 5, 6, 7, 8, 9, 10, 132], [], false⟩))
          (.cond (.t 132)
           (.seq
            (.region 0 [⟨(some 133), none, (.p (.mv (.t 0))), false, []⟩,
              ⟨(some 134), none, (.p (.mv (.t 8))), false, []⟩,
              ⟨(some 135), none, (.p (.slices (.t 133) (some (.t 134)) none)), false, []⟩,
              ⟨(some 136), none, (.p (.mv (.t 1))), false, []⟩,
              ⟨(some 137), none, (.call 77 [(.t 135), (.t 136)] false), false, []⟩,
              ⟨(some 13), none, (.p (.mv (.t 137))), false, []⟩] (some ⟨[8, 13], [], false⟩))
            (.seq
             (.seq
              (.region 0 [⟨(some 138), none, (.p (.mv (.t 13))), false, []⟩,
                ⟨(some 139), none, (.p (.bin .lss (.t 138) (.c (.int .i64 0)))), false, []⟩] (some ⟨[8, 13, 139], [], false⟩))
              (.cond (.t 139)
               (.seq
                (.region 0 [⟨(some 4), none, (.p (.mv (.c (.int .i64 (-1))))), false, []⟩] (some ⟨[4], [], false⟩))
                .ret)
               .skip))
             (.seq
              (.region 0 [⟨(some 140), none, (.p (.mv (.t 8))), false, []⟩,
                ⟨(some 141), none, (.p (.mv (.t 13))), false, []⟩,
                ⟨(some 142), none, (.p (.bin .add (.t 140) (.t 141))), false, []⟩,
                ⟨(some 4), none, (.p (.mv (.t 142))), false, []⟩] (some ⟨[4], [], false⟩))
              .ret)))
           .skip))))))))))
def Tryd.c68 : AC :=
 (.seq
  (.region 0 [⟨(some 4), none, (.p (.mv (.c (.int .i64 0)))), false, []⟩] (some ⟨[0, 1], [], false⟩))
  (.seq
   (.region 0 [⟨(some 14), none, (.p (.mv (.t 1))), false, []⟩,
     ⟨(some 15), none, (.p (.lenS (.t 14))), false, []⟩,
     ⟨(some 5), none, (.p (.mv (.t 15))), false, []⟩] (some ⟨[0, 1, 5], [], false⟩))
   (.seq
    (.block 0
     (.seq
      (.region 0 [⟨(some 17), none, (.p (.mv (.t 5))), false, []⟩,
        ⟨(some 18), none, (.p (.bin .eql (.t 17) (.c (.int .i64 0)))), false, []⟩,
        ⟨(some 19), none, (.p (.mv (.t 18))), false, []⟩,
        ⟨(some 20), (some (19, false)), (.p (.mv (.t 1))), false, []⟩,
        ⟨(some 21), (some (19, false)), (.p (.mv (.t 0))), false, []⟩,
        ⟨(some 22), (some (19, false)), (.p (.bin .eql (.t 20) (.t 21))), false, []⟩,
        ⟨(some 23), none, (.p (.pick (.t 19) (.c (.bool true)) (.t 22))), false, []⟩,
        ⟨(some 16), none, (.p (.mv (.t 23))), false, []⟩] (some ⟨[0, 1, 5, 16], [], false⟩))
      (.cond (.t 16)
       (.seq
        (.region 0 [⟨(some 4), none, (.p (.mv (.c (.int .i64 0)))), false, []⟩] (some ⟨[4], [], false⟩))
        .ret)
       (.seq
        (.region 0 [⟨(some 25), none, (.p (.mv (.t 5))), false, []⟩,
          ⟨(some 26), none, (.p (.bin .eql (.t 25) (.c (.int .i64 1)))), false, []⟩,
          ⟨(some 24), none, (.p (.mv (.t 26))), false, []⟩] (some ⟨[0, 1, 5, 24], [], false⟩))
        (.cond (.t 24)
         (.seq
          (.region 0 [⟨(some 27), none, (.p (.mv (.t 0))), false, []⟩,
            ⟨(some 28), none, (.p (.mv (.t 1))), false, []⟩,
            ⟨(some 29), none, (.p (.idxs (.t 28) (.c (.int .i64 0)))), false, []⟩,
            ⟨(some 30), none, (.call 74 [(.t 27), (.t 29)] false), false, []⟩,
            ⟨(some 4), none, (.p (.mv (.t 30))), false, []⟩] (some ⟨[4], [], false⟩))
          .ret)
         (.seq
          (.region 0 [⟨(some 32), none, (.p (.mv (.t 5))), false, []⟩,
            ⟨(some 33), none, (.p (.mv (.t 0))), false, []⟩,
            ⟨(some 34), none, (.p (.lenS (.t 33))), false, []⟩,
            ⟨(some 35), none, (.p (.bin .geq (.t 32) (.t 34))), false, []⟩,
            ⟨(some 31), none, (.p (.mv (.t 35))), false, []⟩] (some ⟨[0, 1, 5, 31], [], false⟩))
          (.cond (.t 31)
           (.seq
            (.region 0 [⟨(some 4), none, (.p (.mv (.c (.int .i64 (-1))))), false, []⟩] (some ⟨[4], [], false⟩))
            .ret)
           (.seq
            (.region 0 [⟨(some 37), none, (.p (.mv (.t 5))), false, []⟩,
              ⟨(some 38), none, (.r (.load 1 false (.c (.lit (.pointer (some ⟨0, 0, none⟩)))))), false, []⟩,
              ⟨(some 39), none, (.p (.bin .leq (.t 37) (.t 38))), false, []⟩,
              ⟨(some 40), none, (.p (.mv (.t 39))), false, []⟩,
              ⟨(some 41), (some (40, true)), (.p (.mv (.t 0))), false, []⟩,
              ⟨(some 42), (some (40, true)), (.p (.lenS (.t 41))), false, []⟩,
              ⟨(some 43), (some (40, true)), (.p (.bin .leq (.t 42) (.c (.int .i64 64)))), false, []⟩,
              ⟨(some 44), none, (.p (.pick (.t 40) (.t 43) (.c (.bool false)))), false, []⟩,
              ⟨(some 36), none, (.p (.mv (.t 44))), false, []⟩] (some ⟨[0, 1, 5, 36], [], false⟩))
            (.cond (.t 36)
             (.seq
              (.region 0 [⟨(some 45), none, (.p (.mv (.t 0))), false, []⟩,
                ⟨(some 46), none, (.p (.mv (.t 1))), false, []⟩,
                ⟨(some 47), none, (.call 75 [(.t 45), (.t 46)] false), false, []⟩,
                ⟨(some 4), none, (.p (.mv (.t 47))), false, []⟩] (some ⟨[4], [], false⟩))
              .ret)
             .skip)))))))))
    (.seq
     (.region 0 [⟨(some 48), none, (.p (.mv (.t 1))), false, []⟩,
       ⟨(some 49), none, (.p (.idxs (.t 48) (.c (.int .i64 0)))), false, []⟩,
       ⟨(some 6), none, (.p (.mv (.t 49))), false, []⟩] (some ⟨[0, 1, 5, 6], [], false⟩))
     (.seq
      (.region 0 [⟨(some 50), none, (.p (.mv (.t 1))), false, []⟩,
        ⟨(some 51), none, (.p (.idxs (.t 50) (.c (.int .i64 1)))), false, []⟩,
        ⟨(some 7), none, (.p (.mv (.t 51))), false, []⟩] (some ⟨[0, 1, 5, 6, 7], [], false⟩))
      (.seq
       (.region 0 [⟨(some 8), none, (.p (.mv (.c (.int .i64 0)))), false, []⟩] (some ⟨[0, 1, 5, 6, 7, 8], [], false⟩))
       (.seq
        (.region 0 [⟨(some 52), none, (.p (.mv (.t 0))), false, []⟩,
          ⟨(some 53), none, (.p (.lenS (.t 52))), false, []⟩,
          ⟨(some 54), none, (.p (.mv (.t 5))), false, []⟩,
          ⟨(some 55), none, (.p (.bin .sub (.t 53) (.t 54))), false, []⟩,
          ⟨(some 56), none, (.p (.bin .add (.t 55) (.c (.int .i64 1)))), false, []⟩,
          ⟨(some 9), none, (.p (.mv (.t 56))), false, []⟩] (some ⟨[0, 1, 5, 6, 7, 8, 9], [], false⟩))
        (.seq
         (.region 0 [⟨(some 10), none, (.p (.mv (.c (.int .i64 0)))), false, []⟩] (some ⟨[0, 1, 5, 6, 7, 8, 9, 10], [], false⟩))
         (.seq
          (.block 1
           (.loop (some ⟨[0, 1, 5, 6, 7, 8, 9, 10], [], true⟩) Tryd.c68b0))
          (.seq
           (.region 0 [⟨(some 4), none, (.p (.mv (.c (.int .i64 (-1))))), false, []⟩] (some ⟨[4], [], false⟩))
           .ret))))))))))
theorem Tryd.run68 {xs : List AV} {r : AV} (hl : xs.length ≤ 143) (h : aw Tryd.prog Tryd.c68 (Pv.Ends [4] r) (entry xs)) : Run Tryd.prog 68 xs r :=
  run_of (fun _ _ => drawOk Tryd.mixed) Tryd.func68 rfl rfl rfl (by kernel_rfl) (by kernel_rfl) hl h
/-! 74 internal/stringslite.IndexByte : params [9, 5], results [3], free 0, zeros [(.string ⟨#[]⟩), (.int .u8 (0))] -/
def Tryd.c74 : AC :=
 (.seq
  (.region 0 [⟨(some 4), none, (.p (.mv (.c (.int .i64 0)))), false, []⟩] (some ⟨[0, 1], [], false⟩))
  (.seq
   (.region 0 [⟨(some 5), none, (.p (.mv (.t 0))), false, []⟩,
     ⟨(some 6), none, (.p (.mv (.t 1))), false, []⟩,
     ⟨(some 7), none, (.p (.idxb (.t 5) (.t 6))), false, []⟩,
     ⟨(some 4), none, (.p (.mv (.t 7))), false, []⟩] (some ⟨[4], [], false⟩))
   .ret))
theorem Tryd.run74 {xs : List AV} {r : AV} (hl : xs.length ≤ 8) (h : aw Tryd.prog Tryd.c74 (Pv.Ends [4] r) (entry xs)) : Run Tryd.prog 74 xs r :=
  run_of (fun _ _ => drawOk Tryd.mixed) Tryd.func74 rfl rfl rfl (by kernel_rfl) (by kernel_rfl) hl h
end Go.Proofs
