/- The proofs of what the functions of this seat do. -/
import Derived.Test.YtidlldckhipoaaaPr2
set_option linter.unusedSimpArgs false
set_option linter.unusedVariables false
set_option maxHeartbeats 2000000
set_option maxRecDepth 20000
namespace Go.Proofs
namespace Mc
open Go.Pv
def nb (b : List UInt8) : Int := b.foldl (fun n x => n * 256 + x.toNat) 0
theorem nb_snoc (b : List UInt8) (x : UInt8) : nb (b ++ [x]) = nb b * 256 + x.toNat := by simp [nb]
theorem nb_b (b : List UInt8) : 0 ≤ nb b ∧ nb b < 256 ^ b.length := by
  suffices h : ∀ r : List UInt8, 0 ≤ nb r.reverse ∧ nb r.reverse < 256 ^ r.length by simpa using h b.reverse
  intro r
  induction r with
  | nil => exact ⟨by decide, by decide⟩
  | cons x r ih =>
    have hx := x.toNat_lt
    rw [List.reverse_cons, nb_snoc, List.length_cons, Int.pow_succ]
    generalize (256 : Int) ^ r.length = q at *
    omega
theorem take_snoc {α : Type} [Inhabited α] {l : List α} {k : Nat} (h : k < l.length) : l.take (k + 1) = l.take k ++ [l[k]!] := by
  rw [List.take_succ_eq_append_getElem h]
  simp [h]
theorem nb_small (b : List UInt8) (h : b.length ≤ 6) (k : Nat) (hk : k < b.length) : 0 ≤ nb (b.take k) ∧ nb (b.take k) < 1099511627776 := by
  have h1 := nb_b (b.take k)
  rw [List.length_take, Nat.min_eq_left (by omega)] at h1
  have : (256 : Int) ^ k ≤ 256 ^ 5 := by exact_mod_cast Nat.pow_le_pow_right (by decide) (by omega)
  omega
theorem number_run (b : List UInt8) (full : Bool) (h : b.length ≤ 6) : Run Try.prog 40 [.sl 1 (bys b) full] (.int .u64 (nb b)) := by
  refine Try.run40 (by simp) ?_
  unfold Try.c40
  simp (disch := first | omega | (simp only [pvl] at *; omega)) only [↓pvd,pva,Pv.put,bin2,int2,binB2,un1,AV.flat,pvf,szOk,notStr,setCells,AV.one,resX,layC,layA,lay,List.map,List.replicate,List.length_replicate,pve,seval,reduceCtorEq]
  refine aw_loop (fun k : Nat => ⟨[(0, .sl 1 (bys b) full), (3, .int .u64 (nb (b.take k))), (4, .int .i64 k)], []⟩) (fun k => k ≤ b.length) (fun k => b.length - k) 0 ?_ (by omega) ?_
  · simp (disch := first | omega | (simp only [pvl] at *; omega)) only [↓pvd,pva,Pv.put,bin2,int2,binB2,un1,AV.flat,pvf,szOk,notStr,setCells,AV.one,resX,layC,layA,lay,List.map,List.replicate,List.length_replicate,pve,seval,reduceCtorEq]
    rfl
  intro k hk
  unfold Try.c40b0
  simp (disch := first | omega | (simp only [pvl] at *; omega)) only [↓pvd,pva,Pv.put,bin2,int2,binB2,un1,AV.flat,pvf,szOk,notStr,setCells,AV.one,resX,layC,layA,lay,List.map,List.replicate,List.length_replicate,pve,seval,reduceCtorEq]
  refine condP_d (fun hc => ?_) (fun hc => ?_)
  · have hn := nb_small b h k (by omega)
    have hx := (b[k]!).toNat_lt
    have ht := take_snoc (l := b) (k := k) (by omega)
    have hs := nb_snoc (b.take k) b[k]!
    rw [← ht] at hs
    generalize nb (b.take k) = n at *
    simp (disch := first | omega | (simp only [pvl] at *; omega)) only [↓pvd,pva,Pv.put,bin2,int2,binB2,un1,AV.flat,pvf,szOk,notStr,setCells,AV.one,resX,layC,layA,lay,List.map,List.replicate,List.length_replicate,pve,seval,reduceCtorEq]
    exact ⟨k + 1, by rw [hs]; simp, by omega, by omega⟩
  · have : k = b.length := by omega
    subst this
    simp (disch := first | omega | (simp only [pvl] at *; omega)) only [↓pvd,pva,Pv.put,bin2,int2,binB2,un1,AV.flat,pvf,szOk,notStr,setCells,AV.one,resX,layC,layA,lay,List.map,List.replicate,List.length_replicate,pve,seval,reduceCtorEq]
    (refine Ends_rq [] ?_; simp (disch := first|omega|(simp only[pvl];omega)) only [↓pvd,pva,Pv.put,bin2,int2,binB2,un1,AV.flat,pvf,szOk,notStr,setCells,AV.one,resX,layC,layA,lay,List.map,List.replicate,List.length_replicate,pve,seval,reduceCtorEq]; exact ⟨_,rfl,rfl,rfl⟩)
end Mc
end Go.Proofs
set_option linter.unusedSimpArgs false
set_option linter.unusedVariables false
set_option maxHeartbeats 2000000
set_option maxRecDepth 20000
namespace Go.Proofs
namespace Mc
open Go.Pv
def hx (n : Int) : UInt8 := [48, 49, 50, 51, 52, 53, 54, 55, 56, 57, 97, 98, 99, 100, 101, 102][n.toNat]!
def tx (m : Int) : List UInt8 :=
  [hx (m / 1099511627776 % 256 / 16), hx (m / 1099511627776 % 256 % 16), 58, hx (m / 4294967296 % 256 / 16), hx (m / 4294967296 % 256 % 16), 58, hx (m / 16777216 % 256 / 16), hx (m / 16777216 % 256 % 16), 58,
    hx (m / 65536 % 256 / 16), hx (m / 65536 % 256 % 16), 58, hx (m / 256 % 256 / 16), hx (m / 256 % 256 % 16), 58, hx (m % 256 / 16), hx (m % 256 % 16)]
end Mc
end Go.Proofs
set_option linter.unusedSimpArgs false
set_option linter.unusedVariables false
set_option maxHeartbeats 2000000
set_option maxRecDepth 20000
namespace Go.Proofs
namespace Mc
open Go.Pv
def num (s : List UInt8) : Nat → Int
  | 0 => 0
  | k + 1 => num s k * 256 + (dg s[3 * k]! * 16 + dg s[3 * k + 1]!)
end Mc
end Go.Proofs
set_option linter.unusedSimpArgs false
set_option linter.unusedVariables false
set_option maxHeartbeats 2000000
set_option maxRecDepth 20000
namespace Go.Proofs
namespace Mc
open Go.Pv
end Mc
end Go.Proofs
set_option linter.unusedSimpArgs false
set_option linter.unusedVariables false
set_option maxHeartbeats 2000000
set_option maxRecDepth 20000
namespace Go.Proofs
namespace Mc
open Go.Pv
def tk (b : List UInt8) (a : Int) : Int × Bool := if 0 ≤ a ∧ a + 6 ≤ b.length then (nb ((b.drop a.toNat).take 6), true) else (0, false)
theorem take_run (b : List UInt8) (a : Int) (full : Bool) (h : b.length ≤ 100000) (ha : -9223372036854775808 ≤ a ∧ a ≤ 9223372036854775807) : Run Try.prog 25 [.sl 1 (bys b) full, .int .i64 a] (.tup [.int .u64 (tk b a).1, .bool (tk b a).2]) := by
  refine Try.run25 (by simp) ?_
  unfold Try.c25
  repeat' (first | simp (disch := first|omega|(simp only[pvl];omega)) only [↓pvd,pva,Pv.put,bin2,int2,binB2,un1,AV.flat,pvf,szOk,notStr,setCells,AV.one,resX,layC,layA,lay,List.map,List.replicate,List.length_replicate,pve,seval,reduceCtorEq] | with_reducible refine condP_d (fun _ => ?_) (fun _ => ?_) | with_reducible refine guardP_d0 (fun _ => ?_) (fun _ => ?_) | with_reducible refine guardP_d1 (fun _ => ?_) (fun _ => ?_) | with_reducible refine condP_any ?_ ?_)
  all_goals first
    | ((unfold tk; simp (disch := omega) only [if_pos,if_neg]); (refine Ends_rq [] ?_; simp (disch := first|omega|(simp only[pvl];omega)) only [↓pvd,pva,Pv.put,bin2,int2,binB2,un1,AV.flat,pvf,szOk,notStr,setCells,AV.one,resX,layC,layA,lay,List.map,List.replicate,List.length_replicate,pve,seval,reduceCtorEq]; exact ⟨_,rfl,rfl,rfl⟩); done)
    | skip
  obtain ⟨n, rfl⟩ := Int.eq_ofNat_of_zero_le (show 0 ≤ a by omega)
  have hn : n + 6 ≤ b.length := by omega
  have e : tk b n = (nb ((b.drop n).take 6), true) := by unfold tk; rw [if_pos (by omega)]; rfl
  rw [e]
  refine aw_loop (fun k : Nat => ⟨[(0, .sl 1 (bys b) full), (1, .int .i64 n), (6, .int .u64 (nb ((b.drop n).take k))), (17, .int .i64 k)], []⟩) (fun k => k ≤ 6) (fun k => 6 - k) 0 ?_ (by omega) ?_
  · simp (disch := first | omega | (simp only [pvl] at *; omega)) only [↓pvd,pva,Pv.put,bin2,int2,binB2,un1,AV.flat,pvf,szOk,notStr,setCells,AV.one,resX,layC,layA,lay,List.map,List.replicate,List.length_replicate,pve,seval,reduceCtorEq]
    rfl
  intro k hk
  unfold Try.c25b0
  simp (disch := first | omega | (simp only [pvl] at *; omega)) only [↓pvd,pva,Pv.put,bin2,int2,binB2,un1,AV.flat,pvf,szOk,notStr,setCells,AV.one,resX,layC,layA,lay,List.map,List.replicate,List.length_replicate,pve,seval,reduceCtorEq]
  refine condP_d (fun hc => ?_) (fun hc => ?_)
  · have hb := nb_b ((b.drop n).take k)
    have hll : (List.take k (b.drop n)).length = k := by simp; omega
    rw [hll] at hb
    have : (256 : Int) ^ k ≤ 256 ^ 5 := by exact_mod_cast Nat.pow_le_pow_right (by decide) (by omega)
    have hb2 : 0 ≤ nb ((b.drop n).take k) ∧ nb ((b.drop n).take k) < 1099511627776 := by omega
    have ht := take_snoc (l := b.drop n) (k := k) (by simp; omega)
    have hg : (b.drop n)[k]! = b[n + k]! := by simp
    have hs := nb_snoc ((b.drop n).take k) b[n + k]!
    rw [hg] at ht
    rw [← ht] at hs
    have hx := (b[n + k]!).toNat_lt
    clear hb this
    generalize nb ((b.drop n).take k) = m at *
    have tn : ((n : Int) + k).toNat = n + k := by omega
    simp (disch := first|omega|(simp only[pvl];omega)) only [↓pvd,pva,Pv.put,bin2,int2,binB2,un1,AV.flat,pvf,szOk,notStr,setCells,AV.one,resX,layC,layA,lay,List.map,List.replicate,List.length_replicate,pve,seval,reduceCtorEq,tn]
    refine ⟨k + 1, ?_, by omega, by omega⟩
    rw [hs]
    simp only [St.mk.injEq,List.cons.injEq,Prod.mk.injEq,AV.int.injEq,and_true,true_and]
    omega
  · have : k = 6 := by omega
    subst this
    simp (disch := first | omega | (simp only [pvl] at *; omega)) only [↓pvd,pva,Pv.put,bin2,int2,binB2,un1,AV.flat,pvf,szOk,notStr,setCells,AV.one,resX,layC,layA,lay,List.map,List.replicate,List.length_replicate,pve,seval,reduceCtorEq]
    (refine Ends_rq [] ?_; simp (disch := first|omega|(simp only[pvl];omega)) only [↓pvd,pva,Pv.put,bin2,int2,binB2,un1,AV.flat,pvf,szOk,notStr,setCells,AV.one,resX,layC,layA,lay,List.map,List.replicate,List.length_replicate,pve,seval,reduceCtorEq]; exact ⟨_,rfl,rfl,rfl⟩)
theorem ref_take_run (b : List UInt8) (a : Int) (full : Bool) (h : b.length ≤ 100000) (ha : -9223372036854775808 ≤ a ∧ a ≤ 9223372036854775807) : Run Try.prog 27 [.sl 1 (bys b) full, .int .i64 a] (.tup [.int .u64 (tk b a).1, .bool (tk b a).2]) := by
  refine Try.run27 (by simp) ?_
  unfold Try.c27
  repeat' (first | simp (disch := first|omega|(simp only[pvl];omega)) only [↓pvd,pva,Pv.put,bin2,int2,binB2,un1,AV.flat,pvf,szOk,notStr,setCells,AV.one,resX,layC,layA,lay,List.map,List.replicate,List.length_replicate,pve,seval,reduceCtorEq] | with_reducible refine condP_d (fun _ => ?_) (fun _ => ?_) | with_reducible refine guardP_d0 (fun _ => ?_) (fun _ => ?_) | with_reducible refine guardP_d1 (fun _ => ?_) (fun _ => ?_) | with_reducible refine condP_any ?_ ?_)
  all_goals first
    | ((unfold tk; simp (disch := omega) only [if_pos,if_neg]); (refine Ends_rq [] ?_; simp (disch := first|omega|(simp only[pvl];omega)) only [↓pvd,pva,Pv.put,bin2,int2,binB2,un1,AV.flat,pvf,szOk,notStr,setCells,AV.one,resX,layC,layA,lay,List.map,List.replicate,List.length_replicate,pve,seval,reduceCtorEq]; exact ⟨_,rfl,rfl,rfl⟩); done)
    | skip
  obtain ⟨n, rfl⟩ := Int.eq_ofNat_of_zero_le (show 0 ≤ a by omega)
  have e : tk b n = (nb ((b.drop n).take 6), true) := by unfold tk; rw [if_pos (by omega)]; rfl
  have e6 : ((n : Int) + 6).toNat = n + 6 := by omega
  have ed : List.drop n (List.take (n + 6) b) = (b.drop n).take 6 := by rw [List.drop_take]; congr 1; omega
  rw [e]
  have hq (q : Bool) := number_run ((b.drop n).take 6) q (by simp; omega)
  simp (disch := first|omega|(simp only[pvl];omega)) only [↓pvd,pva,Pv.put,bin2,int2,binB2,un1,AV.flat,pvf,szOk,notStr,setCells,AV.one,resX,layC,layA,lay,List.map,List.replicate,List.length_replicate,pve,seval,reduceCtorEq,e6,ed,Int.toNat_natCast]
  refine awR_call (hq _) rfl rfl ?_
  simp (disch := first | omega | (simp only [pvl] at *; omega)) only [↓pvd,pva,Pv.put,bin2,int2,binB2,un1,AV.flat,pvf,szOk,notStr,setCells,AV.one,resX,layC,layA,lay,List.map,List.replicate,List.length_replicate,pve,seval,reduceCtorEq]
  (refine Ends_rq [] ?_; simp (disch := first|omega|(simp only[pvl];omega)) only [↓pvd,pva,Pv.put,bin2,int2,binB2,un1,AV.flat,pvf,szOk,notStr,setCells,AV.one,resX,layC,layA,lay,List.map,List.replicate,List.length_replicate,pve,seval,reduceCtorEq]; exact ⟨_,rfl,rfl,rfl⟩)
end Mc
end Go.Proofs
set_option linter.unusedSimpArgs false
set_option linter.unusedVariables false
set_option maxHeartbeats 2000000
set_option maxRecDepth 20000
namespace Go.Proofs
open Go.Pv Go.Pv.Hq
def grF (l : List Sn) : Bool := decide (¬ (l.length ≤ 200 ∧ ∀ s ∈ l, s.b.length ≤ 2000))
set_option maxHeartbeats 4000000 in
theorem great_run (l : List Sn) (f : Bool) (hl : l.length ≤ maxLen) : Run Try.prog 9 [.sl 3 (l.map snR) f] (.bool (grF l)) := by
  refine Try.run9 (by simp) ?_
  unfold Try.c9
  have hla : (l.map snR).length = l.length := List.length_map _
  simp only [maxLen] at hl
  simp (disch := first|omega|(simp only[pvl];omega)) only [↓pvd,pva,Pv.put,bin2,int2,binB2,un1,AV.flat,pvf,szOk,notStr,setCells,AV.one,resX,layC,layA,lay,List.map,List.replicate,List.length_replicate,pve,seval,reduceCtorEq,hla]
  refine aw_loop (fun k : Nat => ⟨[(0, .sl 3 (l.map snR) f), (3, .int .i64 k)], []⟩) (fun k => k ≤ l.length ∧ k ≤ 200 ∧ ∀ i < k, l[i]!.b.length ≤ 2000) (fun k => 200 - k) 0 ?_ ⟨by omega, by omega, fun i hi => by omega⟩ ?_
  · simp (disch := first | omega | (simp only [pvl] at *; omega)) only [↓pvd,pva,Pv.put,bin2,int2,binB2,un1,AV.flat,pvf,szOk,notStr,setCells,AV.one,resX,layC,layA,lay,List.map,List.replicate,List.length_replicate,pve,seval,reduceCtorEq]
    try rfl
  intro k ⟨hk, hk2, hall⟩
  unfold Try.c9b0
  by_cases hx : k < l.length
  · by_cases hy : k < 200
    · have hgi : (l.map snR)[k]? = some (.agg [.int .i64 l[k]!.p, .int .i64 l[k]!.o, .sl 1 (bys l[k]!.b) l[k]!.f]) := map_get hx
      have hbl : (bys l[k]!.b).length = l[k]!.b.length := by simp [bys]
      by_cases hg : 2000 < l[k]!.b.length
      · have hr : grF l = true := decide_eq_true fun h => by
          have := h.2 l[k]! (by rw [getElem!_pos l k hx]; exact List.getElem_mem hx)
          omega
        rw [hr]
        generalize bys l[k]!.b = B at *
        generalize l[k]! = s at *
        simp (disch := first|omega|(simp only[pvl];omega)) only [↓pvd,pva,Pv.put,bin2,int2,binB2,un1,AV.flat,pvf,szOk,notStr,setCells,AV.one,resX,layC,layA,lay,List.map,List.replicate,List.length_replicate,pve,seval,reduceCtorEq,hgi,hla,hbl,hg]
        (refine Ends_rq [] ?_; simp (disch := first|omega|(simp only[pvl];omega)) only [↓pvd,pva,Pv.put,bin2,int2,binB2,un1,AV.flat,pvf,szOk,notStr,setCells,AV.one,resX,layC,layA,lay,List.map,List.replicate,List.length_replicate,pve,seval,reduceCtorEq]; exact ⟨_,rfl,rfl,rfl⟩)
      · have hal2 : ∀ i < k + 1, l[i]!.b.length ≤ 2000 := fun i hi => by
          by_cases e : i = k
          · rw [e]; omega
          · exact hall i (by omega)
        generalize bys l[k]!.b = B at *
        generalize l[k]! = s at *
        simp (disch := first|omega|(simp only[pvl];omega)) only [↓pvd,pva,Pv.put,bin2,int2,binB2,un1,AV.flat,pvf,szOk,notStr,setCells,AV.one,resX,layC,layA,lay,List.map,List.replicate,List.length_replicate,pve,seval,reduceCtorEq,hgi,hla,hbl,hg]
        exact ⟨k + 1, rfl, ⟨by omega, by omega, hal2⟩, by omega⟩
    · have hr : grF l = true := decide_eq_true fun h => by omega
      have h2 : 200 < l.length := by omega
      rw [hr]
      simp (disch := first|omega|(simp only[pvl];omega)) only [↓pvd,pva,Pv.put,bin2,int2,binB2,un1,AV.flat,pvf,szOk,notStr,setCells,AV.one,resX,layC,layA,lay,List.map,List.replicate,List.length_replicate,pve,seval,reduceCtorEq,hla]
      (refine Ends_rq [] ?_; simp (disch := first|omega|(simp only[pvl];omega)) only [↓pvd,pva,Pv.put,bin2,int2,binB2,un1,AV.flat,pvf,szOk,notStr,setCells,AV.one,resX,layC,layA,lay,List.map,List.replicate,List.length_replicate,pve,seval,reduceCtorEq]; exact ⟨_,rfl,rfl,rfl⟩)
  · obtain rfl : k = l.length := by omega
    have hr : grF l = false := decide_eq_false fun h => h ⟨hk2, fun s hs => by
      obtain ⟨i, hi, rfl⟩ := List.mem_iff_getElem.1 hs
      rw [← getElem!_pos l i hi]; exact hall i hi⟩
    rw [hr]
    simp (disch := first|omega|(simp only[pvl];omega)) only [↓pvd,pva,Pv.put,bin2,int2,binB2,un1,AV.flat,pvf,szOk,notStr,setCells,AV.one,resX,layC,layA,lay,List.map,List.replicate,List.length_replicate,pve,seval,reduceCtorEq,hla]
    (refine Ends_rq [] ?_; simp (disch := first|omega|(simp only[pvl];omega)) only [↓pvd,pva,Pv.put,bin2,int2,binB2,un1,AV.flat,pvf,szOk,notStr,setCells,AV.one,resX,layC,layA,lay,List.map,List.replicate,List.length_replicate,pve,seval,reduceCtorEq]; exact ⟨_,rfl,rfl,rfl⟩)
def uA (m : Int) : AV := .int .u64 m
theorem uA_pl (m : Int) : (uA m).pl = true := rfl
theorem uA_nr (m : Int) : (uA m).nr1 = true := rfl
set_option maxHeartbeats 4000000 in
theorem index_run (l : List Int) (m : Int) (f : Bool) (hl : l.length ≤ 100000) : Run Try.prog 39 [.sl 1 (l.map uA) f, .int .u64 m] (.int .i64 (ixF m l 0)) := by
  refine Try.run39 (by simp) ?_
  unfold Try.c39
  have hla : (l.map uA).length = l.length := List.length_map _
  have hfin : ixF m l 0 = ixF m (l.drop 0) 0 := rfl
  generalize hr : ixF m l 0 = r at *
  simp (disch := first|omega|(simp only[pvl];omega)) only [↓pvd,pva,Pv.put,bin2,int2,binB2,un1,AV.flat,pvf,szOk,notStr,setCells,AV.one,resX,layC,layA,lay,List.map,List.replicate,List.length_replicate,pve,seval,reduceCtorEq,hla]
  refine aw_loop (fun k : Nat => ⟨[(0, .sl 1 (l.map uA) f), (1, .int .u64 m), (7, .int .i64 l.length), (8, .int .i64 k)], []⟩) (fun k => k ≤ l.length ∧ ixF m (l.drop k) k = r) (fun k => l.length - k) 0 ?_ ⟨by omega, hr⟩ ?_
  · simp (disch := first | omega | (simp only [pvl] at *; omega)) only [↓pvd,pva,Pv.put,bin2,int2,binB2,un1,AV.flat,pvf,szOk,notStr,setCells,AV.one,resX,layC,layA,lay,List.map,List.replicate,List.length_replicate,pve,seval,reduceCtorEq]
    try rfl
  intro k ⟨hk, he⟩
  unfold Try.c39b0
  by_cases hx : k < l.length
  · have hgi : (l.map uA)[k]? = some (.int .u64 l[k]!) := map_get hx
    rw [ixF_drop hx] at he
    generalize l[k]! = x at *
    by_cases hm : m = x
    · rw [if_pos hm] at he
      subst hm
      subst he
      simp (disch := first|omega|(simp only[pvl];omega)) only [↓pvd,pva,Pv.put,bin2,int2,binB2,un1,AV.flat,pvf,szOk,notStr,setCells,AV.one,resX,layC,layA,lay,List.map,List.replicate,List.length_replicate,pve,seval,reduceCtorEq,hgi,hla,beq_self_eq_true]
      (refine Ends_rq [] ?_; simp (disch := first|omega|(simp only[pvl];omega)) only [↓pvd,pva,Pv.put,bin2,int2,binB2,un1,AV.flat,pvf,szOk,notStr,setCells,AV.one,resX,layC,layA,lay,List.map,List.replicate,List.length_replicate,pve,seval,reduceCtorEq]; exact ⟨_,rfl,rfl,rfl⟩)
    · rw [if_neg hm] at he
      have hm2 : (m == x) = false := by simpa using hm
      simp (disch := first|omega|(simp only[pvl];omega)) only [↓pvd,pva,Pv.put,bin2,int2,binB2,un1,AV.flat,pvf,szOk,notStr,setCells,AV.one,resX,layC,layA,lay,List.map,List.replicate,List.length_replicate,pve,seval,reduceCtorEq,hgi,hla,hm,hm2]
      exact ⟨k + 1, rfl, ⟨by omega, he⟩, by omega⟩
  · obtain rfl : k = l.length := by omega
    have hr2 : r = -1 := by rw [← he]; simp [ixF]
    rw [hr2]
    simp (disch := first|omega|(simp only[pvl];omega)) only [↓pvd,pva,Pv.put,bin2,int2,binB2,un1,AV.flat,pvf,szOk,notStr,setCells,AV.one,resX,layC,layA,lay,List.map,List.replicate,List.length_replicate,pve,seval,reduceCtorEq,hla]
    (refine Ends_rq [] ?_; simp (disch := first|omega|(simp only[pvl];omega)) only [↓pvd,pva,Pv.put,bin2,int2,binB2,un1,AV.flat,pvf,szOk,notStr,setCells,AV.one,resX,layC,layA,lay,List.map,List.replicate,List.length_replicate,pve,seval,reduceCtorEq]; exact ⟨_,rfl,rfl,rfl⟩)
set_option maxHeartbeats 4000000 in
theorem contains_run (l : List Int) (m : Int) (f : Bool) (hl : l.length ≤ 100000) : Run Try.prog 26 [.sl 1 (l.map uA) f, .int .u64 m] (.bool (decide (m ∈ l))) := by
  refine Try.run26 (by simp) ?_
  unfold Try.c26
  have q := index_run l m f hl
  have hd := ixF_iff m l 0
  have hb := ixF_b m l 0
  rw [← hd]
  generalize ixF m l 0 = r at *
  simp (disch := first | omega | (simp only [pvl] at *; omega)) only [↓pvd,pva,Pv.put,bin2,int2,binB2,un1,AV.flat,pvf,szOk,notStr,setCells,AV.one,resX,layC,layA,lay,List.map,List.replicate,List.length_replicate,pve,seval,reduceCtorEq]
  refine awR_call q rfl rfl ?_
  simp (disch := first | omega | (simp only [pvl] at *; omega)) only [↓pvd,pva,Pv.put,bin2,int2,binB2,un1,AV.flat,pvf,szOk,notStr,setCells,AV.one,resX,layC,layA,lay,List.map,List.replicate,List.length_replicate,pve,seval,reduceCtorEq]
  (refine Ends_rq [] ?_; simp (disch := first|omega|(simp only[pvl];omega)) only [↓pvd,pva,Pv.put,bin2,int2,binB2,un1,AV.flat,pvf,szOk,notStr,setCells,AV.one,resX,layC,layA,lay,List.map,List.replicate,List.length_replicate,pve,seval,reduceCtorEq]; exact ⟨_,rfl,rfl,rfl⟩)
end Go.Proofs
set_option linter.unusedSimpArgs false
set_option linter.unusedVariables false
set_option maxHeartbeats 2000000
set_option maxRecDepth 20000
namespace Go.Proofs
open Go.Pv Go.Pv.Hq
def tq (l : List Sn) (k : Nat) : Int × Bool := Mc.tk l[k]!.b 6
set_option maxHeartbeats 16000000 in
theorem talk_run (l : List Sn) (f : Bool) (hl : l.length ≤ 10000) (hb : ∀ s ∈ l, s.b.length ≤ 2000) : Run Try.prog 10 [.sl 3 (l.map snR) f] (.own 1 33 ((TK (tq l) l.length).map uA)) := by
  refine Try.run10 (by simp) ?_
  unfold Try.c10
  have hla : (l.map snR).length = l.length := List.length_map _
  simp (disch := first|omega|(simp only[pvl];omega)) only [↓pvd,pva,Pv.put,bin2,int2,binB2,un1,AV.flat,pvf,szOk,notStr,setCells,AV.one,resX,layC,layA,lay,List.map,List.replicate,List.length_replicate,pve,seval,reduceCtorEq,hla]
  refine aw_loop (fun k : Nat => ⟨[(3, .vec 0 1 0 (TK (tq l) k).length), (8, .sl 3 (l.map snR) f), (9, .int .i64 l.length), (10, .int .i64 k)], [some ⟨33, (TK (tq l) k).map uA, true⟩]⟩) (fun k => k ≤ l.length) (fun k => l.length - k) 0 ?_ (by omega) ?_
  · simp only [TK]
    simp (disch := first | omega | (simp only [pvl] at *; omega)) only [↓pvd,pva,Pv.put,bin2,int2,binB2,un1,AV.flat,pvf,szOk,notStr,setCells,AV.one,resX,layC,layA,lay,List.map,List.replicate,List.length_replicate,pve,seval,reduceCtorEq]
    try rfl
  intro k hk
  unfold Try.c10b0
  have hlen := TK_len (tq l) k
  by_cases hx : k < l.length
  · have hgi : (l.map snR)[k]? = some (.agg [.int .i64 l[k]!.p, .int .i64 l[k]!.o, .sl 1 (bys l[k]!.b) l[k]!.f]) := map_get hx
    have hbk : l[k]!.b.length ≤ 2000 := hb _ (by rw [getElem!_pos l k hx]; exact List.getElem_mem hx)
    have q1 := Mc.take_run l[k]!.b 6 l[k]!.f (by omega) (by omega)
    have hsn : TK (tq l) (k + 1) = tkN (TK (tq l) k) (Mc.tk l[k]!.b 6).1 (Mc.tk l[k]!.b 6).2 := rfl
    generalize Mc.tk l[k]!.b 6 = mo at *
    obtain ⟨m, ok⟩ := mo
    generalize hO1 : TK (tq l) (k + 1) = O1 at *
    generalize TK (tq l) k = O at *
    have q2 := contains_run O m false (by omega)
    unfold tkN at hsn
    generalize bys l[k]!.b = B at *
    generalize l[k]! = s at *
    simp (disch := first|omega|(simp only[pvl];omega)) only [↓pvd,pva,Pv.put,bin2,int2,binB2,un1,AV.flat,pvf,szOk,notStr,setCells,AV.one,resX,layC,layA,lay,List.map,List.replicate,List.length_replicate,pve,seval,reduceCtorEq,hgi,hla]
    refine awR_call q1 rfl rfl ?_
    cases ok with
    | false =>
      have hsn2 : O1 = O := by rw [hsn, if_neg (by simp)]
      subst hsn2
      simp (disch := first|omega|(simp only[pvl];omega)) only [↓pvd,pva,Pv.put,bin2,int2,binB2,un1,AV.flat,pvf,szOk,notStr,setCells,AV.one,resX,layC,layA,lay,List.map,List.replicate,List.length_replicate,pve,seval,reduceCtorEq,ids_map uA_pl,ren_map uA_pl]
      exact ⟨k + 1, by rw [hO1]; rfl, by omega, by omega⟩
    | true =>
      by_cases hm : m ∈ O
      · have hsn2 : O1 = O := by rw [hsn, if_neg (by simp [hm])]
        subst hsn2
        rw [decide_eq_true hm] at q2
        simp (disch := first|omega|(simp only[pvl];omega)) only [↓pvd,pva,Pv.put,bin2,int2,binB2,un1,AV.flat,pvf,szOk,notStr,setCells,AV.one,resX,layC,layA,lay,List.map,List.replicate,List.length_replicate,pve,seval,reduceCtorEq,ids_map uA_pl,ren_map uA_pl]
        refine awR_callR (ms := []) q2 (by simp (disch := first|omega|(simp only[pvl];omega)) only [↓pvd,pva,Pv.put,bin2,int2,binB2,un1,AV.flat,pvf,szOk,notStr,setCells,AV.one,resX,layC,layA,lay,List.map,List.replicate,List.length_replicate,pve,seval,reduceCtorEq,mapO_map uA_nr,rows_map uA_nr]; rfl) (by simp (disch := first|omega|(simp only[pvl];omega)) only [↓pvd,pva,Pv.put,bin2,int2,binB2,un1,AV.flat,pvf,szOk,notStr,setCells,AV.one,resX,layC,layA,lay,List.map,List.replicate,List.length_replicate,pve,seval,reduceCtorEq,mapO_map uA_nr,rows_map uA_nr]) rfl ?_
        simp (disch := first|omega|(simp only[pvl];omega)) only [↓pvd,pva,Pv.put,bin2,int2,binB2,un1,AV.flat,pvf,szOk,notStr,setCells,AV.one,resX,layC,layA,lay,List.map,List.replicate,List.length_replicate,pve,seval,reduceCtorEq,ids_map uA_pl,ren_map uA_pl]
        exact ⟨k + 1, by rw [hO1]; rfl, by omega, by omega⟩
      · have hsn2 : O1 = O ++ [m] := by rw [hsn, if_pos ⟨rfl, hm⟩]
        rw [decide_eq_false hm] at q2
        have hmm : O.map uA ++ [AV.int .u64 m] = O1.map uA := by rw [hsn2]; simp [uA]
        have hln : O.length + 1 = O1.length := by rw [hsn2]; simp
        simp (disch := first|omega|(simp only[pvl];omega)) only [↓pvd,pva,Pv.put,bin2,int2,binB2,un1,AV.flat,pvf,szOk,notStr,setCells,AV.one,resX,layC,layA,lay,List.map,List.replicate,List.length_replicate,pve,seval,reduceCtorEq,ids_map uA_pl,ren_map uA_pl]
        refine awR_callR (ms := []) q2 (by simp (disch := first|omega|(simp only[pvl];omega)) only [↓pvd,pva,Pv.put,bin2,int2,binB2,un1,AV.flat,pvf,szOk,notStr,setCells,AV.one,resX,layC,layA,lay,List.map,List.replicate,List.length_replicate,pve,seval,reduceCtorEq,mapO_map uA_nr,rows_map uA_nr]; rfl) (by simp (disch := first|omega|(simp only[pvl];omega)) only [↓pvd,pva,Pv.put,bin2,int2,binB2,un1,AV.flat,pvf,szOk,notStr,setCells,AV.one,resX,layC,layA,lay,List.map,List.replicate,List.length_replicate,pve,seval,reduceCtorEq,mapO_map uA_nr,rows_map uA_nr]) rfl ?_
        simp (disch := first|omega|(simp only[pvl];omega)) only [↓pvd,pva,Pv.put,bin2,int2,binB2,un1,AV.flat,pvf,szOk,notStr,setCells,AV.one,resX,layC,layA,lay,List.map,List.replicate,List.length_replicate,pve,seval,reduceCtorEq,hmm,hln,ids_map uA_pl,ren_map uA_pl]
        exact ⟨k + 1, by rw [hO1]; rfl, by omega, by omega⟩
  · obtain rfl : k = l.length := by omega
    simp (disch := first|omega|(simp only[pvl];omega)) only [↓pvd,pva,Pv.put,bin2,int2,binB2,un1,AV.flat,pvf,szOk,notStr,setCells,AV.one,resX,layC,layA,lay,List.map,List.replicate,List.length_replicate,pve,seval,reduceCtorEq,hla]
    (refine Ends_rq [[.own 1 33]] ?_; simp (disch := first|omega|(simp only[pvl];omega)) only [↓pvd,pva,Pv.put,bin2,int2,binB2,un1,AV.flat,pvf,szOk,notStr,setCells,AV.one,resX,layC,layA,lay,List.map,List.replicate,List.length_replicate,pve,seval,reduceCtorEq,mapO_map uA_nr,rows_map uA_nr]; exact ⟨_,rfl,rfl,rfl⟩)
set_option maxHeartbeats 16000000 in
theorem rtalk_run (l : List Sn) (f : Bool) (hl : l.length ≤ 10000) (hb : ∀ s ∈ l, s.b.length ≤ 2000) : Run Try.prog 11 [.sl 3 (l.map snR) f] (.own 1 33 ((TK (tq l) l.length).map uA)) := by
  refine Try.run11 (by simp) ?_
  unfold Try.c11
  have hla : (l.map snR).length = l.length := List.length_map _
  simp (disch := first|omega|(simp only[pvl];omega)) only [↓pvd,pva,Pv.put,bin2,int2,binB2,un1,AV.flat,pvf,szOk,notStr,setCells,AV.one,resX,layC,layA,lay,List.map,List.replicate,List.length_replicate,pve,seval,reduceCtorEq,hla]
  refine aw_loop (fun k : Nat => ⟨[(0, .sl 3 (l.map snR) f), (3, .vec 0 1 0 (TK (tq l) k).length), (4, .int .i64 k)], [some ⟨33, (TK (tq l) k).map uA, true⟩]⟩) (fun k => k ≤ l.length) (fun k => l.length - k) 0 ?_ (by omega) ?_
  · simp only [TK]
    simp (disch := first | omega | (simp only [pvl] at *; omega)) only [↓pvd,pva,Pv.put,bin2,int2,binB2,un1,AV.flat,pvf,szOk,notStr,setCells,AV.one,resX,layC,layA,lay,List.map,List.replicate,List.length_replicate,pve,seval,reduceCtorEq]
    try rfl
  intro k hk
  unfold Try.c11b1
  have hlen := TK_len (tq l) k
  by_cases hx : k < l.length
  · have hgi : (l.map snR)[k]? = some (.agg [.int .i64 l[k]!.p, .int .i64 l[k]!.o, .sl 1 (bys l[k]!.b) l[k]!.f]) := map_get hx
    have hbk : l[k]!.b.length ≤ 2000 := hb _ (by rw [getElem!_pos l k hx]; exact List.getElem_mem hx)
    have q1 := Mc.ref_take_run l[k]!.b 6 l[k]!.f (by omega) (by omega)
    have hsn : TK (tq l) (k + 1) = tkN (TK (tq l) k) (Mc.tk l[k]!.b 6).1 (Mc.tk l[k]!.b 6).2 := rfl
    generalize Mc.tk l[k]!.b 6 = mo at *
    obtain ⟨m, ok⟩ := mo
    generalize hO1 : TK (tq l) (k + 1) = O1 at *
    generalize TK (tq l) k = O at *
    unfold tkN at hsn
    generalize bys l[k]!.b = B at *
    generalize l[k]! = s at *
    have hoe := oI_end O m ok
    simp (disch := first|omega|(simp only[pvl];omega)) only [↓pvd,pva,Pv.put,bin2,int2,binB2,un1,AV.flat,pvf,szOk,notStr,setCells,AV.one,resX,layC,layA,lay,List.map,List.replicate,List.length_replicate,pve,seval,reduceCtorEq,hgi,hla]
    refine awR_call q1 rfl rfl ?_
    simp (disch := first|omega|(simp only[pvl];omega)) only [↓pvd,pva,Pv.put,bin2,int2,binB2,un1,AV.flat,pvf,szOk,notStr,setCells,AV.one,resX,layC,layA,lay,List.map,List.replicate,List.length_replicate,pve,seval,reduceCtorEq,ids_map uA_pl,ren_map uA_pl]
    refine aw_loop (fun i : Nat => ⟨[(0, .sl 3 (l.map snR) f), (3, .vec 0 1 0 O.length), (4, .int .i64 k), (5, .int .u64 m), (6, .bool (oI O m ok i)), (7, .int .i64 i)], [some ⟨33, O.map uA, true⟩]⟩) (fun i => i ≤ O.length) (fun i => O.length - i) 0 ?_ (by omega) ?_
    · simp only [oI]
      simp (disch := first|omega|(simp only[pvl];omega)) only [↓pvd,pva,Pv.put,bin2,int2,binB2,un1,AV.flat,pvf,szOk,notStr,setCells,AV.one,resX,layC,layA,lay,List.map,List.replicate,List.length_replicate,pve,seval,reduceCtorEq,ids_map uA_pl,ren_map uA_pl]
      try rfl
    intro i hi
    unfold Try.c11b0
    have hlm : (O.map uA).length = O.length := List.length_map _
    by_cases hy : i < O.length
    · have hgo : (O.map uA)[i]? = some (.int .u64 O[i]!) := map_get hy
      have hst : oI O m ok (i + 1) = if oI O m ok i = true then O[i]! != m else false := rfl
      generalize hb1 : oI O m ok (i + 1) = b1 at *
      generalize oI O m ok i = b0 at *
      generalize O[i]! = x at *
      cases b0 with
      | false =>
        rw [if_neg (by simp)] at hst
        simp (disch := first|omega|(simp only[pvl];omega)) only [↓pvd,pva,Pv.put,bin2,int2,binB2,un1,AV.flat,pvf,szOk,notStr,setCells,AV.one,resX,layC,layA,lay,List.map,List.replicate,List.length_replicate,pve,seval,reduceCtorEq,hla,hlm,ids_map uA_pl,ren_map uA_pl]
        exact ⟨i + 1, by rw [hb1, hst]; rfl, by omega, by omega⟩
      | true =>
        rw [if_pos rfl] at hst
        have hpl : (O.map uA).all AV.pl = true := pl_map uA_pl
        generalize hR : O.map uA = R at *
        simp (disch := first|omega|(simp only[pvl];omega)) only [↓pvd,pva,Pv.put,bin2,int2,binB2,un1,AV.flat,pvf,szOk,notStr,setCells,AV.one,resX,layC,layA,lay,List.map,List.replicate,List.length_replicate,pve,seval,reduceCtorEq,hla,hgo,hlm,ids_all hpl,ren_all hpl]
        exact ⟨i + 1, by rw [hb1, hst, show (x != m) = decide (¬ x = m) by by_cases h : x = m <;> simp [h]]; rfl, by omega, by omega⟩
    · obtain rfl : i = O.length := by omega
      rw [hoe]
      cases ok with
      | false =>
        have hsn2 : O1 = O := by rw [hsn, if_neg (by simp)]
        rw [Bool.false_and]
        subst hsn2
        simp (disch := first|omega|(simp only[pvl];omega)) only [↓pvd,pva,Pv.put,bin2,int2,binB2,un1,AV.flat,pvf,szOk,notStr,setCells,AV.one,resX,layC,layA,lay,List.map,List.replicate,List.length_replicate,pve,seval,reduceCtorEq,hla,hlm,ids_map uA_pl,ren_map uA_pl]
        exact ⟨k + 1, by rw [hO1]; rfl, by omega, by omega⟩
      | true =>
        by_cases hm : m ∈ O
        · have hsn2 : O1 = O := by rw [hsn, if_neg (by simp [hm])]
          rw [Bool.true_and, decide_eq_false (not_not_intro hm)]
          subst hsn2
          simp (disch := first|omega|(simp only[pvl];omega)) only [↓pvd,pva,Pv.put,bin2,int2,binB2,un1,AV.flat,pvf,szOk,notStr,setCells,AV.one,resX,layC,layA,lay,List.map,List.replicate,List.length_replicate,pve,seval,reduceCtorEq,hla,hlm,ids_map uA_pl,ren_map uA_pl]
          exact ⟨k + 1, by rw [hO1]; rfl, by omega, by omega⟩
        · have hsn2 : O1 = O ++ [m] := by rw [hsn, if_pos ⟨rfl, hm⟩]
          rw [Bool.true_and, decide_eq_true hm]
          have hmm : O.map uA ++ [AV.int .u64 m] = O1.map uA := by rw [hsn2]; simp [uA]
          have hln : O.length + 1 = O1.length := by rw [hsn2]; simp
          simp (disch := first|omega|(simp only[pvl];omega)) only [↓pvd,pva,Pv.put,bin2,int2,binB2,un1,AV.flat,pvf,szOk,notStr,setCells,AV.one,resX,layC,layA,lay,List.map,List.replicate,List.length_replicate,pve,seval,reduceCtorEq,hla,hlm,hmm,hln,ids_map uA_pl,ren_map uA_pl]
          exact ⟨k + 1, by rw [hO1]; rfl, by omega, by omega⟩
  · obtain rfl : k = l.length := by omega
    simp (disch := first|omega|(simp only[pvl];omega)) only [↓pvd,pva,Pv.put,bin2,int2,binB2,un1,AV.flat,pvf,szOk,notStr,setCells,AV.one,resX,layC,layA,lay,List.map,List.replicate,List.length_replicate,pve,seval,reduceCtorEq,hla]
    (refine Ends_rq [[.own 1 33]] ?_; simp (disch := first|omega|(simp only[pvl];omega)) only [↓pvd,pva,Pv.put,bin2,int2,binB2,un1,AV.flat,pvf,szOk,notStr,setCells,AV.one,resX,layC,layA,lay,List.map,List.replicate,List.length_replicate,pve,seval,reduceCtorEq,mapO_map uA_nr,rows_map uA_nr]; exact ⟨_,rfl,rfl,rfl⟩)
end Go.Proofs
set_option linter.unusedSimpArgs false
set_option linter.unusedVariables false
set_option maxHeartbeats 2000000
set_option maxRecDepth 20000
namespace Go.Proofs
open Go.Pv Go.Pv.Hq
theorem portsS_len (l : List Sn) : (portsS (snK l)).length ≤ l.length := by
  have h := portsK_len (snK l) (snK l).length
  have e : (snK l).length = l.length := by simp [snK]
  unfold portsS
  omega
set_option maxHeartbeats 16000000 in
theorem statsCounts_run (l : List Sn) (f : Bool) (hl : l.length ≤ maxLen) (hw : ∀ s ∈ l, -9223372036854775808 ≤ s.p ∧ s.p < 9223372036854775808) : Run Try.prog 4 [.sl 3 (l.map snR) f] (.bool true) := by
  have w := works_run
  have g := great_run l f hl
  refine Try.run4 (by simp) ?_
  unfold Try.c4
  by_cases hg : l.length ≤ 200 ∧ ∀ s ∈ l, s.b.length ≤ 2000
  · have hgf : grF l = false := decide_eq_false fun h => h hg
    rw [hgf] at g
    obtain ⟨h1, h2⟩ := hg
    have pl := portsS_len l
    have q1 := run_frz (talk_run l f (by omega) h2)
    have q2 := run_frz (rtalk_run l f (by omega) h2)
    have q3 := run_frz (ports_run l f hw (by omega))
    have q4 := run_frz (told_run (portsS (snK l)) false (by omega))
    have q5 := run_frz (rports_run l f (by omega))
    have q6 := same_run (portsS (snK l)) false false (by omega)
    have tl := TK_len (tq l) l.length
    simp only [frz,frzA,frzC] at q1 q2 q3 q4 q5
    generalize TK (tq l) l.length = T at *
    generalize portsS (snK l) = P at *
    have hlt : (T.map uA).length = T.length := List.length_map _
    simp (disch := first | omega | (simp only [pvl] at *; omega)) only [↓pvd,pva,Pv.put,bin2,int2,binB2,un1,AV.flat,pvf,szOk,notStr,setCells,AV.one,resX,layC,layA,lay,List.map,List.replicate,List.length_replicate,pve,seval,reduceCtorEq]
    refine awR_call g rfl rfl ?_
    simp (disch := first | omega | (simp only [pvl] at *; omega)) only [↓pvd,pva,Pv.put,bin2,int2,binB2,un1,AV.flat,pvf,szOk,notStr,setCells,AV.one,resX,layC,layA,lay,List.map,List.replicate,List.length_replicate,pve,seval,reduceCtorEq]
    refine awR_call q1 rfl rfl ?_
    simp (disch := first | omega | (simp only [pvl] at *; omega)) only [↓pvd,pva,Pv.put,bin2,int2,binB2,un1,AV.flat,pvf,szOk,notStr,setCells,AV.one,resX,layC,layA,lay,List.map,List.replicate,List.length_replicate,pve,seval,reduceCtorEq]
    refine awR_call q2 rfl rfl ?_
    simp (disch := first|omega|(simp only[pvl];omega)) only [↓pvd,pva,Pv.put,bin2,int2,binB2,un1,AV.flat,pvf,szOk,notStr,setCells,AV.one,resX,layC,layA,lay,List.map,List.replicate,List.length_replicate,pve,seval,reduceCtorEq,hlt,bne_self_eq_false]
    refine aw_loop (fun k : Nat => ⟨[(0, .sl 3 (l.map snR) f), (3, .sl 1 (T.map uA) false), (4, .sl 1 (T.map uA) false), (19, .int .i64 T.length), (20, .int .i64 k)], []⟩) (fun k => k ≤ T.length) (fun k => T.length - k) 0 ?_ (by omega) ?_
    · simp (disch := first | omega | (simp only [pvl] at *; omega)) only [↓pvd,pva,Pv.put,bin2,int2,binB2,un1,AV.flat,pvf,szOk,notStr,setCells,AV.one,resX,layC,layA,lay,List.map,List.replicate,List.length_replicate,pve,seval,reduceCtorEq]
      try rfl
    intro k hk
    unfold Try.c4b0
    by_cases hx : k < T.length
    · have hgi : (T.map uA)[k]? = some (.int .u64 T[k]!) := map_get hx
      generalize T[k]! = x at *
      generalize T.map uA = R at *
      simp (disch := first|omega|(simp only[pvl];omega)) only [↓pvd,pva,Pv.put,bin2,int2,binB2,un1,AV.flat,pvf,szOk,notStr,setCells,AV.one,resX,layC,layA,lay,List.map,List.replicate,List.length_replicate,pve,seval,reduceCtorEq,hgi,hlt,bne_self_eq_false]
      exact ⟨k + 1, rfl, by omega, by omega⟩
    · obtain rfl : k = T.length := by omega
      simp (disch := first|omega|(simp only[pvl];omega)) only [↓pvd,pva,Pv.put,bin2,int2,binB2,un1,AV.flat,pvf,szOk,notStr,setCells,AV.one,resX,layC,layA,lay,List.map,List.replicate,List.length_replicate,pve,seval,reduceCtorEq,hlt]
      refine awR_call q3 rfl rfl ?_
      simp (disch := first | omega | (simp only [pvl] at *; omega)) only [↓pvd,pva,Pv.put,bin2,int2,binB2,un1,AV.flat,pvf,szOk,notStr,setCells,AV.one,resX,layC,layA,lay,List.map,List.replicate,List.length_replicate,pve,seval,reduceCtorEq]
      refine awR_call q4 rfl rfl ?_
      simp (disch := first | omega | (simp only [pvl] at *; omega)) only [↓pvd,pva,Pv.put,bin2,int2,binB2,un1,AV.flat,pvf,szOk,notStr,setCells,AV.one,resX,layC,layA,lay,List.map,List.replicate,List.length_replicate,pve,seval,reduceCtorEq]
      refine awR_call q5 rfl rfl ?_
      simp (disch := first | omega | (simp only [pvl] at *; omega)) only [↓pvd,pva,Pv.put,bin2,int2,binB2,un1,AV.flat,pvf,szOk,notStr,setCells,AV.one,resX,layC,layA,lay,List.map,List.replicate,List.length_replicate,pve,seval,reduceCtorEq]
      refine awR_call q6 rfl rfl ?_
      simp (disch := first | omega | (simp only [pvl] at *; omega)) only [↓pvd,pva,Pv.put,bin2,int2,binB2,un1,AV.flat,pvf,szOk,notStr,setCells,AV.one,resX,layC,layA,lay,List.map,List.replicate,List.length_replicate,pve,seval,reduceCtorEq]
      refine awR_call w rfl rfl ?_
      simp (disch := first | omega | (simp only [pvl] at *; omega)) only [↓pvd,pva,Pv.put,bin2,int2,binB2,un1,AV.flat,pvf,szOk,notStr,setCells,AV.one,resX,layC,layA,lay,List.map,List.replicate,List.length_replicate,pve,seval,reduceCtorEq]
      (refine Ends_rq [] ?_; simp (disch := first|omega|(simp only[pvl];omega)) only [↓pvd,pva,Pv.put,bin2,int2,binB2,un1,AV.flat,pvf,szOk,notStr,setCells,AV.one,resX,layC,layA,lay,List.map,List.replicate,List.length_replicate,pve,seval,reduceCtorEq]; exact ⟨_,rfl,rfl,rfl⟩)
  · have hgf : grF l = true := decide_eq_true hg
    rw [hgf] at g
    simp (disch := first | omega | (simp only [pvl] at *; omega)) only [↓pvd,pva,Pv.put,bin2,int2,binB2,un1,AV.flat,pvf,szOk,notStr,setCells,AV.one,resX,layC,layA,lay,List.map,List.replicate,List.length_replicate,pve,seval,reduceCtorEq]
    refine awR_call g rfl rfl ?_
    simp (disch := first | omega | (simp only [pvl] at *; omega)) only [↓pvd,pva,Pv.put,bin2,int2,binB2,un1,AV.flat,pvf,szOk,notStr,setCells,AV.one,resX,layC,layA,lay,List.map,List.replicate,List.length_replicate,pve,seval,reduceCtorEq]
    refine awR_call w rfl rfl ?_
    simp (disch := first | omega | (simp only [pvl] at *; omega)) only [↓pvd,pva,Pv.put,bin2,int2,binB2,un1,AV.flat,pvf,szOk,notStr,setCells,AV.one,resX,layC,layA,lay,List.map,List.replicate,List.length_replicate,pve,seval,reduceCtorEq]
    (refine Ends_rq [] ?_; simp (disch := first|omega|(simp only[pvl];omega)) only [↓pvd,pva,Pv.put,bin2,int2,binB2,un1,AV.flat,pvf,szOk,notStr,setCells,AV.one,resX,layC,layA,lay,List.map,List.replicate,List.length_replicate,pve,seval,reduceCtorEq]; exact ⟨_,rfl,rfl,rfl⟩)
theorem dat_seen {d : Nat} {y : AV} (h : DatV Try.prog (d + 4) 47 y) : ∃ r : Sn, y = snR r ∧ (-9223372036854775808 ≤ r.p ∧ r.p < 9223372036854775808) := by
  obtain ⟨cs, rfl, hl, hf⟩ := dat_struct Try.underlying47 h
  rw [show Try.prog.cellsOf 47 = 3 by kernel_rfl] at hl
  match cs, hl with
  | [x0, x1, x2], _ =>
    simp only [List.mem_cons,List.not_mem_nil,or_false,forall_eq_or_imp,forall_eq] at hf
    obtain ⟨f0, f1, f2⟩ := hf
    rw [show Try.prog.cellsOf 3 = 1 by kernel_rfl] at f0 f1
    rw [show Try.prog.cellsOf 45 = 1 by kernel_rfl] at f2
    obtain ⟨m0, e0, w0⟩ := dat1_int Try.underlying3 f0
    obtain ⟨m1, e1, w1⟩ := dat1_int Try.underlying3 f1
    obtain ⟨b, e3, w3⟩ := dat1_bys Try.underlying45 Try.underlying5 (by kernel_rfl) f2
    simp at e0 e1 e3
    subst e0 e1 e3
    exact ⟨⟨m0, m1, b, false⟩, rfl, i64w w0⟩
theorem statsCounts_all : ∀ xs, DatL Try.prog 6 Try.f4.params.toList xs → Run Try.prog 4 xs (.bool true) := by
  intro xs h
  rw [show Try.f4.params.toList = [29] from rfl] at h
  obtain ⟨y1, rfl, h1⟩ := datL1 h
  obtain ⟨es, rfl, hl, g1⟩ := dat_slice Try.underlying29 h1
  obtain ⟨l, rfl, hk⟩ := map_ofP (f := snR) (p := fun r => -9223372036854775808 ≤ r.p ∧ r.p < 9223372036854775808) (es := es) fun x hx => dat_seen (g1 x hx)
  rw [show Try.prog.cellsOf 47 = 3 by kernel_rfl]
  exact statsCounts_run l false (by simpa using hl) hk
end Go.Proofs
