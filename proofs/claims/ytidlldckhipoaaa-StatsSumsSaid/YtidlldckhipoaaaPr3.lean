/- The proofs of what the functions of this seat do. -/
import Derived.Test.YtidlldckhipoaaaPr2
set_option linter.unusedSimpArgs false
set_option linter.unusedVariables false
set_option maxHeartbeats 2000000
set_option maxRecDepth 20000
namespace Go.Proofs
open Go.Pv Go.Pv.Hq
theorem seen_eq {l : List Sn} {k : Nat} (hx : k < l.length) : seenC (snK l) k = ⟨l[k]!.p, 1, l[k]!.b.length, k, k⟩ := by
  have hlk : (snK l).length = l.length := by simp [snK]
  have e1 : (snK l)[k]! = (l[k]!.p, l[k]!.b.length) := by
    rw [getElem!_pos (snK l) k (by rw [hlk]; exact hx), getElem!_pos l k hx]; simp [snK]
  unfold seenC
  rw [e1]
theorem addI_ok {L : List Cn} {c : Cn} (h : ∀ x ∈ L, CnOk x) (hc : CnOk c) : ∀ x ∈ addI L c, CnOk x := by
  induction L with
  | nil => intro x hx; rw [show x = c by simpa [addI] using hx]; exact hc
  | cons y r ih =>
    have hy := h y List.mem_cons_self
    have hr : ∀ x ∈ r, CnOk x := fun x hx => h x (List.mem_cons_of_mem _ hx)
    intro x hx
    unfold addI at hx
    split at hx
    · rcases List.mem_cons.1 hx with rfl | hx
      · obtain ⟨_, _, a1, a2⟩ := wr_ex (y.f + c.f)
        obtain ⟨_, _, a3, a4⟩ := wr_ex (y.b + c.b)
        obtain ⟨b1, _, _, b4, b5⟩ := hy
        obtain ⟨_, _, _, c4, c5⟩ := hc
        refine ⟨b1, ⟨a1, a2⟩, ⟨a3, a4⟩, ?_, ?_⟩ <;> (simp only [upd]; omega)
      · exact hr x hx
    · split at hx
      · rcases List.mem_cons.1 hx with rfl | hx
        · exact hc
        · exact h x hx
      · rcases List.mem_cons.1 hx with rfl | hx
        · exact hy
        · exact ih hr x hx
def pOk (l : List Sn) : Prop := ∀ s ∈ l, -9223372036854775808 ≤ s.p ∧ s.p < 9223372036854775808
theorem portsK_ok {l : List Sn} (hw : pOk l) (hb : ∀ s ∈ l, s.b.length ≤ 2000) (hl : l.length ≤ 10000) (k : Nat) (hk : k ≤ l.length) : ∀ x ∈ portsK (snK l) k, CnOk x := by
  induction k with
  | zero => intro x hx; cases hx
  | succ k ih =>
    have hk' : k < l.length := hk
    have hm : l[k]! ∈ l := by rw [getElem!_pos l k hk']; exact List.getElem_mem _
    have h1 := hw _ hm
    have h2 := hb _ hm
    have e : portsK (snK l) (k + 1) = addI (portsK (snK l) k) ⟨l[k]!.p, 1, l[k]!.b.length, k, k⟩ := by
      rw [← seen_eq hk', ← addS_eq (portsK_srt _ _)]; rfl
    rw [e]
    refine addI_ok (ih (by omega)) ⟨h1, ?_, ?_, ?_, ?_⟩ <;> (simp only; omega)
theorem foldK_ok {l : List Cn} (h : ∀ x ∈ l, CnOk x) (k : Nat) (hk : k ≤ l.length) : ∀ x ∈ foldK l k, CnOk x := by
  induction k with
  | zero => intro x hx; cases hx
  | succ k ih =>
    have hk' : k < l.length := hk
    have e : foldK l (k + 1) = addI (foldK l k) l[k]! := by rw [← addS_eq (foldK_srt _ _)]; rfl
    rw [e]
    exact addI_ok (ih (by omega)) (h _ (by rw [getElem!_pos l k hk']; exact List.getElem_mem _))
def oneS (q : Int) (s : Sn) : Option (Int × Int) := if s.p = q then some (1, (s.b.length : Int)) else none
theorem look_ports (l : List Sn) (q : Int) (k : Nat) (hk : k ≤ l.length) : lkC (portsK (snK l) k) q = allC ((l.take k).map (oneS q)) := by
  induction k with
  | zero => rfl
  | succ k ih =>
    have hk' : k < l.length := hk
    have e : portsK (snK l) (k + 1) = addS (portsK (snK l) k) ⟨l[k]!.p, 1, l[k]!.b.length, k, k⟩ := by
      rw [← seen_eq hk']; rfl
    rw [e, look_addS (portsK_srt _ _), ih (by omega), List.take_succ_eq_append_getElem hk', List.map_append, List.map_cons, List.map_nil, all_snoc, getElem!_pos l k hk']
    rfl
theorem look_fold (l : List Cn) (q : Int) (k : Nat) (hk : k ≤ l.length) : lkC (foldK l k) q = allC ((l.take k).map fun c => oneC c q) := by
  induction k with
  | zero => rfl
  | succ k ih =>
    have hk' : k < l.length := hk
    have e : foldK l (k + 1) = addS (foldK l k) l[k]! := rfl
    rw [e, look_addS (foldK_srt _ _), ih (by omega), List.take_succ_eq_append_getElem hk', List.map_append, List.map_cons, List.map_nil, all_snoc, getElem!_pos l k hk']
theorem snK_len (l : List Sn) : (snK l).length = l.length := by simp [snK]
theorem look_portsS (l : List Sn) (q : Int) : lkC (portsS (snK l)) q = allC (l.map (oneS q)) := by
  have h := look_ports l q l.length (Nat.le_refl _)
  rw [List.take_length] at h
  unfold portsS
  rw [snK_len]
  exact h
theorem merge_eq (a b : List Sn) : (mergeS (portsS (snK a)) (portsS (snK b))).map z3 = (portsS (snK (a ++ b))).map z3 := by
  refine look_ext (foldK_srt _ _) (portsK_srt _ _) fun q => ?_
  have h := look_fold (portsS (snK a) ++ portsS (snK b)) q _ (Nat.le_refl _)
  rw [List.take_length] at h
  show lkC (mergeS _ _) q = lkC (portsS _) q
  unfold mergeS
  rw [h, List.map_append, all_append, look_all (L := portsS (snK a)) (portsK_srt _ _), look_all (L := portsS (snK b)) (portsK_srt _ _), look_portsS, look_portsS, look_portsS, List.map_append, all_append]
theorem textS_eq {L M : List Cn} (h : L.map z3 = M.map z3) : textS L = textS M := by
  have key : ∀ L : List Cn, textS L = (L.map z3).flatMap fun x => Nm.txF x.1 ++ [32] ++ Nm.txF x.2.1 ++ [32] ++ Nm.txF x.2.2 ++ [10] := fun L => by
    unfold textS
    rw [List.flatMap_map]
    rfl
  rw [key, key, h]
def blS (l : List Sn) : Nat → Nat
  | 0 => 0
  | k + 1 => blS l k + l[k]!.b.length
theorem blS_le {l : List Sn} (hb : ∀ s ∈ l, s.b.length ≤ 2000) (k : Nat) (hk : k ≤ l.length) : blS l k ≤ k * 2000 := by
  induction k with
  | zero => simp [blS]
  | succ k ih =>
    have hk' : k < l.length := hk
    have h1 := ih (by omega)
    have h2 := hb l[k]! (by rw [getElem!_pos l k hk']; exact List.getElem_mem _)
    have e : blS l (k + 1) = blS l k + l[k]!.b.length := rfl
    omega
theorem tF_ports (l : List Sn) (k : Nat) (hk : k ≤ l.length) : ∃ m : Int, tF (portsK (snK l) k) = k + m * 18446744073709551616 := by
  induction k with
  | zero => exact ⟨0, by simp [portsK, tF]⟩
  | succ k ih =>
    obtain ⟨m, h⟩ := ih (by omega)
    have e : portsK (snK l) (k + 1) = addI (portsK (snK l) k) ⟨l[k]!.p, 1, l[k]!.b.length, k, k⟩ := by
      rw [← seen_eq hk, ← addS_eq (portsK_srt _ _)]; rfl
    obtain ⟨n, hn⟩ := tF_addI (portsK (snK l) k) ⟨l[k]!.p, 1, l[k]!.b.length, k, k⟩
    simp only at hn
    rw [e]
    exact ⟨m + n, by omega⟩
theorem tB_ports (l : List Sn) (k : Nat) (hk : k ≤ l.length) : ∃ m : Int, tB (portsK (snK l) k) = blS l k + m * 18446744073709551616 := by
  induction k with
  | zero => exact ⟨0, by simp [portsK, tB, blS]⟩
  | succ k ih =>
    obtain ⟨m, h⟩ := ih (by omega)
    have e : portsK (snK l) (k + 1) = addI (portsK (snK l) k) ⟨l[k]!.p, 1, l[k]!.b.length, k, k⟩ := by
      rw [← seen_eq hk, ← addS_eq (portsK_srt _ _)]; rfl
    obtain ⟨n, hn⟩ := tB_addI (portsK (snK l) k) ⟨l[k]!.p, 1, l[k]!.b.length, k, k⟩
    simp only at hn
    have e2 : blS l (k + 1) = blS l k + l[k]!.b.length := rfl
    rw [e]
    exact ⟨m + n, by omega⟩
theorem sums_eq {l : List Sn} (hl : l.length ≤ 10000) (hb : ∀ s ∈ l, s.b.length ≤ 2000) : sF (portsS (snK l)) (portsS (snK l)).length = l.length ∧ sB (portsS (snK l)) (portsS (snK l)).length = blS l l.length := by
  have h1 := blS_le hb l.length (Nat.le_refl _)
  obtain ⟨m1, e1⟩ := tF_ports l l.length (Nat.le_refl _)
  obtain ⟨m2, e2⟩ := tB_ports l l.length (Nat.le_refl _)
  obtain ⟨m3, e3, e4, e5⟩ := sF_ex (portsS (snK l)) _ (Nat.le_refl _)
  obtain ⟨m4, e6, e7, e8⟩ := sB_ex (portsS (snK l)) _ (Nat.le_refl _)
  rw [List.take_length] at e3 e6
  rw [show portsK (snK l) l.length = portsS (snK l) by unfold portsS; rw [snK_len]] at e1 e2
  constructor <;> omega
set_option maxHeartbeats 4000000 in
theorem sum_run (l : List Cn) (f : Bool) (hl : l.length ≤ 100000) : Run Try.prog 21 [.sl 5 (l.map cnA) f] (.tup [.int .i64 (sF l l.length), .int .i64 (sB l l.length)]) := by
  refine Try.run21 (by simp) ?_
  unfold Try.c21
  have hla : (l.map cnA).length = l.length := List.length_map _
  simp (disch := first|omega|(simp only[pvl];omega)) only [↓pvd,pva,Pv.put,bin2,int2,binB2,un1,AV.flat,pvf,szOk,notStr,setCells,AV.one,resX,layC,layA,lay,List.map,List.replicate,List.length_replicate,pve,seval,reduceCtorEq,hla]
  refine aw_loop (fun k : Nat => ⟨[(2, .int .i64 (sF l k)), (3, .int .i64 (sB l k)), (6, .sl 5 (l.map cnA) f), (7, .int .i64 l.length), (8, .int .i64 k)], []⟩) (fun k => k ≤ l.length) (fun k => l.length - k) 0 ?_ (by omega) ?_
  · simp only [sF,sB]
    simp (disch := first | omega | (simp only [pvl] at *; omega)) only [↓pvd,pva,Pv.put,bin2,int2,binB2,un1,AV.flat,pvf,szOk,notStr,setCells,AV.one,resX,layC,layA,lay,List.map,List.replicate,List.length_replicate,pve,seval,reduceCtorEq]
    try rfl
  intro k hk
  unfold Try.c21b0
  by_cases hx : k < l.length
  · have hgi : (l.map cnA)[k]? = some (.agg [.int .i64 l[k]!.p, .int .i64 l[k]!.f, .int .i64 l[k]!.b, .int .i64 l[k]!.s, .int .i64 l[k]!.e]) := map_get hx
    have e1 : sF l (k + 1) = wr (sF l k + l[k]!.f) := rfl
    have e2 : sB l (k + 1) = wr (sB l k + l[k]!.b) := rfl
    generalize l[k]! = c at *
    generalize hF1 : sF l (k + 1) = F1 at *
    generalize sF l k = F0 at *
    generalize hB1 : sB l (k + 1) = B1 at *
    generalize sB l k = B0 at *
    simp (disch := first|omega|(simp only[pvl];omega)) only [↓pvd,pva,Pv.put,bin2,int2,binB2,un1,AV.flat,pvf,szOk,notStr,setCells,AV.one,resX,layC,layA,lay,List.map,List.replicate,List.length_replicate,pve,seval,reduceCtorEq,hgi,hla]
    exact ⟨k + 1, by rw [hF1, hB1, e1, e2]; rfl, by omega, by omega⟩
  · obtain rfl : k = l.length := by omega
    simp (disch := first|omega|(simp only[pvl];omega)) only [↓pvd,pva,Pv.put,bin2,int2,binB2,un1,AV.flat,pvf,szOk,notStr,setCells,AV.one,resX,layC,layA,lay,List.map,List.replicate,List.length_replicate,pve,seval,reduceCtorEq,hla]
    (refine Ends_rq [] ?_; simp (disch := first|omega|(simp only[pvl];omega)) only [↓pvd,pva,Pv.put,bin2,int2,binB2,un1,AV.flat,pvf,szOk,notStr,setCells,AV.one,resX,layC,layA,lay,List.map,List.replicate,List.length_replicate,pve,seval,reduceCtorEq]; exact ⟨_,rfl,rfl,rfl⟩)
theorem sn_nr (s : Sn) : (snR s).nr1 = true := rfl
set_option maxHeartbeats 16000000 in
theorem statsSums_run (a b : List Sn) (ha : a.length ≤ maxLen) (hb : b.length ≤ maxLen) (hwa : pOk a) (hwb : pOk b) : Run Try.prog 6 [.sl 3 (a.map snR) false, .sl 3 (b.map snR) false] (.bool true) := by
  have w := works_run
  have g1 := great_run a false ha
  have g2 := great_run b false hb
  refine Try.run6 (by simp) ?_
  unfold Try.c6
  have hla : (a.map snR).length = a.length := List.length_map _
  have hlb : (b.map snR).length = b.length := List.length_map _
  simp only [maxLen] at ha hb
  simp (disch := first | omega | (simp only [pvl] at *; omega)) only [↓pvd,pva,Pv.put,bin2,int2,binB2,un1,AV.flat,pvf,szOk,notStr,setCells,AV.one,resX,layC,layA,lay,List.map,List.replicate,List.length_replicate,pve,seval,reduceCtorEq]
  refine awR_call w rfl rfl ?_
  simp (disch := first | omega | (simp only [pvl] at *; omega)) only [↓pvd,pva,Pv.put,bin2,int2,binB2,un1,AV.flat,pvf,szOk,notStr,setCells,AV.one,resX,layC,layA,lay,List.map,List.replicate,List.length_replicate,pve,seval,reduceCtorEq]
  refine awR_call g1 rfl rfl ?_
  by_cases hg : a.length ≤ 200 ∧ ∀ s ∈ a, s.b.length ≤ 2000
  rotate_left
  · rw [show grF a = true from decide_eq_true hg]
    simp (disch := first | omega | (simp only [pvl] at *; omega)) only [↓pvd,pva,Pv.put,bin2,int2,binB2,un1,AV.flat,pvf,szOk,notStr,setCells,AV.one,resX,layC,layA,lay,List.map,List.replicate,List.length_replicate,pve,seval,reduceCtorEq]
    (refine Ends_rq [] ?_; simp (disch := first|omega|(simp only[pvl];omega)) only [↓pvd,pva,Pv.put,bin2,int2,binB2,un1,AV.flat,pvf,szOk,notStr,setCells,AV.one,resX,layC,layA,lay,List.map,List.replicate,List.length_replicate,pve,seval,reduceCtorEq]; exact ⟨_,rfl,rfl,rfl⟩)
  rw [show grF a = false from decide_eq_false fun h => h hg]
  simp (disch := first | omega | (simp only [pvl] at *; omega)) only [↓pvd,pva,Pv.put,bin2,int2,binB2,un1,AV.flat,pvf,szOk,notStr,setCells,AV.one,resX,layC,layA,lay,List.map,List.replicate,List.length_replicate,pve,seval,reduceCtorEq]
  refine awR_call g2 rfl rfl ?_
  by_cases hg2 : b.length ≤ 200 ∧ ∀ s ∈ b, s.b.length ≤ 2000
  rotate_left
  · rw [show grF b = true from decide_eq_true hg2]
    simp (disch := first | omega | (simp only [pvl] at *; omega)) only [↓pvd,pva,Pv.put,bin2,int2,binB2,un1,AV.flat,pvf,szOk,notStr,setCells,AV.one,resX,layC,layA,lay,List.map,List.replicate,List.length_replicate,pve,seval,reduceCtorEq]
    (refine Ends_rq [] ?_; simp (disch := first|omega|(simp only[pvl];omega)) only [↓pvd,pva,Pv.put,bin2,int2,binB2,un1,AV.flat,pvf,szOk,notStr,setCells,AV.one,resX,layC,layA,lay,List.map,List.replicate,List.length_replicate,pve,seval,reduceCtorEq]; exact ⟨_,rfl,rfl,rfl⟩)
  rw [show grF b = false from decide_eq_false fun h => h hg2]
  obtain ⟨a1, a2⟩ := hg
  obtain ⟨b1, b2⟩ := hg2
  have hab : ∀ s ∈ a ++ b, s.b.length ≤ 2000 := fun s hs => (List.mem_append.1 hs).elim (a2 s) (b2 s)
  have hwab : pOk (a ++ b) := fun s hs => (List.mem_append.1 hs).elim (hwa s) (hwb s)
  have lab : (a ++ b).length = a.length + b.length := List.length_append
  have pa := portsS_len a
  have pb := portsS_len b
  have pab := portsS_len (a ++ b)
  have oka : ∀ x ∈ portsS (snK a), CnOk x := by unfold portsS; rw [snK_len]; exact portsK_ok hwa a2 (by omega) _ (Nat.le_refl _)
  have okb : ∀ x ∈ portsS (snK b), CnOk x := by unfold portsS; rw [snK_len]; exact portsK_ok hwb b2 (by omega) _ (Nat.le_refl _)
  have okab : ∀ x ∈ portsS (snK (a ++ b)), CnOk x := by unfold portsS; rw [snK_len]; exact portsK_ok hwab hab (by omega) _ (Nat.le_refl _)
  have okm : ∀ x ∈ mergeS (portsS (snK a)) (portsS (snK b)), CnOk x := foldK_ok (fun x hx => (List.mem_append.1 hx).elim (oka x) (okb x)) _ (Nat.le_refl _)
  have ml := mergeS_len (portsS (snK a)) (portsS (snK b))
  have q1 := run_frz (ports_run a false hwa (by omega))
  have q2 := sum_run (portsS (snK a)) false (by omega)
  obtain ⟨s1, s2⟩ := sums_eq (l := a) (by omega) a2
  rw [s1, s2] at q2
  have q3 := run_frz (ports_run (a ++ b) false hwab (by omega))
  have q4 := run_frz (ports_run b false hwb (by omega))
  have q5 := run_frz (merge_run (portsS (snK a)) (portsS (snK b)) false false oka okb (by omega) (by omega))
  have q6 := stext_run (mergeS (portsS (snK a)) (portsS (snK b))) false (by omega) okm
  have q7 := stext_run (portsS (snK (a ++ b))) false (by omega) okab
  rw [textS_eq (merge_eq a b)] at q6
  simp only [frz,frzA,frzC] at q1 q3 q4 q5
  have hbl := fun k hk => blS_le (l := a) a2 k hk
  clear s1 s2 oka okb okab okm
  generalize mergeS (portsS (snK a)) (portsS (snK b)) = M at *
  generalize portsS (snK a) = PA at *
  generalize portsS (snK b) = PB at *
  generalize portsS (snK (a ++ b)) = PC at *
  generalize textS PC = TX at *
  have hsn : a.map snR ++ b.map snR = (a ++ b).map snR := by simp
  simp (disch := first|omega|(simp only[pvl];omega)) only [↓pvd,pva,Pv.put,bin2,int2,binB2,un1,AV.flat,pvf,szOk,notStr,setCells,AV.one,resX,layC,layA,lay,List.map,List.replicate,List.length_replicate,pve,seval,reduceCtorEq,hla]
  refine aw_loop (fun k : Nat => ⟨[(0, .sl 3 (a.map snR) false), (1, .sl 3 (b.map snR) false), (5, .int .i64 (blS a k)), (19, .sl 3 (a.map snR) false), (20, .int .i64 a.length), (21, .int .i64 k)], []⟩) (fun k => k ≤ a.length) (fun k => a.length - k) 0 ?_ (by omega) ?_
  · simp only [blS]
    simp (disch := first | omega | (simp only [pvl] at *; omega)) only [↓pvd,pva,Pv.put,bin2,int2,binB2,un1,AV.flat,pvf,szOk,notStr,setCells,AV.one,resX,layC,layA,lay,List.map,List.replicate,List.length_replicate,pve,seval,reduceCtorEq]
    try rfl
  intro k hk
  unfold Try.c6b0
  have hbk := hbl k hk
  by_cases hx : k < a.length
  · have hgi : (a.map snR)[k]? = some (.agg [.int .i64 a[k]!.p, .int .i64 a[k]!.o, .sl 1 (bys a[k]!.b) a[k]!.f]) := map_get hx
    have hlb2 : (bys a[k]!.b).length = a[k]!.b.length := by simp [bys]
    have hb1 := hbl (k + 1) hx
    have e : blS a (k + 1) = blS a k + a[k]!.b.length := rfl
    generalize bys a[k]!.b = B at *
    generalize a[k]! = s at *
    generalize hT1 : blS a (k + 1) = T1 at *
    generalize blS a k = T0 at *
    simp (disch := first|omega|(simp only[pvl];omega)) only [↓pvd,pva,Pv.put,bin2,int2,binB2,un1,AV.flat,pvf,szOk,notStr,setCells,AV.one,resX,layC,layA,lay,List.map,List.replicate,List.length_replicate,pve,seval,reduceCtorEq,hgi,hla,hlb2]
    exact ⟨k + 1, by rw [hT1, e]; rfl, by omega, by omega⟩
  · obtain rfl : k = a.length := by omega
    simp (disch := first|omega|(simp only[pvl];omega)) only [↓pvd,pva,Pv.put,bin2,int2,binB2,un1,AV.flat,pvf,szOk,notStr,setCells,AV.one,resX,layC,layA,lay,List.map,List.replicate,List.length_replicate,pve,seval,reduceCtorEq,hla]
    refine awR_call q1 rfl rfl ?_
    simp (disch := first | omega | (simp only [pvl] at *; omega)) only [↓pvd,pva,Pv.put,bin2,int2,binB2,un1,AV.flat,pvf,szOk,notStr,setCells,AV.one,resX,layC,layA,lay,List.map,List.replicate,List.length_replicate,pve,seval,reduceCtorEq]
    refine awR_call q2 rfl rfl ?_
    have hlab : ((a ++ b).map snR).length = a.length + b.length := by rw [List.length_map, lab]
    simp (disch := first|omega|(simp only[pvl];omega)) only [↓pvd,pva,Pv.put,bin2,int2,binB2,un1,AV.flat,pvf,szOk,notStr,setCells,AV.one,resX,layC,layA,lay,List.map,List.replicate,List.length_replicate,pve,seval,reduceCtorEq,hla,hlb,hsn,hlab]
    refine awR_callS (ms := []) q3 (by simp (disch := first|omega|(simp only[pvl];omega)) only [↓pvd,pva,Pv.put,bin2,int2,binB2,un1,AV.flat,pvf,szOk,notStr,setCells,AV.one,resX,layC,layA,lay,List.map,List.replicate,List.length_replicate,pve,seval,reduceCtorEq,hlab,mapO_map sn_nr,rows_map sn_nr]; rfl) (by simp (disch := first|omega|(simp only[pvl];omega)) only [↓pvd,pva,Pv.put,bin2,int2,binB2,un1,AV.flat,pvf,szOk,notStr,setCells,AV.one,resX,layC,layA,lay,List.map,List.replicate,List.length_replicate,pve,seval,reduceCtorEq,hlab,mapO_map sn_nr,rows_map sn_nr]) ?_
    simp (disch := first|omega|(simp only[pvl];omega)) only [↓pvd,pva,Pv.put,bin2,int2,binB2,un1,AV.flat,pvf,szOk,notStr,setCells,AV.one,resX,layC,layA,lay,List.map,List.replicate,List.length_replicate,pve,seval,reduceCtorEq,hla,beq_self_eq_true]
    refine awR_call q1 rfl rfl ?_
    simp (disch := first | omega | (simp only [pvl] at *; omega)) only [↓pvd,pva,Pv.put,bin2,int2,binB2,un1,AV.flat,pvf,szOk,notStr,setCells,AV.one,resX,layC,layA,lay,List.map,List.replicate,List.length_replicate,pve,seval,reduceCtorEq]
    refine awR_call q4 rfl rfl ?_
    simp (disch := first | omega | (simp only [pvl] at *; omega)) only [↓pvd,pva,Pv.put,bin2,int2,binB2,un1,AV.flat,pvf,szOk,notStr,setCells,AV.one,resX,layC,layA,lay,List.map,List.replicate,List.length_replicate,pve,seval,reduceCtorEq]
    refine awR_call q5 rfl rfl ?_
    simp (disch := first | omega | (simp only [pvl] at *; omega)) only [↓pvd,pva,Pv.put,bin2,int2,binB2,un1,AV.flat,pvf,szOk,notStr,setCells,AV.one,resX,layC,layA,lay,List.map,List.replicate,List.length_replicate,pve,seval,reduceCtorEq]
    refine awR_call q6 rfl rfl ?_
    simp (disch := first | omega | (simp only [pvl] at *; omega)) only [↓pvd,pva,Pv.put,bin2,int2,binB2,un1,AV.flat,pvf,szOk,notStr,setCells,AV.one,resX,layC,layA,lay,List.map,List.replicate,List.length_replicate,pve,seval,reduceCtorEq]
    refine awR_call q7 rfl rfl ?_
    simp (disch := first|omega|(simp only[pvl];omega)) only [↓pvd,pva,Pv.put,bin2,int2,binB2,un1,AV.flat,pvf,szOk,notStr,setCells,AV.one,resX,layC,layA,lay,List.map,List.replicate,List.length_replicate,pve,seval,reduceCtorEq,beq_self_eq_true]
    (refine Ends_rq [] ?_; simp (disch := first|omega|(simp only[pvl];omega)) only [↓pvd,pva,Pv.put,bin2,int2,binB2,un1,AV.flat,pvf,szOk,notStr,setCells,AV.one,resX,layC,layA,lay,List.map,List.replicate,List.length_replicate,pve,seval,reduceCtorEq]; exact ⟨_,rfl,rfl,rfl⟩)
theorem statsSums_all : ∀ xs, DatL Try.prog 6 Try.f6.params.toList xs → Run Try.prog 6 xs (.bool true) := by
  intro xs h
  rw [show Try.f6.params.toList = [29, 29] from rfl] at h
  obtain ⟨y1, y2, rfl, h1, h2⟩ := datL2 h
  obtain ⟨es, rfl, hl, g1⟩ := dat_slice Try.underlying29 h1
  obtain ⟨l, rfl, hk⟩ := map_ofP (f := snR) (p := fun r => -9223372036854775808 ≤ r.p ∧ r.p < 9223372036854775808) (es := es) fun x hx => dat_seen (g1 x hx)
  obtain ⟨es2, rfl, hl2, g2⟩ := dat_slice Try.underlying29 h2
  obtain ⟨l2, rfl, hk2⟩ := map_ofP (f := snR) (p := fun r => -9223372036854775808 ≤ r.p ∧ r.p < 9223372036854775808) (es := es2) fun x hx => dat_seen (g2 x hx)
  rw [show Try.prog.cellsOf 47 = 3 by kernel_rfl]
  exact statsSums_run l l2 (by simpa using hl) (by simpa using hl2) hk hk2
end Go.Proofs
