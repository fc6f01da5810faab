/- The proofs of what the functions of this seat do. -/
import Derived.Test.YtppdpcfmkmnfjaaDoorPr5
set_option linter.unusedSimpArgs false
set_option linter.unusedVariables false
set_option maxHeartbeats 2000000
set_option maxRecDepth 20000
namespace Go.Proofs
open Go.Pv
open Nm (spl swV okW okB swF enO wsF finF swV_ws)
/-- What rows are, that stand behind i others. -/
noncomputable def rdR : Nat → List (List UInt8) → (Int × Int) ⊕ List LnF
  | _, [] => .inr []
  | i, r :: rs => if (swV r).all okW = true then
      if swV r = [] then rdR (i + 1) rs
      else if rdE (swV r) = 0 then match rdR (i + 1) rs with
        | .inl x => .inl x
        | .inr l => .inr (rdL (swV r) ((i : Int) + 1) :: l)
      else .inl ((i : Int) + 1, rdE (swV r))
    else .inl ((i : Int) + 1, 20)
theorem rdX_go (rows : List (List UInt8)) : ∀ (n k : Nat) (acc : List LnF), rows.length - k = n → k ≤ rows.length → rdX rows k = .inr acc → rdX rows rows.length = match rdR k (rows.drop k) with | .inl x => .inl x | .inr l => .inr (acc ++ l) := by
  intro n
  induction n with
  | zero =>
    intro k acc hn hk h
    obtain rfl : k = rows.length := by omega
    rw [List.drop_length, h]
    simp [rdR]
  | succ n ih =>
    intro k acc hn hk h
    have hx : k < rows.length := by omega
    have hd : rows.drop k = rows[k]! :: rows.drop (k + 1) := by rw [getElem!_pos rows k hx]; exact List.drop_eq_getElem_cons hx
    have hs := rdX_s rows k acc h
    have hr := rdX_err rows k acc
    rw [hd, rdR]
    unfold stepX at hs hr
    by_cases ho : (swV rows[k]!).all okW = true
    · simp only [if_pos ho] at hs hr ⊢
      by_cases hn0 : swV rows[k]! = []
      · simp only [if_pos hn0] at hs ⊢
        exact ih (k + 1) acc (by omega) (by omega) hs
      · simp only [if_neg hn0] at hs hr ⊢
        by_cases he : rdE (swV rows[k]!) = 0
        · simp only [if_pos he] at hs ⊢
          rw [ih (k + 1) _ (by omega) (by omega) hs]
          cases rdR (k + 1) (rows.drop (k + 1)) with
          | inl x => rfl
          | inr l => simp
        · simp only [if_neg he] at hr ⊢
          exact hr _ h hx rfl
    · simp only [if_neg ho] at hr ⊢
      exact hr 20 h hx rfl
theorem rdX_R (rows : List (List UInt8)) : rdX rows rows.length = rdR 0 rows := by
  rw [rdX_go rows rows.length 0 [] (by omega) (by omega) rfl, List.drop_zero]
  cases rdR 0 rows <;> simp
theorem readX_R (b : List UInt8) : readX b = if 20000 < b.length ∨ 400 < (spl b).length then .inl (0, 3) else rdR 0 (spl b) := by
  unfold readX
  rw [rdX_R]
theorem rdR_blank {i : Nat} {r : List UInt8} {rs : List (List UInt8)} (h : swV r = []) : rdR i (r :: rs) = rdR (i + 1) rs := by
  rw [rdR, h]
  simp
theorem rdR_app : ∀ (i : Nat) (rs rs' : List (List UInt8)), rdR i (rs ++ rs') = match rdR i rs with
    | .inl x => .inl x
    | .inr l => match rdR (i + rs.length) rs' with
      | .inl y => .inl y
      | .inr l' => .inr (l ++ l')
  | i, [], rs' => by
    rw [List.nil_append, rdR]
    simp only [List.length_nil, Nat.add_zero, List.nil_append]
    cases rdR i rs' <;> rfl
  | i, r :: rs, rs' => by
    have ih := rdR_app (i + 1) rs rs'
    rw [List.cons_append, rdR, rdR]
    have e : i + (r :: rs).length = i + 1 + rs.length := by rw [List.length_cons]; omega
    rw [e]
    by_cases ho : (swV r).all okW = true
    · simp only [if_pos ho]
      by_cases hn : swV r = []
      · simp only [if_pos hn]
        exact ih
      · simp only [if_neg hn]
        by_cases he : rdE (swV r) = 0
        · simp only [if_pos he]
          rw [ih]
          cases rdR (i + 1) rs with
          | inl x => rfl
          | inr l =>
            cases rdR (i + 1 + rs.length) rs' with
            | inl y => rfl
            | inr l' => simp
        · simp only [if_neg he]
    · simp only [if_neg ho]
theorem rdL_row (ws : List (List UInt8)) (r o : Int) (h : rdE ws = 0) : withRow (rdL ws r) o = rdL ws o := by
  unfold rdL liF
  repeat' split
  all_goals rfl
/-- So many rows further on. -/
def moveX (m : Nat) : (Int × Int) ⊕ List LnF → (Int × Int) ⊕ List LnF
  | .inl (r, e) => .inl (r + m, e)
  | .inr l => .inr (l.map fun x => withRow x (x.l.row + m))
theorem rdR_move (m : Nat) : ∀ (i : Nat) (rs : List (List UInt8)), rdR (i + m) rs = moveX m (rdR i rs)
  | _, [] => rfl
  | i, r :: rs => by
    have ih := rdR_move m (i + 1) rs
    rw [rdR, rdR]
    rw [show i + 1 + m = i + m + 1 by omega] at ih
    by_cases ho : (swV r).all okW = true
    · simp only [if_pos ho]
      by_cases hn : swV r = []
      · simp only [if_pos hn]
        exact ih
      · simp only [if_neg hn]
        by_cases he : rdE (swV r) = 0
        · simp only [if_pos he]
          rw [ih]
          cases rdR (i + 1) rs with
          | inl x => rfl
          | inr l =>
            simp only [moveX, List.map_cons]
            rw [rd_row he, rdL_row _ _ _ he]
            congr 3
            omega
        · simp only [if_neg he, moveX]
          congr 2
          omega
    · simp only [if_neg ho, moveX]
      congr 2
      omega
/-- Which rows are told. -/
def boundX (i n : Nat) : (Int × Int) ⊕ List LnF → Prop
  | .inl (r, _) => (i : Int) < r ∧ r ≤ i + n
  | .inr l => l.length ≤ n ∧ ∀ x ∈ l, (i : Int) < x.l.row ∧ x.l.row ≤ i + n
theorem rdR_bound : ∀ (i : Nat) (rs : List (List UInt8)), boundX i rs.length (rdR i rs)
  | i, [] => ⟨by simp, by simp⟩
  | i, r :: rs => by
    have ih := rdR_bound (i + 1) rs
    rw [rdR]
    rw [List.length_cons]
    by_cases ho : (swV r).all okW = true
    · simp only [if_pos ho]
      by_cases hn : swV r = []
      · simp only [if_pos hn]
        cases hr : rdR (i + 1) rs with
        | inl x => rw [hr] at ih; simp only [boundX] at ih ⊢; omega
        | inr l =>
          rw [hr] at ih
          simp only [boundX] at ih ⊢
          exact ⟨by omega, fun x hx => by have := ih.2 x hx; omega⟩
      · simp only [if_neg hn]
        by_cases he : rdE (swV r) = 0
        · simp only [if_pos he]
          cases hr : rdR (i + 1) rs with
          | inl x => rw [hr] at ih; simp only [boundX] at ih ⊢; omega
          | inr l =>
            rw [hr] at ih
            simp only [boundX] at ih ⊢
            refine ⟨by simp; omega, fun x hx => ?_⟩
            rcases List.mem_cons.1 hx with rfl | hx
            · rw [rd_row he]; omega
            · have := ih.2 x hx; omega
        · simp only [if_neg he, boundX]; omega
    · simp only [if_neg ho, boundX]; omega
/-- What is read may be. -/
def goodX : (Int × Int) ⊕ List LnF → Prop
  | .inl (_, e) => e ≠ 0
  | .inr l => ∀ x ∈ l, lnB x ∧ ∃ ws r, rdE ws = 0 ∧ ws.all okW = true ∧ x = rdL ws r
theorem rdR_good : ∀ (i : Nat) (rs : List (List UInt8)), goodX (rdR i rs)
  | i, [] => by simp [rdR, goodX]
  | i, r :: rs => by
    have ih := rdR_good (i + 1) rs
    rw [rdR]
    by_cases ho : (swV r).all okW = true
    · simp only [if_pos ho]
      by_cases hn : swV r = []
      · simp only [if_pos hn]
        exact ih
      · simp only [if_neg hn]
        by_cases he : rdE (swV r) = 0
        · simp only [if_pos he]
          cases hr : rdR (i + 1) rs with
          | inl x => rw [hr] at ih; exact ih
          | inr l =>
            rw [hr] at ih
            simp only [goodX] at ih ⊢
            intro x hx
            rcases List.mem_cons.1 hx with rfl | hx
            · exact ⟨rd_B he, _, _, he, ho, rfl⟩
            · exact ih x hx
        · simp only [if_neg he, goodX]; exact he
    · simp only [if_neg ho, goodX]; decide
theorem swV_nil : swV [] = [] := by decide
theorem spl_ne : ∀ (t : List UInt8), t ≠ [] → spl t ≠ []
  | [], h => absurd rfl h
  | c :: t, _ => by
    rw [spl]
    split
    · simp
    · cases spl t <;> simp
/-- Two texts, one behind the other. -/
theorem spl_two (b : List UInt8) : ∀ a : List UInt8, ∃ z, (z = [] ∨ z = [[]]) ∧ spl (a ++ 10 :: b) = spl a ++ (z ++ spl b)
  | [] => ⟨[[]], .inr rfl, by simp [spl]⟩
  | c :: a => by
    obtain ⟨z, hz, e⟩ := spl_two b a
    rw [List.cons_append, spl, spl]
    by_cases hc : c = 10
    · rw [if_pos hc, if_pos hc, e]
      exact ⟨z, hz, rfl⟩
    · rw [if_neg hc, if_neg hc]
      by_cases ha : a = []
      · subst ha
        refine ⟨[], .inl rfl, ?_⟩
        simp [spl]
      · refine ⟨z, hz, ?_⟩
        rw [e]
        have := spl_ne a ha
        cases h : spl a with
        | nil => exact absurd h this
        | cons x y => rfl
theorem two_R (a b : List UInt8) : ∃ n : Nat, rdR 0 (spl (a ++ 10 :: b)) = match rdR 0 (spl a) with
    | .inl x => .inl x
    | .inr l => match moveX n (rdR 0 (spl b)) with
      | .inl y => .inl y
      | .inr l' => .inr (l ++ l') := by
  obtain ⟨z, hz, e⟩ := spl_two b a
  have hzn : rdR 0 (spl a ++ (z ++ spl b)) = match rdR 0 (spl a) with
    | .inl x => .inl x
    | .inr l => match rdR ((spl a).length + z.length) (spl b) with
      | .inl y => .inl y
      | .inr l' => .inr (l ++ l') := by
    rw [rdR_app]
    cases rdR 0 (spl a) with
    | inl x => rfl
    | inr l =>
      simp only
      rcases hz with rfl | rfl
      · simp
      · rw [List.singleton_append, rdR_blank swV_nil, Nat.zero_add]
        rfl
  refine ⟨(spl a).length + z.length, ?_⟩
  rw [e, hzn, ← rdR_move, Nat.zero_add]
theorem moveX_nr (m : Nat) (l : List LnF) : (l.map fun x => withRow x (x.l.row + m)).map nr = l.map nr := by
  rw [List.map_map]
  rfl
end Go.Proofs

set_option linter.unusedSimpArgs false
set_option linter.unusedVariables false
set_option maxHeartbeats 2000000
set_option maxRecDepth 20000
namespace Go.Proofs
open Go.Pv
open Nm (spl swV okW okB swF enO wsF finF swV_ws)
theorem xq_err {b : List UInt8} {f : Bool} {r e : Int} (hb : b.length ≤ 100000) (h : readX b = .inl (r, e)) : Run Tryd.prog 12 [.sl 1 (bys b) f] (.tup [.sl 0 [] true, .int .i64 r, .int .i64 e]) := by
  have := run_frz (xread_run b f hb)
  rw [h] at this
  exact this
theorem xq_ok {b : List UInt8} {f : Bool} {l : List LnF} (hb : b.length ≤ 100000) (h : readX b = .inr l) : Run Tryd.prog 12 [.sl 1 (bys b) f] (.tup [.sl 17 (l.map lnV) false, .int .i64 0, .int .i64 0]) := by
  have := run_frz (xread_run b f hb)
  rw [h] at this
  exact this
theorem readX_big {b : List UInt8} (h : 20000 < b.length ∨ 400 < (spl b).length) : readX b = .inl (0, 3) := by rw [readX_R, if_pos h]
theorem readX_small {b : List UInt8} (h : ¬ (20000 < b.length ∨ 400 < (spl b).length)) : readX b = rdR 0 (spl b) := by rw [readX_R, if_neg h]
theorem good_S {l : List LnF} {x : (Int × Int) ⊕ List LnF} (h : goodX x) (e : x = .inr l) : ∀ y ∈ l, lnS y := by
  subst e
  intro y hy
  have := (h y hy).1.1
  exact ⟨by omega, by omega, by omega, by omega⟩
theorem bnd_len {i n : Nat} {x : (Int × Int) ⊕ List LnF} {l : List LnF} (h : boundX i n x) (e : x = .inr l) : l.length ≤ n := by subst e; exact h.1
theorem lns_len (l : List LnF) : (l.map lnV).length = l.length := by simp
set_option maxHeartbeats 16000000 in
theorem textFirst_run (a b : List UInt8) (hla : a.length ≤ maxLen) (hlb : b.length ≤ maxLen) : Run Tryd.prog 5 [.sl 1 (bys a) false, .sl 1 (bys b) false] (.bool true) := by
  have q0 := works12
  have hla2 : (a.length : Int) ≤ 9223372036854775807 := by simp only [maxLen] at hla; omega
  have hlb2 : (b.length : Int) ≤ 9223372036854775807 := by simp only [maxLen] at hlb; omega
  have hal : (bys a).length = a.length := by simp [bys]
  have hbl : (bys b).length = b.length := by simp [bys]
  clear hla hlb
  refine Tryd.run5 (by simp) ?_
  unfold Tryd.c5
  by_cases hg : a.length ≤ 3000 ∧ b.length ≤ 3000
  case neg =>
    by_cases h1 : a.length ≤ 3000
    · have : 3000 < b.length := by omega
      repeat' (first | (simp (disch := first | omega | (simp only [pvl]; omega)) only [↓pvd, pv0, pv1, pv2, pv3, pv4, pv5, pv6, pv7, pvc0, pvc1, pvc2, Pv.put, bin2, int2, binB2, un1, AV.flat, pvf, rvs_1, rvs_2, szOk, notStr, setCells, AV.one, resX, layC, layA, lay, List.map, List.replicate, List.length_replicate, pvq0, pvq1, seval, reduceCtorEq, hal, hbl, still]) | with_reducible refine condP_d (fun _ => ?_) (fun _ => ?_) | with_reducible refine guardP_d0 (fun _ => ?_) (fun _ => ?_) | with_reducible refine guardP_d1 (fun _ => ?_) (fun _ => ?_) | with_reducible refine condP_any ?_ ?_ | refine awR_call q0 rfl rfl ?_ | refine awR_callD q0 rfl rfl (fun _ => rfl) ?_ | (refine Ends_rq [] ?_; simp (disch := first | omega | (simp only [pvl]; omega)) only [↓pvd, pv0, pv1, pv2, pv3, pv4, pv5, pv6, pv7, pvc0, pvc1, pvc2, Pv.put, bin2, int2, binB2, un1, AV.flat, pvf, rvs_1, rvs_2, szOk, notStr, setCells, AV.one, resX, layC, layA, lay, List.map, List.replicate, List.length_replicate, pvq0, pvq1, seval, reduceCtorEq]; exact ⟨_, rfl, rfl, rfl⟩))
    · have : 3000 < a.length := by omega
      repeat' (first | (simp (disch := first | omega | (simp only [pvl]; omega)) only [↓pvd, pv0, pv1, pv2, pv3, pv4, pv5, pv6, pv7, pvc0, pvc1, pvc2, Pv.put, bin2, int2, binB2, un1, AV.flat, pvf, rvs_1, rvs_2, szOk, notStr, setCells, AV.one, resX, layC, layA, lay, List.map, List.replicate, List.length_replicate, pvq0, pvq1, seval, reduceCtorEq, hal, hbl, still]) | with_reducible refine condP_d (fun _ => ?_) (fun _ => ?_) | with_reducible refine guardP_d0 (fun _ => ?_) (fun _ => ?_) | with_reducible refine guardP_d1 (fun _ => ?_) (fun _ => ?_) | with_reducible refine condP_any ?_ ?_ | refine awR_call q0 rfl rfl ?_ | refine awR_callD q0 rfl rfl (fun _ => rfl) ?_ | (refine Ends_rq [] ?_; simp (disch := first | omega | (simp only [pvl]; omega)) only [↓pvd, pv0, pv1, pv2, pv3, pv4, pv5, pv6, pv7, pvc0, pvc1, pvc2, Pv.put, bin2, int2, binB2, un1, AV.flat, pvf, rvs_1, rvs_2, szOk, notStr, setCells, AV.one, resX, layC, layA, lay, List.map, List.replicate, List.length_replicate, pvq0, pvq1, seval, reduceCtorEq]; exact ⟨_, rfl, rfl, rfl⟩))
  obtain ⟨g1, g2⟩ := hg
  have hcl : (a ++ 10 :: b).length ≤ 100000 := by simp; omega
  have hcs : ¬ 20000 < (a ++ 10 :: b).length := by simp; omega
  obtain ⟨m, hm⟩ := two_R a b
  have hcb : bys a ++ [AV.int .u8 10] ++ bys b = bys (a ++ 10 :: b) := by simp [bys, bv]
  have hcc : bys a ++ AV.int .u8 10 :: bys b = bys (a ++ 10 :: b) := by simp [bys, bv]
  have hA : ∀ r e, readX a = .inl (r, e) → e ≠ 3 → rdR 0 (spl a) = .inl (r, e) ∧ e ≠ 0 := fun r e h h3 => by
    by_cases hb : 20000 < a.length ∨ 400 < (spl a).length
    · rw [readX_big hb] at h; cases h; exact absurd rfl h3
    · rw [readX_small hb] at h
      have := rdR_good 0 (spl a)
      rw [h] at this
      exact ⟨h, this⟩
  have hB : ∀ r e, readX b = .inl (r, e) → e ≠ 3 → rdR 0 (spl b) = .inl (r, e) ∧ e ≠ 0 ∧ 0 < r := fun r e h h3 => by
    by_cases hb : 20000 < b.length ∨ 400 < (spl b).length
    · rw [readX_big hb] at h; cases h; exact absurd rfl h3
    · rw [readX_small hb] at h
      have := rdR_good 0 (spl b)
      have h2 := rdR_bound 0 (spl b)
      rw [h] at this h2
      exact ⟨h, this, by simp only [boundX] at h2; omega⟩
  have hC : ∀ r e, readX (a ++ 10 :: b) = .inl (r, e) → e ≠ 3 → rdR 0 (spl (a ++ 10 :: b)) = .inl (r, e) := fun r e h h3 => by
    by_cases hb : 20000 < (a ++ 10 :: b).length ∨ 400 < (spl (a ++ 10 :: b)).length
    · rw [readX_big hb] at h; cases h; exact absurd rfl h3
    · rw [readX_small hb] at h
      exact h
  have hok : ∀ (s : List UInt8) (l : List LnF), readX s = .inr l → rdR 0 (spl s) = .inr l ∧ l.length ≤ 400 ∧ ∀ y ∈ l, lnS y := fun s l h => by
    by_cases hb : 20000 < s.length ∨ 400 < (spl s).length
    · rw [readX_big hb] at h; cases h
    · rw [readX_small hb] at h
      have h1 := bnd_len (rdR_bound 0 (spl s)) h
      exact ⟨h, by omega, good_S (rdR_good 0 (spl s)) h⟩
  rcases hxa : readX a with ⟨ra, ea⟩ | la
  all_goals rcases hxb : readX b with ⟨rb, eb⟩ | lb
  all_goals rcases hxc : readX (a ++ 10 :: b) with ⟨rc, ec⟩ | lc
  · have qa := xq_err (f := false) (by omega) hxa
    have qb := xq_err (f := false) (by omega) hxb
    have qc := xq_err (f := false) hcl hxc
    by_cases h3a : ea = 3
    · subst h3a
      simp (disch := first | omega | (simp only [pvl]; omega)) only [↓pvd, pv0, pv1, pv2, pv3, pv4, pv5, pv6, pv7, pvc0, pvc1, pvc2, Pv.put, bin2, int2, binB2, un1, AV.flat, pvf, rvs_1, rvs_2, szOk, notStr, setCells, AV.one, resX, layC, layA, lay, List.map, List.replicate, List.length_replicate, pvq0, pvq1, seval, reduceCtorEq, hal, hbl, List.length_map]
      refine awR_call q0 rfl rfl ?_
      simp (disch := first | omega | (simp only [pvl]; omega)) only [↓pvd, pv0, pv1, pv2, pv3, pv4, pv5, pv6, pv7, pvc0, pvc1, pvc2, Pv.put, bin2, int2, binB2, un1, AV.flat, pvf, rvs_1, rvs_2, szOk, notStr, setCells, AV.one, resX, layC, layA, lay, List.map, List.replicate, List.length_replicate, pvq0, pvq1, seval, reduceCtorEq, hal, hbl]
      refine awR_call qa rfl rfl ?_
      simp (disch := first | omega | (simp only [pvl]; omega)) only [↓pvd, pv0, pv1, pv2, pv3, pv4, pv5, pv6, pv7, pvc0, pvc1, pvc2, Pv.put, bin2, int2, binB2, un1, AV.flat, pvf, rvs_1, rvs_2, szOk, notStr, setCells, AV.one, resX, layC, layA, lay, List.map, List.replicate, List.length_replicate, pvq0, pvq1, seval, reduceCtorEq, true_and]
      refine awR_call qb rfl rfl ?_
      simp (disch := first | omega | (simp only [pvl]; omega)) only [↓pvd, pv0, pv1, pv2, pv3, pv4, pv5, pv6, pv7, pvc0, pvc1, pvc2, Pv.put, bin2, int2, binB2, un1, AV.flat, pvf, rvs_1, rvs_2, szOk, notStr, setCells, AV.one, resX, layC, layA, lay, List.map, List.replicate, List.length_replicate, pvq0, pvq1, seval, reduceCtorEq, hal, hbl, hcb, hcc]
      refine awR_callS (ms := []) qc (by simp (disch := first | omega | (simp only [pvl]; omega)) only [↓pvd, pv0, pv1, pv2, pv3, pv4, pv5, pv6, pv7, pvc0, pvc1, pvc2, Pv.put, bin2, int2, binB2, un1, AV.flat, pvf, rvs_1, rvs_2, szOk, notStr, setCells, AV.one, resX, layC, layA, lay, List.map, List.replicate, List.length_replicate, pvq0, pvq1, seval, reduceCtorEq, mapO_bys, rows_bys, hcb, hcc]; rfl) (by simp (disch := first | omega | (simp only [pvl]; omega)) only [↓pvd, pv0, pv1, pv2, pv3, pv4, pv5, pv6, pv7, pvc0, pvc1, pvc2, Pv.put, bin2, int2, binB2, un1, AV.flat, pvf, rvs_1, rvs_2, szOk, notStr, setCells, AV.one, resX, layC, layA, lay, List.map, List.replicate, List.length_replicate, pvq0, pvq1, seval, reduceCtorEq, mapO_bys, rows_bys, hcb, hcc]) ?_
      simp (disch := first | omega | (simp only [pvl]; omega)) only [↓pvd, pv0, pv1, pv2, pv3, pv4, pv5, pv6, pv7, pvc0, pvc1, pvc2, Pv.put, bin2, int2, binB2, un1, AV.flat, pvf, rvs_1, rvs_2, szOk, notStr, setCells, AV.one, resX, layC, layA, lay, List.map, List.replicate, List.length_replicate, pvq0, pvq1, seval, reduceCtorEq, true_and, still]
      (refine Ends_rq [] ?_; simp (disch := first | omega | (simp only [pvl]; omega)) only [↓pvd, pv0, pv1, pv2, pv3, pv4, pv5, pv6, pv7, pvc0, pvc1, pvc2, Pv.put, bin2, int2, binB2, un1, AV.flat, pvf, rvs_1, rvs_2, szOk, notStr, setCells, AV.one, resX, layC, layA, lay, List.map, List.replicate, List.length_replicate, pvq0, pvq1, seval, reduceCtorEq]; exact ⟨_, rfl, rfl, rfl⟩)
    by_cases h3b : eb = 3
    · subst h3b
      simp (disch := first | omega | (simp only [pvl]; omega)) only [↓pvd, pv0, pv1, pv2, pv3, pv4, pv5, pv6, pv7, pvc0, pvc1, pvc2, Pv.put, bin2, int2, binB2, un1, AV.flat, pvf, rvs_1, rvs_2, szOk, notStr, setCells, AV.one, resX, layC, layA, lay, List.map, List.replicate, List.length_replicate, pvq0, pvq1, seval, reduceCtorEq, hal, hbl, List.length_map, h3a]
      refine awR_call q0 rfl rfl ?_
      simp (disch := first | omega | (simp only [pvl]; omega)) only [↓pvd, pv0, pv1, pv2, pv3, pv4, pv5, pv6, pv7, pvc0, pvc1, pvc2, Pv.put, bin2, int2, binB2, un1, AV.flat, pvf, rvs_1, rvs_2, szOk, notStr, setCells, AV.one, resX, layC, layA, lay, List.map, List.replicate, List.length_replicate, pvq0, pvq1, seval, reduceCtorEq, hal, hbl, h3a]
      refine awR_call qa rfl rfl ?_
      simp (disch := first | omega | (simp only [pvl]; omega)) only [↓pvd, pv0, pv1, pv2, pv3, pv4, pv5, pv6, pv7, pvc0, pvc1, pvc2, Pv.put, bin2, int2, binB2, un1, AV.flat, pvf, rvs_1, rvs_2, szOk, notStr, setCells, AV.one, resX, layC, layA, lay, List.map, List.replicate, List.length_replicate, pvq0, pvq1, seval, reduceCtorEq, true_and, h3a]
      refine awR_call qb rfl rfl ?_
      simp (disch := first | omega | (simp only [pvl]; omega)) only [↓pvd, pv0, pv1, pv2, pv3, pv4, pv5, pv6, pv7, pvc0, pvc1, pvc2, Pv.put, bin2, int2, binB2, un1, AV.flat, pvf, rvs_1, rvs_2, szOk, notStr, setCells, AV.one, resX, layC, layA, lay, List.map, List.replicate, List.length_replicate, pvq0, pvq1, seval, reduceCtorEq, hal, hbl, hcb, hcc, h3a]
      refine awR_callS (ms := []) qc (by simp (disch := first | omega | (simp only [pvl]; omega)) only [↓pvd, pv0, pv1, pv2, pv3, pv4, pv5, pv6, pv7, pvc0, pvc1, pvc2, Pv.put, bin2, int2, binB2, un1, AV.flat, pvf, rvs_1, rvs_2, szOk, notStr, setCells, AV.one, resX, layC, layA, lay, List.map, List.replicate, List.length_replicate, pvq0, pvq1, seval, reduceCtorEq, mapO_bys, rows_bys, hcb, hcc]; rfl) (by simp (disch := first | omega | (simp only [pvl]; omega)) only [↓pvd, pv0, pv1, pv2, pv3, pv4, pv5, pv6, pv7, pvc0, pvc1, pvc2, Pv.put, bin2, int2, binB2, un1, AV.flat, pvf, rvs_1, rvs_2, szOk, notStr, setCells, AV.one, resX, layC, layA, lay, List.map, List.replicate, List.length_replicate, pvq0, pvq1, seval, reduceCtorEq, mapO_bys, rows_bys, hcb, hcc]) ?_
      simp (disch := first | omega | (simp only [pvl]; omega)) only [↓pvd, pv0, pv1, pv2, pv3, pv4, pv5, pv6, pv7, pvc0, pvc1, pvc2, Pv.put, bin2, int2, binB2, un1, AV.flat, pvf, rvs_1, rvs_2, szOk, notStr, setCells, AV.one, resX, layC, layA, lay, List.map, List.replicate, List.length_replicate, pvq0, pvq1, seval, reduceCtorEq, true_and, still, h3a]
      (refine Ends_rq [] ?_; simp (disch := first | omega | (simp only [pvl]; omega)) only [↓pvd, pv0, pv1, pv2, pv3, pv4, pv5, pv6, pv7, pvc0, pvc1, pvc2, Pv.put, bin2, int2, binB2, un1, AV.flat, pvf, rvs_1, rvs_2, szOk, notStr, setCells, AV.one, resX, layC, layA, lay, List.map, List.replicate, List.length_replicate, pvq0, pvq1, seval, reduceCtorEq]; exact ⟨_, rfl, rfl, rfl⟩)
    by_cases h3c : ec = 3
    · subst h3c
      simp (disch := first | omega | (simp only [pvl]; omega)) only [↓pvd, pv0, pv1, pv2, pv3, pv4, pv5, pv6, pv7, pvc0, pvc1, pvc2, Pv.put, bin2, int2, binB2, un1, AV.flat, pvf, rvs_1, rvs_2, szOk, notStr, setCells, AV.one, resX, layC, layA, lay, List.map, List.replicate, List.length_replicate, pvq0, pvq1, seval, reduceCtorEq, hal, hbl, List.length_map, h3a, h3b]
      refine awR_call q0 rfl rfl ?_
      simp (disch := first | omega | (simp only [pvl]; omega)) only [↓pvd, pv0, pv1, pv2, pv3, pv4, pv5, pv6, pv7, pvc0, pvc1, pvc2, Pv.put, bin2, int2, binB2, un1, AV.flat, pvf, rvs_1, rvs_2, szOk, notStr, setCells, AV.one, resX, layC, layA, lay, List.map, List.replicate, List.length_replicate, pvq0, pvq1, seval, reduceCtorEq, hal, hbl, h3a, h3b]
      refine awR_call qa rfl rfl ?_
      simp (disch := first | omega | (simp only [pvl]; omega)) only [↓pvd, pv0, pv1, pv2, pv3, pv4, pv5, pv6, pv7, pvc0, pvc1, pvc2, Pv.put, bin2, int2, binB2, un1, AV.flat, pvf, rvs_1, rvs_2, szOk, notStr, setCells, AV.one, resX, layC, layA, lay, List.map, List.replicate, List.length_replicate, pvq0, pvq1, seval, reduceCtorEq, true_and, h3a, h3b]
      refine awR_call qb rfl rfl ?_
      simp (disch := first | omega | (simp only [pvl]; omega)) only [↓pvd, pv0, pv1, pv2, pv3, pv4, pv5, pv6, pv7, pvc0, pvc1, pvc2, Pv.put, bin2, int2, binB2, un1, AV.flat, pvf, rvs_1, rvs_2, szOk, notStr, setCells, AV.one, resX, layC, layA, lay, List.map, List.replicate, List.length_replicate, pvq0, pvq1, seval, reduceCtorEq, hal, hbl, hcb, hcc, h3a, h3b]
      refine awR_callS (ms := []) qc (by simp (disch := first | omega | (simp only [pvl]; omega)) only [↓pvd, pv0, pv1, pv2, pv3, pv4, pv5, pv6, pv7, pvc0, pvc1, pvc2, Pv.put, bin2, int2, binB2, un1, AV.flat, pvf, rvs_1, rvs_2, szOk, notStr, setCells, AV.one, resX, layC, layA, lay, List.map, List.replicate, List.length_replicate, pvq0, pvq1, seval, reduceCtorEq, mapO_bys, rows_bys, hcb, hcc]; rfl) (by simp (disch := first | omega | (simp only [pvl]; omega)) only [↓pvd, pv0, pv1, pv2, pv3, pv4, pv5, pv6, pv7, pvc0, pvc1, pvc2, Pv.put, bin2, int2, binB2, un1, AV.flat, pvf, rvs_1, rvs_2, szOk, notStr, setCells, AV.one, resX, layC, layA, lay, List.map, List.replicate, List.length_replicate, pvq0, pvq1, seval, reduceCtorEq, mapO_bys, rows_bys, hcb, hcc]) ?_
      simp (disch := first | omega | (simp only [pvl]; omega)) only [↓pvd, pv0, pv1, pv2, pv3, pv4, pv5, pv6, pv7, pvc0, pvc1, pvc2, Pv.put, bin2, int2, binB2, un1, AV.flat, pvf, rvs_1, rvs_2, szOk, notStr, setCells, AV.one, resX, layC, layA, lay, List.map, List.replicate, List.length_replicate, pvq0, pvq1, seval, reduceCtorEq, true_and, still, h3a, h3b]
      (refine Ends_rq [] ?_; simp (disch := first | omega | (simp only [pvl]; omega)) only [↓pvd, pv0, pv1, pv2, pv3, pv4, pv5, pv6, pv7, pvc0, pvc1, pvc2, Pv.put, bin2, int2, binB2, un1, AV.flat, pvf, rvs_1, rvs_2, szOk, notStr, setCells, AV.one, resX, layC, layA, lay, List.map, List.replicate, List.length_replicate, pvq0, pvq1, seval, reduceCtorEq]; exact ⟨_, rfl, rfl, rfl⟩)
    obtain ⟨ha1, ha0⟩ := hA ra ea hxa h3a
    rw [ha1] at hm
    rw [hC rc ec hxc h3c] at hm
    cases hm
    simp (disch := first | omega | (simp only [pvl]; omega)) only [↓pvd, pv0, pv1, pv2, pv3, pv4, pv5, pv6, pv7, pvc0, pvc1, pvc2, Pv.put, bin2, int2, binB2, un1, AV.flat, pvf, rvs_1, rvs_2, szOk, notStr, setCells, AV.one, resX, layC, layA, lay, List.map, List.replicate, List.length_replicate, pvq0, pvq1, seval, reduceCtorEq, hal, hbl, List.length_map, h3a, h3b, h3c, ha0]
    refine awR_call q0 rfl rfl ?_
    simp (disch := first | omega | (simp only [pvl]; omega)) only [↓pvd, pv0, pv1, pv2, pv3, pv4, pv5, pv6, pv7, pvc0, pvc1, pvc2, Pv.put, bin2, int2, binB2, un1, AV.flat, pvf, rvs_1, rvs_2, szOk, notStr, setCells, AV.one, resX, layC, layA, lay, List.map, List.replicate, List.length_replicate, pvq0, pvq1, seval, reduceCtorEq, hal, hbl, h3a, h3b, h3c, ha0]
    refine awR_call qa rfl rfl ?_
    simp (disch := first | omega | (simp only [pvl]; omega)) only [↓pvd, pv0, pv1, pv2, pv3, pv4, pv5, pv6, pv7, pvc0, pvc1, pvc2, Pv.put, bin2, int2, binB2, un1, AV.flat, pvf, rvs_1, rvs_2, szOk, notStr, setCells, AV.one, resX, layC, layA, lay, List.map, List.replicate, List.length_replicate, pvq0, pvq1, seval, reduceCtorEq, true_and, h3a, h3b, h3c, ha0]
    refine awR_call qb rfl rfl ?_
    simp (disch := first | omega | (simp only [pvl]; omega)) only [↓pvd, pv0, pv1, pv2, pv3, pv4, pv5, pv6, pv7, pvc0, pvc1, pvc2, Pv.put, bin2, int2, binB2, un1, AV.flat, pvf, rvs_1, rvs_2, szOk, notStr, setCells, AV.one, resX, layC, layA, lay, List.map, List.replicate, List.length_replicate, pvq0, pvq1, seval, reduceCtorEq, hal, hbl, hcb, hcc, h3a, h3b, h3c, ha0]
    refine awR_callS (ms := []) qc (by simp (disch := first | omega | (simp only [pvl]; omega)) only [↓pvd, pv0, pv1, pv2, pv3, pv4, pv5, pv6, pv7, pvc0, pvc1, pvc2, Pv.put, bin2, int2, binB2, un1, AV.flat, pvf, rvs_1, rvs_2, szOk, notStr, setCells, AV.one, resX, layC, layA, lay, List.map, List.replicate, List.length_replicate, pvq0, pvq1, seval, reduceCtorEq, mapO_bys, rows_bys, hcb, hcc]; rfl) (by simp (disch := first | omega | (simp only [pvl]; omega)) only [↓pvd, pv0, pv1, pv2, pv3, pv4, pv5, pv6, pv7, pvc0, pvc1, pvc2, Pv.put, bin2, int2, binB2, un1, AV.flat, pvf, rvs_1, rvs_2, szOk, notStr, setCells, AV.one, resX, layC, layA, lay, List.map, List.replicate, List.length_replicate, pvq0, pvq1, seval, reduceCtorEq, mapO_bys, rows_bys, hcb, hcc]) ?_
    simp (disch := first | omega | (simp only [pvl]; omega)) only [↓pvd, pv0, pv1, pv2, pv3, pv4, pv5, pv6, pv7, pvc0, pvc1, pvc2, Pv.put, bin2, int2, binB2, un1, AV.flat, pvf, rvs_1, rvs_2, szOk, notStr, setCells, AV.one, resX, layC, layA, lay, List.map, List.replicate, List.length_replicate, pvq0, pvq1, seval, reduceCtorEq, true_and, still, h3a, h3b, h3c, ha0]
    (refine Ends_rq [] ?_; simp (disch := first | omega | (simp only [pvl]; omega)) only [↓pvd, pv0, pv1, pv2, pv3, pv4, pv5, pv6, pv7, pvc0, pvc1, pvc2, Pv.put, bin2, int2, binB2, un1, AV.flat, pvf, rvs_1, rvs_2, szOk, notStr, setCells, AV.one, resX, layC, layA, lay, List.map, List.replicate, List.length_replicate, pvq0, pvq1, seval, reduceCtorEq]; exact ⟨_, rfl, rfl, rfl⟩)
  · have qa := xq_err (f := false) (by omega) hxa
    have qb := xq_err (f := false) (by omega) hxb
    have qc := xq_ok (f := false) hcl hxc
    obtain ⟨hc1, hc2, hc3⟩ := hok _ lc hxc
    have hlc := lns_len lc
    by_cases h3a : ea = 3
    · subst h3a
      simp (disch := first | omega | (simp only [pvl]; omega)) only [↓pvd, pv0, pv1, pv2, pv3, pv4, pv5, pv6, pv7, pvc0, pvc1, pvc2, Pv.put, bin2, int2, binB2, un1, AV.flat, pvf, rvs_1, rvs_2, szOk, notStr, setCells, AV.one, resX, layC, layA, lay, List.map, List.replicate, List.length_replicate, pvq0, pvq1, seval, reduceCtorEq, hal, hbl, List.length_map]
      refine awR_call q0 rfl rfl ?_
      simp (disch := first | omega | (simp only [pvl]; omega)) only [↓pvd, pv0, pv1, pv2, pv3, pv4, pv5, pv6, pv7, pvc0, pvc1, pvc2, Pv.put, bin2, int2, binB2, un1, AV.flat, pvf, rvs_1, rvs_2, szOk, notStr, setCells, AV.one, resX, layC, layA, lay, List.map, List.replicate, List.length_replicate, pvq0, pvq1, seval, reduceCtorEq, hal, hbl]
      refine awR_call qa rfl rfl ?_
      simp (disch := first | omega | (simp only [pvl]; omega)) only [↓pvd, pv0, pv1, pv2, pv3, pv4, pv5, pv6, pv7, pvc0, pvc1, pvc2, Pv.put, bin2, int2, binB2, un1, AV.flat, pvf, rvs_1, rvs_2, szOk, notStr, setCells, AV.one, resX, layC, layA, lay, List.map, List.replicate, List.length_replicate, pvq0, pvq1, seval, reduceCtorEq, true_and]
      refine awR_call qb rfl rfl ?_
      simp (disch := first | omega | (simp only [pvl]; omega)) only [↓pvd, pv0, pv1, pv2, pv3, pv4, pv5, pv6, pv7, pvc0, pvc1, pvc2, Pv.put, bin2, int2, binB2, un1, AV.flat, pvf, rvs_1, rvs_2, szOk, notStr, setCells, AV.one, resX, layC, layA, lay, List.map, List.replicate, List.length_replicate, pvq0, pvq1, seval, reduceCtorEq, hal, hbl, hcb, hcc]
      refine awR_callS (ms := []) qc (by simp (disch := first | omega | (simp only [pvl]; omega)) only [↓pvd, pv0, pv1, pv2, pv3, pv4, pv5, pv6, pv7, pvc0, pvc1, pvc2, Pv.put, bin2, int2, binB2, un1, AV.flat, pvf, rvs_1, rvs_2, szOk, notStr, setCells, AV.one, resX, layC, layA, lay, List.map, List.replicate, List.length_replicate, pvq0, pvq1, seval, reduceCtorEq, mapO_bys, rows_bys, hcb, hcc]; rfl) (by simp (disch := first | omega | (simp only [pvl]; omega)) only [↓pvd, pv0, pv1, pv2, pv3, pv4, pv5, pv6, pv7, pvc0, pvc1, pvc2, Pv.put, bin2, int2, binB2, un1, AV.flat, pvf, rvs_1, rvs_2, szOk, notStr, setCells, AV.one, resX, layC, layA, lay, List.map, List.replicate, List.length_replicate, pvq0, pvq1, seval, reduceCtorEq, mapO_bys, rows_bys, hcb, hcc]) ?_
      simp (disch := first | omega | (simp only [pvl]; omega)) only [↓pvd, pv0, pv1, pv2, pv3, pv4, pv5, pv6, pv7, pvc0, pvc1, pvc2, Pv.put, bin2, int2, binB2, un1, AV.flat, pvf, rvs_1, rvs_2, szOk, notStr, setCells, AV.one, resX, layC, layA, lay, List.map, List.replicate, List.length_replicate, pvq0, pvq1, seval, reduceCtorEq, true_and, still]
      (refine Ends_rq [] ?_; simp (disch := first | omega | (simp only [pvl]; omega)) only [↓pvd, pv0, pv1, pv2, pv3, pv4, pv5, pv6, pv7, pvc0, pvc1, pvc2, Pv.put, bin2, int2, binB2, un1, AV.flat, pvf, rvs_1, rvs_2, szOk, notStr, setCells, AV.one, resX, layC, layA, lay, List.map, List.replicate, List.length_replicate, pvq0, pvq1, seval, reduceCtorEq]; exact ⟨_, rfl, rfl, rfl⟩)
    by_cases h3b : eb = 3
    · subst h3b
      simp (disch := first | omega | (simp only [pvl]; omega)) only [↓pvd, pv0, pv1, pv2, pv3, pv4, pv5, pv6, pv7, pvc0, pvc1, pvc2, Pv.put, bin2, int2, binB2, un1, AV.flat, pvf, rvs_1, rvs_2, szOk, notStr, setCells, AV.one, resX, layC, layA, lay, List.map, List.replicate, List.length_replicate, pvq0, pvq1, seval, reduceCtorEq, hal, hbl, List.length_map, h3a]
      refine awR_call q0 rfl rfl ?_
      simp (disch := first | omega | (simp only [pvl]; omega)) only [↓pvd, pv0, pv1, pv2, pv3, pv4, pv5, pv6, pv7, pvc0, pvc1, pvc2, Pv.put, bin2, int2, binB2, un1, AV.flat, pvf, rvs_1, rvs_2, szOk, notStr, setCells, AV.one, resX, layC, layA, lay, List.map, List.replicate, List.length_replicate, pvq0, pvq1, seval, reduceCtorEq, hal, hbl, h3a]
      refine awR_call qa rfl rfl ?_
      simp (disch := first | omega | (simp only [pvl]; omega)) only [↓pvd, pv0, pv1, pv2, pv3, pv4, pv5, pv6, pv7, pvc0, pvc1, pvc2, Pv.put, bin2, int2, binB2, un1, AV.flat, pvf, rvs_1, rvs_2, szOk, notStr, setCells, AV.one, resX, layC, layA, lay, List.map, List.replicate, List.length_replicate, pvq0, pvq1, seval, reduceCtorEq, true_and, h3a]
      refine awR_call qb rfl rfl ?_
      simp (disch := first | omega | (simp only [pvl]; omega)) only [↓pvd, pv0, pv1, pv2, pv3, pv4, pv5, pv6, pv7, pvc0, pvc1, pvc2, Pv.put, bin2, int2, binB2, un1, AV.flat, pvf, rvs_1, rvs_2, szOk, notStr, setCells, AV.one, resX, layC, layA, lay, List.map, List.replicate, List.length_replicate, pvq0, pvq1, seval, reduceCtorEq, hal, hbl, hcb, hcc, h3a]
      refine awR_callS (ms := []) qc (by simp (disch := first | omega | (simp only [pvl]; omega)) only [↓pvd, pv0, pv1, pv2, pv3, pv4, pv5, pv6, pv7, pvc0, pvc1, pvc2, Pv.put, bin2, int2, binB2, un1, AV.flat, pvf, rvs_1, rvs_2, szOk, notStr, setCells, AV.one, resX, layC, layA, lay, List.map, List.replicate, List.length_replicate, pvq0, pvq1, seval, reduceCtorEq, mapO_bys, rows_bys, hcb, hcc]; rfl) (by simp (disch := first | omega | (simp only [pvl]; omega)) only [↓pvd, pv0, pv1, pv2, pv3, pv4, pv5, pv6, pv7, pvc0, pvc1, pvc2, Pv.put, bin2, int2, binB2, un1, AV.flat, pvf, rvs_1, rvs_2, szOk, notStr, setCells, AV.one, resX, layC, layA, lay, List.map, List.replicate, List.length_replicate, pvq0, pvq1, seval, reduceCtorEq, mapO_bys, rows_bys, hcb, hcc]) ?_
      simp (disch := first | omega | (simp only [pvl]; omega)) only [↓pvd, pv0, pv1, pv2, pv3, pv4, pv5, pv6, pv7, pvc0, pvc1, pvc2, Pv.put, bin2, int2, binB2, un1, AV.flat, pvf, rvs_1, rvs_2, szOk, notStr, setCells, AV.one, resX, layC, layA, lay, List.map, List.replicate, List.length_replicate, pvq0, pvq1, seval, reduceCtorEq, true_and, still, h3a]
      (refine Ends_rq [] ?_; simp (disch := first | omega | (simp only [pvl]; omega)) only [↓pvd, pv0, pv1, pv2, pv3, pv4, pv5, pv6, pv7, pvc0, pvc1, pvc2, Pv.put, bin2, int2, binB2, un1, AV.flat, pvf, rvs_1, rvs_2, szOk, notStr, setCells, AV.one, resX, layC, layA, lay, List.map, List.replicate, List.length_replicate, pvq0, pvq1, seval, reduceCtorEq]; exact ⟨_, rfl, rfl, rfl⟩)
    obtain ⟨ha1, ha0⟩ := hA ra ea hxa h3a
    rw [ha1] at hm
    rw [hc1] at hm
    cases hm
  · have qa := xq_err (f := false) (by omega) hxa
    have qb := xq_ok (f := false) (by omega) hxb
    have qc := xq_err (f := false) hcl hxc
    obtain ⟨hb1, hb2, hb3⟩ := hok b lb hxb
    have hlb := lns_len lb
    by_cases h3a : ea = 3
    · subst h3a
      simp (disch := first | omega | (simp only [pvl]; omega)) only [↓pvd, pv0, pv1, pv2, pv3, pv4, pv5, pv6, pv7, pvc0, pvc1, pvc2, Pv.put, bin2, int2, binB2, un1, AV.flat, pvf, rvs_1, rvs_2, szOk, notStr, setCells, AV.one, resX, layC, layA, lay, List.map, List.replicate, List.length_replicate, pvq0, pvq1, seval, reduceCtorEq, hal, hbl, List.length_map]
      refine awR_call q0 rfl rfl ?_
      simp (disch := first | omega | (simp only [pvl]; omega)) only [↓pvd, pv0, pv1, pv2, pv3, pv4, pv5, pv6, pv7, pvc0, pvc1, pvc2, Pv.put, bin2, int2, binB2, un1, AV.flat, pvf, rvs_1, rvs_2, szOk, notStr, setCells, AV.one, resX, layC, layA, lay, List.map, List.replicate, List.length_replicate, pvq0, pvq1, seval, reduceCtorEq, hal, hbl]
      refine awR_call qa rfl rfl ?_
      simp (disch := first | omega | (simp only [pvl]; omega)) only [↓pvd, pv0, pv1, pv2, pv3, pv4, pv5, pv6, pv7, pvc0, pvc1, pvc2, Pv.put, bin2, int2, binB2, un1, AV.flat, pvf, rvs_1, rvs_2, szOk, notStr, setCells, AV.one, resX, layC, layA, lay, List.map, List.replicate, List.length_replicate, pvq0, pvq1, seval, reduceCtorEq, true_and]
      refine awR_call qb rfl rfl ?_
      simp (disch := first | omega | (simp only [pvl]; omega)) only [↓pvd, pv0, pv1, pv2, pv3, pv4, pv5, pv6, pv7, pvc0, pvc1, pvc2, Pv.put, bin2, int2, binB2, un1, AV.flat, pvf, rvs_1, rvs_2, szOk, notStr, setCells, AV.one, resX, layC, layA, lay, List.map, List.replicate, List.length_replicate, pvq0, pvq1, seval, reduceCtorEq, hal, hbl, hcb, hcc]
      refine awR_callS (ms := []) qc (by simp (disch := first | omega | (simp only [pvl]; omega)) only [↓pvd, pv0, pv1, pv2, pv3, pv4, pv5, pv6, pv7, pvc0, pvc1, pvc2, Pv.put, bin2, int2, binB2, un1, AV.flat, pvf, rvs_1, rvs_2, szOk, notStr, setCells, AV.one, resX, layC, layA, lay, List.map, List.replicate, List.length_replicate, pvq0, pvq1, seval, reduceCtorEq, mapO_bys, rows_bys, hcb, hcc]; rfl) (by simp (disch := first | omega | (simp only [pvl]; omega)) only [↓pvd, pv0, pv1, pv2, pv3, pv4, pv5, pv6, pv7, pvc0, pvc1, pvc2, Pv.put, bin2, int2, binB2, un1, AV.flat, pvf, rvs_1, rvs_2, szOk, notStr, setCells, AV.one, resX, layC, layA, lay, List.map, List.replicate, List.length_replicate, pvq0, pvq1, seval, reduceCtorEq, mapO_bys, rows_bys, hcb, hcc]) ?_
      simp (disch := first | omega | (simp only [pvl]; omega)) only [↓pvd, pv0, pv1, pv2, pv3, pv4, pv5, pv6, pv7, pvc0, pvc1, pvc2, Pv.put, bin2, int2, binB2, un1, AV.flat, pvf, rvs_1, rvs_2, szOk, notStr, setCells, AV.one, resX, layC, layA, lay, List.map, List.replicate, List.length_replicate, pvq0, pvq1, seval, reduceCtorEq, true_and, still]
      (refine Ends_rq [] ?_; simp (disch := first | omega | (simp only [pvl]; omega)) only [↓pvd, pv0, pv1, pv2, pv3, pv4, pv5, pv6, pv7, pvc0, pvc1, pvc2, Pv.put, bin2, int2, binB2, un1, AV.flat, pvf, rvs_1, rvs_2, szOk, notStr, setCells, AV.one, resX, layC, layA, lay, List.map, List.replicate, List.length_replicate, pvq0, pvq1, seval, reduceCtorEq]; exact ⟨_, rfl, rfl, rfl⟩)
    by_cases h3c : ec = 3
    · subst h3c
      simp (disch := first | omega | (simp only [pvl]; omega)) only [↓pvd, pv0, pv1, pv2, pv3, pv4, pv5, pv6, pv7, pvc0, pvc1, pvc2, Pv.put, bin2, int2, binB2, un1, AV.flat, pvf, rvs_1, rvs_2, szOk, notStr, setCells, AV.one, resX, layC, layA, lay, List.map, List.replicate, List.length_replicate, pvq0, pvq1, seval, reduceCtorEq, hal, hbl, List.length_map, h3a]
      refine awR_call q0 rfl rfl ?_
      simp (disch := first | omega | (simp only [pvl]; omega)) only [↓pvd, pv0, pv1, pv2, pv3, pv4, pv5, pv6, pv7, pvc0, pvc1, pvc2, Pv.put, bin2, int2, binB2, un1, AV.flat, pvf, rvs_1, rvs_2, szOk, notStr, setCells, AV.one, resX, layC, layA, lay, List.map, List.replicate, List.length_replicate, pvq0, pvq1, seval, reduceCtorEq, hal, hbl, h3a]
      refine awR_call qa rfl rfl ?_
      simp (disch := first | omega | (simp only [pvl]; omega)) only [↓pvd, pv0, pv1, pv2, pv3, pv4, pv5, pv6, pv7, pvc0, pvc1, pvc2, Pv.put, bin2, int2, binB2, un1, AV.flat, pvf, rvs_1, rvs_2, szOk, notStr, setCells, AV.one, resX, layC, layA, lay, List.map, List.replicate, List.length_replicate, pvq0, pvq1, seval, reduceCtorEq, true_and, h3a]
      refine awR_call qb rfl rfl ?_
      simp (disch := first | omega | (simp only [pvl]; omega)) only [↓pvd, pv0, pv1, pv2, pv3, pv4, pv5, pv6, pv7, pvc0, pvc1, pvc2, Pv.put, bin2, int2, binB2, un1, AV.flat, pvf, rvs_1, rvs_2, szOk, notStr, setCells, AV.one, resX, layC, layA, lay, List.map, List.replicate, List.length_replicate, pvq0, pvq1, seval, reduceCtorEq, hal, hbl, hcb, hcc, h3a]
      refine awR_callS (ms := []) qc (by simp (disch := first | omega | (simp only [pvl]; omega)) only [↓pvd, pv0, pv1, pv2, pv3, pv4, pv5, pv6, pv7, pvc0, pvc1, pvc2, Pv.put, bin2, int2, binB2, un1, AV.flat, pvf, rvs_1, rvs_2, szOk, notStr, setCells, AV.one, resX, layC, layA, lay, List.map, List.replicate, List.length_replicate, pvq0, pvq1, seval, reduceCtorEq, mapO_bys, rows_bys, hcb, hcc]; rfl) (by simp (disch := first | omega | (simp only [pvl]; omega)) only [↓pvd, pv0, pv1, pv2, pv3, pv4, pv5, pv6, pv7, pvc0, pvc1, pvc2, Pv.put, bin2, int2, binB2, un1, AV.flat, pvf, rvs_1, rvs_2, szOk, notStr, setCells, AV.one, resX, layC, layA, lay, List.map, List.replicate, List.length_replicate, pvq0, pvq1, seval, reduceCtorEq, mapO_bys, rows_bys, hcb, hcc]) ?_
      simp (disch := first | omega | (simp only [pvl]; omega)) only [↓pvd, pv0, pv1, pv2, pv3, pv4, pv5, pv6, pv7, pvc0, pvc1, pvc2, Pv.put, bin2, int2, binB2, un1, AV.flat, pvf, rvs_1, rvs_2, szOk, notStr, setCells, AV.one, resX, layC, layA, lay, List.map, List.replicate, List.length_replicate, pvq0, pvq1, seval, reduceCtorEq, true_and, still, h3a]
      (refine Ends_rq [] ?_; simp (disch := first | omega | (simp only [pvl]; omega)) only [↓pvd, pv0, pv1, pv2, pv3, pv4, pv5, pv6, pv7, pvc0, pvc1, pvc2, Pv.put, bin2, int2, binB2, un1, AV.flat, pvf, rvs_1, rvs_2, szOk, notStr, setCells, AV.one, resX, layC, layA, lay, List.map, List.replicate, List.length_replicate, pvq0, pvq1, seval, reduceCtorEq]; exact ⟨_, rfl, rfl, rfl⟩)
    obtain ⟨ha1, ha0⟩ := hA ra ea hxa h3a
    rw [ha1] at hm
    rw [hC rc ec hxc h3c] at hm
    cases hm
    simp (disch := first | omega | (simp only [pvl]; omega)) only [↓pvd, pv0, pv1, pv2, pv3, pv4, pv5, pv6, pv7, pvc0, pvc1, pvc2, Pv.put, bin2, int2, binB2, un1, AV.flat, pvf, rvs_1, rvs_2, szOk, notStr, setCells, AV.one, resX, layC, layA, lay, List.map, List.replicate, List.length_replicate, pvq0, pvq1, seval, reduceCtorEq, hal, hbl, List.length_map, h3a, h3c, ha0]
    refine awR_call q0 rfl rfl ?_
    simp (disch := first | omega | (simp only [pvl]; omega)) only [↓pvd, pv0, pv1, pv2, pv3, pv4, pv5, pv6, pv7, pvc0, pvc1, pvc2, Pv.put, bin2, int2, binB2, un1, AV.flat, pvf, rvs_1, rvs_2, szOk, notStr, setCells, AV.one, resX, layC, layA, lay, List.map, List.replicate, List.length_replicate, pvq0, pvq1, seval, reduceCtorEq, hal, hbl, h3a, h3c, ha0]
    refine awR_call qa rfl rfl ?_
    simp (disch := first | omega | (simp only [pvl]; omega)) only [↓pvd, pv0, pv1, pv2, pv3, pv4, pv5, pv6, pv7, pvc0, pvc1, pvc2, Pv.put, bin2, int2, binB2, un1, AV.flat, pvf, rvs_1, rvs_2, szOk, notStr, setCells, AV.one, resX, layC, layA, lay, List.map, List.replicate, List.length_replicate, pvq0, pvq1, seval, reduceCtorEq, true_and, h3a, h3c, ha0]
    refine awR_call qb rfl rfl ?_
    simp (disch := first | omega | (simp only [pvl]; omega)) only [↓pvd, pv0, pv1, pv2, pv3, pv4, pv5, pv6, pv7, pvc0, pvc1, pvc2, Pv.put, bin2, int2, binB2, un1, AV.flat, pvf, rvs_1, rvs_2, szOk, notStr, setCells, AV.one, resX, layC, layA, lay, List.map, List.replicate, List.length_replicate, pvq0, pvq1, seval, reduceCtorEq, hal, hbl, hcb, hcc, h3a, h3c, ha0]
    refine awR_callS (ms := []) qc (by simp (disch := first | omega | (simp only [pvl]; omega)) only [↓pvd, pv0, pv1, pv2, pv3, pv4, pv5, pv6, pv7, pvc0, pvc1, pvc2, Pv.put, bin2, int2, binB2, un1, AV.flat, pvf, rvs_1, rvs_2, szOk, notStr, setCells, AV.one, resX, layC, layA, lay, List.map, List.replicate, List.length_replicate, pvq0, pvq1, seval, reduceCtorEq, mapO_bys, rows_bys, hcb, hcc]; rfl) (by simp (disch := first | omega | (simp only [pvl]; omega)) only [↓pvd, pv0, pv1, pv2, pv3, pv4, pv5, pv6, pv7, pvc0, pvc1, pvc2, Pv.put, bin2, int2, binB2, un1, AV.flat, pvf, rvs_1, rvs_2, szOk, notStr, setCells, AV.one, resX, layC, layA, lay, List.map, List.replicate, List.length_replicate, pvq0, pvq1, seval, reduceCtorEq, mapO_bys, rows_bys, hcb, hcc]) ?_
    simp (disch := first | omega | (simp only [pvl]; omega)) only [↓pvd, pv0, pv1, pv2, pv3, pv4, pv5, pv6, pv7, pvc0, pvc1, pvc2, Pv.put, bin2, int2, binB2, un1, AV.flat, pvf, rvs_1, rvs_2, szOk, notStr, setCells, AV.one, resX, layC, layA, lay, List.map, List.replicate, List.length_replicate, pvq0, pvq1, seval, reduceCtorEq, true_and, still, h3a, h3c, ha0]
    (refine Ends_rq [] ?_; simp (disch := first | omega | (simp only [pvl]; omega)) only [↓pvd, pv0, pv1, pv2, pv3, pv4, pv5, pv6, pv7, pvc0, pvc1, pvc2, Pv.put, bin2, int2, binB2, un1, AV.flat, pvf, rvs_1, rvs_2, szOk, notStr, setCells, AV.one, resX, layC, layA, lay, List.map, List.replicate, List.length_replicate, pvq0, pvq1, seval, reduceCtorEq]; exact ⟨_, rfl, rfl, rfl⟩)
  · have qa := xq_err (f := false) (by omega) hxa
    have qb := xq_ok (f := false) (by omega) hxb
    have qc := xq_ok (f := false) hcl hxc
    obtain ⟨hb1, hb2, hb3⟩ := hok b lb hxb
    have hlb := lns_len lb
    obtain ⟨hc1, hc2, hc3⟩ := hok _ lc hxc
    have hlc := lns_len lc
    by_cases h3a : ea = 3
    · subst h3a
      simp (disch := first | omega | (simp only [pvl]; omega)) only [↓pvd, pv0, pv1, pv2, pv3, pv4, pv5, pv6, pv7, pvc0, pvc1, pvc2, Pv.put, bin2, int2, binB2, un1, AV.flat, pvf, rvs_1, rvs_2, szOk, notStr, setCells, AV.one, resX, layC, layA, lay, List.map, List.replicate, List.length_replicate, pvq0, pvq1, seval, reduceCtorEq, hal, hbl, List.length_map]
      refine awR_call q0 rfl rfl ?_
      simp (disch := first | omega | (simp only [pvl]; omega)) only [↓pvd, pv0, pv1, pv2, pv3, pv4, pv5, pv6, pv7, pvc0, pvc1, pvc2, Pv.put, bin2, int2, binB2, un1, AV.flat, pvf, rvs_1, rvs_2, szOk, notStr, setCells, AV.one, resX, layC, layA, lay, List.map, List.replicate, List.length_replicate, pvq0, pvq1, seval, reduceCtorEq, hal, hbl]
      refine awR_call qa rfl rfl ?_
      simp (disch := first | omega | (simp only [pvl]; omega)) only [↓pvd, pv0, pv1, pv2, pv3, pv4, pv5, pv6, pv7, pvc0, pvc1, pvc2, Pv.put, bin2, int2, binB2, un1, AV.flat, pvf, rvs_1, rvs_2, szOk, notStr, setCells, AV.one, resX, layC, layA, lay, List.map, List.replicate, List.length_replicate, pvq0, pvq1, seval, reduceCtorEq, true_and]
      refine awR_call qb rfl rfl ?_
      simp (disch := first | omega | (simp only [pvl]; omega)) only [↓pvd, pv0, pv1, pv2, pv3, pv4, pv5, pv6, pv7, pvc0, pvc1, pvc2, Pv.put, bin2, int2, binB2, un1, AV.flat, pvf, rvs_1, rvs_2, szOk, notStr, setCells, AV.one, resX, layC, layA, lay, List.map, List.replicate, List.length_replicate, pvq0, pvq1, seval, reduceCtorEq, hal, hbl, hcb, hcc]
      refine awR_callS (ms := []) qc (by simp (disch := first | omega | (simp only [pvl]; omega)) only [↓pvd, pv0, pv1, pv2, pv3, pv4, pv5, pv6, pv7, pvc0, pvc1, pvc2, Pv.put, bin2, int2, binB2, un1, AV.flat, pvf, rvs_1, rvs_2, szOk, notStr, setCells, AV.one, resX, layC, layA, lay, List.map, List.replicate, List.length_replicate, pvq0, pvq1, seval, reduceCtorEq, mapO_bys, rows_bys, hcb, hcc]; rfl) (by simp (disch := first | omega | (simp only [pvl]; omega)) only [↓pvd, pv0, pv1, pv2, pv3, pv4, pv5, pv6, pv7, pvc0, pvc1, pvc2, Pv.put, bin2, int2, binB2, un1, AV.flat, pvf, rvs_1, rvs_2, szOk, notStr, setCells, AV.one, resX, layC, layA, lay, List.map, List.replicate, List.length_replicate, pvq0, pvq1, seval, reduceCtorEq, mapO_bys, rows_bys, hcb, hcc]) ?_
      simp (disch := first | omega | (simp only [pvl]; omega)) only [↓pvd, pv0, pv1, pv2, pv3, pv4, pv5, pv6, pv7, pvc0, pvc1, pvc2, Pv.put, bin2, int2, binB2, un1, AV.flat, pvf, rvs_1, rvs_2, szOk, notStr, setCells, AV.one, resX, layC, layA, lay, List.map, List.replicate, List.length_replicate, pvq0, pvq1, seval, reduceCtorEq, true_and, still]
      (refine Ends_rq [] ?_; simp (disch := first | omega | (simp only [pvl]; omega)) only [↓pvd, pv0, pv1, pv2, pv3, pv4, pv5, pv6, pv7, pvc0, pvc1, pvc2, Pv.put, bin2, int2, binB2, un1, AV.flat, pvf, rvs_1, rvs_2, szOk, notStr, setCells, AV.one, resX, layC, layA, lay, List.map, List.replicate, List.length_replicate, pvq0, pvq1, seval, reduceCtorEq]; exact ⟨_, rfl, rfl, rfl⟩)
    obtain ⟨ha1, ha0⟩ := hA ra ea hxa h3a
    rw [ha1] at hm
    rw [hc1] at hm
    cases hm
  · have qa := xq_ok (f := false) (by omega) hxa
    have qb := xq_err (f := false) (by omega) hxb
    have qc := xq_err (f := false) hcl hxc
    obtain ⟨ha1, ha2, ha3⟩ := hok a la hxa
    have hla := lns_len la
    by_cases h3b : eb = 3
    · subst h3b
      simp (disch := first | omega | (simp only [pvl]; omega)) only [↓pvd, pv0, pv1, pv2, pv3, pv4, pv5, pv6, pv7, pvc0, pvc1, pvc2, Pv.put, bin2, int2, binB2, un1, AV.flat, pvf, rvs_1, rvs_2, szOk, notStr, setCells, AV.one, resX, layC, layA, lay, List.map, List.replicate, List.length_replicate, pvq0, pvq1, seval, reduceCtorEq, hal, hbl, List.length_map]
      refine awR_call q0 rfl rfl ?_
      simp (disch := first | omega | (simp only [pvl]; omega)) only [↓pvd, pv0, pv1, pv2, pv3, pv4, pv5, pv6, pv7, pvc0, pvc1, pvc2, Pv.put, bin2, int2, binB2, un1, AV.flat, pvf, rvs_1, rvs_2, szOk, notStr, setCells, AV.one, resX, layC, layA, lay, List.map, List.replicate, List.length_replicate, pvq0, pvq1, seval, reduceCtorEq, hal, hbl]
      refine awR_call qa rfl rfl ?_
      simp (disch := first | omega | (simp only [pvl]; omega)) only [↓pvd, pv0, pv1, pv2, pv3, pv4, pv5, pv6, pv7, pvc0, pvc1, pvc2, Pv.put, bin2, int2, binB2, un1, AV.flat, pvf, rvs_1, rvs_2, szOk, notStr, setCells, AV.one, resX, layC, layA, lay, List.map, List.replicate, List.length_replicate, pvq0, pvq1, seval, reduceCtorEq, true_and]
      refine awR_call qb rfl rfl ?_
      simp (disch := first | omega | (simp only [pvl]; omega)) only [↓pvd, pv0, pv1, pv2, pv3, pv4, pv5, pv6, pv7, pvc0, pvc1, pvc2, Pv.put, bin2, int2, binB2, un1, AV.flat, pvf, rvs_1, rvs_2, szOk, notStr, setCells, AV.one, resX, layC, layA, lay, List.map, List.replicate, List.length_replicate, pvq0, pvq1, seval, reduceCtorEq, hal, hbl, hcb, hcc]
      refine awR_callS (ms := []) qc (by simp (disch := first | omega | (simp only [pvl]; omega)) only [↓pvd, pv0, pv1, pv2, pv3, pv4, pv5, pv6, pv7, pvc0, pvc1, pvc2, Pv.put, bin2, int2, binB2, un1, AV.flat, pvf, rvs_1, rvs_2, szOk, notStr, setCells, AV.one, resX, layC, layA, lay, List.map, List.replicate, List.length_replicate, pvq0, pvq1, seval, reduceCtorEq, mapO_bys, rows_bys, hcb, hcc]; rfl) (by simp (disch := first | omega | (simp only [pvl]; omega)) only [↓pvd, pv0, pv1, pv2, pv3, pv4, pv5, pv6, pv7, pvc0, pvc1, pvc2, Pv.put, bin2, int2, binB2, un1, AV.flat, pvf, rvs_1, rvs_2, szOk, notStr, setCells, AV.one, resX, layC, layA, lay, List.map, List.replicate, List.length_replicate, pvq0, pvq1, seval, reduceCtorEq, mapO_bys, rows_bys, hcb, hcc]) ?_
      simp (disch := first | omega | (simp only [pvl]; omega)) only [↓pvd, pv0, pv1, pv2, pv3, pv4, pv5, pv6, pv7, pvc0, pvc1, pvc2, Pv.put, bin2, int2, binB2, un1, AV.flat, pvf, rvs_1, rvs_2, szOk, notStr, setCells, AV.one, resX, layC, layA, lay, List.map, List.replicate, List.length_replicate, pvq0, pvq1, seval, reduceCtorEq, true_and, still]
      (refine Ends_rq [] ?_; simp (disch := first | omega | (simp only [pvl]; omega)) only [↓pvd, pv0, pv1, pv2, pv3, pv4, pv5, pv6, pv7, pvc0, pvc1, pvc2, Pv.put, bin2, int2, binB2, un1, AV.flat, pvf, rvs_1, rvs_2, szOk, notStr, setCells, AV.one, resX, layC, layA, lay, List.map, List.replicate, List.length_replicate, pvq0, pvq1, seval, reduceCtorEq]; exact ⟨_, rfl, rfl, rfl⟩)
    by_cases h3c : ec = 3
    · subst h3c
      simp (disch := first | omega | (simp only [pvl]; omega)) only [↓pvd, pv0, pv1, pv2, pv3, pv4, pv5, pv6, pv7, pvc0, pvc1, pvc2, Pv.put, bin2, int2, binB2, un1, AV.flat, pvf, rvs_1, rvs_2, szOk, notStr, setCells, AV.one, resX, layC, layA, lay, List.map, List.replicate, List.length_replicate, pvq0, pvq1, seval, reduceCtorEq, hal, hbl, List.length_map, h3b]
      refine awR_call q0 rfl rfl ?_
      simp (disch := first | omega | (simp only [pvl]; omega)) only [↓pvd, pv0, pv1, pv2, pv3, pv4, pv5, pv6, pv7, pvc0, pvc1, pvc2, Pv.put, bin2, int2, binB2, un1, AV.flat, pvf, rvs_1, rvs_2, szOk, notStr, setCells, AV.one, resX, layC, layA, lay, List.map, List.replicate, List.length_replicate, pvq0, pvq1, seval, reduceCtorEq, hal, hbl, h3b]
      refine awR_call qa rfl rfl ?_
      simp (disch := first | omega | (simp only [pvl]; omega)) only [↓pvd, pv0, pv1, pv2, pv3, pv4, pv5, pv6, pv7, pvc0, pvc1, pvc2, Pv.put, bin2, int2, binB2, un1, AV.flat, pvf, rvs_1, rvs_2, szOk, notStr, setCells, AV.one, resX, layC, layA, lay, List.map, List.replicate, List.length_replicate, pvq0, pvq1, seval, reduceCtorEq, true_and, h3b]
      refine awR_call qb rfl rfl ?_
      simp (disch := first | omega | (simp only [pvl]; omega)) only [↓pvd, pv0, pv1, pv2, pv3, pv4, pv5, pv6, pv7, pvc0, pvc1, pvc2, Pv.put, bin2, int2, binB2, un1, AV.flat, pvf, rvs_1, rvs_2, szOk, notStr, setCells, AV.one, resX, layC, layA, lay, List.map, List.replicate, List.length_replicate, pvq0, pvq1, seval, reduceCtorEq, hal, hbl, hcb, hcc, h3b]
      refine awR_callS (ms := []) qc (by simp (disch := first | omega | (simp only [pvl]; omega)) only [↓pvd, pv0, pv1, pv2, pv3, pv4, pv5, pv6, pv7, pvc0, pvc1, pvc2, Pv.put, bin2, int2, binB2, un1, AV.flat, pvf, rvs_1, rvs_2, szOk, notStr, setCells, AV.one, resX, layC, layA, lay, List.map, List.replicate, List.length_replicate, pvq0, pvq1, seval, reduceCtorEq, mapO_bys, rows_bys, hcb, hcc]; rfl) (by simp (disch := first | omega | (simp only [pvl]; omega)) only [↓pvd, pv0, pv1, pv2, pv3, pv4, pv5, pv6, pv7, pvc0, pvc1, pvc2, Pv.put, bin2, int2, binB2, un1, AV.flat, pvf, rvs_1, rvs_2, szOk, notStr, setCells, AV.one, resX, layC, layA, lay, List.map, List.replicate, List.length_replicate, pvq0, pvq1, seval, reduceCtorEq, mapO_bys, rows_bys, hcb, hcc]) ?_
      simp (disch := first | omega | (simp only [pvl]; omega)) only [↓pvd, pv0, pv1, pv2, pv3, pv4, pv5, pv6, pv7, pvc0, pvc1, pvc2, Pv.put, bin2, int2, binB2, un1, AV.flat, pvf, rvs_1, rvs_2, szOk, notStr, setCells, AV.one, resX, layC, layA, lay, List.map, List.replicate, List.length_replicate, pvq0, pvq1, seval, reduceCtorEq, true_and, still, h3b]
      (refine Ends_rq [] ?_; simp (disch := first | omega | (simp only [pvl]; omega)) only [↓pvd, pv0, pv1, pv2, pv3, pv4, pv5, pv6, pv7, pvc0, pvc1, pvc2, Pv.put, bin2, int2, binB2, un1, AV.flat, pvf, rvs_1, rvs_2, szOk, notStr, setCells, AV.one, resX, layC, layA, lay, List.map, List.replicate, List.length_replicate, pvq0, pvq1, seval, reduceCtorEq]; exact ⟨_, rfl, rfl, rfl⟩)
    obtain ⟨hb1, hb0, hbr⟩ := hB rb eb hxb h3b
    rw [ha1, hb1] at hm
    simp only [moveX] at hm
    rw [hC rc ec hxc h3c] at hm
    simp only [Sum.inl.injEq, Prod.mk.injEq] at hm
    obtain ⟨hr, he⟩ := hm
    subst he
    have hr0 : 0 < rc := by omega
    clear hr
    simp (disch := first | omega | (simp only [pvl]; omega)) only [↓pvd, pv0, pv1, pv2, pv3, pv4, pv5, pv6, pv7, pvc0, pvc1, pvc2, Pv.put, bin2, int2, binB2, un1, AV.flat, pvf, rvs_1, rvs_2, szOk, notStr, setCells, AV.one, resX, layC, layA, lay, List.map, List.replicate, List.length_replicate, pvq0, pvq1, seval, reduceCtorEq, hal, hbl, List.length_map, h3b, h3c, hb0]
    refine awR_call q0 rfl rfl ?_
    simp (disch := first | omega | (simp only [pvl]; omega)) only [↓pvd, pv0, pv1, pv2, pv3, pv4, pv5, pv6, pv7, pvc0, pvc1, pvc2, Pv.put, bin2, int2, binB2, un1, AV.flat, pvf, rvs_1, rvs_2, szOk, notStr, setCells, AV.one, resX, layC, layA, lay, List.map, List.replicate, List.length_replicate, pvq0, pvq1, seval, reduceCtorEq, hal, hbl, h3b, h3c, hb0]
    refine awR_call qa rfl rfl ?_
    simp (disch := first | omega | (simp only [pvl]; omega)) only [↓pvd, pv0, pv1, pv2, pv3, pv4, pv5, pv6, pv7, pvc0, pvc1, pvc2, Pv.put, bin2, int2, binB2, un1, AV.flat, pvf, rvs_1, rvs_2, szOk, notStr, setCells, AV.one, resX, layC, layA, lay, List.map, List.replicate, List.length_replicate, pvq0, pvq1, seval, reduceCtorEq, true_and, h3b, h3c, hb0]
    refine awR_call qb rfl rfl ?_
    simp (disch := first | omega | (simp only [pvl]; omega)) only [↓pvd, pv0, pv1, pv2, pv3, pv4, pv5, pv6, pv7, pvc0, pvc1, pvc2, Pv.put, bin2, int2, binB2, un1, AV.flat, pvf, rvs_1, rvs_2, szOk, notStr, setCells, AV.one, resX, layC, layA, lay, List.map, List.replicate, List.length_replicate, pvq0, pvq1, seval, reduceCtorEq, hal, hbl, hcb, hcc, h3b, h3c, hb0]
    refine awR_callS (ms := []) qc (by simp (disch := first | omega | (simp only [pvl]; omega)) only [↓pvd, pv0, pv1, pv2, pv3, pv4, pv5, pv6, pv7, pvc0, pvc1, pvc2, Pv.put, bin2, int2, binB2, un1, AV.flat, pvf, rvs_1, rvs_2, szOk, notStr, setCells, AV.one, resX, layC, layA, lay, List.map, List.replicate, List.length_replicate, pvq0, pvq1, seval, reduceCtorEq, mapO_bys, rows_bys, hcb, hcc]; rfl) (by simp (disch := first | omega | (simp only [pvl]; omega)) only [↓pvd, pv0, pv1, pv2, pv3, pv4, pv5, pv6, pv7, pvc0, pvc1, pvc2, Pv.put, bin2, int2, binB2, un1, AV.flat, pvf, rvs_1, rvs_2, szOk, notStr, setCells, AV.one, resX, layC, layA, lay, List.map, List.replicate, List.length_replicate, pvq0, pvq1, seval, reduceCtorEq, mapO_bys, rows_bys, hcb, hcc]) ?_
    simp (disch := first | omega | (simp only [pvl]; omega)) only [↓pvd, pv0, pv1, pv2, pv3, pv4, pv5, pv6, pv7, pvc0, pvc1, pvc2, Pv.put, bin2, int2, binB2, un1, AV.flat, pvf, rvs_1, rvs_2, szOk, notStr, setCells, AV.one, resX, layC, layA, lay, List.map, List.replicate, List.length_replicate, pvq0, pvq1, seval, reduceCtorEq, true_and, still, h3b, h3c, hb0]
    (refine Ends_rq [] ?_; simp (disch := first | omega | (simp only [pvl]; omega)) only [↓pvd, pv0, pv1, pv2, pv3, pv4, pv5, pv6, pv7, pvc0, pvc1, pvc2, Pv.put, bin2, int2, binB2, un1, AV.flat, pvf, rvs_1, rvs_2, szOk, notStr, setCells, AV.one, resX, layC, layA, lay, List.map, List.replicate, List.length_replicate, pvq0, pvq1, seval, reduceCtorEq]; exact ⟨_, rfl, rfl, rfl⟩)
  · have qa := xq_ok (f := false) (by omega) hxa
    have qb := xq_err (f := false) (by omega) hxb
    have qc := xq_ok (f := false) hcl hxc
    obtain ⟨ha1, ha2, ha3⟩ := hok a la hxa
    have hla := lns_len la
    obtain ⟨hc1, hc2, hc3⟩ := hok _ lc hxc
    have hlc := lns_len lc
    by_cases h3b : eb = 3
    · subst h3b
      simp (disch := first | omega | (simp only [pvl]; omega)) only [↓pvd, pv0, pv1, pv2, pv3, pv4, pv5, pv6, pv7, pvc0, pvc1, pvc2, Pv.put, bin2, int2, binB2, un1, AV.flat, pvf, rvs_1, rvs_2, szOk, notStr, setCells, AV.one, resX, layC, layA, lay, List.map, List.replicate, List.length_replicate, pvq0, pvq1, seval, reduceCtorEq, hal, hbl, List.length_map]
      refine awR_call q0 rfl rfl ?_
      simp (disch := first | omega | (simp only [pvl]; omega)) only [↓pvd, pv0, pv1, pv2, pv3, pv4, pv5, pv6, pv7, pvc0, pvc1, pvc2, Pv.put, bin2, int2, binB2, un1, AV.flat, pvf, rvs_1, rvs_2, szOk, notStr, setCells, AV.one, resX, layC, layA, lay, List.map, List.replicate, List.length_replicate, pvq0, pvq1, seval, reduceCtorEq, hal, hbl]
      refine awR_call qa rfl rfl ?_
      simp (disch := first | omega | (simp only [pvl]; omega)) only [↓pvd, pv0, pv1, pv2, pv3, pv4, pv5, pv6, pv7, pvc0, pvc1, pvc2, Pv.put, bin2, int2, binB2, un1, AV.flat, pvf, rvs_1, rvs_2, szOk, notStr, setCells, AV.one, resX, layC, layA, lay, List.map, List.replicate, List.length_replicate, pvq0, pvq1, seval, reduceCtorEq, true_and]
      refine awR_call qb rfl rfl ?_
      simp (disch := first | omega | (simp only [pvl]; omega)) only [↓pvd, pv0, pv1, pv2, pv3, pv4, pv5, pv6, pv7, pvc0, pvc1, pvc2, Pv.put, bin2, int2, binB2, un1, AV.flat, pvf, rvs_1, rvs_2, szOk, notStr, setCells, AV.one, resX, layC, layA, lay, List.map, List.replicate, List.length_replicate, pvq0, pvq1, seval, reduceCtorEq, hal, hbl, hcb, hcc]
      refine awR_callS (ms := []) qc (by simp (disch := first | omega | (simp only [pvl]; omega)) only [↓pvd, pv0, pv1, pv2, pv3, pv4, pv5, pv6, pv7, pvc0, pvc1, pvc2, Pv.put, bin2, int2, binB2, un1, AV.flat, pvf, rvs_1, rvs_2, szOk, notStr, setCells, AV.one, resX, layC, layA, lay, List.map, List.replicate, List.length_replicate, pvq0, pvq1, seval, reduceCtorEq, mapO_bys, rows_bys, hcb, hcc]; rfl) (by simp (disch := first | omega | (simp only [pvl]; omega)) only [↓pvd, pv0, pv1, pv2, pv3, pv4, pv5, pv6, pv7, pvc0, pvc1, pvc2, Pv.put, bin2, int2, binB2, un1, AV.flat, pvf, rvs_1, rvs_2, szOk, notStr, setCells, AV.one, resX, layC, layA, lay, List.map, List.replicate, List.length_replicate, pvq0, pvq1, seval, reduceCtorEq, mapO_bys, rows_bys, hcb, hcc]) ?_
      simp (disch := first | omega | (simp only [pvl]; omega)) only [↓pvd, pv0, pv1, pv2, pv3, pv4, pv5, pv6, pv7, pvc0, pvc1, pvc2, Pv.put, bin2, int2, binB2, un1, AV.flat, pvf, rvs_1, rvs_2, szOk, notStr, setCells, AV.one, resX, layC, layA, lay, List.map, List.replicate, List.length_replicate, pvq0, pvq1, seval, reduceCtorEq, true_and, still]
      (refine Ends_rq [] ?_; simp (disch := first | omega | (simp only [pvl]; omega)) only [↓pvd, pv0, pv1, pv2, pv3, pv4, pv5, pv6, pv7, pvc0, pvc1, pvc2, Pv.put, bin2, int2, binB2, un1, AV.flat, pvf, rvs_1, rvs_2, szOk, notStr, setCells, AV.one, resX, layC, layA, lay, List.map, List.replicate, List.length_replicate, pvq0, pvq1, seval, reduceCtorEq]; exact ⟨_, rfl, rfl, rfl⟩)
    obtain ⟨hb1, hb0, hbr⟩ := hB rb eb hxb h3b
    rw [ha1, hb1] at hm
    simp only [moveX] at hm
    rw [hc1] at hm
    cases hm
  · have qa := xq_ok (f := false) (by omega) hxa
    have qb := xq_ok (f := false) (by omega) hxb
    have qc := xq_err (f := false) hcl hxc
    obtain ⟨ha1, ha2, ha3⟩ := hok a la hxa
    have hla := lns_len la
    obtain ⟨hb1, hb2, hb3⟩ := hok b lb hxb
    have hlb := lns_len lb
    by_cases h3c : ec = 3
    · subst h3c
      simp (disch := first | omega | (simp only [pvl]; omega)) only [↓pvd, pv0, pv1, pv2, pv3, pv4, pv5, pv6, pv7, pvc0, pvc1, pvc2, Pv.put, bin2, int2, binB2, un1, AV.flat, pvf, rvs_1, rvs_2, szOk, notStr, setCells, AV.one, resX, layC, layA, lay, List.map, List.replicate, List.length_replicate, pvq0, pvq1, seval, reduceCtorEq, hal, hbl, List.length_map]
      refine awR_call q0 rfl rfl ?_
      simp (disch := first | omega | (simp only [pvl]; omega)) only [↓pvd, pv0, pv1, pv2, pv3, pv4, pv5, pv6, pv7, pvc0, pvc1, pvc2, Pv.put, bin2, int2, binB2, un1, AV.flat, pvf, rvs_1, rvs_2, szOk, notStr, setCells, AV.one, resX, layC, layA, lay, List.map, List.replicate, List.length_replicate, pvq0, pvq1, seval, reduceCtorEq, hal, hbl]
      refine awR_call qa rfl rfl ?_
      simp (disch := first | omega | (simp only [pvl]; omega)) only [↓pvd, pv0, pv1, pv2, pv3, pv4, pv5, pv6, pv7, pvc0, pvc1, pvc2, Pv.put, bin2, int2, binB2, un1, AV.flat, pvf, rvs_1, rvs_2, szOk, notStr, setCells, AV.one, resX, layC, layA, lay, List.map, List.replicate, List.length_replicate, pvq0, pvq1, seval, reduceCtorEq, true_and]
      refine awR_call qb rfl rfl ?_
      simp (disch := first | omega | (simp only [pvl]; omega)) only [↓pvd, pv0, pv1, pv2, pv3, pv4, pv5, pv6, pv7, pvc0, pvc1, pvc2, Pv.put, bin2, int2, binB2, un1, AV.flat, pvf, rvs_1, rvs_2, szOk, notStr, setCells, AV.one, resX, layC, layA, lay, List.map, List.replicate, List.length_replicate, pvq0, pvq1, seval, reduceCtorEq, hal, hbl, hcb, hcc]
      refine awR_callS (ms := []) qc (by simp (disch := first | omega | (simp only [pvl]; omega)) only [↓pvd, pv0, pv1, pv2, pv3, pv4, pv5, pv6, pv7, pvc0, pvc1, pvc2, Pv.put, bin2, int2, binB2, un1, AV.flat, pvf, rvs_1, rvs_2, szOk, notStr, setCells, AV.one, resX, layC, layA, lay, List.map, List.replicate, List.length_replicate, pvq0, pvq1, seval, reduceCtorEq, mapO_bys, rows_bys, hcb, hcc]; rfl) (by simp (disch := first | omega | (simp only [pvl]; omega)) only [↓pvd, pv0, pv1, pv2, pv3, pv4, pv5, pv6, pv7, pvc0, pvc1, pvc2, Pv.put, bin2, int2, binB2, un1, AV.flat, pvf, rvs_1, rvs_2, szOk, notStr, setCells, AV.one, resX, layC, layA, lay, List.map, List.replicate, List.length_replicate, pvq0, pvq1, seval, reduceCtorEq, mapO_bys, rows_bys, hcb, hcc]) ?_
      simp (disch := first | omega | (simp only [pvl]; omega)) only [↓pvd, pv0, pv1, pv2, pv3, pv4, pv5, pv6, pv7, pvc0, pvc1, pvc2, Pv.put, bin2, int2, binB2, un1, AV.flat, pvf, rvs_1, rvs_2, szOk, notStr, setCells, AV.one, resX, layC, layA, lay, List.map, List.replicate, List.length_replicate, pvq0, pvq1, seval, reduceCtorEq, true_and, still]
      (refine Ends_rq [] ?_; simp (disch := first | omega | (simp only [pvl]; omega)) only [↓pvd, pv0, pv1, pv2, pv3, pv4, pv5, pv6, pv7, pvc0, pvc1, pvc2, Pv.put, bin2, int2, binB2, un1, AV.flat, pvf, rvs_1, rvs_2, szOk, notStr, setCells, AV.one, resX, layC, layA, lay, List.map, List.replicate, List.length_replicate, pvq0, pvq1, seval, reduceCtorEq]; exact ⟨_, rfl, rfl, rfl⟩)
    rw [ha1, hb1] at hm
    simp only [moveX] at hm
    rw [hC rc ec hxc h3c] at hm
    cases hm
  · have qa := xq_ok (f := false) (by omega) hxa
    have qb := xq_ok (f := false) (by omega) hxb
    have qc := xq_ok (f := false) hcl hxc
    obtain ⟨ha1, ha2, ha3⟩ := hok a la hxa
    have hla := lns_len la
    obtain ⟨hb1, hb2, hb3⟩ := hok b lb hxb
    have hlb := lns_len lb
    obtain ⟨hc1, hc2, hc3⟩ := hok _ lc hxc
    have hlc := lns_len lc
    rw [ha1, hb1] at hm
    simp only [moveX] at hm
    rw [hc1] at hm
    simp only [Sum.inr.injEq] at hm
    have qs := tsame_run (vs := lc.map lnV) (ws := (la ++ lb).map lnV) 17 17 false false (.inr rfl) (.inr rfl) (areLn_V lc) (areLn_V (la ++ lb)) hc3 (fun x hx => (List.mem_append.1 hx).elim (ha3 x) (hb3 x)) (by omega) (by rw [List.length_append]; omega)
    rw [decide_eq_true (by rw [hm, List.map_append, List.map_append, moveX_nr])] at qs
    have hap : la.map lnV ++ lb.map lnV = (la ++ lb).map lnV := by simp
    have hapl : (la.map lnV ++ lb.map lnV).length = la.length + lb.length := by simp
    simp (disch := first | omega | (simp only [pvl]; omega)) only [↓pvd, pv0, pv1, pv2, pv3, pv4, pv5, pv6, pv7, pvc0, pvc1, pvc2, Pv.put, bin2, int2, binB2, un1, AV.flat, pvf, rvs_1, rvs_2, szOk, notStr, setCells, AV.one, resX, layC, layA, lay, List.map, List.replicate, List.length_replicate, pvq0, pvq1, seval, reduceCtorEq, hal, hbl, List.length_map, hla, hlb, hlc]
    refine awR_call q0 rfl rfl ?_
    simp (disch := first | omega | (simp only [pvl]; omega)) only [↓pvd, pv0, pv1, pv2, pv3, pv4, pv5, pv6, pv7, pvc0, pvc1, pvc2, Pv.put, bin2, int2, binB2, un1, AV.flat, pvf, rvs_1, rvs_2, szOk, notStr, setCells, AV.one, resX, layC, layA, lay, List.map, List.replicate, List.length_replicate, pvq0, pvq1, seval, reduceCtorEq, hal, hbl, hla, hlb, hlc]
    refine awR_call qa rfl rfl ?_
    simp (disch := first | omega | (simp only [pvl]; omega)) only [↓pvd, pv0, pv1, pv2, pv3, pv4, pv5, pv6, pv7, pvc0, pvc1, pvc2, Pv.put, bin2, int2, binB2, un1, AV.flat, pvf, rvs_1, rvs_2, szOk, notStr, setCells, AV.one, resX, layC, layA, lay, List.map, List.replicate, List.length_replicate, pvq0, pvq1, seval, reduceCtorEq, true_and, hla, hlb, hlc]
    refine awR_call qb rfl rfl ?_
    simp (disch := first | omega | (simp only [pvl]; omega)) only [↓pvd, pv0, pv1, pv2, pv3, pv4, pv5, pv6, pv7, pvc0, pvc1, pvc2, Pv.put, bin2, int2, binB2, un1, AV.flat, pvf, rvs_1, rvs_2, szOk, notStr, setCells, AV.one, resX, layC, layA, lay, List.map, List.replicate, List.length_replicate, pvq0, pvq1, seval, reduceCtorEq, hal, hbl, hcb, hcc, hla, hlb, hlc]
    refine awR_callS (ms := []) qc (by simp (disch := first | omega | (simp only [pvl]; omega)) only [↓pvd, pv0, pv1, pv2, pv3, pv4, pv5, pv6, pv7, pvc0, pvc1, pvc2, Pv.put, bin2, int2, binB2, un1, AV.flat, pvf, rvs_1, rvs_2, szOk, notStr, setCells, AV.one, resX, layC, layA, lay, List.map, List.replicate, List.length_replicate, pvq0, pvq1, seval, reduceCtorEq, mapO_bys, rows_bys, hcb, hcc]; rfl) (by simp (disch := first | omega | (simp only [pvl]; omega)) only [↓pvd, pv0, pv1, pv2, pv3, pv4, pv5, pv6, pv7, pvc0, pvc1, pvc2, Pv.put, bin2, int2, binB2, un1, AV.flat, pvf, rvs_1, rvs_2, szOk, notStr, setCells, AV.one, resX, layC, layA, lay, List.map, List.replicate, List.length_replicate, pvq0, pvq1, seval, reduceCtorEq, mapO_bys, rows_bys, hcb, hcc]) ?_
    simp (disch := first | omega | (simp only [pvl]; omega)) only [↓pvd, pv0, pv1, pv2, pv3, pv4, pv5, pv6, pv7, pvc0, pvc1, pvc2, Pv.put, bin2, int2, binB2, un1, AV.flat, pvf, rvs_1, rvs_2, szOk, notStr, setCells, AV.one, resX, layC, layA, lay, List.map, List.replicate, List.length_replicate, pvq0, pvq1, seval, reduceCtorEq, true_and, still, hla, hlb, hlc]
    refine awR_callR (ms := []) qs (by simp (disch := first | omega | (simp only [pvl]; omega)) only [↓pvd, pv0, pv1, pv2, pv3, pv4, pv5, pv6, pv7, pvc0, pvc1, pvc2, Pv.put, bin2, int2, binB2, un1, AV.flat, pvf, rvs_1, rvs_2, szOk, notStr, setCells, AV.one, resX, layC, layA, lay, List.map, List.replicate, List.length_replicate, pvq0, pvq1, seval, reduceCtorEq, mapO_map ln_nr, rows_map ln_nr, hap, hapl, hla, hlb]; rfl) (by simp (disch := first | omega | (simp only [pvl]; omega)) only [↓pvd, pv0, pv1, pv2, pv3, pv4, pv5, pv6, pv7, pvc0, pvc1, pvc2, Pv.put, bin2, int2, binB2, un1, AV.flat, pvf, rvs_1, rvs_2, szOk, notStr, setCells, AV.one, resX, layC, layA, lay, List.map, List.replicate, List.length_replicate, pvq0, pvq1, seval, reduceCtorEq, mapO_map ln_nr, rows_map ln_nr, hap, hapl, hla, hlb]) rfl ?_
    simp (disch := first | omega | (simp only [pvl]; omega)) only [↓pvd, pv0, pv1, pv2, pv3, pv4, pv5, pv6, pv7, pvc0, pvc1, pvc2, Pv.put, bin2, int2, binB2, un1, AV.flat, pvf, rvs_1, rvs_2, szOk, notStr, setCells, AV.one, resX, layC, layA, lay, List.map, List.replicate, List.length_replicate, pvq0, pvq1, seval, reduceCtorEq, true_and]
    (refine Ends_rq [] ?_; simp (disch := first | omega | (simp only [pvl]; omega)) only [↓pvd, pv0, pv1, pv2, pv3, pv4, pv5, pv6, pv7, pvc0, pvc1, pvc2, Pv.put, bin2, int2, binB2, un1, AV.flat, pvf, rvs_1, rvs_2, szOk, notStr, setCells, AV.one, resX, layC, layA, lay, List.map, List.replicate, List.length_replicate, pvq0, pvq1, seval, reduceCtorEq]; exact ⟨_, rfl, rfl, rfl⟩)
theorem textFirst_all : ∀ xs, DatL Tryd.prog 6 Tryd.f5.params.toList xs → Run Tryd.prog 5 xs (.bool true) := by
  intro xs h
  rw [show Tryd.f5.params.toList = [26, 26] from rfl] at h
  obtain ⟨y1, y2, rfl, h1, h2⟩ := datL2 h
  obtain ⟨a, rfl, ha⟩ := dat_bys Tryd.underlying26 Tryd.underlying5 (by kernel_rfl) h1
  obtain ⟨b, rfl, hb⟩ := dat_bys Tryd.underlying26 Tryd.underlying5 (by kernel_rfl) h2
  exact textFirst_run a b ha hb
end Go.Proofs
