/- The proofs of what the functions of this seat do. -/
import Derived.Test.YtppdpcfmkmnfjaaDoorPr5
set_option linter.unusedSimpArgs false
set_option linter.unusedVariables false
set_option maxHeartbeats 2000000
set_option maxRecDepth 20000
namespace Go.Proofs
open Go.Pv
open Nm (spl swV okW okB swF enO wsF finF swV_ws)
/-- What rows are, that stand behind i others. -/
noncomputable def rdR : Nat → List (List UInt8) → (Int × Int) ⊕ List LnF
  | _, [] => .inr []
  | i, r :: rs => if (swV r).all okW = true then
      if swV r = [] then rdR (i + 1) rs
      else if rdE (swV r) = 0 then match rdR (i + 1) rs with
        | .inl x => .inl x
        | .inr l => .inr (rdL (swV r) ((i : Int) + 1) :: l)
      else .inl ((i : Int) + 1, rdE (swV r))
    else .inl ((i : Int) + 1, 20)
theorem rdX_go (rows : List (List UInt8)) : ∀ (n k : Nat) (acc : List LnF), rows.length - k = n → k ≤ rows.length → rdX rows k = .inr acc → rdX rows rows.length = match rdR k (rows.drop k) with | .inl x => .inl x | .inr l => .inr (acc ++ l) := by
  intro n
  induction n with
  | zero =>
    intro k acc hn hk h
    obtain rfl : k = rows.length := by omega
    rw [List.drop_length, h]
    simp [rdR]
  | succ n ih =>
    intro k acc hn hk h
    have hx : k < rows.length := by omega
    have hd : rows.drop k = rows[k]! :: rows.drop (k + 1) := by rw [getElem!_pos rows k hx]; exact List.drop_eq_getElem_cons hx
    have hs := rdX_s rows k acc h
    have hr := rdX_err rows k acc
    rw [hd, rdR]
    unfold stepX at hs hr
    by_cases ho : (swV rows[k]!).all okW = true
    · simp only [if_pos ho] at hs hr ⊢
      by_cases hn0 : swV rows[k]! = []
      · simp only [if_pos hn0] at hs ⊢
        exact ih (k + 1) acc (by omega) (by omega) hs
      · simp only [if_neg hn0] at hs hr ⊢
        by_cases he : rdE (swV rows[k]!) = 0
        · simp only [if_pos he] at hs ⊢
          rw [ih (k + 1) _ (by omega) (by omega) hs]
          cases rdR (k + 1) (rows.drop (k + 1)) with
          | inl x => rfl
          | inr l => simp
        · simp only [if_neg he] at hr ⊢
          exact hr _ h hx rfl
    · simp only [if_neg ho] at hr ⊢
      exact hr 20 h hx rfl
theorem rdX_R (rows : List (List UInt8)) : rdX rows rows.length = rdR 0 rows := by
  rw [rdX_go rows rows.length 0 [] (by omega) (by omega) rfl, List.drop_zero]
  cases rdR 0 rows <;> simp
theorem readX_R (b : List UInt8) : readX b = if 20000 < b.length ∨ 400 < (spl b).length then .inl (0, 3) else rdR 0 (spl b) := by
  unfold readX
  rw [rdX_R]
/-- It is by the words alone. -/
theorem rdR_words : ∀ (i : Nat) (rs rs' : List (List UInt8)), rs.map swV = rs'.map swV → rdR i rs = rdR i rs'
  | _, [], [], _ => rfl
  | _, [], _ :: _, h => by simp at h
  | _, _ :: _, [], h => by simp at h
  | i, r :: rs, r' :: rs', h => by
    simp only [List.map_cons, List.cons.injEq] at h
    rw [rdR, rdR, h.1, rdR_words (i + 1) rs rs' h.2]
theorem rdR_blank {i : Nat} {r : List UInt8} {rs : List (List UInt8)} (h : swV r = []) : rdR i (r :: rs) = rdR (i + 1) rs := by
  rw [rdR, h]
  simp
theorem rdR_app : ∀ (i : Nat) (rs rs' : List (List UInt8)), rdR i (rs ++ rs') = match rdR i rs with
    | .inl x => .inl x
    | .inr l => match rdR (i + rs.length) rs' with
      | .inl y => .inl y
      | .inr l' => .inr (l ++ l')
  | i, [], rs' => by
    rw [List.nil_append, rdR]
    simp only [List.length_nil, Nat.add_zero, List.nil_append]
    cases rdR i rs' <;> rfl
  | i, r :: rs, rs' => by
    have ih := rdR_app (i + 1) rs rs'
    rw [List.cons_append, rdR, rdR]
    have e : i + (r :: rs).length = i + 1 + rs.length := by rw [List.length_cons]; omega
    rw [e]
    by_cases ho : (swV r).all okW = true
    · simp only [if_pos ho]
      by_cases hn : swV r = []
      · simp only [if_pos hn]
        exact ih
      · simp only [if_neg hn]
        by_cases he : rdE (swV r) = 0
        · simp only [if_pos he]
          rw [ih]
          cases rdR (i + 1) rs with
          | inl x => rfl
          | inr l =>
            cases rdR (i + 1 + rs.length) rs' with
            | inl y => rfl
            | inr l' => simp
        · simp only [if_neg he]
    · simp only [if_neg ho]
theorem rdL_row (ws : List (List UInt8)) (r o : Int) (h : rdE ws = 0) : withRow (rdL ws r) o = rdL ws o := by
  unfold rdL liF
  repeat' split
  all_goals rfl
/-- So many rows further on. -/
def moveX (m : Nat) : (Int × Int) ⊕ List LnF → (Int × Int) ⊕ List LnF
  | .inl (r, e) => .inl (r + m, e)
  | .inr l => .inr (l.map fun x => withRow x (x.l.row + m))
theorem rdR_move (m : Nat) : ∀ (i : Nat) (rs : List (List UInt8)), rdR (i + m) rs = moveX m (rdR i rs)
  | _, [] => rfl
  | i, r :: rs => by
    have ih := rdR_move m (i + 1) rs
    rw [rdR, rdR]
    rw [show i + 1 + m = i + m + 1 by omega] at ih
    by_cases ho : (swV r).all okW = true
    · simp only [if_pos ho]
      by_cases hn : swV r = []
      · simp only [if_pos hn]
        exact ih
      · simp only [if_neg hn]
        by_cases he : rdE (swV r) = 0
        · simp only [if_pos he]
          rw [ih]
          cases rdR (i + 1) rs with
          | inl x => rfl
          | inr l =>
            simp only [moveX, List.map_cons]
            rw [rd_row he, rdL_row _ _ _ he]
            congr 3
            omega
        · simp only [if_neg he, moveX]
          congr 2
          omega
    · simp only [if_neg ho, moveX]
      congr 2
      omega
/-- Which rows are told. -/
def boundX (i n : Nat) : (Int × Int) ⊕ List LnF → Prop
  | .inl (r, _) => (i : Int) < r ∧ r ≤ i + n
  | .inr l => l.length ≤ n ∧ ∀ x ∈ l, (i : Int) < x.l.row ∧ x.l.row ≤ i + n
theorem rdR_bound : ∀ (i : Nat) (rs : List (List UInt8)), boundX i rs.length (rdR i rs)
  | i, [] => ⟨by simp, by simp⟩
  | i, r :: rs => by
    have ih := rdR_bound (i + 1) rs
    rw [rdR]
    rw [List.length_cons]
    by_cases ho : (swV r).all okW = true
    · simp only [if_pos ho]
      by_cases hn : swV r = []
      · simp only [if_pos hn]
        cases hr : rdR (i + 1) rs with
        | inl x => rw [hr] at ih; simp only [boundX] at ih ⊢; omega
        | inr l =>
          rw [hr] at ih
          simp only [boundX] at ih ⊢
          exact ⟨by omega, fun x hx => by have := ih.2 x hx; omega⟩
      · simp only [if_neg hn]
        by_cases he : rdE (swV r) = 0
        · simp only [if_pos he]
          cases hr : rdR (i + 1) rs with
          | inl x => rw [hr] at ih; simp only [boundX] at ih ⊢; omega
          | inr l =>
            rw [hr] at ih
            simp only [boundX] at ih ⊢
            refine ⟨by simp; omega, fun x hx => ?_⟩
            rcases List.mem_cons.1 hx with rfl | hx
            · rw [rd_row he]; omega
            · have := ih.2 x hx; omega
        · simp only [if_neg he, boundX]; omega
    · simp only [if_neg ho, boundX]; omega
/-- What is read may be. -/
def goodX : (Int × Int) ⊕ List LnF → Prop
  | .inl (_, e) => e ≠ 0
  | .inr l => ∀ x ∈ l, lnB x ∧ ∃ ws r, rdE ws = 0 ∧ ws.all okW = true ∧ x = rdL ws r
theorem rdR_good : ∀ (i : Nat) (rs : List (List UInt8)), goodX (rdR i rs)
  | i, [] => by simp [rdR, goodX]
  | i, r :: rs => by
    have ih := rdR_good (i + 1) rs
    rw [rdR]
    by_cases ho : (swV r).all okW = true
    · simp only [if_pos ho]
      by_cases hn : swV r = []
      · simp only [if_pos hn]
        exact ih
      · simp only [if_neg hn]
        by_cases he : rdE (swV r) = 0
        · simp only [if_pos he]
          cases hr : rdR (i + 1) rs with
          | inl x => rw [hr] at ih; exact ih
          | inr l =>
            rw [hr] at ih
            simp only [goodX] at ih ⊢
            intro x hx
            rcases List.mem_cons.1 hx with rfl | hx
            · exact ⟨rd_B he, _, _, he, ho, rfl⟩
            · exact ih x hx
        · simp only [if_neg he, goodX]; exact he
    · simp only [if_neg ho, goodX]; decide
theorem wsF_rem (rem : List UInt8) : ∀ (r cur : List UInt8) (out : List (List UInt8)), wsF cur out (r ++ 32 :: 35 :: rem) = wsF cur out r
  | [], cur, out => by
    rw [show wsF cur out [] = finF cur out from rfl, List.nil_append, wsF, if_neg (by decide), if_pos (by decide), wsF, if_pos rfl]
    simp [finF]
  | c :: r, cur, out => by
    rw [List.cons_append, wsF, wsF, wsF_rem rem r, wsF_rem rem r]
theorem swV_rem (r rem : List UInt8) : swV (r ++ 32 :: 35 :: rem) = swV r := by rw [swV_ws, swV_ws, wsF_rem]
theorem swV_blank : swV [32, 9, 35] = [] := by decide
theorem swV_nil : swV [] = [] := by decide
theorem spl_no : ∀ (t : List UInt8), t ≠ [] → (∀ c ∈ t, c ≠ 10) → spl t = [t]
  | [], h, _ => absurd rfl h
  | [c], _, h => by simp [spl, h c (by simp)]
  | c :: d :: t, _, h => by
    have ih := spl_no (d :: t) (by simp) (fun x hx => h x (by simp [hx]))
    rw [spl, if_neg (h c (by simp)), ih]
theorem spl_ne : ∀ (t : List UInt8), t ≠ [] → spl t ≠ []
  | [], h => absurd rfl h
  | c :: t, _ => by
    rw [spl]
    split
    · simp
    · cases spl t <;> simp
theorem spl_first (rem : List UInt8) (hr : ∀ c ∈ rem, c ≠ 10) : ∀ b : List UInt8, b ≠ [] → ∀ h t h' t', spl b = h :: t → spl (b ++ 32 :: 35 :: rem) = h' :: t' → h' = h ∨ h' = h ++ 32 :: 35 :: rem
  | [], h0, _, _, _, _, _, _ => absurd rfl h0
  | c :: b, _, h, t, h', t', e1, e2 => by
    rw [List.cons_append, spl] at e2
    rw [spl] at e1
    by_cases hc : c = 10
    · rw [if_pos hc] at e1 e2
      cases e1
      cases e2
      exact .inl rfl
    · rw [if_neg hc] at e1 e2
      by_cases hb : b = []
      · subst hb
        rw [List.nil_append, spl_no (32 :: 35 :: rem) (by simp) (by
          intro c hc
          simp only [List.mem_cons] at hc
          rcases hc with rfl | rfl | hc
          · decide
          · decide
          · exact hr c hc)] at e2
        simp only [spl, List.cons.injEq] at e1 e2
        obtain ⟨rfl, _⟩ := e1
        obtain ⟨rfl, _⟩ := e2
        exact .inr rfl
      · have h1 := spl_ne b hb
        have h2 := spl_ne (b ++ 32 :: 35 :: rem) (by simp)
        cases f1 : spl b with
        | nil => exact absurd f1 h1
        | cons x y =>
          cases f2 : spl (b ++ 32 :: 35 :: rem) with
          | nil => exact absurd f2 h2
          | cons x' y' =>
            have ih := spl_first rem hr b hb x y x' y' f1 f2
            rw [f1] at e1
            rw [f2] at e2
            simp only [List.cons.injEq] at e1 e2
            obtain ⟨rfl, _⟩ := e1
            obtain ⟨rfl, _⟩ := e2
            rcases ih with rfl | rfl
            · exact .inl rfl
            · exact .inr rfl
/-- With a remark behind, a text's rows have the words they had, but for an empty one more. -/
theorem spl_rem (rem : List UInt8) (hr : ∀ c ∈ rem, c ≠ 10) : ∀ b : List UInt8, (spl (b ++ 32 :: 35 :: rem)).map swV = (spl b).map swV ∨ (spl (b ++ 32 :: 35 :: rem)).map swV = (spl b).map swV ++ [[]]
  | [] => by
    right
    rw [List.nil_append, spl_no _ (by simp) (by
      intro c hc
      simp only [List.mem_cons] at hc
      rcases hc with rfl | rfl | hc
      · decide
      · decide
      · exact hr c hc)]
    have := swV_rem [] rem
    rw [List.nil_append, swV_nil] at this
    simp [spl, this]
  | c :: b => by
    have ih := spl_rem rem hr b
    rw [List.cons_append, spl, spl]
    by_cases hc : c = 10
    · rw [if_pos hc, if_pos hc, List.map_cons, List.map_cons]
      rcases ih with h | h
      · left; rw [h]
      · right; rw [h]; simp
    · rw [if_neg hc, if_neg hc]
      by_cases hb : b = []
      · subst hb
        left
        have e : spl ([] ++ 32 :: 35 :: rem) = [32 :: 35 :: rem] := spl_no _ (by simp) (by
          intro c hc
          simp only [List.nil_append, List.mem_cons] at hc
          rcases hc with rfl | rfl | hc
          · decide
          · decide
          · exact hr c hc)
        rw [e]
        have := swV_rem [c] rem
        simp only [spl, List.map_cons, List.map_nil]
        rw [show c :: 32 :: 35 :: rem = [c] ++ 32 :: 35 :: rem from rfl, this]
      · have h1 := spl_ne b hb
        have h2 := spl_ne (b ++ 32 :: 35 :: rem) (by simp)
        have h3 := spl_first rem hr b hb
        cases e1 : spl b with
        | nil => exact absurd e1 h1
        | cons h t =>
          cases e2 : spl (b ++ 32 :: 35 :: rem) with
          | nil => exact absurd e2 h2
          | cons h' t' =>
            rw [e1, e2] at ih h3
            simp only [List.map_cons, List.cons.injEq, List.cons_append] at ih ⊢
            have hh : swV (c :: h') = swV (c :: h) := by
              rcases h3 h t h' t' rfl rfl with rfl | rfl
              · rfl
              · rw [← List.cons_append, swV_rem]
            rcases ih with ih | ih
            · left; exact ⟨hh, ih.2⟩
            · right; exact ⟨hh, ih.2⟩
/-- Blank rows ahead. -/
def blk (m : Nat) : List UInt8 := (List.replicate m [32, 9, 35, 10]).flatten
theorem blk_s (m : Nat) : blk (m + 1) = blk m ++ [32, 9, 35, 10] := by
  unfold blk
  rw [List.replicate_succ']
  simp
theorem blk_len (m : Nat) : (blk m).length = 4 * m := by
  induction m with
  | zero => rfl
  | succ m ih => rw [blk_s, List.length_append, ih]; simp; omega
theorem spl_blk (y : List UInt8) : ∀ m : Nat, spl (blk m ++ y) = List.replicate m [32, 9, 35] ++ spl y
  | 0 => rfl
  | m + 1 => by
    have ih := spl_blk y m
    have e : blk (m + 1) ++ y = [32, 9, 35] ++ 10 :: (blk m ++ y) := by
      unfold blk
      simp [List.replicate_succ]
    rw [e, Nm.spl_hit _ _ (by decide), ih, List.replicate_succ]
    rfl
theorem rdR_blanks (i : Nat) (rs : List (List UInt8)) : ∀ m : Nat, rdR i (List.replicate m [32, 9, 35] ++ rs) = rdR (i + m) rs
  | 0 => rfl
  | m + 1 => by
    rw [List.replicate_succ, List.cons_append, rdR_blank swV_blank]
    have : ∀ (m i : Nat), rdR i (List.replicate m [32, 9, 35] ++ rs) = rdR (i + m) rs := by
      intro m
      induction m with
      | zero => intro i; rfl
      | succ m ih =>
        intro i
        rw [List.replicate_succ, List.cons_append, rdR_blank swV_blank, ih (i + 1)]
        congr 1
        omega
    rw [this m (i + 1)]
    congr 1
    omega
/-- Rows ahead without words, and a remark behind. -/
theorem blanks_R (b rem : List UInt8) (hr : ∀ c ∈ rem, c ≠ 10) (m : Nat) : rdR 0 (spl (blk m ++ (b ++ 32 :: 35 :: rem))) = moveX m (rdR 0 (spl b)) := by
  rw [spl_blk, rdR_blanks, rdR_move]
  congr 1
  rcases spl_rem rem hr b with h | h
  · exact rdR_words 0 _ _ h
  · rw [rdR_words 0 _ (spl b ++ [[]]) (by rw [h]; simp [swV_nil]), rdR_app]
    cases rdR 0 (spl b) with
    | inl x => rfl
    | inr l =>
      simp only
      rw [rdR_blank swV_nil]
      simp [rdR]
theorem moveX_nr (m : Nat) (l : List LnF) : (l.map fun x => withRow x (x.l.row + m)).map nr = l.map nr := by
  rw [List.map_map]
  rfl
end Go.Proofs

set_option linter.unusedSimpArgs false
set_option linter.unusedVariables false
set_option maxHeartbeats 2000000
set_option maxRecDepth 20000
namespace Go.Proofs
open Go.Pv
open Nm (spl swV okW okB swF enO wsF finF swV_ws)
theorem xq_err {b : List UInt8} {f : Bool} {r e : Int} (hb : b.length ≤ 100000) (h : readX b = .inl (r, e)) : Run Tryd.prog 12 [.sl 1 (bys b) f] (.tup [.sl 0 [] true, .int .i64 r, .int .i64 e]) := by
  have := run_frz (xread_run b f hb)
  rw [h] at this
  exact this
theorem xq_ok {b : List UInt8} {f : Bool} {l : List LnF} (hb : b.length ≤ 100000) (h : readX b = .inr l) : Run Tryd.prog 12 [.sl 1 (bys b) f] (.tup [.sl 17 (l.map lnV) false, .int .i64 0, .int .i64 0]) := by
  have := run_frz (xread_run b f hb)
  rw [h] at this
  exact this
theorem readX_big {b : List UInt8} (h : 20000 < b.length ∨ 400 < (spl b).length) : readX b = .inl (0, 3) := by rw [readX_R, if_pos h]
theorem readX_small {b : List UInt8} (h : ¬ (20000 < b.length ∨ 400 < (spl b).length)) : readX b = rdR 0 (spl b) := by rw [readX_R, if_neg h]
theorem good_S {l : List LnF} {x : (Int × Int) ⊕ List LnF} (h : goodX x) (e : x = .inr l) : ∀ y ∈ l, lnS y := by
  subst e
  intro y hy
  have := (h y hy).1.1
  exact ⟨by omega, by omega, by omega, by omega⟩
theorem bnd_len {i n : Nat} {x : (Int × Int) ⊕ List LnF} {l : List LnF} (h : boundX i n x) (e : x = .inr l) : l.length ≤ n := by subst e; exact h.1
theorem lns_len (l : List LnF) : (l.map lnV).length = l.length := by simp
end Go.Proofs

set_option linter.unusedSimpArgs false
set_option linter.unusedVariables false
set_option maxHeartbeats 2000000
set_option maxRecDepth 20000
namespace Go.Proofs
open Go.Pv
open Nm (spl swV okW okB swF enO wsF finF swV_ws)
theorem blk_app (m : Nat) : bys (blk m) ++ [AV.int .u8 32, .int .u8 9, .int .u8 35, .int .u8 10] = bys (blk (m + 1)) := by rw [blk_s]; simp [bys, bv]
set_option maxHeartbeats 16000000 in
/-- The end of the statement: what both texts are. -/
theorem blanks_end (A : Int) (hA : 0 ≤ A ∧ A ≤ 20) (l : List LnF) (hl : ∀ x ∈ l, 0 < x.l.row ∧ x.l.row ≤ 1000) (k : Nat) (hk : k < l.length) : ((l.map fun x => withRow x (x.l.row + A))[k]!).l.row = (l[k]!).l.row + A := by
  rw [getElem!_pos _ k (by simpa using hk), getElem!_pos l k hk]
  simp [withRow]
set_option maxHeartbeats 16000000 in
theorem textBlanks_run (b rem : List UInt8) (A : Int) (hA : 0 ≤ A ∧ A ≤ 255) (hlb : b.length ≤ maxLen) (hlr : rem.length ≤ maxLen) : Run Tryd.prog 4 [.sl 1 (bys b) false, .int .u8 A, .str rem] (.bool true) := by
  have q0 := works12
  have hlb2 : (b.length : Int) ≤ 9223372036854775807 := by simp only [maxLen] at hlb; omega
  have hlr2 : (rem.length : Int) ≤ 9223372036854775807 := by simp only [maxLen] at hlr; omega
  have hbl : (bys b).length = b.length := by simp [bys]
  clear hlb hlr
  refine Tryd.run4 (by simp) ?_
  unfold Tryd.c4
  by_cases hg : b.length ≤ 3000 ∧ A ≤ 20 ∧ rem.length ≤ 300
  case neg =>
    by_cases h1 : b.length ≤ 3000
    · by_cases h2 : A ≤ 20
      · have : 300 < rem.length := by omega
        repeat' (first | (simp (disch := first | omega | (simp only [pvl]; omega)) only [↓pvd, pv0, pv1, pv2, pv3, pv4, pv5, pv6, pv7, pvc0, pvc1, pvc2, Pv.put, bin2, int2, binB2, un1, AV.flat, pvf, rvs_1, rvs_2, szOk, notStr, setCells, AV.one, resX, layC, layA, lay, List.map, List.replicate, List.length_replicate, pvq0, pvq1, seval, reduceCtorEq, hbl, still]) | with_reducible refine condP_d (fun _ => ?_) (fun _ => ?_) | with_reducible refine guardP_d0 (fun _ => ?_) (fun _ => ?_) | with_reducible refine guardP_d1 (fun _ => ?_) (fun _ => ?_) | with_reducible refine condP_any ?_ ?_ | refine awR_call q0 rfl rfl ?_ | refine awR_callD q0 rfl rfl (fun _ => rfl) ?_ | (refine Ends_rq [] ?_; simp (disch := first | omega | (simp only [pvl]; omega)) only [↓pvd, pv0, pv1, pv2, pv3, pv4, pv5, pv6, pv7, pvc0, pvc1, pvc2, Pv.put, bin2, int2, binB2, un1, AV.flat, pvf, rvs_1, rvs_2, szOk, notStr, setCells, AV.one, resX, layC, layA, lay, List.map, List.replicate, List.length_replicate, pvq0, pvq1, seval, reduceCtorEq]; exact ⟨_, rfl, rfl, rfl⟩))
      · have : 20 < A := by omega
        repeat' (first | (simp (disch := first | omega | (simp only [pvl]; omega)) only [↓pvd, pv0, pv1, pv2, pv3, pv4, pv5, pv6, pv7, pvc0, pvc1, pvc2, Pv.put, bin2, int2, binB2, un1, AV.flat, pvf, rvs_1, rvs_2, szOk, notStr, setCells, AV.one, resX, layC, layA, lay, List.map, List.replicate, List.length_replicate, pvq0, pvq1, seval, reduceCtorEq, hbl, still]) | with_reducible refine condP_d (fun _ => ?_) (fun _ => ?_) | with_reducible refine guardP_d0 (fun _ => ?_) (fun _ => ?_) | with_reducible refine guardP_d1 (fun _ => ?_) (fun _ => ?_) | with_reducible refine condP_any ?_ ?_ | refine awR_call q0 rfl rfl ?_ | refine awR_callD q0 rfl rfl (fun _ => rfl) ?_ | (refine Ends_rq [] ?_; simp (disch := first | omega | (simp only [pvl]; omega)) only [↓pvd, pv0, pv1, pv2, pv3, pv4, pv5, pv6, pv7, pvc0, pvc1, pvc2, Pv.put, bin2, int2, binB2, un1, AV.flat, pvf, rvs_1, rvs_2, szOk, notStr, setCells, AV.one, resX, layC, layA, lay, List.map, List.replicate, List.length_replicate, pvq0, pvq1, seval, reduceCtorEq]; exact ⟨_, rfl, rfl, rfl⟩))
    · have : 3000 < b.length := by omega
      repeat' (first | (simp (disch := first | omega | (simp only [pvl]; omega)) only [↓pvd, pv0, pv1, pv2, pv3, pv4, pv5, pv6, pv7, pvc0, pvc1, pvc2, Pv.put, bin2, int2, binB2, un1, AV.flat, pvf, rvs_1, rvs_2, szOk, notStr, setCells, AV.one, resX, layC, layA, lay, List.map, List.replicate, List.length_replicate, pvq0, pvq1, seval, reduceCtorEq, hbl, still]) | with_reducible refine condP_d (fun _ => ?_) (fun _ => ?_) | with_reducible refine guardP_d0 (fun _ => ?_) (fun _ => ?_) | with_reducible refine guardP_d1 (fun _ => ?_) (fun _ => ?_) | with_reducible refine condP_any ?_ ?_ | refine awR_call q0 rfl rfl ?_ | refine awR_callD q0 rfl rfl (fun _ => rfl) ?_ | (refine Ends_rq [] ?_; simp (disch := first | omega | (simp only [pvl]; omega)) only [↓pvd, pv0, pv1, pv2, pv3, pv4, pv5, pv6, pv7, pvc0, pvc1, pvc2, Pv.put, bin2, int2, binB2, un1, AV.flat, pvf, rvs_1, rvs_2, szOk, notStr, setCells, AV.one, resX, layC, layA, lay, List.map, List.replicate, List.length_replicate, pvq0, pvq1, seval, reduceCtorEq]; exact ⟨_, rfl, rfl, rfl⟩))
  obtain ⟨g1, g2, g3⟩ := hg
  simp (disch := first | omega | (simp only [pvl]; omega)) only [↓pvd, pv0, pv1, pv2, pv3, pv4, pv5, pv6, pv7, pvc0, pvc1, pvc2, Pv.put, bin2, int2, binB2, un1, AV.flat, pvf, rvs_1, rvs_2, szOk, notStr, setCells, AV.one, resX, layC, layA, lay, List.map, List.replicate, List.length_replicate, pvq0, pvq1, seval, reduceCtorEq, hbl]
  refine awR_call q0 rfl rfl ?_
  simp (disch := first | omega | (simp only [pvl]; omega)) only [↓pvd, pv0, pv1, pv2, pv3, pv4, pv5, pv6, pv7, pvc0, pvc1, pvc2, Pv.put, bin2, int2, binB2, un1, AV.flat, pvf, rvs_1, rvs_2, szOk, notStr, setCells, AV.one, resX, layC, layA, lay, List.map, List.replicate, List.length_replicate, pvq0, pvq1, seval, reduceCtorEq, hbl]
  refine aw_loop (fun k : Nat => ⟨[(0, .sl 1 (bys b) false), (1, .int .u8 A), (2, .str rem), (7, .int .i64 k)], []⟩) (fun k => k ≤ rem.length ∧ ∀ j < k, rem[j]! ≠ 10) (fun k => rem.length - k) 0 ?_ ⟨by omega, by simp⟩ ?_
  · simp (disch := first | omega | (simp only [pvl]; omega)) only [↓pvd, pv0, pv1, pv2, pv3, pv4, pv5, pv6, pv7, pvc0, pvc1, pvc2, Pv.put, bin2, int2, binB2, un1, AV.flat, pvf, rvs_1, rvs_2, szOk, notStr, setCells, AV.one, resX, layC, layA, lay, List.map, List.replicate, List.length_replicate, pvq0, pvq1, seval, reduceCtorEq, true_and]
    try rfl
  rintro k ⟨hk, hp⟩
  unfold Tryd.c4b0
  by_cases hx : k < rem.length
  · have hgi : rem[k]? = some rem[k]! := by rw [getElem!_pos rem k hx, List.getElem?_eq_getElem hx]
    by_cases h10 : rem[k]! = 10
    · simp (disch := first | omega | (simp only [pvl]; omega)) only [↓pvd, pv0, pv1, pv2, pv3, pv4, pv5, pv6, pv7, pvc0, pvc1, pvc2, Pv.put, bin2, int2, binB2, un1, AV.flat, pvf, rvs_1, rvs_2, szOk, notStr, setCells, AV.one, resX, layC, layA, lay, List.map, List.replicate, List.length_replicate, pvq0, pvq1, seval, reduceCtorEq, hgi, bv, h10]
      (refine Ends_rq [] ?_; simp (disch := first | omega | (simp only [pvl]; omega)) only [↓pvd, pv0, pv1, pv2, pv3, pv4, pv5, pv6, pv7, pvc0, pvc1, pvc2, Pv.put, bin2, int2, binB2, un1, AV.flat, pvf, rvs_1, rvs_2, szOk, notStr, setCells, AV.one, resX, layC, layA, lay, List.map, List.replicate, List.length_replicate, pvq0, pvq1, seval, reduceCtorEq]; exact ⟨_, rfl, rfl, rfl⟩)
    · have h10' : ¬ ((rem[k]!).toNat : Int) = 10 := by
        generalize rem[k]! = c at h10 ⊢
        intro h
        have h' : c.toNat = (10 : UInt8).toNat := by
          rw [show (10 : UInt8).toNat = 10 from rfl]
          omega
        exact h10 (UInt8.toNat_inj.1 h')
      simp (disch := first | omega | (simp only [pvl]; omega)) only [↓pvd, pv0, pv1, pv2, pv3, pv4, pv5, pv6, pv7, pvc0, pvc1, pvc2, Pv.put, bin2, int2, binB2, un1, AV.flat, pvf, rvs_1, rvs_2, szOk, notStr, setCells, AV.one, resX, layC, layA, lay, List.map, List.replicate, List.length_replicate, pvq0, pvq1, seval, reduceCtorEq, hgi, bv, h10']
      refine ⟨k + 1, rfl, ⟨by omega, fun j hj => ?_⟩, by omega⟩
      by_cases hjk : j = k
      · rw [hjk]; exact h10
      · exact hp j (by omega)
  obtain rfl : k = rem.length := by omega
  have hno : ∀ c ∈ rem, c ≠ 10 := fun c hc => by
    obtain ⟨j, hj, rfl⟩ := List.mem_iff_getElem.1 hc
    have := hp j hj
    rwa [getElem!_pos rem j hj] at this
  simp (disch := first | omega | (simp only [pvl]; omega)) only [↓pvd, pv0, pv1, pv2, pv3, pv4, pv5, pv6, pv7, pvc0, pvc1, pvc2, Pv.put, bin2, int2, binB2, un1, AV.flat, pvf, rvs_1, rvs_2, szOk, notStr, setCells, AV.one, resX, layC, layA, lay, List.map, List.replicate, List.length_replicate, pvq0, pvq1, seval, reduceCtorEq, true_and]
  obtain ⟨M, hM⟩ : ∃ M : Nat, A = M := ⟨A.toNat, by omega⟩
  subst hM
  refine aw_loop (fun k : Nat => ⟨[(0, .sl 1 (bys b) false), (1, .int .u8 M), (2, .str rem), (8, .vec 0 1 0 (4 * k)), (40, .int .u8 M), (41, .int .u8 k)], [some ⟨5, bys (blk k), true⟩]⟩) (fun k => k ≤ M) (fun k => M - k) 0 ?_ (by omega) ?_
  · simp (disch := first | omega | (simp only [pvl]; omega)) only [↓pvd, pv0, pv1, pv2, pv3, pv4, pv5, pv6, pv7, pvc0, pvc1, pvc2, Pv.put, bin2, int2, binB2, un1, AV.flat, pvf, rvs_1, rvs_2, szOk, notStr, setCells, AV.one, resX, layC, layA, lay, List.map, List.replicate, List.length_replicate, pvq0, pvq1, seval, reduceCtorEq, true_and]
    rfl
  intro k hk
  unfold Tryd.c4b1
  have hkl : (bys (blk k)).length = 4 * k := by simp [bys, blk_len]
  by_cases hx : k < M
  · have hap := blk_app k
    simp (disch := first | omega | (simp only [pvl]; omega)) only [↓pvd, pv0, pv1, pv2, pv3, pv4, pv5, pv6, pv7, pvc0, pvc1, pvc2, Pv.put, bin2, int2, binB2, un1, AV.flat, pvf, rvs_1, rvs_2, szOk, notStr, setCells, AV.one, resX, layC, layA, lay, List.map, List.replicate, List.length_replicate, pvq0, pvq1, seval, reduceCtorEq, hkl, hap, ids_bys, ren_bys]
    refine ⟨k + 1, ?_, hx, by omega⟩
    simp [bys]
    try omega
  obtain rfl : k = M := by omega
  have hfl : (blk k ++ (b ++ 32 :: 35 :: rem)).length ≤ 20000 := by simp [blk_len]; omega
  have hall := blanks_R b rem hno k
  have hrow : List.map bv (blk k ++ b) ++ (AV.int .u8 32 :: AV.int .u8 35 :: List.map bv rem) = List.map bv (blk k ++ (b ++ 32 :: 35 :: rem)) := by simp [bv]
  have hrl : (List.map bv (blk k ++ (b ++ 32 :: 35 :: rem))).length = 4 * k + b.length + (rem.length + 1 + 1) := by simp [blk_len]; omega
  have hbR : ∀ r e, readX b = .inl (r, e) → e ≠ 3 → rdR 0 (spl b) = .inl (r, e) ∧ e ≠ 0 ∧ 0 < r ∧ r ≤ 400 := fun r e h h3 => by
    by_cases hb : 20000 < b.length ∨ 400 < (spl b).length
    · rw [readX_big hb] at h; cases h; exact absurd rfl h3
    · rw [readX_small hb] at h
      have := rdR_good 0 (spl b)
      have h2 := rdR_bound 0 (spl b)
      rw [h] at this h2
      simp only [boundX] at h2
      exact ⟨h, this, by omega, by omega⟩
  have hcR : ∀ r e, readX (blk k ++ (b ++ 32 :: 35 :: rem)) = .inl (r, e) → e ≠ 3 → rdR 0 (spl (blk k ++ (b ++ 32 :: 35 :: rem))) = .inl (r, e) := fun r e h h3 => by
    by_cases hb : 20000 < (blk k ++ (b ++ 32 :: 35 :: rem)).length ∨ 400 < (spl (blk k ++ (b ++ 32 :: 35 :: rem))).length
    · rw [readX_big hb] at h; cases h; exact absurd rfl h3
    · rw [readX_small hb] at h
      exact h
  have hok : ∀ (s : List UInt8) (l : List LnF), readX s = .inr l → rdR 0 (spl s) = .inr l ∧ l.length ≤ 400 ∧ (∀ y ∈ l, lnS y) ∧ ∀ y ∈ l, 0 < y.l.row ∧ y.l.row ≤ 400 := fun s l h => by
    by_cases hb : 20000 < s.length ∨ 400 < (spl s).length
    · rw [readX_big hb] at h; cases h
    · rw [readX_small hb] at h
      have h1 := bnd_len (rdR_bound 0 (spl s)) h
      have h2 := rdR_bound 0 (spl s)
      have h3 := good_S (rdR_good 0 (spl s)) h
      rw [h] at h2
      simp only [boundX] at h2
      exact ⟨h, by omega, h3, fun y hy => by have := h2.2 y hy; omega⟩
  rcases hxb : readX b with ⟨rb, eb⟩ | lb
  all_goals rcases hxc : readX (blk k ++ (b ++ 32 :: 35 :: rem)) with ⟨rc, ec⟩ | lc
  · have qb := xq_err (f := false) (by omega) hxb
    have qc := xq_err (f := false) (by omega) hxc
    by_cases h3b : eb = 3
    · subst h3b
      simp (disch := first | omega | (simp only [pvl]; omega)) only [↓pvd, pv0, pv1, pv2, pv3, pv4, pv5, pv6, pv7, pvc0, pvc1, pvc2, Pv.put, bin2, int2, binB2, un1, AV.flat, pvf, rvs_1, rvs_2, szOk, notStr, setCells, AV.one, resX, layC, layA, lay, List.map, List.replicate, List.length_replicate, pvq0, pvq1, seval, reduceCtorEq, hkl, hbl, blk_len]
      refine awR_call qb rfl rfl ?_
      simp (disch := first | omega | (simp only [pvl]; omega)) only [↓pvd, pv0, pv1, pv2, pv3, pv4, pv5, pv6, pv7, pvc0, pvc1, pvc2, Pv.put, bin2, int2, binB2, un1, AV.flat, pvf, rvs_1, rvs_2, szOk, notStr, setCells, AV.one, resX, layC, layA, lay, List.map, List.replicate, List.length_replicate, pvq0, pvq1, seval, reduceCtorEq, hkl, hbl, blk_len]
      refine awR_callS (ms := []) qc (by simp (disch := first | omega | (simp only [pvl]; omega)) only [↓pvd, pv0, pv1, pv2, pv3, pv4, pv5, pv6, pv7, pvc0, pvc1, pvc2, Pv.put, bin2, int2, binB2, un1, AV.flat, pvf, rvs_1, rvs_2, szOk, notStr, setCells, AV.one, resX, layC, layA, lay, List.map, List.replicate, List.length_replicate, pvq0, pvq1, seval, reduceCtorEq, mapO_bys, rows_bys, hrow, hrl]; rfl) (by simp (disch := first | omega | (simp only [pvl]; omega)) only [↓pvd, pv0, pv1, pv2, pv3, pv4, pv5, pv6, pv7, pvc0, pvc1, pvc2, Pv.put, bin2, int2, binB2, un1, AV.flat, pvf, rvs_1, rvs_2, szOk, notStr, setCells, AV.one, resX, layC, layA, lay, List.map, List.replicate, List.length_replicate, pvq0, pvq1, seval, reduceCtorEq, mapO_bys, rows_bys, hrow, hrl]) ?_
      simp (disch := first | omega | (simp only [pvl]; omega)) only [↓pvd, pv0, pv1, pv2, pv3, pv4, pv5, pv6, pv7, pvc0, pvc1, pvc2, Pv.put, bin2, int2, binB2, un1, AV.flat, pvf, rvs_1, rvs_2, szOk, notStr, setCells, AV.one, resX, layC, layA, lay, List.map, List.replicate, List.length_replicate, pvq0, pvq1, seval, reduceCtorEq, still, blk_len]
      (refine Ends_rq [] ?_; simp (disch := first | omega | (simp only [pvl]; omega)) only [↓pvd, pv0, pv1, pv2, pv3, pv4, pv5, pv6, pv7, pvc0, pvc1, pvc2, Pv.put, bin2, int2, binB2, un1, AV.flat, pvf, rvs_1, rvs_2, szOk, notStr, setCells, AV.one, resX, layC, layA, lay, List.map, List.replicate, List.length_replicate, pvq0, pvq1, seval, reduceCtorEq]; exact ⟨_, rfl, rfl, rfl⟩)
    by_cases h3c : ec = 3
    · subst h3c
      simp (disch := first | omega | (simp only [pvl]; omega)) only [↓pvd, pv0, pv1, pv2, pv3, pv4, pv5, pv6, pv7, pvc0, pvc1, pvc2, Pv.put, bin2, int2, binB2, un1, AV.flat, pvf, rvs_1, rvs_2, szOk, notStr, setCells, AV.one, resX, layC, layA, lay, List.map, List.replicate, List.length_replicate, pvq0, pvq1, seval, reduceCtorEq, hkl, hbl, blk_len]
      refine awR_call qb rfl rfl ?_
      simp (disch := first | omega | (simp only [pvl]; omega)) only [↓pvd, pv0, pv1, pv2, pv3, pv4, pv5, pv6, pv7, pvc0, pvc1, pvc2, Pv.put, bin2, int2, binB2, un1, AV.flat, pvf, rvs_1, rvs_2, szOk, notStr, setCells, AV.one, resX, layC, layA, lay, List.map, List.replicate, List.length_replicate, pvq0, pvq1, seval, reduceCtorEq, hkl, hbl, blk_len]
      refine awR_callS (ms := []) qc (by simp (disch := first | omega | (simp only [pvl]; omega)) only [↓pvd, pv0, pv1, pv2, pv3, pv4, pv5, pv6, pv7, pvc0, pvc1, pvc2, Pv.put, bin2, int2, binB2, un1, AV.flat, pvf, rvs_1, rvs_2, szOk, notStr, setCells, AV.one, resX, layC, layA, lay, List.map, List.replicate, List.length_replicate, pvq0, pvq1, seval, reduceCtorEq, mapO_bys, rows_bys, hrow, hrl]; rfl) (by simp (disch := first | omega | (simp only [pvl]; omega)) only [↓pvd, pv0, pv1, pv2, pv3, pv4, pv5, pv6, pv7, pvc0, pvc1, pvc2, Pv.put, bin2, int2, binB2, un1, AV.flat, pvf, rvs_1, rvs_2, szOk, notStr, setCells, AV.one, resX, layC, layA, lay, List.map, List.replicate, List.length_replicate, pvq0, pvq1, seval, reduceCtorEq, mapO_bys, rows_bys, hrow, hrl]) ?_
      simp (disch := first | omega | (simp only [pvl]; omega)) only [↓pvd, pv0, pv1, pv2, pv3, pv4, pv5, pv6, pv7, pvc0, pvc1, pvc2, Pv.put, bin2, int2, binB2, un1, AV.flat, pvf, rvs_1, rvs_2, szOk, notStr, setCells, AV.one, resX, layC, layA, lay, List.map, List.replicate, List.length_replicate, pvq0, pvq1, seval, reduceCtorEq, still, blk_len, h3b]
      (refine Ends_rq [] ?_; simp (disch := first | omega | (simp only [pvl]; omega)) only [↓pvd, pv0, pv1, pv2, pv3, pv4, pv5, pv6, pv7, pvc0, pvc1, pvc2, Pv.put, bin2, int2, binB2, un1, AV.flat, pvf, rvs_1, rvs_2, szOk, notStr, setCells, AV.one, resX, layC, layA, lay, List.map, List.replicate, List.length_replicate, pvq0, pvq1, seval, reduceCtorEq]; exact ⟨_, rfl, rfl, rfl⟩)
    obtain ⟨h1, h2, h4, h5⟩ := hbR rb eb hxb h3b
    rw [hcR rc ec hxc h3c, h1] at hall
    simp only [moveX, Sum.inl.injEq, Prod.mk.injEq] at hall
    obtain ⟨hr, he⟩ := hall
    subst hr he
    simp (disch := first | omega | (simp only [pvl]; omega)) only [↓pvd, pv0, pv1, pv2, pv3, pv4, pv5, pv6, pv7, pvc0, pvc1, pvc2, Pv.put, bin2, int2, binB2, un1, AV.flat, pvf, rvs_1, rvs_2, szOk, notStr, setCells, AV.one, resX, layC, layA, lay, List.map, List.replicate, List.length_replicate, pvq0, pvq1, seval, reduceCtorEq, hkl, hbl, blk_len]
    refine awR_call qb rfl rfl ?_
    simp (disch := first | omega | (simp only [pvl]; omega)) only [↓pvd, pv0, pv1, pv2, pv3, pv4, pv5, pv6, pv7, pvc0, pvc1, pvc2, Pv.put, bin2, int2, binB2, un1, AV.flat, pvf, rvs_1, rvs_2, szOk, notStr, setCells, AV.one, resX, layC, layA, lay, List.map, List.replicate, List.length_replicate, pvq0, pvq1, seval, reduceCtorEq, hkl, hbl, blk_len]
    refine awR_callS (ms := []) qc (by simp (disch := first | omega | (simp only [pvl]; omega)) only [↓pvd, pv0, pv1, pv2, pv3, pv4, pv5, pv6, pv7, pvc0, pvc1, pvc2, Pv.put, bin2, int2, binB2, un1, AV.flat, pvf, rvs_1, rvs_2, szOk, notStr, setCells, AV.one, resX, layC, layA, lay, List.map, List.replicate, List.length_replicate, pvq0, pvq1, seval, reduceCtorEq, mapO_bys, rows_bys, hrow, hrl]; rfl) (by simp (disch := first | omega | (simp only [pvl]; omega)) only [↓pvd, pv0, pv1, pv2, pv3, pv4, pv5, pv6, pv7, pvc0, pvc1, pvc2, Pv.put, bin2, int2, binB2, un1, AV.flat, pvf, rvs_1, rvs_2, szOk, notStr, setCells, AV.one, resX, layC, layA, lay, List.map, List.replicate, List.length_replicate, pvq0, pvq1, seval, reduceCtorEq, mapO_bys, rows_bys, hrow, hrl]) ?_
    simp (disch := first | omega | (simp only [pvl]; omega)) only [↓pvd, pv0, pv1, pv2, pv3, pv4, pv5, pv6, pv7, pvc0, pvc1, pvc2, Pv.put, bin2, int2, binB2, un1, AV.flat, pvf, rvs_1, rvs_2, szOk, notStr, setCells, AV.one, resX, layC, layA, lay, List.map, List.replicate, List.length_replicate, pvq0, pvq1, seval, reduceCtorEq, still, blk_len, h3b, h2]
    (refine Ends_rq [] ?_; simp (disch := first | omega | (simp only [pvl]; omega)) only [↓pvd, pv0, pv1, pv2, pv3, pv4, pv5, pv6, pv7, pvc0, pvc1, pvc2, Pv.put, bin2, int2, binB2, un1, AV.flat, pvf, rvs_1, rvs_2, szOk, notStr, setCells, AV.one, resX, layC, layA, lay, List.map, List.replicate, List.length_replicate, pvq0, pvq1, seval, reduceCtorEq]; exact ⟨_, rfl, rfl, rfl⟩)
  · have qb := xq_err (f := false) (by omega) hxb
    have qc := xq_ok (f := false) (by omega) hxc
    by_cases h3b : eb = 3
    · subst h3b
      simp (disch := first | omega | (simp only [pvl]; omega)) only [↓pvd, pv0, pv1, pv2, pv3, pv4, pv5, pv6, pv7, pvc0, pvc1, pvc2, Pv.put, bin2, int2, binB2, un1, AV.flat, pvf, rvs_1, rvs_2, szOk, notStr, setCells, AV.one, resX, layC, layA, lay, List.map, List.replicate, List.length_replicate, pvq0, pvq1, seval, reduceCtorEq, hkl, hbl, blk_len]
      refine awR_call qb rfl rfl ?_
      simp (disch := first | omega | (simp only [pvl]; omega)) only [↓pvd, pv0, pv1, pv2, pv3, pv4, pv5, pv6, pv7, pvc0, pvc1, pvc2, Pv.put, bin2, int2, binB2, un1, AV.flat, pvf, rvs_1, rvs_2, szOk, notStr, setCells, AV.one, resX, layC, layA, lay, List.map, List.replicate, List.length_replicate, pvq0, pvq1, seval, reduceCtorEq, hkl, hbl, blk_len]
      refine awR_callS (ms := []) qc (by simp (disch := first | omega | (simp only [pvl]; omega)) only [↓pvd, pv0, pv1, pv2, pv3, pv4, pv5, pv6, pv7, pvc0, pvc1, pvc2, Pv.put, bin2, int2, binB2, un1, AV.flat, pvf, rvs_1, rvs_2, szOk, notStr, setCells, AV.one, resX, layC, layA, lay, List.map, List.replicate, List.length_replicate, pvq0, pvq1, seval, reduceCtorEq, mapO_bys, rows_bys, hrow, hrl]; rfl) (by simp (disch := first | omega | (simp only [pvl]; omega)) only [↓pvd, pv0, pv1, pv2, pv3, pv4, pv5, pv6, pv7, pvc0, pvc1, pvc2, Pv.put, bin2, int2, binB2, un1, AV.flat, pvf, rvs_1, rvs_2, szOk, notStr, setCells, AV.one, resX, layC, layA, lay, List.map, List.replicate, List.length_replicate, pvq0, pvq1, seval, reduceCtorEq, mapO_bys, rows_bys, hrow, hrl]) ?_
      simp (disch := first | omega | (simp only [pvl]; omega)) only [↓pvd, pv0, pv1, pv2, pv3, pv4, pv5, pv6, pv7, pvc0, pvc1, pvc2, Pv.put, bin2, int2, binB2, un1, AV.flat, pvf, rvs_1, rvs_2, szOk, notStr, setCells, AV.one, resX, layC, layA, lay, List.map, List.replicate, List.length_replicate, pvq0, pvq1, seval, reduceCtorEq, still, blk_len]
      (refine Ends_rq [] ?_; simp (disch := first | omega | (simp only [pvl]; omega)) only [↓pvd, pv0, pv1, pv2, pv3, pv4, pv5, pv6, pv7, pvc0, pvc1, pvc2, Pv.put, bin2, int2, binB2, un1, AV.flat, pvf, rvs_1, rvs_2, szOk, notStr, setCells, AV.one, resX, layC, layA, lay, List.map, List.replicate, List.length_replicate, pvq0, pvq1, seval, reduceCtorEq]; exact ⟨_, rfl, rfl, rfl⟩)
    obtain ⟨h1, h2, h4, h5⟩ := hbR rb eb hxb h3b
    rw [(hok _ lc hxc).1, h1] at hall
    cases hall
  · have qb := xq_ok (f := false) (by omega) hxb
    have qc := xq_err (f := false) (by omega) hxc
    by_cases h3c : ec = 3
    · subst h3c
      simp (disch := first | omega | (simp only [pvl]; omega)) only [↓pvd, pv0, pv1, pv2, pv3, pv4, pv5, pv6, pv7, pvc0, pvc1, pvc2, Pv.put, bin2, int2, binB2, un1, AV.flat, pvf, rvs_1, rvs_2, szOk, notStr, setCells, AV.one, resX, layC, layA, lay, List.map, List.replicate, List.length_replicate, pvq0, pvq1, seval, reduceCtorEq, hkl, hbl, blk_len]
      refine awR_call qb rfl rfl ?_
      simp (disch := first | omega | (simp only [pvl]; omega)) only [↓pvd, pv0, pv1, pv2, pv3, pv4, pv5, pv6, pv7, pvc0, pvc1, pvc2, Pv.put, bin2, int2, binB2, un1, AV.flat, pvf, rvs_1, rvs_2, szOk, notStr, setCells, AV.one, resX, layC, layA, lay, List.map, List.replicate, List.length_replicate, pvq0, pvq1, seval, reduceCtorEq, hkl, hbl, blk_len]
      refine awR_callS (ms := []) qc (by simp (disch := first | omega | (simp only [pvl]; omega)) only [↓pvd, pv0, pv1, pv2, pv3, pv4, pv5, pv6, pv7, pvc0, pvc1, pvc2, Pv.put, bin2, int2, binB2, un1, AV.flat, pvf, rvs_1, rvs_2, szOk, notStr, setCells, AV.one, resX, layC, layA, lay, List.map, List.replicate, List.length_replicate, pvq0, pvq1, seval, reduceCtorEq, mapO_bys, rows_bys, hrow, hrl]; rfl) (by simp (disch := first | omega | (simp only [pvl]; omega)) only [↓pvd, pv0, pv1, pv2, pv3, pv4, pv5, pv6, pv7, pvc0, pvc1, pvc2, Pv.put, bin2, int2, binB2, un1, AV.flat, pvf, rvs_1, rvs_2, szOk, notStr, setCells, AV.one, resX, layC, layA, lay, List.map, List.replicate, List.length_replicate, pvq0, pvq1, seval, reduceCtorEq, mapO_bys, rows_bys, hrow, hrl]) ?_
      simp (disch := first | omega | (simp only [pvl]; omega)) only [↓pvd, pv0, pv1, pv2, pv3, pv4, pv5, pv6, pv7, pvc0, pvc1, pvc2, Pv.put, bin2, int2, binB2, un1, AV.flat, pvf, rvs_1, rvs_2, szOk, notStr, setCells, AV.one, resX, layC, layA, lay, List.map, List.replicate, List.length_replicate, pvq0, pvq1, seval, reduceCtorEq, still, blk_len]
      (refine Ends_rq [] ?_; simp (disch := first | omega | (simp only [pvl]; omega)) only [↓pvd, pv0, pv1, pv2, pv3, pv4, pv5, pv6, pv7, pvc0, pvc1, pvc2, Pv.put, bin2, int2, binB2, un1, AV.flat, pvf, rvs_1, rvs_2, szOk, notStr, setCells, AV.one, resX, layC, layA, lay, List.map, List.replicate, List.length_replicate, pvq0, pvq1, seval, reduceCtorEq]; exact ⟨_, rfl, rfl, rfl⟩)
    rw [hcR rc ec hxc h3c, (hok _ lb hxb).1] at hall
    cases hall
  · have qb := xq_ok (f := false) (by omega) hxb
    have qc := xq_ok (f := false) (by omega) hxc
    obtain ⟨hb1, hb2, hb3, hb4⟩ := hok b lb hxb
    obtain ⟨hc1, hc2, hc3, hc4⟩ := hok _ lc hxc
    rw [hb1, hc1] at hall
    simp only [moveX, Sum.inr.injEq] at hall
    have qs := tsame_run (vs := lb.map lnV) (ws := lc.map lnV) 17 17 false false (.inr rfl) (.inr rfl) (areLn_V lb) (areLn_V lc) hb3 hc3 (by omega) (by omega)
    rw [decide_eq_true (by rw [hall, moveX_nr])] at qs
    have hlb := lns_len lb
    have hlc := lns_len lc
    have hlbc : lc.length = lb.length := by rw [hall]; simp
    have hrw : ∀ i, i < lb.length → lc[i]!.l.row = lb[i]!.l.row + k := fun i hi => by
      rw [hall]
      exact blanks_end k (by omega) lb (fun x hx => by have := hb4 x hx; omega) i hi
    simp (disch := first | omega | (simp only [pvl]; omega)) only [↓pvd, pv0, pv1, pv2, pv3, pv4, pv5, pv6, pv7, pvc0, pvc1, pvc2, Pv.put, bin2, int2, binB2, un1, AV.flat, pvf, rvs_1, rvs_2, szOk, notStr, setCells, AV.one, resX, layC, layA, lay, List.map, List.replicate, List.length_replicate, pvq0, pvq1, seval, reduceCtorEq, hkl, hbl, blk_len]
    refine awR_call qb rfl rfl ?_
    simp (disch := first | omega | (simp only [pvl]; omega)) only [↓pvd, pv0, pv1, pv2, pv3, pv4, pv5, pv6, pv7, pvc0, pvc1, pvc2, Pv.put, bin2, int2, binB2, un1, AV.flat, pvf, rvs_1, rvs_2, szOk, notStr, setCells, AV.one, resX, layC, layA, lay, List.map, List.replicate, List.length_replicate, pvq0, pvq1, seval, reduceCtorEq, hkl, hbl, blk_len]
    refine awR_callS (ms := []) qc (by simp (disch := first | omega | (simp only [pvl]; omega)) only [↓pvd, pv0, pv1, pv2, pv3, pv4, pv5, pv6, pv7, pvc0, pvc1, pvc2, Pv.put, bin2, int2, binB2, un1, AV.flat, pvf, rvs_1, rvs_2, szOk, notStr, setCells, AV.one, resX, layC, layA, lay, List.map, List.replicate, List.length_replicate, pvq0, pvq1, seval, reduceCtorEq, mapO_bys, rows_bys, hrow, hrl]; rfl) (by simp (disch := first | omega | (simp only [pvl]; omega)) only [↓pvd, pv0, pv1, pv2, pv3, pv4, pv5, pv6, pv7, pvc0, pvc1, pvc2, Pv.put, bin2, int2, binB2, un1, AV.flat, pvf, rvs_1, rvs_2, szOk, notStr, setCells, AV.one, resX, layC, layA, lay, List.map, List.replicate, List.length_replicate, pvq0, pvq1, seval, reduceCtorEq, mapO_bys, rows_bys, hrow, hrl]) ?_
    simp (disch := first | omega | (simp only [pvl]; omega)) only [↓pvd, pv0, pv1, pv2, pv3, pv4, pv5, pv6, pv7, pvc0, pvc1, pvc2, Pv.put, bin2, int2, binB2, un1, AV.flat, pvf, rvs_1, rvs_2, szOk, notStr, setCells, AV.one, resX, layC, layA, lay, List.map, List.replicate, List.length_replicate, pvq0, pvq1, seval, reduceCtorEq, still, blk_len]
    refine awR_call qs rfl rfl ?_
    simp (disch := first | omega | (simp only [pvl]; omega)) only [↓pvd, pv0, pv1, pv2, pv3, pv4, pv5, pv6, pv7, pvc0, pvc1, pvc2, Pv.put, bin2, int2, binB2, un1, AV.flat, pvf, rvs_1, rvs_2, szOk, notStr, setCells, AV.one, resX, layC, layA, lay, List.map, List.replicate, List.length_replicate, pvq0, pvq1, seval, reduceCtorEq, hlb]
    refine aw_loop (fun i : Nat => ⟨[(1, .int .u8 k), (9, .sl 17 (lb.map lnV) false), (12, .sl 17 (lc.map lnV) false), (102, .int .i64 lb.length), (103, .int .i64 i)], []⟩) (fun i => i ≤ lb.length) (fun i => lb.length - i) 0 ?_ (by omega) ?_
    · simp (disch := first | omega | (simp only [pvl]; omega)) only [↓pvd, pv0, pv1, pv2, pv3, pv4, pv5, pv6, pv7, pvc0, pvc1, pvc2, Pv.put, bin2, int2, binB2, un1, AV.flat, pvf, rvs_1, rvs_2, szOk, notStr, setCells, AV.one, resX, layC, layA, lay, List.map, List.replicate, List.length_replicate, pvq0, pvq1, seval, reduceCtorEq, hlb]
      try rfl
    intro i hi
    unfold Tryd.c4b2
    by_cases hx : i < lb.length
    · have hg1 : (lb.map lnV)[i]? = some (lnV lb[i]!) := map_get hx
      have hg2 : (lc.map lnV)[i]? = some (lnV lc[i]!) := map_get (by omega)
      obtain ⟨n1, f1, n2, f2, n3, f3, n4, f4, hv1, -⟩ := isLn_V lb[i]!
      obtain ⟨m1, e1, m2, e2, m3, e3, m4, e4, hv2, -⟩ := isLn_V lc[i]!
      rw [hv1] at hg1
      rw [hv2] at hg2
      have hri := hrw i hx
      have hrb := hb4 lb[i]! (get_mem hx)
      unfold lnA at hg1 hg2
      rw [hri] at hg2
      generalize lb[i]!.l.row = R at *
      have hxi : (i : Int) < lc.length := by omega
      simp (disch := first | omega | (simp only [pvl]; omega)) only [↓pvd, pv0, pv1, pv2, pv3, pv4, pv5, pv6, pv7, pvc0, pvc1, pvc2, Pv.put, bin2, int2, binB2, un1, AV.flat, pvf, rvs_1, rvs_2, szOk, notStr, setCells, AV.one, resX, layC, layA, lay, List.map, List.replicate, List.length_replicate, pvq0, pvq1, seval, reduceCtorEq, hg1, hg2, hlb, hlc]
      exact ⟨i + 1, rfl, hx, by omega⟩
    · obtain rfl : i = lb.length := by omega
      simp (disch := first | omega | (simp only [pvl]; omega)) only [↓pvd, pv0, pv1, pv2, pv3, pv4, pv5, pv6, pv7, pvc0, pvc1, pvc2, Pv.put, bin2, int2, binB2, un1, AV.flat, pvf, rvs_1, rvs_2, szOk, notStr, setCells, AV.one, resX, layC, layA, lay, List.map, List.replicate, List.length_replicate, pvq0, pvq1, seval, reduceCtorEq, hlb]
      (refine Ends_rq [] ?_; simp (disch := first | omega | (simp only [pvl]; omega)) only [↓pvd, pv0, pv1, pv2, pv3, pv4, pv5, pv6, pv7, pvc0, pvc1, pvc2, Pv.put, bin2, int2, binB2, un1, AV.flat, pvf, rvs_1, rvs_2, szOk, notStr, setCells, AV.one, resX, layC, layA, lay, List.map, List.replicate, List.length_replicate, pvq0, pvq1, seval, reduceCtorEq]; exact ⟨_, rfl, rfl, rfl⟩)
theorem textBlanks_all : ∀ xs, DatL Tryd.prog 6 Tryd.f4.params.toList xs → Run Tryd.prog 4 xs (.bool true) := by
  intro xs h
  rw [show Tryd.f4.params.toList = [26, 5, 9] from rfl] at h
  obtain ⟨y1, y2, y3, rfl, h1, h2, h3⟩ := datL3 h
  obtain ⟨b, rfl, hb⟩ := dat_bys Tryd.underlying26 Tryd.underlying5 (by kernel_rfl) h1
  obtain ⟨m, rfl, hm⟩ := dat_int Tryd.underlying5 h2
  obtain ⟨s, rfl, hs⟩ := dat_str Tryd.underlying9 h3
  exact textBlanks_run b s m (wf_u8 hm) hb hs
end Go.Proofs
