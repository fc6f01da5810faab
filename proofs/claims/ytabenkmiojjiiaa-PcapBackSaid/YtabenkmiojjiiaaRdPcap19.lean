/- A part of the proofs of this seat: RdPcap19. -/
import Derived.Test.YtabenkmiojjiiaaRdPcap17
import Derived.Test.YtabenkmiojjiiaaRdPcap16
set_option linter.unusedSimpArgs false
set_option linter.unusedVariables false
set_option maxHeartbeats 2000000
set_option maxRecDepth 20000
namespace Go.Proofs
open Go.Pv
/-- A way to write numbers, and to read them. -/
structure Inv (F : Int → Nat → List UInt8) (V : List UInt8 → Int) : Prop where
  len : ∀ n k, (F n k).length = k
  vf : ∀ n : Int, 0 ≤ n → n < 4294967296 → V (F n 4) = n
  fv : ∀ b : List UInt8, b.length = 4 → F (V b) 4 = b
  rng : ∀ b, 0 ≤ V b ∧ V b < 4294967296
theorem u_u8i (n : Int) : u (u8i n) = n % 256 := u8i_nat
theorem leF4 (n : Int) : leF n 4 = [u8i n, u8i (n / 256), u8i (n / 65536), u8i (n / 16777216)] := by
  have : leF n 4 = [u8i (n / 256 ^ 0), u8i (n / 256 ^ 1), u8i (n / 256 ^ 2), u8i (n / 256 ^ 3)] := rfl
  rw [this]; simp
theorem bgF4 (n : Int) : bgF n 4 = [u8i (n / 16777216), u8i (n / 65536), u8i (n / 256), u8i n] := by
  have : bgF n 4 = [u8i (n / 256 ^ 3), u8i (n / 256 ^ 2), u8i (n / 256 ^ 1), u8i (n / 256 ^ 0)] := rfl
  rw [this]; simp
theorem inv_l : Inv leF vL := ⟨fun n k => by simp [leF], fun n h0 h1 => by
    rw [leF4]
    show u (u8i n) + u (u8i (n / 256)) * 256 + u (u8i (n / 65536)) * 65536 + u (u8i (n / 16777216)) * 16777216 = n
    simp only [u_u8i]
    omega, fun b hb => by
    obtain ⟨x0, x1, x2, x3, rfl⟩ := four_of hb
    have h0 := u_rng x0
    have h1 := u_rng x1
    have h2 := u_rng x2
    have h3 := u_rng x3
    rw [leF4, show vL [x0, x1, x2, x3] = u x0 + u x1 * 256 + u x2 * 65536 + u x3 * 16777216 from rfl]
    have e0 : u8i (u x0 + u x1 * 256 + u x2 * 65536 + u x3 * 16777216) = x0 := u8i_of (by show _ = u x0; omega)
    have e1 : u8i ((u x0 + u x1 * 256 + u x2 * 65536 + u x3 * 16777216) / 256) = x1 := u8i_of (by show _ = u x1; omega)
    have e2 : u8i ((u x0 + u x1 * 256 + u x2 * 65536 + u x3 * 16777216) / 65536) = x2 := u8i_of (by show _ = u x2; omega)
    have e3 : u8i ((u x0 + u x1 * 256 + u x2 * 65536 + u x3 * 16777216) / 16777216) = x3 := u8i_of (by show _ = u x3; omega)
    rw [e0, e1, e2, e3], ordt_l.rng⟩
theorem inv_b : Inv bgF vH := ⟨fun n k => by simp [bgF, beF], fun n h0 h1 => by
    rw [bgF4]
    show u (u8i n) + u (u8i (n / 256)) * 256 + u (u8i (n / 65536)) * 65536 + u (u8i (n / 16777216)) * 16777216 = n
    simp only [u_u8i]
    omega, fun b hb => by
    obtain ⟨x0, x1, x2, x3, rfl⟩ := four_of hb
    have h0 := u_rng x0
    have h1 := u_rng x1
    have h2 := u_rng x2
    have h3 := u_rng x3
    rw [bgF4, show vH [x0, x1, x2, x3] = u x3 + u x2 * 256 + u x1 * 65536 + u x0 * 16777216 from rfl]
    have e0 : u8i (u x3 + u x2 * 256 + u x1 * 65536 + u x0 * 16777216) = x3 := u8i_of (by show _ = u x3; omega)
    have e1 : u8i ((u x3 + u x2 * 256 + u x1 * 65536 + u x0 * 16777216) / 256) = x2 := u8i_of (by show _ = u x2; omega)
    have e2 : u8i ((u x3 + u x2 * 256 + u x1 * 65536 + u x0 * 16777216) / 65536) = x1 := u8i_of (by show _ = u x1; omega)
    have e3 : u8i ((u x3 + u x2 * 256 + u x1 * 65536 + u x0 * 16777216) / 16777216) = x0 := u8i_of (by show _ = u x0; omega)
    rw [e0, e1, e2, e3], ordt_b.rng⟩
theorem segs (A B C D E : List UInt8) (hA : A.length = 4) (hB : B.length = 4) (hC : C.length = 4) (hD : D.length = 4) :
    seg (A ++ (B ++ (C ++ (D ++ E)))) 0 4 = A ∧ seg (A ++ (B ++ (C ++ (D ++ E)))) 4 8 = B ∧ seg (A ++ (B ++ (C ++ (D ++ E)))) 8 12 = C ∧ seg (A ++ (B ++ (C ++ (D ++ E)))) 12 16 = D ∧ (A ++ (B ++ (C ++ (D ++ E)))).drop 16 = E := by
  obtain ⟨a0, a1, a2, a3, rfl⟩ := four_of hA
  obtain ⟨b0, b1, b2, b3, rfl⟩ := four_of hB
  obtain ⟨c0, c1, c2, c3, rfl⟩ := four_of hC
  obtain ⟨d0, d1, d2, d3, rfl⟩ := four_of hD
  exact ⟨rfl, rfl, rfl, rfl, rfl⟩
theorem recF_eq (F : Int → Nat → List UInt8) (r : Rec) (rest : List UInt8) : recF F r ++ rest = F r.s 4 ++ (F r.m 4 ++ (F r.b.length 4 ++ (F r.w 4 ++ (r.b ++ rest)))) := by
  simp [recF, nums]
theorem recV_put {F : Int → Nat → List UInt8} {V : List UInt8 → Int} (i : Inv F V) (r : Rec) (rest : List UInt8) (ho : okR r) : recV V (recF F r ++ rest) = .inr (r, 16 + r.b.length) := by
  unfold okR at ho
  obtain ⟨s0, s1, s2, s3, s4⟩ := segs (F r.s 4) (F r.m 4) (F r.b.length 4) (F r.w 4) (r.b ++ rest) (i.len _ _) (i.len _ _) (i.len _ _) (i.len _ _)
  rw [← recF_eq] at s0 s1 s2 s3 s4
  have hl : (recF F r ++ rest).length = 16 + r.b.length + rest.length := by
    rw [recF_eq]
    simp only [List.length_append, i.len]; omega
  unfold recV
  rw [s0, s1, s2, s3, i.vf _ (by omega) (by omega), i.vf _ (by omega) (by omega), i.vf _ (by omega) (by omega), i.vf _ (by omega) (by omega), if_neg (by omega), if_neg (by omega), if_neg (by omega)]
  have e : ((recF F r ++ rest).take (16 + ((r.b.length : Int)).toNat)).drop 16 = r.b := by
    rw [Int.toNat_natCast, List.drop_take, s4]
    simp
  rw [e, Int.toNat_natCast]
theorem parV_put {F : Int → Nat → List UInt8} {V : List UInt8 → Int} (i : Inv F V) : ∀ (l : List Rec) (n : Nat) (acc : List Rec), (∀ r ∈ l, okR r) → acc.length + l.length ≤ 1000 → (l.flatMap (recF F)).length ≤ n → parV V n (l.flatMap (recF F)) acc = .inr (acc ++ l)
  | [], n, acc, _, _, _ => by
    cases n <;> simp [parV]
  | r :: l, n, acc, ho, hn, hl => by
    have hr : (recF F r).length = 16 + r.b.length := by simp [recF, nums, i.len] <;> omega
    simp only [List.flatMap_cons, List.length_append, hr, List.length_cons] at hl hn
    cases n with
    | zero => omega
    | succ n =>
      simp only [List.flatMap_cons, parV]
      rw [if_neg (by intro e; have := congrArg List.length e; simp [hr] at this), recV_put i r _ (ho r (by simp))]
      dsimp only
      rw [if_neg (by omega), List.drop_append_of_le_length (by omega), List.drop_of_length_le (by omega), List.nil_append]
      rw [parV_put i l n (acc ++ [r]) (fun x hx => ho x (by simp [hx])) (by simp; omega) (by omega)]
      simp
theorem recV_take {F : Int → Nat → List UInt8} {V : List UInt8 → Int} (i : Inv F V) {b : List UInt8} {r : Rec} {k : Nat} (h : recV V b = .inr (r, k)) : b = recF F r ++ b.drop k := by
  obtain ⟨_, hk, hkl⟩ := recV_ok i.rng h
  unfold recV at h
  split at h
  · cases h
  rename_i h16
  split at h
  · cases h
  split at h
  · cases h
  · simp only [Sum.inr.injEq, Prod.mk.injEq] at h
    obtain ⟨hr, hk2⟩ := h
    have h2 := i.rng (seg b 8 12)
    have hbl : (r.b.length : Int) = V (seg b 8 12) := by omega
    have f0 := i.fv (seg b 0 4) (by rw [seg_len] <;> omega)
    have f1 := i.fv (seg b 4 8) (by rw [seg_len] <;> omega)
    have f2 := i.fv (seg b 8 12) (by rw [seg_len] <;> omega)
    have f3 := i.fv (seg b 12 16) (by rw [seg_len] <;> omega)
    rw [recF_eq, hbl, f2]
    have hb : r.b = (b.take k).drop 16 := by rw [← hr, ← hk2]
    rw [hb]
    rw [show r.s = V (seg b 0 4) by rw [← hr], show r.m = V (seg b 4 8) by rw [← hr], show r.w = V (seg b 12 16) by rw [← hr], f0, f1, f3]
    have hd : (b.take k).drop 16 ++ b.drop k = b.drop 16 := by
      rw [List.drop_take]
      have : b.drop k = (b.drop 16).drop (k - 16) := by rw [List.drop_drop, show 16 + (k - 16) = k by omega]
      rw [this, List.take_append_drop]
    rw [hd]
    have hseg : ∀ (i j m : Nat), i ≤ j → seg b i j ++ b.drop j = b.drop i := fun i j m hij => by
      unfold seg
      rw [List.drop_take]
      have : b.drop j = (b.drop i).drop (j - i) := by rw [List.drop_drop, show i + (j - i) = j by omega]
      rw [this, List.take_append_drop]
    rw [hseg 12 16 0 (by omega), hseg 8 12 0 (by omega), hseg 4 8 0 (by omega), hseg 0 4 0 (by omega), List.drop_zero]
theorem parV_take {F : Int → Nat → List UInt8} {V : List UInt8 → Int} (i : Inv F V) : ∀ (n : Nat) (b : List UInt8) (acc l : List Rec), b.length ≤ n → parV V n b acc = .inr l → ∃ l', l = acc ++ l' ∧ b = l'.flatMap (recF F) := by
  intro n
  induction n with
  | zero =>
    intro b acc l hb h
    obtain rfl := List.eq_nil_of_length_eq_zero (show b.length = 0 by omega)
    simp only [parV, Sum.inr.injEq] at h
    exact ⟨[], by simp [h], rfl⟩
  | succ n ih =>
    intro b acc l hb h
    simp only [parV] at h
    by_cases hb0 : b = []
    · rw [if_pos hb0] at h
      simp only [Sum.inr.injEq] at h
      exact ⟨[], by simp [h], by simp [hb0]⟩
    · rw [if_neg hb0] at h
      cases hv : recV V b with
      | inl e => rw [hv] at h; cases h
      | inr p =>
        obtain ⟨r, k⟩ := p
        rw [hv] at h
        dsimp only at h
        split at h
        · cases h
        · obtain ⟨_, h2, h3⟩ := recV_ok i.rng hv
          obtain ⟨l', rfl, e⟩ := ih _ _ l (by simp; omega) h
          refine ⟨r :: l', by simp, ?_⟩
          rw [List.flatMap_cons, ← e]
          exact recV_take i hv
theorem heads_ne : headF leF ≠ headF bgF := by decide
theorem fileV_put {l : List Rec} (ho : ∀ r ∈ l, okR r) (hl : l.length ≤ 1000) : fileV (fileF leF l) = .inr (true, l) ∧ fileV (fileF bgF l) = .inr (false, l) := by
  have h1 : (headF leF).length = 24 := by decide
  have h2 : (headF bgF).length = 24 := by decide
  constructor
  · unfold fileV fileF
    rw [if_neg (by simp [h1] <;> omega), List.take_append_of_le_length (by omega), List.take_of_length_le (by omega), if_pos rfl, List.drop_append_of_le_length (by omega), List.drop_of_length_le (by omega), List.nil_append, parV_put inv_l l _ [] ho (by simpa using hl) (Nat.le_refl _)]
    rfl
  · unfold fileV fileF
    rw [if_neg (by simp [h2] <;> omega), List.take_append_of_le_length (by omega), List.take_of_length_le (by omega), if_neg (fun e => heads_ne e.symm), if_pos rfl, List.drop_append_of_le_length (by omega), List.drop_of_length_le (by omega), List.nil_append, parV_put inv_b l _ [] ho (by simpa using hl) (Nat.le_refl _)]
    rfl
theorem fileV_take {b : List UInt8} {low : Bool} {l : List Rec} (h : fileV b = .inr (low, l)) : b = fileF (if low then leF else bgF) l := by
  unfold fileV at h
  split at h
  · cases h
  rename_i h24
  split at h
  · rename_i hh
    cases hp : parV vL (b.drop 24).length (b.drop 24) [] with
    | inl e => rw [hp] at h; cases h
    | inr l' =>
      rw [hp] at h
      simp only [Sum.inr.injEq, Prod.mk.injEq] at h
      obtain ⟨rfl, rfl⟩ := h
      obtain ⟨l2, e, hb⟩ := parV_take inv_l _ _ [] l' (Nat.le_refl _) hp
      rw [List.nil_append] at e
      subst e
      simp only [if_true, fileF]
      rw [← hh, ← hb, List.take_append_drop]
  · split at h
    · rename_i hh
      cases hp : parV vH (b.drop 24).length (b.drop 24) [] with
      | inl e => rw [hp] at h; cases h
      | inr l' =>
        rw [hp] at h
        simp only [Sum.inr.injEq, Prod.mk.injEq] at h
        obtain ⟨rfl, rfl⟩ := h
        obtain ⟨l2, e, hb⟩ := parV_take inv_b _ _ [] l' (Nat.le_refl _) hp
        rw [List.nil_append] at e
        subst e
        simp only [Bool.false_eq_true, if_false, fileF]
        rw [← hh, ← hb, List.take_append_drop]
    · cases h
theorem files_ne (l : List Rec) : fileF leF l ≠ fileF bgF l := by
  intro e
  have := congrArg (List.take 24) e
  unfold fileF at this
  have h1 : (headF leF).length = 24 := by decide
  have h2 : (headF bgF).length = 24 := by decide
  rw [List.take_append_of_le_length (by omega), List.take_append_of_le_length (by omega), List.take_of_length_le (by omega), List.take_of_length_le (by omega)] at this
  exact heads_ne this
end Go.Proofs
