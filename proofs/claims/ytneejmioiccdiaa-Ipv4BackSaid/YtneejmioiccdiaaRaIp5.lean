/- A part of the proofs of this seat: RaIp5. -/
import Derived.Test.YtneejmioiccdiaaRaIp4
set_option linter.unusedSimpArgs false
set_option linter.unusedVariables false
set_option maxHeartbeats 2000000
set_option maxRecDepth 20000
namespace Go.Proofs
open Go.Pv
theorem u8i_congr {m n : Int} (h : m % 256 = n % 256) : u8i m = u8i n := by unfold u8i; rw [h]
theorem by2_hi (a b : Int) : by2 (a * 65536 + b) = by2 b := by
  unfold by2
  rw [u8i_congr (m := (a * 65536 + b) / 256) (n := b / 256) (by omega), u8i_congr (m := a * 65536 + b) (n := b) (by omega)]
def okPk (p : Pk) : Prop := (0 ≤ p.tos ∧ p.tos ≤ 255) ∧ (0 ≤ p.ttl ∧ p.ttl ≤ 255) ∧ (0 ≤ p.proto ∧ p.proto ≤ 255) ∧ (0 ≤ p.id ∧ p.id ≤ 65535) ∧ (0 ≤ p.src ∧ p.src ≤ 4294967295) ∧ (0 ≤ p.dst ∧ p.dst ≤ 4294967295)
theorem ip_there (p : Pk) (s : Int) (tail : List UInt8) (h : okPk p) (hb : p.body.length ≤ 1480) (hs : 0 ≤ s ∧ s ≤ 65535) (hr : red (Wt (hdr p s)) = 65535) : ipF (hdr p s ++ p.body ++ tail) = (p, 0) := by
  obtain ⟨⟨h1, h2⟩, ⟨h3, h4⟩, ⟨h5, h6⟩, ⟨h7, h8⟩, ⟨h9, h10⟩, h11, h12⟩ := h
  have hl := hdr_len p s
  have e : hdr p s ++ p.body ++ tail = u8i ((17664 + p.tos) / 256) :: u8i (17664 + p.tos) :: u8i ((20 + p.body.length) / 256) :: u8i (20 + p.body.length) :: u8i (p.id / 256) :: u8i p.id :: u8i (0 / 256) :: u8i 0 :: u8i ((p.ttl * 256 + p.proto) / 256) :: u8i (p.ttl * 256 + p.proto) :: u8i (s / 256) :: u8i s ::
      u8i (p.src / 65536 / 256) :: u8i (p.src / 65536) :: u8i (p.src / 256) :: u8i p.src :: u8i (p.dst / 65536 / 256) :: u8i (p.dst / 65536) :: u8i (p.dst / 256) :: u8i p.dst :: (p.body ++ tail) := rfl
  have et : (hdr p s ++ p.body ++ tail).take 20 = hdr p s := by
    rw [List.append_assoc, List.take_append_of_le_length (by omega), List.take_of_length_le (by omega)]
  have g0 : ((hdr p s ++ p.body ++ tail)[0]!.toNat : Int) = (17664 + p.tos) / 256 % 256 := by rw [e]; exact u8i_nat
  have g1 : ((hdr p s ++ p.body ++ tail)[1]!.toNat : Int) = (17664 + p.tos) % 256 := by rw [e]; exact u8i_nat
  have g8 : ((hdr p s ++ p.body ++ tail)[8]!.toNat : Int) = (p.ttl * 256 + p.proto) / 256 % 256 := by rw [e]; exact u8i_nat
  have g9 : ((hdr p s ++ p.body ++ tail)[9]!.toNat : Int) = (p.ttl * 256 + p.proto) % 256 := by rw [e]; exact u8i_nat
  have t2 : two (hdr p s ++ p.body ++ tail) 2 = 20 + p.body.length := by
    have a : two (hdr p s ++ p.body ++ tail) 2 = ((u8i ((20 + p.body.length) / 256)).toNat : Int) * 256 + (u8i (20 + p.body.length)).toNat := by rw [e]; rfl
    rw [a, u8i_nat, u8i_nat]; omega
  have t4 : two (hdr p s ++ p.body ++ tail) 4 = p.id := by
    have a : two (hdr p s ++ p.body ++ tail) 4 = ((u8i (p.id / 256)).toNat : Int) * 256 + (u8i p.id).toNat := by rw [e]; rfl
    rw [a, u8i_nat, u8i_nat]; omega
  have t6 : two (hdr p s ++ p.body ++ tail) 6 = 0 := by
    have a : two (hdr p s ++ p.body ++ tail) 6 = ((u8i (0 / 256)).toNat : Int) * 256 + (u8i 0).toNat := by rw [e]; rfl
    rw [a, u8i_nat, u8i_nat]; rfl
  have t12 : two (hdr p s ++ p.body ++ tail) 12 = p.src / 65536 := by
    have a : two (hdr p s ++ p.body ++ tail) 12 = ((u8i (p.src / 65536 / 256)).toNat : Int) * 256 + (u8i (p.src / 65536)).toNat := by rw [e]; rfl
    rw [a, u8i_nat, u8i_nat]; omega
  have t14 : two (hdr p s ++ p.body ++ tail) 14 = p.src % 65536 := by
    have a : two (hdr p s ++ p.body ++ tail) 14 = ((u8i (p.src / 256)).toNat : Int) * 256 + (u8i p.src).toNat := by rw [e]; rfl
    rw [a, u8i_nat, u8i_nat]; omega
  have t16 : two (hdr p s ++ p.body ++ tail) 16 = p.dst / 65536 := by
    have a : two (hdr p s ++ p.body ++ tail) 16 = ((u8i (p.dst / 65536 / 256)).toNat : Int) * 256 + (u8i (p.dst / 65536)).toNat := by rw [e]; rfl
    rw [a, u8i_nat, u8i_nat]; omega
  have t18 : two (hdr p s ++ p.body ++ tail) 18 = p.dst % 65536 := by
    have a : two (hdr p s ++ p.body ++ tail) 18 = ((u8i (p.dst / 256)).toNat : Int) * 256 + (u8i p.dst).toNat := by rw [e]; rfl
    rw [a, u8i_nat, u8i_nat]; omega
  have hln : (hdr p s ++ p.body ++ tail).length = 20 + p.body.length + tail.length := by simp [hl]; omega
  have hbd : ((hdr p s ++ p.body ++ tail).take (20 + p.body.length)).drop 20 = p.body := by
    rw [List.take_append_of_le_length (by simp [hl]), List.take_of_length_le (by simp [hl]), ← hl, List.drop_left]
  unfold ipF
  rw [if_neg (by omega), if_neg (by omega), if_neg (by omega), if_neg (by omega), et, if_neg (by rw [hr]; simp), t2, t4, g1, g8, g9, t12, t14, t16, t18]
  rw [show ((20 : Int) + p.body.length).toNat = 20 + p.body.length by omega, hbd]
  obtain ⟨a1, a2, a3, a4, a5, a6, a7⟩ := p
  dsimp only at *
  congr 1
  congr 1 <;> omega
theorem ip_here (b : List UInt8) (h : (ipF b).2 = 0) : okPk (ipF b).1 ∧ 20 + (ipF b).1.body.length ≤ b.length ∧ red (Wt (hdr (ipF b).1 (two b 10))) = 65535 ∧ b.take (20 + (ipF b).1.body.length) = hdr (ipF b).1 (two b 10) ++ (ipF b).1.body := by
  unfold ipF at *
  split at h
  · simp at h
  split at h
  · simp at h
  split at h
  · simp at h
  split at h
  · simp at h
  split at h
  · simp at h
  rename_i h1 h2 h3 h4 h5
  rw [if_neg h1, if_neg h2, if_neg h3, if_neg h4, if_neg h5]
  dsimp only
  have k2 := two_b b 2
  have k4 := two_b b 4
  have k12 := two_b b 12
  have k14 := two_b b 14
  have k16 := two_b b 16
  have k18 := two_b b 18
  have k1 := (b[1]!).toNat_lt
  have k8 := (b[8]!).toNat_lt
  have k9 := (b[9]!).toNat_lt
  have hl : ((b.take (two b 2).toNat).drop 20).length = (two b 2).toNat - 20 := by simp; omega
  have hL : 20 + ((b.take (two b 2).toNat).drop 20).length = (two b 2).toNat := by omega
  refine ⟨⟨by dsimp only; omega, by dsimp only; omega, by dsimp only; omega, by dsimp only; omega, by dsimp only; omega, by dsimp only; omega⟩, by omega, ?_⟩
  have key : hdr ⟨b[1]!.toNat, two b 4, b[8]!.toNat, b[9]!.toNat, two b 12 * 65536 + two b 14, two b 16 * 65536 + two b 18, (b.take (two b 2).toNat).drop 20⟩ (two b 10) = b.take 20 := by
    unfold hdr
    dsimp only
    have h6 : two b 6 = 0 := by omega
    have e2 : (20 : Int) + (((b.take (two b 2).toNat).drop 20).length : Nat) = two b 2 := by omega
    have e0 : (17664 : Int) + b[1]!.toNat = two b 0 := by
      have : two b 0 = (b[0]!.toNat : Int) * 256 + b[1]!.toNat := rfl
      omega
    have e8 : (b[8]!.toNat : Int) * (256 : Int) + (b[9]!.toNat : Int) = two b 8 := by
      have : two b 8 = (b[8]!.toNat : Int) * 256 + b[9]!.toNat := rfl
      omega
    have e12 : (two b 12 * 65536 + two b 14) / 65536 = two b 12 := by omega
    have e16 : (two b 16 * 65536 + two b 18) / 65536 = two b 16 := by omega
    rw [e2, e0, e8, e12, e16, ← h6]
    simp only [List.flatMap_cons, List.flatMap_nil, by2_hi]
    obtain ⟨x0, r0, rfl, g0⟩ := cons_of (n := 19) (b := b) (by omega)
    obtain ⟨x1, r1, rfl, g1⟩ := cons_of (n := 18) g0
    obtain ⟨x2, r2, rfl, g2⟩ := cons_of (n := 17) g1
    obtain ⟨x3, r3, rfl, g3⟩ := cons_of (n := 16) g2
    obtain ⟨x4, r4, rfl, g4⟩ := cons_of (n := 15) g3
    obtain ⟨x5, r5, rfl, g5⟩ := cons_of (n := 14) g4
    obtain ⟨x6, r6, rfl, g6⟩ := cons_of (n := 13) g5
    obtain ⟨x7, r7, rfl, g7⟩ := cons_of (n := 12) g6
    obtain ⟨x8, r8, rfl, g8⟩ := cons_of (n := 11) g7
    obtain ⟨x9, r9, rfl, g9⟩ := cons_of (n := 10) g8
    obtain ⟨x10, r10, rfl, g10⟩ := cons_of (n := 9) g9
    obtain ⟨x11, r11, rfl, g11⟩ := cons_of (n := 8) g10
    obtain ⟨x12, r12, rfl, g12⟩ := cons_of (n := 7) g11
    obtain ⟨x13, r13, rfl, g13⟩ := cons_of (n := 6) g12
    obtain ⟨x14, r14, rfl, g14⟩ := cons_of (n := 5) g13
    obtain ⟨x15, r15, rfl, g15⟩ := cons_of (n := 4) g14
    obtain ⟨x16, r16, rfl, g16⟩ := cons_of (n := 3) g15
    obtain ⟨x17, r17, rfl, g17⟩ := cons_of (n := 2) g16
    obtain ⟨x18, r18, rfl, g18⟩ := cons_of (n := 1) g17
    obtain ⟨x19, r, rfl, g19⟩ := cons_of (n := 0) g18
    have f0 : two (x0 :: x1 :: x2 :: x3 :: x4 :: x5 :: x6 :: x7 :: x8 :: x9 :: x10 :: x11 :: x12 :: x13 :: x14 :: x15 :: x16 :: x17 :: x18 :: x19 :: r) 0 = (x0.toNat : Int) * 256 + x1.toNat := rfl
    have f2 : two (x0 :: x1 :: x2 :: x3 :: x4 :: x5 :: x6 :: x7 :: x8 :: x9 :: x10 :: x11 :: x12 :: x13 :: x14 :: x15 :: x16 :: x17 :: x18 :: x19 :: r) 2 = (x2.toNat : Int) * 256 + x3.toNat := rfl
    have f4 : two (x0 :: x1 :: x2 :: x3 :: x4 :: x5 :: x6 :: x7 :: x8 :: x9 :: x10 :: x11 :: x12 :: x13 :: x14 :: x15 :: x16 :: x17 :: x18 :: x19 :: r) 4 = (x4.toNat : Int) * 256 + x5.toNat := rfl
    have f6 : two (x0 :: x1 :: x2 :: x3 :: x4 :: x5 :: x6 :: x7 :: x8 :: x9 :: x10 :: x11 :: x12 :: x13 :: x14 :: x15 :: x16 :: x17 :: x18 :: x19 :: r) 6 = (x6.toNat : Int) * 256 + x7.toNat := rfl
    have f8 : two (x0 :: x1 :: x2 :: x3 :: x4 :: x5 :: x6 :: x7 :: x8 :: x9 :: x10 :: x11 :: x12 :: x13 :: x14 :: x15 :: x16 :: x17 :: x18 :: x19 :: r) 8 = (x8.toNat : Int) * 256 + x9.toNat := rfl
    have f10 : two (x0 :: x1 :: x2 :: x3 :: x4 :: x5 :: x6 :: x7 :: x8 :: x9 :: x10 :: x11 :: x12 :: x13 :: x14 :: x15 :: x16 :: x17 :: x18 :: x19 :: r) 10 = (x10.toNat : Int) * 256 + x11.toNat := rfl
    have f12 : two (x0 :: x1 :: x2 :: x3 :: x4 :: x5 :: x6 :: x7 :: x8 :: x9 :: x10 :: x11 :: x12 :: x13 :: x14 :: x15 :: x16 :: x17 :: x18 :: x19 :: r) 12 = (x12.toNat : Int) * 256 + x13.toNat := rfl
    have f14 : two (x0 :: x1 :: x2 :: x3 :: x4 :: x5 :: x6 :: x7 :: x8 :: x9 :: x10 :: x11 :: x12 :: x13 :: x14 :: x15 :: x16 :: x17 :: x18 :: x19 :: r) 14 = (x14.toNat : Int) * 256 + x15.toNat := rfl
    have f16 : two (x0 :: x1 :: x2 :: x3 :: x4 :: x5 :: x6 :: x7 :: x8 :: x9 :: x10 :: x11 :: x12 :: x13 :: x14 :: x15 :: x16 :: x17 :: x18 :: x19 :: r) 16 = (x16.toNat : Int) * 256 + x17.toNat := rfl
    have f18 : two (x0 :: x1 :: x2 :: x3 :: x4 :: x5 :: x6 :: x7 :: x8 :: x9 :: x10 :: x11 :: x12 :: x13 :: x14 :: x15 :: x16 :: x17 :: x18 :: x19 :: r) 18 = (x18.toNat : Int) * 256 + x19.toNat := rfl
    rw [f0, f2, f4, f6, f8, f10, f12, f14, f16, f18, by2_two, by2_two, by2_two, by2_two, by2_two, by2_two, by2_two, by2_two, by2_two, by2_two]
    rfl
  rw [key]
  refine ⟨by simpa using h5, ?_⟩
  rw [hL]
  generalize hn : (two b 2).toNat = n
  have hn20 : 20 ≤ n := by omega
  have := List.take_append_drop 20 (b.take n)
  rw [List.take_take, Nat.min_eq_left hn20] at this
  exact this.symm
end Go.Proofs
