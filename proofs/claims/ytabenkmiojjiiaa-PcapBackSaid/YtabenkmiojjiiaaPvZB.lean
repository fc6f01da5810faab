/-
  The machine of plain values, 26: what is handed to a law, by its types.
-/
import Derived.Test.YtabenkmiojjiiaaPvZ
namespace Go.Pv
section
variable {P : Program} {t e : TypeId} {d : Nat} {y : AV}
theorem ag_none (h : isAg P t = false) (hv : DatV P d t y) : y.flat = [y] := flat_one (hv.1.2 h)
def agD : TypeDesc → Bool
  | .struct _ | .array _ _ => true
  | _ => false
theorem isAg_of {u : TypeDesc} (h : P.underlying t = some u) : isAg P t = agD u := by
  unfold isAg; rw [h]; cases u <;> rfl
theorem dat_int {k : IntKind} (h : P.underlying t = some (.int k)) (hv : DatV P (d + 1) t y) : ∃ m, y = .int k m ∧ (Lit.int k m).wf = true := by
  have := hv.2
  rw [ag_none (isAg_of h) hv] at this
  unfold Dat at this
  rw [h] at this
  obtain ⟨m, h1, h2⟩ := this
  exact ⟨m, by simpa using h1, h2⟩
theorem dat_bool (h : P.underlying t = some .bool) (hv : DatV P (d + 1) t y) : ∃ b, y = .bool b := by
  have := hv.2
  rw [ag_none (isAg_of h) hv] at this
  unfold Dat at this
  rw [h] at this
  obtain ⟨m, h1⟩ := this
  exact ⟨m, by simpa using h1⟩
theorem dat_str (h : P.underlying t = some .string) (hv : DatV P (d + 1) t y) : ∃ s, y = .str s ∧ s.length ≤ maxLen := by
  have := hv.2
  rw [ag_none (isAg_of h) hv] at this
  unfold Dat at this
  rw [h] at this
  obtain ⟨m, h1, h2⟩ := this
  exact ⟨m, by simpa using h1, h2⟩
theorem dat_slice (h : P.underlying t = some (.slice e)) (hv : DatV P (d + 1) t y) : ∃ es, y = .sl (P.cellsOf e) es false ∧ es.length ≤ maxLen ∧ ∀ x ∈ es, DatV P d e x := by
  have := hv.2
  rw [ag_none (isAg_of h) hv] at this
  unfold Dat at this
  rw [h] at this
  obtain ⟨m, h1, h2, h3⟩ := this
  exact ⟨m, by simpa using h1, h2, fun x hx => ⟨(h3 x hx).1, (h3 x hx).2⟩⟩
theorem dat_struct {fs : Array Field} (h : P.underlying t = some (.struct fs)) (hv : DatV P (d + 1) t y) : ∃ cs, y = .agg cs ∧ cs.length = P.cellsOf t ∧ ∀ f ∈ fs.toList, Dat P d f.type ((cs.drop f.offset).take (P.cellsOf f.type)) := by
  obtain ⟨cs, rfl⟩ := hv.1.1 (isAg_of h)
  have := hv.2
  unfold Dat at this
  rw [h] at this
  exact ⟨cs, rfl, this⟩
theorem map_of {α : Type} {f : α → AV} : ∀ {es : List AV}, (∀ x ∈ es, ∃ a, x = f a) → ∃ l : List α, es = l.map f
  | [], _ => ⟨[], rfl⟩
  | x :: es, h => by
    obtain ⟨a, rfl⟩ := h x (by simp)
    obtain ⟨l, rfl⟩ := map_of (es := es) fun y hy => h y (by simp [hy])
    exact ⟨a :: l, rfl⟩
theorem map_ofP {α : Type} {f : α → AV} {p : α → Prop} : ∀ {es : List AV}, (∀ x ∈ es, ∃ a, x = f a ∧ p a) → ∃ l : List α, es = l.map f ∧ ∀ a ∈ l, p a
  | [], _ => ⟨[], rfl, by simp⟩
  | x :: es, h => by
    obtain ⟨a, rfl, ha⟩ := h x (by simp)
    obtain ⟨l, rfl, hl⟩ := map_ofP (es := es) fun y hy => h y (by simp [hy])
    exact ⟨a :: l, rfl, by simpa using ⟨ha, hl⟩⟩
theorem wf_i64 {m : Int} (h : (Lit.int .i64 m).wf = true) : -9223372036854775808 ≤ m ∧ m ≤ 9223372036854775807 := by
  simp [Lit.wf, IntKind.min, IntKind.max, IntKind.signed, IntKind.bits] at h; omega
theorem wf_i32 {m : Int} (h : (Lit.int .i32 m).wf = true) : -2147483648 ≤ m ∧ m ≤ 2147483647 := by
  simp [Lit.wf, IntKind.min, IntKind.max, IntKind.signed, IntKind.bits] at h; omega
theorem wf_u8 {m : Int} (h : (Lit.int .u8 m).wf = true) : 0 ≤ m ∧ m ≤ 255 := by
  simp [Lit.wf, IntKind.min, IntKind.max, IntKind.signed, IntKind.bits] at h; omega
theorem wf_u16 {m : Int} (h : (Lit.int .u16 m).wf = true) : 0 ≤ m ∧ m ≤ 65535 := by
  simp [Lit.wf, IntKind.min, IntKind.max, IntKind.signed, IntKind.bits] at h; omega
theorem wf_u32 {m : Int} (h : (Lit.int .u32 m).wf = true) : 0 ≤ m ∧ m ≤ 4294967295 := by
  simp [Lit.wf, IntKind.min, IntKind.max, IntKind.signed, IntKind.bits] at h; omega
theorem wf_u64 {m : Int} (h : (Lit.int .u64 m).wf = true) : 0 ≤ m ∧ m ≤ 18446744073709551615 := by
  simp [Lit.wf, IntKind.min, IntKind.max, IntKind.signed, IntKind.bits] at h; omega
theorem u8_wf {m : Int} (h : (Lit.int .u8 m).wf = true) : ∃ x : UInt8, AV.int .u8 m = bv x := by
  have := wf_u8 h
  refine ⟨UInt8.ofNat m.toNat, ?_⟩
  simp only [bv, UInt8.toNat_ofNat']
  congr 1
  omega
theorem dat1_int {k : IntKind} {xs : List AV} (h : P.underlying t = some (.int k)) (hv : Dat P (d + 1) t xs) : ∃ m, xs = [.int k m] ∧ (Lit.int k m).wf = true := by
  unfold Dat at hv; rw [h] at hv; exact hv
theorem dat1_str {xs : List AV} (h : P.underlying t = some .string) (hv : Dat P (d + 1) t xs) : ∃ s, xs = [.str s] ∧ s.length ≤ maxLen := by
  unfold Dat at hv; rw [h] at hv; exact hv
theorem dat1_bool {xs : List AV} (h : P.underlying t = some .bool) (hv : Dat P (d + 1) t xs) : ∃ b, xs = [.bool b] := by
  unfold Dat at hv; rw [h] at hv; exact hv
theorem dat1_slice {xs : List AV} (h : P.underlying t = some (.slice e)) (hv : Dat P (d + 1) t xs) : ∃ es, xs = [.sl (P.cellsOf e) es false] ∧ es.length ≤ maxLen ∧ ∀ x ∈ es, DatV P d e x := by
  unfold Dat at hv; rw [h] at hv
  obtain ⟨es, h1, h2, h3⟩ := hv
  exact ⟨es, h1, h2, fun x hx => ⟨(h3 x hx).1, (h3 x hx).2⟩⟩
theorem dat1_bys {xs : List AV} (h : P.underlying t = some (.slice e)) (he : P.underlying e = some (.int .u8)) (hc : P.cellsOf e = 1) (hv : Dat P (d + 2) t xs) : ∃ b : List UInt8, xs = [.sl 1 (bys b) false] ∧ b.length ≤ maxLen := by
  obtain ⟨es, rfl, h2, h3⟩ := dat1_slice h hv
  obtain ⟨b, rfl⟩ := map_of (f := bv) (es := es) fun x hx => by
    obtain ⟨m, rfl, hm⟩ := dat_int he (h3 x hx)
    exact u8_wf hm
  exact ⟨b, by rw [hc], by simpa using h2⟩
/-- Bytes. -/
theorem dat_bys (h : P.underlying t = some (.slice e)) (he : P.underlying e = some (.int .u8)) (hc : P.cellsOf e = 1) (hv : DatV P (d + 2) t y) : ∃ b : List UInt8, y = .sl 1 (bys b) false ∧ b.length ≤ maxLen := by
  obtain ⟨es, rfl, h2, h3⟩ := dat_slice h hv
  obtain ⟨b, rfl⟩ := map_of (f := bv) (es := es) fun x hx => by
    obtain ⟨m, rfl, hm⟩ := dat_int he (h3 x hx)
    exact u8_wf hm
  exact ⟨b, by rw [hc], by simpa using h2⟩
theorem datL1 {t1 : TypeId} {xs : List AV} (h : DatL P d [t1] xs) : ∃ y, xs = [y] ∧ DatV P d t1 y := by
  match xs, h with
  | [y], h => exact ⟨y, rfl, h.1⟩
theorem datL2 {t1 t2 : TypeId} {xs : List AV} (h : DatL P d [t1, t2] xs) : ∃ y1 y2, xs = [y1, y2] ∧ DatV P d t1 y1 ∧ DatV P d t2 y2 := by
  match xs, h with
  | [y1, y2], h => exact ⟨y1, y2, rfl, h.1, h.2.1⟩
theorem datL3 {t1 t2 t3 : TypeId} {xs : List AV} (h : DatL P d [t1, t2, t3] xs) : ∃ y1 y2 y3, xs = [y1, y2, y3] ∧ DatV P d t1 y1 ∧ DatV P d t2 y2 ∧ DatV P d t3 y3 := by
  match xs, h with
  | [y1, y2, y3], h => exact ⟨y1, y2, y3, rfl, h.1, h.2.1, h.2.2.1⟩
theorem datL4 {t1 t2 t3 t4 : TypeId} {xs : List AV} (h : DatL P d [t1, t2, t3, t4] xs) : ∃ y1 y2 y3 y4, xs = [y1, y2, y3, y4] ∧ DatV P d t1 y1 ∧ DatV P d t2 y2 ∧ DatV P d t3 y3 ∧ DatV P d t4 y4 := by
  match xs, h with
  | [y1, y2, y3, y4], h => exact ⟨y1, y2, y3, y4, rfl, h.1, h.2.1, h.2.2.1, h.2.2.2.1⟩
theorem datL5 {t1 t2 t3 t4 t5 : TypeId} {xs : List AV} (h : DatL P d [t1, t2, t3, t4, t5] xs) : ∃ y1 y2 y3 y4 y5, xs = [y1, y2, y3, y4, y5] ∧ DatV P d t1 y1 ∧ DatV P d t2 y2 ∧ DatV P d t3 y3 ∧ DatV P d t4 y4 ∧ DatV P d t5 y5 := by
  match xs, h with
  | [y1, y2, y3, y4, y5], h => exact ⟨y1, y2, y3, y4, y5, rfl, h.1, h.2.1, h.2.2.1, h.2.2.2.1, h.2.2.2.2.1⟩
theorem datL6 {t1 t2 t3 t4 t5 t6 : TypeId} {xs : List AV} (h : DatL P d [t1, t2, t3, t4, t5, t6] xs) : ∃ y1 y2 y3 y4 y5 y6, xs = [y1, y2, y3, y4, y5, y6] ∧ DatV P d t1 y1 ∧ DatV P d t2 y2 ∧ DatV P d t3 y3 ∧ DatV P d t4 y4 ∧ DatV P d t5 y5 ∧ DatV P d t6 y6 := by
  match xs, h with
  | [y1, y2, y3, y4, y5, y6], h => exact ⟨y1, y2, y3, y4, y5, y6, rfl, h.1, h.2.1, h.2.2.1, h.2.2.2.1, h.2.2.2.2.1, h.2.2.2.2.2.1⟩
end
end Go.Pv
