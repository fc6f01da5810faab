/-
  The machine of plain values, 24: what a claim hands to a function, as plain values; a law's statement, from its run.
-/
import Derived.Test.YtabenkmiojjiiaaPvX
import Derived.Deep.Slices
import Derived.ChangeOld
import Derived.ProofKit
namespace Go.Pv
open Go.ChangeShapes Go.WideShapes Go.RowKit
/-- Fields lie one behind the other. -/
def contig (P : Program) : Nat → List Field → Option Nat
  | o, [] => some o
  | o, f :: fs => if f.offset = o then contig P (o + P.cellsOf f.type) fs else none
/-- Types whose values are plain. -/
def supp (P : Program) : Nat → TypeId → Bool
  | 0, _ => false
  | d + 1, t => match P.underlying t with
    | some .bool | some (.int _) | some .string => P.cellsOf t == 1
    | some (.slice e) => P.cellsOf t == 1 && (decide (0 < P.cellsOf e) && supp P d e)
    | some (.struct fs) => contig P 0 fs.toList == some (P.cellsOf t) && fs.toList.all fun f => supp P d f.type
    | _ => false
/-- A value that is held in one place: an aggregate just where its type is one. -/
def AgOk (P : Program) (t : TypeId) (y : AV) : Prop := (isAg P t = true → ∃ cs, y = .agg cs) ∧ (isAg P t = false → ∀ cs, y ≠ .agg cs)
/-- Plain values of a type, cell by cell. -/
def Dat (P : Program) : Nat → TypeId → List AV → Prop
  | 0, _, _ => False
  | d + 1, t, xs => match P.underlying t with
    | some .bool => ∃ b, xs = [.bool b]
    | some (.int k) => ∃ m, xs = [.int k m] ∧ (Lit.int k m).wf = true
    | some .string => ∃ s, xs = [.str s] ∧ s.length ≤ maxLen
    | some (.slice e) => ∃ es, xs = [.sl (P.cellsOf e) es false] ∧ es.length ≤ maxLen ∧ ∀ y ∈ es, AgOk P e y ∧ Dat P d e y.flat
    | some (.struct fs) => xs.length = P.cellsOf t ∧ ∀ f ∈ fs.toList, Dat P d f.type ((xs.drop f.offset).take (P.cellsOf f.type))
    | _ => False
/-- A plain value of a type. -/
def DatV (P : Program) (d : Nat) (t : TypeId) (y : AV) : Prop := AgOk P t y ∧ Dat P d t y.flat
def DatL (P : Program) (d : Nat) : List TypeId → List AV → Prop
  | [], [] => True
  | t :: ts, y :: ys => DatV P d t y ∧ DatL P d ts ys
  | _, _ => False
section
variable {H : Type} {enc : TypeId × Value → H} {P : Program} {w : World} {base : Nat} {spare : Nat → Bool} {held : Bool}
def old (w : World) : Nat → Prop := fun b => b < w.heap.size
/-- xs are what the cells cs hold. -/
def CellsD (w : World) (xs : List AV) (cs : List Value) : Prop := xs.length = cs.length ∧ ∀ (i : Nat) (x : AV) (v : Value), xs[i]? = some x → cs[i]? = some v → Sim w (bareG (old w)) x v ∧ v.oneCell' = true
theorem CellsD.one {x : AV} {v : Value} (h : Sim w (bareG (old w)) x v) (h1 : v.oneCell' = true) : CellsD w [x] [v] := ⟨rfl, fun i y u hy hu => by
  cases i with
  | zero => simp at hy hu; subst hy hu; exact ⟨h, h1⟩
  | succ i => simp at hy⟩
theorem CellsD.app {xs ys : List AV} {cs ds : List Value} (h : CellsD w xs cs) (k : CellsD w ys ds) : CellsD w (xs ++ ys) (cs ++ ds) := by
  refine ⟨by simp [h.1, k.1], fun i x v hx hv => ?_⟩
  rcases Nat.lt_or_ge i xs.length with hi | hi
  · rw [List.getElem?_append_left hi] at hx
    rw [List.getElem?_append_left (by rw [← h.1]; exact hi)] at hv
    exact h.2 i x v hx hv
  · rw [List.getElem?_append_right hi] at hx
    rw [List.getElem?_append_right (by rw [← h.1]; exact hi), ← h.1] at hv
    exact k.2 _ x v hx hv
theorem cells_at {a : Addr} {n : Nat} {cs : List Value} (h : w.cells? base a n = some cs) : cs.length = n ∧ ∀ j u, cs[j]? = some u → w.cell? (a.add j) = some u := by
  obtain ⟨_, h1, h2⟩ := World.cells?_some h
  exact ⟨h1, fun j u hj => by
    have := (List.getElem?_eq_some_iff.1 hj).1
    rw [h2 j (by omega)]; exact hj⟩
theorem spot_none {a : Addr} {v : Value} (h : w.cell? a = some v) : a = ⟨a.block, a.off, none⟩ := by
  obtain ⟨b, o, s⟩ := a
  unfold World.cell? at h
  split at h
  · split at h
    · cases h
    · rename_i hs; simp at hs; subst hs; rfl
  · cases h
theorem add_plain (b o i : Nat) : Addr.add ⟨b, o, none⟩ i = ⟨b, o + i, none⟩ := by
  unfold Addr.add
  split
  · rename_i h; subst h; rfl
  · rfl
theorem bool_cells {b : Bool} : CellsD w [.bool b] [.bool b] := .one (.bool b) rfl
theorem dat_single {d : Nat} {t : TypeId} {ys : List AV} (hs : supp P d t = true) (ha : isAg P t = false) (h : Dat P d t ys) : ∃ y, ys = [y] ∧ ∀ cs, y ≠ .agg cs := by
  cases d with
  | zero => cases hs
  | succ d =>
    unfold supp at hs
    unfold Dat at h
    unfold isAg at ha
    cases hu : P.underlying t with
    | none => rw [hu] at hs; cases hs
    | some u =>
      rw [hu] at hs h ha
      cases u with
      | bool => obtain ⟨b, rfl⟩ := h; exact ⟨_, rfl, fun cs e => by cases e⟩
      | int k => obtain ⟨b, rfl, _⟩ := h; exact ⟨_, rfl, fun cs e => by cases e⟩
      | string => obtain ⟨b, rfl, _⟩ := h; exact ⟨_, rfl, fun cs e => by cases e⟩
      | slice e => obtain ⟨b, rfl, _⟩ := h; exact ⟨_, rfl, fun cs e => by cases e⟩
      | struct fs => cases ha
      | _ => cases hs
theorem box_dat {d : Nat} {t : TypeId} {ys : List AV} (hs : supp P d t = true) (h : Dat P d t ys) : ∃ y, DatV P d t y ∧ y.flat = ys := by
  cases ha : isAg P t with
  | true => exact ⟨.agg ys, ⟨⟨fun _ => ⟨_, rfl⟩, fun h => by rw [ha] at h; cases h⟩, h⟩, rfl⟩
  | false =>
    obtain ⟨y, rfl, hy⟩ := dat_single hs ha h
    have e : y.flat = [y] := flat_one hy
    exact ⟨y, ⟨⟨(fun h => by rw [ha] at h; cases h), fun _ => hy⟩, by rw [e]; exact h⟩, e⟩
theorem fields_dat {d m : Nat} (ih : ∀ (t : TypeId) (n : Nat) (cs : List Value) (x : DataW H × List MemPlace), supp P d t = true → DataW.trod enc P w base spare held n t cs = some x → cs.length = P.cellsOf t ∧ ∃ xs, Dat P d t xs ∧ CellsD w xs cs) {cs : List Value} :
    ∀ (fs : List Field) (o e : Nat), contig P o fs = some e → (fs.all fun f => supp P d f.type) = true → e ≤ cs.length →
      (∀ f ∈ fs, ∃ x, DataW.trod enc P w base spare held m f.type ((cs.drop f.offset).take (P.cellsOf f.type)) = some x) →
      o ≤ e ∧ ∃ xs, CellsD w xs ((cs.drop o).take (e - o)) ∧ xs.length = e - o ∧ ∀ f ∈ fs, o ≤ f.offset ∧ Dat P d f.type ((xs.drop (f.offset - o)).take (P.cellsOf f.type))
  | [], o, e, hc, _, _, _ => by
    simp only [contig, Option.some.injEq] at hc
    subst hc
    refine ⟨Nat.le_refl _, [], ⟨by simp, fun i x v hx => by simp at hx⟩, by simp, fun f hf => by cases hf⟩
  | f :: fs, o, e, hc, ha, he, hr => by
    simp only [contig] at hc
    split at hc
    case isFalse => cases hc
    rename_i hfo
    subst hfo
    simp only [List.all_cons, Bool.and_eq_true] at ha
    obtain ⟨h1, xs, h2, h3, h4⟩ := fields_dat ih fs _ e hc ha.2 he fun f' hf' => hr f' (List.mem_cons_of_mem _ hf')
    obtain ⟨x, hx⟩ := hr f (by simp)
    obtain ⟨hl, ys, hd, hy⟩ := ih f.type m _ x ha.1 hx
    have hyl : ys.length = P.cellsOf f.type := hy.1.trans hl
    refine ⟨by omega, ys ++ xs, ?_, by rw [List.length_append, hyl, h3]; omega, fun f' hf' => ?_⟩
    · have e1 : (cs.drop f.offset).take (e - f.offset) = (cs.drop f.offset).take (P.cellsOf f.type) ++ (cs.drop (f.offset + P.cellsOf f.type)).take (e - (f.offset + P.cellsOf f.type)) := by
        rw [show e - f.offset = P.cellsOf f.type + (e - (f.offset + P.cellsOf f.type)) by omega, List.take_add, List.drop_drop]
      rw [e1]
      exact hy.app h2
    · rcases List.mem_cons.1 hf' with rfl | hf'
      · refine ⟨by omega, ?_⟩
        rw [Nat.sub_self, List.drop_zero, ← hyl, List.take_left]
        exact hd
      · obtain ⟨k1, k2⟩ := h4 f' hf'
        refine ⟨by omega, ?_⟩
        have e2 : (ys ++ xs).drop (f'.offset - f.offset) = xs.drop (f'.offset - (f.offset + P.cellsOf f.type)) := by
          rw [List.drop_append, List.drop_of_length_le (by omega), List.nil_append]
          congr 1; omega
        rw [e2]; exact k2
theorem dat_of_trod : ∀ (d : Nat) (t : TypeId) (n : Nat) (cs : List Value) (x : DataW H × List MemPlace), supp P d t = true → DataW.trod enc P w base spare held n t cs = some x → cs.length = P.cellsOf t ∧ ∃ xs, Dat P d t xs ∧ CellsD w xs cs
  | 0, _, _, _, _, hs, _ => by cases hs
  | d + 1, t, n, cs, x, hs, h => by
    unfold supp at hs
    unfold Dat
    cases hu : P.underlying t with
    | none => rw [hu] at hs; cases hs
    | some u =>
      rw [hu] at hs
      cases u with
      | bool =>
        obtain ⟨b, rfl, _⟩ := DataW.trod_bool hu h
        exact ⟨by simpa using (beq_iff_eq.1 hs).symm, [.bool b], ⟨b, rfl⟩, .one (.bool b) rfl⟩
      | int k =>
        obtain ⟨m, rfl, _, hw⟩ := DataW.trod_int hu h
        exact ⟨by simpa using (beq_iff_eq.1 hs).symm, [.int k m], ⟨m, rfl, hw⟩, .one (.int k m) rfl⟩
      | string =>
        obtain ⟨s, rfl, _, hw⟩ := DataW.trod_string hu h
        refine ⟨by simpa using (beq_iff_eq.1 hs).symm, [.str s.data.toList], ⟨s.data.toList, rfl, by simpa using hw⟩, .one (.str s.data.toList) rfl⟩
      | slice e =>
        simp only [Bool.and_eq_true, beq_iff_eq, decide_eq_true_eq] at hs
        obtain ⟨hs1, hpos, hse⟩ := hs
        rcases Go.Deep.open_slice hu h with ⟨rfl, _⟩ | ⟨a, len, cap, m, n', D, Pl, rfl, _, hl, hm, hmm, _, hx⟩
        · exact ⟨by simpa using hs1.symm, [.sl (P.cellsOf e) [] false], ⟨[], rfl, by simp, fun y hy => by cases hy⟩, .one (.sl0 _ _ _ _ fun h => by cases h) rfl⟩
        · refine ⟨by simpa using hs1.symm, ?_⟩
          have hlm : len ≤ m := by rw [hmm]; split <;> omega
          have hex : ∀ i, i < len → ∃ y : AV × List Value, DatV P d e y.1 ∧ CellsD w y.1.flat y.2 ∧ y.2.length = P.cellsOf e ∧ ∀ j u, y.2[j]? = some u → w.cell? ((a.add (i * P.cellsOf e)).add j) = some u := by
            intro i hi
            obtain ⟨cs', h1, h2⟩ := hx i (by omega)
            obtain ⟨h3, h4⟩ := cells_at h1
            obtain ⟨_, ys, k1, k2⟩ := dat_of_trod d e n' cs' _ hse h2
            obtain ⟨y, k3, k4⟩ := box_dat hse k1
            exact ⟨(y, cs'), k3, by rw [k4]; exact k2, h3, h4⟩
          have : Inhabited (AV × List Value) := ⟨(.undef, [])⟩
          obtain ⟨F, hF⟩ := Go.Deep.choose_lt hex
          have hget : ∀ i x, ((List.range len).map fun i => (F i).1)[i]? = some x → i < len ∧ x = (F i).1 := by
            intro i x hi
            rw [List.getElem?_map] at hi
            rcases Nat.lt_or_ge i len with h' | h'
            · rw [List.getElem?_range h'] at hi
              exact ⟨h', by simpa using hi.symm⟩
            · rw [List.getElem?_eq_none (by simpa using h')] at hi; cases hi
          refine ⟨[.sl (P.cellsOf e) ((List.range len).map fun i => (F i).1) false], ⟨_, rfl, by simp; omega, ?_⟩, ?_⟩
          · intro y hy
            obtain ⟨i, hi, rfl⟩ := List.mem_map.1 hy
            exact (hF i (List.mem_range.1 hi)).1
          · refine .one ?_ rfl
            rcases Nat.eq_zero_or_pos len with h0 | h0
            · subst h0; exact .sl0 _ _ _ _ fun h => by cases h
            · have hfl : ∀ i, i < len → (F i).1.flat.length = P.cellsOf e := fun i hi => by rw [(hF i hi).2.1.1, (hF i hi).2.2.1]
              have hcell0 : ∀ i, i < len → ∀ j u, (F i).2[j]? = some u → w.cell? ((a.add (i * P.cellsOf e)).add j) = some u := fun i hi => (hF i hi).2.2.2
              have ha : a = ⟨a.block, a.off, none⟩ := by
                obtain ⟨u, hu0⟩ : ∃ u, (F 0).2[0]? = some u := ⟨_, List.getElem?_eq_getElem (by rw [(hF 0 h0).2.2.1]; exact hpos)⟩
                have := hcell0 0 h0 0 u hu0
                rw [Nat.zero_mul] at this
                exact spot_none (v := u) this
              have hcell1 : ∀ i, i < len → ∀ j u, (F i).2[j]? = some u → w.cell? ⟨a.block, a.off + i * P.cellsOf e + j, none⟩ = some u := fun i hi j u hj => by
                have := hcell0 i hi j u hj
                rw [ha, add_plain, add_plain] at this
                exact this
              have hb : a.block < w.heap.size := by
                obtain ⟨u, hu0⟩ : ∃ u, (F 0).2[0]? = some u := ⟨_, List.getElem?_eq_getElem (by rw [(hF 0 h0).2.2.1]; exact hpos)⟩
                have := hcell1 0 h0 0 u hu0
                exact World.block_lt_of_cell? w ⟨a.block, _, none⟩ this
              rw [ha]
              have key : ∀ (i : Nat) (x : AV) (j : Nat) (y : AV), ((List.range len).map fun i => (F i).1)[i]? = some x → x.flat[j]? = some y → i < len ∧ ∃ u, (F i).2[j]? = some u ∧ Sim w (bareG (old w)) y u ∧ u.oneCell' = true := by
                intro i x j y hx hy
                obtain ⟨hi, rfl⟩ := hget i x hx
                have hj := (List.getElem?_eq_some_iff.1 hy).1
                have hu : (F i).2[j]? = some ((F i).2[j]'(by rw [← (hF i hi).2.1.1]; exact hj)) := List.getElem?_eq_getElem _
                obtain ⟨k1, k2⟩ := (hF i hi).2.1.2 j y _ hy hu
                exact ⟨hi, _, hu, k1, k2⟩
              have e0 : len = ((List.range len).map fun i => (F i).1).length := by simp
              have hS := Sim.sl (w := w) (γ := bareG (old w)) (P.cellsOf e) ((List.range len).map fun i => (F i).1) false a.block a.off cap (fun i j => ((F i).2[j]?).getD .nilIface) (by simpa using h0) (by simpa using hl) (fun h => by cases h) hb hb
                (fun x hx => by
                  obtain ⟨i, hi, rfl⟩ := List.mem_map.1 hx
                  exact hfl i (List.mem_range.1 hi))
                (fun i x j y hx hy => by
                  obtain ⟨hi, u, h1, h2, h3⟩ := key i x j y hx hy
                  rw [h1]
                  exact ⟨hcell1 i hi j u h1, h3⟩)
                (fun i x j y hx hy => by
                  obtain ⟨hi, u, h1, h2, h3⟩ := key i x j y hx hy
                  rw [h1]
                  exact h2)
              simpa using hS
      | struct fs =>
        simp only [Bool.and_eq_true, beq_iff_eq] at hs
        obtain ⟨xs, n', rfl, _, hl, hxl, hf⟩ := DataW.trod_struct hu h
        obtain ⟨_, ys, h1, h2, h3⟩ := fields_dat (m := n') (enc := enc) (base := base) (spare := spare) (held := held) (dat_of_trod d) (cs := cs) fs.toList 0 _ hs.1 hs.2 (by omega) (fun f hf' => by
          obtain ⟨i, hi⟩ := List.mem_iff_getElem?.1 hf'
          have hi' : fs[i]? = some f := by simpa using hi
          have := hf i f hi'
          have hlt := (Array.getElem?_eq_some_iff.1 hi').1
          rw [List.getElem?_eq_getElem (by omega)] at this
          exact ⟨_, this⟩)
        refine ⟨hl, ys, ⟨by simpa using h2, fun f hf' => ?_⟩, ?_⟩
        · simpa using (h3 f hf').2
        · rw [List.drop_zero, Nat.sub_zero, ← hl, List.take_length] at h1
          exact h1
      | _ => cases hs
theorem cells_single {t : TypeId} {v : Value} {r : Reach} {d : Nat} (hs : supp P d t = true) (ha : isAg P t = false) (h : Value.okWide P w r base t v) : v.cells.toList = [v] := by
  cases d with
  | zero => cases hs
  | succ d =>
    unfold supp at hs
    unfold isAg at ha
    unfold Value.okWide at h
    cases hu : P.underlying t with
    | none => rw [hu] at hs; cases hs
    | some u =>
      rw [hu] at hs ha h
      cases u <;> first | (cases hs; done) | (cases ha; done) | (cases v <;> first | rfl | (simp [Cell.okWide, Cell.ok, hu] at h; done))
theorem own_of : ∀ (ts : List TypeId) (vs : List Value) (ds : List (DataW H)) (ps : List MemPlace) {d : Nat} {r : Reach}, ts.all (supp P d) = true → DataW.TrodAll enc P w 0 spare held ts vs ds ps →
    (∀ (j : Nat) t v, ts[j]? = some t → vs[j]? = some v → Value.okWide P w r base t v) → ∃ xs, DatL P d ts xs ∧ OwnL (OwnC w (old w)) [] xs vs
  | [], vs, ds, ps, _, _, _, h, _ => by
    obtain ⟨rfl, rfl, rfl⟩ := trodAll_nil h
    exact ⟨[], trivial, .nil⟩
  | t :: ts, vs, ds, ps, d, r, ha, h, hok => by
    obtain ⟨v, vs', d', ds', p, q, rfl, rfl, rfl, ⟨n, h1⟩, h2⟩ := trodAll_cons h
    simp only [List.all_cons, Bool.and_eq_true] at ha
    obtain ⟨xs, k1, k2⟩ := own_of ts vs' ds' q ha.2 h2 fun j t' v' hj hv => hok (j + 1) t' v' (by simpa using hj) (by simpa using hv)
    have hv0 := hok 0 t v rfl rfl
    obtain ⟨_, ys, m1, m2⟩ := dat_of_trod d t n _ _ ha.1 h1
    cases hag : isAg P t with
    | true =>
      have : ∃ cs, v = .agg cs := by
        unfold isAg at hag
        unfold Value.okWide at hv0
        split at hag
        · rename_i hu; rw [hu] at hv0; obtain ⟨cs, h, _⟩ := hv0; exact ⟨cs, h⟩
        · rename_i hu; rw [hu] at hv0; obtain ⟨cs, h, _⟩ := hv0; exact ⟨cs, h⟩
        · cases hag
      obtain ⟨cs, rfl⟩ := this
      have hown : OwnC w (old w) [] (.agg ys) (.agg cs) := ⟨rfl, .agg ys cs (by simpa [Value.cells] using m2.1) fun i x v hx hv => (m2.2 i x v hx (by simpa [Value.cells] using hv)).1⟩
      exact ⟨.agg ys :: xs, ⟨⟨⟨fun _ => ⟨_, rfl⟩, (fun h => by rw [hag] at h; cases h)⟩, m1⟩, k1⟩, OwnL.cons (os := []) (os' := []) hown k2⟩
    | false =>
      rw [cells_single ha.1 hag hv0] at m2
      obtain ⟨y, rfl, hy⟩ := dat_single ha.1 hag m1
      have hsim := (m2.2 0 y v rfl rfl).1
      have hno : ∀ a b c, y ≠ .own a b c := fun a b c e => by subst e; cases hsim
      have hown : OwnC w (old w) [] y v := by
        unfold OwnC
        split
        · exact absurd rfl (hno _ _ _)
        · exact ⟨rfl, hsim⟩
      exact ⟨y :: xs, ⟨⟨⟨(fun h => by rw [hag] at h; cases h), fun _ => hy⟩, by rw [flat_one hy]; exact m1⟩, k1⟩, OwnL.cons (os := []) (os' := []) hown k2⟩
theorem trodAll_stay {W W' : World} {sp : Nat → Bool} (hl : laidOutB P = true) (hb : Below W.heap.size W W') : ∀ (ts : List TypeId) (vs : List Value) (ds : List (DataW H)) (ps : List MemPlace), (ts.all fun t => P.readableRec t && decide (t < P.types.size)) = true →
    DataW.TrodAll enc P W 0 (fun _ => true) true ts vs ds ps → (∀ p ∈ ps, p.block < W.heap.size) → (∀ p ∈ ps, sp p.block = true) → DataW.TrodAll enc P W' 0 sp true ts vs ds ps
  | [], vs, ds, ps, _, h, _, _ => by
    obtain ⟨rfl, rfl, rfl⟩ := trodAll_nil h
    exact rfl
  | t :: ts, vs, ds, ps, ha, h, hlt, hsp => by
    obtain ⟨v, vs', d', ds', p, q, rfl, rfl, rfl, h1, h2⟩ := trodAll_cons h
    simp only [List.all_cons, Bool.and_eq_true, decide_eq_true_eq] at ha
    exact ⟨p, q, Go.WideElems.Trod_stays hl ha.1.1 ha.1.2 h1 (fun x hx => hb.same (hlt x (by simp [hx]))) (fun x hx => hsp x (by simp [hx])),
      trodAll_stay hl hb ts vs' ds' q ha.2 h2 (fun x hx => hlt x (by simp [hx])) (fun x hx => hsp x (by simp [hx])), rfl⟩
/-- A law's contract, from its run. -/
theorem law_calls {f : FuncId} {fn : Func} {s : ChangeSpec} {rt : TypeId} {d : Nat} (hs : ∀ ds : List (DataW H), ds.length = fn.params.toList.length → s.fn H ds = { results := [.lit (.bool true)], args := ds }) (hv : s.vars = [])
    (hres : fn.resultTypes = #[rt]) (hrt : P.underlying rt = some .bool) (hsup : fn.params.toList.all (supp P d) = true) (hl : laidOutB P = true) (hrr : (fn.params.toList.all fun t => P.readableRec t && decide (t < P.types.size)) = true)
    (hrun : ∀ xs, DatL P d fn.params.toList xs → Run P f xs (.bool true)) {W : World} {args : Array Value} {ds gs : List (DataW H)} {before : List MemPlace} {base : Nat}
    (hval : ∀ (j : Nat) t v, fn.params[j]? = some t → args[j]? = some v → Value.okWide P W .any base t v) (hW : DataW.Whole enc P fn.params.toList s.vars false W args.toList ds gs before) :
    Calls P f args W fun e W' => ∃ v, e = .returned v ∧ s.post enc P fn false true false false W args v W' := by
  have hlt := hW.lt
  have hW0 := hW
  obtain ⟨p, q, hA, hV, rfl, hfz, hnd⟩ := hW
  rw [hv] at hV
  obtain ⟨rfl, rfl⟩ := trodVars_none hV
  rw [List.append_nil] at hlt hW0
  obtain ⟨xs, hd, hown⟩ := own_of fn.params.toList args.toList ds p hsup hA fun j t v hj hv => hval j t v (by simpa using hj) (by simpa using hv)
  have hlen : ds.length = fn.params.toList.length := by
    have : ∀ (ts : List TypeId) (vs : List Value) (ds : List (DataW H)) (ps : List MemPlace), DataW.TrodAll enc P W 0 (fun _ => true) true ts vs ds ps → ds.length = ts.length := by
      intro ts
      induction ts with
      | nil => intro vs ds ps h; obtain ⟨_, rfl, _⟩ := trodAll_nil h; rfl
      | cons t ts ih => intro vs ds ps h; obtain ⟨v, vs', d', ds', p, q, rfl, rfl, rfl, _, h2⟩ := trodAll_cons h; simp [ih _ _ _ h2]
    exact this _ _ _ _ hA
  refine Calls.mono ((hrun xs hd).2 W (old W) [] args ⟨fun b hb => ⟨hb, blks_nil b⟩, fun b hb => absurd hb (blks_nil b), .nil⟩ hown) ?_
  rintro e W' ⟨v, I', os', rfl, hr, _, hst⟩
  have hvt : v = .bool true := by
    have h1 : OwnA W' I' os' (.bool true) v := hr
    have h2 : OwnC W' I' os' (.bool true) v := h1
    have h3 := h2.2
    cases h3; rfl
  subst hvt
  have hb : Below W.heap.size W W' := ⟨hst.osk, hst.tape, hst.output, hst.size, fun k hk => hst.keep k hk (blks_nil k)⟩
  refine ⟨_, rfl, ds, [], p, [], p, [], hW0, ?_, ?_, ?_, ?_, fun h => by cases h⟩
  · rw [List.append_nil, hs ds hlen, hres]
    exact trodAll_mk1 (shut_bool hrt true)
  · rw [List.append_nil, hs ds hlen]
    exact trodAll_stay hl hb _ _ _ _ hrr hA hlt fun x hx => by simpa using hlt x hx
  · rw [List.append_nil, hs ds hlen, hv]
    exact rfl
  · refine ⟨hst.osk, hst.output, fun i hi => ?_⟩
    rw [hb.block i hi]
    cases W.heap[i]? with
    | none => simp
    | some o => cases o <;> simp
end
end Go.Pv
