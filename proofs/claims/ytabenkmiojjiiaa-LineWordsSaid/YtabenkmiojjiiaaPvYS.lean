/-
  The machine of plain values, 33: a law's statement from its run, the form's reach handed on.
-/
import Derived.Test.YtabenkmiojjiiaaPvY
import Derived.SizedLaws
set_option linter.unusedVariables false
namespace Go.Pv
open Go.ChangeShapes Go.WideShapes Go.RowKit
/-- Texts and rows within the form's reach. -/
inductive Sz : AV → Prop
  | bool (b : Bool) : Sz (.bool b)
  | int (k : IntKind) (n : Int) : Sz (.int k n)
  | str (s : List UInt8) : s.length ≤ reachBytes → Sz (.str s)
  | sl (sz : Nat) (es : List AV) (f : Bool) : es.length ≤ reachBytes → (∀ y ∈ es, Sz y) → Sz (.sl sz es f)
  | agg (cs : List AV) : (∀ y ∈ cs, Sz y) → Sz (.agg cs)
def SzL (xs : List AV) : Prop := ∀ y ∈ xs, Sz y
theorem SzL.one {y : AV} (h : Sz y) : SzL [y] := fun x hx => by
  rw [List.mem_singleton.1 hx]; exact h
theorem SzL.app {xs ys : List AV} (h : SzL xs) (k : SzL ys) : SzL (xs ++ ys) := fun x hx => (List.mem_append.1 hx).elim (h x) (k x)
theorem Sz.of_flat {y : AV} (h : SzL y.flat) : Sz y := by
  cases y with
  | agg cs => exact .agg cs h
  | _ => exact h _ (by simp [AV.flat])
theorem Sz.strLen {s : List UInt8} (h : Sz (.str s)) : s.length ≤ 140737488351232 := by
  cases h with | str _ h => exact h
theorem Sz.slLen {sz : Nat} {es : List AV} {f : Bool} (h : Sz (.sl sz es f)) : es.length ≤ 140737488351232 := by
  cases h with | sl _ _ _ h _ => exact h
theorem Sz.slAll {sz : Nat} {es : List AV} {f : Bool} (h : Sz (.sl sz es f)) : ∀ y ∈ es, Sz y := by
  cases h with | sl _ _ _ _ h => exact h
theorem Sz.aggAll {cs : List AV} (h : Sz (.agg cs)) : ∀ y ∈ cs, Sz y := by
  cases h with | agg _ h => exact h
/-- A row's elements have bytes. -/
def byP (P : Program) : Nat → TypeId → Bool
  | 0, _ => false
  | d + 1, t => match P.underlying t with
    | some (.slice e) => decide (1 ≤ P.bytesOf e) && byP P d e
    | some (.struct fs) => fs.toList.all fun f => byP P d f.type
    | _ => true
section
variable {H : Type} {enc : TypeId × Value → H} {P : Program} {w : World} {base : Nat} {spare : Nat → Bool} {held : Bool}
theorem weightsAll_mem {e : TypeId} : ∀ {l : List (DataW H)}, (DataW.weightsAll P e l).all (· ≤ reachBytes) = true → ∀ d ∈ l, (d.weights P e).all (· ≤ reachBytes) = true
  | [], _, d, hd => by cases hd
  | x :: l, h, d, hd => by
    simp only [DataW.weightsAll, List.all_append, Bool.and_eq_true] at h
    rcases List.mem_cons.1 hd with rfl | hd
    · exact h.1
    · exact weightsAll_mem h.2 d hd
theorem weightsEach_get : ∀ {ts : List TypeId} {ds : List (DataW H)} {j : Nat} {t : TypeId} {d : DataW H}, (DataW.weightsEach P ts ds).all (· ≤ reachBytes) = true → ts[j]? = some t → ds[j]? = some d → (d.weights P t).all (· ≤ reachBytes) = true := fun h ht hd =>
  List.all_eq_true.2 fun n hn => List.all_eq_true.1 h n (DataW.weights_mem_each ht hd n hn)
theorem fields_datz {d m : Nat} (ih : ∀ (t : TypeId) (n : Nat) (cs : List Value) (x : DataW H × List MemPlace), supp P d t = true → byP P d t = true → DataW.trod enc P w base spare held n t cs = some x → (x.1.weights P t).all (· ≤ reachBytes) = true → cs.length = P.cellsOf t ∧ ∃ xs, Dat P d t xs ∧ CellsD w xs cs ∧ SzL xs) {cs : List Value} :
    ∀ (fs : List Field) (o e : Nat), contig P o fs = some e → (fs.all fun f => supp P d f.type && byP P d f.type) = true → e ≤ cs.length →
      (∀ f ∈ fs, ∃ x, DataW.trod enc P w base spare held m f.type ((cs.drop f.offset).take (P.cellsOf f.type)) = some x ∧ (x.1.weights P f.type).all (· ≤ reachBytes) = true) →
      o ≤ e ∧ ∃ xs, SzL xs ∧ CellsD w xs ((cs.drop o).take (e - o)) ∧ xs.length = e - o ∧ ∀ f ∈ fs, o ≤ f.offset ∧ Dat P d f.type ((xs.drop (f.offset - o)).take (P.cellsOf f.type))
  | [], o, e, hc, _, _, _ => by
    simp only [contig, Option.some.injEq] at hc
    subst hc
    refine ⟨Nat.le_refl _, [], (fun y hy => by cases hy), ⟨by simp, fun i x v hx => by simp at hx⟩, by simp, fun f hf => by cases hf⟩
  | f :: fs, o, e, hc, ha, he, hr => by
    simp only [contig] at hc
    split at hc
    case isFalse => cases hc
    rename_i hfo
    subst hfo
    simp only [List.all_cons, Bool.and_eq_true] at ha
    obtain ⟨h1, xs, hz, h2, h3, h4⟩ := fields_datz ih fs _ e hc ha.2 he fun f' hf' => hr f' (List.mem_cons_of_mem _ hf')
    obtain ⟨x, hx, hxw⟩ := hr f (by simp)
    obtain ⟨hl, ys, hd, hy, hyz⟩ := ih f.type m _ x ha.1.1 ha.1.2 hx hxw
    have hyl : ys.length = P.cellsOf f.type := hy.1.trans hl
    refine ⟨by omega, ys ++ xs, hyz.app hz, ?_, by rw [List.length_append, hyl, h3]; omega, fun f' hf' => ?_⟩
    · have e1 : (cs.drop f.offset).take (e - f.offset) = (cs.drop f.offset).take (P.cellsOf f.type) ++ (cs.drop (f.offset + P.cellsOf f.type)).take (e - (f.offset + P.cellsOf f.type)) := by
        rw [show e - f.offset = P.cellsOf f.type + (e - (f.offset + P.cellsOf f.type)) by omega, List.take_add, List.drop_drop]
      rw [e1]
      exact hy.app h2
    · rcases List.mem_cons.1 hf' with rfl | hf'
      · refine ⟨by omega, ?_⟩
        rw [Nat.sub_self, List.drop_zero, ← hyl, List.take_left]
        exact hd
      · obtain ⟨k1, k2⟩ := h4 f' hf'
        refine ⟨by omega, ?_⟩
        have e2 : (ys ++ xs).drop (f'.offset - f.offset) = xs.drop (f'.offset - (f.offset + P.cellsOf f.type)) := by
          rw [List.drop_append, List.drop_of_length_le (by omega), List.nil_append]
          congr 1; omega
        rw [e2]; exact k2
theorem datz_of_trod : ∀ (d : Nat) (t : TypeId) (n : Nat) (cs : List Value) (x : DataW H × List MemPlace), supp P d t = true → byP P d t = true → DataW.trod enc P w base spare held n t cs = some x → (x.1.weights P t).all (· ≤ reachBytes) = true → cs.length = P.cellsOf t ∧ ∃ xs, Dat P d t xs ∧ CellsD w xs cs ∧ SzL xs
  | 0, _, _, _, _, hs, _, _, _ => by cases hs
  | d + 1, t, n, cs, x, hs, hby, h, hwt => by
    unfold supp at hs
    unfold byP at hby
    unfold Dat
    cases hu : P.underlying t with
    | none => rw [hu] at hs; cases hs
    | some u =>
      rw [hu] at hs hby
      cases u with
      | bool =>
        obtain ⟨b, rfl, _⟩ := DataW.trod_bool hu h
        exact ⟨by simpa using (beq_iff_eq.1 hs).symm, [.bool b], ⟨b, rfl⟩, .one (.bool b) rfl, .one (.bool b)⟩
      | int k =>
        obtain ⟨m, rfl, _, hw⟩ := DataW.trod_int hu h
        exact ⟨by simpa using (beq_iff_eq.1 hs).symm, [.int k m], ⟨m, rfl, hw⟩, .one (.int k m) rfl, .one (.int k m)⟩
      | string =>
        obtain ⟨s, rfl, rfl, hw⟩ := DataW.trod_string hu h
        have hwz : s.data.toList.length ≤ reachBytes := by simpa [DataW.weights] using hwt
        refine ⟨by simpa using (beq_iff_eq.1 hs).symm, [.str s.data.toList], ⟨s.data.toList, rfl, by simpa using hw⟩, .one (.str s.data.toList) rfl, .one (.str _ hwz)⟩
      | slice e =>
        simp only [Bool.and_eq_true, beq_iff_eq, decide_eq_true_eq] at hs
        obtain ⟨hs1, hpos, hse⟩ := hs
        simp only [Bool.and_eq_true, decide_eq_true_eq] at hby
        rcases Go.Deep.open_slice hu h with ⟨rfl, _⟩ | ⟨a, len, cap, m, n', D, Pl, rfl, _, hl, hm, hmm, rfl, hx⟩
        · exact ⟨by simpa using hs1.symm, [.sl (P.cellsOf e) [] false], ⟨[], rfl, by simp, fun y hy => by cases hy⟩, .one (.sl0 _ _ _ _ fun h => by cases h) rfl, .one (.sl _ _ _ (by simp) fun y hy => by cases hy)⟩
        · refine ⟨by simpa using hs1.symm, ?_⟩
          have hlm : len ≤ m := by rw [hmm]; split <;> omega
          simp only [DataW.weights, hu, List.all_cons, Bool.and_eq_true, decide_eq_true_eq, List.all_append, List.length_map, List.length_range] at hwt
          have hlz : len ≤ reachBytes := by
            have h1 := hwt.1
            have h2 : len * 1 ≤ (len + (m - len)) * P.bytesOf e := Nat.mul_le_mul (by omega) hby.1
            omega
          have hwi : ∀ i, i < len → ((D i).weights P e).all (· ≤ reachBytes) = true := fun i hi => weightsAll_mem (by simpa using hwt.2.1) (D i) (List.mem_map.2 ⟨i, List.mem_range.2 hi, rfl⟩)
          have hex : ∀ i, i < len → ∃ y : AV × List Value, DatV P d e y.1 ∧ CellsD w y.1.flat y.2 ∧ Sz y.1 ∧ y.2.length = P.cellsOf e ∧ ∀ j u, y.2[j]? = some u → w.cell? ((a.add (i * P.cellsOf e)).add j) = some u := by
            intro i hi
            obtain ⟨cs', h1, h2⟩ := hx i (by omega)
            obtain ⟨h3, h4⟩ := cells_at h1
            obtain ⟨_, ys, k1, k2, kz⟩ := datz_of_trod d e n' cs' _ hse hby.2 h2 (hwi i hi)
            obtain ⟨y, k3, k4⟩ := box_dat hse k1
            exact ⟨(y, cs'), k3, by rw [k4]; exact k2, Sz.of_flat (k4 ▸ kz), h3, h4⟩
          have : Inhabited (AV × List Value) := ⟨(.undef, [])⟩
          obtain ⟨F, hF⟩ := Go.Deep.choose_lt hex
          have hget : ∀ i x, ((List.range len).map fun i => (F i).1)[i]? = some x → i < len ∧ x = (F i).1 := by
            intro i x hi
            rw [List.getElem?_map] at hi
            rcases Nat.lt_or_ge i len with h' | h'
            · rw [List.getElem?_range h'] at hi
              exact ⟨h', by simpa using hi.symm⟩
            · rw [List.getElem?_eq_none (by simpa using h')] at hi; cases hi
          refine ⟨[.sl (P.cellsOf e) ((List.range len).map fun i => (F i).1) false], ⟨_, rfl, by simp; omega, ?_⟩, ?_, .one (.sl _ _ _ (by simpa using hlz) fun y hy => by
            obtain ⟨i, hi, rfl⟩ := List.mem_map.1 hy
            exact (hF i (List.mem_range.1 hi)).2.2.1)⟩
          · intro y hy
            obtain ⟨i, hi, rfl⟩ := List.mem_map.1 hy
            exact (hF i (List.mem_range.1 hi)).1
          · refine .one ?_ rfl
            rcases Nat.eq_zero_or_pos len with h0 | h0
            · subst h0; exact .sl0 _ _ _ _ fun h => by cases h
            · have hfl : ∀ i, i < len → (F i).1.flat.length = P.cellsOf e := fun i hi => by rw [(hF i hi).2.1.1, (hF i hi).2.2.2.1]
              have hcell0 : ∀ i, i < len → ∀ j u, (F i).2[j]? = some u → w.cell? ((a.add (i * P.cellsOf e)).add j) = some u := fun i hi => (hF i hi).2.2.2.2
              have ha : a = ⟨a.block, a.off, none⟩ := by
                obtain ⟨u, hu0⟩ : ∃ u, (F 0).2[0]? = some u := ⟨_, List.getElem?_eq_getElem (by rw [(hF 0 h0).2.2.2.1]; exact hpos)⟩
                have := hcell0 0 h0 0 u hu0
                rw [Nat.zero_mul] at this
                exact spot_none (v := u) this
              have hcell1 : ∀ i, i < len → ∀ j u, (F i).2[j]? = some u → w.cell? ⟨a.block, a.off + i * P.cellsOf e + j, none⟩ = some u := fun i hi j u hj => by
                have := hcell0 i hi j u hj
                rw [ha, add_plain, add_plain] at this
                exact this
              have hb : a.block < w.heap.size := by
                obtain ⟨u, hu0⟩ : ∃ u, (F 0).2[0]? = some u := ⟨_, List.getElem?_eq_getElem (by rw [(hF 0 h0).2.2.2.1]; exact hpos)⟩
                have := hcell1 0 h0 0 u hu0
                exact World.block_lt_of_cell? w ⟨a.block, _, none⟩ this
              rw [ha]
              have key : ∀ (i : Nat) (x : AV) (j : Nat) (y : AV), ((List.range len).map fun i => (F i).1)[i]? = some x → x.flat[j]? = some y → i < len ∧ ∃ u, (F i).2[j]? = some u ∧ Sim w (bareG (old w)) y u ∧ u.oneCell' = true := by
                intro i x j y hx hy
                obtain ⟨hi, rfl⟩ := hget i x hx
                have hj := (List.getElem?_eq_some_iff.1 hy).1
                have hu : (F i).2[j]? = some ((F i).2[j]'(by rw [← (hF i hi).2.1.1]; exact hj)) := List.getElem?_eq_getElem _
                obtain ⟨k1, k2⟩ := (hF i hi).2.1.2 j y _ hy hu
                exact ⟨hi, _, hu, k1, k2⟩
              have e0 : len = ((List.range len).map fun i => (F i).1).length := by simp
              have hS := Sim.sl (w := w) (γ := bareG (old w)) (P.cellsOf e) ((List.range len).map fun i => (F i).1) false a.block a.off cap (fun i j => ((F i).2[j]?).getD .nilIface) (by simpa using h0) (by simpa using hl) (fun h => by cases h) hb hb
                (fun x hx => by
                  obtain ⟨i, hi, rfl⟩ := List.mem_map.1 hx
                  exact hfl i (List.mem_range.1 hi))
                (fun i x j y hx hy => by
                  obtain ⟨hi, u, h1, h2, h3⟩ := key i x j y hx hy
                  rw [h1]
                  exact ⟨hcell1 i hi j u h1, h3⟩)
                (fun i x j y hx hy => by
                  obtain ⟨hi, u, h1, h2, h3⟩ := key i x j y hx hy
                  rw [h1]
                  exact h2)
              simpa using hS
      | struct fs =>
        simp only [Bool.and_eq_true, beq_iff_eq] at hs
        obtain ⟨xs, n', rfl, rfl, hl, hxl, hf⟩ := DataW.trod_struct hu h
        simp only [DataW.weights, hu] at hwt
        obtain ⟨_, ys, hz, h1, h2, h3⟩ := fields_datz (m := n') (enc := enc) (base := base) (spare := spare) (held := held) (datz_of_trod d) (cs := cs) fs.toList 0 _ hs.1 (by
          have a1 := hs.2
          simp only [List.all_eq_true, Bool.and_eq_true] at a1 hby ⊢
          exact fun f hf' => ⟨a1 f hf', hby f hf'⟩) (by omega) (fun f hf' => by
          obtain ⟨i, hi⟩ := List.mem_iff_getElem?.1 hf'
          have hi' : fs[i]? = some f := by simpa using hi
          have := hf i f hi'
          have hlt := (Array.getElem?_eq_some_iff.1 hi').1
          rw [List.getElem?_eq_getElem (by omega)] at this
          refine ⟨_, this, ?_⟩
          have hlx : i < xs.length := by omega
          refine weightsEach_get hwt (j := i) ?_ ?_
          · simp [hi']
          · simp [List.getElem?_eq_getElem hlx])
        refine ⟨hl, ys, ⟨by simpa using h2, fun f hf' => ?_⟩, ?_, hz⟩
        · simpa using (h3 f hf').2
        · rw [List.drop_zero, Nat.sub_zero, ← hl, List.take_length] at h1
          exact h1
      | _ => cases hs
theorem ownz_of : ∀ (ts : List TypeId) (vs : List Value) (ds : List (DataW H)) (ps : List MemPlace) {d : Nat} {r : Reach}, ts.all (supp P d) = true → ts.all (byP P d) = true → (DataW.weightsEach P ts ds).all (· ≤ reachBytes) = true → DataW.TrodAll enc P w 0 spare held ts vs ds ps →
    (∀ (j : Nat) t v, ts[j]? = some t → vs[j]? = some v → Value.okWide P w r base t v) → ∃ xs, DatL P d ts xs ∧ SzL xs ∧ OwnL (OwnC w (old w)) [] xs vs
  | [], vs, ds, ps, _, _, _, _, _, h, _ => by
    obtain ⟨rfl, rfl, rfl⟩ := trodAll_nil h
    exact ⟨[], trivial, (fun y hy => by cases hy), .nil⟩
  | t :: ts, vs, ds, ps, d, r, ha, hby, hwt, h, hok => by
    obtain ⟨v, vs', d', ds', p, q, rfl, rfl, rfl, ⟨n, h1⟩, h2⟩ := trodAll_cons h
    simp only [List.all_cons, Bool.and_eq_true] at ha hby
    simp only [DataW.weightsEach, List.all_append, Bool.and_eq_true] at hwt
    obtain ⟨xs, k1, kz, k2⟩ := ownz_of ts vs' ds' q ha.2 hby.2 hwt.2 h2 fun j t' v' hj hv => hok (j + 1) t' v' (by simpa using hj) (by simpa using hv)
    have hv0 := hok 0 t v rfl rfl
    obtain ⟨_, ys, m1, m2, mz⟩ := datz_of_trod d t n _ _ ha.1 hby.1 h1 hwt.1
    cases hag : isAg P t with
    | true =>
      have : ∃ cs, v = .agg cs := by
        unfold isAg at hag
        unfold Value.okWide at hv0
        split at hag
        · rename_i hu; rw [hu] at hv0; obtain ⟨cs, h, _⟩ := hv0; exact ⟨cs, h⟩
        · rename_i hu; rw [hu] at hv0; obtain ⟨cs, h, _⟩ := hv0; exact ⟨cs, h⟩
        · cases hag
      obtain ⟨cs, rfl⟩ := this
      have hown : OwnC w (old w) [] (.agg ys) (.agg cs) := ⟨rfl, .agg ys cs (by simpa [Value.cells] using m2.1) fun i x v hx hv => (m2.2 i x v hx (by simpa [Value.cells] using hv)).1⟩
      exact ⟨.agg ys :: xs, ⟨⟨⟨fun _ => ⟨_, rfl⟩, (fun h => by rw [hag] at h; cases h)⟩, m1⟩, k1⟩, (SzL.one (.agg _ mz)).app kz, OwnL.cons (os := []) (os' := []) hown k2⟩
    | false =>
      rw [cells_single ha.1 hag hv0] at m2
      obtain ⟨y, rfl, hy⟩ := dat_single ha.1 hag m1
      have hsim := (m2.2 0 y v rfl rfl).1
      have hno : ∀ a b c, y ≠ .own a b c := fun a b c e => by subst e; cases hsim
      have hown : OwnC w (old w) [] y v := by
        unfold OwnC
        split
        · exact absurd rfl (hno _ _ _)
        · exact ⟨rfl, hsim⟩
      exact ⟨y :: xs, ⟨⟨⟨(fun h => by rw [hag] at h; cases h), fun _ => hy⟩, by rw [flat_one hy]; exact m1⟩, k1⟩, mz.app kz, OwnL.cons (os := []) (os' := []) hown k2⟩
/-- A law's contract, from its run. -/
theorem law_calls_sized {f : FuncId} {fn : Func} {s : ChangeSpec} {rt : TypeId} {d : Nat} (hs : ∀ ds : List (DataW H), ds.length = fn.params.toList.length → s.fn H ds = { results := [.lit (.bool true)], args := ds }) (hv : s.vars = [])
    (hres : fn.resultTypes = #[rt]) (hrt : P.underlying rt = some .bool) (hsup : fn.params.toList.all (supp P d) = true) (hby : fn.params.toList.all (byP P d) = true) (hl : laidOutB P = true) (hrr : (fn.params.toList.all fun t => P.readableRec t && decide (t < P.types.size)) = true)
    (hrun : ∀ xs, DatL P d fn.params.toList xs → SzL xs → Run P f xs (.bool true)) {W : World} {args : Array Value} {ds gs : List (DataW H)} {before : List MemPlace} {base : Nat}
    (hval : ∀ (j : Nat) t v, fn.params[j]? = some t → args[j]? = some v → Value.okWide P W .any base t v) (hW : DataW.Whole enc P fn.params.toList s.vars false W args.toList ds gs before)
    (hsz : (DataW.weightsEach P (fn.params.toList ++ s.plain.varTypes P) (ds ++ gs)).all (· ≤ reachBytes) = true) :
    Calls P f args W fun e W' => ∃ v, e = .returned v ∧ s.post enc P fn false true false false W args v W' := by
  have hlt := hW.lt
  have hW0 := hW
  obtain ⟨p, q, hA, hV, rfl, hfz, hnd⟩ := hW
  rw [hv] at hV
  obtain ⟨rfl, rfl⟩ := trodVars_none hV
  rw [List.append_nil] at hlt hW0
  have hvt : s.plain.varTypes P = [] := by simp [ChangeSpec.plain, DataSpec.varTypes, hv]
  rw [hvt, List.append_nil, List.append_nil] at hsz
  obtain ⟨xs, hd, hxz, hown⟩ := ownz_of fn.params.toList args.toList ds p hsup hby hsz hA fun j t v hj hv => hval j t v (by simpa using hj) (by simpa using hv)
  have hlen : ds.length = fn.params.toList.length := by
    have : ∀ (ts : List TypeId) (vs : List Value) (ds : List (DataW H)) (ps : List MemPlace), DataW.TrodAll enc P W 0 (fun _ => true) true ts vs ds ps → ds.length = ts.length := by
      intro ts
      induction ts with
      | nil => intro vs ds ps h; obtain ⟨_, rfl, _⟩ := trodAll_nil h; rfl
      | cons t ts ih => intro vs ds ps h; obtain ⟨v, vs', d', ds', p, q, rfl, rfl, rfl, _, h2⟩ := trodAll_cons h; simp [ih _ _ _ h2]
    exact this _ _ _ _ hA
  refine Calls.mono ((hrun xs hd hxz).2 W (old W) [] args ⟨fun b hb => ⟨hb, blks_nil b⟩, fun b hb => absurd hb (blks_nil b), .nil⟩ hown) ?_
  rintro e W' ⟨v, I', os', rfl, hr, _, hst⟩
  have hvt : v = .bool true := by
    have h1 : OwnA W' I' os' (.bool true) v := hr
    have h2 : OwnC W' I' os' (.bool true) v := h1
    have h3 := h2.2
    cases h3; rfl
  subst hvt
  have hb : Below W.heap.size W W' := ⟨hst.osk, hst.tape, hst.output, hst.size, fun k hk => hst.keep k hk (blks_nil k)⟩
  refine ⟨_, rfl, ds, [], p, [], p, [], hW0, ?_, ?_, ?_, ?_, fun h => by cases h⟩
  · rw [List.append_nil, hs ds hlen, hres]
    exact trodAll_mk1 (shut_bool hrt true)
  · rw [List.append_nil, hs ds hlen]
    exact trodAll_stay hl hb _ _ _ _ hrr hA hlt fun x hx => by simpa using hlt x hx
  · rw [List.append_nil, hs ds hlen, hv]
    exact rfl
  · refine ⟨hst.osk, hst.output, fun i hi => ?_⟩
    rw [hb.block i hi]
    cases W.heap[i]? with
    | none => simp
    | some o => cases o <;> simp
end
end Go.Pv
