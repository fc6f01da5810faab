/-
  The machine of plain values, 7: operations that read.
-/
import Derived.Test.YtabenkmiojjiiaaPvF
namespace Go.Pv
section
variable {P : Program} {w : World} {γ : Gh} {fr : Fr} {a : Act} {H : Hp}
theorem Sim.ofBare {x : AV} {v : Value} (h : Sim w γ.bare x v) : Sim w γ x v :=
  h.adv ⟨Nat.le_refl _, fun _ hb => ⟨hb, fun _ => rfl⟩, fun _ _ hi => by cases hi⟩
/-- The cells of y lie in block b from o on. -/
def Lies (w : World) (γ : Gh) (y : AV) (b o : Nat) : Prop := ∀ (j : Nat) (z : AV), y.flat[j]? = some z → ∃ u, w.cell? ⟨b, o + j, none⟩ = some u ∧ u.oneCell' = true ∧ Sim w γ z u
theorem load_lies {t : TypeId} (ht : tyOk P t = true) {y z : AV} {b o off : Nat} (hl : Lies w γ y b o) (h : cells y off (P.cellsOf t) (isAg P t) = some z) :
    ∃ v, (loadVar t ⟨b, o + off, none⟩).run P w = .ok v w ∧ Sim w γ z v := by
  unfold cells at h
  simp only [loadVar, Sem.run_bind, run_isAgg ht, Result.andThen_ok]
  by_cases ha : isAg P t = true
  · rw [if_pos ha] at h ⊢
    split at h
    · rename_i hlen
      cases h
      simp only [Sem.run_bind, run_sizeOf ht, Result.andThen_ok]
      have hn : off + P.cellsOf t ≤ y.flat.length ∨ P.cellsOf t = 0 := by simp at hlen; omega
      have key : ∀ j, j < P.cellsOf t → ∃ z u, y.flat[off + j]? = some z ∧ w.cell? ⟨b, o + (off + j), none⟩ = some u ∧ Sim w γ z u := by
        intro j hj
        have hlt : off + j < y.flat.length := by omega
        obtain ⟨u, h1, _, h3⟩ := hl (off + j) _ (List.getElem?_eq_getElem hlt)
        exact ⟨_, u, List.getElem?_eq_getElem hlt, h1, h3⟩
      have hld := run_loadCells (P := P) w ⟨b, o + off, none⟩ (P.cellsOf t) (fun j => (w.cell? ⟨b, o + (off + j), none⟩).getD Go.undef) (fun j hj => by
        obtain ⟨z, u, _, h2, _⟩ := key j hj
        rw [Addr.add_lit, Nat.add_assoc, h2]; rfl)
      rw [hld]
      refine ⟨_, rfl, .agg _ _ (by simpa using hlen) ?_⟩
      intro i x v hx hv
      rw [List.getElem?_take] at hx
      split at hx
      · rename_i hi
        obtain ⟨z, u, h1, h2, h3⟩ := key i hi
        rw [List.getElem?_drop, h1] at hx
        cases hx
        simp only [List.getElem?_toArray, List.getElem?_map, List.getElem?_range hi, Option.map_some] at hv
        rw [h2] at hv
        cases hv
        exact h3
      · cases hx
    · cases h
  · rw [if_neg ha] at h ⊢
    obtain ⟨u, h1, _, h3⟩ := hl off z h
    exact ⟨u, by simp [h1], h3⟩
theorem EntOk.lies {e : Ent} {ge : GE} {g i : Nat} {y : AV} (h : EntOk w γ e ge) (hg : ge.blk = some g) (hy : e.es[i]? = some y) : Lies w γ y g (i * ge.sz) := by
  rcases (h.live (.inr (by intro hn; rw [hn] at hy; simp at hy))).2 with ⟨h1, _⟩ | ⟨g', cs, fr, h1, h2, h3, h4, h5, h6⟩
  · rw [h1] at hg; cases hg
  · rw [h1] at hg; cases hg
    intro j z hz
    obtain ⟨u, hu, ho, hs⟩ := (h6 i y hy).2 j z hz
    refine ⟨u, ?_, ho, hs⟩
    simp [World.cell?, h2, hu]
theorem load_run (hh : HRel γ H w) {t : TypeId} (ht : tyOk P t = true) {X : AX} {x : Value} {z : AV} (hx : Sim w γ (X.ev fr) x) (h : evR fr H (.load (P.cellsOf t) (isAg P t) X) = some z) :
    ∃ v, (Instr.loadAt t x).run P w = .ok v w ∧ Sim w γ z v := by
  simp only [evR] at h
  generalize X.ev fr = XX at *
  cases XX <;> try (cases h; done)
  · rename_i id i off
    obtain ⟨e, he, h⟩ := Option.bind_eq_some_iff.1 h
    obtain ⟨y, hy, h⟩ := Option.bind_eq_some_iff.1 h
    cases hx with
    | eptr _ _ _ g ge hm hg =>
      obtain ⟨ge', hm', hok⟩ := hh.ok id e he
      rw [hm] at hm'; cases hm'
      obtain ⟨v, hv, hs⟩ := load_lies ht (hok.lies hg hy) h
      exact ⟨v, by simp [Instr.loadAt, Instr.sureAddr, hv], hs⟩
  · rename_i y off
    cases hx with
    | rptr _ _ b o U hb hi hcell hs =>
      obtain ⟨v, hv, hs⟩ := load_lies (o := o) ht (γ := γ) (fun j z hz => ⟨U j, (hcell j z hz).1, (hcell j z hz).2, (hs j z hz).ofBare⟩) h
      exact ⟨v, by simp [Instr.loadAt, Instr.sureAddr, hv], hs⟩
/-- The elements es lie one behind the other. -/
def LiesL (w : World) (γ : Gh) (sz : Nat) (es : List AV) (b o : Nat) : Prop := ∀ (i : Nat) (x : AV), es[i]? = some x → x.flat.length = sz ∧ Lies w γ x b (o + i * sz)
theorem elems_lies (hh : HRel γ H w) {X : AV} {x : Value} {es : List AV} (hx : Sim w γ X x) (h : elems H X = some es) :
    (∃ s, X = .str s ∧ es = s.map bv) ∨ ∃ A cap, x = .slice A es.length cap ∧ es.length ≤ cap ∧
      (es = [] ∨ ∃ sz b o, A = some ⟨b, o, none⟩ ∧ LiesL w γ sz es b o ∧ ((∃ id off len, X = .vec id sz off len) ∨ ∃ full, X = .sl sz es full)) := by
  cases X <;> try (cases h; done)
  · cases h; exact .inl ⟨_, rfl, rfl⟩
  · rename_i sz es' full
    cases h
    right
    cases hx with
    | sl0 _ _ A cap h => exact ⟨A, cap, rfl, Nat.zero_le _, .inl rfl⟩
    | sl _ _ _ b off cap U hp hc hf hb hi hz hcell hs =>
      refine ⟨_, cap, rfl, hc, .inr ⟨sz, b, off, rfl, fun i y hy => ⟨hz y (List.mem_of_getElem? hy), fun j z hz => ⟨U i j, (hcell i y j z hy hz).1, (hcell i y j z hy hz).2, (hs i y j z hy hz).ofBare⟩⟩, .inr ⟨full, rfl⟩⟩⟩
  · rename_i id sz off len
    right
    simp only [elems] at h
    obtain ⟨e, he, h⟩ := Option.bind_eq_some_iff.1 h
    split at h
    case isFalse => cases h
    rename_i hle
    cases h
    cases hx with
    | vec _ _ _ _ A cap ge hm hz hl hc hN hA =>
      obtain ⟨ge', hm', hok⟩ := hh.ok id e he
      rw [hm] at hm'; cases hm'
      have hlen : ((e.es.drop off).take len).length = len := by simp; omega
      refine ⟨A, cap, by rw [hlen], by omega, ?_⟩
      by_cases h0 : len = 0
      · left
        exact List.eq_nil_of_length_eq_zero (by omega)
      · right
        cases hg : ge.blk with
        | none => have := hN hg; omega
        | some g =>
          have := hA g hg (.inl (by omega))
          refine ⟨sz, g, off * sz, this, fun i y hy => ?_, .inl ⟨id, off, len, rfl⟩⟩
          rw [List.getElem?_take] at hy
          split at hy
          · rw [List.getElem?_drop] at hy
            have h1 := hok.lies hg hy
            rw [hz, Nat.add_mul] at h1
            refine ⟨?_, h1⟩
            rcases (hok.live (.inr (by intro hn; rw [hn] at hy; simp at hy))).2 with ⟨h2, _⟩ | ⟨g', cs, fr, _, _, _, _, _, h6⟩
            · rw [h2] at hg; cases hg
            · rw [← hz]; exact (h6 _ y hy).1
          · cases hy
theorem toBytes_map {es : List AV} {l : List UInt8} (h : toBytes es = some l) : ∃ ns : List Int, es = ns.map (AV.int .u8) ∧ ns.map (fun n => UInt8.ofNat n.toNat) = l := by
  induction es generalizing l with
  | nil => cases h; exact ⟨[], rfl, rfl⟩
  | cons x xs ih =>
    cases x <;> try (simp [toBytes] at h; done)
    rename_i k n
    cases k <;> try (simp [toBytes] at h; done)
    simp only [toBytes] at h
    split at h
    · obtain ⟨l', hl', rfl⟩ := Option.map_eq_some_iff.1 h
      obtain ⟨ns, rfl, rfl⟩ := ih hl'
      exact ⟨n :: ns, rfl, rfl⟩
    · cases h
theorem foldl_push (ns : List Int) : ∀ (l : List UInt8), ns.foldl (fun (r : ByteArray) n => r.push (UInt8.ofNat n.toNat)) ⟨l.toArray⟩ = ⟨(l ++ ns.map (fun n => UInt8.ofNat n.toNat)).toArray⟩ := by
  induction ns with
  | nil => intro l; simp
  | cons n ns ih =>
    intro l
    simp only [List.foldl_cons, List.map_cons]
    have e : (ByteArray.mk l.toArray).push (UInt8.ofNat n.toNat) = ⟨(l ++ [UInt8.ofNat n.toNat]).toArray⟩ := by
      apply ByteArray.ext
      simp [ByteArray.push]
    rw [e, ih]
    simp
theorem cut_run (hh : HRel γ H w) (hf : FrR w γ fr a.tmps) {t el : TypeId} (ht : P.underlying t = some (.slice el)) (hok : tyOk P el = true) {X : AX} {lo hi : Operand} {z : AV} {x : Value} (hx : Sim w γ (X.ev fr) x)
    (he : evR fr H (.cut (P.cellsOf el) X (cx lo) (cx hi)) = some z) : ∃ v, (Instr.sliceAt t x (some (a.eval lo)) (some (a.eval hi)) none).run P w = .ok v w ∧ Sim w γ z v := by
  simp only [evR] at he
  split at he
  · rename_i v hv
    cases he
    exact slicev_run (lo := some lo) (hi := some hi) (mx := none) ht hok hf hx hv
  · generalize X.ev fr = XX at *
    cases XX <;> try (cases he; done)
    rename_i id sz off len
    dsimp only at he
    obtain ⟨e, hen, hq⟩ := Option.bind_eq_some_iff.1 he
    clear he
    split at hq
    case isFalse => cases hq
    rename_i hc
    obtain ⟨hsz, rfl⟩ := hc
    obtain ⟨hn, h1, hq⟩ := Option.bind_eq_some_iff.1 hq
    obtain ⟨ln, h2, hq⟩ := Option.map_eq_some_iff.1 hq
    subst hq
    have hxx : ∃ A cap, x = .slice A len cap ∧ e.es.length ≤ cap := by
      cases hx with
      | vec _ _ _ _ A cap ge hm hz hl hcC hN hA =>
        obtain ⟨ge', hm', hok'⟩ := hh.ok id e hen
        rw [hm] at hm'; cases hm'
        refine ⟨A, cap, rfl, ?_⟩
        by_cases h0 : e.es = []
        · rw [h0]; exact Nat.zero_le _
        · rcases (hok'.live (.inr h0)).2 with ⟨_, h2, _⟩ | ⟨g', cs, fz, _, _, _, _, h6, _⟩
          · exact absurd h2 h0
          · omega
    obtain ⟨A, cap, rfl, hcap⟩ := hxx
    have h1' := bound_le (cx_sim hf hi) h1 hcap .sliceAcap (P := P)
    have h2' := bound_le (cx_sim hf lo) h2 (Nat.le_refl _) .sliceB (P := P)
    have e' : (Instr.sliceBounds true len cap (some (a.eval lo)) (some (a.eval hi)) none).run P w = .ok (ln, hn, cap) w := by
      unfold Instr.sliceBounds
      simp [h2'.1, h1'.1]
    refine ⟨.slice (if cap = ln then A else A.map (·.add (ln * P.cellsOf el))) (hn - ln) (cap - ln), ?_, ?_⟩
    · simp [Instr.sliceAt, Instr.slice, run_underlying ht, e', run_sizeOf hok]
    · rw [hsz]; exact vec_cut0 hx h2'.2 (by omega)
theorem b2s_run (hh : HRel γ H w) {s d e : TypeId} (hs : P.underlying s = some (.slice e)) (hu : P.underlying e = some (.int .u8)) (hd : P.underlying d = some .string) {X : AX} {x : Value} {z : AV} (hx : Sim w γ (X.ev fr) x)
    (h : evR fr H (.b2s X) = some z) : ∃ v, (convert s d x).run P w = .ok v w ∧ Sim w γ z v := by
  have main : ∀ (es : List AV) (XX : AV), Sim w γ XX x → elems H XX = some es → (∃ id off len, XX = .vec id 1 off len) ∨ (∃ sz full, XX = .sl sz es full ∧ (sz = 1 ∨ es = [])) → (toBytes es).map .str = some z → ∃ v, (convert s d x).run P w = .ok v w ∧ Sim w γ z v := by
    intro es XX hx he hsz h
    obtain ⟨l, hl, rfl⟩ := Option.map_eq_some_iff.1 h
    obtain ⟨ns, rfl, rfl⟩ := toBytes_map hl
    rcases elems_lies hh hx he with ⟨s, rfl, _⟩ | ⟨A, cap, rfl, hcap, hA⟩
    · rcases hsz with ⟨_, _, _, h⟩ | ⟨_, _, h, _⟩ <;> cases h
    · rw [run_convert_bytes_string w s d e A _ cap hs hu hd]
      rcases hA with h0 | ⟨sz, b, o, rfl, hlies, hX⟩
      · have : ns = [] := by simpa using h0
        subst this
        refine ⟨.string .empty, ?_, .str []⟩
        cases A with
        | none => rfl
        | some ad =>
          have := run_bytesToString (P := P) w ad 0 cap [] (by rfl)
          simpa using this
      · by_cases hnil : ns = []
        · subst hnil
          have := run_bytesToString (P := P) w ⟨b, o, none⟩ 0 cap [] (by rfl)
          exact ⟨.string .empty, by simpa using this, .str []⟩
        · have hsz1 : sz = 1 := by
            rcases hsz with ⟨id, off, len, rfl⟩ | ⟨sz', full, rfl, h1⟩
            · rcases hX with ⟨_, _, _, hX⟩ | ⟨_, hX⟩ <;> cases hX; rfl
            · rcases hX with ⟨_, _, _, hX⟩ | ⟨_, hX⟩ <;> cases hX
              rcases h1 with h1 | h1
              · exact h1
              · simp at h1; exact absurd h1 hnil
          subst hsz1
          have hld : (loadCells ⟨b, o, none⟩ (ns.map (AV.int .u8)).length).run P w = .ok (ns.map (Value.int .u8)).toArray w := by
            have := run_loadCells_list (P := P) w ⟨b, o, none⟩ (ns.map (Value.int .u8)) (fun j v hj => by
              rw [List.getElem?_map] at hj
              obtain ⟨n, hn, rfl⟩ := Option.map_eq_some_iff.1 hj
              obtain ⟨_, hl⟩ := hlies j (.int .u8 n) (by rw [List.getElem?_map, hn]; rfl)
              obtain ⟨u, hu, _, hs⟩ := hl 0 _ rfl
              rw [Addr.add_lit]
              cases int_inv hs
              simpa using hu)
            simpa using this
          have := run_bytesToString (P := P) w ⟨b, o, none⟩ _ cap ns hld
          refine ⟨_, this, ?_⟩
          rw [show ByteArray.empty = ⟨([] : List UInt8).toArray⟩ from rfl, foldl_push]
          exact .str _
  simp only [evR] at h
  generalize X.ev fr = XX at *
  cases XX <;> try (cases h; done)
  · rename_i sz es full
    dsimp only at h
    split at h
    · rename_i hsz
      exact main es _ hx rfl (.inr ⟨sz, full, rfl, hsz⟩) h
    · cases h
  · rename_i id sz off len
    dsimp only at h
    split at h
    · rename_i hsz
      subst hsz
      obtain ⟨es, he, h⟩ := Option.bind_eq_some_iff.1 h
      exact main es _ hx he (.inl ⟨id, off, len, rfl⟩) h
    · cases h
theorem evR_sound (hf : FrR w γ fr a.tmps) (hh : HRel γ H w) {o : Oper} {d : Bool} {r : Option Nat} {q : OpR} (hc : compOp P d r o = .r q) {x : AV} (hx : evR fr H q = some x) :
    ∃ v, (execOp a.eval o).run P w = .ok (.value v) w ∧ Sim w γ x v := by
  obtain ⟨dst, op, ty, pos, after, guard⟩ := o
  have S := fun y => cx_sim hf y (γ := γ)
  have lift : ∀ {s : Sem Value} {z : AV}, (∃ v, s.run P w = .ok v w ∧ Sim w γ z v) → ∃ v, (do pure (.value (← s)) : Sem Next).run P w = .ok (.value v) w ∧ Sim w γ z v := by
    rintro s z ⟨v, hv, hs⟩
    exact ⟨v, by simp [hv], hs⟩
  cases op with
  | load t y =>
    simp only [compOp] at hc
    split at hc
    · rename_i hok
      cases hc
      exact lift (load_run hh hok (S y) hx)
    · cases hc
  | slice t y lo hi mx =>
    simp only [compOp] at hc
    split at hc
    · split at hc <;> cases hc
    · rename_i e ht
      split at hc
      · rename_i hok
        split at hc
        · rename_i l h
          cases hc
          exact lift (cut_run hh hf ht hok (S y) hx)
        · cases hc
      · cases hc
    · cases hc
  | convert s d y =>
    simp only [compOp] at hc
    split at hc
    · cases hc
    · cases hc
    · rename_i e hs hd
      split at hc
      · rename_i hu
        cases hc
        have hu' : P.underlying e = some (.int .u8) := by
          unfold isU8 at hu
          split at hu
          · assumption
          · cases hu
        exact lift (b2s_run hh hs hu' hd (S y) hx)
      · cases hc
    · split at hc <;> cases hc
    · split at hc <;> cases hc
    · cases hc
  | call c =>
    obtain ⟨callee, args, ts⟩ := c
    cases callee with
    | value f => cases f <;> simp only [compOp] at hc <;> repeat' (first | (cases hc; done) | split at hc)
    | invoke => cases hc
    | builtin b =>
      simp only [compOp] at hc
      repeat' (first | (cases hc; done) | split at hc)
  | makeFunc fn first caps => cases fn <;> simp only [compOp] at hc <;> repeat' (first | (cases hc; done) | split at hc)
  | _ => first | (cases hc; done) | (simp only [compOp] at hc; repeat' (first | (cases hc; done) | split at hc))
end
end Go.Pv
