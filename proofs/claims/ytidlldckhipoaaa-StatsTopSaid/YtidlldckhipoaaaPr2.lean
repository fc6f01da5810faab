/- The proofs of what the functions of this seat do. -/
import Derived.Test.YtidlldckhipoaaaPr1
import Derived.Lib.Bytealg
import Derived.Lib.IndexLaws
import Derived.RegionTactic
import Derived.Shelf.Strings.Builder1
set_option linter.unusedSimpArgs false
set_option linter.unusedVariables false
namespace Go.Proofs
open Go.Pv Go.RowKit Go.Shelf Go.Pv.Hq
attribute [local go_sem] Oper.semAt_some
theorem owns_cut {w : World} {B g cap n : Nat} {e : TypeId} {s : Nat} {xs ys : List Value} (h : w.ownsRow B e s (.slice (some ⟨g, 0, none⟩) (n + 1) cap) (n + 1) (xs ++ ys)) (hx : xs.length = n * s) : w.ownsRow B e s (.slice (some ⟨g, 0, none⟩) n cap) n xs := by
  rcases h.2 with ⟨h', _⟩ | ⟨g', cap', cur, h', hb, hg, hnc, hcm, hcs, htake⟩
  · cases h'
  · cases h'
    refine ⟨hx, .inr ⟨g, cap, cur, rfl, hb, hg, by omega, hcm, hcs, ?_⟩⟩
    have : cur.toList.take (n * s) = (cur.toList.take ((n + 1) * s)).take (n * s) := by
      rw [List.take_take, Nat.min_eq_left (by rw [Nat.add_mul]; omega)]
    rw [this, htake, ← hx, List.take_left']
    rfl
set_option maxRecDepth 100000 in
set_option maxHeartbeats 1000000 in
theorem qpop_calls {B qb : Nat} {v : Value} (A : List (Cn × Int)) (x : Cn × Int) (hl : A.length ≤ 10000) (w : World) (hq : QV w B qb v (A ++ [x])) (hB : B ≤ w.heap.size) :
    Calls Try.prog 88 #[.pointer (some ⟨qb, 0, none⟩)] w fun e W =>
      e = .returned (.iface 56 (.agg #[.int .i64 x.1.p, .int .i64 x.1.f, .int .i64 x.1.b, .int .i64 x.1.s, .int .i64 x.1.e, .int .i64 x.2])) ∧ (∃ v', QV W B qb v' A ∧ v'.ownBlock = v.ownBlock) ∧ Below B w W ∧ ∀ k, k < w.heap.size → k ≠ qb → W.heap[k]? = w.heap[k]? := by
  have hrow := hq.row
  have e2 : (A ++ [x]).length = A.length + 1 := by simp
  rw [e2] at hrow
  obtain ⟨C, cap, rfl, hA⟩ := owns_at hrow
  obtain ⟨g, rfl, hBg, hg, _⟩ := hA 0 (by omega)
  have hlast : (A ++ [x])[A.length]! = x := by rw [getElem!_pos _ _ (by simp)]; simp
  have hc : ∀ m, m < 6 → w.cell? ⟨g, A.length * 6 + m, none⟩ = (ps x)[m]? := fun m hm => by
    obtain ⟨g', e, _, _, h⟩ := hA (A.length * 6 + m) (by omega)
    cases e; rw [h, ps_at _ _ (by simp) m hm, hlast]
  have hcap : A.length + 1 ≤ cap := by
    rcases hrow.2 with ⟨h, _⟩ | ⟨g', c', cur, h, _, _, h2, _⟩
    · cases h
    · cases h; exact h2
  have i0 := hc 0 (by omega)
  have i1 := hc 1 (by omega)
  have i2 := hc 2 (by omega)
  have i3 := hc 3 (by omega)
  have i4 := hc 4 (by omega)
  have i5 := hc 5 (by omega)
  simp only [ps,List.getElem?_cons_zero,List.getElem?_cons_succ,Nat.add_zero] at i0 i1 i2 i3 i4 i5
  have hcut := owns_cut (xs := A.flatMap ps) (ys := ps x) (n := A.length) (by simpa using hrow) (ps_len A)
  have hqc := hq.cell
  have hqf : w.frozen? ⟨qb, 0, none⟩ = false := by simp [World.frozen?, hq.box]
  have hne : g ≠ qb := by have := hq.ap; simpa [Value.ownBlock] using this
  have hqlt : qb < w.heap.size := (Array.getElem?_eq_some_iff.1 hq.box).1
  clear hc hA
  go_enter Try.func88, Try.ntmps88
  go_wp2
  go_region
  have hg1 : w.grownBy ((w.alloc (.cells #[.int .i64 x.1.p, .int .i64 x.1.f, .int .i64 x.1.b, .int .i64 x.1.s, .int .i64 x.1.e, .int .i64 x.2] 56)).drew) none := (World.grownBy_alloc w (.cells #[.int .i64 x.1.p, .int .i64 x.1.f, .int .i64 x.1.b, .int .i64 x.1.s, .int .i64 x.1.e, .int .i64 x.2] 56) none).trans ⟨rfl, rfl, rfl, by simp, fun k hk _ => rfl⟩
  have hg2 : w.grownBy ((w.alloc (.cells #[.int .i64 x.1.p, .int .i64 x.1.f, .int .i64 x.1.b, .int .i64 x.1.s, .int .i64 x.1.e, .int .i64 x.2] 56)).drew.drew) none := hg1.trans ⟨rfl, rfl, rfl, by simp, fun k hk _ => rfl⟩
  have hc1 := (hq.grown hg1).cell
  have hc2 := (hq.grown hg2).cell
  have hf1 : ((w.alloc (.cells #[.int .i64 x.1.p, .int .i64 x.1.f, .int .i64 x.1.b, .int .i64 x.1.s, .int .i64 x.1.e, .int .i64 x.2] 56)).drew).frozen? ⟨qb, 0, none⟩ = false := by simp [World.frozen?, (hq.grown hg1).box]
  have hf2 : ((w.alloc (.cells #[.int .i64 x.1.p, .int .i64 x.1.f, .int .i64 x.1.b, .int .i64 x.1.s, .int .i64 x.1.e, .int .i64 x.2] 56)).drew.drew).frozen? ⟨qb, 0, none⟩ = false := by simp [World.frozen?, (hq.grown hg2).box]
  go_wp2
  go_region
  go_wp2
  go_ret
  have hq3 : QV (w.setCell ⟨qb, 0, none⟩ (.slice (some ⟨g, 0, none⟩) A.length cap)) B qb (.slice (some ⟨g, 0, none⟩) A.length cap) A :=
    ⟨hq.base, set_box hq.box _, hcut.kept (set_grown w qb _) (.inr (by simpa [Value.ownBlock] using hne)), by simpa [Value.ownBlock] using hne⟩
  have hg3 : (w.setCell ⟨qb, 0, none⟩ (.slice (some ⟨g, 0, none⟩) A.length cap)).grownBy (((w.setCell ⟨qb, 0, none⟩ (.slice (some ⟨g, 0, none⟩) A.length cap)).alloc (.cells #[.int .i64 x.1.p, .int .i64 x.1.f, .int .i64 x.1.b, .int .i64 x.1.s, .int .i64 x.1.e, .int .i64 x.2] 56)).drew.drew) none :=
    (World.grownBy_alloc _ (.cells #[.int .i64 x.1.p, .int .i64 x.1.f, .int .i64 x.1.b, .int .i64 x.1.s, .int .i64 x.1.e, .int .i64 x.2] 56) none).trans ⟨rfl, rfl, rfl, by simp, fun k hk _ => rfl⟩
  exact ⟨rfl, ⟨_, hq3.grown hg3, rfl⟩, (grown_below (set_grown w qb _) (fun b h => by cases h; exact hq.base) hB).trans (grown_below hg3 (fun b h => by cases h) (by simpa using hB)),
    fun k hk hne' => (hg3.block k (by simpa using hk) (by simp)).trans ((set_grown w qb _).block k hk (by simpa using hne'))⟩
set_option maxRecDepth 100000 in
theorem qlen_calls {B : Nat} {v : Value} (L : List (Cn × Int)) (w : World) (hr : w.ownsRow B 56 6 v L.length (L.flatMap ps)) (hl : L.length ≤ 100000) : Calls Try.prog 23 #[v] w fun e W => e = .returned (.int .i64 L.length) ∧ W = w := by
  obtain ⟨A, cap, rfl, _⟩ := owns_at hr
  have hln : (Builtin.len_ #[53] 3 #[.slice A L.length cap]).run Try.prog w = .ok (.int .i64 L.length) w := by simp [Builtin.len_, run_underlying Try.underlying53, goInt, Result.andThen]
  go_enter Try.func23, Try.ntmps23
  go_wp2
  first | rw [hln] | skip
  go_wp2
  go_ret
  exact ⟨rfl, rfl⟩
theorem up_callsI {B qb : Nat} {v : Value} (L : List (Cn × Int)) (I : Int) (j : Nat) (hI : I = j) (hj : j < L.length) (hl : L.length ≤ 100000) (w : World) (hq : QV w B qb v L) (hu : UpOk less L j) :
    Calls Try.prog 37 #[qif qb, .int .i64 I] w fun e W => (∃ u, e = .returned u) ∧ ∃ L' : List (Cn × Int), L'.Perm L ∧ Heap less L' ∧ QV W B qb v L' ∧ w.grownBy W v.ownBlock := by
  subst hI
  exact up_calls L j hj hl w hq hu
theorem down_callsI {B qb : Nat} {v : Value} (A : List (Cn × Int)) (x : Cn × Int) (I : Int) (hI : I = A.length) (hl : A.length ≤ 10000) (w : World) (hq : QV w B qb v (A ++ [x])) (hu : DownOk less A 0) :
    Calls Try.prog 38 #[qif qb, .int .i64 0, .int .i64 I] w fun e W => (∃ u, e = .returned u) ∧ ∃ A' : List (Cn × Int), A'.Perm A ∧ Heap less A' ∧ QV W B qb v (A' ++ [x]) ∧ w.grownBy W v.ownBlock := by
  subst hI
  exact down_calls A x hl w hq hu
set_option maxRecDepth 100000 in
set_option maxHeartbeats 1000000 in
theorem hpush_calls {B qb : Nat} {v : Value} (L : List (Cn × Int)) (y : Cn × Int) (hl : L.length ≤ 9000) (w : World) (hq : QV w B qb v L) (hh : Heap less L) (hB : B ≤ w.heap.size) :
    Calls Try.prog 22 #[qif qb, .iface 56 (.agg #[.int .i64 y.1.p, .int .i64 y.1.f, .int .i64 y.1.b, .int .i64 y.1.s, .int .i64 y.1.e, .int .i64 y.2])] w fun e W =>
      (∃ u, e = .returned u) ∧ (∃ v' L', L'.Perm (L ++ [y]) ∧ Heap less L' ∧ QV W B qb v' L') ∧ Below B w W := by
  have hmp := meth_ptr "Push" 89 mPush 237 (.pointer (some ⟨qb, 0, none⟩)) w
  have hly : (L ++ [y]).length = L.length + 1 := by simp
  go_enter Try.func22, Try.ntmps22
  go_wp2_with (first
    | (go_at_call 89; refine (push_calls L y (by omega) _ hq hB).mono ?_; rintro e W1 ⟨⟨u, rfl⟩, ⟨v1, hq1⟩, hB1⟩; have hml := meth_val "Len" 23 mLen 237 qb v1 W1 hq1.cell)
    | (go_at_call 23; refine (qlen_calls _ _ hq1.row (by rw [hly]; omega)).mono ?_; rintro e W1' ⟨rfl, hW⟩; subst hW)
    | (go_at_call 37; refine (up_callsI (L ++ [y]) _ L.length (by first | omega | (simp only [hly]; omega) | simp) (by simp) (by simp; omega) _ hq1 (up_push hh y)).mono ?_; rintro e W2 ⟨⟨u, rfl⟩, L', hp, hh', hq2, hg2⟩))
  refine bodyPost_end (results_none rfl _ _ _) rfl ?_
  exact ⟨⟨_, rfl⟩, ⟨_, L', hp, hh', hq2⟩, hB1.trans (grown_below hg2 (fun b h => (hq1.row.lt b h).1) (Nat.le_trans hB hB1.size))⟩
set_option maxRecDepth 100000 in
set_option maxHeartbeats 1000000 in
theorem hpop_calls {B qb : Nat} {v : Value} (L : List (Cn × Int)) (hne : L ≠ []) (hl : L.length ≤ 9000) (w : World) (hq : QV w B qb v L) (hh : Heap less L) (hB : B ≤ w.heap.size) :
    Calls Try.prog 24 #[qif qb] w fun e W => ∃ x : Cn × Int, e = .returned (.iface 56 (.agg #[.int .i64 x.1.p, .int .i64 x.1.f, .int .i64 x.1.b, .int .i64 x.1.s, .int .i64 x.1.e, .int .i64 x.2])) ∧
      (∃ v' L', (x :: L').Perm L ∧ (∀ y ∈ L', less y x = false) ∧ Heap less L' ∧ QV W B qb v' L' ∧ v'.ownBlock = v.ownBlock) ∧ Below B w W ∧ w.heap.size ≤ W.heap.size ∧ ∀ k, k < w.heap.size → k ≠ qb → some k ≠ v.ownBlock → W.heap[k]? = w.heap[k]? := by
  obtain ⟨A, z, rfl⟩ : ∃ A z, L = A ++ [z] := ⟨L.dropLast, L.getLast hne, (List.dropLast_concat_getLast hne).symm⟩
  have hly : (A ++ [z]).length = A.length + 1 := by simp
  rw [hly] at hl
  have hml := meth_val "Len" 23 mLen 237 qb v w hq.cell
  have hms := meth_val "Swap" 90 mSwap 237 qb v w hq.cell
  -- what lies behind the exchange
  obtain ⟨A2, x, hsw, hd, hpx, hmin⟩ : ∃ (A2 : List (Cn × Int)) (x : Cn × Int), swq (A ++ [z]) 0 A.length = A2 ++ [x] ∧ DownOk less A2 0 ∧ (x :: A2).Perm (A ++ [z]) ∧ ∀ y ∈ A2, less y x = false := by
    have h0 : 0 < (A ++ [z]).length := by rw [hly]; omega
    have hperm := swq_perm (l := A ++ [z]) (i := 0) (j := A.length) h0 (by rw [hly]; omega)
    have htop := heap_top less_ord hh
    have hall : ∀ y ∈ A ++ [z], less y (A ++ [z])[0]! = false := fun y hy => by
      obtain ⟨k, hk, rfl⟩ := List.mem_iff_getElem.1 hy
      have := htop k hk
      rwa [getElem!_pos _ k hk] at this
    by_cases hA : A = []
    · subst hA
      refine ⟨[], z, rfl, ⟨fun k _ hk => absurd hk (by simp), fun k _ hk => absurd hk (by simp)⟩, .refl _, fun y hy => by cases hy⟩
    · have e := pop_swq (x := z) hA
      refine ⟨A.set 0 z, A[0]!, e, pop_down hh hA, ?_, fun y hy => ?_⟩
      · rw [e] at hperm
        exact List.perm_append_comm.trans hperm |>.symm.symm
      · have hm : y ∈ A ++ [z] := hperm.subset (by rw [e]; exact List.mem_append_left _ hy)
        have h1 := hall y hm
        rwa [app_get (List.length_pos_iff.2 hA)] at h1
  have hl2 : A2.length = A.length := by have := hpx.length_eq; simp at this; omega
  go_enter Try.func24, Try.ntmps24
  go_wp2_with (first
    | (go_at_call 23; refine (qlen_calls _ _ hq.row (by rw [hly]; omega)).mono ?_; rintro e W1' ⟨rfl, hW⟩; subst hW)
    | (go_at_call 90; refine (swap_callsI (A ++ [z]) _ _ 0 A.length (by omega) (by first | omega | (simp only [hly]; omega) | simp) (by rw [hly]; omega) (by rw [hly]; omega) (by rw [hly]; omega) _ hq.row).mono ?_; rintro e W1 ⟨⟨u, rfl⟩, hr1, hg1, hs1⟩; rw [hsw] at hr1; have hq1 := hq.turn hr1 (by simp [hl2]) hg1)
    | (go_at_call 38; refine (down_callsI A2 x _ (by first | omega | (simp only [hly]; omega) | (simp; omega)) (by omega) _ hq1 hd).mono ?_; rintro e W2 ⟨⟨u, rfl⟩, A3, hp3, hh3, hq3, hg3⟩; have hmp := meth_ptr "Pop" 88 mPop 237 (.pointer (some ⟨qb, 0, none⟩)) W2)
    | (go_at_call 88; refine (qpop_calls A3 x (by have := hp3.length_eq; omega) _ hq3 (Nat.le_trans hB (Nat.le_trans hg1.size hg3.size))).mono ?_; rintro e W3 ⟨rfl, ⟨v4, hq4, hv4⟩, hB4, hk4⟩))
  go_ret
  refine ⟨x, rfl, ⟨v4, A3, (hp3.cons x).trans hpx, fun y hy => hmin y (hp3.subset hy), hh3, hq4, hv4⟩, ?_, Nat.le_trans hg1.size (Nat.le_trans hg3.size hB4.size), fun k hk h1 h2 => (hk4 k (Nat.lt_of_lt_of_le hk (Nat.le_trans hg1.size hg3.size)) h1).trans ((hg3.block k (Nat.lt_of_lt_of_le hk hg1.size) h2).trans (hg1.block k hk h2))⟩
  exact (grown_below hg1 (fun b h => (hq.row.lt b h).1) hB).trans ((grown_below hg3 (fun b h => (hq.row.lt b h).1) (Nat.le_trans hB hg1.size)).trans hB4)
end Go.Proofs
/-
  The greatest counts: what a heap hands out is what a list that is sorted begins with. (No program in sight.)
-/
namespace Go.Pv.Hq
def pl (l : List Cn) : List (Cn × Int) := l.zipIdx.map fun p => (p.1, (p.2 : Int))
theorem pl_len (l : List Cn) : (pl l).length = l.length := by simp [pl]
theorem pl_get (l : List Cn) (k : Nat) (hk : k < l.length) : (pl l)[k]! = (l[k]!, (k : Int)) := by
  rw [getElem!_pos (pl l) k (by rw [pl_len]; exact hk), getElem!_pos l k hk]
  simp [pl]
theorem pl_take (l : List Cn) (k : Nat) (hk : k < l.length) : (pl l).take (k + 1) = (pl l).take k ++ [(l[k]!, (k : Int))] := by
  rw [List.take_succ_eq_append_getElem (by rw [pl_len]; exact hk), ← getElem!_pos (pl l) k (by rw [pl_len]; exact hk), pl_get l k hk]
theorem pl_fst (l : List Cn) : (pl l).map (·.1) = l := by
  simp [pl, Function.comp_def, List.zipIdx_map_fst]
theorem pl_nodup (l : List Cn) : (pl l).Pairwise fun x y => x.2 ≠ y.2 := by
  rw [List.pairwise_iff_getElem]
  intro i j hi hj hij
  have h1 := pl_get l i (by rw [← pl_len]; exact hi)
  have h2 := pl_get l j (by rw [← pl_len]; exact hj)
  rw [getElem!_pos (pl l) i hi] at h1
  rw [getElem!_pos (pl l) j hj] at h2
  rw [h1, h2]
  simp only; omega
theorem apart {X Y : List (Cn × Int)} (hp : X.Perm Y) (h : Y.Pairwise fun x y => x.2 ≠ y.2) : X.Pairwise fun x y => x.2 ≠ y.2 := (hp.pairwise_iff (fun {_ _} h => Ne.symm h)).2 h
def sortP (l : List Cn) : List (Cn × Int) := (pl l).mergeSort fun x y => !less y x
theorem sortP_perm (l : List Cn) : (sortP l).Perm (pl l) := List.mergeSort_perm _ _
theorem sortP_sorted (l : List Cn) : (sortP l).Pairwise fun x y => less x y = true := by
  have h1 : (sortP l).Pairwise fun x y => (!less y x) = true := List.pairwise_mergeSort (fun a b c h1 h2 => by
      simp only [Bool.not_eq_true'] at *
      exact less_ord.tr _ _ _ h2 h1) (fun a b => by
      cases h : less b a with
      | false => simp
      | true => simp [less_ord.asy _ _ h]) (pl l)
  have h2 := apart (sortP_perm l) (pl_nodup l)
  exact (h1.and h2).imp fun ⟨a, b⟩ => less_tot b (by simpa using a)
theorem sorted_take : ∀ (R L O : List (Cn × Int)), O.Pairwise (fun x y => less x y = true) → (R ++ L).Perm O → R.Pairwise (fun x y => less x y = true) → (∀ x ∈ R, ∀ y ∈ L, less x y = true) → R = O.take R.length
  | [], _, _, _, _, _, _ => by simp
  | r :: R, L, O, hO, hp, hR, hx => by
    obtain ⟨h1, h2⟩ := List.pairwise_cons.1 hR
    cases O with
    | nil => simpa using hp.length_eq
    | cons o O =>
      obtain ⟨g1, g2⟩ := List.pairwise_cons.1 hO
      have e : r = o := by
        have hr : r ∈ o :: O := hp.subset (by simp)
        rcases List.mem_cons.1 hr with h | h
        · exact h
        · have ho : o ∈ r :: R ++ L := hp.symm.subset (by simp)
          have hor := g1 r h
          rcases List.mem_cons.1 ho with h' | h'
          · exact h'.symm
          · have hro : less r o = true := by
              rcases List.mem_append.1 h' with h' | h'
              · exact h1 o h'
              · exact hx r (by simp) o h'
            have := less_ord.asy _ _ hro
            rw [hor] at this; cases this
      subst e
      have hp' : (R ++ L).Perm O := by simpa using hp
      rw [List.length_cons, List.take_succ_cons, ← sorted_take R L O g2 hp' h2 (fun x hx' => hx x (List.mem_cons_of_mem _ hx'))]
def topS (l : List Cn) (many : Int) : List Cn := ((sortP l).take many.toNat).map (·.1)
structure TopOk (l : List Cn) (R L : List (Cn × Int)) : Prop where
  perm : (R ++ L).Perm (pl l)
  sor : R.Pairwise fun x y => less x y = true
  low : ∀ x ∈ R, ∀ y ∈ L, less x y = true
theorem TopOk.start {l : List Cn} {L : List (Cn × Int)} (h : L.Perm (pl l)) : TopOk l [] L := ⟨by simpa using h, .nil, fun x hx => by cases hx⟩
theorem TopOk.step {l : List Cn} {R L L' : List (Cn × Int)} {x : Cn × Int} (h : TopOk l R L) (hp : (x :: L').Perm L) (hm : ∀ y ∈ L', less y x = false) : TopOk l (R ++ [x]) L' := by
  have hp2 : (R ++ [x] ++ L').Perm (R ++ L) := by
    rw [List.append_assoc]
    exact (List.Perm.refl R).append hp
  have hn := apart (hp2.trans h.perm) (pl_nodup l)
  have hx : x ∈ L := hp.subset (by simp)
  refine ⟨hp2.trans h.perm, ?_, fun y hy z hz => ?_⟩
  · rw [List.pairwise_append]
    exact ⟨h.sor, by simp, fun a ha b hb => by
      rw [List.mem_singleton.1 hb]; exact h.low a ha x hx⟩
  · rcases List.mem_append.1 hy with hy | hy
    · exact h.low y hy z (hp.subset (List.mem_cons_of_mem _ hz))
    · rw [List.mem_singleton.1 hy]
      refine less_tot ?_ (hm z hz)
      exact (List.pairwise_append.1 hn).2.2 x (by simp) z hz
theorem TopOk.done {l : List Cn} {R L : List (Cn × Int)} (h : TopOk l R L) {many : Int} (hb : R.length ≤ many.toNat) (he : L = [] ∨ many ≤ R.length) : R.map (·.1) = topS l many := by
  have ht := sorted_take R L (sortP l) (sortP_sorted l) (h.perm.trans (sortP_perm l).symm) h.sor h.low
  unfold topS
  have hlen := h.perm.length_eq
  have hsl := (sortP_perm l).length_eq
  rw [List.length_append] at hlen
  rcases he with rfl | he
  · have e : R = sortP l := by
      rw [ht, List.take_of_length_le]
      simp at hlen; omega
    rw [← e, List.take_of_length_le hb]
  · have : R.length = many.toNat := by omega
    rw [← this, ← ht]
end Go.Pv.Hq
set_option linter.unusedSimpArgs false
set_option linter.unusedVariables false
namespace Go.Proofs
open Go.Pv Go.RowKit Go.Shelf Go.Pv.Hq
attribute [local go_sem] Oper.semAt_some
theorem QV.kept {w w' : World} {B qb : Nat} {v : Value} {L : List (Cn × Int)} {r : Option Nat} (h : QV w B qb v L) (hg : w.grownBy w' r) (h1 : r ≠ some qb) (h2 : v.ownBlock = none ∨ v.ownBlock ≠ r) : QV w' B qb v L := by
  have hlt : qb < w.heap.size := (Array.getElem?_eq_some_iff.1 h.box).1
  exact ⟨h.base, (hg.block qb hlt (fun e => h1 e.symm)).trans h.box, h.row.kept hg h2, h.ap⟩
theorem owns_keep {w W : World} {B : Nat} {e : TypeId} {s : Nat} {v : Value} {n : Nat} {xs : List Value} (h : w.ownsRow B e s v n xs) (hk : ∀ k, B ≤ k → k < w.heap.size → W.heap[k]? = w.heap[k]?) : W.ownsRow B e s v n xs := by
  obtain ⟨h0, h1 | ⟨g, cap, cur, h1, h2, h3, r⟩⟩ := h
  · exact ⟨h0, .inl h1⟩
  · exact ⟨h0, .inr ⟨g, cap, cur, h1, h2, (hk g h2 (Array.getElem?_eq_some_iff.1 h3).1).trans h3, r⟩⟩
theorem cs_new2 (W : World) (x : Cn × Int) : ∀ j u, (cs x.1)[j]? = some u →
    ((W.alloc (.cells #[.int .i64 x.1.p, .int .i64 x.1.f, .int .i64 x.1.b, .int .i64 x.1.s, .int .i64 x.1.e, .int .i64 x.2] 56)).alloc (.cells #[.int .i64 x.1.p, .int .i64 x.1.f, .int .i64 x.1.b, .int .i64 x.1.s, .int .i64 x.1.e] 27)).cell? ((⟨W.heap.size + 1, 0, none⟩ : Addr).add j) = some u := by
  have h := cs_new (W.alloc (.cells #[.int .i64 x.1.p, .int .i64 x.1.f, .int .i64 x.1.b, .int .i64 x.1.s, .int .i64 x.1.e, .int .i64 x.2] 56)) x.1 27
  rw [World.size_alloc] at h
  exact h
def slen : Value → Nat
  | .slice _ n _ => n
  | _ => 0
set_option maxRecDepth 100000 in
set_option maxHeartbeats 4000000 in
theorem top_calls (l : List Cn) (many : Int) (hl : l.length ≤ 8000) (hm : -9223372036854775808 ≤ many ∧ many ≤ 9223372036854775807) (A : Option Addr) (ca : Nat) (w : World) (hA : CnAt w A l) :
    Calls Try.prog 8 #[.slice A l.length ca, .int .i64 many] w fun e W => ∃ v, e = .returned v ∧ W.ownsRow w.heap.size 27 5 v (topS l many).length ((topS l many).flatMap cs) ∧ Below w.heap.size w W := by
  have hta : ∀ (x : Value) (W : World), (Instr.typeAssert (.iface 56 x) 20 56 true).run Try.prog W = .ok (.tuple #[x, .bool true]) W := fun x W => by
    simp [Instr.typeAssert, run_underlying Try.underlying56]
  refine (callsIn_wide (n := 6)).1 ?_
  refine callsIn_of_wp Try.func8 rfl trivial ?_ rfl
  simp only [Try.ntmps8,List.size_toArray,List.length_cons,List.length_nil,Nat.reduceAdd,Nat.reduceSub,Array.replicate_succ,Array.replicate_zero,List.push_toArray,List.append_toArray,List.nil_append,List.cons_append]
  obtain ⟨i0, hi, hz0, hz1, hz2⟩ := info27
  have hln : ∀ W, (Builtin.len_ #[22] 3 #[.slice A l.length ca]).run Try.prog W = .ok (.int .i64 l.length) W := fun W => by simp [Builtin.len_, run_underlying Try.underlying22, goInt, Result.andThen]
  gi_wp2
  first | rw [hln] | skip
  gi_wp2
  have hq0 : QV ((w.alloc (.cells #[] 56)).alloc (.cells #[.slice (some ⟨w.heap.size, 0, none⟩) 0 0] 53)) w.heap.size (w.heap.size + 1) (.slice (some ⟨w.heap.size, 0, none⟩) 0 0) [] := by
    have h1 := World.alloc_heap_new (w.alloc (.cells #[] 56)) (.cells #[.slice (some ⟨w.heap.size, 0, none⟩) 0 0] 53)
    rw [World.size_alloc] at h1
    exact ⟨by omega, h1, (World.ownsRow_made (e := 56) (size := 6) w #[] 0 (Nat.le_refl _) (by unfold maxLen; omega) rfl).alloc _, by simp [Value.ownBlock]⟩
  have hB0 : Below w.heap.size w ((w.alloc (.cells #[] 56)).alloc (.cells #[.slice (some ⟨w.heap.size, 0, none⟩) 0 0] 53)) := ((Below.refl _ w).alloc (Nat.le_refl _) _).alloc (by simp) _
  gi_loopw [15] (fun i wr => ∃ (k : Nat) (v : Value) (L : List (Cn × Int)), i = .int .i64 k ∧ k ≤ l.length ∧ QV wr w.heap.size (w.heap.size + 1) v L ∧ Heap less L ∧ L.Perm ((pl l).take k) ∧ Below w.heap.size w wr) (fun i _ => l.length - (intOf i).toNat)
  case atStart => exact ⟨0, _, [], rfl, Nat.zero_le _, hq0, fun k _ hk => absurd hk (by simp), by simp, hB0⟩
  case round =>
    rename_i Q1 K1 hK
    obtain ⟨k, v, L, rfl, hk, hq, hh, hp, hB⟩ := hrel
    have hz := hB.size
    have hLk : L.length = k := by have := hp.length_eq; rw [List.length_take, pl_len] at this; omega
    by_cases hx : k < l.length
    · obtain ⟨bk, o, rfl, hbk, hcell⟩ := hA (by omega)
      obtain ⟨d0, d1, d2, d3, d4⟩ := css_at l k hx
      have hck : ∀ j u, (l.flatMap cs)[k * 5 + j]? = some u → wr.cell? ⟨bk, o + k * 5 + j, none⟩ = some u := fun j u hu => by rw [Nat.add_assoc]; exact (hB.cell (p := ⟨bk, o + (k * 5 + j), none⟩) hbk).trans (hcell _ u hu)
      have h0 := hck 0 _ d0
      have h1 := hck 1 _ d1
      have h2 := hck 2 _ d2
      have h3 := hck 3 _ d3
      have h4 := hck 4 _ d4
      simp only [Nat.add_zero] at h0
      have hpt := pl_take l k hx
      clear hck hcell d0 d1 d2 d3 d4
      generalize l[k]! = c at *
      have hga := World.grownBy_alloc wr (.cells #[.int .i64 c.p, .int .i64 c.f, .int .i64 c.b, .int .i64 c.s, .int .i64 c.e] 27) none
      have hqa := hq.grown hga
      gi_wp2_with (refine ⟨trivial, ?_⟩; gi_at_call 22; refine (callsIn_wide.2 (hpush_calls L (c, (k : Int)) (by omega) _ hqa hh (by simp; omega))).mono ?_; rintro e W5 ⟨⟨u, rfl⟩, ⟨v5, L5, hp5, hh5, hq5⟩, hB5⟩)
      exact ⟨⟨k + 1, v5, L5, by go_num, hx, hq5, hh5, by rw [hpt]; exact hp5.trans (hp.append_right _), (hB.alloc hz _).trans hB5⟩, by simp [intOf]; omega⟩
    · obtain rfl : k = l.length := by omega
      have hpl : L.Perm (pl l) := by rw [List.take_of_length_le (by rw [pl_len]; exact Nat.le_refl _)] at hp; exact hp
      gi_wp2
      have hqlt : w.heap.size + 1 < wr.heap.size := (Array.getElem?_eq_some_iff.1 hq.box).1
      have hvlt : ∀ g, v.ownBlock = some g → g < wr.heap.size := fun g hg => (hq.row.lt g hg).2
      obtain ⟨B2, hB2⟩ : ∃ B2, B2 = wr.heap.size := ⟨_, rfl⟩
      rw [← hB2] at hqlt hvlt hz
      have hrow0 : wr.ownsRow B2 27 5 (.slice none 0 0) 0 [] := World.ownsRow_nil _ _ _ _
      gi_loopw [8] (fun v8 w2 => ∃ (v : Value) (R L : List (Cn × Int)) (A8 : Option Addr) (c8 : Nat), v8 = .slice A8 R.length c8 ∧ QV w2 w.heap.size (w.heap.size + 1) v L ∧ Heap less L ∧ TopOk l R L ∧ R.length ≤ many.toNat ∧ w2.ownsRow B2 27 5 v8 R.length ((R.map (·.1)).flatMap cs) ∧
        (∀ g, v.ownBlock = some g → g < B2) ∧ B2 ≤ w2.heap.size ∧ Below w.heap.size w w2) (fun v8 _ => l.length - slen v8)
      case atStart => exact ⟨v, [], L, none, 0, rfl, hq, hh, TopOk.start hpl, Nat.zero_le _, hrow0, hvlt, by rw [hB2]; exact Nat.le_refl _, hB⟩
      case round =>
        rename_i Q2 K2 hK2
        clear hrow0 hvlt hq hh hpl hp hB hq0 hB0 hB2
        obtain ⟨v, R, L, A8, c8, rfl, hq, hh, ht, hRm, hrow, hvlt, hw2, hB⟩ := hrel
        have hc := hq.cell
        have hlen := ht.perm.length_eq
        rw [List.length_append, pl_len] at hlen
        have hl8 : ∀ W, (Builtin.len_ #[22] 3 #[.slice A8 R.length c8]).run Try.prog W = .ok (.int .i64 R.length) W := fun W => by simp [Builtin.len_, run_underlying Try.underlying22, goInt, Result.andThen]
        by_cases hL : 0 < L.length
        · by_cases hR : (R.length : Int) < many
          · gi_wp2_with (first
              | (refine ⟨trivial, ?_⟩; gi_at_call 23; refine (callsIn_wide.2 (qlen_calls L _ hq.row (by omega))).mono ?_; rintro e W1 ⟨rfl, hW⟩; subst hW)
              | (refine ⟨trivial, ?_⟩; gi_at_call 24; refine (callsIn_wide.2 (hpop_calls L (by rintro rfl; exact absurd hL (by simp)) (by omega) _ hq hh (by omega))).mono ?_; rintro e W5 ⟨x, rfl, ⟨v5, L5, hp5, hm5, hh5, hq5, hv5⟩, hB5, hs5, hk5⟩; have hrow5 := owns_keep (W := W5) hrow (fun k h1 h2 => hk5 k h2 (by omega) (fun e => by have := hvlt k e.symm; omega)))
              | (gi_at_builtin; refine wpListIn_append_own _ rfl _ _ 22 rfl B2 27 i0 _ 5 40 Try.underlying22 hi hz0 hz1 hz2 rfl (by decide) _ R.length _ rfl ((hrow5.alloc (.cells #[.int .i64 x.1.p, .int .i64 x.1.f, .int .i64 x.1.b, .int .i64 x.1.s, .int .i64 x.1.e, .int .i64 x.2] 56)).alloc (.cells #[.int .i64 x.1.p, .int .i64 x.1.f, .int .i64 x.1.b, .int .i64 x.1.s, .int .i64 x.1.e] 27)) ⟨W5.heap.size + 1, 0, none⟩ 1 1 (cs x.1) rfl rfl (cs_new2 W5 x) (cs_one x.1) (by unfold maxLen; omega) (by omega) (by simp; omega) ?_; intro v' w6 hown6 hgrow6 hnil6))
            have hl5 : (R ++ [x]).length = R.length + 1 := by simp
            have e6 : ((R ++ [x]).map (·.1)).flatMap cs = (R.map (·.1)).flatMap cs ++ cs x.1 := by simp
            have hga := (World.grownBy_alloc W5 (.cells #[.int .i64 x.1.p, .int .i64 x.1.f, .int .i64 x.1.b, .int .i64 x.1.s, .int .i64 x.1.e, .int .i64 x.2] 56) none).trans (World.grownBy_alloc _ (.cells #[.int .i64 x.1.p, .int .i64 x.1.f, .int .i64 x.1.b, .int .i64 x.1.s, .int .i64 x.1.e] 27) none)
            have hr8 : ∀ g, (Value.slice A8 R.length c8).ownBlock = some g → B2 ≤ g := fun g h => (hrow.lt g h).1
            have hq6 := (hq5.grown hga).kept hgrow6 (fun e => by have := hr8 _ e; omega) (by
              cases h : v5.ownBlock with
              | none => exact .inl rfl
              | some g => exact .inr (fun e => by have h1 := hr8 g e.symm; have h2 := hvlt g (by rw [← hv5]; exact h); omega))
            obtain ⟨A9, c9, rfl, _⟩ := owns_at hown6
            rw [← e6] at hown6
            refine ⟨⟨v5, R ++ [x], L5, A9, c9, by rw [hl5], hq6, hh5, ht.step hp5 hm5, by rw [hl5]; omega, by rw [hl5]; exact hown6, fun g hg => hvlt g (by rw [← hv5]; exact hg), Nat.le_trans hw2 (Nat.le_trans hs5 (Nat.le_trans hga.size hgrow6.size)), ?_⟩, ?_⟩
            rotate_left
            · have := hp5.length_eq
              simp only [List.length_cons] at this
              show l.length - (R.length + 1) < l.length - R.length
              omega
            exact hB.trans (hB5.trans ((grown_below hga (fun b h => by cases h) (Nat.le_trans (Nat.le_trans hz hw2) hs5)).trans (grown_below hgrow6 (fun b h => Nat.le_trans hz (hr8 b h)) (Nat.le_trans (Nat.le_trans (Nat.le_trans hz hw2) hs5) hga.size))))
          · gi_wp2_with (refine ⟨trivial, ?_⟩; gi_at_call 23; refine (callsIn_wide.2 (qlen_calls L _ hq.row (by omega))).mono ?_; rintro e W1 ⟨rfl, hW⟩; subst hW)
            go_ret
            have hd := ht.done hRm (.inr (by omega))
            exact ⟨_, rfl, by rw [← hd, List.length_map]; exact ownsRow_base_a hrow hz, hB⟩
        · have hL0 : L = [] := List.eq_nil_of_length_eq_zero (by omega)
          gi_wp2_with (refine ⟨trivial, ?_⟩; gi_at_call 23; refine (callsIn_wide.2 (qlen_calls L _ hq.row (by omega))).mono ?_; rintro e W1 ⟨rfl, hW⟩; subst hW)
          go_ret
          have hd := ht.done hRm (.inl hL0)
          exact ⟨_, rfl, by rw [← hd, List.length_map]; exact ownsRow_base_a hrow hz, hB⟩
end Go.Proofs
/- The library's strings.Builder at this seat's program: its contracts, laid. (Printed by a program of ours.) -/
namespace Go.Proofs
open Go.Shelf
def Try.renT (n : Nat) : Nat :=
  if n = 0 then 0 else if n = 3 then 3 else if n = 4 then 4 else if n = 5 then 5 else if n = 9 then 9 else if n = 20 then 20 else if n = 37 then 45 else if n = 70 then 71 else if n = 72 then 73 else if n = 75 then 75 else if n = 76 then 76 else if n = 80 then 79 else if n = 127 then 97 else if n = 164 then 102 else 0
def Try.renF (n : Nat) : Nat :=
  if n = 166 then 33 else if n = 169 then 35 else if n = 240 then 44 else if n = 276 then 49 else 0
def Try.ren : Ren := ⟨Try.renF, Try.renT, fun n => n⟩
theorem Try.lays166 : Lays.n166 Try.prog Try.ren where
  mixed := Try.mixed
  f166 := by kernel_rfl
  f240 := by kernel_rfl
  f276 := by kernel_rfl
  t0 := Try.underlying0
  a0 := Try.isAgg0
  z0 := Try.sizeOf0
  v0 := Try.zeroValue0
  t3 := Try.underlying3
  a3 := Try.isAgg3
  z3 := Try.sizeOf3
  v3 := Try.zeroValue3
  t4 := Try.underlying4
  a4 := Try.isAgg4
  z4 := Try.sizeOf4
  v4 := Try.zeroValue4
  t9 := Try.underlying9
  a9 := Try.isAgg9
  z9 := Try.sizeOf9
  v9 := Try.zeroValue9
  t20 := Try.underlying20
  a20 := Try.isAgg20
  z20 := Try.sizeOf20
  v20 := Try.zeroValue20
  t37 := Try.underlying45
  a37 := Try.isAgg45
  z37 := Try.sizeOf45
  v37 := Try.zeroValue45
  t70 := Try.underlying71
  a70 := Try.isAgg71
  z70 := Try.sizeOf71
  v70 := Try.zeroValue71
  t72 := Try.underlying73
  a72 := Try.isAgg73
  z72 := Try.sizeOf73
  v72 := Try.zeroValue73
  t75 := Try.underlying75
  a75 := Try.isAgg75
  z75 := Try.sizeOf75
  v75 := Try.zeroValue75
  t164 := Try.underlying102
  a164 := Try.isAgg102
  z164 := Try.sizeOf102
  v164 := Try.zeroValue102
theorem Try.lays169 : Lays.n169 Try.prog Try.ren where
  mixed := Try.mixed
  f169 := by kernel_rfl
  t0 := Try.underlying0
  a0 := Try.isAgg0
  z0 := Try.sizeOf0
  v0 := Try.zeroValue0
  t3 := Try.underlying3
  a3 := Try.isAgg3
  z3 := Try.sizeOf3
  v3 := Try.zeroValue3
  t9 := Try.underlying9
  a9 := Try.isAgg9
  z9 := Try.sizeOf9
  v9 := Try.zeroValue9
  t37 := Try.underlying45
  a37 := Try.isAgg45
  z37 := Try.sizeOf45
  v37 := Try.zeroValue45
  t70 := Try.underlying71
  a70 := Try.isAgg71
  z70 := Try.sizeOf71
  v70 := Try.zeroValue71
  t72 := Try.underlying73
  a72 := Try.isAgg73
  z72 := Try.sizeOf73
  v72 := Try.zeroValue73
  t127 := Try.underlying97
  a127 := Try.isAgg97
  z127 := Try.sizeOf97
  v127 := Try.zeroValue97
theorem Try.extraB : Builder.Extra Try.prog Try.ren where
  sizeBuilder := by kernel_rfl
  liesBuilder := by kernel_rfl
  t5 := Try.underlying5
  a5 := Try.isAgg5
  z5 := Try.sizeOf5
  v5 := Try.zeroValue5
  infoByte := by kernel_rfl
  cellsByte := by kernel_rfl
  sizeByte := by kernel_rfl
  neB5 := by decide
end Go.Proofs
set_option linter.unusedSimpArgs false
set_option linter.unusedVariables false
set_option maxHeartbeats 2000000
set_option maxRecDepth 20000
namespace Go.Proofs
namespace Nm
open Go.Pv
end Nm
end Go.Proofs
set_option linter.unusedSimpArgs false
set_option linter.unusedVariables false
set_option maxHeartbeats 2000000
set_option maxRecDepth 20000
namespace Go.Proofs
namespace Nm
open Go.Pv
def cutV (s : List UInt8) (c : UInt8) : List UInt8 × List UInt8 × Bool :=
  if Lib.indexByte s c = -1 then (s, [], false) else (s.take (Lib.indexByte s c).toNat, s.drop ((Lib.indexByte s c).toNat + 1), true)
end Nm
end Go.Proofs
set_option linter.unusedSimpArgs false
set_option linter.unusedVariables false
set_option maxHeartbeats 2000000
set_option maxRecDepth 20000
namespace Go.Proofs
namespace Nm
open Go.Pv
def digF (n : Nat) : List UInt8 := if n < 10 then [u8i (48 + n)] else digF (n / 10) ++ [u8i (48 + ((n % 10 : Nat) : Int))]
termination_by n
decreasing_by omega
theorem digF_lt {n : Nat} (h : n < 10) : digF n = [u8i (48 + n)] := by rw [digF, if_pos h]
theorem digF_ge {n : Nat} (h : 10 ≤ n) : digF n = digF (n / 10) ++ [u8i (48 + ((n % 10 : Nat) : Int))] := by rw [digF, if_neg (by omega)]
theorem digF_len : ∀ (n k : Nat), n < 10 ^ (k + 1) → (digF n).length ≤ k + 1
  | n, 0, h => by rw [digF_lt (by omega)]; simp
  | n, k + 1, h => by
    by_cases h1 : n < 10
    · rw [digF_lt h1]; simp
    · rw [digF_ge (by omega)]
      have := digF_len (n / 10) k (by rw [Nat.pow_succ] at h; omega)
      simp; omega
def txF (n : Int) : List UInt8 := if n < 0 then 45 :: digF (-n).toNat else digF n.toNat
def rvF (L : List UInt8) (i : Nat) : List UInt8 := (List.range L.length).map fun j => if j < i ∨ L.length - 1 - i < j then L[L.length - 1 - j]! else L[j]!
theorem rvF_len (L : List UInt8) (i : Nat) : (rvF L i).length = L.length := by simp [rvF]
theorem rvF_get (L : List UInt8) (i j : Nat) (h : j < L.length) : (rvF L i)[j]! = if j < i ∨ L.length - 1 - i < j then L[L.length - 1 - j]! else L[j]! := by
  rw [getElem!_pos _ _ (by rw [rvF_len]; exact h)]
  simp [rvF]
theorem rvF_ext {a b : List UInt8} (hl : a.length = b.length) (h : ∀ j, j < a.length → a[j]! = b[j]!) : a = b :=
  List.ext_getElem hl fun j h1 h2 => by
    have := h j h1
    rwa [getElem!_pos a j h1, getElem!_pos b j h2] at this
theorem set_get {a : List UInt8} {i j : Nat} {x : UInt8} (h : j < a.length) : (a.set i x)[j]! = if i = j then x else a[j]! := by
  rw [getElem!_pos _ _ (by simpa using h), List.getElem_set]
  split
  · rfl
  · rw [getElem!_pos a j h]
theorem rvF_zero (L : List UInt8) : rvF L 0 = L := rvF_ext (rvF_len L 0) fun j h => by
  rw [rvF_len] at h
  rw [rvF_get L 0 j h, if_neg (by omega)]
theorem rvF_step (L : List UInt8) (i : Nat) (h : i < L.length - 1 - i) : ((rvF L i).set i (rvF L i)[L.length - 1 - i]!).set (L.length - 1 - i) (rvF L i)[i]! = rvF L (i + 1) :=
  rvF_ext (by simp [rvF_len]) fun j hj => by
    simp only [List.length_set,rvF_len] at hj
    have e1 := rvF_get L i (L.length - 1 - i) (by omega)
    have e2 := rvF_get L i i (by omega)
    have e3 := rvF_get L i j hj
    have e4 := rvF_get L (i + 1) j hj
    rw [set_get (by simp [rvF_len]; omega), set_get (by rw [rvF_len]; omega), e1, e2, e3, e4]
    by_cases h1 : L.length - 1 - i = j
    · rw [if_pos h1, if_neg (by omega), if_pos (by omega)]
      congr 1; omega
    · rw [if_neg h1]
      by_cases h2 : i = j
      · rw [if_pos h2, if_neg (by omega), if_pos (by omega), h2]
      · rw [if_neg h2]
        by_cases h3 : j < i ∨ L.length - 1 - i < j
        · rw [if_pos h3, if_pos (by omega)]
        · rw [if_neg h3, if_neg (by omega)]
theorem rvF_end (L : List UInt8) (i : Nat) (h : ¬ i < L.length - 1 - i) : rvF L i = L.reverse := rvF_ext (by simp [rvF_len]) fun j hj => by
  rw [rvF_len] at hj
  rw [rvF_get L i j hj, getElem!_pos L.reverse j (by simpa using hj), List.getElem_reverse]
  split
  · rw [getElem!_pos L _ (by omega)]
  · rw [getElem!_pos L _ (by omega)]
    congr 1; omega
theorem digF_ne (n : Nat) : digF n ≠ [] := by
  by_cases h : n < 10
  · rw [digF_lt h]; simp
  · rw [digF_ge (by omega)]; simp
def lpI (N : Nat) (a : Nat × Bool × List UInt8) : Prop := a.1 ≤ N ∧ (if a.2.1 = true then digF a.1 ++ a.2.2.reverse = digF N else a.2.2.reverse = digF N)
theorem text_run (n : Int) (h0 : -9223372036854775808 ≤ n) (h1 : n < 9223372036854775808) (hd : (digF n.natAbs).length ≤ 1000) : Run Try.prog 34 [.int .i64 n] (.str (txF n)) := by
  refine Try.run34 (by simp) ?_
  unfold Try.c34
  by_cases hn : n < 0
  · obtain ⟨N, hN⟩ : ∃ N : Nat, n = -(N : Int) := ⟨n.natAbs, by omega⟩
    have htx : txF n = 45 :: digF N := by unfold txF; rw [if_pos hn, show (-n).toNat = N by omega]
    have hd2 : (digF N).length ≤ 1000 := by rw [show n.natAbs = N by omega] at hd; exact hd
    rw [htx]
    have he : (0 - n % 18446744073709551616) % 18446744073709551616 = (N : Int) := by omega
    simp (disch := first|omega|(simp only[pvl];omega)) only [↓pvd,pva,Pv.put,bin2,int2,binB2,un1,AV.flat,pvf,szOk,notStr,setCells,AV.one,resX,layC,layA,lay,List.map,List.replicate,List.length_replicate,pve,seval,reduceCtorEq,he]
    refine aw_loop (fun a : Nat × Bool × List UInt8 => ⟨[(0, .int .i64 n), (3, .vec 0 1 0 a.2.2.length), (4, .int .u64 a.1), (5, .bool a.2.1)], [some ⟨5, bys a.2.2, true⟩]⟩) (lpI N) (fun a => if a.2.1 = true then a.1 + 1 else 0) (N, true, []) ?_ ⟨Nat.le_refl _, by simp⟩ ?_
    · simp (disch := first | omega | (simp only [pvl] at *; omega)) only [↓pvd,pva,Pv.put,bin2,int2,binB2,un1,AV.flat,pvf,szOk,notStr,setCells,AV.one,resX,layC,layA,lay,List.map,List.replicate,List.length_replicate,pve,seval,reduceCtorEq]
    rintro ⟨m, b, s⟩ ⟨hm, hs⟩
    dsimp only at hm hs ⊢
    unfold Try.c34b0
    cases b with
    | true =>
      rw [if_pos rfl] at hs
      have hsl : s.length ≤ 1000 := by
        have := congrArg List.length hs
        simp at this; omega
      simp (disch := first | omega | (simp only [pvl] at *; omega)) only [↓pvd,pva,Pv.put,bin2,int2,binB2,un1,AV.flat,pvf,szOk,notStr,setCells,AV.one,resX,layC,layA,lay,List.map,List.replicate,List.length_replicate,pve,seval,reduceCtorEq]
      by_cases h10 : m < 10
      · rw [digF_lt h10] at hs
        refine ⟨(m / 10, false, s ++ [u8i (48 + (m : Int) % 10)]), ?_, ⟨?_, ?_⟩, ?_⟩ <;> dsimp only
        · simp; omega
        · omega
        · rw [if_neg (by simp), ← hs]; simp; congr 1; omega
        · simp
      · rw [digF_ge (by omega)] at hs
        refine ⟨(m / 10, true, s ++ [u8i (48 + (m : Int) % 10)]), ?_, ⟨?_, ?_⟩, ?_⟩ <;> dsimp only
        · simp; omega
        · omega
        · rw [if_pos rfl, ← hs]; simp
        · simp; omega
    | false =>
      rw [if_neg (by simp)] at hs
      have hsl : s.length = (digF N).length := by rw [← hs]; simp
      have hpos := List.length_pos_iff.2 (digF_ne N)
      have hL : (s ++ [45]).reverse = 45 :: digF N := by simp [hs]
      rw [← hL]
      simp (disch := first | omega | (simp only [pvl] at *; omega)) only [↓pvd,pva,Pv.put,bin2,int2,binB2,un1,AV.flat,pvf,szOk,notStr,setCells,AV.one,resX,layC,layA,lay,List.map,List.replicate,List.length_replicate,pve,seval,reduceCtorEq]
      rw [show bys s ++ [AV.int .u8 45] = bys (s ++ [45]) by simp [bys, bv], show s.length + 1 = (s ++ [45]).length by simp]
      have hLl : (s ++ [45]).length ≤ 1001 := by simp; omega
      have hLp : 0 < (s ++ [45]).length := by simp
      generalize s ++ [45] = L at *
      refine aw_loop (fun i : Nat => ⟨[(3, .vec 0 1 0 L.length), (6, .int .i64 i), (7, .int .i64 ((L.length : Int) - 1 - i))], [some ⟨5, bys (rvF L i), true⟩]⟩) (fun i => 2 * i ≤ L.length) (fun i => L.length - i) 0 ?_ (by omega) ?_
      · simp (disch := first|omega|(simp only[pvl];omega)) only [↓pvd,pva,Pv.put,bin2,int2,binB2,un1,AV.flat,pvf,szOk,notStr,setCells,AV.one,resX,layC,layA,lay,List.map,List.replicate,List.length_replicate,pve,seval,reduceCtorEq,rvF_zero]
        try simp
      intro i hi
      unfold Try.c34b1
      have hrl := rvF_len L i
      by_cases hik : i < L.length - 1 - i
      · have hst := rvF_step L i hik
        have hk : ((L.length : Int) - 1 - i).toNat = L.length - 1 - i := by omega
        simp (disch := first|omega|(simp only[pvl];omega)) only [↓pvd,pva,Pv.put,bin2,int2,binB2,un1,AV.flat,pvf,szOk,notStr,setCells,AV.one,resX,layC,layA,lay,List.map,List.replicate,List.length_replicate,pve,seval,reduceCtorEq,hrl,hk]
        rw [hst]
        refine ⟨i + 1, ?_, by omega, by omega⟩
        simp
        omega
      · have hst := rvF_end L i hik
        rw [← hst]
        simp (disch := first|omega|(simp only[pvl];omega)) only [↓pvd,pva,Pv.put,bin2,int2,binB2,un1,AV.flat,pvf,szOk,notStr,setCells,AV.one,resX,layC,layA,lay,List.map,List.replicate,List.length_replicate,pve,seval,reduceCtorEq,hrl]
        (refine Ends_rq [] ?_; simp (disch := first|omega|(simp only[pvl];omega)) only [↓pvd,pva,Pv.put,bin2,int2,binB2,un1,AV.flat,pvf,szOk,notStr,setCells,AV.one,resX,layC,layA,lay,List.map,List.replicate,List.length_replicate,pve,seval,reduceCtorEq]; exact ⟨_,rfl,rfl,rfl⟩)
  · obtain ⟨N, hN⟩ : ∃ N : Nat, n = (N : Int) := ⟨n.natAbs, by omega⟩
    have htx : txF n = digF N := by unfold txF; rw [if_neg hn, show n.toNat = N by omega]
    have hd2 : (digF N).length ≤ 1000 := by rw [show n.natAbs = N by omega] at hd; exact hd
    rw [htx]
    subst hN
    simp (disch := first | omega | (simp only [pvl] at *; omega)) only [↓pvd,pva,Pv.put,bin2,int2,binB2,un1,AV.flat,pvf,szOk,notStr,setCells,AV.one,resX,layC,layA,lay,List.map,List.replicate,List.length_replicate,pve,seval,reduceCtorEq]
    refine aw_loop (fun a : Nat × Bool × List UInt8 => ⟨[(0, .int .i64 N), (3, .vec 0 1 0 a.2.2.length), (4, .int .u64 a.1), (5, .bool a.2.1)], [some ⟨5, bys a.2.2, true⟩]⟩) (lpI N) (fun a => if a.2.1 = true then a.1 + 1 else 0) (N, true, []) ?_ ⟨Nat.le_refl _, by simp⟩ ?_
    · simp (disch := first | omega | (simp only [pvl] at *; omega)) only [↓pvd,pva,Pv.put,bin2,int2,binB2,un1,AV.flat,pvf,szOk,notStr,setCells,AV.one,resX,layC,layA,lay,List.map,List.replicate,List.length_replicate,pve,seval,reduceCtorEq]
    rintro ⟨m, b, s⟩ ⟨hm, hs⟩
    dsimp only at hm hs ⊢
    unfold Try.c34b0
    cases b with
    | true =>
      rw [if_pos rfl] at hs
      have hsl : s.length ≤ 1000 := by
        have := congrArg List.length hs
        simp at this; omega
      simp (disch := first | omega | (simp only [pvl] at *; omega)) only [↓pvd,pva,Pv.put,bin2,int2,binB2,un1,AV.flat,pvf,szOk,notStr,setCells,AV.one,resX,layC,layA,lay,List.map,List.replicate,List.length_replicate,pve,seval,reduceCtorEq]
      by_cases h10 : m < 10
      · rw [digF_lt h10] at hs
        refine ⟨(m / 10, false, s ++ [u8i (48 + (m : Int) % 10)]), ?_, ⟨?_, ?_⟩, ?_⟩ <;> dsimp only
        · simp; omega
        · omega
        · rw [if_neg (by simp), ← hs]; simp; congr 1; omega
        · simp
      · rw [digF_ge (by omega)] at hs
        refine ⟨(m / 10, true, s ++ [u8i (48 + (m : Int) % 10)]), ?_, ⟨?_, ?_⟩, ?_⟩ <;> dsimp only
        · simp; omega
        · omega
        · rw [if_pos rfl, ← hs]; simp
        · simp; omega
    | false =>
      rw [if_neg (by simp)] at hs
      have hsl : s.length = (digF N).length := by rw [← hs]; simp
      have hpos := List.length_pos_iff.2 (digF_ne N)
      rw [← hs]
      simp (disch := first | omega | (simp only [pvl] at *; omega)) only [↓pvd,pva,Pv.put,bin2,int2,binB2,un1,AV.flat,pvf,szOk,notStr,setCells,AV.one,resX,layC,layA,lay,List.map,List.replicate,List.length_replicate,pve,seval,reduceCtorEq]
      refine aw_loop (fun i : Nat => ⟨[(3, .vec 0 1 0 s.length), (6, .int .i64 i), (7, .int .i64 ((s.length : Int) - 1 - i))], [some ⟨5, bys (rvF s i), true⟩]⟩) (fun i => 2 * i ≤ s.length) (fun i => s.length - i) 0 ?_ (by omega) ?_
      · simp (disch := first|omega|(simp only[pvl];omega)) only [↓pvd,pva,Pv.put,bin2,int2,binB2,un1,AV.flat,pvf,szOk,notStr,setCells,AV.one,resX,layC,layA,lay,List.map,List.replicate,List.length_replicate,pve,seval,reduceCtorEq,rvF_zero]
        try simp
      intro i hi
      unfold Try.c34b1
      have hrl := rvF_len s i
      by_cases hik : i < s.length - 1 - i
      · have hst := rvF_step s i hik
        have hk : ((s.length : Int) - 1 - i).toNat = s.length - 1 - i := by omega
        simp (disch := first|omega|(simp only[pvl];omega)) only [↓pvd,pva,Pv.put,bin2,int2,binB2,un1,AV.flat,pvf,szOk,notStr,setCells,AV.one,resX,layC,layA,lay,List.map,List.replicate,List.length_replicate,pve,seval,reduceCtorEq,hrl,hk]
        rw [hst]
        refine ⟨i + 1, ?_, by omega, by omega⟩
        simp
        omega
      · have hst := rvF_end s i hik
        rw [← hst]
        simp (disch := first|omega|(simp only[pvl];omega)) only [↓pvd,pva,Pv.put,bin2,int2,binB2,un1,AV.flat,pvf,szOk,notStr,setCells,AV.one,resX,layC,layA,lay,List.map,List.replicate,List.length_replicate,pve,seval,reduceCtorEq,hrl]
        (refine Ends_rq [] ?_; simp (disch := first|omega|(simp only[pvl];omega)) only [↓pvd,pva,Pv.put,bin2,int2,binB2,un1,AV.flat,pvf,szOk,notStr,setCells,AV.one,resX,layC,layA,lay,List.map,List.replicate,List.length_replicate,pve,seval,reduceCtorEq]; exact ⟨_,rfl,rfl,rfl⟩)
end Nm
end Go.Proofs
set_option linter.unusedSimpArgs false
set_option linter.unusedVariables false
set_option maxHeartbeats 2000000
set_option maxRecDepth 20000
namespace Go.Proofs
namespace Nm
open Go.Pv
theorem text_runx (n : Int) (h0 : -9223372036854775808 ≤ n) (h1 : n < 9223372036854775808) : Run Try.prog 34 [.int .i64 n] (.str (txF n)) :=
  text_run n h0 h1 (by have := digF_len n.natAbs 19 (by omega); omega)
end Nm
end Go.Proofs
set_option linter.unusedSimpArgs false
set_option linter.unusedVariables false
set_option maxHeartbeats 2000000
set_option maxRecDepth 20000
namespace Go.Proofs
open Go.Pv Go.RowKit Go.Shelf Go.Pv.Hq
attribute [local go_sem] Oper.semAt_some
abbrev tx (s : List UInt8) : Value := .string ⟨s.toArray⟩
def ctx (c : Cn) : List UInt8 := Nm.txF c.p ++ [32] ++ Nm.txF c.f ++ [32] ++ Nm.txF c.b ++ [10]
def textS (l : List Cn) : List UInt8 := l.flatMap ctx
theorem bws (B b : Nat) (l s : List UInt8) (t : ByteArray) (ht : t = ⟨s.toArray⟩) (w : World) (h : Lib.IsBuilder 73 5 B b (Lib.byteCells l) w) (hlen : l.length + s.length ≤ 140737488355328) (hBw : B ≤ w.heap.size) :
    Calls Try.prog 33 #[.pointer (some ⟨b, 0, none⟩), .string t] w fun e w' => e = .returned (.tuple #[.int .i64 s.length, .nilIface]) ∧ (Lib.IsBuilder 73 5 B b (Lib.byteCells (l ++ s)) w' ∧ Below B w w') := by
  subst ht
  refine (Any.Builder_WriteString Try.lays166 Try.extraB B b (Lib.byteCells l) ⟨s.toArray⟩ w h (by rw [Lib.byteCells_length]; exact hlen) hBw).mono ?_
  rintro e W ⟨rfl, h1, h2⟩
  refine ⟨rfl, .inr ?_, h2⟩
  rw [Lib.byteCells_append]
  exact h1
theorem bstr (B b : Nat) (l : List UInt8) (w : World) (h : Lib.IsBuilder 73 5 B b (Lib.byteCells l) w) (hBw : B ≤ w.heap.size) :
    Calls Try.prog 35 #[.pointer (some ⟨b, 0, none⟩)] w fun e w' => e = .returned (tx l) ∧ Below B w w' :=
  Any.Builder_String_any Try.lays169 Try.extraB B b l w h hBw
theorem bld_below {T e : TypeId} {B b : Nat} {bs : List Value} {w w' : World} (h : Lib.IsBuilder T e B b bs w) (hb : Below w.heap.size w w') : Lib.IsBuilder T e B b bs w' := by
  have key : ∀ p, Lib.BuilderAt T e B b p bs w → Lib.BuilderAt T e B b p bs w' := by
    rintro p ⟨hB, v, hh, hown, hne⟩
    exact ⟨hB, v, (hb.block b (Array.getElem?_eq_some_iff.1 hh).1).trans hh, owns_keep hown (fun k _ hk => hb.block k hk), hne⟩
  exact h.imp (key _) (key _)
theorem calls_of_run {P : Program} {f : FuncId} {xs : List AV} {r : AV} (h : Run P f xs r) (w : World) (args : Array Value) (ho : OwnL (OwnC w fun _ => False) [] xs args.toList) :
    Calls P f args w fun e W => ∃ v I' os', e = .returned v ∧ OwnT W I' os' r v ∧ Below w.heap.size w W := by
  refine (h.2 w (fun _ => False) [] args trivial ⟨fun b h => h.elim, fun b h => absurd h (blks_nil b), .nil⟩ ho).mono ?_
  rintro e W ⟨v, I', os', he, ht, hok, hs⟩
  exact ⟨v, I', os', he, ht, hs.osk, hs.tape, hs.output, hs.size, fun b hb => hs.keep b hb (blks_nil b)⟩
theorem ntext_calls (n : Int) (h0 : -9223372036854775808 ≤ n) (h1 : n < 9223372036854775808) (w : World) : Calls Try.prog 34 #[.int .i64 n] w fun e W => e = .returned (tx (Nm.txF n)) ∧ Below w.heap.size w W := by
  refine (calls_of_run (Nm.text_runx n h0 h1) w #[.int .i64 n] (.cons (os := []) (os' := []) ⟨rfl, .int .i64 n⟩ .nil)).mono ?_
  rintro e W ⟨v, I', os', rfl, ht, hB⟩
  refine ⟨?_, hB⟩
  cases ht.2
  rfl
theorem txF_le (n : Int) (h0 : -9223372036854775808 ≤ n) (h1 : n < 9223372036854775808) : (Nm.txF n).length ≤ 21 := by
  unfold Nm.txF
  split
  · have := Nm.digF_len (-n).toNat 19 (by omega)
    simp; omega
  · have := Nm.digF_len n.toNat 19 (by omega)
    omega
theorem textS_snoc {l : List Cn} {k : Nat} (hk : k < l.length) : textS (l.take (k + 1)) = textS (l.take k) ++ ctx l[k]! := by
  unfold textS
  rw [getElem!_pos l k hk, List.take_succ_eq_append_getElem hk, List.flatMap_append]; simp
def CnOk (c : Cn) : Prop := (-9223372036854775808 ≤ c.p ∧ c.p < 9223372036854775808) ∧ (-9223372036854775808 ≤ c.f ∧ c.f < 9223372036854775808) ∧ (-9223372036854775808 ≤ c.b ∧ c.b < 9223372036854775808) ∧ (-9223372036854775808 ≤ c.s ∧ c.s < 9223372036854775808) ∧ (-9223372036854775808 ≤ c.e ∧ c.e < 9223372036854775808)
theorem ctx_le {c : Cn} (h : CnOk c) : (ctx c).length ≤ 70 := by
  have h1 := txF_le c.p h.1.1 h.1.2
  have h2 := txF_le c.f h.2.1.1 h.2.1.2
  have h3 := txF_le c.b h.2.2.1.1 h.2.2.1.2
  simp only [ctx,List.length_append,List.length_cons,List.length_nil]; omega
theorem textS_len {l : List Cn} (h : ∀ c ∈ l, CnOk c) : (textS l).length ≤ l.length * 70 := by
  induction l with
  | nil => simp [textS]
  | cons c r ih =>
    have h1 := ctx_le (h c List.mem_cons_self)
    have h2 := ih fun x hx => h x (List.mem_cons_of_mem _ hx)
    have e : textS (c :: r) = ctx c ++ textS r := by simp [textS]
    rw [e, List.length_append, List.length_cons]; omega
structure TSt (w0 w : World) (B b0 : Nat) (c : Cn) (bs : List UInt8) : Prop where
  c0 : w.cell? ⟨b0, 0, none⟩ = some (.int .i64 c.p)
  c1 : w.cell? ⟨b0, 1, none⟩ = some (.int .i64 c.f)
  c2 : w.cell? ⟨b0, 2, none⟩ = some (.int .i64 c.b)
  bld : Lib.IsBuilder 73 5 B B (Lib.byteCells bs) w
  lt : b0 < w.heap.size
  sz : B ≤ w.heap.size
  bel : Below B w0 w
theorem TSt.step {w0 w w' : World} {B b0 : Nat} {c : Cn} {bs : List UInt8} (h : TSt w0 w B b0 c bs) (hb : Below w.heap.size w w') : TSt w0 w' B b0 c bs :=
  ⟨(hb.cell (p := ⟨b0, 0, none⟩) h.lt).trans h.c0, (hb.cell (p := ⟨b0, 1, none⟩) h.lt).trans h.c1, (hb.cell (p := ⟨b0, 2, none⟩) h.lt).trans h.c2, bld_below h.bld hb, Nat.lt_of_lt_of_le h.lt hb.size, Nat.le_trans h.sz hb.size, h.bel.trans (hb.mono h.sz)⟩
theorem ba6 (a b d : List UInt8) : ((⟨a.toArray⟩ : ByteArray) ++ ⟨#[32]⟩ ++ ⟨b.toArray⟩ ++ ⟨#[32]⟩ ++ ⟨d.toArray⟩ ++ ⟨#[10]⟩) = ⟨(a ++ [32] ++ b ++ [32] ++ d ++ [10]).toArray⟩ := by
  apply ByteArray.ext
  simp [ByteArray.data_append]
set_option maxRecDepth 100000 in
set_option maxHeartbeats 2000000 in
theorem stext_calls (l : List Cn) (hl : l.length ≤ 100000) (hw : ∀ c ∈ l, CnOk c) (A : Option Addr) (ca : Nat) (w : World) (hA : CnAt w A l) :
    Calls Try.prog 19 #[.slice A l.length ca] w fun e W => e = .returned (tx (textS l)) ∧ Below w.heap.size w W := by
  refine (callsIn_wide (n := 6)).1 ?_
  refine callsIn_of_wp Try.func19 rfl trivial ?_ rfl
  simp only [Try.ntmps19,List.size_toArray,List.length_cons,List.length_nil,Nat.reduceAdd,Nat.reduceSub,Array.replicate_succ,Array.replicate_zero,List.push_toArray,List.append_toArray,List.nil_append,List.cons_append]
  gi_wp2
  gi_loopw [8] (fun i wr => ∃ k : Nat, i = .int .i64 k ∧ k ≤ l.length ∧ Below w.heap.size w wr ∧ Lib.IsBuilder 73 5 w.heap.size w.heap.size (Lib.byteCells (textS (l.take k))) wr) (fun i _ => l.length - (intOf i).toNat)
  case atStart => exact ⟨0, rfl, Nat.zero_le _, (Below.refl _ w).alloc (Nat.le_refl _) _, by simpa [textS, Lib.byteCells] using Lib.fresh_isBuilder 73 5 w⟩
  case round =>
    rename_i Q1 K1 hK
    obtain ⟨k, rfl, hk, hB, hI⟩ := hrel
    have hz := hB.size
    by_cases hx : k < l.length
    · obtain ⟨bk, o, rfl, hbk, hcell⟩ := hA (by omega)
      obtain ⟨d0, d1, d2, d3, d4⟩ := css_at l k hx
      have hck : ∀ j u, (l.flatMap cs)[k * 5 + j]? = some u → wr.cell? ⟨bk, o + k * 5 + j, none⟩ = some u := fun j u hu => by rw [Nat.add_assoc]; exact (hB.cell (p := ⟨bk, o + (k * 5 + j), none⟩) hbk).trans (hcell _ u hu)
      have h0 := hck 0 _ d0
      have h1 := hck 1 _ d1
      have h2 := hck 2 _ d2
      have h3 := hck 3 _ d3
      have h4 := hck 4 _ d4
      simp only [Nat.add_zero] at h0
      have hsn := textS_snoc hx
      have hok : CnOk l[k]! := by rw [getElem!_pos l k hx]; exact hw _ (List.getElem_mem hx)
      have hcl := ctx_le hok
      have hol := textS_len (l := l.take k) fun c hc => hw c (List.mem_of_mem_take hc)
      rw [List.length_take] at hol
      clear hck hcell d0 d1 d2 d3 d4
      generalize l[k]! = c at *
      have hBa := hB.alloc (o := .cells #[.int .i64 c.p, .int .i64 c.f, .int .i64 c.b, .int .i64 c.s, .int .i64 c.e] 27) hz
      have hnw := World.alloc_heap_new wr (.cells #[.int .i64 c.p, .int .i64 c.f, .int .i64 c.b, .int .i64 c.s, .int .i64 c.e] 27)
      have hba : Below wr.heap.size wr ((wr.alloc (.cells #[.int .i64 c.p, .int .i64 c.f, .int .i64 c.b, .int .i64 c.s, .int .i64 c.e] 27)).drew) := ((Below.refl _ wr).alloc (Nat.le_refl _) _).drew
      have hBd := hB.trans (hba.mono hz)
      have hId := bld_below hI hba
      have hsd : wr.heap.size < ((wr.alloc (.cells #[.int .i64 c.p, .int .i64 c.f, .int .i64 c.b, .int .i64 c.s, .int .i64 c.e] 27)).drew).heap.size := by simp
      have g0 : ((wr.alloc (.cells #[.int .i64 c.p, .int .i64 c.f, .int .i64 c.b, .int .i64 c.s, .int .i64 c.e] 27)).drew).cell? ⟨wr.heap.size, 0, none⟩ = some (.int .i64 c.p) := by show (wr.alloc _).cell? _ = _; simp only [World.cell?,hnw]; rfl
      have g1 : ((wr.alloc (.cells #[.int .i64 c.p, .int .i64 c.f, .int .i64 c.b, .int .i64 c.s, .int .i64 c.e] 27)).drew).cell? ⟨wr.heap.size, 1, none⟩ = some (.int .i64 c.f) := by show (wr.alloc _).cell? _ = _; simp only [World.cell?,hnw]; rfl
      have g2 : ((wr.alloc (.cells #[.int .i64 c.p, .int .i64 c.f, .int .i64 c.b, .int .i64 c.s, .int .i64 c.e] 27)).drew).cell? ⟨wr.heap.size, 2, none⟩ = some (.int .i64 c.b) := by show (wr.alloc _).cell? _ = _; simp only [World.cell?,hnw]; rfl
      have hst : TSt w _ w.heap.size wr.heap.size c _ := ⟨g0, g1, g2, hId, hsd, Nat.le_trans hz (Nat.le_of_lt hsd), hBd⟩
      clear hnw hId
      have mixed := Try.mixed
      have la := txF_le c.p hok.1.1 hok.1.2
      have lb := txF_le c.f hok.2.1.1 hok.2.1.2
      have ld := txF_le c.b hok.2.2.1.1 hok.2.2.1.2
      have z1 : ¬ (9223372036854775807 < (Nm.txF c.p).length + 1) := by omega
      have z2 : ¬ (9223372036854775807 < (Nm.txF c.p).length + 1 + (Nm.txF c.f).length) := by omega
      have z3 : ¬ (9223372036854775807 < (Nm.txF c.p).length + 1 + (Nm.txF c.f).length + 1) := by omega
      have z4 : ¬ (9223372036854775807 < (Nm.txF c.p).length + 1 + (Nm.txF c.f).length + 1 + (Nm.txF c.b).length) := by omega
      have z5 : ¬ (9223372036854775807 < (Nm.txF c.p).length + 1 + (Nm.txF c.f).length + 1 + (Nm.txF c.b).length + 1) := by omega
      gi_wp2
      gi_region_with_o (first
        | (refine ⟨trivial, ?_⟩; gi_at_call 34; refine (callsIn_wide.2 (ntext_calls _ (by first | exact hok.1.1 | exact hok.2.1.1 | exact hok.2.2.1.1) (by first | exact hok.1.2 | exact hok.2.1.2 | exact hok.2.2.1.2) _)).mono ?_; rintro e W1 ⟨rfl, hB1⟩; have t1 := TSt.step (by assumption) hB1; have k0 := t1.c0; have k1 := t1.c1; have k2 := t1.c2)
        | (refine ⟨trivial, ?_⟩; gi_at_call 33; refine (callsIn_wide.2 (bws _ _ (textS (l.take k)) (ctx c) _ (ba6 _ _ _) _ (TSt.bld (by assumption)) (by omega) (TSt.sz (by assumption)))).mono ?_; rintro e W5 ⟨rfl, hI5, hB5⟩))
      all_goals gi_wp2
      all_goals exact ⟨⟨k + 1, by go_num, hx, TSt.bel (by assumption) |>.trans hB5, by rw [hsn]; exact hI5⟩, by simp [intOf]; omega⟩
    · have e : k = l.length := by omega
      rw [e, List.take_of_length_le (Nat.le_refl _)] at hI
      gi_wp2_with (refine ⟨trivial, ?_⟩; gi_at_call 35; refine (callsIn_wide.2 (bstr _ _ (textS l) _ hI hz)).mono ?_; rintro e W1 ⟨rfl, hB1⟩)
      go_ret
      exact ⟨rfl, hB.trans hB1⟩
end Go.Proofs
set_option linter.unusedSimpArgs false
set_option linter.unusedVariables false
namespace Go.Proofs
open Go.Pv Go.RowKit Go.Shelf Go.Pv.Hq
def cnA (c : Cn) : AV := .agg [.int .i64 c.p, .int .i64 c.f, .int .i64 c.b, .int .i64 c.s, .int .i64 c.e]
theorem css_get (L : List Cn) (k m : Nat) (hk : k < L.length) (hm : m < 5) : (L.flatMap cs)[k * 5 + m]? = (cs L[k]!)[m]? := by
  obtain ⟨d0, d1, d2, d3, d4⟩ := css_at L k hk
  match m, hm with
  | 0, _ => exact d0
  | 1, _ => exact d1
  | 2, _ => exact d2
  | 3, _ => exact d3
  | 4, _ => exact d4
theorem css_lt {L : List Cn} {j : Nat} {u : Value} (h : (L.flatMap cs)[j]? = some u) : j / 5 < L.length ∧ j % 5 < 5 ∧ j / 5 * 5 + j % 5 = j := by
  have h1 := (List.getElem?_eq_some_iff.1 h).1
  rw [cs_len] at h1
  omega
theorem sim_cell {w : World} {γ : Gh} {c : Cn} {m : Nat} {y : AV} {u : Value} (hy : (cnA c).flat[m]? = some y) (hs : Sim w γ y u) : (cs c)[m]? = some u := by
  match m, hy with
  | 0, hy => cases hy; rw [int_inv hs]; rfl
  | 1, hy => cases hy; rw [int_inv hs]; rfl
  | 2, hy => cases hy; rw [int_inv hs]; rfl
  | 3, hy => cases hy; rw [int_inv hs]; rfl
  | 4, hy => cases hy; rw [int_inv hs]; rfl
  | m + 5, hy => simp [cnA, AV.flat] at hy
theorem cn_in {w : World} {I : Nat → Prop} {l : List Cn} {f : Bool} {v : Value} (h : Sim w (bareG I) (.sl 5 (l.map cnA) f) v) : ∃ A ca, v = .slice A l.length ca ∧ CnAt w A l := by
  generalize hes : l.map cnA = es at h
  cases h with
  | sl0 _ _ A cap h =>
    have : l = [] := by simpa using hes
    subst this
    exact ⟨A, cap, rfl, fun h => absurd rfl h⟩
  | sl _ _ _ b off cap U hp hcp hf hbk hi hz hcell hs =>
    subst hes
    refine ⟨_, cap, by rw [List.length_map], fun _ => ⟨b, off, rfl, hbk, fun j u hu => ?_⟩⟩
    obtain ⟨h1, h2, h3⟩ := css_lt hu
    have hx : (l.map cnA)[j / 5]? = some (cnA l[j / 5]!) := map_get h1
    have hfl : ∃ y, (cnA l[j / 5]!).flat[j % 5]? = some y := ⟨_, List.getElem?_eq_getElem (by simpa [cnA, AV.flat] using h2)⟩
    obtain ⟨y, hy⟩ := hfl
    have hc := (hcell _ _ _ _ hx hy).1
    have hsm := sim_cell hy (hs _ _ _ _ hx hy)
    rw [← h3, css_get l _ _ h1 h2, hsm] at hu
    cases hu
    rw [show off + j = off + j / 5 * 5 + j % 5 by omega]
    exact hc
theorem cn_out {w W : World} {I : Nat → Prop} {L : List Cn} {v : Value} (hos : ∀ b, I b → b < w.heap.size) (hr : W.ownsRow w.heap.size 27 5 v L.length (L.flatMap cs)) (hB : Below w.heap.size w W) :
    ∃ v' I' os', Ending.returned v = .returned v' ∧ OwnT W I' os' (.own 5 27 (L.map cnA)) v' ∧ OsOk W I' os' ∧ StepB I [] I' os' w W := by
  rcases hr.2 with ⟨rfl, h0⟩ | ⟨g, cap, cur, rfl, hg, hh, hn, hm, hc, ht⟩
  · have hL : L = [] := List.eq_nil_of_length_eq_zero h0
    subst hL
    have hno : ∀ b, ¬ blks [⟨none, 5, 0, 2⟩] b := fun b ⟨ge, hge, hb⟩ => by rw [List.mem_singleton.1 hge] at hb; cases hb
    exact ⟨_, I, [⟨none, 5, 0, 2⟩], rfl, ⟨_, rfl, ⟨.inr ⟨rfl, .inl ⟨rfl, rfl, rfl⟩⟩, rfl, rfl, Nat.le_refl _, ⟨none, rfl, fun g h => by cases h⟩, fun _ => rfl⟩⟩, ⟨fun b hb => ⟨Nat.lt_of_lt_of_le (hos b hb) hB.size, hno b⟩, fun b h => absurd h (hno b), by simp⟩, ⟨hB.os, hB.tape, hB.output, hB.size, fun b h _ => hB.block b h, fun b h => absurd h (hno b), fun b h => h, fun b h => .inl h⟩⟩
  · have hbk : ∀ b, blks [⟨some g, 5, cap, 2⟩] b → b = g := fun b ⟨ge, hge, hb⟩ => by
      rw [List.mem_singleton.1 hge] at hb; cases hb; rfl
    have hgl := (Array.getElem?_eq_some_iff.1 hh).1
    refine ⟨_, I, [⟨some g, 5, cap, 2⟩], rfl, ⟨_, rfl, ⟨.inr ⟨rfl, .inr ⟨g, cur, (0, 0), rfl, hh, hc, .inl rfl, by simpa using hn, ?_⟩⟩, rfl, rfl, by simpa using hn, ⟨_, by rw [List.length_map], fun g' h => by cases h; rfl⟩, fun h => by cases h⟩⟩,
      ⟨fun b hb => ⟨Nat.lt_of_lt_of_le (hos b hb) hB.size, fun h => ?_⟩, fun b h => by rw [hbk b h]; exact hgl, by simp⟩, ⟨hB.os, hB.tape, hB.output, hB.size, fun b h _ => hB.block b h, fun b h => .inr (by rw [hbk b h]; exact hg), fun b h => h, fun b h => .inl h⟩⟩
    · intro i x hx
      have hi : i < L.length := by have := (List.getElem?_eq_some_iff.1 hx).1; simpa using this
      have hxe : x = cnA L[i]! := by
        rw [List.getElem?_map, List.getElem?_eq_getElem hi] at hx
        rw [getElem!_pos L i hi]; exact (Option.some.inj hx).symm
      subst hxe
      refine ⟨rfl, fun j y hy => ?_⟩
      have hj : j < 5 := (List.getElem?_eq_some_iff.1 hy).1
      have hcu : cur[i * 5 + j]? = (cs L[i]!)[j]? := by
        rw [← css_get L i j hi hj, ← ht, List.getElem?_take_of_lt (by have : (i + 1) * 5 ≤ L.length * 5 := Nat.mul_le_mul_right _ hi; omega), Array.getElem?_toList]
      rw [hcu]
      match j, hj, hy with
      | 0, _, hy => cases hy; exact ⟨_, rfl, rfl, .int _ _⟩
      | 1, _, hy => cases hy; exact ⟨_, rfl, rfl, .int _ _⟩
      | 2, _, hy => cases hy; exact ⟨_, rfl, rfl, .int _ _⟩
      | 3, _, hy => cases hy; exact ⟨_, rfl, rfl, .int _ _⟩
      | 4, _, hy => cases hy; exact ⟨_, rfl, rfl, .int _ _⟩
    · have h1 := hbk b h
      have h2 := hos b hb
      omega
theorem top_run (l : List Cn) (many : Int) (f : Bool) (hl : l.length ≤ 8000) (hm : -9223372036854775808 ≤ many ∧ many ≤ 9223372036854775807) : Run Try.prog 8 [.sl 5 (l.map cnA) f, .int .i64 many] (.own 5 27 ((topS l many).map cnA)) := by
  refine ⟨can_of Try.func8 rfl rfl, ?_⟩
  intro w I os args hq hos ho
  obtain ⟨args⟩ := args
  generalize hxs : [AV.sl 5 (l.map cnA) f, AV.int .i64 many] = ys at ho
  cases ho with
  | nil => cases hxs
  | cons ha ho =>
    cases hxs
    cases ho with
    | cons hb ho =>
      cases ho with
      | nil =>
        obtain ⟨rfl, ha⟩ := ha
        obtain ⟨rfl, hb⟩ := hb
        obtain ⟨A, ca, rfl, hA⟩ := cn_in ha
        rw [int_inv hb]
        refine (top_calls l many hl hm A ca w hA).mono ?_
        rintro e W ⟨v, rfl, hr, hB⟩
        exact cn_out (fun b hb => (hos.imm b hb).1) hr hB
theorem stext_run (l : List Cn) (f : Bool) (hl : l.length ≤ 100000) (hw : ∀ c ∈ l, CnOk c) : Run Try.prog 19 [.sl 5 (l.map cnA) f] (.str (textS l)) := by
  refine ⟨can_of Try.func19 rfl rfl, ?_⟩
  intro w I os args hq hos ho
  obtain ⟨args⟩ := args
  generalize hxs : [AV.sl 5 (l.map cnA) f] = ys at ho
  cases ho with
  | nil => cases hxs
  | cons h1 ho =>
    cases hxs
    cases ho with
    | nil =>
      obtain ⟨rfl, h1⟩ := h1
      obtain ⟨A, ca, rfl, hA⟩ := cn_in h1
      refine (stext_calls l hl hw A ca w hA).mono ?_
      rintro e W ⟨rfl, hB⟩
      exact ⟨_, I, [], rfl, ⟨rfl, .str _⟩, ⟨fun b h => ⟨Nat.lt_of_lt_of_le (hos.imm b h).1 hB.size, blks_nil b⟩, fun b h => absurd h (blks_nil b), .nil⟩, ⟨hB.os, hB.tape, hB.output, hB.size, fun b h _ => hB.block b h, fun b h => absurd h (blks_nil b), fun b h => h, fun b h => .inl h⟩⟩
structure Sn where
  p : Int
  o : Int
  b : List UInt8
  f : Bool
deriving Inhabited
def snR (s : Sn) : AV := .agg [.int .i64 s.p, .int .i64 s.o, .sl 1 (bys s.b) s.f]
def snK (l : List Sn) : List (Int × Nat) := l.map fun s => (s.p, s.b.length)
theorem ports_run (l : List Sn) (f : Bool) (hw : ∀ s ∈ l, -9223372036854775808 ≤ s.p ∧ s.p < 9223372036854775808) (hl : l.length ≤ 100000) : Run Try.prog 14 [.sl 3 (l.map snR) f] (.own 5 27 ((portsS (snK l)).map cnA)) := by
  have hlk : (snK l).length = l.length := by simp [snK]
  have hwk : ∀ e ∈ snK l, (Lit.int .i64 e.1).wf = true := fun e he => by
    obtain ⟨s, hs, rfl⟩ := List.mem_map.1 he
    have := hw s hs
    simp [Lit.wf, IntKind.min, IntKind.max, IntKind.signed, IntKind.bits]
    omega
  refine ⟨can_of Try.func14 rfl rfl, ?_⟩
  intro w I os args hq hos ho
  obtain ⟨args⟩ := args
  generalize hxs : [AV.sl 3 (l.map snR) f] = ys at ho
  cases ho with
  | nil => cases hxs
  | cons h1 ho =>
    cases hxs
    cases ho with
    | nil =>
      obtain ⟨rfl, h1⟩ := h1
      generalize hes : l.map snR = es at h1
      cases h1 with
      | sl0 _ _ A cap h =>
        have : l = [] := by simpa using hes
        subst this
        refine (ports_calls (snK []) hwk (by simp [snK]) A cap w (fun k hk => absurd hk (by simp [snK]))).mono ?_
        rintro e W ⟨v, rfl, hr, hB⟩
        exact cn_out (fun b hb => (hos.imm b hb).1) hr hB
      | sl _ _ _ b off cap U hp hcp hf hbk hi hz hcell hs =>
        subst hes
        rw [List.length_map, ← hlk]
        refine (ports_calls (snK l) hwk (by rw [hlk]; exact hl) (some ⟨b, off, none⟩) cap w (fun k hk => ?_)).mono ?_
        · rw [hlk] at hk
          have hx : (l.map snR)[k]? = some (.agg [.int .i64 l[k]!.p, .int .i64 l[k]!.o, .sl 1 (bys l[k]!.b) l[k]!.f]) := map_get hk
          have e1 : (snK l)[k]! = (l[k]!.p, l[k]!.b.length) := by
            rw [getElem!_pos (snK l) k (by rw [hlk]; exact hk), getElem!_pos l k hk]; simp [snK]
          rw [e1]
          have c0 := (hcell k _ 0 _ hx rfl).1
          have c1 := (hcell k _ 1 _ hx rfl).1
          have c2 := (hcell k _ 2 _ hx rfl).1
          have s0 := hs k _ 0 _ hx rfl
          have s1 := hs k _ 1 _ hx rfl
          have s2 := hs k _ 2 _ hx rfl
          rw [int_inv s0] at c0
          rw [int_inv s1] at c1
          refine ⟨b, off, rfl, hbk, c0, ⟨_, c1⟩, ?_⟩
          rw [c2]
          generalize U k 2 = u at s2
          have hbl : (bys l[k]!.b).length = l[k]!.b.length := by simp [bys]
          generalize hbb : bys l[k]!.b = bb at s2 hbl
          cases s2 with
          | sl0 _ _ A cap h => exact ⟨A, cap, by rw [← hbl]; rfl⟩
          | sl _ _ _ b off cap U hp hcp hf hbk hi hz hcell hs => exact ⟨_, cap, by rw [← hbl]⟩
        · rintro e W ⟨v, rfl, hr, hB⟩
          exact cn_out (fun b hb => (hos.imm b hb).1) hr hB
end Go.Proofs
set_option linter.unusedSimpArgs false
set_option linter.unusedVariables false
set_option maxHeartbeats 2000000
set_option maxRecDepth 20000
namespace Go.Proofs
open Go.Pv Go.Pv.Hq
set_option maxHeartbeats 4000000 in
theorem works_run : Run Try.prog 7 [] (.bool true) := by
  refine Try.run7 (by simp) ?_
  unfold Try.c7
  have q := ports_run [⟨3, 0, List.replicate 14 0, false⟩, ⟨3, 0, List.replicate 20 0, false⟩] false (fun s hs => by simp at hs; rcases hs with rfl | rfl <;> simp) (by simp)
  have hp : portsS (snK [⟨3, 0, List.replicate 14 0, false⟩, ⟨3, 0, List.replicate 20 0, false⟩]) = [⟨3, 2, 34, 0, 1⟩] := by decide
  rw [hp] at q
  have q2 := stext_run [⟨3, 2, 34, 0, 1⟩] false (by simp) (fun c hc => by simp at hc; rw [hc]; simp [CnOk])
  have ht : textS [⟨3, 2, 34, 0, 1⟩] = [51, 32, 50, 32, 51, 52, 10] := by simp [textS, ctx, Nm.txF, Nm.digF, u8i]
  rw [ht] at q2
  have q3 := top_run [⟨3, 2, 34, 0, 1⟩] 0 false (by simp) (by omega)
  have q4 := top_run [⟨3, 2, 34, 0, 1⟩] 5 false (by simp) (by omega)
  have h3 : topS [⟨3, 2, 34, 0, 1⟩] 0 = [] := by decide
  have h4 : topS [⟨3, 2, 34, 0, 1⟩] 5 = [⟨3, 2, 34, 0, 1⟩] := by simp [topS, sortP, pl, List.zipIdx]
  rw [h3] at q3
  rw [h4] at q4
  simp only [List.map,snR,cnA,bys,List.replicate,bv] at q q2 q3 q4
  simp (disch := first | omega | (simp only [pvl] at *; omega)) only [↓pvd,pva,Pv.put,bin2,int2,binB2,un1,AV.flat,pvf,szOk,notStr,setCells,AV.one,resX,layC,layA,lay,List.map,List.replicate,List.length_replicate,pve,seval,reduceCtorEq]
  refine awR_callDF (ms := []) q (by simp (disch := first | omega | (simp only [pvl] at *; omega)) only [↓pvd,pva,Pv.put,bin2,int2,binB2,un1,AV.flat,pvf,szOk,notStr,setCells,AV.one,resX,layC,layA,lay,List.map,List.replicate,List.length_replicate,pve,seval,reduceCtorEq]; rfl) (by simp (disch := first | omega | (simp only [pvl] at *; omega)) only [↓pvd,pva,Pv.put,bin2,int2,binB2,un1,AV.flat,pvf,szOk,notStr,setCells,AV.one,resX,layC,layA,lay,List.map,List.replicate,List.length_replicate,pve,seval,reduceCtorEq]) (by simp [growL, still, ent, lay, layA, layC, layL]) ?_
  simp (disch := first | omega | (simp only [pvl] at *; omega)) only [↓pvd,pva,Pv.put,bin2,int2,binB2,un1,AV.flat,pvf,szOk,notStr,setCells,AV.one,resX,layC,layA,lay,List.map,List.replicate,List.length_replicate,pve,seval,reduceCtorEq]
  refine awR_callS (ms := []) q2 (by simp (disch := first | omega | (simp only [pvl] at *; omega)) only [↓pvd,pva,Pv.put,bin2,int2,binB2,un1,AV.flat,pvf,szOk,notStr,setCells,AV.one,resX,layC,layA,lay,List.map,List.replicate,List.length_replicate,pve,seval,reduceCtorEq]; rfl) (by simp (disch := first | omega | (simp only [pvl] at *; omega)) only [↓pvd,pva,Pv.put,bin2,int2,binB2,un1,AV.flat,pvf,szOk,notStr,setCells,AV.one,resX,layC,layA,lay,List.map,List.replicate,List.length_replicate,pve,seval,reduceCtorEq]) ?_
  simp (disch := first|omega|(simp only[pvl];omega)) only [↓pvd,pva,Pv.put,bin2,int2,binB2,un1,AV.flat,pvf,szOk,notStr,setCells,AV.one,resX,layC,layA,lay,List.map,List.replicate,List.length_replicate,pve,seval,reduceCtorEq,beq_self_eq_true]
  refine awR_callS (ms := []) q3 (by simp (disch := first | omega | (simp only [pvl] at *; omega)) only [↓pvd,pva,Pv.put,bin2,int2,binB2,un1,AV.flat,pvf,szOk,notStr,setCells,AV.one,resX,layC,layA,lay,List.map,List.replicate,List.length_replicate,pve,seval,reduceCtorEq]; rfl) (by simp (disch := first | omega | (simp only [pvl] at *; omega)) only [↓pvd,pva,Pv.put,bin2,int2,binB2,un1,AV.flat,pvf,szOk,notStr,setCells,AV.one,resX,layC,layA,lay,List.map,List.replicate,List.length_replicate,pve,seval,reduceCtorEq]) ?_
  simp (disch := first|omega|(simp only[pvl];omega)) only [↓pvd,pva,Pv.put,bin2,int2,binB2,un1,AV.flat,pvf,szOk,notStr,setCells,AV.one,resX,layC,layA,lay,List.map,List.replicate,List.length_replicate,pve,seval,reduceCtorEq,beq_self_eq_true]
  refine awR_callS (ms := []) q4 (by simp (disch := first | omega | (simp only [pvl] at *; omega)) only [↓pvd,pva,Pv.put,bin2,int2,binB2,un1,AV.flat,pvf,szOk,notStr,setCells,AV.one,resX,layC,layA,lay,List.map,List.replicate,List.length_replicate,pve,seval,reduceCtorEq]; rfl) (by simp (disch := first | omega | (simp only [pvl] at *; omega)) only [↓pvd,pva,Pv.put,bin2,int2,binB2,un1,AV.flat,pvf,szOk,notStr,setCells,AV.one,resX,layC,layA,lay,List.map,List.replicate,List.length_replicate,pve,seval,reduceCtorEq]) ?_
  simp (disch := first|omega|(simp only[pvl];omega)) only [↓pvd,pva,Pv.put,bin2,int2,binB2,un1,AV.flat,pvf,szOk,notStr,setCells,AV.one,resX,layC,layA,lay,List.map,List.replicate,List.length_replicate,pve,seval,reduceCtorEq,beq_self_eq_true]
  trace_state
  (refine Ends_rq [] ?_; simp (disch := first|omega|(simp only[pvl];omega)) only [↓pvd,pva,Pv.put,bin2,int2,binB2,un1,AV.flat,pvf,szOk,notStr,setCells,AV.one,resX,layC,layA,lay,List.map,List.replicate,List.length_replicate,pve,seval,reduceCtorEq]; exact ⟨_,rfl,rfl,rfl⟩)
end Go.Proofs
/-
  The document's lists of counts: one more is put in; the greatest ones. (No program in sight.)
-/
namespace Go.Pv.Hq
end Go.Pv.Hq
set_option linter.unusedSimpArgs false
set_option linter.unusedVariables false
set_option maxHeartbeats 2000000
set_option maxRecDepth 20000
namespace Go.Proofs
open Go.Pv Go.Pv.Hq
end Go.Proofs
set_option linter.unusedSimpArgs false
set_option linter.unusedVariables false
set_option maxHeartbeats 2000000
set_option maxRecDepth 20000
namespace Go.Proofs
open Go.Pv Go.Pv.Hq
end Go.Proofs
set_option linter.unusedSimpArgs false
set_option linter.unusedVariables false
set_option maxHeartbeats 2000000
set_option maxRecDepth 20000
namespace Go.Proofs
open Go.Pv Go.Pv.Hq
end Go.Proofs
set_option linter.unusedSimpArgs false
set_option linter.unusedVariables false
set_option maxHeartbeats 2000000
set_option maxRecDepth 20000
namespace Go.Proofs
open Go.Pv Go.Pv.Hq
end Go.Proofs
set_option linter.unusedSimpArgs false
set_option linter.unusedVariables false
set_option maxHeartbeats 2000000
set_option maxRecDepth 20000
namespace Go.Proofs
open Go.Pv Go.Pv.Hq
end Go.Proofs
set_option linter.unusedSimpArgs false
set_option linter.unusedVariables false
set_option maxHeartbeats 2000000
set_option maxRecDepth 20000
namespace Go.Proofs
open Go.Pv Go.Pv.Hq
theorem i64w {m : Int} (w : (Lit.int .i64 m).wf = true) : -9223372036854775808 ≤ m ∧ m < 9223372036854775808 := by
  simp [Lit.wf, IntKind.min, IntKind.max, IntKind.signed, IntKind.bits] at w
  omega
theorem dat_cn {d : Nat} {y : AV} (h : DatV Try.prog (d + 4) 27 y) : ∃ c : Cn, y = cnA c ∧ CnOk c := by
  obtain ⟨cs, rfl, hl, hf⟩ := dat_struct Try.underlying27 h
  rw [show Try.prog.cellsOf 27 = 5 by kernel_rfl] at hl
  match cs, hl with
  | [x0, x1, x2, x3, x4], _ =>
    simp only [List.mem_cons,List.not_mem_nil,or_false,forall_eq_or_imp,forall_eq] at hf
    obtain ⟨f0, f1, f2, f3, f4⟩ := hf
    rw [show Try.prog.cellsOf 3 = 1 by kernel_rfl] at f0 f1 f2 f3 f4
    obtain ⟨m0, e0, w0⟩ := dat1_int Try.underlying3 f0
    obtain ⟨m1, e1, w1⟩ := dat1_int Try.underlying3 f1
    obtain ⟨m2, e2, w2⟩ := dat1_int Try.underlying3 f2
    obtain ⟨m3, e3, w3⟩ := dat1_int Try.underlying3 f3
    obtain ⟨m4, e4, w4⟩ := dat1_int Try.underlying3 f4
    simp at e0 e1 e2 e3 e4
    subst e0 e1 e2 e3 e4
    exact ⟨⟨m0, m1, m2, m3, m4⟩, rfl, i64w w0, i64w w1, i64w w2, i64w w3, i64w w4⟩
end Go.Proofs
/-
  Who sent: each address once. (No program in sight.)
-/
namespace Go.Pv.Hq
end Go.Pv.Hq
set_option linter.unusedSimpArgs false
set_option linter.unusedVariables false
set_option maxHeartbeats 2000000
set_option maxRecDepth 20000
namespace Go.Proofs
namespace Mc
open Go.Pv
def dg (c : UInt8) : Int := if 48 ≤ c.toNat ∧ c.toNat ≤ 57 then c.toNat - 48 else if 97 ≤ c.toNat ∧ c.toNat ≤ 102 then c.toNat - 87 else 16
def mb (m : Int) : List UInt8 := [u8i (m / 1099511627776), u8i (m / 4294967296), u8i (m / 16777216), u8i (m / 65536), u8i (m / 256), u8i m]
end Mc
end Go.Proofs
set_option linter.unusedSimpArgs false
set_option linter.unusedVariables false
set_option maxHeartbeats 2000000
set_option maxRecDepth 20000
namespace Go.Proofs
namespace Mc
open Go.Pv
end Mc
end Go.Proofs
set_option linter.unusedSimpArgs false
set_option linter.unusedVariables false
set_option maxHeartbeats 2000000
set_option maxRecDepth 20000
namespace Go.Proofs
namespace Mc
open Go.Pv
def hx (n : Int) : UInt8 := [48, 49, 50, 51, 52, 53, 54, 55, 56, 57, 97, 98, 99, 100, 101, 102][n.toNat]!
def tx (m : Int) : List UInt8 :=
  [hx (m / 1099511627776 % 256 / 16), hx (m / 1099511627776 % 256 % 16), 58, hx (m / 4294967296 % 256 / 16), hx (m / 4294967296 % 256 % 16), 58, hx (m / 16777216 % 256 / 16), hx (m / 16777216 % 256 % 16), 58,
    hx (m / 65536 % 256 / 16), hx (m / 65536 % 256 % 16), 58, hx (m / 256 % 256 / 16), hx (m / 256 % 256 % 16), 58, hx (m % 256 / 16), hx (m % 256 % 16)]
end Mc
end Go.Proofs
set_option linter.unusedSimpArgs false
set_option linter.unusedVariables false
set_option maxHeartbeats 2000000
set_option maxRecDepth 20000
namespace Go.Proofs
namespace Mc
open Go.Pv
def num (s : List UInt8) : Nat → Int
  | 0 => 0
  | k + 1 => num s k * 256 + (dg s[3 * k]! * 16 + dg s[3 * k + 1]!)
end Mc
end Go.Proofs
set_option linter.unusedSimpArgs false
set_option linter.unusedVariables false
set_option maxHeartbeats 2000000
set_option maxRecDepth 20000
namespace Go.Proofs
namespace Mc
open Go.Pv
end Mc
end Go.Proofs
set_option linter.unusedSimpArgs false
set_option linter.unusedVariables false
set_option maxHeartbeats 2000000
set_option maxRecDepth 20000
namespace Go.Proofs
namespace Mc
open Go.Pv
end Mc
end Go.Proofs
set_option linter.unusedSimpArgs false
set_option linter.unusedVariables false
set_option maxHeartbeats 2000000
set_option maxRecDepth 20000
namespace Go.Proofs
open Go.Pv Go.Pv.Hq
end Go.Proofs
set_option linter.unusedSimpArgs false
set_option linter.unusedVariables false
set_option maxHeartbeats 2000000
set_option maxRecDepth 20000
namespace Go.Proofs
open Go.Pv Go.Pv.Hq
end Go.Proofs
set_option linter.unusedSimpArgs false
set_option linter.unusedVariables false
set_option maxHeartbeats 2000000
set_option maxRecDepth 20000
namespace Go.Proofs
open Go.Pv Go.Pv.Hq
end Go.Proofs
/-
  What is marked as used: each of the greatest is found once. (No program in sight.)
-/
namespace Go.Pv.Hq
def un (l : List Cn) (U : List Bool) : List Cn := ((l.zip U).filter fun p => !p.2).map (·.1)
theorem un_snoc {l : List Cn} {U : List Bool} {k : Nat} (hk : k < l.length) (hU : U.length = l.length) : un (l.take (k + 1)) (U.take (k + 1)) = un (l.take k) (U.take k) ++ if U[k]! then [] else [l[k]!] := by
  have hu : k < U.length := by omega
  rw [List.take_succ_eq_append_getElem hk, List.take_succ_eq_append_getElem hu, getElem!_pos l k hk, getElem!_pos U k hu]
  unfold un
  rw [List.zip_append (by simp; omega), List.filter_append, List.map_append]
  congr 1
  cases U[k] <;> simp
def mS (l : List Cn) (U : List Bool) (c : Cn) : Nat → Bool × List Bool
  | 0 => (false, U)
  | k + 1 => if (mS l U c k).1 = false ∧ U[k]! = false ∧ l[k]! = c then (true, (mS l U c k).2.set k true) else mS l U c k
theorem mS_len (l : List Cn) (U : List Bool) (c : Cn) (k : Nat) : (mS l U c k).2.length = U.length := by
  induction k with
  | zero => rfl
  | succ k ih => unfold mS; split <;> simp [ih]
theorem mS_get (l : List Cn) (U : List Bool) (c : Cn) (k j : Nat) (h : k ≤ j) : (mS l U c k).2[j]! = U[j]! := by
  induction k with
  | zero => rfl
  | succ k ih =>
    have hh := ih (by omega)
    unfold mS
    split
    · simp only [List.getElem!_eq_getElem?_getD] at *
      rw [List.getElem?_set_ne (by omega)]; exact hh
    · exact hh
theorem take_set {U : List Bool} {k : Nat} (hk : k < U.length) : (U.set k true).take (k + 1) = U.take k ++ [true] := by
  rw [List.take_succ_eq_append_getElem (by simpa using hk), List.getElem_set_self, List.take_set, List.set_eq_of_length_le (by rw [List.length_take]; omega)]
theorem mS_inv (l : List Cn) (U : List Bool) (hU : U.length = l.length) (c : Cn) (k : Nat) (hk : k ≤ l.length) :
    ((mS l U c k).1 = true ∧ (un (l.take k) (U.take k)).Perm (c :: un (l.take k) ((mS l U c k).2.take k))) ∨ ((mS l U c k).1 = false ∧ (mS l U c k).2 = U ∧ c ∉ un (l.take k) (U.take k)) := by
  induction k with
  | zero => exact .inr ⟨rfl, rfl, by simp [un]⟩
  | succ k ih =>
    have hk' : k < l.length := hk
    have hg := mS_get l U c k k (Nat.le_refl _)
    have hln := mS_len l U c k
    have hst : mS l U c (k + 1) = if (mS l U c k).1 = false ∧ U[k]! = false ∧ l[k]! = c then (true, (mS l U c k).2.set k true) else mS l U c k := rfl
    rw [hst, un_snoc hk' hU]
    rcases ih (by omega) with ⟨h1, h2⟩ | ⟨h1, h2, h3⟩
    · rw [if_neg (by rw [h1]; simp)]
      refine .inl ⟨h1, ?_⟩
      rw [un_snoc hk' (by rw [hln]; exact hU), hg]
      exact (h2.append_right _)
    · by_cases hc : U[k]! = false ∧ l[k]! = c
      · rw [if_pos ⟨h1, hc⟩]
        refine .inl ⟨rfl, ?_⟩
        have hu : k < U.length := by omega
        have e : un (l.take (k + 1)) ((U.set k true).take (k + 1)) = un (l.take k) (U.take k) := by
          rw [take_set hu, List.take_succ_eq_append_getElem hk']
          unfold un
          rw [List.zip_append (by simp; omega), List.filter_append, List.map_append]
          simp
        simp only [h2]
        rw [e, hc.1, hc.2]
        exact List.perm_append_singleton c _
      · rw [if_neg (fun h => hc h.2)]
        refine .inr ⟨h1, h2, ?_⟩
        cases hb : U[k]! with
        | true => rw [if_pos rfl, List.append_nil]; exact h3
        | false =>
          have : c ≠ l[k]! := fun e => hc ⟨hb, e.symm⟩
          intro hm
          rcases List.mem_append.1 hm with hm | hm
          · exact h3 hm
          · rw [if_neg (by simp), List.mem_singleton] at hm; exact this hm
def uT (l T : List Cn) : Nat → List Bool
  | 0 => List.replicate l.length false
  | i + 1 => (mS l (uT l T i) T[i]! l.length).2
theorem uT_len (l T : List Cn) (i : Nat) : (uT l T i).length = l.length := by
  induction i with
  | zero => simp [uT]
  | succ i ih => unfold uT; rw [mS_len, ih]
theorem un_none (l : List Cn) : un l (List.replicate l.length false) = l := by
  induction l with
  | nil => rfl
  | cons x r ih =>
    have h : un (x :: r) (List.replicate (x :: r).length false) = x :: un r (List.replicate r.length false) := by
      simp [un, List.replicate_succ]
    rw [h, ih]
theorem mS_step {l T R : List Cn} {U : List Bool} (hU : U.length = l.length) {c : Cn} (h : (un l U).Perm (c :: R)) : (mS l U c l.length).1 = true ∧ (un l (mS l U c l.length).2).Perm R := by
  have hi := mS_inv l U hU c l.length (Nat.le_refl _)
  have h2 : (mS l U c l.length).2.length = l.length := by rw [mS_len, hU]
  rw [List.take_length] at hi
  rw [show U.take l.length = U by rw [← hU, List.take_length]] at hi
  rw [show (mS l U c l.length).2.take l.length = (mS l U c l.length).2 by rw [List.take_of_length_le (by omega)]] at hi
  rcases hi with ⟨a, b⟩ | ⟨a, b, d⟩
  · exact ⟨a, List.Perm.cons_inv (b.symm.trans h)⟩
  · exact absurd (h.symm.subset (by simp)) d
theorem uT_inv {l T R : List Cn} (hp : l.Perm (T ++ R)) (i : Nat) (hi : i ≤ T.length) : (un l (uT l T i)).Perm (T.drop i ++ R) := by
  induction i with
  | zero => rw [List.drop_zero]; unfold uT; rw [un_none]; exact hp
  | succ i ih =>
    have hi' : i < T.length := hi
    have h := ih (by omega)
    rw [List.drop_eq_getElem_cons hi', ← getElem!_pos T i hi', List.cons_append] at h
    unfold uT
    exact (mS_step (T := T) (uT_len l T i) h).2
theorem uT_found {l T R : List Cn} (hp : l.Perm (T ++ R)) (i : Nat) (hi : i < T.length) : (mS l (uT l T i) T[i]! l.length).1 = true := by
  have h := uT_inv hp i (by omega)
  rw [List.drop_eq_getElem_cons hi, ← getElem!_pos T i hi, List.cons_append] at h
  exact (mS_step (T := T) (uT_len l T i) h).1
theorem un_mem {l : List Cn} {U : List Bool} (hU : U.length = l.length) {k : Nat} (hk : k < l.length) (h : U[k]! = false) : l[k]! ∈ un l U := by
  have hu : k < U.length := by omega
  rw [getElem!_pos U k hu] at h
  rw [getElem!_pos l k hk]
  unfold un
  refine List.mem_map.2 ⟨(l[k], U[k]), List.mem_filter.2 ⟨?_, by simp [h]⟩, rfl⟩
  rw [List.mem_iff_getElem]
  exact ⟨k, by simp; omega, by simp⟩
theorem topS_split (l : List Cn) (many : Int) : ∃ R, l.Perm (topS l many ++ R) ∧ (topS l many ++ R).Pairwise fun x y => y.f ≤ x.f := by
  refine ⟨((sortP l).drop many.toNat).map (·.1), ?_, ?_⟩
  · unfold topS
    rw [← List.map_append, List.take_append_drop]
    have := (sortP_perm l).map (·.1)
    rw [pl_fst] at this
    exact this.symm
  · unfold topS
    rw [← List.map_append, List.take_append_drop, List.pairwise_map]
    exact (sortP_sorted l).imp fun {x y} h => by rw [less_iff] at h; omega
theorem topS_min (l : List Cn) (many : Int) : (topS l many).length = min l.length many.toNat := by
  unfold topS
  rw [List.length_map, List.length_take, (sortP_perm l).length_eq, pl_len]
  omega
end Go.Pv.Hq
set_option linter.unusedSimpArgs false
set_option linter.unusedVariables false
set_option maxHeartbeats 2000000
set_option maxRecDepth 20000
namespace Go.Proofs
open Go.Pv Go.Pv.Hq
def bA (b : Bool) : AV := .bool b
theorem bA_pl (b : Bool) : (bA b).pl = true := rfl
set_option maxHeartbeats 16000000 in
theorem statsTop_run (l : List Cn) (m : Int) (hl : l.length ≤ maxLen) (hm : 0 ≤ m ∧ m ≤ 255) : Run Try.prog 3 [.sl 5 (l.map cnA) false, .int .u8 m] (.bool true) := by
  have w := works_run
  refine Try.run3 (by simp) ?_
  unfold Try.c3
  have hla : (l.map cnA).length = l.length := List.length_map _
  simp only [maxLen] at hl
  simp (disch := first | omega | (simp only [pvl] at *; omega)) only [↓pvd,pva,Pv.put,bin2,int2,binB2,un1,AV.flat,pvf,szOk,notStr,setCells,AV.one,resX,layC,layA,lay,List.map,List.replicate,List.length_replicate,pve,seval,reduceCtorEq]
  refine awR_call w rfl rfl ?_
  by_cases hg : 200 < l.length
  · simp (disch := first|omega|(simp only[pvl];omega)) only [↓pvd,pva,Pv.put,bin2,int2,binB2,un1,AV.flat,pvf,szOk,notStr,setCells,AV.one,resX,layC,layA,lay,List.map,List.replicate,List.length_replicate,pve,seval,reduceCtorEq,hla,hg]
    (refine Ends_rq [] ?_; simp (disch := first|omega|(simp only[pvl];omega)) only [↓pvd,pva,Pv.put,bin2,int2,binB2,un1,AV.flat,pvf,szOk,notStr,setCells,AV.one,resX,layC,layA,lay,List.map,List.replicate,List.length_replicate,pve,seval,reduceCtorEq]; exact ⟨_,rfl,rfl,rfl⟩)
  have q := run_frz (top_run l m false (by omega) (by omega))
  simp only [frz,frzA,frzC] at q
  have htl := Hq.topS_min l m
  obtain ⟨R, hpm, hso⟩ := topS_split l m
  generalize topS l m = T at *
  have hlt : (T.map cnA).length = T.length := List.length_map _
  have hmn : min (l.length : Int) m = T.length := by omega
  have hcv : IntKind.i64.wrap m = m := by
    rw [IntKind.wrap_i64]; omega
  simp (disch := first|omega|(simp only[pvl];omega)) only [↓pvd,pva,Pv.put,bin2,int2,binB2,un1,AV.flat,pvf,szOk,notStr,setCells,AV.one,resX,layC,layA,lay,List.map,List.replicate,List.length_replicate,pve,seval,reduceCtorEq,hla,hg,hcv]
  refine awR_call q rfl rfl ?_
  simp (disch := first|omega|(simp only[pvl];omega)) only [↓pvd,pva,Pv.put,bin2,int2,binB2,un1,AV.flat,pvf,szOk,notStr,setCells,AV.one,resX,layC,layA,lay,List.map,List.replicate,List.length_replicate,pve,seval,reduceCtorEq,hla,hlt,hcv,hmn,bne_self_eq_false]
  refine aw_loop (fun i : Nat => ⟨[(0, .sl 5 (l.map cnA) false), (5, .sl 5 (T.map cnA) false), (6, .vec 0 1 0 l.length), (34, .sl 5 (T.map cnA) false), (35, .int .i64 T.length), (36, .int .i64 i)], [some ⟨4, (uT l T i).map bA, true⟩]⟩) (fun i => i ≤ T.length) (fun i => T.length - i) 0 ?_ (by omega) ?_
  · have e : (uT l T 0).map bA = List.replicate l.length (AV.bool false) := by simp [uT, bA]
    rw [← e]
    simp (disch := first|omega|(simp only[pvl];omega)) only [↓pvd,pva,Pv.put,bin2,int2,binB2,un1,AV.flat,pvf,szOk,notStr,setCells,AV.one,resX,layC,layA,lay,List.map,List.replicate,List.length_replicate,pve,seval,reduceCtorEq,ids_map bA_pl,ren_map bA_pl]
    try rfl
  · intro i hi
    unfold Try.c3b1
    by_cases hx : i < T.length
    · have hgi : (T.map cnA)[i]? = some (.agg [.int .i64 T[i]!.p, .int .i64 T[i]!.f, .int .i64 T[i]!.b, .int .i64 T[i]!.s, .int .i64 T[i]!.e]) := map_get hx
      have hfd := uT_found hpm i hx
      have hul := uT_len l T i
      have hun : uT l T (i + 1) = (mS l (uT l T i) T[i]! l.length).2 := rfl
      have hprev : 0 < i → T[i]!.f ≤ T[i - 1]!.f := fun h0 => by
        have h1 := List.pairwise_iff_getElem.1 (List.pairwise_append.1 hso).1 (i - 1) i (by omega) hx (by omega)
        rwa [← getElem!_pos T i hx, ← getElem!_pos T (i - 1) (by omega)] at h1
      have hpr2 : 0 < i → (T.map cnA)[i - 1]? = some (.agg [.int .i64 T[i - 1]!.p, .int .i64 T[i - 1]!.f, .int .i64 T[i - 1]!.b, .int .i64 T[i - 1]!.s, .int .i64 T[i - 1]!.e]) := fun h0 => map_get (by omega)
      generalize T[i]! = c at *
      generalize T[i - 1]! = c0 at *
      generalize hU1 : uT l T (i + 1) = U1 at *
      generalize uT l T i = U at *
      generalize hTR : T.map cnA = TR at *
      simp (disch := first|omega|(simp only[pvl];omega)) only [↓pvd,pva,Pv.put,bin2,int2,binB2,un1,AV.flat,pvf,szOk,notStr,setCells,AV.one,resX,layC,layA,lay,List.map,List.replicate,List.length_replicate,pve,seval,reduceCtorEq,hgi,hla,hlt]
      refine aw_loop (fun k : Nat => ⟨[(0, .sl 5 (l.map cnA) false), (5, .sl 5 TR false), (6, .vec 0 1 0 l.length), (7, .int .i64 i), (8, .eptr 1 0 0), (9, .bool (mS l U c k).1), (34, .sl 5 TR false), (35, .int .i64 T.length), (36, .int .i64 i), (41, .sl 5 (l.map cnA) false), (42, .int .i64 l.length), (43, .int .i64 k)], [some ⟨4, (mS l U c k).2.map bA, true⟩, some ⟨27, [.agg [.int .i64 c.p, .int .i64 c.f, .int .i64 c.b, .int .i64 c.s, .int .i64 c.e]], true⟩]⟩) (fun k => k ≤ l.length) (fun k => l.length - k) 0 ?_ (by omega) ?_
      · simp only [mS]
        simp (disch := first|omega|(simp only[pvl];omega)) only [↓pvd,pva,Pv.put,bin2,int2,binB2,un1,AV.flat,pvf,szOk,notStr,setCells,AV.one,resX,layC,layA,lay,List.map,List.replicate,List.length_replicate,pve,seval,reduceCtorEq,ids_map bA_pl,ren_map bA_pl]
        try rfl
      intro k hk
      unfold Try.c3b0
      by_cases hy : k < l.length
      · have hgk : (l.map cnA)[k]? = some (.agg [.int .i64 l[k]!.p, .int .i64 l[k]!.f, .int .i64 l[k]!.b, .int .i64 l[k]!.s, .int .i64 l[k]!.e]) := map_get hy
        have hml := mS_len l U c k
        have hum : ((mS l U c k).2.map bA)[k]? = some (.bool (mS l U c k).2[k]!) := map_get (by omega)
        have hst : mS l U c (k + 1) = if (mS l U c k).1 = false ∧ U[k]! = false ∧ l[k]! = c then (true, (mS l U c k).2.set k true) else mS l U c k := rfl
        rw [mS_get l U c k k (Nat.le_refl _)] at hum
        have hlm : ((mS l U c k).2.map bA).length = l.length := by rw [List.length_map]; omega
        have hpl : ((mS l U c k).2.map bA).all AV.pl = true := pl_map bA_pl
        have hms : ((mS l U c k).2.set k true).map bA = ((mS l U c k).2.map bA).set k (.bool true) := List.map_set
        have hpl2 : (((mS l U c k).2.map bA).set k (.bool true)).all AV.pl = true := by rw [← hms]; exact pl_map bA_pl
        generalize l[k]! = x at *
        generalize U[k]! = u at *
        generalize hM1 : mS l U c (k + 1) = M1 at *
        generalize hM : mS l U c k = M at *
        obtain ⟨fd, U2⟩ := M
        simp only at hms hpl hpl2 hlm hum hst hml ⊢
        generalize hR2 : U2.map bA = R2 at *
        cases fd with
        | true =>
          rw [if_neg (by simp)] at hst
          simp (disch := first|omega|(simp only[pvl];omega)) only [↓pvd,pva,Pv.put,bin2,int2,binB2,un1,AV.flat,pvf,szOk,notStr,setCells,AV.one,resX,layC,layA,lay,List.map,List.replicate,List.length_replicate,pve,seval,reduceCtorEq,hgk,hla,hum,hlm,ids_all hpl,ren_all hpl]
          refine ⟨k + 1, ?_, by omega, by omega⟩
          rw [hM1, hst]
          simp only [hR2]
          rfl
        | false =>
          cases u with
          | true =>
            rw [if_neg (by simp)] at hst
            simp (disch := first|omega|(simp only[pvl];omega)) only [↓pvd,pva,Pv.put,bin2,int2,binB2,un1,AV.flat,pvf,szOk,notStr,setCells,AV.one,resX,layC,layA,lay,List.map,List.replicate,List.length_replicate,pve,seval,reduceCtorEq,hgk,hla,hum,hlm,ids_all hpl,ren_all hpl]
            refine ⟨k + 1, ?_, by omega, by omega⟩
            rw [hM1, hst]
            simp only [hR2]
            rfl
          | false =>
            by_cases hxc : x = c
            · subst hxc
              rw [if_pos ⟨rfl, rfl, rfl⟩] at hst
              simp (disch := first|omega|(simp only[pvl];omega)) only [↓pvd,pva,Pv.put,bin2,int2,binB2,un1,AV.flat,pvf,szOk,notStr,setCells,AV.one,resX,layC,layA,lay,List.map,List.replicate,List.length_replicate,pve,seval,reduceCtorEq,hgk,hla,hum,hlm,ids_all hpl,ren_all hpl,ids_all hpl2,ren_all hpl2,eqCells,beq_self_eq_true,Bool.and_self]
              refine ⟨k + 1, ?_, by omega, by omega⟩
              rw [hM1, hst]
              simp only [hms]
              rfl
            · rw [if_neg (fun h => hxc h.2.2)] at hst
              have hne : (decide (x.p = c.p) && (decide (x.f = c.f) && (decide (x.b = c.b) && (decide (x.s = c.s) && decide (x.e = c.e))))) = false := Bool.eq_false_iff.2 fun h => hxc (by
                simp only [Bool.and_eq_true,decide_eq_true_eq] at h
                obtain ⟨e1, e2, e3, e4, e5⟩ := h
                cases x; cases c
                simp only at e1 e2 e3 e4 e5
                subst e1 e2 e3 e4 e5
                rfl)
              simp (disch := first|omega|(simp only[pvl];omega)) only [↓pvd,pva,Pv.put,bin2,int2,binB2,un1,AV.flat,pvf,szOk,notStr,setCells,AV.one,resX,layC,layA,lay,List.map,List.replicate,List.length_replicate,pve,seval,reduceCtorEq,hgk,hla,hum,hlm,ids_all hpl,ren_all hpl,eqCells,hne]
              refine ⟨k + 1, ?_, by omega, by omega⟩
              rw [hM1, hst]
              simp only [hR2]
              rfl
      · obtain rfl : k = l.length := by omega
        have hpl : ((mS l U c l.length).2.map bA).all AV.pl = true := pl_map bA_pl
        rw [hfd]
        by_cases h0 : 0 < i
        · have hpv := hprev h0
          have hpr := hpr2 h0
          have hix : ((i : Int) - 1).toNat = i - 1 := by omega
          have hnl : ¬ (c0.f < c.f) := by omega
          rw [← hun] at hpl ⊢
          generalize hR2 : U1.map bA = R2 at *
          simp (disch := first|omega|(simp only[pvl];omega)) only [↓pvd,pva,Pv.put,bin2,int2,binB2,un1,AV.flat,pvf,szOk,notStr,setCells,AV.one,resX,layC,layA,lay,List.map,List.replicate,List.length_replicate,pve,seval,reduceCtorEq,hla,hlt,h0,hix,hpr,hnl,ids_all hpl,ren_all hpl]
          exact ⟨i + 1, by rw [hU1, hR2]; rfl, by omega, by omega⟩
        · rw [← hun] at hpl ⊢
          generalize hR2 : U1.map bA = R2 at *
          simp (disch := first|omega|(simp only[pvl];omega)) only [↓pvd,pva,Pv.put,bin2,int2,binB2,un1,AV.flat,pvf,szOk,notStr,setCells,AV.one,resX,layC,layA,lay,List.map,List.replicate,List.length_replicate,pve,seval,reduceCtorEq,hla,hlt,h0,ids_all hpl,ren_all hpl]
          exact ⟨i + 1, by rw [hU1, hR2]; rfl, by omega, by omega⟩
    · obtain rfl : i = T.length := by omega
      have hul := uT_len l T T.length
      have huv := uT_inv hpm T.length (Nat.le_refl _)
      rw [List.drop_length, List.nil_append] at huv
      have hout : ∀ k, k < l.length → (uT l T T.length)[k]! = false → 0 < T.length → l[k]!.f ≤ T[T.length - 1]!.f := fun k hk hb h0 => by
        have h1 : l[k]! ∈ R := huv.subset (un_mem hul hk hb)
        have h2 : T[T.length - 1]! ∈ T := by rw [getElem!_pos T _ (by omega)]; exact List.getElem_mem _
        exact (List.pairwise_append.1 hso).2.2 _ h2 _ h1
      have hpr2 : 0 < T.length → (T.map cnA)[T.length - 1]? = some (.agg [.int .i64 T[T.length - 1]!.p, .int .i64 T[T.length - 1]!.f, .int .i64 T[T.length - 1]!.b, .int .i64 T[T.length - 1]!.s, .int .i64 T[T.length - 1]!.e]) := fun h0 => map_get (by omega)
      have hpl : ((uT l T T.length).map bA).all AV.pl = true := pl_map bA_pl
      generalize T[T.length - 1]! = c0 at *
      generalize uT l T T.length = U at *
      generalize hTR : T.map cnA = TR at *
      simp (disch := first|omega|(simp only[pvl];omega)) only [↓pvd,pva,Pv.put,bin2,int2,binB2,un1,AV.flat,pvf,szOk,notStr,setCells,AV.one,resX,layC,layA,lay,List.map,List.replicate,List.length_replicate,pve,seval,reduceCtorEq,hlt,hla]
      refine aw_loop (fun k : Nat => ⟨[(5, .sl 5 TR false), (6, .vec 0 1 0 l.length), (84, .sl 5 (l.map cnA) false), (85, .int .i64 l.length), (86, .int .i64 k)], [some ⟨4, U.map bA, true⟩]⟩) (fun k => k ≤ l.length) (fun k => l.length - k) 0 ?_ (by omega) ?_
      · simp (disch := first|omega|(simp only[pvl];omega)) only [↓pvd,pva,Pv.put,bin2,int2,binB2,un1,AV.flat,pvf,szOk,notStr,setCells,AV.one,resX,layC,layA,lay,List.map,List.replicate,List.length_replicate,pve,seval,reduceCtorEq,ids_all hpl,ren_all hpl]
        try rfl
      intro k hk
      unfold Try.c3b2
      by_cases hy : k < l.length
      · have hgk : (l.map cnA)[k]? = some (.agg [.int .i64 l[k]!.p, .int .i64 l[k]!.f, .int .i64 l[k]!.b, .int .i64 l[k]!.s, .int .i64 l[k]!.e]) := map_get hy
        have hum : (U.map bA)[k]? = some (.bool U[k]!) := map_get (by omega)
        have hlm : (U.map bA).length = l.length := by rw [List.length_map]; omega
        have hok := hout k hy
        generalize l[k]! = x at *
        generalize U[k]! = u at *
        generalize U.map bA = R2 at *
        cases u with
        | true =>
          simp (disch := first|omega|(simp only[pvl];omega)) only [↓pvd,pva,Pv.put,bin2,int2,binB2,un1,AV.flat,pvf,szOk,notStr,setCells,AV.one,resX,layC,layA,lay,List.map,List.replicate,List.length_replicate,pve,seval,reduceCtorEq,hgk,hla,hlt,hum,hlm,ids_all hpl,ren_all hpl]
          exact ⟨k + 1, rfl, by omega, by omega⟩
        | false =>
          by_cases h0 : 0 < T.length
          · have hok := hok rfl h0
            have hpr := hpr2 h0
            have hix : ((T.length : Int) - 1).toNat = T.length - 1 := by omega
            have hnl : ¬ (c0.f < x.f) := by omega
            simp (disch := first|omega|(simp only[pvl];omega)) only [↓pvd,pva,Pv.put,bin2,int2,binB2,un1,AV.flat,pvf,szOk,notStr,setCells,AV.one,resX,layC,layA,lay,List.map,List.replicate,List.length_replicate,pve,seval,reduceCtorEq,hgk,hla,hlt,hum,hlm,h0,hix,hpr,hnl,ids_all hpl,ren_all hpl]
            exact ⟨k + 1, rfl, by omega, by omega⟩
          · simp (disch := first|omega|(simp only[pvl];omega)) only [↓pvd,pva,Pv.put,bin2,int2,binB2,un1,AV.flat,pvf,szOk,notStr,setCells,AV.one,resX,layC,layA,lay,List.map,List.replicate,List.length_replicate,pve,seval,reduceCtorEq,hgk,hla,hlt,hum,hlm,h0,ids_all hpl,ren_all hpl]
            exact ⟨k + 1, rfl, by omega, by omega⟩
      · obtain rfl : k = l.length := by omega
        simp (disch := first | omega | (simp only [pvl] at *; omega)) only [↓pvd,pva,Pv.put,bin2,int2,binB2,un1,AV.flat,pvf,szOk,notStr,setCells,AV.one,resX,layC,layA,lay,List.map,List.replicate,List.length_replicate,pve,seval,reduceCtorEq]
        (refine Ends_rq [] ?_; simp (disch := first|omega|(simp only[pvl];omega)) only [↓pvd,pva,Pv.put,bin2,int2,binB2,un1,AV.flat,pvf,szOk,notStr,setCells,AV.one,resX,layC,layA,lay,List.map,List.replicate,List.length_replicate,pve,seval,reduceCtorEq]; exact ⟨_,rfl,rfl,rfl⟩)
theorem statsTop_all : ∀ xs, DatL Try.prog 6 Try.f3.params.toList xs → Run Try.prog 3 xs (.bool true) := by
  intro xs h
  rw [show Try.f3.params.toList = [22, 5] from rfl] at h
  obtain ⟨y1, y2, rfl, h1, h2⟩ := datL2 h
  obtain ⟨es, rfl, hl, g1⟩ := dat_slice Try.underlying22 h1
  obtain ⟨l, rfl, hk⟩ := map_ofP (f := cnA) (p := CnOk) (es := es) fun x hx => dat_cn (g1 x hx)
  obtain ⟨m, rfl, wm⟩ := dat_int Try.underlying5 h2
  have hm : 0 ≤ m ∧ m ≤ 255 := by
    simp [Lit.wf, IntKind.min, IntKind.max, IntKind.signed, IntKind.bits] at wm
    omega
  rw [show Try.prog.cellsOf 27 = 5 by kernel_rfl]
  exact statsTop_run l m (by simpa using hl) hm
end Go.Proofs
