/- The proofs of what the functions of this seat do. -/
import Derived.Test.YtppdpcfmkmnfjaaGreatDoorPr1
import Derived.Lib.Bytealg
import Derived.Lib.IndexLaws
import Derived.LoopIn
import Derived.LoopNIn
import Derived.OwnWalkIn
import Derived.RangeFuncBound
import Derived.RangeFuncCalls
import Derived.RangeFuncFrom
import Derived.RangeFuncLeaves
import Derived.RangeFuncNested
import Derived.Shelf.Abstract
import Derived.Shelf.RegionOpen
import Derived.TacticsInMore
import Derived.WalkKit
/-
 A loop over a function whose function keeps state in cells of its own: what the loop's body owns lies below n₁, what the function owns from there to n₂.
-/
set_option linter.unusedSimpArgs false
set_option linter.unusedVariables false
set_option maxHeartbeats 16000000
namespace Go.Pv
open Go.RowKit
structure Inner(n₁ n₂:Nat)(A B:World):Prop where
 low:Below n₁ A B
 high:∀ k,n₂≤k→k < A.heap.size→B.heap[k]?=A.heap[k]?
theorem Inner.refl(n₁ n₂:Nat)(A:World):Inner n₁ n₂ A A:=⟨Below.refl _ _,fun _ _ _=>rfl⟩
theorem Inner.trans{n₁ n₂:Nat}{A B C:World}(h:Inner n₁ n₂ A B)(k:Inner n₁ n₂ B C):Inner n₁ n₂ A C :=
 ⟨h.low.trans k.low,fun i h1 h2=>(k.high i h1 (Nat.lt_of_lt_of_le h2 h.low.size)).trans (h.high i h1 h2)⟩
def Iter{α:Type}(F:Fence)(n:Nat)(P:Program)(g:Nat)(lb:Array Value)(enc:α→Value)(n₁ n₂:Nat)(xs:List α)(w:World):Prop :=
 ∀(l:Nat) (J Jx:List α→World→Prop) (W:World),w.heap.size≤W.heap.size →(∀ k,n₁≤k→k < n₂→W.heap[k]?=w.heap[k]?) →
  (∀ pre A B,J pre A→Inner n₁ n₂ A B→J pre B) →
  (∀ pre x A,x∈xs→J pre A→YieldAt F (n - 1) P l #[enc x] A fun e B =>
    (e=.returned (.bool true)∧J (pre ++ [x]) B∧A.heap.size≤B.heap.size ∧(∀ k,n₁≤k→k < n₂→B.heap[k]?=A.heap[k]?)) ∨(e=.returned (.bool false)∧Jx (pre ++ [x]) B)) →
  J [] W →
  CallsIn F n P g (#[.func (.yield l) #[] #[]] ++ lb) W fun e W'=>(∃ v,e=.returned v) ∧(J xs W'∨∃ pre,pre <+: xs∧Jx pre W')
def bodyEnd{α:Type}(n₁:Nat)(I:List α→World→Prop)(Ix:Nat→List α→World→Prop)(xs:List α)(W:World):Exit→Act→World→Prop
 | .normal,_,W'=>W.heap.size≤W'.heap.size ∧(∀ k,n₁≤k→k < W.heap.size→W'.heap[k]?=W.heap[k]?)∧I xs W'
 | .exit id,_,W'=>W.heap.size≤W'.heap.size ∧(∀ k,n₁≤k→k < W.heap.size→W'.heap[k]?=W.heap[k]?)∧Ix id xs W'
 | _,_,_=>False
variable {F:Fence} {n:Nat} {P:Program}
theorem wpIn_range{α:Type}{g:Operand}{p:Tmp}{assign body:Code}{Q:Exit→Act→World→Prop}{a:Act}{w:World}
  (hro:F.round=none) (h1:1≤n) {gf:Nat} {lb:Array Value} (hg:a.eval g=.func (.func gf) #[] lb) (hFg:F.fn gf) (eg:∀ args w,(callFunc gf args).run P w=.ok (.enter gf args) w)
  {enc:α→Value} {n₁:Nat} {xs:List α} (hn:n₁≤w.heap.size) (hseq:Iter F (n - 1) P gf lb enc n₁ w.heap.size xs w)
  (I:List α→World→Prop) (Ix:Nat→List α→World→Prop) (hI:∀ pre A B,I pre A→Below n₁ A B→I pre B) (hIx:∀ id pre A B,Ix id pre A→Below n₁ A B→Ix id pre B) (h0:I [] w) (a₁:α→Act)
  (hassign:∀(l:Nat) (x:α) (W:World) (K:Act→World→Prop),K (a₁ x) W →
    assign.wpIn (F.inRound l) (n - 1 - 1) P (Exit.then K (fun _ _ _=>False)) { tmps:=a.tmps.setIfInBounds p (enc x),defers:=[] } W)
  (hbody:∀(l:Nat) (pre:List α) (x:α) (W:World),x∈xs→I pre W→body.wpIn (F.inRound l) (n - 1 - 1) P (bodyEnd n₁ I Ix (pre ++ [x]) W) (a₁ x) W)
  (hdone:∀(D:Nat) (W:World),w.heap.size≤D→I xs W→W.heap[D]?=some (.deferred (some []))→Q .normal { a with defers:={ target:=.collected D,args:=#[] } :: a.defers } W)
  (hstop:∀(D:Nat) (id:Nat) (pre:List α) (W:World),w.heap.size≤D→pre <+: xs→Ix id pre W→W.heap[D]?=some (.deferred (some [])) →(Code.exit id).wpIn F n P Q { a with defers:={ target:=.collected D,args:=#[] } :: a.defers } W) :
  (Code.rangeFunc g #[p] assign body).wpIn F n P Q a w:=by
 refine wpIn_rangeFunc fun fn hfn=>?_
 rw [hro]
 obtain ⟨rc,hrc⟩:∃ rc:LoopState→Option Code→Loop,rc=fun st pe=>{ state:=st,pending:=pe,fn,tmps:=a.tmps,params:=#[p],assign,body,defers:=w.heap.size }:=⟨_,rfl⟩
 obtain ⟨W1,hW1⟩:∃ W1,(w.alloc (.deferred (some []))).alloc (.loop (rc .ready none))=W1:=⟨_,rfl⟩
 have hB1:Below w.heap.size w W1:=by
  rw [← hW1]; exact((Below.refl _ w).alloc (Nat.le_refl _) _).alloc (by simp) _
 have hL1:W1.heap[w.heap.size+1]?=some (.loop (rc .ready none)):=by
  rw [← hW1]; have:=World.alloc_heap_new (w.alloc (.deferred (some []))) (.loop (rc .ready none)); rwa [World.size_alloc] at this
 have hK1:W1.heap[w.heap.size]?=some (.deferred (some [])):=by
  rw [← hW1]; exact(Below.heap_alloc _ _ _ (by simp)).trans (World.alloc_heap_new w _)
 have hput:∀(W:World) (o:Obj),Below n₁ W (W.putObj (w.heap.size+1) o):=fun W o =>
  (Below.refl n₁ W).trans ⟨rfl,rfl,rfl,by simp [World.putObj],fun k hk=>World.putObj_heap_other (by omega)⟩
 refine⟨w.heap.size+1,[{ target:=.collected w.heap.size,args:=#[] }],W1,{ target:=.fn (.func gf) lb,args:=#[.func (.yield (w.heap.size+1)) #[] #[]] },W1,gf,
  #[.func (.yield (w.heap.size+1)) #[] #[]] ++ lb,W1,?_,?_,?_,?_,fun _=>h1,?_⟩
 ·rw [← hW1,hrc]; exact run_enterLoop_outer _ _ _ _ _
 ·simp only[resolve,hg]
  simp [go_sem]
 ·intro f' hf'; simp [Target.leads] at hf'; subst hf'; exact hFg
 ·simp [invoke,go_sem,eg]
 ·refine(hseq (w.heap.size+1)
   (fun pre W=>I pre W∧W.heap[w.heap.size+1]?=some (.loop (rc .ready none))∧W.heap[w.heap.size]?=some (.deferred (some [])))
   (fun pre W=>∃ id,Ix id pre W∧W.heap[w.heap.size+1]?=some (.loop (rc .done (some (.exit id))))∧W.heap[w.heap.size]?=some (.deferred (some [])))
   W1 hB1.size (fun k _ hk=>hB1.block k hk)
   (fun pre A B h hk=>⟨hI pre A B h.1 hk.low,(hk.high _ (by omega) (Array.getElem?_eq_some_iff.1 h.2.1).1).trans h.2.1,(hk.high _ (by omega) (Array.getElem?_eq_some_iff.1 h.2.2).1).trans h.2.2⟩)
   ?_ ⟨hI _ _ _ h0 (hB1.mono hn),hL1,hK1⟩).mono ?_
  ·rintro pre x W hxs ⟨hi,hl,hk⟩
   have hlt:w.heap.size+1 < W.heap.size:=(Array.getElem?_eq_some_iff.1 hl).1
   have hy:=run_yield (P:=P) (args:=#[enc x]) hl (by rw [hrc]; rfl)
   refine⟨fn,_,assign,body,by rw [hrc] at hy; exact hy,roundIn_of_wpIn hfn ?_⟩
   have e1:((#[p].zip #[enc x]).foldl (fun tmps (t,a)=>tmps.setIfInBounds t a) a.tmps)=a.tmps.setIfInBounds p (enc x):=by simp
   rw [e1]
   refine hassign _ x W _ ⟨_,run_beginRound hl (by rw [hrc]),?_⟩
   obtain ⟨Wb,hWb⟩:∃ Wb,W.putObj (w.heap.size+1) (.loop { rc .ready none with state:=.busy })=Wb:=⟨_,rfl⟩
   have hl2:Wb.heap[w.heap.size+1]?=some (.loop { rc .ready none with state:=.busy }):=by rw [← hWb]; exact World.putObj_heap_same hlt
   have hk2:Wb.heap[w.heap.size]?=some (.deferred (some [])):=by rw [← hWb]; exact(World.putObj_heap_other (by omega)).trans hk
   have hs2:Wb.heap.size=W.heap.size:=by rw [← hWb]; simp [World.putObj]
   have hb2:Below n₁ W Wb:=by rw [← hWb]; exact hput _ _
   have ho2:∀ k,k < w.heap.size→Wb.heap[k]?=W.heap[k]?:=fun k hk=>by rw [← hWb]; exact World.putObj_heap_other (by omega)
   have hgo:=hbody (w.heap.size+1) pre x Wb hxs (hI _ _ _ hi hb2)
   rw [hWb]
   clear hWb
   refine wpIn_mono hgo ?_
   have fin:∀(jump:Option Code) (W3:World),Wb.heap.size≤W3.heap.size →(∀ k,n₁≤k→k < Wb.heap.size→W3.heap[k]?=Wb.heap[k]?) →
     (Instr.endRound (w.heap.size+1) jump).run P W3=.ok (.bool jump.isNone) (W3.putObj (w.heap.size+1) (.loop (rc (if jump.isNone then .ready else .done) jump))) ∧
     (W3.putObj (w.heap.size+1) (.loop (rc (if jump.isNone then .ready else .done) jump))).heap[w.heap.size+1]?=some (.loop (rc (if jump.isNone then .ready else .done) jump)) ∧
     (W3.putObj (w.heap.size+1) (.loop (rc (if jump.isNone then .ready else .done) jump))).heap[w.heap.size]?=some (.deferred (some [])):=fun jump W3 hsz hk3=>by
    have hl3:=(hk3 _ (by omega) (by omega)).trans hl2
    have hd3:=(hk3 w.heap.size hn (by omega)).trans hk2
    have:=run_endRound (P:=P) jump hl3
    rw [hrc] at this ⊢
    exact⟨this,World.putObj_heap_same (Array.getElem?_eq_some_iff.1 hl3).1,(World.putObj_heap_other (by omega)).trans hd3⟩
   rintro e a3 W3 hp
   cases e with
   | normal =>
    obtain ⟨hsz,hk3,hi3⟩:=hp
    obtain ⟨hr,hl4,hk4⟩:=fin none W3 hsz hk3
    refine⟨_,_,hr,.inl ⟨rfl,⟨hI _ _ _ hi3 (hput _ _),hl4,hk4⟩,by simp [World.putObj]; omega,fun k h2 h3=>?_⟩⟩
    rw [World.putObj_heap_other (by omega),hk3 k h2 (by omega),ho2 k h3]
   | exit id =>
    obtain ⟨hsz,hk3,hi3⟩:=hp
    obtain ⟨hr,hl4,hk4⟩:=fin (some (.exit id)) W3 hsz hk3
    exact⟨_,_,hr,.inr ⟨rfl,id,hIx _ _ _ _ hi3 (hput _ _),hl4,hk4⟩⟩
   | ret=>exact hp.elim
   | goto t=>exact hp.elim
   | panic ch=>exact hp.elim
   | outgrown=>exact hp.elim
  ·rintro e W2 ⟨⟨v,rfl⟩,(⟨hi,hl,hk⟩ | ⟨pre,hpre,id,hi,hl,hk⟩)⟩
   ·exact⟨none,_,by have:=run_endLoop (P:=P) hl (by rw [hrc]; simp); rw [hrc] at this; exact this,hdone _ _ (Nat.le_refl _) (hI _ _ _ hi (hput _ _)) ((World.putObj_heap_other (by omega)).trans hk)⟩
   ·exact⟨some (.exit id),_,by have:=run_endLoop (P:=P) hl (by rw [hrc]; simp); rw [hrc] at this; exact this,hstop _ id pre _ (Nat.le_refl _) hpre (hIx _ _ _ _ hi (hput _ _)) ((World.putObj_heap_other (by omega)).trans hk)⟩
end Go.Pv
set_option maxHeartbeats 2000000
set_option maxRecDepth 20000
namespace Go.Proofs
open Go.Pv Go.RowKit Go.Shelf
attribute [local go_sem] Oper.semAt_some
abbrev tx(s:List UInt8):Value:=.string ⟨s.toArray⟩
theorem calls_of_run{P:Program}{f:FuncId}{xs:List AV}{r:AV}(h:Run P f xs r)(w:World)(args:Array Value)(ho:OwnL (OwnC w fun _=>False) [] xs args.toList) :
  Calls P f args w fun e W=>∃ v I' os',e=.returned v∧OwnT W I' os' r v∧Below w.heap.size w W:=by
 refine(h.2 w (fun _=>False) [] args trivial ⟨fun b h=>h.elim,fun b h=>absurd h (blks_nil b),.nil⟩ ho).mono ?_
 rintro e W ⟨v,I',os',he,ht,hok,hs⟩
 exact⟨v,I',os',he,ht,hs.osk,hs.tape,hs.output,hs.size,fun b hb=>hs.keep b hb (blks_nil b)⟩
theorem ownl_nil{w:World}:OwnL (OwnC w fun _=>False) [] [] []:=.nil
theorem ownl_str{w:World}{s:List UInt8}{xs:List AV}{vs:List Value}(h:OwnL (OwnC w fun _=>False) [] xs vs):OwnL (OwnC w fun _=>False) [] (.str s :: xs) (tx s :: vs) :=
 .cons (os:=[]) (os':=[]) ⟨rfl,.str s⟩ h
theorem ownl_int{w:World}{k:IntKind}{n:Int}{xs:List AV}{vs:List Value}(h:OwnL (OwnC w fun _=>False) [] xs vs):OwnL (OwnC w fun _=>False) [] (.int k n :: xs) (.int k n :: vs) :=
 .cons (os:=[]) (os':=[]) ⟨rfl,.int k n⟩ h
theorem index_calls(s:List UInt8)(hs:s.length≤100000)(w:World):Calls Tryz.prog 129 #[tx s,.string ⟨#[46]⟩] w fun e W=>e=.returned (.int .i64 (Lib.indexByte s 46))∧Below w.heap.size w W:=by
 refine(calls_of_run (sindex_run s 46 hs) w _ (ownl_str (s:=s) (ownl_str (s:=[46]) ownl_nil))).mono ?_
 rintro e W ⟨v,I',os',rfl,ht,hB⟩
 refine⟨?_,hB⟩
 cases int_inv ht.2
 rfl
theorem small_calls(s:List UInt8)(hs:s.length≤100000)(w:World):Calls Tryz.prog 69 #[tx s,.int .i64 255] w fun e W=>e=.returned (.tuple #[.int .i64 (if okS s then vS s else 0),.bool (goodP s)])∧Below w.heap.size w W:=by
 refine(calls_of_run (small_run s 255 hs (by omega)) w _ (ownl_str (s:=s) (ownl_int (k:=.i64) (n:=255) ownl_nil))).mono ?_
 rintro e W ⟨v,I',os',rfl,ht,hB⟩
 refine⟨?_,hB⟩
 have key:∀(n:Int) (b:Bool),OwnT W I' os' (.tup [.int .i64 n,.bool b]) v→v=.tuple #[.int .i64 n,.bool b]:=by
  rintro n b ⟨cs,rfl,h⟩
  obtain ⟨cs⟩:=cs
  simp only at h
  generalize hx:[AV.int .i64 n,AV.bool b]=xs at h
  cases h with
  | nil=>cases hx
  | cons h1 h =>
   cases hx
   cases h with
   | cons h2 h =>
    cases h with
    | nil =>
     cases int_inv h1.2
     cases bool_inv h2.2
     rfl
 unfold smR at ht
 unfold goodP
 cases ho:okS s with
 | true=>rw [ho] at ht; rw [key _ _ ht]; rfl
 | false=>rw [ho] at ht; rw [key _ _ ht]; rfl
theorem sp_index(s:List UInt8):sp s=if Lib.indexByte s 46 < 0 then [s] else s.take (Lib.indexByte s 46).toNat :: sp (s.drop ((Lib.indexByte s 46).toNat+1)):=by
 induction s with
 | nil=>simp [sp,Lib.indexByte]
 | cons c r ih =>
  have hb:=ix_b r 46
  rw [show sp (c :: r)=if c=46 then [] :: sp r else spJ [c] (sp r) by rw [sp],show Lib.indexByte (c :: r) 46=if c == 46 then 0 else if Lib.indexByte r 46 == -1 then -1 else Lib.indexByte r 46+1 by rw [Lib.indexByte]]
  by_cases hc:c=46
  ·simp [hc]
  ·simp only[hc,if_false,beq_iff_eq]
   rw [ih]
   by_cases hx:Lib.indexByte r 46 < 0
   ·have:Lib.indexByte r 46=-1:=by omega
    rw [if_pos hx,if_pos this]
    simp [spJ]
   ·have e:(Lib.indexByte r 46+1).toNat =(Lib.indexByte r 46).toNat+1:=by omega
    rw [if_neg hx,if_neg (by omega),if_neg (by omega),e]
    simp [spJ]
def boxLen(W:World)(B:Nat):Nat:=match W.cell? ⟨B,0,none⟩ with
 | some (.string b)=>b.size
 | _=>0
theorem ba_ext(s:List UInt8)(a b:Nat):(⟨s.toArray⟩:ByteArray).extract a b =⟨((s.take b).drop a).toArray⟩:=by
 apply ByteArray.ext
 rw [ByteArray.data_extract]
 apply Array.ext'
 simp [List.drop_take]
theorem ba_take(s:List UInt8)(k:Nat):tx (s.take k)=.string ((⟨s.toArray⟩:ByteArray).extract 0 k):=by rw [ba_ext]; rfl
theorem ba_drop(s:List UInt8)(k:Nat):tx (s.drop k)=.string ((⟨s.toArray⟩:ByteArray).extract k s.length):=by rw [ba_ext,List.take_length]
theorem heap_set{W:World}{B:Nat}{u:Value}{t:TypeId}(h:W.heap[B]?=some (.cells #[u] t (0,0)))(v:Value):(W.setCell ⟨B,0,none⟩ v).heap[B]?=some (.cells #[v] t (0,0)):=by
 simp only[World.setCell,Array.getElem?_modify,h]
 simp
set_option maxRecDepth 100000 in
theorem split1_in(n l B n₁ n₂:Nat)(hn:1≤n)(s:List UInt8)(hs:s.length≤100000)(J Jx:List (List UInt8)→World→Prop)(hB:n₁≤B∧B+3≤n₂)
  (hJ:∀ pre A C,J pre A→Inner n₁ n₂ A C→J pre C)
  (hY:∀ pre x A,x∈sp s→J pre A→YieldAt Fence.wide (n - 1) Tryz.prog l #[tx x] A fun e C =>
    (e=.returned (.bool true)∧J (pre ++ [x]) C∧A.heap.size≤C.heap.size ∧(∀ k,n₁≤k→k < n₂→C.heap[k]?=A.heap[k]?)) ∨(e=.returned (.bool false)∧Jx (pre ++ [x]) C))
  (W:World) (hsz:n₂≤W.heap.size) (hb:W.heap[B]?=some (.cells #[tx s] 9 (0,0))) (hb1:W.heap[B+1]?=some (.cells #[.string ⟨#[46]⟩] 9 (0,0))) (hb2:W.heap[B+2]?=some (.cells #[.int .i64 0] 3 (0,0))) (h0:J [] W) :
  CallsIn Fence.wide n Tryz.prog 127 #[.func (.yield l) #[] #[],.pointer (some ⟨B+1,0,none⟩),.pointer (some ⟨B,0,none⟩),.pointer (some ⟨B+2,0,none⟩)] W fun e W'=>(∃ v,e=.returned v) ∧
   (J (sp s) W'∨∃ pre,pre <+: sp s∧Jx pre W'):=by
 refine callsIn_of_wp Tryz.func127 rfl trivial ?_ rfl
 simp only[Tryz.ntmps127,List.size_toArray,List.length_cons,List.length_nil,Nat.reduceAdd,Nat.reduceSub,Array.replicate_succ,Array.replicate_zero,List.push_toArray,List.append_toArray,List.nil_append,List.cons_append]
 have hc1:W.cell? ⟨B+1,0,none⟩=some (.string ⟨#[46]⟩):=by simp [World.cell?,hb1]
 gi_wp2
 gi_loopw [7] (fun _ wr=>∃(pre:List (List UInt8)) (s':List UInt8),sp s=pre ++ sp s'∧s'.length≤s.length∧J pre wr∧n₂≤wr.heap.size∧wr.heap[B]?=some (.cells #[tx s'] 9 (0,0))∧wr.heap[B+1]?=some (.cells #[.string ⟨#[46]⟩] 9 (0,0))∧wr.heap[B+2]?=some (.cells #[.int .i64 0] 3 (0,0)))
  (fun _ wr=>boxLen wr B)
 case atStart=>exact⟨[],s,rfl,Nat.le_refl _,h0,hsz,hb,hb1,hb2⟩
 case round =>
  obtain ⟨pre,s',hsp,hlen,hJs,hz,g0,g1,g2⟩:=hrel
  have c0:wr.cell? ⟨B,0,none⟩=some (tx s'):=by simp [World.cell?,g0]
  have c1:wr.cell? ⟨B+1,0,none⟩=some (.string ⟨#[46]⟩):=by simp [World.cell?,g1]
  have c2:wr.cell? ⟨B+2,0,none⟩=some (.int .i64 0):=by simp [World.cell?,g2]
  have hx:=ix_b s' 46
  have hsi:=sp_index s'
  by_cases hx0:Lib.indexByte s' 46 < 0
  ·rw [if_pos hx0] at hsi
   gi_wp2_with (refine⟨trivial,?_⟩; gi_at_call 129; refine(callsIn_wide.2 (index_calls s' (by omega) _)).mono ?_; rintro e W1 ⟨rfl,hB1⟩; have k0:=(hB1.cell (p:=⟨B,0,none⟩) (by show B < _; omega)).trans c0; obtain ⟨fn,tmps,assign,body,hy,hR⟩:=hY pre s' W1 (by rw [hsp,hsi]; simp) (hJ _ _ _ hJs ⟨hB1.mono (by omega),fun k _ h2=>hB1.block k h2⟩))
   refine hR.mono ?_
   rintro e W3 (⟨rfl,hJ3,hz3,hk3⟩ | ⟨rfl,hJx3⟩)
   ·gi_wp2
    go_end0
    exact⟨⟨_,rfl⟩,.inl (by rw [hsp,hsi]; exact hJ3)⟩
   ·gi_wp2
    go_end0
    exact⟨⟨_,rfl⟩,.inr ⟨_,by rw [hsp,hsi]; exact List.prefix_refl _,hJx3⟩⟩
  ·rw [if_neg hx0] at hsi
   have htk:tx (s'.take (Lib.indexByte s' 46).toNat)=.string ((⟨s'.toArray⟩:ByteArray).extract 0 (Lib.indexByte s' 46).toNat):=ba_take _ _
   have hdr:tx (s'.drop ((Lib.indexByte s' 46).toNat+1))=.string ((⟨s'.toArray⟩:ByteArray).extract ((Lib.indexByte s' 46).toNat+1) s'.length):=ba_drop _ _
   gi_wp2_with (refine⟨trivial,?_⟩; gi_at_call 129; refine(callsIn_wide.2 (index_calls s' (by omega) _)).mono ?_; rintro e W1 ⟨rfl,hB1⟩; have k0:=(hB1.cell (p:=⟨B,0,none⟩) (by show B < _; omega)).trans c0; have k1:=(hB1.cell (p:=⟨B+1,0,none⟩) (by show B+1 < _; omega)).trans c1; have k2:=(hB1.cell (p:=⟨B+2,0,none⟩) (by show B+2 < _; omega)).trans c2; obtain ⟨fn,tmps,assign,body,hy,hR⟩:=hY pre (s'.take (Lib.indexByte s' 46).toNat) W1 (by rw [hsp,hsi]; simp) (hJ _ _ _ hJs ⟨hB1.mono (by omega),fun k _ h2=>hB1.block k h2⟩); rw [htk] at hy)
   refine hR.mono ?_
   rintro e W3 (⟨rfl,hJ3,hz3,hk3⟩ | ⟨rfl,hJx3⟩)
   ·have q0:W3.heap[B]?=some (.cells #[tx s'] 9 (0,0)):=(hk3 B (by omega) (by omega)).trans ((hB1.block B (by omega)).trans g0)
    have q1:W3.heap[B+1]?=some (.cells #[.string ⟨#[46]⟩] 9 (0,0)):=(hk3 (B+1) (by omega) (by omega)).trans ((hB1.block (B+1) (by omega)).trans g1)
    have q2:W3.heap[B+2]?=some (.cells #[.int .i64 0] 3 (0,0)):=(hk3 (B+2) (by omega) (by omega)).trans ((hB1.block (B+2) (by omega)).trans g2)
    have d0:W3.cell? ⟨B,0,none⟩=some (tx s'):=by simp [World.cell?,q0]
    have d1:W3.cell? ⟨B+1,0,none⟩=some (.string ⟨#[46]⟩):=by simp [World.cell?,q1]
    have f0:W3.frozen? ⟨B,0,none⟩=false:=by simp [World.frozen?,q0]
    gi_wp2
    have e1:(Lib.indexByte s' 46+1).toNat =(Lib.indexByte s' 46).toNat+1:=by omega
    rw [e1,← hdr]
    have p0:=heap_set q0 (tx (s'.drop ((Lib.indexByte s' 46).toNat+1)))
    refine⟨⟨pre ++ [s'.take (Lib.indexByte s' 46).toNat],s'.drop ((Lib.indexByte s' 46).toNat+1),by rw [hsp,hsi]; simp,by simp; omega,?_,by rw [World.size_setCell]; have:=hB1.size; omega,p0,?_,?_⟩,?_⟩
    ·refine hJ _ _ _ hJ3 ⟨(Below.refl n₁ W3).setCell (by exact hB.1) _,fun k h1 _=>Below.heap_setCell _ _ _ _ (by show k≠B; omega)⟩
    ·rw [Below.heap_setCell _ _ _ _ (by show B+1≠B; omega)]; exact q1
    ·rw [Below.heap_setCell _ _ _ _ (by show B+2≠B; omega)]; exact q2
    ·have l0:boxLen wr B=s'.length:=by simp only[boxLen,c0]; rfl
     have l1:boxLen (W3.setCell ⟨B,0,none⟩ (tx (s'.drop ((Lib.indexByte s' 46).toNat+1)))) B =(s'.drop ((Lib.indexByte s' 46).toNat+1)).length:=by
      have:(W3.setCell ⟨B,0,none⟩ (tx (s'.drop ((Lib.indexByte s' 46).toNat+1)))).cell? ⟨B,0,none⟩=some (tx (s'.drop ((Lib.indexByte s' 46).toNat+1))):=by simp [World.cell?,p0]
      simp only[boxLen,this]; rfl
     rw [l0,l1,List.length_drop]
     omega
   ·gi_wp2
    refine bodyPost_ret (results_none rfl _ _ _) rfl ?_
    refine⟨⟨_,rfl⟩,.inr ⟨_,?_,hJx3⟩⟩
    rw [hsp,hsi]
    exact⟨sp (s'.drop ((Lib.indexByte s' 46).toNat+1)),by simp⟩
end Go.Proofs
namespace Go.Proofs
open Go.Pv Go.RowKit Go.Shelf
attribute [local go_sem] Oper.semAt_some
theorem sp_mem:∀(s:List UInt8) (x:List UInt8),x∈sp s→x.length≤s.length
 | [],x,h=>by simp [sp] at h; simp [h]
 | c :: r,x,h=>by
  have ih:=sp_mem r
  rw [show sp (c :: r)=if c=46 then [] :: sp r else spJ [c] (sp r) by rw [sp]] at h
  split at h
  ·rcases List.mem_cons.1 h with rfl | h
   ·simp
   ·have:=ih x h; simp; omega
  ·obtain ⟨p,q,e⟩:=List.exists_cons_of_ne_nil (sp_ne r)
   rw [e] at ih h
   simp only[spJ,List.mem_cons] at h ih
   rcases h with rfl | h
   ·have:=ih p (.inl rfl); simp; omega
   ·have:=ih x (.inr h); simp; omega
theorem box_new(W:World)(v:Value)(t:TypeId):(W.alloc (.cells #[v] t)).heap[W.heap.size]?=some (.cells #[v] t (0,0)):=World.alloc_heap_new W _
theorem cell_of{W:World}{B:Nat}{v:Value}{t:TypeId}(h:W.heap[B]?=some (.cells #[v] t (0,0))):W.cell? ⟨B,0,none⟩=some v:=by simp [World.cell?,h]
theorem frozen_of{W:World}{B:Nat}{v:Value}{t:TypeId}(h:W.heap[B]?=some (.cells #[v] t (0,0))):W.frozen? ⟨B,0,none⟩=false:=by simp [World.frozen?,h]
set_option maxRecDepth 100000 in
theorem split0_in(n:Nat)(a b:ByteArray)(w:World):CallsIn Fence.wide n Tryz.prog 103 #[.string a,.string b,.int .i64 0] w fun e w' =>
  e=.returned (.func (.func 127) #[] #[.pointer (some ⟨w.heap.size+1,0,none⟩),.pointer (some ⟨w.heap.size,0,none⟩),.pointer (some ⟨w.heap.size+2,0,none⟩)])∧w' =((w.alloc (.cells #[.string a] 9)).alloc (.cells #[.string b] 9)).alloc (.cells #[.int .i64 0] 3):=by
 refine callsIn_of_wp Tryz.func103 rfl trivial ?_ rfl
 simp only[Tryz.ntmps103,List.size_toArray,List.length_cons,List.length_nil,Nat.reduceAdd,Nat.reduceSub,Array.replicate_succ,Array.replicate_zero,List.push_toArray,List.append_toArray,List.nil_append,List.cons_append]
 gi_wp2
 go_ret
 exact⟨rfl,rfl⟩
set_option maxRecDepth 100000 in
theorem split_in(n:Nat)(hn:1≤n)(a b:ByteArray)(w:World):CallsIn Fence.wide n Tryz.prog 68 #[.string a,.string b] w fun e w' =>
  e=.returned (.func (.func 127) #[] #[.pointer (some ⟨w.heap.size+1,0,none⟩),.pointer (some ⟨w.heap.size,0,none⟩),.pointer (some ⟨w.heap.size+2,0,none⟩)])∧w' =((w.alloc (.cells #[.string a] 9)).alloc (.cells #[.string b] 9)).alloc (.cells #[.int .i64 0] 3):=by
 refine callsIn_of_wp Tryz.func68 rfl trivial ?_ rfl
 simp only[Tryz.ntmps68,List.size_toArray,List.length_cons,List.length_nil,Nat.reduceAdd,Nat.reduceSub,Array.replicate_succ,Array.replicate_zero,List.push_toArray,List.append_toArray,List.nil_append,List.cons_append]
 gi_wp2_with (refine⟨trivial,?_⟩; gi_at_call 103; refine(split0_in _ a b _).mono ?_; rintro e w' ⟨rfl,rfl⟩)
 go_ret
 exact⟨rfl,rfl⟩
set_option maxRecDepth 100000 in
theorem read_calls(s:List UInt8)(hs:s.length≤100000)(w:World):Calls Tryz.prog 38 #[tx s] w fun e W=>(e=.returned (.tuple #[.int .u32 (if (sp s).length=4 ∧(sp s).all goodP=true then accF (sp s) else 0),.bool (decide ((sp s).length=4 ∧(sp s).all goodP=true))]))∧Below w.heap.size w W:=by
 refine(callsIn_wide (n:=6)).1 ?_
 refine callsIn_of_wp_marks Tryz.func38 rfl trivial ?_ rfl
 simp only[Tryz.ntmps38,List.size_toArray,List.length_cons,List.length_nil,Nat.reduceAdd,Nat.reduceSub,Array.replicate_succ,Array.replicate_zero,List.push_toArray,List.append_toArray,List.nil_append,List.cons_append]
 gi_wp2
 refine wpIn_wide.2 (wp_scope_straight (wpIn_wide (n:=6).1 ?_))
 gi_wp2
 refine wpIn_label ?_
 have h61:1≤6:=by omega
 gi_wp2_with (refine⟨trivial,?_⟩; gi_at_call 68; refine(split_in _ (by omega) _ _ _).mono ?_; rintro e w' ⟨rfl,rfl⟩)
 obtain ⟨W0,hW0⟩:∃ W0,(((((w.alloc (.cells #[.int .u32 0] 35)).alloc (.cells #[.int .i64 0] 3)).alloc (.cells #[tx s] 9)).alloc (.cells #[.string ⟨#[46]⟩] 9)).alloc (.cells #[.int .i64 0] 3))=W0:=⟨_,rfl⟩
 have z0:W0.heap.size=w.heap.size+5:=by rw [← hW0]; simp
 have hB0:Below w.heap.size w W0:=by
  rw [← hW0]
  exact(((((Below.refl _ w).alloc (Nat.le_refl _) _).alloc (by simp) _).alloc (by simp; omega) _).alloc (by simp; omega) _).alloc (by simp; omega) _
 obtain ⟨b0,b1,b2,b3,b4⟩:W0.heap[w.heap.size]?=some (.cells #[.int .u32 0] 35 (0,0))∧W0.heap[w.heap.size+1]?=some (.cells #[.int .i64 0] 3 (0,0))∧W0.heap[w.heap.size+2]?=some (.cells #[tx s] 9 (0,0))∧W0.heap[w.heap.size+3]?=some (.cells #[.string ⟨#[46]⟩] 9 (0,0))∧W0.heap[w.heap.size+4]?=some (.cells #[.int .i64 0] 3 (0,0)):=by
  rw [← hW0]
  have x0:=box_new w (.int .u32 0) 35
  generalize hw1:w.alloc (.cells #[.int .u32 0] 35)=w1 at *
  have s1:w1.heap.size=w.heap.size+1:=by rw [← hw1]; simp
  have x1:=box_new w1 (.int .i64 0) 3
  generalize hw2:w1.alloc (.cells #[.int .i64 0] 3)=w2 at *
  have s2:w2.heap.size=w.heap.size+2:=by rw [← hw2]; simp; omega
  have k2:∀ k,k < w1.heap.size→w2.heap[k]?=w1.heap[k]?:=fun k hk=>by rw [← hw2]; exact Below.heap_alloc _ _ _ hk
  have x2:=box_new w2 (tx s) 9
  generalize hw3:w2.alloc (.cells #[tx s] 9)=w3 at *
  have s3:w3.heap.size=w.heap.size+3:=by rw [← hw3]; simp; omega
  have k3:∀ k,k < w2.heap.size→w3.heap[k]?=w2.heap[k]?:=fun k hk=>by rw [← hw3]; exact Below.heap_alloc _ _ _ hk
  have x3:=box_new w3 (.string ⟨#[46]⟩) 9
  generalize hw4:w3.alloc (.cells #[.string ⟨#[46]⟩] 9)=w4 at *
  have s4:w4.heap.size=w.heap.size+4:=by rw [← hw4]; simp; omega
  have k4:∀ k,k < w3.heap.size→w4.heap[k]?=w3.heap[k]?:=fun k hk=>by rw [← hw4]; exact Below.heap_alloc _ _ _ hk
  have x4:=box_new w4 (.int .i64 0) 3
  generalize hw5:w4.alloc (.cells #[.int .i64 0] 3)=w5 at *
  have k5:∀ k,k < w4.heap.size→w5.heap[k]?=w4.heap[k]?:=fun k hk=>by rw [← hw5]; exact Below.heap_alloc _ _ _ hk
  rw [s1] at x1
  rw [s2] at x2
  rw [s3] at x3
  rw [s4] at x4
  refine⟨?_,?_,?_,?_,x4⟩
  ·rw [k5 _ (by omega),k4 _ (by omega),k3 _ (by omega),k2 _ (by omega)]; exact x0
  ·rw [k5 _ (by omega),k4 _ (by omega),k3 _ (by omega)]; exact x1
  ·rw [k5 _ (by omega),k4 _ (by omega)]; exact x2
  ·rw [k5 _ (by omega)]; exact x3
 simp only[World.size_alloc,Nat.add_assoc,Nat.reduceAdd]
 rw [hW0]
 clear hW0
 refine wpIn_range (n:=6) rfl (by omega) (gf:=127) (lb:=#[.pointer (some ⟨w.heap.size+3,0,none⟩),.pointer (some ⟨w.heap.size+2,0,none⟩),.pointer (some ⟨w.heap.size+4,0,none⟩)]) rfl trivial (enters_of Tryz.func127 (by kernel_rfl) rfl)
  (enc:=tx) (n₁:=w.heap.size+2) (xs:=sp s) (by omega) ?iter
  (fun pre W=>pre.all goodP=true∧pre.length≤4∧W.heap[w.heap.size]?=some (.cells #[.int .u32 (accF pre)] 35 (0,0))∧W.heap[w.heap.size+1]?=some (.cells #[.int .i64 pre.length] 3 (0,0))∧Below w.heap.size w W)
  (fun id pre W=>id=0 ∧(pre.all goodP=false∨pre.length=5) ∧(∃ v,W.heap[w.heap.size]?=some (.cells #[.int .u32 v] 35 (0,0)))∧W.heap[w.heap.size+1]?=some (.cells #[.int .i64 0] 3 (0,0))∧Below w.heap.size w W)
  ?hI ?hIx ⟨rfl,by simp,b0,b1,hB0⟩
  (fun x=>{ tmps:=#[tx s,undef,.int .u32 0,.bool false,.pointer (some ⟨w.heap.size,0,none⟩),.pointer (some ⟨w.heap.size+1,0,none⟩),tx x,undef,undef,tx s,.func (.func 127) #[] #[.pointer (some ⟨w.heap.size+3,0,none⟩),.pointer (some ⟨w.heap.size+2,0,none⟩),.pointer (some ⟨w.heap.size+4,0,none⟩)],tx x,undef,undef,undef,undef,undef,undef,undef,undef,undef,undef,undef,undef,undef,undef,undef,undef,undef,undef,undef,undef,undef],defers:=[] }) ?assign ?body ?done ?stop
 case hI =>
  rintro pre A B ⟨h1,h2,h3,h4,h5⟩ hB
  exact⟨h1,h2,(hB.block _ (by omega)).trans h3,(hB.block _ (by omega)).trans h4,h5.trans (hB.mono (by omega))⟩
 case hIx =>
  rintro id pre A B ⟨h1,h2,⟨v,h3⟩,h4,h5⟩ hB
  exact⟨h1,h2,⟨v,(hB.block _ (by omega)).trans h3⟩,(hB.block _ (by omega)).trans h4,h5.trans (hB.mono (by omega))⟩
 case iter =>
  intro l J Jx W hsz hk hJ hY h0
  exact split1_in 5 l (w.heap.size+2) (w.heap.size+2) W0.heap.size (by omega) s hs J Jx ⟨by omega,by omega⟩ hJ hY W hsz
   ((hk _ (by omega) (by omega)).trans b2) ((hk _ (by omega) (by omega)).trans b3) ((hk _ (by omega) (by omega)).trans b4) h0
 case assign =>
  intro l x W K hK
  gi_wp2
  exact hK
 case body =>
  rintro l pre x W hxs ⟨hg,hl,g0,g1,hB⟩
  have hx:=sp_mem s x hxs
  have hW:=hB.size
  have hWz:w.heap.size+1 < W.heap.size:=(Array.getElem?_eq_some_iff.1 g1).1
  have hab:=accF_b pre hl hg
  by_cases hgx:goodP x=true
  ·have hox:okS x=true:=by unfold goodP at hgx; simp only[Bool.and_eq_true] at hgx; exact hgx.1
   have hgb:=goodP_b hgx
   have hsc:=small_calls x (by omega) 
   rw [if_pos hox,hgx] at hsc
   by_cases hl3:pre.length≤3
   ·have hab3:=hab.2.2 hl3
    gi_wp2_with (refine⟨trivial,?_⟩; gi_at_call 69; refine(CallsIn.inRound l (callsIn_wide.2 (hsc _))).mono ?_; rintro e W1 ⟨rfl,hB1⟩; have q0:=(hB1.block w.heap.size (by omega)).trans g0; have q1:=(hB1.block (w.heap.size+1) (by omega)).trans g1; have k0:=cell_of q0; have k1:=cell_of q1; have f0:=frozen_of q0; have f1:=frozen_of q1)
    have hbits:bits BinOp.or IntKind.u32 (accF pre * 256) (vS x)=accF pre * 256+vS x:=or2_un (k:=.u32) (j:=8) rfl (by omega) (by show _ <(2:Int) ^ 32; omega) (by omega) (by simpa using (by omega:vS x < 256)) (by decide) (by simp)
    rw [hbits]
    refine⟨by rw [World.size_setCell,World.size_setCell]; exact hB1.size,fun k h1 h2=>?_,?_,?_,?_,?_,?_⟩
    ·rw [Below.heap_setCell _ _ _ _ (by show k≠w.heap.size; omega),Below.heap_setCell _ _ _ _ (by show k≠w.heap.size+1; omega)]; exact hB1.block k h2
    ·rw [List.all_append,hg]; simp [hgx]
    ·simp; omega
    ·rw [accF_snoc]; exact heap_set (by rw [Below.heap_setCell _ _ _ _ (by show w.heap.size≠w.heap.size+1; omega)]; exact q0) _
    ·rw [Below.heap_setCell _ _ _ _ (by show w.heap.size+1≠w.heap.size; omega),List.length_append]; exact heap_set q1 _
    ·exact((hB.trans (hB1.mono hW)).setCell (p:=⟨w.heap.size+1,0,none⟩) (by show w.heap.size≤w.heap.size+1; omega) _).setCell (p:=⟨w.heap.size,0,none⟩) (Nat.le_refl _) _
   ·have hl4:pre.length=4:=by omega
    gi_wp2_with (refine⟨trivial,?_⟩; gi_at_call 69; refine(CallsIn.inRound l (callsIn_wide.2 (hsc _))).mono ?_; rintro e W1 ⟨rfl,hB1⟩; have q0:=(hB1.block w.heap.size (by omega)).trans g0; have q1:=(hB1.block (w.heap.size+1) (by omega)).trans g1; have k0:=cell_of q0; have k1:=cell_of q1; have f0:=frozen_of q0; have f1:=frozen_of q1)
    refine⟨by rw [World.size_setCell,World.size_setCell]; exact hB1.size,fun k h1 h2=>?_,rfl,?_,⟨accF pre,?_⟩,?_,?_⟩
    ·rw [Below.heap_setCell _ _ _ _ (by show k≠w.heap.size+1; omega),Below.heap_setCell _ _ _ _ (by show k≠w.heap.size+1; omega)]; exact hB1.block k h2
    ·exact .inr (by simp [hl4])
    ·rw [Below.heap_setCell _ _ _ _ (by show w.heap.size≠w.heap.size+1; omega),Below.heap_setCell _ _ _ _ (by show w.heap.size≠w.heap.size+1; omega)]; exact q0
    ·exact heap_set (heap_set q1 _) _
    ·exact((hB.trans (hB1.mono hW)).setCell (p:=⟨w.heap.size+1,0,none⟩) (by show w.heap.size≤w.heap.size+1; omega) _).setCell (p:=⟨w.heap.size+1,0,none⟩) (by show w.heap.size≤w.heap.size+1; omega) _
  ·have hgx:goodP x=false:=by simpa using hgx
   have hsc:=small_calls x (by omega)
   rw [hgx] at hsc
   generalize (if okS x=true then vS x else 0)=z at hsc
   gi_wp2_with (refine⟨trivial,?_⟩; gi_at_call 69; refine(CallsIn.inRound l (callsIn_wide.2 (hsc _))).mono ?_; rintro e W1 ⟨rfl,hB1⟩; have q0:=(hB1.block w.heap.size (by omega)).trans g0; have q1:=(hB1.block (w.heap.size+1) (by omega)).trans g1; have k0:=cell_of q0; have k1:=cell_of q1; have f0:=frozen_of q0; have f1:=frozen_of q1)
   refine⟨by rw [World.size_setCell,World.size_setCell]; exact hB1.size,fun k h1 h2=>?_,rfl,?_,⟨accF pre,?_⟩,?_,?_⟩
   ·rw [Below.heap_setCell _ _ _ _ (by show k≠w.heap.size+1; omega),Below.heap_setCell _ _ _ _ (by show k≠w.heap.size+1; omega)]; exact hB1.block k h2
   ·first | exact .inl ⟨x,by simp,hgx⟩ | exact .inl (by rw [List.all_append]; simp [hgx])
   ·rw [Below.heap_setCell _ _ _ _ (by show w.heap.size≠w.heap.size+1; omega),Below.heap_setCell _ _ _ _ (by show w.heap.size≠w.heap.size+1; omega)]; exact q0
   ·exact heap_set (heap_set q1 _) _
   ·exact((hB.trans (hB1.mono hW)).setCell (p:=⟨w.heap.size+1,0,none⟩) (by show w.heap.size≤w.heap.size+1; omega) _).setCell (p:=⟨w.heap.size+1,0,none⟩) (by show w.heap.size≤w.heap.size+1; omega) _
 case done =>
  rintro D W hD ⟨hg,hl,g0,g1,hB⟩ hK
  have c0:=cell_of g0
  have c1:=cell_of g1
  have hend:Below w.heap.size w (W.putObj D (.deferred none)):=hB.trans (belowK_b (w:=w) (Nat.le_refl _) W D _ _ (by omega) hK rfl rfl)
  by_cases h4:(sp s).length=4
  ·gi_wp2
   refine⟨by simp,.inl ⟨_,_,rfl,run_takeDeferred hK,?_⟩⟩
   exact⟨_,results_tmp2 rfl _ _ _,by simp [h4,hg],hend⟩
  ·gi_wp2
   refine⟨by simp,.inl ⟨_,_,rfl,run_takeDeferred hK,?_⟩⟩
   exact⟨_,results_tmp2 rfl _ _ _,by simp [h4],hend⟩
 case stop =>
  rintro D id pre W hD hpre ⟨rfl,hbad,⟨v,g0⟩,g1,hB⟩ hK
  have c0:=cell_of g0
  have c1:=cell_of g1
  have hend:Below w.heap.size w (W.putObj D (.deferred none)):=hB.trans (belowK_b (w:=w) (Nat.le_refl _) W D _ _ (by omega) hK rfl rfl)
  have hno:¬((sp s).length=4 ∧(sp s).all goodP=true):=by
   obtain ⟨r,hr⟩:=hpre
   rintro ⟨h1,h2⟩
   rw [← hr] at h1 h2
   rw [List.all_append,Bool.and_eq_true] at h2
   rw [List.length_append] at h1
   rcases hbad with h | h
   ·rw [h] at h2; cases h2.1
   ·omega
  gi_wp2
  refine⟨by simp,.inl ⟨_,_,rfl,run_takeDeferred hK,?_⟩⟩
  exact⟨_,results_tmp2 rfl _ _ _,by simp only[hno,if_false,decide_false]; rfl,hend⟩
end Go.Proofs
namespace Go.Proofs
open Go.Pv
theorem ptx_run(a b:Int)(h:0≤a∧a≤4294967295):Run Tryz.prog 143 [pfx a b] (.str (ptxS a b)):=by
 refine Tryz.run143 (by simp) ?_
 unfold Tryz.c143 ptxS
 have q:=right_run a b
 have q1:=text_run a h
 have l1:=addrS_len a
 by_cases hb:0≤b∧b≤32
 ·rw [if_pos hb]
  have q2:=put_run3 (addrS a ++ [47]) b (by simp only[List.length_append,List.length_cons,List.length_nil]; omega) (by omega)
  rw [show okb b=true from decide_eq_true hb] at q
  have l2:=numS_len b
  generalize addrS a=s at *
  generalize numS b=t at *
  simp only[bys] at q2
  have hfold:∀ x:List UInt8,List.map bv x ++ [AV.int .u8 47]=List.map bv (x ++ [47]):=fun x=>by rw [List.map_append]; rfl
  refine vZ ?_
  refine aC q rfl rfl ?_
  refine vZ ?_
  refine aD q1 rfl rfl (fun _=>rfl) ?_
  refine vZ ?_
  refine awR_callDF (ms:=[.own 1 5]) q2 (by simp (disch:=try exact dr) only[↓pvd,pz,sC,List.map,seval]; rfl) (by simp (disch:=try exact dr) only[↓pvd,pz,sC,List.map,seval]) (by simp [growL,still,ent,lay,layA,layC,layL]) ?_
  refine vZ ?_
  exact eZ
 ·rw [if_neg hb]
  rw [show okb b=false from decide_eq_false hb] at q
  refine vZ ?_
  refine aC q rfl rfl ?_
  refine vZ ?_
  exact eZ
end Go.Proofs
namespace Go.Proofs
open Go.Pv Go.RowKit
theorem read_run(s:List UInt8)(hs:s.length≤100000):Run Tryz.prog 38 [.str s] (rdA (sp s)):=by
 refine⟨?_,?_⟩
 ·exact can_of Tryz.func38 rfl rfl
 intro w I os args hq hos ho
 obtain ⟨args⟩:=args
 generalize hxs:[AV.str s]=ys at ho
 cases ho with
 | nil=>cases hxs
 | cons ha ho =>
  cases hxs
  cases ho with
  | nil =>
   unfold OwnC at ha
   obtain ⟨rfl,ha⟩:=ha
   cases ha
   refine(read_calls s hs w).mono ?_
   rintro e W ⟨rfl,hB⟩
   refine⟨_,I,[],rfl,?_,⟨fun b h=>⟨Nat.lt_of_lt_of_le (hos.imm b h).1 hB.size,blks_nil b⟩,fun b h=>absurd h (blks_nil b),.nil⟩,⟨hB.os,hB.tape,hB.output,hB.size,fun b h _=>hB.block b h,fun b h=>absurd h (blks_nil b),fun b h=>h,fun b h=>.inl h⟩⟩
   have key:∀(n:Int) (b:Bool),OwnT W I [] (.tup [.int .u32 n,.bool b]) (.tuple #[.int .u32 n,.bool b]):=fun n b =>
    ⟨#[.int .u32 n,.bool b],rfl,.cons (os:=[]) (os':=[]) ⟨rfl,.int _ _⟩ (.cons (os:=[]) (os':=[]) ⟨rfl,.bool _⟩ .nil)⟩
   unfold rdA
   by_cases h:(sp s).length=4 ∧(sp s).all goodP=true
   ·rw [if_pos h,if_pos h,decide_eq_true h]; exact key _ _
   ·rw [if_neg h,if_neg h,decide_eq_false h]; exact key _ _
end Go.Proofs
namespace Go.Proofs
open Go.Pv
def okA(s:List UInt8):Prop:=(sp s).length=4 ∧(sp s).all goodP=true
instance (s:List UInt8):Decidable (okA s):=by unfold okA; exact inferInstance
theorem rdA_pos{s:List UInt8}(h:okA s):rdA (sp s)=.tup [.int .u32 (accF (sp s)),.bool true]:=by unfold rdA; exact if_pos h
theorem rdA_neg{s:List UInt8}(h:¬ okA s):rdA (sp s)=.tup [.int .u32 0,.bool false]:=by unfold rdA; exact if_neg h
def rpF(s:List UInt8):AV :=
 if 0≤Lib.indexByte s 47∧okA (s.take (Lib.indexByte s 47).toNat)∧okS (s.drop ((Lib.indexByte s 47).toNat+1))=true∧vS (s.drop ((Lib.indexByte s 47).toNat+1))≤32
 then .tup [pfx (accF (sp (s.take (Lib.indexByte s 47).toNat))) (vS (s.drop ((Lib.indexByte s 47).toNat+1))),.bool true] else .tup [pfx 0 0,.bool false]
theorem rp_run(s:List UInt8)(hs:s.length≤100000):Run Tryz.prog 43 [.str s] (rpF s):=by
 refine Tryz.run43 (by simp) ?_
 unfold Tryz.c43
 have q:=cut_run s 47 hs
 unfold cutF at q
 have hb:=ix_b s 47
 unfold rpF
 by_cases h:0≤Lib.indexByte s 47
 ·rw [if_pos h,cutR] at q
  have hl1:(s.take (Lib.indexByte s 47).toNat).length≤100000:=by simp; omega
  have hl2:(s.drop ((Lib.indexByte s 47).toNat+1)).length≤100000:=by simp; omega
  generalize s.take (Lib.indexByte s 47).toNat=a at *
  generalize s.drop ((Lib.indexByte s 47).toNat+1)=b at *
  have q1:=read_run a hl1
  have q2:=small_run b 32 hl2 (by omega)
  by_cases ha:okA a
  ·have hab:=accF_b (sp a) (by have:=ha.1; omega) ha.2
   rw [rdA_pos ha] at q1
   unfold smR at q2
   generalize accF (sp a)=v at *
   by_cases hk:okS b=true
   ·have hvb:=vS_b hk
    rw [if_pos hk] at q2
    by_cases h32:vS b≤32
    ·rw [if_pos ⟨h,ha,hk,h32⟩]
     rw [decide_eq_true h32] at q2
     generalize vS b=u at *
     refine vZ ?_
     refine aC q rfl rfl ?_
     refine vZ ?_
     refine aC q1 rfl rfl ?_
     refine vZ ?_
     refine aC q2 rfl rfl ?_
     refine vZ ?_
     exact xZ
    ·rw [if_neg (fun h=>h32 h.2.2.2)]
     rw [decide_eq_false h32] at q2
     generalize vS b=u at *
     refine vZ ?_
     refine aC q rfl rfl ?_
     refine vZ ?_
     refine aC q1 rfl rfl ?_
     refine vZ ?_
     refine aC q2 rfl rfl ?_
     refine vZ ?_
     exact xZ
   ·rw [if_neg (fun h=>hk h.2.2.1)]
    rw [if_neg hk] at q2
    refine vZ ?_
    refine aC q rfl rfl ?_
    refine vZ ?_
    refine aC q1 rfl rfl ?_
    refine vZ ?_
    refine aC q2 rfl rfl ?_
    refine vZ ?_
    exact xZ
  ·rw [if_neg (fun h=>ha h.2.1)]
   rw [rdA_neg ha] at q1
   obtain ⟨n,d,hn⟩:∃ n d,smR b 32=.tup [.int .i64 n,.bool d]:=by unfold smR; split <;> exact⟨_,_,rfl⟩
   rw [hn] at q2
   refine vZ ?_
   refine aC q rfl rfl ?_
   refine vZ ?_
   refine aC q1 rfl rfl ?_
   refine vZ ?_
   refine aC q2 rfl rfl ?_
   refine vZ ?_
   exact xZ
 ·rw [if_neg h,cutR] at q
  rw [if_neg (fun h'=>h h'.1)]
  have q1:=read_run s hs
  have q2:=small_run [] 32 (by simp) (by omega)
  obtain ⟨n,d,hn⟩:∃ n d,smR [] 32=.tup [.int .i64 n,.bool d]:=by unfold smR; split <;> exact⟨_,_,rfl⟩
  obtain ⟨n',d',hn'⟩:∃ n d,rdA (sp s)=.tup [.int .u32 n,.bool d]:=by unfold rdA; split <;> exact⟨_,_,rfl⟩
  rw [hn] at q2
  rw [hn'] at q1
  refine vZ ?_
  refine aC q rfl rfl ?_
  refine vZ ?_
  refine aC q1 rfl rfl ?_
  refine vZ ?_
  refine aC q2 rfl rfl ?_
  refine vZ ?_
  exact xZ
end Go.Proofs
namespace Go.Proofs
open Go.Pv
theorem ix_first(c:UInt8):∀(s:List UInt8) (k:Nat),k < s.length →(∀ j < k,s[j]!≠c)→s[k]! = c→Lib.indexByte s c=k
 | [],k,h,_,_=>by simp at h
 | b :: r,0,_,_,h=>by
  have:b=c:=by simpa using h
  simp [Lib.indexByte,this]
 | b :: r,k+1,h,hn,hc=>by
  have h0:b≠c:=by simpa using hn 0 (by omega)
  have ih:=ix_first c r k (by simpa using h) (fun j hj=>by simpa using hn (j+1) (by omega)) (by simpa using hc)
  rw [show Lib.indexByte (b :: r) c=if b == c then 0 else if Lib.indexByte r c == -1 then -1 else Lib.indexByte r c+1 by rw [Lib.indexByte],ih]
  have h1:((k:Int) == -1)=false:=by simp
  simp [h0,h1]
theorem ix_none(c:UInt8):∀(s:List UInt8),(∀ j < s.length,s[j]!≠c)→Lib.indexByte s c=-1
 | [],_=>by simp [Lib.indexByte]
 | b :: r,hn=>by
  have h0:b≠c:=by simpa using hn 0 (by simp)
  have ih:=ix_none c r (fun j hj=>by simpa using hn (j+1) (by simpa using hj))
  rw [show Lib.indexByte (b :: r) c=if b == c then 0 else if Lib.indexByte r c == -1 then -1 else Lib.indexByte r c+1 by rw [Lib.indexByte],ih]
  simp [h0]
theorem ref_rp_run(s:List UInt8)(hs:s.length≤100000):Run Tryz.prog 82 [.str s] (rpF s):=by
 refine Tryz.run82 (by simp) ?_
 unfold Tryz.c82
 refine vZ ?_
 refine aw_loop (fun k:Nat=>⟨[(0,.str s),(2,.eptr 0 0 0),(4,.int .i64 k)],[some ⟨82,[pfx 0 0],true⟩]⟩) (fun k=>k≤s.length∧∀ j < k,s[j]!≠47) (fun k=>s.length - k) 0 rfl ⟨by omega,by simp⟩ ?_
 rintro k ⟨hk,hp⟩
 unfold Tryz.c82b0
 by_cases hx:k < s.length
 ·have hgi:s[k]?=some s[k]!:=by rw [getElem!_pos s k hx,List.getElem?_eq_getElem hx]
  by_cases hd:s[k]! = 47
  ·have hix:=ix_first 47 s k hx hp hd
   rw [hd] at hgi
   have hl1:(s.take k).length≤100000:=by simp; omega
   have hl2:(s.drop (k+1)).length≤100000:=by simp; omega
   unfold rpF
   rw [hix,Int.toNat_natCast]
   generalize hta:s.take k=a at *
   generalize htb:s.drop (k+1)=b at *
   have q1:=ref_read_run a hl1
   have q2:=digits_run b hl2
   by_cases ha:okA a
   ·have hab:=accF_b (sp a) (by have:=ha.1; omega) ha.2
    rw [rdA_pos ha] at q1
    unfold dgF at q2
    generalize accF (sp a)=v at *
    by_cases hk2:okS b=true
    ·have hvb:=vS_b hk2
     rw [if_pos hk2] at q2
     by_cases h32:vS b≤32
     ·rw [if_pos ⟨by omega,ha,hk2,h32⟩]
      generalize vS b=u at *
      simp (disch:=try exact dq) only[↓pvd,pz,sC,List.map,seval,hgi,bv]
      simp (disch:=try exact dq) only[↓pvd,pz,sC,List.map,seval,hta,htb]
      refine aC q1 rfl rfl ?_
      simp (disch:=try exact dq) only[↓pvd,pz,sC,List.map,seval,hta,htb]
      refine aC q2 rfl rfl ?_
      refine vZ ?_
      exact xZ
     ·rw [if_neg (fun h=>h32 h.2.2.2)]
      generalize vS b=u at *
      simp (disch:=try exact dq) only[↓pvd,pz,sC,List.map,seval,hgi,bv]
      simp (disch:=try exact dq) only[↓pvd,pz,sC,List.map,seval,hta,htb]
      refine aC q1 rfl rfl ?_
      simp (disch:=try exact dq) only[↓pvd,pz,sC,List.map,seval,hta,htb]
      refine aC q2 rfl rfl ?_
      refine vZ ?_
      exact xZ
    ·rw [if_neg (fun h=>hk2 h.2.2.1)]
     rw [if_neg hk2] at q2
     simp (disch:=try exact dq) only[↓pvd,pz,sC,List.map,seval,hgi,bv]
     simp (disch:=try exact dq) only[↓pvd,pz,sC,List.map,seval,hta,htb]
     refine aC q1 rfl rfl ?_
     simp (disch:=try exact dq) only[↓pvd,pz,sC,List.map,seval,hta,htb]
     refine aC q2 rfl rfl ?_
     refine vZ ?_
     exact xZ
   ·rw [if_neg (fun h=>ha h.2.1)]
    rw [rdA_neg ha] at q1
    generalize dgF b=u at *
    simp (disch:=try exact dq) only[↓pvd,pz,sC,List.map,seval,hgi,bv]
    simp (disch:=try exact dq) only[↓pvd,pz,sC,List.map,seval,hta,htb]
    refine aC q1 rfl rfl ?_
    simp (disch:=try exact dq) only[↓pvd,pz,sC,List.map,seval,hta,htb]
    refine aC q2 rfl rfl ?_
    refine vZ ?_
    exact xZ
  ·have hne:(s[k]!.toNat:Int)≠47:=fun h=>hd (UInt8.toNat_inj.1 (by simpa using (by omega:s[k]!.toNat=47)))
   repeat' (first | (simp (disch:=try exact dq) only[↓pvd,pz,sC,List.map,seval,hgi,bv,still]) | (with_reducible first|refine cB (fun _=>?_) (fun _=>?_)|refine gB (fun _=>?_) (fun _=>?_)|refine hB (fun _=>?_) (fun _=>?_)|refine cA ?_ ?_) | exact eZ | fail)
   refine⟨k+1,rfl,⟨by omega,fun j hj=>?_⟩,by omega⟩
   by_cases hjk:j=k
   ·rw [hjk]; exact hd
   ·exact hp j (by omega)
 ·have hix:=ix_none 47 s (fun j hj=>hp j (by omega))
  have e:rpF s=.tup [pfx 0 0,.bool false]:=by unfold rpF; rw [if_neg (fun h=>by have:=h.1; omega)]
  rw [e]
  refine vZ ?_
  exact xZ
end Go.Proofs
namespace Go.Proofs
open Go.Pv
end Go.Proofs
namespace Go.Proofs
open Go.Pv
end Go.Proofs
namespace Go.Proofs
open Go.Pv
def sc:List UInt8→List (List UInt8)
 | []=>[[]]
 | c :: r=>if c=44 then [] :: sc r else spJ [c] (sc r)
theorem sc_ne(s:List UInt8):sc s≠[]:=by
 cases s with
 | nil=>simp [sc]
 | cons c r =>
  unfold sc
  split
  ·simp
  ·unfold spJ; split <;> simp
theorem sc_index(s:List UInt8):sc s=if 0≤Lib.indexByte s 44 then s.take (Lib.indexByte s 44).toNat :: sc (s.drop ((Lib.indexByte s 44).toNat+1)) else [s]:=by
 induction s with
 | nil=>simp [sc,Lib.indexByte]
 | cons c r ih =>
  have hb:=ix_b r 44
  rw [show sc (c :: r)=if c=44 then [] :: sc r else spJ [c] (sc r) by rw [sc],show Lib.indexByte (c :: r) 44=if c == 44 then 0 else if Lib.indexByte r 44 == -1 then -1 else Lib.indexByte r 44+1 by rw [Lib.indexByte]]
  by_cases hc:c=44
  ·simp [hc]
  ·simp only[hc,if_false,beq_iff_eq]
   rw [ih]
   by_cases hx:Lib.indexByte r 44 < 0
   ·have:Lib.indexByte r 44=-1:=by omega
    rw [if_neg (by omega),if_pos this]
    simp [spJ]
   ·have e:(Lib.indexByte r 44+1).toNat =(Lib.indexByte r 44).toNat+1:=by omega
    have h1:¬ Lib.indexByte r 44=-1:=by omega
    rw [if_pos (by omega:0≤Lib.indexByte r 44),if_neg h1,if_pos (by omega:0≤Lib.indexByte r 44+1),e]
    simp [spJ]
theorem sc_len:∀(s:List UInt8),(sc s).length≤s.length+1∧∀ x∈sc s,x.length≤s.length
 | []=>by simp [sc]
 | c :: r=>by
  have ih:=sc_len r
  rw [show sc (c :: r)=if c=44 then [] :: sc r else spJ [c] (sc r) by rw [sc]]
  split
  ·refine⟨by simp; omega,fun x hx=>?_⟩
   rcases List.mem_cons.1 hx with rfl | hx
   ·simp
   ·have:=ih.2 x hx; simp; omega
  ·obtain ⟨p,q,e⟩:=List.exists_cons_of_ne_nil (sc_ne r)
   rw [e] at ih ⊢
   refine⟨by simp [spJ] at ih ⊢; omega,fun x hx=>?_⟩
   rcases List.mem_cons.1 hx with rfl | hx
   ·have:=ih.2 p (by simp); simp; omega
   ·have:=ih.2 x (by simp [hx]); simp; omega
theorem str_nr(l:List UInt8):(AV.str l).nr1=true:=rfl
theorem sP(l:List UInt8):(AV.str l).pl=true:=rfl
def spS(s:List UInt8)(a:Nat × List (List UInt8) × List UInt8):St:=⟨[(0,.str s),(3,.vec 0 1 0 (a.2.1.length+1)),(4,.int .i64 a.1)],[some ⟨9,(a.2.1 ++ [a.2.2]).map .str,true⟩]⟩
def spI(s:List UInt8)(a:Nat × List (List UInt8) × List UInt8):Prop:=a.1≤s.length∧a.2.1.length≤a.1∧a.2.2.length≤a.1∧sc s=a.2.1 ++ spJ a.2.2 (sc (s.drop a.1))
theorem split_run(s:List UInt8)(hs:s.length≤1000):Run Tryz.prog 114 [.str s] (.own 1 9 ((sc s).map .str)):=by
 refine Tryz.run114 (by simp) ?_
 unfold Tryz.c114
 refine vZ ?_
 refine aw_loop (spS s) (spI s) (fun a=>s.length - a.1) (0,[],[]) rfl ⟨by simp,by simp,by simp,by simp [spJ_nil (sc_ne _)]⟩ ?_
 rintro ⟨k,ds,pt⟩ ⟨hk,hd,hp,h4⟩
 simp only at hk hd hp h4
 unfold spS Tryz.c114b0
 simp only
 have hel:((ds ++ [pt]).map AV.str)[ds.length]?=some (.str pt):=by
  rw [List.getElem?_map,List.getElem?_append_right (by simp)]; simp
 have hset:∀ x,((ds ++ [pt]).map AV.str).set ds.length (.str x) =(ds ++ [x]).map AV.str:=fun x=>by
  rw [List.map_append,List.set_append_right _ _ (by simp)]; simp
 have happ:(ds ++ [pt]).map AV.str ++ [.str []] =(ds ++ [pt] ++ [[]]).map AV.str:=by simp
 have hix:(((ds.length+1:Nat):Int) - 1).toNat=ds.length:=by omega
 have hln:((ds ++ [pt]).map AV.str).length=ds.length+1:=by simp
 by_cases hx:k < s.length
 ·have hgi:s[k]?=some s[k]!:=by rw [getElem!_pos s k hx,List.getElem?_eq_getElem hx]
  have hdr:s.drop k=s[k]! :: s.drop (k+1):=by
   rw [getElem!_pos s k hx]
   exact List.drop_eq_getElem_cons hx
  by_cases hc:s[k]! = 44
  ·rw [hc] at hgi hdr
   have h5:sc s =(ds ++ [pt]) ++ spJ [] (sc (s.drop (k+1))):=by
    rw [h4,hdr,sc,if_pos rfl,spJ_nil (sc_ne _)]; simp [spJ]
   generalize hrow:(ds ++ [pt]).map AV.str=row at *
   have hpl:row.all AV.pl=true:=by rw [← hrow]; exact pl_map sP
   simp (disch:=try exact dq) only[↓pvd,pz,sC,List.map,seval,hgi,bv,ids_all hpl,happ,iM sP,rM sP]
   exact⟨(k+1,ds ++ [pt],[]),by simp [spS,hln],⟨by simp; omega,by simp; omega,by simp,h5⟩,by simp; omega⟩
  ·have hne:(s[k]!.toNat:Int)≠44:=fun h=>hc (UInt8.toNat_inj.1 (by simpa using (by omega:s[k]!.toNat=44)))
   have h5:sc s=ds ++ spJ (pt ++ [s[k]!]) (sc (s.drop (k+1))):=by
    rw [h4,hdr,sc,if_neg hc,spJ_app _ _ (sc_ne _)]
   have htd:List.drop k (List.take (k+1) s)=[s[k]!]:=by
    rw [take_snoc hx,List.drop_append_of_le_length (by simp; omega),List.drop_eq_nil_of_le (by simp; omega)]
    rfl
   generalize hrow:(ds ++ [pt]).map AV.str=row at *
   have hpl:row.all AV.pl=true:=by rw [← hrow]; exact pl_map sP
   simp (disch:=try exact dq) only[↓pvd,pz,sC,List.map,seval,hgi,bv,hix,hel,htd,hln,ids_all hpl,hset,iM sP,rM sP]
   exact⟨(k+1,ds,pt ++ [s[k]!]),by simp [spS,hln],⟨by simp; omega,by simp; omega,by simp; omega,h5⟩,by simp; omega⟩
 ·have e:k=s.length:=by omega
  have h5:sc s=ds ++ [pt]:=by rw [h4,e,List.drop_length]; simp [sc,spJ]
  rw [h5]
  refine vZ ?_
  (refine Ends_rq [[.own 1 9]] ?_; simp (disch:=try exact dq) only[↓pvd,pz,sC,List.map,seval,iM sP,rM sP,mapO_map str_nr,rows_map str_nr]; exact⟨_,rfl,rfl,rfl⟩)
end Go.Proofs
namespace Go.Proofs
namespace Nm
open Go.Pv
theorem u8b(c:UInt8):c.toNat.toUInt8=c:=by simp
theorem ib_b(s:List UInt8)(c:UInt8):-1≤Lib.indexByte s c∧Lib.indexByte s c < s.length∨Lib.indexByte s c=-1:=by
 by_cases h:Lib.indexByte s c=-1
 ·exact .inr h
 ·have:=Lib.indexByte_ge s c
  obtain ⟨o,ho⟩:∃ o:Nat,Lib.indexByte s c=o:=⟨_,(Int.toNat_of_nonneg (by omega)).symm⟩
  have:=(Lib.indexByte_some ho).1
  have hl:=(List.getElem?_eq_some_iff.1 this).1
  left; omega
theorem ixb_run(s:List UInt8)(c:UInt8):Run Tryz.prog 147 [.str s,.int .u8 c.toNat] (.int .i64 (Lib.indexByte s c)):=by
 refine Tryz.run147 (by simp) ?_
 unfold Tryz.c147
 simp (disch:=try exact dq) only[↓pvd,pz,sC,List.map,seval,u8b]
 exact eZ
theorem index1_run(s:List UInt8)(c:UInt8):Run Tryz.prog 121 [.str s,.str [c]] (.int .i64 (Lib.indexByte s c)):=by
 have q:=ixb_run s c
 refine Tryz.run121 (by simp) ?_
 unfold Tryz.c121
 by_cases h:[c]=s
 ·subst h
  have e:Lib.indexByte [c] c=0:=by simp [Lib.indexByte]
  rw [e] at *
  repeat' (first | (simp (disch:=try exact dq) only[↓pvd,pz,sC,List.map,seval,still]) | (with_reducible first|refine cB (fun _=>?_) (fun _=>?_)|refine gB (fun _=>?_) (fun _=>?_)|refine hB (fun _=>?_) (fun _=>?_)|refine cA ?_ ?_) | refine aC q rfl rfl ?_ | refine aD q rfl rfl (fun _=>rfl) ?_ | exact eZ | fail)
 ·repeat' (first | (simp (disch:=try exact dq) only[↓pvd,pz,sC,List.map,seval,bv,still]) | (with_reducible first|refine cB (fun _=>?_) (fun _=>?_)|refine gB (fun _=>?_) (fun _=>?_)|refine hB (fun _=>?_) (fun _=>?_)|refine cA ?_ ?_) | refine aC q rfl rfl ?_ | refine aD q rfl rfl (fun _=>rfl) ?_ | exact eZ | fail)
end Nm
end Go.Proofs
namespace Go.Proofs
namespace Nm
open Go.Pv
def cutV(s:List UInt8)(c:UInt8):List UInt8 × List UInt8 × Bool :=
 if Lib.indexByte s c=-1 then(s,[],false) else(s.take (Lib.indexByte s c).toNat,s.drop ((Lib.indexByte s c).toNat+1),true)
theorem cutl_run(s:List UInt8)(c:UInt8)(hs:s.length≤100000):Run Tryz.prog 91 [.str s,.str [c]] (.tup [.str (cutV s c).1,.str (cutV s c).2.1,.bool (cutV s c).2.2]):=by
 have q:=index1_run s c
 have hb:=ib_b s c
 refine Tryz.run91 (by simp) ?_
 unfold Tryz.c91
 unfold cutV
 by_cases h:Lib.indexByte s c=-1
 ·rw [if_pos h]
  rw [h] at q
  repeat' (first | (simp (disch:=try exact dq) only[↓pvd,pz,sC,List.map,seval,still]) | (with_reducible first|refine cB (fun _=>?_) (fun _=>?_)|refine gB (fun _=>?_) (fun _=>?_)|refine hB (fun _=>?_) (fun _=>?_)|refine cA ?_ ?_) | refine aC q rfl rfl ?_ | refine aD q rfl rfl (fun _=>rfl) ?_ | exact eZ | fail)
 ·rw [if_neg h]
  obtain ⟨o,ho⟩:∃ o:Nat,Lib.indexByte s c=o:=⟨_,(Int.toNat_of_nonneg (by omega)).symm⟩
  rw [ho] at q
  rw [ho]
  have:o < s.length:=by omega
  clear h hb
  repeat' (first | (simp (disch:=try exact dq) only[↓pvd,pz,sC,List.map,seval,still]) | (with_reducible first|refine cB (fun _=>?_) (fun _=>?_)|refine gB (fun _=>?_) (fun _=>?_)|refine hB (fun _=>?_) (fun _=>?_)|refine cA ?_ ?_) | refine aC q rfl rfl ?_ | refine aD q rfl rfl (fun _=>rfl) ?_ | exact eZ | fail)
theorem cut_run(s:List UInt8)(c:UInt8)(hs:s.length≤100000):Run Tryz.prog 56 [.str s,.str [c]] (.tup [.str (cutV s c).1,.str (cutV s c).2.1,.bool (cutV s c).2.2]):=by
 have q:=cutl_run s c hs
 refine Tryz.run56 (by simp) ?_
 unfold Tryz.c56
 repeat' (first | (simp (disch:=try exact dq) only[↓pvd,pz,sC,List.map,seval,still]) | (with_reducible first|refine cB (fun _=>?_) (fun _=>?_)|refine gB (fun _=>?_) (fun _=>?_)|refine hB (fun _=>?_) (fun _=>?_)|refine cA ?_ ?_) | refine aC q rfl rfl ?_ | refine aD q rfl rfl (fun _=>rfl) ?_ | exact eZ | fail)
def spl:List UInt8→List (List UInt8)
 | []=>[]
 | c :: r=>if c=10 then [] :: spl r else match spl r with
  | []=>[[c]]
  | h :: t=>(c :: h) :: t
theorem spl_hit:∀(a r:List UInt8),(∀ c∈a,c≠10)→spl (a ++ 10 :: r)=a :: spl r
 | [],r,_=>by simp [spl]
 | c :: a,r,h=>by
  have:=spl_hit a r (fun x hx=>h x (by simp [hx]))
  simp [spl,this,h c (by simp)]
theorem spl_miss:∀(a:List UInt8),(∀ c∈a,c≠10)→a≠[]→spl a=[a]
 | [],_,h=>absurd rfl h
 | [c],h,_=>by simp [spl,h c (by simp)]
 | c :: d :: a,h,_=>by
  have:=spl_miss (d :: a) (fun x hx=>h x (by simp_all)) (by simp)
  rw [spl,this]
  simp [h c (by simp)]
theorem spl_cut(s:List UInt8)(hs:s≠[]):spl s =(cutV s 10).1 :: spl (cutV s 10).2.1:=by
 have hb:=ib_b s 10
 unfold cutV
 by_cases h:Lib.indexByte s 10=-1
 ·rw [if_pos h]
  have:=Lib.indexByte_none h
  rw [spl_miss s ?_ hs]
  ·simp [spl]
  intro c hc e
  subst e
  obtain ⟨k,hk,e⟩:=List.mem_iff_getElem.1 hc
  exact this k (by rw [List.getElem?_eq_getElem hk,e])
 ·rw [if_neg h]
  obtain ⟨o,ho⟩:∃ o:Nat,Lib.indexByte s 10=o:=⟨_,(Int.toNat_of_nonneg (by omega)).symm⟩
  rw [ho]
  obtain ⟨h1,h2⟩:=Lib.indexByte_some ho
  obtain ⟨hl,h1⟩:=List.getElem?_eq_some_iff.1 h1
  have e:s=s.take o ++ 10 :: s.drop (o+1):=by
   rw [← h1,← List.drop_eq_getElem_cons hl,List.take_append_drop]
  have:=spl_hit (s.take o) (s.drop (o+1)) (fun c hc e=>by
   subst e
   obtain ⟨k,hk,e⟩:=List.mem_iff_getElem.1 hc
   simp at hk e
   exact h2 k (by omega) (by rw [List.getElem?_eq_getElem (by omega),e]))
  rw [← e] at this
  simpa using this
theorem cut_len(s:List UInt8)(hs:s≠[]):(cutV s 10).2.1.length < s.length:=by
 have:=List.length_pos_iff.2 hs
 unfold cutV
 split
 ·simpa using this
 ·simp; omega
theorem spl_le:∀(s:List UInt8),(spl s).length≤s.length
 | []=>by simp [spl]
 | c :: r=>by
  have:=spl_le r
  rw [spl]
  split
  ·simp; omega
  ·split
   ·simp
   ·rename_i h t e
    rw [e] at this
    simp at this ⊢
    omega
end Nm
end Go.Proofs
namespace Go.Proofs
namespace Nm
open Go.Pv
def digF(n:Nat):List UInt8:=if n < 10 then [u8i (48+n)] else digF (n / 10) ++ [u8i (48 +((n % 10:Nat):Int))]
termination_by n
decreasing_by omega
theorem digF_lt{n:Nat}(h:n < 10):digF n=[u8i (48+n)]:=by rw [digF,if_pos h]
theorem digF_ge{n:Nat}(h:10≤n):digF n=digF (n / 10) ++ [u8i (48 +((n % 10:Nat):Int))]:=by rw [digF,if_neg (by omega)]
theorem digF_len:∀(n k:Nat),n < 10 ^ (k+1) →(digF n).length≤k+1
 | n,0,h=>by rw [digF_lt (by omega)]; simp
 | n,k+1,h=>by
  by_cases h1:n < 10
  ·rw [digF_lt h1]; simp
  ·rw [digF_ge (by omega)]
   have:=digF_len (n / 10) k (by rw [Nat.pow_succ] at h; omega)
   simp; omega
def txF(n:Int):List UInt8:=if n < 0 then 45 :: digF (-n).toNat else digF n.toNat
theorem toBytes_one{x:Int}:toBytes [.int .u8 (x % 256)]=some [u8i x]:=by
 rw [show [AV.int .u8 (x % 256)]=[u8i x].map bv by simp [bv_u8i]]
 exact toBytes_bys
theorem digits_run(n:Nat)(hn:n < 18446744073709551616)(hd:(digF n).length≤1000):Run Tryz.prog 130 [.int .u64 n] (.str (digF n)):=by
 refine Tryz.run130 (by simp) ?_
 unfold Tryz.c130
 refine vZ ?_
 refine aw_loop (fun a:Nat × List UInt8=>⟨[(0,.int .u64 a.1),(3,.str a.2)],[]⟩) (fun a=>a.1≤n∧digF a.1 ++ a.2=digF n) (fun a=>a.1) (n,[]) rfl ⟨Nat.le_refl _,by simp⟩ ?_
 rintro ⟨m,s⟩ ⟨hm,hs⟩
 dsimp only at hm hs ⊢
 unfold Tryz.c130b0
 by_cases h:10≤m
 ·rw [digF_ge h] at hs
  have hsl:s.length≤1000:=by
   have:=congrArg List.length hs
   simp at this; omega
  simp (disch:=try exact dq) only[↓pvd,pz,sC,List.map,seval,toBytes_one]
  refine⟨(m / 10,u8i (48 +((m % 10:Nat):Int)) :: s),?_,⟨?_,?_⟩,?_⟩ <;> dsimp only
  ·simp
  ·omega
  ·rw [← hs]; simp
  ·omega
 ·rw [digF_lt (by omega)] at hs
  have hsl:s.length≤1000:=by
   have:=congrArg List.length hs
   simp at this; omega
  rw [← hs]
  simp (disch:=try exact dq) only[↓pvd,pz,sC,List.map,seval,toBytes_one]
  exact eZ
def rvF(L:List UInt8)(i:Nat):List UInt8:=(List.range L.length).map fun j=>if j < i∨L.length - 1 - i < j then L[L.length - 1 - j]! else L[j]!
theorem rvF_len(L:List UInt8)(i:Nat):(rvF L i).length=L.length:=by simp [rvF]
theorem rvF_get(L:List UInt8)(i j:Nat)(h:j < L.length):(rvF L i)[j]! = if j < i∨L.length - 1 - i < j then L[L.length - 1 - j]! else L[j]!:=by
 rw [getElem!_pos _ _ (by rw [rvF_len]; exact h)]
 simp [rvF]
theorem rvF_ext{a b:List UInt8}(hl:a.length=b.length)(h:∀ j,j < a.length→a[j]! = b[j]!):a=b :=
 List.ext_getElem hl fun j h1 h2=>by
  have:=h j h1
  rwa [getElem!_pos a j h1,getElem!_pos b j h2] at this
theorem set_get{a:List UInt8}{i j:Nat}{x:UInt8}(h:j < a.length):(a.set i x)[j]! = if i=j then x else a[j]!:=by
 rw [getElem!_pos _ _ (by simpa using h),List.getElem_set]
 split
 ·rfl
 ·rw [getElem!_pos a j h]
theorem rvF_zero(L:List UInt8):rvF L 0=L:=rvF_ext (rvF_len L 0) fun j h=>by
 rw [rvF_len] at h
 rw [rvF_get L 0 j h,if_neg (by omega)]
theorem rvF_step(L:List UInt8)(i:Nat)(h:i < L.length - 1 - i):((rvF L i).set i (rvF L i)[L.length - 1 - i]!).set (L.length - 1 - i) (rvF L i)[i]! = rvF L (i+1) :=
 rvF_ext (by simp [rvF_len]) fun j hj=>by
  simp only[List.length_set,rvF_len] at hj
  have e1:=rvF_get L i (L.length - 1 - i) (by omega)
  have e2:=rvF_get L i i (by omega)
  have e3:=rvF_get L i j hj
  have e4:=rvF_get L (i+1) j hj
  rw [set_get (by simp [rvF_len]; omega),set_get (by rw [rvF_len]; omega),e1,e2,e3,e4]
  by_cases h1:L.length - 1 - i=j
  ·rw [if_pos h1,if_neg (by omega),if_pos (by omega)]
   congr 1; omega
  ·rw [if_neg h1]
   by_cases h2:i=j
   ·rw [if_pos h2,if_neg (by omega),if_pos (by omega),h2]
   ·rw [if_neg h2]
    by_cases h3:j < i∨L.length - 1 - i < j
    ·rw [if_pos h3,if_pos (by omega)]
    ·rw [if_neg h3,if_neg (by omega)]
theorem rvF_end(L:List UInt8)(i:Nat)(h:¬ i < L.length - 1 - i):rvF L i=L.reverse:=rvF_ext (by simp [rvF_len]) fun j hj=>by
 rw [rvF_len] at hj
 rw [rvF_get L i j hj,getElem!_pos L.reverse j (by simpa using hj),List.getElem_reverse]
 split
 ·rw [getElem!_pos L _ (by omega)]
 ·rw [getElem!_pos L _ (by omega)]
  congr 1; omega
theorem digF_ne(n:Nat):digF n≠[]:=by
 by_cases h:n < 10
 ·rw [digF_lt h]; simp
 ·rw [digF_ge (by omega)]; simp
def lpI(N:Nat)(a:Nat × Bool × List UInt8):Prop:=a.1≤N ∧(if a.2.1=true then digF a.1 ++ a.2.2.reverse=digF N else a.2.2.reverse=digF N)
theorem text_run(n:Int)(h0:-9223372036854775808≤n)(h1:n < 9223372036854775808)(hd:(digF n.natAbs).length≤1000):Run Tryz.prog 98 [.int .i64 n] (.str (txF n)):=by
 refine Tryz.run98 (by simp) ?_
 unfold Tryz.c98
 by_cases hn:n < 0
 ·obtain ⟨N,hN⟩:∃ N:Nat,n=-(N:Int):=⟨n.natAbs,by omega⟩
  have htx:txF n=45 :: digF N:=by unfold txF; rw [if_pos hn,show(-n).toNat=N by omega]
  have hd2:(digF N).length≤1000:=by rw [show n.natAbs=N by omega] at hd; exact hd
  rw [htx]
  have he:(0 - n % 18446744073709551616) % 18446744073709551616 =(N:Int):=by omega
  simp (disch:=try exact dq) only[↓pvd,pz,sC,List.map,seval,he]
  refine aw_loop (fun a:Nat × Bool × List UInt8=>⟨[(0,.int .i64 n),(3,.vec 0 1 0 a.2.2.length),(4,.int .u64 a.1),(5,.bool a.2.1)],[some ⟨5,bys a.2.2,true⟩]⟩) (lpI N) (fun a=>if a.2.1=true then a.1+1 else 0) (N,true,[]) ?_ ⟨Nat.le_refl _,by simp⟩ ?_
  ·exact uZ
  rintro ⟨m,b,s⟩ ⟨hm,hs⟩
  dsimp only at hm hs ⊢
  unfold Tryz.c98b0
  cases b with
  | true =>
   rw [if_pos rfl] at hs
   have hsl:s.length≤1000:=by
    have:=congrArg List.length hs
    simp at this; omega
   refine vZ ?_
   by_cases h10:m < 10
   ·rw [digF_lt h10] at hs
    refine⟨(m / 10,false,s ++ [u8i (48 +(m:Int) % 10)]),?_,⟨?_,?_⟩,?_⟩ <;> dsimp only
    ·simp; omega
    ·omega
    ·rw [if_neg (by simp),← hs]; simp; congr 1; omega
    ·simp
   ·rw [digF_ge (by omega)] at hs
    refine⟨(m / 10,true,s ++ [u8i (48 +(m:Int) % 10)]),?_,⟨?_,?_⟩,?_⟩ <;> dsimp only
    ·simp; omega
    ·omega
    ·rw [if_pos rfl,← hs]; simp
    ·simp; omega
  | false =>
   rw [if_neg (by simp)] at hs
   have hsl:s.length =(digF N).length:=by rw [← hs]; simp
   have hpos:=List.length_pos_iff.2 (digF_ne N)
   have hL:(s ++ [45]).reverse=45 :: digF N:=by simp [hs]
   rw [← hL]
   refine vZ ?_
   rw [show bys s ++ [AV.int .u8 45]=bys (s ++ [45]) by simp [bys,bv],show s.length+1 =(s ++ [45]).length by simp]
   have hLl:(s ++ [45]).length≤1001:=by simp; omega
   have hLp:0 <(s ++ [45]).length:=by simp
   generalize s ++ [45]=L at *
   refine aw_loop (fun i:Nat=>⟨[(3,.vec 0 1 0 L.length),(6,.int .i64 i),(7,.int .i64 ((L.length:Int) - 1 - i))],[some ⟨5,bys (rvF L i),true⟩]⟩) (fun i=>2 * i≤L.length) (fun i=>L.length - i) 0 ?_ (by omega) ?_
   ·simp (disch:=try exact dq) only[↓pvd,pz,sC,List.map,seval,rvF_zero]
    try simp
   intro i hi
   unfold Tryz.c98b1
   have hrl:=rvF_len L i
   by_cases hik:i < L.length - 1 - i
   ·have hst:=rvF_step L i hik
    have hk:((L.length:Int) - 1 - i).toNat=L.length - 1 - i:=by omega
    simp (disch:=try exact dq) only[↓pvd,pz,sC,List.map,seval,hrl,hk]
    rw [hst]
    refine⟨i+1,?_,by omega,by omega⟩
    simp
    omega
   ·have hst:=rvF_end L i hik
    rw [← hst]
    simp (disch:=try exact dq) only[↓pvd,pz,sC,List.map,seval,hrl]
    exact eZ
 ·obtain ⟨N,hN⟩:∃ N:Nat,n =(N:Int):=⟨n.natAbs,by omega⟩
  have htx:txF n=digF N:=by unfold txF; rw [if_neg hn,show n.toNat=N by omega]
  have hd2:(digF N).length≤1000:=by rw [show n.natAbs=N by omega] at hd; exact hd
  rw [htx]
  subst hN
  refine vZ ?_
  refine aw_loop (fun a:Nat × Bool × List UInt8=>⟨[(0,.int .i64 N),(3,.vec 0 1 0 a.2.2.length),(4,.int .u64 a.1),(5,.bool a.2.1)],[some ⟨5,bys a.2.2,true⟩]⟩) (lpI N) (fun a=>if a.2.1=true then a.1+1 else 0) (N,true,[]) ?_ ⟨Nat.le_refl _,by simp⟩ ?_
  ·exact uZ
  rintro ⟨m,b,s⟩ ⟨hm,hs⟩
  dsimp only at hm hs ⊢
  unfold Tryz.c98b0
  cases b with
  | true =>
   rw [if_pos rfl] at hs
   have hsl:s.length≤1000:=by
    have:=congrArg List.length hs
    simp at this; omega
   refine vZ ?_
   by_cases h10:m < 10
   ·rw [digF_lt h10] at hs
    refine⟨(m / 10,false,s ++ [u8i (48 +(m:Int) % 10)]),?_,⟨?_,?_⟩,?_⟩ <;> dsimp only
    ·simp; omega
    ·omega
    ·rw [if_neg (by simp),← hs]; simp; congr 1; omega
    ·simp
   ·rw [digF_ge (by omega)] at hs
    refine⟨(m / 10,true,s ++ [u8i (48 +(m:Int) % 10)]),?_,⟨?_,?_⟩,?_⟩ <;> dsimp only
    ·simp; omega
    ·omega
    ·rw [if_pos rfl,← hs]; simp
    ·simp; omega
  | false =>
   rw [if_neg (by simp)] at hs
   have hsl:s.length =(digF N).length:=by rw [← hs]; simp
   have hpos:=List.length_pos_iff.2 (digF_ne N)
   rw [← hs]
   refine vZ ?_
   refine aw_loop (fun i:Nat=>⟨[(3,.vec 0 1 0 s.length),(6,.int .i64 i),(7,.int .i64 ((s.length:Int) - 1 - i))],[some ⟨5,bys (rvF s i),true⟩]⟩) (fun i=>2 * i≤s.length) (fun i=>s.length - i) 0 ?_ (by omega) ?_
   ·simp (disch:=try exact dq) only[↓pvd,pz,sC,List.map,seval,rvF_zero]
    try simp
   intro i hi
   unfold Tryz.c98b1
   have hrl:=rvF_len s i
   by_cases hik:i < s.length - 1 - i
   ·have hst:=rvF_step s i hik
    have hk:((s.length:Int) - 1 - i).toNat=s.length - 1 - i:=by omega
    simp (disch:=try exact dq) only[↓pvd,pz,sC,List.map,seval,hrl,hk]
    rw [hst]
    refine⟨i+1,?_,by omega,by omega⟩
    simp
    omega
   ·have hst:=rvF_end s i hik
    rw [← hst]
    simp (disch:=try exact dq) only[↓pvd,pz,sC,List.map,seval,hrl]
    exact eZ
end Nm
end Go.Proofs
