/-
  A claim's own text, joined by a small program out of: PzSort.
-/
import Derived.Test.YtodollbkpkpklaaGreatY3
import Derived.Test.YtodollbkpkpklaaGreatY17
import Derived.Test.YtodollbkpkpklaaGreatY18
import Derived.KernelRfl
set_option linter.unusedVariables false
set_option linter.unusedSimpArgs false
section
set_option maxRecDepth 1000000
namespace Go.Vi.Zz
open Go Go.Vi Go.Proofs Go.RowKit
theorem IM:∀{cs:List T} {zs:List Int},CH cs=some zs→cs=zs.map int64
 | [],zs,h=>by simp only[CH,Option.some.injEq]at h;subst h;rfl
 |t::cs,zs,h=>by
  unfold CH at h
  split at h
  ·rename_i e;cases e
  ·rename_i z b9 e
   cases e
   obtain⟨zs',h1,rfl⟩:=Option.map_eq_some_iff.1 h
   rw[IM h1];rfl
  ·cases h
theorem EY(x:Int):∀l:List Int,(HD x l).Perm (x::l)
 | []=> .refl _
 |y::l=>by
  unfold HD
  split
  ·exact .refl _
  ·exact((EY x l).cons y).trans (.swap x y l)
theorem CI:∀l:List Int,(l8 l).Perm l
 | []=> .refl _
 |x::l=>(EY x _).trans ((CI l).cons x)
theorem LP(x:Int):∀l:List Int,l.Pairwise (· ≤·)→(HD x l).Pairwise (· ≤·)
 | [],_=>by simp[HD]
 |y::l,h=>by
  unfold HD
  rw[List.pairwise_cons]at h
  split
  ·rename_i hx
   refine List.pairwise_cons.2 ⟨fun z hz=> ?_,List.pairwise_cons.2 h⟩
   rcases List.mem_cons.1 hz with rfl|hz
   ·exact hx
   ·exact Int.le_trans hx (h.1 z hz)
  ·rename_i hx
   refine List.pairwise_cons.2 ⟨fun z hz=> ?_,LP x l h.2⟩
   rcases List.mem_cons.1 ((EY x l).subset hz)with rfl|hz
   ·omega
   ·exact h.1 z hz
theorem IN:∀l:List Int,(l8 l).Pairwise (· ≤·)
 | []=>by simp[l8]
 |x::l=>LP x _ (IN l)
theorem OE{l m:List Int}(hp:l.Perm m)(hm:m.Pairwise (· ≤·)):l8 l=m:=
 List.Perm.eq_of_pairwise (le:=(· ≤·)) (fun _ _ _ _ h1 h2=>Int.le_antisymm h1 h2) (IN l) hm ((CI l).trans hp)
theorem LQ(l:List Int):(l8 l).length=l.length:=(CI l).length_eq
theorem OF(l:List Int):(l.mergeSort fun x y=>decide (x≤y))=l8 l:=by
 refine(OE (List.mergeSort_perm l _).symm ?_).symm
 refine(List.pairwise_mergeSort (le:=fun x y=>decide (x≤y)) (fun a b c h1 h2=> ?_) (fun a b=> ?_) l).imp fun h=>by simpa using h
 ·simp only[decide_eq_true_eq]at*;omega
 ·simp only[Bool.or_eq_true,decide_eq_true_eq];omega
theorem abH(zs:List Int):(zs.map int64).all T.A4=true:=by
 rw[List.all_map]
 exact List.all_eq_true.2 fun z _=>rfl
theorem abI(zs:List Int):(zs.map int64).map T.val=zs.map (Value.int .i64):=by rw[List.map_map];rfl
theorem Us(args:List T)(r:T)(h:IP args=some r):Sound Tryz.prog (an+gE) args r:=by
 have h69:an+gE-an=69:=by rw[Nat.add_sub_cancel_left];rfl
 unfold Sound
 rw[if_neg (Nat.not_lt.2 (Nat.le_add_right _ _)),h69]
 unfold IP at h
 split at h<;>try(cases h;done)
 ·simp only[Option.some.injEq]at h
  subst h
  refine .inl ⟨_,_,.al [],[],rfl,rfl,by kernel_rfl,fun B S β φ vs hI xR cj=> ?_⟩
  obtain⟨x0,rfl⟩:∃a,vs=#[a]:=by
   match vs,xR with
   |⟨[a]⟩,_=>exact⟨a,rfl⟩
  have r0:=cj 0 x0 _ rfl rfl
  have hx:x0= .slice none 0 0:=by
   cases r0 with
   |nil=>rfl
   |sl _ _ g a n c cs f cG hg hc h=>rcases hg with hg|⟨hg,_⟩|⟨k,e,hg,_⟩<;>(try rcases hg with hg|hg)<;>cases hg
  subst hx
  refine(Tryz.slices_Sort_int_none none 0 B.w).mono ?_
  rintro e w' ⟨rfl,rfl⟩
  refine⟨_,S,β,φ,rfl,⟨⟨hI.below.os,hI.below.tape,hI.below.output,hI.below.size,hI.below.lt,hI.below.block,hI.below.room⟩,hI.lt,hI.box,hI.boxed,hI.inj,hI.gm,hI.dS,hI.top,hI.base,hI.stay,fun s b _ h=>by simp[bn]at h⟩,.al _ _ #[] [] rfl (fun i x t hx _=>by simp at hx),fun l b hb=> .inl hb⟩
 ·rename_i n m cs
  obtain⟨zs,hz,h2⟩:=Option.bind_eq_some_iff.1 h
  clear h
  split at h2<;>try(cases h2;done)
  rename_i hc
  obtain⟨bV,rfl,aq9⟩:=hc
  simp only[Option.some.injEq]at h2
  subst h2
  have aF:=IM hz
  subst aF
  have R0:zs.length=m:=by simpa using bV
  refine .inl ⟨_,_,.al [],[.agg ((l8 zs).map int64),.undef],rfl,rfl,by kernel_rfl,fun B S β φ vs hI xR cj=> ?_⟩
  simp only[List.map_cons,List.map_nil,eD]at hI⊢
  obtain⟨x0,rfl⟩:∃a,vs=#[a]:=by
   match vs,xR with
   |⟨[a]⟩,_=>exact⟨a,rfl⟩
  have r0:=cj 0 x0 _ rfl rfl
  have zk:∀(p:Option Addr) (c:Nat),m=0→Calls Tryz.prog 69 #[.slice p m c] B.w fun e w'=>∃x S' β' φ',e= .returned x∧Inv Tryz.prog {B with nb:=0,β0:=bn} S S' β' φ' [some ((l8 zs).map int64),none] w'∧ak S' w' β' φ' x (.al [])∧∀l b,β l=some b→β' l=some b∨[some ((l8 zs).map int64),none][l]? =some none:=by
   rintro p c rfl
   obtain rfl:=List.eq_nil_of_length_eq_zero R0
   refine(Tryz.slices_Sort_int_none p c B.w).mono ?_
   rintro e w' ⟨rfl,rfl⟩
   exact⟨_,S,β,φ,rfl,⟨⟨hI.below.os,hI.below.tape,hI.below.output,hI.below.size,hI.below.lt,hI.below.block,hI.below.room⟩,hI.lt,hI.box,hI.boxed,hI.inj,hI.gm,hI.dS,hI.top,hI.base,hI.stay,fun s b _ h=>by simp[bn]at h⟩,.al _ _ #[] [] rfl (fun i x t hx _=>by simp at hx),fun l b hb=> .inl hb⟩
  cases r0 with
  |au _ _ _ _ _ _ b c hb hp cG oZ=>
   by_cases nI:m=0
   ·exact zk _ _ nI
   obtain⟨R3,NT,Is,h3,h4⟩:=hI.box 0 b hb
   simp only[List.getElem?_cons_zero,Option.some.injEq]at h3
   subst h3
   obtain⟨cur,te,hg,hcc,bF,oD⟩:=Ur (h4.1 rfl) (abH zs)
   rw[abI,List.length_map]at oD
   rw[List.length_map]at hcc
   have hblt:b< B.w.heap.size:=(Array.getElem?_eq_some_iff.1 hg).1
   have hH:Go.Sort.Holds (Value.int .i64) B.w b 0 zs.toArray:=by
    intro j hj
    have tK:j< zs.length:=by simpa using hj
    refine⟨?_,by simp[World.frozen?,hg]⟩
    have h1:(cur.toList.take zs.length)[j]? =some (.int .i64 zs[j]):=by rw[oD,List.getElem?_map,List.getElem?_eq_getElem tK];rfl
    rw[List.getElem?_take,if_pos tK]at h1
    simp only[World.cell?,hg,Nat.zero_add]
    rw[getElem!_pos _ j hj]
    simpa using h1
   rw[←R0]
   refine(Tryz.slices_Sort_int b 0 c zs B.w hH hblt (by omega)).mono ?_
   rintro e w' ⟨rfl,k,os,rfl⟩
   rw[OF]
   have fB:=LQ zs
   generalize l8 zs=ss at*
   generalize Ut:Go.Sort.putCells (Value.int .i64) 0 ss.toArray cur=OG
   have hsz:OG.size=cur.size:=by rw[←Ut];simp[Go.Sort.putCells]
   have ey:∀j (h:j< ss.length),OG[j]? =some (.int .i64 ss[j]):=by
    intro j hj
    rw[←Ut]
    simp only[Go.Sort.putCells,Array.getElem?_mapIdx]
    rw[Array.getElem?_eq_getElem (show j< cur.size by omega),Option.map_some,if_pos ⟨Nat.zero_le _,by simpa using hj⟩,Nat.sub_zero,getElem!_pos _ j (by simpa using hj)]
    simp
   have vw:(Go.Sort.grow (Go.Sort.putRow (Value.int .i64) (Go.Sort.ahead B.w k) b 0 ss.toArray) os).heap.size=B.w.heap.size+os.size:=by
    simp[Go.Sort.grow,Go.Sort.putRow,Go.Sort.mapBlock,Go.Sort.ahead]
   have jN:∀j,j< B.w.heap.size→j≠b→(Go.Sort.grow (Go.Sort.putRow (Value.int .i64) (Go.Sort.ahead B.w k) b 0 ss.toArray) os).heap[j]? =B.w.heap[j]? :=by
    intro j hj hne
    simp only[Go.Sort.grow,Go.Sort.putRow,Go.Sort.mapBlock,Go.Sort.ahead]
    rw[Array.getElem?_append_left (by simpa using hj),Array.getElem?_modify,if_neg (Ne.symm hne)]
   have hw3:(Go.Sort.grow (Go.Sort.putRow (Value.int .i64) (Go.Sort.ahead B.w k) b 0 ss.toArray) os).heap[b]? =some (.cells OG te (0,0)):=by
    simp only[Go.Sort.grow,Go.Sort.putRow,Go.Sort.mapBlock,Go.Sort.ahead]
    rw[Array.getElem?_append_left (by simpa using hblt),Array.getElem?_modify,if_pos rfl,hg,Option.map_some]
    simp only[Go.Sort.onCells,Ut]
   generalize DC:Go.Sort.grow (Go.Sort.putRow (Value.int .i64) (Go.Sort.ahead B.w k) b 0 ss.toArray) os=w' at*
   have pG:w'.os=B.w.os:=by rw[←DC];rfl
   have sh:w'.tape=B.w.tape:=by rw[←DC];rfl
   have Wq:w'.output=B.w.output:=by rw[←DC];rfl
   have zM:B.w.grownBy w' (some b):=⟨pG,sh,Wq,by omega,fun j hj hne=>jN j hj fun e=>hne (by rw[e])⟩
   have nZ:cg B.w w':=kf (g:=b) (fun j hj hne=>jN j hj hne) fun k ⟨cc,ee,k1,k2⟩=>⟨OG,te,hw3,by rw[hg]at k1;cases k1;omega⟩
   have kY:N9 B w':=hI.below.step zM (fun j e=>by cases e;exact R3) nZ
   have ana:∀b' o,S b' o→∀sp v,B.w.cell? ⟨b',o,sp⟩=some v→w'.cell? ⟨b',o,sp⟩=some v:=fun b' o hs sp v hv=>by
    rw[World.cell?_of_block (w:=B.w) (jN b' (hI.lt b' o hs) fun e=>NT o (e▸hs))]
    exact hv
   have wU:∀s b',β s=some b'→s=0∧b'=b:=by
    intro s b' hs
    obtain⟨_,_,b9,h5,_⟩:=hI.box s b' hs
    match s,h5 with
    |0,_=>exact⟨rfl,by rw[hb]at hs;cases hs;rfl⟩
    |1,h5=>simp at h5
    |s+2,h5=>simp at h5
   refine⟨_,S,β,cD,rfl,⟨⟨kY.os,kY.tape,kY.output,kY.size,kY.lt,kY.block,kY.room⟩,fun b' o hs=>Nat.lt_of_lt_of_le (hI.lt b' o hs) zM.size, ?_, ?_,hI.inj,fun k x e hk=>by simp[cD]at hk,fun k k' x x' e e' hk=>by simp[cD]at hk,hI.top,fun _ _ h=>h,ana,fun s b _ h=>by simp[bn]at h⟩,.al _ _ #[] [] rfl (fun i x t hx _=>by simp at hx),fun l b hb=> .inl hb⟩
   ·intro s b' hs
    obtain⟨rfl,rfl⟩:=wU s b' hs
    refine⟨R3,NT,_,rfl,fun _=>⟨OG,te,hw3,by rw[List.length_map];omega,fun j x hj hx=> ?_,fun j x t hx ht=> ?_⟩,fun h=>by cases h⟩
    ·rw[List.length_map]at hj
     rw[ey j hj]at hx
     cases hx;rfl
    ·have hj:j< ss.length:=by simpa using(List.getElem?_eq_some_iff.1 ht).1
     rw[ey j hj]at hx
     rw[List.getElem?_map,List.getElem?_eq_getElem hj]at ht
     cases hx
     cases ht
     exact .v ..
   ·intro s b9 hs
    match s,hs with
    |0,hs=>exact .inr ⟨b,hb⟩
    |1,hs=>simp at hs
    |s+2,hs=>simp at hs
  |iv _ _ ba _ _ _=>exact zk _ _ rfl
end Go.Vi.Zz
end
