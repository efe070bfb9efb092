/-
  A claim's own text, joined by a small program out of: PzSort.
-/
import Derived.Test.YtodollbkpkpklaaGreatX3
import Derived.Test.YtodollbkpkpklaaGreatX17
import Derived.Test.YtodollbkpkpklaaGreatX18
import Derived.KernelRfl
set_option linter.unusedVariables false
set_option linter.unusedSimpArgs false
section
set_option maxRecDepth 1000000
namespace Go.Vi.Zz
open Go Go.Vi Go.Proofs Go.RowKit
theorem Il:∀{cs:List T} {zs:List Int},B9 cs=some zs→cs=zs.map int64
 | [],zs,h=>by simp only[B9,Option.some.injEq]at h;subst h;rfl
 |t::cs,zs,h=>by
  unfold B9 at h
  split at h
  ·rename_i e;cases e
  ·rename_i z bW e
   cases e
   obtain⟨zs',h1,rfl⟩:=Option.map_eq_some_iff.1 h
   rw[Il h1];rfl
  ·cases h
theorem Ep(x:Int):∀l:List Int,(He x l).Perm (x::l)
 | []=> .refl _
 |y::l=>by
  unfold He
  split
  ·exact .refl _
  ·exact((Ep x l).cons y).trans (.swap x y l)
theorem Ca:∀l:List Int,(lO l).Perm l
 | []=> .refl _
 |x::l=>(Ep x _).trans ((Ca l).cons x)
theorem Lm(x:Int):∀l:List Int,l.Pairwise (· ≤·)→(He x l).Pairwise (· ≤·)
 | [],_=>by simp[He]
 |y::l,h=>by
  unfold He
  rw[List.pairwise_cons]at h
  split
  ·rename_i hx
   refine List.pairwise_cons.2 ⟨fun z hz=> ?_,List.pairwise_cons.2 h⟩
   rcases List.mem_cons.1 hz with rfl|hz
   ·exact hx
   ·exact Int.le_trans hx (h.1 z hz)
  ·rename_i hx
   refine List.pairwise_cons.2 ⟨fun z hz=> ?_,Lm x l h.2⟩
   rcases List.mem_cons.1 ((Ep x l).subset hz)with rfl|hz
   ·omega
   ·exact h.1 z hz
theorem Im:∀l:List Int,(lO l).Pairwise (· ≤·)
 | []=>by simp[lO]
 |x::l=>Lm x _ (Im l)
theorem Od{l m:List Int}(hp:l.Perm m)(hm:m.Pairwise (· ≤·)):lO l=m:=
 List.Perm.eq_of_pairwise (le:=(· ≤·)) (fun _ _ _ _ h1 h2=>Int.le_antisymm h1 h2) (Im l) hm ((Ca l).trans hp)
theorem Ln(l:List Int):(lO l).length=l.length:=(Ca l).length_eq
theorem Oe(l:List Int):(l.mergeSort fun x y=>decide (x≤y))=lO l:=by
 refine(Od (List.mergeSort_perm l _).symm ?_).symm
 refine(List.pairwise_mergeSort (le:=fun x y=>decide (x≤y)) (fun a b c h1 h2=> ?_) (fun a b=> ?_) l).imp fun h=>by simpa using h
 ·simp only[decide_eq_true_eq]at*;omega
 ·simp only[Bool.or_eq_true,decide_eq_true_eq];omega
theorem abo(zs:List Int):(zs.map int64).all T.Ay=true:=by
 rw[List.all_map]
 exact List.all_eq_true.2 fun z _=>rfl
theorem abp(zs:List Int):(zs.map int64).map T.val=zs.map (Value.int .i64):=by rw[List.map_map];rfl
theorem Uc(args:List T)(r:T)(h:Io args=some r):Sound Tryz.prog (aq+gv) args r:=by
 have h69:aq+gv-aq=69:=by rw[Nat.add_sub_cancel_left];rfl
 unfold Sound
 rw[if_neg (Nat.not_lt.2 (Nat.le_add_right _ _)),h69]
 unfold Io at h
 split at h<;>try(cases h;done)
 ·simp only[Option.some.injEq]at h
  subst h
  refine .inl ⟨_,_,.an [],[],rfl,rfl,by kernel_rfl,fun B S β φ vs hI xi cj=> ?_⟩
  obtain⟨x0,rfl⟩:∃a,vs=#[a]:=by
   match vs,xi with
   |⟨[a]⟩,_=>exact⟨a,rfl⟩
  have r0:=cj 0 x0 _ rfl rfl
  have hx:x0= .slice none 0 0:=by
   cases r0 with
   |nil=>rfl
   |sl _ _ g a n c cs f cF hg hc h=>rcases hg with hg|⟨hg,_⟩|⟨k,e,hg,_⟩<;>(try rcases hg with hg|hg)<;>cases hg
  subst hx
  refine(Tryz.slices_Sort_int_none none 0 B.w).mono ?_
  rintro e w' ⟨rfl,rfl⟩
  refine⟨_,S,β,φ,rfl,⟨⟨hI.below.os,hI.below.tape,hI.below.output,hI.below.size,hI.below.lt,hI.below.block,hI.below.room⟩,hI.lt,hI.box,hI.boxed,hI.inj,hI.fX,hI.dK,hI.top,hI.base,hI.stay,fun s b _ h=>by simp[bj]at h⟩,.an _ _ #[] [] rfl (fun i x t hx _=>by simp at hx),fun l b hb=> .inl hb⟩
 ·rename_i n m cs
  obtain⟨zs,hz,h2⟩:=Option.bind_eq_some_iff.1 h
  clear h
  split at h2<;>try(cases h2;done)
  rename_i hc
  obtain⟨b7,rfl,aqq⟩:=hc
  simp only[Option.some.injEq]at h2
  subst h2
  have aG:=Il hz
  subst aG
  have RK:zs.length=m:=by simpa using b7
  refine .inl ⟨_,_,.an [],[.agg ((lO zs).map int64),.undef],rfl,rfl,by kernel_rfl,fun B S β φ vs hI xi cj=> ?_⟩
  simp only[List.map_cons,List.map_nil,er]at hI⊢
  obtain⟨x0,rfl⟩:∃a,vs=#[a]:=by
   match vs,xi with
   |⟨[a]⟩,_=>exact⟨a,rfl⟩
  have r0:=cj 0 x0 _ rfl rfl
  have yL:∀(p:Option Addr) (c:Nat),m=0→Calls Tryz.prog 69 #[.slice p m c] B.w fun e w'=>∃x S' β' φ',e= .returned x∧Inv Tryz.prog {B with nb:=0,β0:=bj} S S' β' φ' [some ((lO zs).map int64),none] w'∧ak S' w' β' φ' x (.an [])∧∀l b,β l=some b→β' l=some b∨[some ((lO zs).map int64),none][l]? =some none:=by
   rintro p c rfl
   obtain rfl:=List.eq_nil_of_length_eq_zero RK
   refine(Tryz.slices_Sort_int_none p c B.w).mono ?_
   rintro e w' ⟨rfl,rfl⟩
   exact⟨_,S,β,φ,rfl,⟨⟨hI.below.os,hI.below.tape,hI.below.output,hI.below.size,hI.below.lt,hI.below.block,hI.below.room⟩,hI.lt,hI.box,hI.boxed,hI.inj,hI.fX,hI.dK,hI.top,hI.base,hI.stay,fun s b _ h=>by simp[bj]at h⟩,.an _ _ #[] [] rfl (fun i x t hx _=>by simp at hx),fun l b hb=> .inl hb⟩
  cases r0 with
  |av _ _ _ _ _ _ b c hb hp cF oH=>
   by_cases np:m=0
   ·exact yL _ _ np
   obtain⟨RN,Nt,HY,h3,h4⟩:=hI.box 0 b hb
   simp only[List.getElem?_cons_zero,Option.some.injEq]at h3
   subst h3
   obtain⟨cur,te,hg,hcc,bq,n9⟩:=Ub (h4.1 rfl) (abo zs)
   rw[abp,List.length_map]at n9
   rw[List.length_map]at hcc
   have hblt:b< B.w.heap.size:=(Array.getElem?_eq_some_iff.1 hg).1
   have hH:Go.Sort.Holds (Value.int .i64) B.w b 0 zs.toArray:=by
    intro j hj
    have th:j< zs.length:=by simpa using hj
    refine⟨?_,by simp[World.frozen?,hg]⟩
    have h1:(cur.toList.take zs.length)[j]? =some (.int .i64 zs[j]):=by rw[n9,List.getElem?_map,List.getElem?_eq_getElem th];rfl
    rw[List.getElem?_take,if_pos th]at h1
    simp only[World.cell?,hg,Nat.zero_add]
    rw[getElem!_pos _ j hj]
    simpa using h1
   rw[←RK]
   refine(Tryz.slices_Sort_int b 0 c zs B.w hH hblt (by omega)).mono ?_
   rintro e w' ⟨rfl,k,os,rfl⟩
   rw[Oe]
   have fY:=Ln zs
   generalize lO zs=ss at*
   generalize Ud:Go.Sort.putCells (Value.int .i64) 0 ss.toArray cur=Of
   have hsz:Of.size=cur.size:=by rw[←Ud];simp[Go.Sort.putCells]
   have ej:∀j (h:j< ss.length),Of[j]? =some (.int .i64 ss[j]):=by
    intro j hj
    rw[←Ud]
    simp only[Go.Sort.putCells,Array.getElem?_mapIdx]
    rw[Array.getElem?_eq_getElem (show j< cur.size by omega),Option.map_some,if_pos ⟨Nat.zero_le _,by simpa using hj⟩,Nat.sub_zero,getElem!_pos _ j (by simpa using hj)]
    simp
   have xn:(Go.Sort.grow (Go.Sort.putRow (Value.int .i64) (Go.Sort.ahead B.w k) b 0 ss.toArray) os).heap.size=B.w.heap.size+os.size:=by
    simp[Go.Sort.grow,Go.Sort.putRow,Go.Sort.mapBlock,Go.Sort.ahead]
   have jy:∀j,j< B.w.heap.size→j≠b→(Go.Sort.grow (Go.Sort.putRow (Value.int .i64) (Go.Sort.ahead B.w k) b 0 ss.toArray) os).heap[j]? =B.w.heap[j]? :=by
    intro j hj hne
    simp only[Go.Sort.grow,Go.Sort.putRow,Go.Sort.mapBlock,Go.Sort.ahead]
    rw[Array.getElem?_append_left (by simpa using hj),Array.getElem?_modify,if_neg (Ne.symm hne)]
   have hw3:(Go.Sort.grow (Go.Sort.putRow (Value.int .i64) (Go.Sort.ahead B.w k) b 0 ss.toArray) os).heap[b]? =some (.cells Of te (0,0)):=by
    simp only[Go.Sort.grow,Go.Sort.putRow,Go.Sort.mapBlock,Go.Sort.ahead]
    rw[Array.getElem?_append_left (by simpa using hblt),Array.getElem?_modify,if_pos rfl,hg,Option.map_some]
    simp only[Go.Sort.onCells,Ud]
   generalize C9:Go.Sort.grow (Go.Sort.putRow (Value.int .i64) (Go.Sort.ahead B.w k) b 0 ss.toArray) os=w' at*
   have uc:w'.os=B.w.os:=by rw[←C9];rfl
   have xh:w'.tape=B.w.tape:=by rw[←C9];rfl
   have V3:w'.output=B.w.output:=by rw[←C9];rfl
   have zg:B.w.grownBy w' (some b):=⟨uc,xh,V3,by omega,fun j hj hne=>jy j hj fun e=>hne (by rw[e])⟩
   have nK:cg B.w w':=jW (g:=b) (fun j hj hne=>jy j hj hne) fun k ⟨cc,ee,k1,k2⟩=>⟨Of,te,hw3,by rw[hg]at k1;cases k1;omega⟩
   have kE:NK B w':=hI.below.step zg (fun j e=>by cases e;exact RN) nK
   have amu:∀b' o,S b' o→∀sp v,B.w.cell? ⟨b',o,sp⟩=some v→w'.cell? ⟨b',o,sp⟩=some v:=fun b' o hs sp v hv=>by
    rw[World.cell?_of_block (w:=B.w) (jy b' (hI.lt b' o hs) fun e=>Nt o (e▸hs))]
    exact hv
   have C3:∀s b',β s=some b'→s=0∧b'=b:=by
    intro s b' hs
    obtain⟨_,_,bW,h5,_⟩:=hI.box s b' hs
    match s,h5 with
    |0,_=>exact⟨rfl,by rw[hb]at hs;cases hs;rfl⟩
    |1,h5=>simp at h5
    |s+2,h5=>simp at h5
   refine⟨_,S,β,cz,rfl,⟨⟨kE.os,kE.tape,kE.output,kE.size,kE.lt,kE.block,kE.room⟩,fun b' o hs=>Nat.lt_of_lt_of_le (hI.lt b' o hs) zg.size, ?_, ?_,hI.inj,fun k x e hk=>by simp[cz]at hk,fun k k' x x' e e' hk=>by simp[cz]at hk,hI.top,fun _ _ h=>h,amu,fun s b _ h=>by simp[bj]at h⟩,.an _ _ #[] [] rfl (fun i x t hx _=>by simp at hx),fun l b hb=> .inl hb⟩
   ·intro s b' hs
    obtain⟨rfl,rfl⟩:=C3 s b' hs
    refine⟨RN,Nt,_,rfl,fun _=>⟨Of,te,hw3,by rw[List.length_map];omega,fun j x hj hx=> ?_,fun j x t hx ht=> ?_⟩,fun h=>by cases h⟩
    ·rw[List.length_map]at hj
     rw[ej j hj]at hx
     cases hx;rfl
    ·have hj:j< ss.length:=by simpa using(List.getElem?_eq_some_iff.1 ht).1
     rw[ej j hj]at hx
     rw[List.getElem?_map,List.getElem?_eq_getElem hj]at ht
     cases hx
     cases ht
     exact .v ..
   ·intro s bW hs
    match s,hs with
    |0,hs=>exact .inr ⟨b,hb⟩
    |1,hs=>simp at hs
    |s+2,hs=>simp at hs
  |gX _ _ ba _ _ _=>exact yL _ _ rfl
end Go.Vi.Zz
end
