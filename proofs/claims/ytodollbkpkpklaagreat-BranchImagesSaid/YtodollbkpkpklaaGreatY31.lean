/-
  A claim's own text, joined by a small program out of: Vj37.
-/
import Derived.Test.YtodollbkpkpklaaGreatY2
import Derived.Test.YtodollbkpkpklaaGreatY17
import Derived.ChangeShapes
import Derived.Deep.Slices
import Derived.Carry
set_option linter.unusedVariables false
set_option linter.unusedSimpArgs false
section
namespace Go.Vi
open Go
def Rel(w:World):List Value→List T→Prop
 | [],[]=>True
 |v::cs,t::ts=>(v.oneCell'=true∧ak (fun b _=>b< w.heap.size) w bn cD v t)∧Rel w cs ts
 |_,_=>False
theorem Gg{w:World}:∀{cs:List Value} {ts:List T},Rel w cs ts→∀(i:Nat) (v:Value) (t:T),cs[i]? =some v→ts[i]? =some t→v.oneCell'=true∧ak (fun b _=>b< w.heap.size) w bn cD v t
 | [],[],_,i,v,t,h,_=>by simp at h
 |v::cs,t::ts,h,0,v',t',h1,h2=>by
  simp at h1 h2;subst h1;subst h2;exact h.1
 |v::cs,t::ts,h,i+1,v',t',h1,h2=>Gg h.2 i v' t' (by simpa using h1) (by simpa using h2)
 | [],_::_,h,_,_,_,_,_=>h.elim
 |_::_,[],h,_,_,_,_,_=>h.elim
def JI{H:Type}(enc:TypeId×Value→H)(P:Program)(w:World)(t:TypeId){α:Type}(e:α→List T)(ok:α→Prop):Prop:=
 ∀{fuel:Nat} {cs:List Value} {x:DataW H×List MemPlace},DataW.trod enc P w 0 (fun _=>true) true fuel t cs=some x→∃a,ok a∧Rel w cs (e a)
section
variable{H:Type}{enc:TypeId×Value→H}{P:Program}{w:World}
theorem Vv{t:TypeId}(hu:P.underlying t=some (.int .u8)):JI enc P w t (fun b:UInt8=>[.v (.int .u8 b.toNat)]) (fun _=>True):=by
 intro fuel cs x h
 obtain⟨n,rfl,-,hw⟩:=DataW.trod_int hu h
 have h1:0≤n∧n≤255:=by simpa [Lit.wf,IntKind.min,IntKind.max,IntKind.signed,IntKind.bits]using hw
 refine⟨UInt8.ofNat n.toNat,trivial,⟨rfl, ?_⟩,trivial⟩
 have e:((UInt8.ofNat n.toNat).toNat:Int)=n:=by
  rw[UInt8.toNat_ofNat']
  have:n.toNat%2^8=n.toNat:=Nat.mod_eq_of_lt (by omega)
  rw[this];omega
 simp only[e]
 exact .v _ _ _
theorem Hb{α:Type}{Q:Nat→α→Prop}:∀n:Nat,(∀i,i< n→∃a,Q i a)→∃l:List α,l.length=n∧∀i (h:i< l.length),Q i l[i]
 |0,_=>⟨[],rfl,fun i h=>by simp at h⟩
 |n+1,h=>by
  obtain⟨l,hl,hq⟩:=Hb n fun i hi=>h i (by omega)
  obtain⟨a,ha⟩:=h n (by omega)
  refine⟨l++[a],by simp[hl],fun i hi=> ?_⟩
  by_cases hlt:i< l.length
  ·rw[List.getElem_append_left hlt];exact hq i hlt
  ·have:i=l.length:=by simp at hi;omega
   subst this
   simp;rw[hl];exact ha
theorem aan{base:Nat}{a:Addr}{n:Nat}{cs:List Value}(h:w.cells? base a n=some cs):cs.length=n∧∀j v,cs[j]? =some v→w.cell? (a.add j)=some v:=by
 unfold World.cells? at h
 split at h<;>try(cases h;done)
 obtain⟨h1,h2⟩:=du h
 refine⟨by simpa using h1.symm,fun j v hv=> ?_⟩
 have hj:j< cs.length:=(List.getElem?_eq_some_iff.1 hv).1
 exact h2 j j v (by rw[List.getElem?_range];simp at h1;omega) hv
theorem Rv{t e m:Nat}{α:Type}{en:α→List T}{ok:α→Prop}(hu:P.underlying t=some (.slice e))(hc:P.cellsOf e=m)(hm:0< m)(hE:JI enc P w e en ok)(ua:∀a,(en a).length=m):
  JI enc P w t (fun l:List α=>[.sl .any l.length (l.flatMap en)]) (fun l=>l.length≤maxLen∧∀a∈l,ok a):=by
 intro fuel cs x h
 rcases Deep.open_slice hu h with⟨rfl,-⟩|⟨a,len,cap,k,n,D,Pl,rfl,-,wO,Wc,hk,-,hx⟩
 ·exact⟨[],⟨by simp,by simp⟩,⟨rfl,.nil _ _ _ rfl⟩,trivial⟩
 ·simp at hk
  subst hk
  obtain⟨l,hl,hq⟩:=Hb (Q:=fun i a'=>ok a'∧∃b9,w.cells? 0 (a.add (i*P.cellsOf e)) (P.cellsOf e)=some b9∧Rel w b9 (en a')) len fun i hi=>by
   obtain⟨b9,h1,h2⟩:=hx i (by omega)
   obtain⟨b,hb,hr⟩:=hE h2
   exact⟨b,hb,b9,h1,hr⟩
  refine⟨l,⟨by omega,fun b hb=> ?_⟩,⟨rfl, ?_⟩,trivial⟩
  ·obtain⟨i,hi,rfl⟩:=List.getElem_of_mem hb
   exact(hq i hi).1
  have key:∀i,i< (l.flatMap en).length→∃v,w.cell? (a.add i)=some v∧v.oneCell'=true∧∀t,(l.flatMap en)[i]? =some t→ak (fun b _=>b< w.heap.size) w bn cD v t:=by
   intro i hi
   rw[lY ua]at hi
   have hlt:i / m< l.length:=(Nat.div_lt_iff_lt_mul hm).2 hi
   have ahS:i%m< m:=Nat.mod_lt _ hm
   obtain⟨-,b9,h1,h2⟩:=hq (i / m) hlt
   rw[hc]at h1
   obtain⟨g1,g2⟩:=aan h1
   have hdm:i / m*m+i%m=i:=by rw[Nat.mul_comm];exact Nat.div_add_mod i m
   have hv:b9[i%m]? =some (b9[i%m]'(by omega)):=List.getElem?_eq_getElem _
   refine⟨b9[i%m]'(by omega), ?_, ?_⟩
   ·have:=g2 _ _ hv
    rwa [show(a.add (i / m*m)).add (i%m)=a.add i by rw[Addr.add_add,hdm]]at this
   ·have hte:(en l[i / m])[i%m]? =some ((en l[i / m])[i%m]'(by rw[ua];exact ahS)):=List.getElem?_eq_getElem _
    refine⟨(Gg h2 _ _ _ hv hte).1,fun t ht=>(Gg h2 _ _ t hv ?_).2⟩
    rw[←CL ua l (i / m) hlt,List.getElem?_take_of_lt ahS,List.getElem?_drop,hdm]
    exact ht
  rw[hl]
  refine .sl _ _ _ a len k _ (fun i=>(w.cell? (a.add i)).getD (.bool false)) wO (.inl (.inr rfl)) (fun i hi=> ?_) fun i t ht=> ?_
  ·obtain⟨v,h1,h2,-⟩:=key i hi
   have hb:a.block< w.heap.size:=by
    unfold World.cell? at h1
    by_cases hh:a.block< w.heap.size
    ·exact hh
    ·have:w.heap[(a.add i).block]? =none:=by simp only[show(a.add i).block=a.block by(unfold Addr.add;split<;>rfl),Array.getElem?_eq_none_iff];omega
     simp[this]at h1
   rw[h1]
   exact⟨hb,rfl,h2⟩
  ·obtain⟨v,h1,-,h3⟩:=key i (List.getElem?_eq_some_iff.1 ht).1
   rw[h1]
   exact h3 t ht
end
end Go.Vi
end
