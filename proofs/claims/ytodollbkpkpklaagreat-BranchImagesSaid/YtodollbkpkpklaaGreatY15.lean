/-
  A claim's own text, joined by a small program out of: Vj14c, Vj15.
-/
import Derived.Test.YtodollbkpkpklaaGreatY14
import Derived.TacticsIn
import Derived.OrdersIn
import Derived.LoopNIn
import Derived.RangeFuncWrites
import Derived.RangeFuncLeaves
set_option linter.unusedVariables false
set_option linter.unusedSimpArgs false
section
namespace Go.Vi
open Go Go.RowKit
section
variable{P:Program}{W:di}{w:World}{S0 S:Nat→Nat→Prop}{β:aX}{φ:bB}{a:Act}{o:Oper}{σ:St}
theorem TV{r:Option Nat}{n f:Nat}{args:Array Value}{R:Ending→World→Prop}(h:Calls P f args w R):CallsIn (wd r) n P f args w R:=(callsIn_wide (n:=n)).2 h
theorem aL.wpIn{r:Option Nat}{n:Nat}{x:Value}{w':World}{K:Act→World→Prop}{Q:Exit→Act→World→Prop}(h:aL P a o w x w')(hd:∀c,o.op≠ .defer c)(hK:K (a.put o.dst x) w'):o.wpIn (wd r) n P a w K Q:=by
 unfold Oper.wpIn
 refine⟨fun _ _=>trivial, ?_⟩
 rw[Oper.semAt_eq _ _ _ hd]
 rcases h with h|⟨rfl,h⟩
 ·rw[h];exact hK
 ·rw[h];exact hK
theorem sm{io:FuncId→Nat}{vm bm:List Nat}{done:List (Option Nat)}{i:IOp}(h:oB P io vm bm done o=some i):∀c,o.op≠ .defer c:=by
 intro c hc
 simp only[oB,hc]at h
 cases h
mutual
theorem abi:∀t:T,t.aU=false→t.refs=[]
 | .ref ..,h| .au ..,h| .aQ ..,h=>by simp[T.aU]at h
 | .agg ts,h=>by simp only[T.aU]at h;simp only[T.refs,tP ts h]
 | .al ts,h=>by simp only[T.aU]at h;simp only[T.refs,tP ts h]
 | .bq f a b,h=>by simp only[T.aU,Bool.or_eq_false_iff]at h;simp only[T.refs,tP a h.1,tP b h.2,List.append_nil]
 | .undef,_| .v _,_| .sl ..,_| .ptr ..,_=>rfl
theorem tP:∀ts:List T,aZ ts=false→dZ ts=[]
 | [],_=>rfl
 |t::ts,h=>by simp only[aZ,Bool.or_eq_false_iff]at h;simp only[dZ,abi t h.1,tP ts h.2,List.append_nil]
end
theorem J9{C:FuncId→List T→Option T}{d f:Nat}{ad:List Nat}{as:List T}{p:T×St}(h:ae.dL C σ d ad f as=some p):ae.ez C σ d ad f as=some p:=by
 unfold ae.dL at h
 split at h
 ·cases h
 ·rename_i Hw
  have hr:=tP as (by simpa using Hw)
  unfold ae.ez
  have h0:reach σ.boxes 10000 [] (dZ as)=[]:=by rw[hr];rfl
  simp only[h0,List.flatMap_nil,List.length_nil,Nat.mul_zero,List.range_zero,List.map_nil]
  split at h
  ·rename_i r outs hC
   split at h
   ·rename_i eC
    obtain⟨h1,h2,h3⟩:=eC
    have hl:jb [] outs=some:=by funext s;rfl
    have N2:gu d []=fun k=>if hit (2*d) k then none else some k:=by funext k;simp[gu]
    rw[if_pos ⟨by simpa using h1,by
     rw[List.all_eq_true]at h2⊢
     intro s hs
     have:=h2 s hs
     simp only[Bool.and_eq_true]at this⊢
     exact⟨⟨this.1.1,by simp⟩,by simp⟩,h3,List.nodup_nil,by simp⟩]
    simp only[hl,N2]
    rw[←h]
    simp only[St.strip]
    have e:∀ts,stripL (2*d) ts=ah some (fun k=>if hit (2*d) k then none else some k) ts:=nM (2*d)
    simp only[e]
    have e2:stripL (2*d)=ah some (fun k=>if hit (2*d) k then none else some k):=by funext ts;exact e ts
    rw[e2]
   ·cases h
  ·cases h
theorem aeu{bm:List Nat}{d s:Nat}(h:s∈AG bm d):s+1< 2*bm.length:=by
 unfold AG at h
 obtain⟨j,_,hj⟩:=List.mem_filterMap.1 h
 exact oa hj
theorem Eu{f:Nat}{vs:Array Value}(h:jG P f=true):(callFunc f vs).run P w= .ok (.enter f vs) w:=by
 unfold jG at h
 split at h
 ·rename_i fn pZ
  simp only[Bool.and_eq_true,Bool.not_eq_true']at h
  have hb:fn.body.isNone=false:=by
   cases hb:fn.body with
   |none=>rw[hb]at h;simp at h
   |some _=>rfl
  have h1:¬fn.name= "runtime.NumGoroutine" :=by simpa using h.2
  have h2:¬fn.body=none:=fun h=>by rw[h]at hb;cases hb
  simp[callFunc,pZ,h1,h2]
 ·cases h
theorem y5{C:FuncId→List T→Option T}(hC:∀f args r,C f args=some r→Sound P f args r){io:FuncId→Nat}{vm bm:List Nat}{done:List (Option Nat)}{i:IOp}{t:T}{σ':St}(hI:Inv P W S0 S β φ σ.boxes w)(dm:2*bm.length≤W.nb)
  (hop:∀x d,lP vm done x=some d→ak S w β φ (a.eval x) (d.get σ)) (hl:oB P io vm bm done o=some i) {c:Call} {fo:Operand} (ho:o.op= .call c) (hcv:c.callee= .value fo) (hr:ae C σ i=some (t,σ')) {K:Act→World→Prop} {Q:Exit→Act→World→Prop}
  (hK:∀x w',ax P W S0 S β φ w σ σ' t x w'→K (a.put o.dst x) w') {rn:Option Nat} {n:Nat}:o.wpIn (wd rn) n P a w K Q:=by
 have Ly:=sm hl
 generalize abf:lP vm done=opd at hop
 have abj:∀f (vs:Array Value),(execOp a.eval o).run P w=(callFunc f vs).run P w→(jG P f=true∧Calls P f vs w fun e w'=>∃x,e= .returned x∧ax P W S0 S β φ w σ σ' t x w')→o.wpIn (wd rn) n P a w K Q:=by
  intro f vs hrun ⟨jl,agv⟩
  unfold Oper.wpIn
  refine⟨fun _ _=>trivial, ?_⟩
  rw[Oper.semAt_eq _ _ _ Ly,hrun,Eu jl,Oper.uponIn_enter]
  refine⟨(fun h=>by cases h),(TV agv).mono fun e w' h=> ?_⟩
  obtain⟨x,rfl,hA⟩:=h
  exact hK x w' hA
 have R8:∀d,∀s∈AG bm d,s+1< W.nb:=fun d s hs=>by have:=aeu hs;omega
 have fin:∀f (vs:Array Value) (as:List T),(execOp a.eval o).run P w=(callFunc f vs).run P w→vs.size=as.length→(∀(i:Nat) (x:Value) (t:T),vs[i]? =some x→as[i]? =some t→ak S w β φ x t)→∀d,
   (ae.cW C σ d f as=some (t,σ')∨ae.dL C σ d (AG bm d) f as=some (t,σ')∨ae.ez C σ d (AG bm d) f as=some (t,σ'))→o.wpIn (wd rn) n P a w K Q:=by
  intro f vs as hrun hl ha d hr
  rcases hr with hr|hr|hr
  ·exact abj f vs hrun (Q1 hC hI hl ha hr)
  ·exact abj f vs hrun (Es hC hI (R8 d) hl ha (J9 hr))
  ·exact abj f vs hrun (Es hC hI (R8 d) hl ha hr)
 have args:∀(xs:Array Operand) (ds:List ag),xs.toList.mapM opd=some ds→(xs.map a.eval).size=(ds.map (ag.get σ)).length∧∀(i:Nat) (x:Value) (t:T),(xs.map a.eval)[i]? =some x→(ds.map (ag.get σ))[i]? =some t→ak S w β φ x t:=by
  intro xs ds h
  obtain⟨h1,h2⟩:=du h
  refine⟨by simpa using h1,fun i x t hx ht=> ?_⟩
  simp only[Array.getElem?_map,Option.map_eq_some_iff,List.getElem?_map]at hx ht
  obtain⟨p,hp,rfl⟩:=hx
  obtain⟨q,hq,rfl⟩:=ht
  exact hop p q (h2 i p q (by simpa using hp) hq)
 obtain⟨cl,ar,at'⟩:=c
 simp only at hcv
 subst hcv
 simp only[oB,ho,abf,Option.bind_eq_bind]at hl
 cases hd:o.dst with
 |none=>rw[hd]at hl;cases fo<;>simp at hl
 |some d=>
  rw[hd]at hl
  cases fo with
  |const v=>simp at hl
  |global g=>simp at hl
  |func f=>
   simp only at hl
   obtain⟨ds,yX,hl⟩:=Option.bind_eq_some_iff.1 hl
   simp only[Option.some.injEq]at hl
   subst hl
   obtain⟨h1,h2⟩:=args _ _ yX
   refine fin f (ar.map a.eval) _ (by simp[execOp,ho,resolve,Act.eval,Deferred.ofValue,invoke]) h1 h2 d ?_
   unfold Nw at hr
   split at hr
   ·exact .inl hr
   ·exact .inr (.inl hr)
   ·exact .inr (.inr hr)
  |tmp s=>
   simp only at hl
   obtain⟨q,hq,hl⟩:=Option.bind_eq_some_iff.1 hl
   obtain⟨ds,yX,hl⟩:=Option.bind_eq_some_iff.1 hl
   simp only[Option.some.injEq]at hl
   subst hl
   have hx:=hop _ _ hq
   obtain⟨h1,h2⟩:=args _ _ yX
   generalize hv:a.eval (.tmp s)=xv at hx
   obtain⟨f,first,cap,hg,hr⟩:∃f first cap,eQ (q.get σ)=some (f,first,cap)∧(ae.cW C σ d f (first++ds.map (ag.get σ)++cap)=some (t,σ')∨ae.dL C σ d (AG bm d) f (first++ds.map (ag.get σ)++cap)=some (t,σ')∨ae.ez C σ d (AG bm d) f (first++ds.map (ag.get σ)++cap)=some (t,σ')):=by
    unfold J5 at hr
    split at hr
    ·simp only[ae]at hr
     split at hr<;>try(cases hr;done)
     rename_i f first cap hg
     exact⟨f,first,cap,hg,.inr (.inr hr)⟩
    ·simp only[ae]at hr
     split at hr<;>try(cases hr;done)
     rename_i f first cap hg
     exact⟨f,first,cap,hg,.inl hr⟩
   generalize q.get σ=u at hg hx
   unfold eQ at hg
   split at hg
   ·rename_i f' aa bb
    split at hg<;>try(cases hg;done)
    rename_i hz
    simp only[Option.some.injEq,Prod.mk.injEq]at hg
    obtain⟨rfl,rfl,rfl⟩:=hg
    have:=cA hx
    subst this
    obtain rfl:aa=#[]:=Array.eq_empty_of_size_eq_zero hz.1
    obtain rfl:bb=#[]:=Array.eq_empty_of_size_eq_zero hz.2
    exact fin f' (ar.map a.eval) (ds.map (ag.get σ)) (by simp[execOp,ho,resolve,hv,Deferred.ofValue,invoke]) (by simpa using h1) (by simpa using h2) d (by simpa using hr)
   ·rename_i f' WM amP
    simp only[Option.some.injEq,Prod.mk.injEq]at hg
    obtain⟨rfl,rfl,rfl⟩:=hg
    cases hx with
    |bq _ _ fn xs ys ts us D8 mb k1 k2=>
     refine fin f' (xs++ar.map a.eval++ys) (WM++ds.map (ag.get σ)++amP) (by simp[execOp,ho,resolve,hv,Deferred.ofValue,invoke]) (by simp at h1⊢;omega) (fun i x t hx ht=> ?_) d hr
     rw[Array.getElem?_append]at hx
     rw[List.getElem?_append]at ht
     have e1:(xs++ar.map a.eval).size=(WM++ds.map (ag.get σ)).length:=by simp at h1⊢;omega
     rw[←e1]at ht
     split at hx
     ·rename_i hi
      rw[if_pos hi]at ht
      rw[Array.getElem?_append]at hx
      rw[List.getElem?_append,←D8]at ht
      split at hx
      ·rename_i vp;rw[if_pos vp]at ht;exact k1 i x t hx ht
      ·rename_i vp;rw[if_neg vp]at ht;exact h2 _ x t hx ht
     ·rename_i hi;rw[if_neg hi]at ht;exact k2 _ x t hx ht
   ·cases hg
end
end Go.Vi
end
section
namespace Go.Vi
open Go Go.RowKit
section
variable{P:Program}{W:di}{w:World}{S0 S:Nat→Nat→Prop}{β:aX}{φ:bB}{a:Act}{o:Oper}{σ:St}{nt:Nat}{vm bm:List Nat}
def Ew(D:Nat):Deferred:={target:= .collected D,args:=#[]}
structure bY(P:Program)(W:di)(S0 S:Nat→Nat→Prop)(β:aX)(φ:bB)(nt:Nat)(vm:List Nat)(done:List (Option Nat))(σ:St)(a:Act)(w:World):Prop where
 inv:Inv P W S0 S β φ σ.boxes w
 nd:∃Ds:List Nat,Ds.Nodup∧a.defers=Ds.map Ew∧∀D∈Ds,W.X D∧W.w.heap[D]? =some (.deferred (some []))∧W.m0≤D
 size:a.tmps.size=nt
 pn:σ.vars.length=vm.length
 p7:σ.rs.length=done.length
 vars:∀(i s:Nat) (u:T),vm[i]? =some s→some s ∉ done→σ.vars[i]? =some u→ak S w β φ (a.tmps.getD s undef) u
 uM:∀(j s:Nat) (u:T),done[j]? =some (some s)→σ.rs[j]? =some u→ak S w β φ (a.tmps.getD s undef) u
 AN:∀(j j' s:Nat),done[j]? =some (some s)→done[j']? =some (some s)→j=j'
theorem y6{done:List (Option Nat)}{s i:Nat}(h:qV done s=some i):done[i]? =some (some s):=by
 unfold qV at h
 rw[List.idxOf?,List.findIdx?_eq_some_iff_getElem]at h
 obtain⟨hi,h,_⟩:=h
 simp only[beq_iff_eq]at h
 simp[hi,h]
theorem Ex{done:List (Option Nat)}{s:Nat}(h:qV done s=none):some s ∉ done:=by
 unfold qV at h
 simpa using h
theorem bY.opd{done:List (Option Nat)}(h:bY P W S0 S β φ nt vm done σ a w)(x:Operand)(d:ag)(hx:lP vm done x=some d):ak S w β φ (a.eval x) (d.get σ):=by
 unfold lP at hx
 cases x with
 |tmp s=>
  simp only at hx
  split at hx
  ·rename_i i hi
   simp only[Option.some.injEq]at hx
   subst hx
   have h1:=y6 hi
   have hlt:i< σ.rs.length:=by rw[h.p7];exact(List.getElem?_eq_some_iff.1 h1).1
   simp only[ag.get,Act.eval,List.getD_eq_getElem?_getD]
   exact h.uM i s _ h1 (by simp[hlt])
  ·rename_i hn
   obtain⟨i,hi,rfl⟩:=Option.map_eq_some_iff.1 hx
   rw[List.idxOf?,List.findIdx?_eq_some_iff_getElem]at hi
   obtain⟨hi,h1,_⟩:=hi
   simp only[beq_iff_eq]at h1
   have hlt:i< σ.vars.length:=by rw[h.pn];exact hi
   simp only[ag.get,Act.eval,List.getD_eq_getElem?_getD]
   exact h.vars i s _ (by simp[hi,h1]) (Ex hn) (by simp[hlt])
 |const v=>
  simp only at hx
  split at hx
  ·rename_i hk
   simp only[Option.some.injEq]at hx
   subst hx
   exact sg v hk
  ·cases hx
 |func f=>
  simp only[Option.some.injEq]at hx
  subst hx
  exact .v ..
 |global g=>cases hx
theorem getD_set_ne{ts:Array Value}{d s:Nat}{x:Value}(h:d≠s):(ts.setIfInBounds d x).getD s undef=ts.getD s undef:=by
 simp[Array.getD_eq_getD_getElem?,Array.getElem?_setIfInBounds,h]
theorem AO{ts:Array Value}{d:Nat}{x:Value}(h:d< ts.size):(ts.setIfInBounds d x).getD d undef=x:=by
 simp[Array.getD_eq_getD_getElem?,Array.getElem?_setIfInBounds,h]
theorem bY.put{done:List (Option Nat)}(h:bY P W S0 S β φ nt vm done σ a w){dst:Option Nat}(hd:∀s,dst=some s→some s ∉ done∧s< nt){t:T}{x:Value}(hx:ak S w β φ x t):
  bY P W S0 S β φ nt vm (done++[dst]) {σ with rs:=σ.rs++[t]} (a.put dst x) w:=by
 have hne:∀s,s∈dst→∀s',some s'≠dst→(a.put dst x).tmps.getD s' undef=a.tmps.getD s' undef:=by
  intro s hs s' fA
  rw[Option.mem_def]at hs
  subst hs
  simp only[Act.put]
  exact getD_set_ne (by intro h;subst h;exact fA rfl)
 have Ka:∀s',some s'≠dst→(a.put dst x).tmps.getD s' undef=a.tmps.getD s' undef:=by
  intro s' fA
  cases dst with
  |none=>rfl
  |some s=>exact hne s rfl s' fA
 refine⟨h.inv, ?_, ?_,h.pn,by simp[h.p7],fun i s u hi hn hu=> ?_,fun j s u hj hu=> ?_,fun j j' s hj tK=> ?_⟩
 ·obtain⟨Ds,h1,h2,h3⟩:=h.nd
  exact⟨Ds,h1,by cases dst<;>simpa [Act.put]using h2,h3⟩
 ·cases dst<;>simp[Act.put,h.size]
 ·simp only[List.mem_append,List.mem_singleton,not_or]at hn
  rw[Ka s hn.2]
  exact h.vars i s u hi hn.1 hu
 ·simp only[List.getElem?_append]at hj hu
  rw[h.p7]at hu
  split at hj
  ·rename_i hlt
   rw[if_pos hlt]at hu
   by_cases hs:some s=dst
   ·exact absurd (List.mem_of_getElem? hj) (hd s hs.symm).1
   ·rw[Ka s hs];exact h.uM j s u hj hu
  ·rename_i hlt
   rw[if_neg hlt]at hu
   rw[List.getElem?_singleton]at hj hu
   split at hj
   ·rename_i h0
    rw[if_pos h0]at hu
    simp only[Option.some.injEq]at hj hu
    subst hu
    subst hj
    simp only[Act.put]
    rw[AO (by rw[h.size];exact(hd s rfl).2)]
    exact hx
   ·cases hj
 ·have key:∀j,(done++[dst])[j]? =some (some s)→(j< done.length∧done[j]? =some (some s))∨(j=done.length∧dst=some s):=by
   intro j hj
   rw[List.getElem?_append]at hj
   split at hj
   ·rename_i hlt;exact .inl ⟨hlt,hj⟩
   ·rename_i hlt
    rw[List.getElem?_singleton]at hj
    split at hj
    ·rename_i h0;simp only[Option.some.injEq]at hj;exact .inr ⟨by omega,hj⟩
    ·cases hj
  rcases key j hj with⟨_,h1⟩|⟨h1,uF⟩<;>rcases key j' tK with⟨_,h2⟩|⟨h2,lQ⟩
  ·exact h.AN j j' s h1 h2
  ·exact absurd (List.mem_of_getElem? h1) (hd s lQ).1
  ·exact absurd (List.mem_of_getElem? h2) (hd s uF).1
  ·omega
theorem bY.after{done:List (Option Nat)}(h:bY P W S0 S β φ nt vm done σ a w){σ':St}{t:T}{x:Value}{w':World}(hA:ax P W S0 S β φ w σ σ' t x w'){dst:Option Nat}(hd:∀s,dst=some s→some s ∉ done∧s< nt):
  ∃S' β' φ',bY P W S0 S' β' φ' nt vm (done++[dst]) {σ' with rs:=σ'.rs++[t]} (a.put dst x) w':=by
 obtain⟨S',β',φ',adj,hx,hI,hm,vo,xR⟩:=hA
 refine⟨S',β',φ',bY.put ⟨hI,h.nd,h.size,by simp[xR,h.pn],by simp[vo,h.p7],fun i s u hi hn hu=> ?_,fun j s u hj hu=> ?_,h.AN⟩ hd hx⟩
 ·rw[xR,List.getElem?_map]at hu
  obtain⟨u',ly,rfl⟩:=Option.map_eq_some_iff.1 hu
  exact hm _ _ (h.vars i s u' hi hn ly)
 ·rw[vo,List.getElem?_map]at hu
  obtain⟨u',ly,rfl⟩:=Option.map_eq_some_iff.1 hu
  exact hm _ _ (h.uM j s u' hj ly)
theorem TW{C:FuncId→List T→Option T}(hC:∀f args r,C f args=some r→Sound P f args r){done:List (Option Nat)}(h:bY P W S0 S β φ nt vm done σ a w){io:FuncId→Nat}{i:IOp}{t:T}{σ':St}(dm:2*bm.length≤W.nb)
  (hl:oB P io vm bm done o=some i) (hd:∀s,o.dst=some s→some s ∉ done∧s< nt) (hr:ae C σ i=some (t,σ')) {K:Act→World→Prop} {Q:Exit→Act→World→Prop}
  (hK:∀S' β' φ' a' w',bY P W S0 S' β' φ' nt vm (done++[o.dst]) {σ' with rs:=σ'.rs++[t]} a' w'→K a' w') {rn:Option Nat} {n:Nat}:o.wpIn (wd rn) n P a w K Q:=by
 by_cases hc:∃c f,o.op= .call c∧c.callee= .value f
 ·obtain⟨c,f,ho,hcv⟩:=hc
  refine y5 hC h.inv dm h.opd hl ho hcv hr fun x w' hA=> ?_
  obtain⟨S',β',φ',hR⟩:=h.after hA hd
  exact hK _ _ _ _ _ hR
 ·obtain⟨x,w',hrun,hA⟩:=Hr (a:=a) (o:=o) h.inv dm h.opd hl (fun c f ho hcv=>hc ⟨c,f,ho,hcv⟩) hr
  obtain⟨S',β',φ',hR⟩:=h.after hA hd
  exact hrun.wpIn (sm hl) (hK _ _ _ _ _ hR)
theorem Cz{done:List (Option Nat)}(h:bY P W S0 S β φ nt vm done σ a w){ops:Array Oper}(po:∀(j s:Nat),done[j]? =some (some s)→(ops[j]?).bind (·.dst)=some s)
  (hg:∀j b,o.guard=some (j,b)→((done[j]?).join).isSome=true) {go:Bool}
  (hgo:bU σ.rs o.guard=some go):Region.wanted o (yielded ops a.tmps)=go:=by
 unfold Region.wanted
 unfold bU at hgo
 cases eg:o.guard with
 |none=>rw[eg]at hgo;simpa using hgo
 |some p=>
  obtain⟨j,want⟩:=p
  rw[eg]at hgo
  simp only at hgo
  have h1:=hg j want eg
  obtain⟨s,hs⟩:∃s,done[j]? =some (some s):=by
   cases hd:done[j]? with
   |none=>rw[hd]at h1;simp at h1
   |some q=>cases q with
    |none=>rw[hd]at h1;simp at h1
    |some s=>exact⟨s,rfl⟩
  have hy:yielded ops a.tmps j=match a.tmps[s]? with|some (.bool b)=>some b|_=>none:=by
   unfold yielded
   rw[po j s hs]
   rfl
  simp only[hy]
  have rB:∀v,a.tmps.getD s undef=v→v≠undef→a.tmps[s]? =some v:=by
   intro v hv hne
   rw[Array.getD_eq_getD_getElem?]at hv
   cases ht:a.tmps[s]? with
   |none=>rw[ht]at hv;exact absurd hv.symm hne
   |some x=>rw[ht]at hv;simp at hv;rw[hv]
  split at hgo
  ·rename_i b hb
   have:=cA (h.uM j s _ hs hb)
   rw[rB _ this (by simp[undef])]
   simp only[Option.some.injEq]at hgo
   subst hgo
   cases b<;>cases want<;>rfl
  ·rename_i b hb
   have:=cA (h.uM j s _ hs hb)
   simp only[Option.some.injEq]at hgo
   subst hgo
   have dm:(match a.tmps[s]? with|some (.bool b)=>some b|_=>none)=(none:Option Bool):=by
    rw[Array.getD_eq_getD_getElem?]at this
    cases ht:a.tmps[s]? with
    |none=>rfl
    |some x=>rw[ht]at this;simp at this;subst this;rfl
   rw[dm];rfl
  ·cases hgo
theorem Ey{C:FuncId→List T→Option T}(hC:∀f args r,C f args=some r→Sound P f args r){io:FuncId→Nat}(dm:2*bm.length≤W.nb){rn:Option Nat}{n:Nat}{ops:Array Oper}{Q:Exit→Act→World→Prop}{σ':St}:∀(rest pre:List Oper) {il:List (Option (Nat×Bool)×IOp)} {S:Nat→Nat→Prop} {β:aX} {φ:bB} {σ:St} {a:Act} {w:World},
  ops.toList=pre++rest→bY P W S0 S β φ nt vm (pre.map (·.dst)) σ a w→kc P io nt vm bm (pre.map (·.dst)) rest=some il→eZ C σ il=some σ'→
  (∀S' β' φ' a' w',bY P W S0 S' β' φ' nt vm (ops.toList.map (·.dst)) σ' a' w'→Q .normal a' w')→wpListIn (wd rn) n P ops Q rest a w
 | [],pre,il,S,β,φ,σ,a,w,po,h,hl,hr,hQ=>by
  simp only[kc,Option.some.injEq]at hl
  subst hl
  simp only[eZ,Option.some.injEq]at hr
  subst hr
  simp only[List.append_nil]at po
  rw[←po]at h
  exact hQ _ _ _ _ _ h
 |o::rest,pre,il,S,β,φ,σ,a,w,po,h,hl,hr,hQ=>by
  unfold kc at hl
  split at hl<;>try(cases hl;done)
  rename_i eC
  rw[Bool.not_eq_true,tJ,Bool.or_eq_false_iff]at eC
  obtain⟨CA,N6⟩:=eC
  obtain⟨i,hi,hl⟩:=Option.bind_eq_some_iff.1 hl
  obtain⟨r,fq,hl⟩:=Option.bind_eq_some_iff.1 hl
  simp only[Option.some.injEq]at hl
  subst hl
  have hd:∀s,o.dst=some s→some s ∉ pre.map (·.dst)∧s< nt:=by
   intro s hs
   rw[hs]at CA
   simp only[Bool.or_eq_false_iff,Bool.not_eq_false',decide_eq_true_eq]at CA
   refine⟨fun hm=> ?_,CA.2⟩
   have:=CA.1
   rw[List.contains_iff_mem.2 hm]at this
   cases this
  have hg:∀j b,o.guard=some (j,b)→(((pre.map (·.dst))[j]?).join).isSome=true:=by
   intro j b hg
   rw[hg]at N6
   simpa using N6
  have TX:∀(j s:Nat),(pre.map (·.dst))[j]? =some (some s)→(ops[j]?).bind (·.dst)=some s:=by
   intro j s hj
   rw[List.getElem?_map,Option.map_eq_some_iff]at hj
   obtain⟨q,hq,Dx⟩:=hj
   have hlt:=(List.getElem?_eq_some_iff.1 hq).1
   have:ops[j]? =some q:=by
    rw[←Array.getElem?_toList,po,List.getElem?_append,if_pos hlt,hq]
   rw[this]
   exact Dx
  simp only[eZ]at hr
  obtain⟨go,hgo,hr⟩:=Option.bind_eq_some_iff.1 hr
  have hw:=Cz h TX hg hgo
  simp only[wpListIn,hw]
  have hdone:(pre++[o]).map (·.dst)=pre.map (·.dst)++[o.dst]:=by simp
  cases go with
  |true=>
   simp only[if_true]at hr⊢
   obtain⟨⟨t,az⟩,dN,hr⟩:=Option.bind_eq_some_iff.1 hr
   refine TW hC h dm hi hd dN fun S' β' φ' a' w' hR=> ?_
   refine Ey hC dm rest (pre++[o]) (by simp[po]) (by rw[hdone];exact hR) (by rw[hdone];exact fq) hr hQ
  |false=>
   simp only[Bool.false_eq_true,if_false]at hr⊢
   refine⟨fun _ _=>trivial,Ey hC dm rest (pre++[o]) (by simp[po]) (by rw[hdone];exact h.put hd (.v ..)) (by rw[hdone];exact fq) hr hQ⟩
end
end Go.Vi
end
