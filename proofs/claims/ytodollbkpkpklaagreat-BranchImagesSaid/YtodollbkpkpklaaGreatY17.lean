/-
  A claim's own text, joined by a small program out of: Vj25, Vj26, Vj27, Vj17b, Vj29.
-/
import Derived.Test.YtodollbkpkpklaaGreatY16
set_option linter.unusedVariables false
set_option linter.unusedSimpArgs false
section
namespace Go.Vi
open Go Go.RowKit
section
variable{P:Program}{nt:Nat}{vm bm:List Nat}{o:Oper}
def NC(x:Option IOp):Prop:=∀d q ds,x≠some (.callv d q ds)
theorem NC.none:NC none:=fun _ _ _ h=>by cases h
theorem NC.some{i:IOp}(h:∀d q ds,i≠ .callv d q ds):NC (some i):=fun d q ds h'=>h d q ds (Option.some.inj h')
theorem NC.bind{α:Type}{x:Option α}{f:α→Option IOp}(h:∀a,NC (f a)):NC (x.bind f):=fun d q ds h'=>by
 obtain⟨a,_,h'⟩:=Option.bind_eq_some_iff.1 h'
 exact h a d q ds h'
theorem NC.map{α:Type}{x:Option α}{f:α→IOp}(h:∀a d q ds,f a≠ .callv d q ds):NC (x.map f):=fun d q ds h'=>by
 obtain⟨a,_,h'⟩:=Option.map_eq_some_iff.1 h'
 exact h a d q ds h'
theorem aex(bm:List Nat)(d:Nat)(e:TypeId)(sz bytes:Nat)(zs:List T)(q:ag)(d':Nat)(q':ag)(ds:List ag):J3 bm d e sz bytes zs q≠ .callv d' q' ds:=by
 unfold J3;split<;>(intro h;cases h)
theorem aey(bm:List Nat)(d:Nat)(e:TypeId)(sz len:Nat)(zs:List T)(qs:List (Nat×Nat×ag))(d':Nat)(q':ag)(ds:List ag):TK bm d e sz len zs qs≠ .callv d' q' ds:=by
 unfold TK;split<;>(intro h;cases h)
theorem abC(bm:List Nat)(d:Nat)(e:TypeId)(sz bytes:Nat)(zs:List T)(k:Nat)(x y:ag)(d':Nat)(q':ag)(ds:List ag):Cn bm d e sz bytes zs k x y≠ .callv d' q' ds:=by
 unfold Cn;split<;>(intro h;cases h)
theorem aez(bm:List Nat)(dst:Option Nat)(q:ag)(d':Nat)(q':ag)(ds:List ag):Nx P bm dst q≠ .callv d' q' ds:=by
 unfold Nx;repeat' split
 all_goals (intro h;cases h)
theorem abD(opd:Operand→Option ag)(neg:Bool)(op:BinOp)(t:TypeId)(x y:Operand):NC (FG P opd neg op t x y):=by
 unfold FG
 simp only[Option.bind_eq_bind]
 split<;>repeat' (first
  |exact NC.none
  |(refine NC.some fun _ _ _=> ?_;intro h;cases h;done)
  |refine NC.bind fun _=> ?_
  |split)
theorem Xt{io:FuncId→Nat}{done:List (Option Nat)}{d:Nat}{q:ag}{ds:List ag}(h:oB P io vm bm done o=some (.callv d q ds)):∃c fo,o.op= .call c∧c.callee= .value fo:=by
 by_cases hc:∃c fo,o.op= .call c∧c.callee= .value fo
 ·exact hc
 exfalso
 suffices hn:NC (oB P io vm bm done o)from hn _ _ _ h
 clear h
 cases ho:o.op<;>simp only[oB,ho,Option.bind_eq_bind]
 case call c=>
  cases bV:c.callee with
  |value fo=>exact absurd ⟨c,fo,ho,bV⟩ hc
  |_=>
   repeat' (first
    |exact NC.none
    |contradiction
    |exact NC.some (abC _ _ _ _ _ _ _ _ _)
    |(refine NC.some fun _ _ _=> ?_;intro h;cases h;done)
    |(refine NC.map fun _ _ _ _=> ?_;intro h;cases h;done)
    |refine NC.bind fun _=> ?_
    |split)
 all_goals
  repeat' (first
   |exact NC.none
   |contradiction
   |exact abD _ _ _ _ _ _
   |exact NC.some (aex _ _ _ _ _ _ _)
   |exact NC.map fun _ _ _ _=>aez _ _ _ _ _ _
   |exact NC.some (aey _ _ _ _ _ _ _)
   |(refine NC.some fun _ _ _=> ?_;intro h;cases h;done)
   |(refine NC.map fun _ _ _ _=> ?_;intro h;cases h;done)
   |refine NC.bind fun _=> ?_
   |split)
theorem abE{S S':Nat→Nat→Prop}{w:World}{β:aX}{φ:bB}{x:Value}{t:T}(h:ak S w β φ x t)(hs:scal t=true):ak S' w bn cD x t:=by
 cases h with
 |v=>exact .v ..
 |agg _ _ xs ts hl h1 hr=>
  refine .agg _ _ _ _ hl h1 fun i y u hy hu=> ?_
  have h2:=hr i y u hy hu
  simp only[scal,List.all_eq_true]at hs
  have h3:=hs u (List.mem_of_getElem? hu)
  cases u with
  |v z=>rw[cA h2];exact .v ..
  |_=>simp[T.A4]at h3
 |_=>simp[scal]at hs
variable{w0:World}{l nb:Nat}{Sc:Nat→Nat→Prop}{J:Nat→(Nat→Prop)→World→Prop}{ys:List (List T)}
def YR(P:Program)(w0:World)(nb:Nat)(Sc:Nat→Nat→Prop)(J:Nat→(Nat→Prop)→World→Prop)(nt:Nat)(vm:List Nat)(k:Nat)(done:List (Option Nat))(σ:St)(a:Act)(w:World):Prop:=
 ∃(Wb:di) (own:Nat→Prop) (S:Nat→Nat→Prop) (β:aX) (φ:bB),bY P Wb Sc S β φ nt vm done σ a w∧a.defers=[]∧Wb.nb=nb∧(∀b,Wb.X b↔b< Wb.w.heap.size∧¬own b)∧
  (∀b,own b→w0.heap.size≤b∧b< Wb.w.heap.size)∧w0.heap.size≤Wb.w.heap.size∧J k own Wb.w
structure Uo(P:Program)(w0:World)(l:Nat)(Sc:Nat→Nat→Prop)(J:Nat→(Nat→Prop)→World→Prop)(ys:List (List T)):Prop where
 lt:∀b o,Sc b o→b< w0.heap.size
 step:∀k own tu W W',J k own W→(∀b,own b→w0.heap.size≤b∧b< W.heap.size)→IterStep own tu W W'→J k tu W'
 yield:∀k y own W (xs:Array Value),ys[k]? =some y→J k own W→(∀b,own b→w0.heap.size≤b∧b< W.heap.size)→xs.size=y.length→(∀(i:Nat) (x:Value) (t:T),xs[i]? =some x→y[i]? =some t→ak Sc W bn cD x t)→
  ∀n,YieldAt (wd none) n P l xs W fun e W'=>e= .returned (.bool true)∧J (k+1) own W'∧zV Sc own W W'
def uT(Wb:di)(own:Nat→Prop)(w:World)(b:Nat):Prop:=own b∨(Wb.w.heap.size≤b∧b< w.heap.size)
theorem YR.now{k:Nat}{σ:St}{a:Act}{w:World}{done:List (Option Nat)}{Wb:di}{own:Nat→Prop}{S:Nat→Nat→Prop}{β:aX}{φ:bB}(hy:Uo P w0 l Sc J ys)
  (hR:bY P Wb Sc S β φ nt vm done σ a w) (hX:∀b,Wb.X b↔b< Wb.w.heap.size∧¬own b) (ke:∀b,own b→w0.heap.size≤b∧b< Wb.w.heap.size) (hsz:w0.heap.size≤Wb.w.heap.size) (hJ:J k own Wb.w):
  J k (uT Wb own w) w∧∀b,uT Wb own w b→w0.heap.size≤b∧b< w.heap.size:=by
 have hb:=hR.inv.below
 have hle:=hb.size
 refine⟨hy.step k own _ Wb.w w hJ ke ⟨hb.os,hb.tape,hb.output,hle,fun b h=> .inl h,fun b h=>h,fun b hlt hn=>hb.block b ((hX b).2 ⟨hlt,hn⟩),hb.room⟩,fun b h=> ?_⟩
 rcases h with h|h
 ·have:=ke b h;omega
 ·omega
set_option maxHeartbeats 1000000 in
theorem IK{C:FuncId→List T→Option T}(hC:∀f args r,C f args=some r→Sound P f args r){io:FuncId→Nat}(dm:2*bm.length≤nb)(hy:Uo P w0 l Sc J ys){n:Nat}{ops:Array Oper}{Q:Exit→Act→World→Prop}{σ':St}:
  ∀(rest pre:List Oper) {il:List (Option (Nat×Bool)×IOp)} {σ:St} {a:Act} {w:World} {k:Nat} {zs suf:List (List T)},
  ops.toList=pre++rest→YR P w0 nb Sc J nt vm k (pre.map (·.dst)) σ a w→kc P io nt vm bm (pre.map (·.dst)) rest=some il→nm C l σ il=some (σ',zs)→ys.drop k=zs++suf→
  (∀a' w',YR P w0 nb Sc J nt vm (k+zs.length) (ops.toList.map (·.dst)) σ' a' w'→Q .normal a' w')→wpListIn (wd none) n P ops Q rest a w
 | [],pre,il,σ,a,w,k,zs,suf,po,h,hl,hr,IL,hQ=>by
  simp only[kc,Option.some.injEq]at hl
  subst hl
  simp only[nm,Option.some.injEq,Prod.mk.injEq]at hr
  obtain⟨rfl,rfl⟩:=hr
  simp only[List.append_nil]at po
  rw[←po]at h
  exact hQ _ _ h
 |o::rest,pre,il,σ,a,w,k,zs,suf,po,h,hl,hr,IL,hQ=>by
  have ih:=@IK C hC io dm hy n ops Q σ' rest (pre++[o])
  unfold kc at hl
  split at hl<;>try(cases hl;done)
  rename_i eC
  rw[Bool.not_eq_true,tJ,Bool.or_eq_false_iff]at eC
  obtain⟨CA,N6⟩:=eC
  obtain⟨i,hi,hl⟩:=Option.bind_eq_some_iff.1 hl
  obtain⟨r,fq,hl⟩:=Option.bind_eq_some_iff.1 hl
  simp only[Option.some.injEq]at hl
  subst hl
  have hd:∀s,o.dst=some s→some s ∉ pre.map (·.dst)∧s< nt:=by
   intro s hs
   rw[hs]at CA
   simp only[Bool.or_eq_false_iff,Bool.not_eq_false',decide_eq_true_eq]at CA
   refine⟨fun hm=> ?_,CA.2⟩
   have:=CA.1
   rw[List.contains_iff_mem.2 hm]at this
   cases this
  have hg:∀j b,o.guard=some (j,b)→(((pre.map (·.dst))[j]?).join).isSome=true:=by
   intro j b hg
   rw[hg]at N6
   simpa using N6
  have TX:∀(j s:Nat),(pre.map (·.dst))[j]? =some (some s)→(ops[j]?).bind (·.dst)=some s:=by
   intro j s hj
   rw[List.getElem?_map,Option.map_eq_some_iff]at hj
   obtain⟨q,hq,Dx⟩:=hj
   have hlt:=(List.getElem?_eq_some_iff.1 hq).1
   have:ops[j]? =some q:=by
    rw[←Array.getElem?_toList,po,List.getElem?_append,if_pos hlt,hq]
   rw[this]
   exact Dx
  simp only[nm]at hr
  obtain⟨go,hgo,hr⟩:=Option.bind_eq_some_iff.1 hr
  obtain⟨Wb,own,S,β,φ,hR,LO,HC,hX,ke,hsz,hJ⟩:=h
  have hw:=Cz hR TX hg hgo
  simp only[wpListIn,hw]
  have hdone:(pre++[o]).map (·.dst)=pre.map (·.dst)++[o.dst]:=by simp
  have agM:2*bm.length≤Wb.nb:=by rw[HC];exact dm
  cases go with
  |false=>
   simp only[Bool.false_eq_true,if_false]at hr⊢
   exact⟨fun _ _=>trivial,ih (by simp[po]) (by rw[hdone];exact⟨Wb,own,S,β,φ,hR.put hd (.v ..),by rw[put_defers];exact LO,HC,hX,ke,hsz,hJ⟩) (by rw[hdone];exact fq) hr IL hQ⟩
  |true=>
   simp only[if_true]at hr⊢
   obtain⟨⟨t,az,zs1⟩,dN,hr⟩:=Option.bind_eq_some_iff.1 hr
   obtain⟨⟨fK,Xu⟩,xW,EU⟩:=Option.map_eq_some_iff.1 hr
   simp only[Prod.mk.injEq]at EU
   obtain⟨rfl,rfl⟩:=EU
   have plain:zs1=[]→ae C σ i=some (t,az)→o.wpIn (wd none) n P a w (wpListIn (wd none) n P ops Q rest) Q:=by
    intro hz hrun
    subst hz
    have fin:∀x w',ax P Wb Sc S β φ w σ az t x w'→wpListIn (wd none) n P ops Q rest (a.put o.dst x) w':=fun x w' hA=>by
     obtain⟨S',β',φ',DF⟩:=hR.after hA hd
     exact ih (by simp[po]) (by rw[hdone];exact⟨Wb,own,S',β',φ',DF,by rw[put_defers];exact LO,HC,hX,ke,hsz,hJ⟩) (by rw[hdone];exact fq) xW IL hQ
    by_cases hc:∃c f,o.op= .call c∧c.callee= .value f
    ·obtain⟨c,f,ho,hcv⟩:=hc
     exact y5 hC hR.inv agM hR.opd hi ho hcv hrun fin
    ·obtain⟨x,w',Ui,hA⟩:=Hr (a:=a) (o:=o) hR.inv agM hR.opd hi (fun c f ho hcv=>hc ⟨c,f,ho,hcv⟩) hrun
     exact Ui.wpIn (sm hi) (fin _ _ hA)
   unfold rN at dN
   split at dN
   ·rename_i d q ds
    split at dN
    ·rename_i hyq
     split at dN<;>try(cases dN;done)
     obtain⟨l0,aa,bb,hq⟩:=FX hyq
     rw[hq]at dN
     simp only[A8]at dN
     split at dN<;>try(cases dN;done)
     rename_i hc5
     obtain⟨rfl,Xp,kY,Oz,hny⟩:=hc5
     obtain rfl:=Array.eq_empty_of_size_eq_zero Xp
     obtain rfl:=Array.eq_empty_of_size_eq_zero kY
     simp only[Option.some.injEq,Prod.mk.injEq]at dN
     obtain⟨rfl,rfl,rfl⟩:=dN
     obtain⟨c,fo,ho,hcv⟩:=Xt hi
     have Ly:=sm hi
     have Iy:=hR.opd
     obtain⟨cl,ar,at'⟩:=c
     simp only at hcv
     subst hcv
     simp only[oB,ho,Option.bind_eq_bind]at hi
     cases Hs:o.dst with
     |none=>rw[Hs]at hi;cases fo<;>simp at hi
     |some d'=>
      rw[Hs]at hi
      cases fo with
      |const v=>simp at hi
      |global g=>simp at hi
      |func f=>
       simp only at hi
       obtain⟨Ll,_,hi⟩:=Option.bind_eq_some_iff.1 hi
       simp only[Option.some.injEq]at hi
       unfold Nw at hi
       split at hi<;>cases hi
      |tmp s=>
       simp only at hi
       obtain⟨q',GB,hi⟩:=Option.bind_eq_some_iff.1 hi
       obtain⟨Ll,am5,hi⟩:=Option.bind_eq_some_iff.1 hi
       simp only[Option.some.injEq]at hi
       unfold J5 at hi
       split at hi<;>try(cases hi;done)
       simp only[IOp.callv.injEq]at hi
       obtain⟨rfl,rfl,rfl⟩:=hi
       have hv:a.eval (.tmp s)= .func (.yield l0) #[] #[]:=by
        have:=hR.opd _ _ GB
        rw[hq]at this
        exact cA this
       have hrun:(execOp a.eval o).run P w=(Instr.yield l0 (ar.map a.eval)).run P w:=by
        simp[execOp,ho,resolve,hv,Deferred.ofValue,invoke]
       obtain⟨Xv,LB⟩:=du am5
       have hk:ys[k]? =some (Ll.map (ag.get σ)):=by
        have:=congrArg (·[0]?) IL
        simpa using this
       obtain⟨hJn,hon⟩:=YR.now hy hR hX ke hsz hJ
       obtain⟨fn,tmps,assign,body,yY,BE⟩:=hy.yield k _ _ w (ar.map a.eval) hk hJn hon (by simpa using Xv) (fun i x t hx ht=>by
        simp only[Array.getElem?_map,Option.map_eq_some_iff,List.getElem?_map]at hx ht
        obtain⟨p,hp,rfl⟩:=hx
        obtain⟨q,hqq,rfl⟩:=ht
        refine abE (hR.opd p q (LB i p q (by simpa using hp) hqq)) ?_
        exact List.all_eq_true.1 Oz _ (List.mem_map.2 ⟨q,List.mem_of_getElem? hqq,rfl⟩)) (n-1)
       unfold Oper.wpIn
       refine⟨fun _ _=>trivial, ?_⟩
       rw[Oper.semAt_eq _ _ _ Ly,hrun,yY,Oper.uponIn_round]
       refine⟨(fun h=>by cases h),BE.mono fun e w' ⟨he,hJ',hst⟩=> ?_⟩
       subst he
       let Wb':di:=⟨w',fun b=>b< w'.heap.size∧¬uT Wb own w b,nb,bn,0⟩
       have y8:∀b o,S b o→Sc b o∨uT Wb own w b:=fun b o hs=>by
        rcases hR.inv.top b o hs with h|h
        ·exact .inl h
        ·have hlt:=hR.inv.lt b o hs
         by_cases hb:b< Wb.w.heap.size
         ·refine .inr (.inl ?_)
          by_cases ho:own b
          ·exact ho
          ·exact absurd ((hX b).2 ⟨hb,ho⟩) h
         ·exact .inr (.inr ⟨by omega,hlt⟩)
       have agN:∀b,b< w.heap.size→¬uT Wb own w b→Wb.X b:=fun b hb hn=>
        (hX b).2 ⟨by
         by_cases hlt:b< Wb.w.heap.size
         ·exact hlt
         ·exact absurd (.inr ⟨by omega,hb⟩) hn,fun h=>hn (.inl h)⟩
       obtain⟨J',xP,_⟩:=hR.inv.Sd (w':=w') (X':=Wb'.X) (S0':=Sc) (nb:=nb) (m0:=0) (β0:=bn) (fun b=>b< w.heap.size∧¬uT Wb own w b) hst.size
        (fun b hb hz=>hst.block b (by
         by_cases hn:uT Wb own w b
         ·exact hn
         ·exact absurd ⟨hb,hn⟩ hz))
        (fun b hb=>agN b hb.1 hb.2)
        (fun b o hs sp v hv=>by
         rcases y8 b o hs with h|h
         ·exact hst.cell b o h sp v hv
         ·rw[World.cell?_of_block (w:=w) (hst.block b h)];exact hv)
        (fun b hb=>by
         by_cases hlt:b< w.heap.size
         ·exact .inl (agN b hlt hb.2)
         ·exact .inr (by omega)) (fun b hb=>hb.1) hR.inv.base
        (fun b o hs=>(y8 b o hs).imp id fun h hx=>hx.2 h) (fun s b _ h=>by simp[bn]at h) hst.room
       have DF:bY P Wb' Sc S β φ nt vm (pre.map (·.dst)) σ a w':=
        ⟨J',⟨[],by simp,by simp[LO],by simp⟩,hR.size,hR.pn,hR.p7,fun i s u h1 h2 h3=>xP _ _ _ (hR.vars i s u h1 h2 h3),fun j s u h1 h2=>xP _ _ _ (hR.uM j s u h1 h2),hR.AN⟩
       have uP:=DF.put (dst:=o.dst) hd (x:= .bool true) (t:=T.bool true) (.v ..)
       have hYR:YR P w0 nb Sc J nt vm (k+1) (pre.map (·.dst)++[o.dst]) {σ with rs:=σ.rs++[T.bool true]} (a.put o.dst (.bool true)) w':=by
        refine⟨Wb',uT Wb own w,S,β,φ,uP,by rw[put_defers];exact LO,rfl,fun b=>Iff.rfl,fun b hb=> ?_, ?_,hJ'⟩
        ·have h1:=hon b hb
         have h2:=hst.size
         exact⟨h1.1,by show b< w'.heap.size;omega⟩
        ·have h2:=hst.size
         have h3:=hR.inv.below.size
         show w0.heap.size≤w'.heap.size
         omega
       refine ih (k:=k+1) (zs:=Xu) (suf:=suf) (by simp[po]) (by rw[hdone];exact hYR) (by rw[hdone];exact fq) xW ?_ ?_
       ·rw[←List.drop_drop,IL]
        simp
       ·intro a' Bn hYR
        refine hQ a' Bn ?_
        have e:k+([Ll.map (ag.get σ)]++Xu).length=k+1+Xu.length:=by simp;omega
        rw[e];exact hYR
    ·have:=qZ 0 dN
     exact plain this.2.1 this.2.2
   ·split at dN<;>try(cases dN;done)
    simp only[Option.some.injEq,Prod.mk.injEq]at dN
    obtain⟨rfl,rfl,rfl⟩:=dN
    exact plain rfl rfl
   ·simp only[Option.some.injEq,Prod.mk.injEq]at dN
    obtain⟨rfl,rfl,rfl⟩:=dN
    exact plain rfl rfl
   ·have:=qZ 0 dN
    exact plain this.2.1 this.2.2
end
end Go.Vi
end
section
namespace Go.Vi
open Go Go.RowKit
section
variable{P:Program}{nt:Nat}{vm bm:List Nat}{w0:World}{l nb:Nat}{Sc:Nat→Nat→Prop}{J:Nat→(Nat→Prop)→World→Prop}{ys:List (List T)}
theorem Xw{C:FuncId→List T→Option T}{σ σ':St}{o:IOp}{t:T}(h:rN C l σ o=some (t,σ',[])):ae C σ o=some (t,σ'):=by
 unfold rN at h
 split at h
 ·split at h
  ·split at h<;>try(cases h;done)
   unfold A8 at h
   split at h<;>try(cases h;done)
   split at h<;>(cases h;done)
  ·exact(qZ 0 h).2.2
 ·split at h<;>try(cases h;done)
  simp only[Option.some.injEq,Prod.mk.injEq]at h
  obtain⟨rfl,rfl,_⟩:=h
  rfl
 ·simp only[Option.some.injEq,Prod.mk.injEq]at h
  obtain⟨rfl,rfl,_⟩:=h
  rfl
 ·exact(qZ 0 h).2.2
theorem AR{C:FuncId→List T→Option T}{σ':St}:∀(il:List (Option (Nat×Bool)×IOp)) (σ:St),nm C l σ il=some (σ',[])→eZ C σ il=some σ'
 | [],σ,h=>by
  simp only[nm,Option.some.injEq,Prod.mk.injEq]at h
  simp only[eZ,h.1]
 |(g,o)::il,σ,h=>by
  simp only[nm]at h
  obtain⟨go,hg,h⟩:=Option.bind_eq_some_iff.1 h
  simp only[eZ,hg,Option.bind_some]
  cases go with
  |true=>
   simp only[if_true]at h⊢
   obtain⟨⟨t,az,z1⟩,h1,h⟩:=Option.bind_eq_some_iff.1 h
   obtain⟨⟨fK,z2⟩,h2,h⟩:=Option.map_eq_some_iff.1 h
   simp only[Prod.mk.injEq,List.append_eq_nil_iff]at h
   obtain⟨rfl,rfl,rfl⟩:=h
   rw[Xw h1]
   simp only[Option.bind_some]
   exact AR il _ h2
  |false=>
   simp only[Bool.false_eq_true,if_false]at h⊢
   exact AR il _ h
def Xx(P:Program)(w0:World)(nb:Nat)(Sc:Nat→Nat→Prop)(J:Nat→(Nat→Prop)→World→Prop)(nt:Nat)(vm:List Nat)(k:Nat)(Q:Exit→Act→World→Prop):Out→Prop
 | .norm σ=>∀a w,YR P w0 nb Sc J nt vm k [] σ a w→Q .normal a w
 | .exit id σ=>∀a w,YR P w0 nb Sc J nt vm k [] σ a w→Q (gC id) a w
 | .ret σ=>∀a w,YR P w0 nb Sc J nt vm k [] σ a w→Q .ret a w
theorem YR.kill{k:Nat}{vs:List Nat}{σ:St}{a:Act}{w:World}(h:YR P w0 nb Sc J nt vm k [] σ a w):YR P w0 nb Sc J nt vm k [] {σ with vars:=er vs σ.vars} a w:=by
 obtain⟨Wb,own,S,β,φ,hR,h⟩:=h
 exact⟨Wb,own,S,β,φ,Hz vs σ.vars hR,h⟩
theorem YR.free{k:Nat}{ss:List Nat}{σ σ':St}{a:Act}{w:World}(h:YR P w0 nb Sc J nt vm k [] σ a w)(hf:cB ss σ=some σ'):YR P w0 nb Sc J nt vm k [] σ' a w:=by
 obtain⟨Wb,own,S,β,φ,hR,h⟩:=h
 obtain⟨β',h3⟩:=HA ss hR hf
 exact⟨Wb,own,S,β',φ,h3,h⟩
theorem YR.fin{k:Nat}{Kd:List (Option Nat)}{σ:St}{a:Act}{w:World}(h:YR P w0 nb Sc J nt vm k Kd σ a w):YR P w0 nb Sc J nt vm k [] ⟨[],fJ σ.rs σ.vars (vm.map (qV Kd)),σ.boxes⟩ a w:=by
 obtain⟨Wb,own,S,β,φ,hR,h⟩:=h
 exact⟨Wb,own,S,β,φ,hR.fin,h⟩
theorem OA{C:FuncId→List T→Option T}{N:Nat}{kv kb:List Nat}{ia:IC}{σ:St}:aS C l N (.seq (.kill kv) (.seq (.free kb) ia)) σ=(cB kb {σ with vars:=er kv σ.vars}).bind fun az=>aS C l N ia az:=by
 simp only[aS]
 cases cB kb {σ with vars:=er kv σ.vars}with
 |none=>rfl
 |some az=>
  simp only[Option.map_some,Option.bind_some,List.nil_append]
  cases aS C l N ia az<;>rfl
theorem GW{C:FuncId→List T→Option T}(hC:∀f args r,C f args=some r→Sound P f args r){io:FuncId→Nat}{bN:List Nat→Array Oper→List (Option (Nat×Bool)×IOp)→Bool}(hD:mU P bN)(N:Nat)(dm:2*bm.length≤nb)(hy:Uo P w0 l Sc J ys):
  ∀(m:Nat) (c:Code) {n:Nat} {h h':Hints} {ic:IC} {σ:St} {out:Out} {zs suf:List (List T)} {k:Nat} {a:Act} {w:World} {Q:Exit→Act→World→Prop},
  bC P io nt vm bm bN m c h=some (ic,h')→aS C l N ic σ=some (out,zs)→ys.drop k=zs++suf→YR P w0 nb Sc J nt vm k [] σ a w→Xx P w0 nb Sc J nt vm (k+zs.length) Q out→c.wpIn (wd none) n P Q a w:=by
 intro m
 induction m with
 |zero=>intro c n h h' ic σ out zs suf k a w Q hl;simp[bC]at hl
 |succ m ih=>
 intro c n h h' ic σ out zs suf k a w Q hl he sn hc hQ
 cases c with
 |skip=>
  simp only[bC,Option.some.injEq,Prod.mk.injEq]at hl
  obtain⟨rfl,rfl⟩:=hl
  simp only[aS,Option.some.injEq,Prod.mk.injEq]at he
  obtain⟨rfl,rfl⟩:=he
  exact wpIn_skip (hQ _ _ hc)
 |label l=>
  simp only[bC,Option.some.injEq,Prod.mk.injEq]at hl
  obtain⟨rfl,rfl⟩:=hl
  simp only[aS,Option.some.injEq,Prod.mk.injEq]at he
  obtain⟨rfl,rfl⟩:=he
  exact wpIn_label (hQ _ _ hc)
 |exit id=>
  simp only[bC]at hl
  split at hl<;>try(cases hl;done)
  rename_i IB
  simp only[Option.some.injEq,Prod.mk.injEq]at hl
  obtain⟨rfl,rfl⟩:=hl
  simp only[aS,Option.some.injEq,Prod.mk.injEq]at he
  obtain⟨rfl,rfl⟩:=he
  have:=hQ _ _ hc
  simp only[gC,IB,if_true]at this
  exact wpIn_exit this
 |goto l=>
  simp only[bC,Option.some.injEq,Prod.mk.injEq]at hl
  obtain⟨rfl,rfl⟩:=hl
  simp only[aS,Option.some.injEq,Prod.mk.injEq]at he
  obtain⟨rfl,rfl⟩:=he
  have:=hQ _ _ hc
  simp only[gC,show ¬(cE+l< cE) by omega,if_false,Nat.add_sub_cancel_left]at this
  exact wpIn_goto this
 |ret=>
  simp only[bC,Option.some.injEq,Prod.mk.injEq]at hl
  obtain⟨rfl,rfl⟩:=hl
  simp only[aS,Option.some.injEq,Prod.mk.injEq]at he
  obtain⟨rfl,rfl⟩:=he
  exact wpIn_ret (hQ _ _ hc)
 |region id ops draw=>
  simp only[bC]at hl
  by_cases DE:(kc P io nt vm bm [] ops.toList).isNone=true
  ·rw[if_pos DE]at hl
   simp only[Option.some.injEq,Prod.mk.injEq]at hl
   obtain⟨rfl,rfl⟩:=hl
   simp[aS]at he
  rw[if_neg DE]at hl
  obtain⟨il,yR,hl⟩:=Option.bind_eq_some_iff.1 hl
  split at hl<;>try(cases hl;done)
  rename_i agO
  simp only[Option.some.injEq,Prod.mk.injEq]at hl
  obtain⟨rfl,rfl⟩:=hl
  simp only[aS]at he
  obtain⟨⟨fK,zs'⟩,lT,he⟩:=Option.bind_eq_some_iff.1 he
  split at he<;>try(cases he;done)
  rename_i Ly
  simp only[Option.some.injEq,Prod.mk.injEq]at he
  obtain⟨rfl,rfl⟩:=he
  have sf:YR P w0 nb Sc J nt vm k ([]:List (Option Nat)) {σ with rs:=[]} a w:=by
   obtain⟨Wb,own,S,β,φ,hR,h⟩:=hc
   have vo:σ.rs=[]:=List.length_eq_zero_iff.1 (by simpa using hR.p7)
   have:({σ with rs:=[]}:St)=σ:=by rw[←vo]
   rw[this];exact⟨Wb,own,S,β,φ,hR,h⟩
  have fin:∀a' w',YR P w0 nb Sc J nt vm (k+zs'.length) (ops.toList.map (·.dst)) fK a' w'→Q .normal a' w':=fun a' w' h=>hQ _ _ h.fin
  cases draw with
  |false=>exact wpIn_region_list (IK hC dm hy ops.toList [] (by simp) sf (by simpa using yR) lT sn fin)
  |true=>
   simp only[Bool.true_and,Bool.not_eq_true',Bool.not_eq_false]at agO
   simp only[true_and,Bool.not_eq_false]at Ly
   have hz:zs'=[]:=by simpa using Ly
   subst hz
   obtain⟨Wb,own,S,β,φ,hR,LO,HC,hX⟩:=sf
   exact hD C io Wb w Sc S β φ nt vm bm id ops il _ fK a Q none n hC (by rw[HC];exact dm) agO hR yR (AR il _ lT) fun S' β' φ' a' w' DF am6=>fin a' w' ⟨Wb,own,S',β',φ',DF,am6.trans LO,HC,hX⟩
 |seq x y=>
  simp only[bC,Option.bind_eq_bind]at hl
  obtain⟨⟨ia,h1⟩,fg,hl⟩:=Option.bind_eq_some_iff.1 hl
  obtain⟨⟨ib,h2⟩,nx,hl⟩:=Option.bind_eq_some_iff.1 hl
  simp only[Option.some.injEq,Prod.mk.injEq]at hl
  obtain⟨rfl,rfl⟩:=hl
  simp only[aS]at he
  refine wpIn_seq ?_
  split at he
  ·rename_i az z1 h1
   obtain⟨⟨o2,z2⟩,lT,he⟩:=Option.map_eq_some_iff.1 he
   simp only[Prod.mk.injEq]at he
   obtain⟨rfl,rfl⟩:=he
   refine ih x fg h1 (suf:=z2++suf) (by rw[sn,List.append_assoc]) hc fun a' w' sf=> ?_
   refine ih y nx lT (k:=k+z1.length) (suf:=suf) (by rw[←List.drop_drop,sn];simp) sf ?_
   rw[Nat.add_assoc,←List.length_append]
   exact hQ
  ·rename_i hne
   refine ih x fg he sn hc ?_
   cases out with
   |norm az=>exact absurd he (hne az zs)
   |exit id az=>
    intro a w hc
    have:=hQ a w hc
    unfold gC at this⊢
    split<;>simp_all [Exit.then]
   |ret az=>exact fun a w hc=>hQ a w hc
 |cond c x y=>
  simp only[bC,Option.bind_eq_bind]at hl
  obtain⟨d,hd,hl⟩:=Option.bind_eq_some_iff.1 hl
  obtain⟨⟨ia,h1⟩,fg,hl⟩:=Option.bind_eq_some_iff.1 hl
  obtain⟨⟨ib,h2⟩,nx,hl⟩:=Option.bind_eq_some_iff.1 hl
  simp only[Option.some.injEq,Prod.mk.injEq]at hl
  obtain⟨rfl,rfl⟩:=hl
  simp only[aS]at he
  split at he<;>try(cases he;done)
  rename_i t ht
  have Dz:=hc
  obtain⟨Wb,own,S,β,φ,hR,_⟩:=hc
  have hv:=cA (ht▸hR.opd c d hd)
  refine wpIn_cond hv ?_
  cases t with
  |true=>exact ih x fg (by simpa using he) sn Dz hQ
  |false=>exact ih y nx (by simpa using he) sn Dz hQ
 |block id x=>
  simp only[bC,Option.bind_eq_bind]at hl
  obtain⟨⟨ia,h1⟩,fg,hl⟩:=Option.bind_eq_some_iff.1 hl
  simp only at hl
  split at hl<;>try(cases hl;done)
  rename_i IB
  simp only[Option.some.injEq,Prod.mk.injEq]at hl
  obtain⟨rfl,rfl⟩:=hl
  simp only[aS]at he
  refine wpIn_block ?_
  have key:∀j a w,j≠id→Q (gC j) a w→Exit.inBlock id Q (gC j) a w:=fun j a w hj h=>by
   unfold gC at h⊢
   split
   ·rename_i hlt
    simp only[hlt,if_true]at h
    simp only[Exit.inBlock]
    rw[if_neg hj]
    exact h
   ·rename_i hlt
    simp only[hlt,if_false]at h
    exact h
  split at he
  ·rename_i j az z1 h1
   split at he
   ·rename_i hj
    simp only[Option.some.injEq,Prod.mk.injEq]at he
    obtain⟨rfl,rfl⟩:=he
    refine ih x fg h1 sn hc fun a' w' sf=> ?_
    subst hj
    simp only[gC,IB,if_true,Exit.inBlock]
    exact hQ _ _ sf
   ·rename_i hj
    simp only[Option.some.injEq,Prod.mk.injEq]at he
    obtain⟨rfl,rfl⟩:=he
    exact ih x fg h1 sn hc fun a' w' sf=>key _ _ _ hj (hQ _ _ sf)
  ·rename_i hne
   refine ih x fg he sn hc ?_
   cases out with
   |norm az=>exact fun a w hc=>hQ a w hc
   |exit id az=>exact absurd he (hne id az zs)
   |ret az=>exact fun a w hc=>hQ a w hc
 |loop x=>
  cases h with
  |nil=>simp[bC]at hl
  |cons hd h=>
  obtain⟨vs,ss⟩:=hd
  simp only[bC,Option.bind_eq_bind]at hl
  obtain⟨⟨ia,h1⟩,fg,hl⟩:=Option.bind_eq_some_iff.1 hl
  simp only[Option.some.injEq,Prod.mk.injEq]at hl
  obtain⟨rfl,rfl⟩:=hl
  generalize vs.filterMap (vm.idxOf? ·)=kv at he
  generalize ((ss.filterMap (mM bm ·)).flatMap fun s=>[s,s+1])=kb at he
  simp only[aS]at he
  refine wpIn_loop_rounds N ?_
  suffices key:∀q σ a w k zs,kr (fun σ=>aS C l N (.seq (.kill kv) (.seq (.free kb) ia)) σ) q σ=some (out,zs)→ys.drop k=zs++suf→YR P w0 nb Sc J nt vm k [] σ a w→Xx P w0 nb Sc J nt vm (k+zs.length) Q out→Code.roundsIn (wd none) n P x Q q a w from key N σ a w k zs he sn hc hQ
  intro q
  induction q with
  |zero=>intro σ a w k zs he;simp[kr]at he
  |succ q ihn=>
   intro σ a w k zs he sn hc hQ
   rw[roundsIn_succ]
   simp only[kr]at he
   rw[OA]at he
   cases BF:cB kb {σ with vars:=er kv σ.vars}with
   |none=>rw[BF]at he;simp at he
   |some az=>
    rw[BF]at he
    simp only[Option.bind_some]at he
    have kg:=(hc.kill (vs:=kv)).free BF
    split at he
    ·rename_i fK z1 h2
     obtain⟨⟨o2,z2⟩,lT,he⟩:=Option.map_eq_some_iff.1 he
     simp only[Prod.mk.injEq]at he
     obtain⟨rfl,rfl⟩:=he
     refine ih x fg h2 (suf:=z2++suf) (by rw[sn,List.append_assoc]) kg fun a' w' sf=> ?_
     refine ihn fK a' w' (k+z1.length) z2 lT (by rw[←List.drop_drop,sn];simp) sf ?_
     rw[Nat.add_assoc,←List.length_append]
     exact hQ
    ·rename_i hne
     refine ih x fg he sn kg ?_
     cases out with
     |norm fK=>exact absurd he (hne fK zs)
     |exit id az=>
      intro a w hc
      have:=hQ a w hc
      unfold gC at this⊢
      split<;>simp_all [Exit.then]
     |ret az=>exact fun a w hc=>hQ a w hc
 |scope x=>
  simp only[bC]at hl
  split at hl
  ·simp only[Option.bind_eq_bind]at hl
   obtain⟨⟨ia,h1⟩,fg,hl⟩:=Option.bind_eq_some_iff.1 hl
   simp only[Option.some.injEq,Prod.mk.injEq]at hl
   obtain⟨rfl,rfl⟩:=hl
   simp only[aS]at he
   split at he
   ·rename_i j az z1 h1
    split at he<;>try(cases he;done)
    rename_i hj
    simp only[Option.some.injEq,Prod.mk.injEq]at he
    obtain⟨rfl,rfl⟩:=he
    refine l7 (ih x fg h1 sn hc fun a w hc=> ?_)
    have:=hQ a w hc
    simp only[gC,hj,if_true]at this⊢
    exact this
   ·rename_i hne
    refine l7 (ih x fg he sn hc ?_)
    cases out with
    |norm az=>exact fun a w hc=>hQ a w hc
    |ret az=>exact fun a w hc=>hQ a w hc
    |exit id az=>exact absurd he (hne id az zs)
  ·split at hl<;>try(cases hl;done)
   simp only[Option.bind_eq_bind]at hl
   obtain⟨⟨ia,h1⟩,fg,hl⟩:=Option.bind_eq_some_iff.1 hl
   obtain⟨⟨ib,h2⟩,nx,hl⟩:=Option.bind_eq_some_iff.1 hl
   simp only[Option.some.injEq,Prod.mk.injEq]at hl
   obtain⟨rfl,rfl⟩:=hl
   simp[aS]at he
 |rangeFunc g ps x y=>
  simp only[bC,Option.bind_eq_bind]at hl
  obtain⟨d,hd,hl⟩:=Option.bind_eq_some_iff.1 hl
  obtain⟨is,wY,hl⟩:=Option.bind_eq_some_iff.1 hl
  split at hl<;>try(cases hl;done)
  obtain⟨⟨ia,h1⟩,fg,hl⟩:=Option.bind_eq_some_iff.1 hl
  obtain⟨⟨ib,h2⟩,nx,hl⟩:=Option.bind_eq_some_iff.1 hl
  simp only[Option.some.injEq,Prod.mk.injEq]at hl
  obtain⟨rfl,rfl⟩:=hl
  simp[aS]at he
 |refuse _=>simp[bC]at hl
end
end Go.Vi
end
section
namespace Go.Vi
open Go Go.RowKit
section
variable{P:Program}{vm bm:List Nat}
theorem EV(w:World)(S:Nat→Nat→Prop)(hS:∀b o,S b o→b< w.heap.size)(m:Nat):Inv P ⟨w,fun b=>b< w.heap.size,m,bn,w.heap.size⟩ S S bn cD (List.replicate m none) w:=by
 refine⟨⟨rfl,rfl,rfl,Nat.le_refl _,fun _ h=>h,fun _ _=>rfl,cg.refl _⟩,hS,fun s b hb=>by simp[bn]at hb,fun s cs hs=> ?_,fun s s' b hb=>by simp[bn]at hb,fun k x e hk=>by simp[cD]at hk,fun k k' x x' e e' hk=>by simp[cD]at hk,
  fun b o h=> .inl h,fun _ _ h=>h,fun _ _ _ _ _ h=>h,fun s b _ h=>by simp[bn]at h⟩
 simp only[List.getElem?_replicate]at hs
 split at hs<;>cases hs
theorem OB{C:FuncId→List T→Option T}(hC:∀f args r,C f args=some r→Sound P f args r){io:FuncId→Nat}{bN:List Nat→Array Oper→List (Option (Nat×Bool)×IOp)→Bool}(hD:mU P bN){N f:Nat}{fn:Func}{fR:aC}{h:Hints}{canon:List CM}{split:Bool}{caps:List T}{ys:List (List T)}
  (hf:P.funcs[f]? =some fn) (hn:(fn.name== "runtime.NumGoroutine")=false) (hl:lower P io bN vm bm h canon split fn=some fR) (Wx:rO C N 0 fR caps=some ys):Ht P f caps ys:=by
 have jl:jG P f=true:=by
  unfold lower at hl
  simp only at hl
  split at hl<;>try(cases hl;done)
  rename_i c hb
  simp[jG,hf,hb,hn]
 refine⟨jl,fun l w S vs hS Od ij J hstep OC hJ0 n=> ?_⟩
 have hr:=Un Wx l
 unfold rO at hr
 split at hr<;>try(cases hr;done)
 rename_i am7
 obtain⟨hlen,_,agP⟩:=am7
 unfold lower at hl
 simp only at hl
 split at hl<;>try(cases hl;done)
 rename_i c hb
 split at hl<;>try(cases hl;done)
 rename_i eC
 obtain⟨EA,hbm,oD,iy⟩:=eC
 simp only[Option.bind_eq_bind]at hl
 obtain⟨⟨ic,h'⟩,wO,hl⟩:=Option.bind_eq_some_iff.1 hl
 obtain⟨GL,abt,hl⟩:=Option.bind_eq_some_iff.1 hl
 simp only[Option.some.injEq]at hl
 subst hl
 simp only at hlen hr agP
 have ai8:GL=[]:=by simpa using agP
 subst ai8
 generalize hp:fn.params.size+fn.nfree=p at oD hlen hr
 have am1:p≤vm.length:=by
  have:=congrArg List.length oD
  simp only[List.length_take,List.length_range]at this
  omega
 have Oh:∀i,i< p→vm[i]? =some i:=by
  intro i hi
  have:(vm.take p)[i]? =some i:=by rw[oD];simp[hi]
  rw[List.getElem?_take]at this
  simpa [hi]using this
 have DE:p≤fn.ntmps:=by
  by_cases h0:p=0
  ·omega
  ·have:=Oh (p-1) (by omega)
   have hm:=List.mem_of_getElem? this
   simp only[List.all_eq_true,decide_eq_true_eq]at iy
   have:=iy _ hm
   omega
 have hI:=EV (P:=P) w S hS (2*bm.length)
 have amQ:(#[Value.func (.yield l) #[] #[]]++vs).size=p:=by simp;omega
 have hY0:YR P w (2*bm.length) S J fn.ntmps vm 0 [] ⟨[],yT l::caps++List.replicate (vm.length-p) .undef,List.replicate (2*bm.length) none⟩
   {tmps:=(#[Value.func (.yield l) #[] #[]]++vs)++Array.replicate (fn.ntmps-(#[Value.func (.yield l) #[] #[]]++vs).size) undef,defers:=[]} w:=by
  refine⟨_,fun _=>False,S,bn,cD,⟨hI,⟨[],by simp,rfl,by simp⟩,by simp;omega,by simp;omega,rfl,fun i s u hi _ hu=> ?_,fun j s u hj=>by simp at hj,fun j j' s hj=>by simp at hj⟩,rfl,rfl,fun b=>by simp,fun b hb=>hb.elim,Nat.le_refl _,hJ0⟩
  rw[List.getElem?_append]at hu
  split at hu
  ·rename_i hlt
   simp only[List.length_cons]at hlt
   have:=Oh i (by omega)
   rw[this]at hi
   simp only[Option.some.injEq]at hi
   subst hi
   have jn:i< (#[Value.func (.yield l) #[] #[]]++vs).size:=by omega
   simp only[Array.getD_eq_getD_getElem?]
   rw[Array.getElem?_append_left jn]
   cases i with
   |zero=>
    simp only[List.getElem?_cons_zero,Option.some.injEq]at hu
    subst hu
    rw[Array.getElem?_append_left (by simp)]
    exact .v ..
   |succ i=>
    simp only[List.getElem?_cons_succ]at hu
    rw[Array.getElem?_append_right (by simp)]
    simp only[List.size_toArray,List.length_cons,List.length_nil,Nat.zero_add,Nat.add_sub_cancel]
    have hiv:i< vs.size:=by omega
    refine ij i _ u ?_ hu
    simp[hiv]
  ·rw[List.getElem?_replicate]at hu
   split at hu
   ·simp only[Option.some.injEq]at hu;subst hu;exact .undef ..
   ·cases hu
 have hy:Uo P w l S J ys:=⟨hS,hstep,OC⟩
 refine callsIn_of_wp_marks (F:=wd none) hf hb trivial ?_
 have fin:∀(σ:St) a' w',YR P w (2*bm.length) S J fn.ntmps vm (0+ys.length) [] σ a' w'→LeavesInM (wd none) n P fn a'.tmps (fun e w'=>(∃v,e= .returned v)∧∃own,(∀b,own b→w.heap.size≤b∧b< w'.heap.size)∧J ys.length own w') a'.defers .returning w':=by
  rintro σ a' w' ⟨Wb,own,S',β',φ',hR,LO,HC,hX,ke,hsz,hJ⟩
  obtain⟨hJn,hon⟩:=YR.now hy hR hX ke hsz hJ
  rw[LO]
  rw[Nat.zero_add]at hJn
  have vo:c9 σ [] canon=some (.al []):=by cases canon<;>simp[c9,fU]
  obtain⟨x,hx,cj⟩:=DH (a:=a') (σ:=σ) hR.inv (fun i s u h1 h2=>hR.vars i s u h1 (by simp) h2) abt vo
  simp only[LeavesInM,LeavesIn]
  exact⟨x,hx,⟨x,rfl⟩,uT Wb own w',hon,hJn⟩
 split at hr<;>try(cases hr;done)
 ·rename_i σ Lp he
  simp only[Option.some.injEq]at hr
  subst hr
  exact GW hC hD N (Nat.le_refl _) hy 400 c wO he (suf:=[]) (by simp) hY0 fun a' w' hc=>fin σ a' w' hc
 ·rename_i σ Lp he
  simp only[Option.some.injEq]at hr
  subst hr
  exact GW hC hD N (Nat.le_refl _) hy 400 c wO he (suf:=[]) (by simp) hY0 fun a' w' hc=>fin σ a' w' hc
end
end Go.Vi
end
section
namespace Go.Vi
open Go Go.RowKit
section
variable{P:Program}{W:di}{w:World}{S0 S:Nat→Nat→Prop}{β:aX}{φ:bB}{a:Act}{o:Oper}{σ:St}{nt:Nat}{vm bm:List Nat}
theorem GX{C:FuncId→List T→Option T}(hC:∀f args r,C f args=some r→Sound P f args r){io:FuncId→Nat}{bN:List Nat→Array Oper→List (Option (Nat×Bool)×IOp)→Bool}(hD:mU P bN){N f:Nat}{fn:Func}{fR:aC}{h:Hints}{canon:List CM}{split:Bool}{args:List T}{r:T}
  (hf:P.funcs[f]? =some fn) (hn:(fn.name== "runtime.NumGoroutine")=false) (hl:lower P io bN vm bm h canon split fn=some fR) (hr:sK C N fR args=some r):Bz P f args r:=by
 simp only[sK]at hr
 split at hr<;>try(cases hr;done)
 rename_i hlen
 obtain⟨σ,hex,hr⟩:∃σ,(exec C N fR.body ⟨[],args++List.replicate (fR.kj-fR.nparams) .undef,List.replicate (2*fR.eK) none⟩=some (.norm σ)∨exec C N fR.body ⟨[],args++List.replicate (fR.kj-fR.nparams) .undef,List.replicate (2*fR.eK) none⟩=some (.ret σ))∧
   (c9 σ fR.results fR.canon).bind (kp σ.boxes)=some r:=by
  split at hr<;>try(cases hr;done)
  ·rename_i σ he;exact⟨σ,.inl he,hr⟩
  ·rename_i σ he;exact⟨σ,.inr he,hr⟩
 obtain⟨t,ht,hr⟩:=Option.bind_eq_some_iff.1 hr
 obtain⟨dm,jl,_⟩:=x7 (W:=⟨default,fun _=>False,0,bn,0⟩) (w:=default) (S:=fun _ _=>False) (β:=bn) (φ:=cD) (σ:=σ) hC hD (N:=N) hf hn hl
 refine⟨jl,fun w S vs hS Od ij=> ?_⟩
 obtain⟨_,_,hb⟩:=x7 (W:=⟨w,fun b=>b< w.heap.size,2*fR.eK,bn,w.heap.size⟩) (w:=w) (S:=S) (β:=bn) (φ:=cD) (σ:=σ) hC hD (N:=N) hf hn hl
 refine(hb (args:=args) hlen (EV w S hS _) rfl rfl (by rw[dm];exact Nat.le_refl _) Od ij hex ht).mono fun e w' ⟨x,S',β',φ',he,hI,cj⟩=> ?_
 exact⟨x,he,⟨hI.below.os,hI.below.tape,hI.below.output,hI.below.size,hI.below.block⟩,Of hI cj hr⟩
theorem ya{nb K:Nat}{own:List Nat}{s l:Nat}:fh nb K own s=some l↔mC nb K own l=some s:=by
 constructor
 ·intro h
  have h0:=h
  unfold fh at h
  have key:(if l< 2*K then some (l+nb)else fF own (l-2*K))=some s:=by
   split at h
   ·obtain⟨i,hi,rfl⟩:=Option.map_eq_some_iff.1 h
    have h1:=fz hi
    rw[if_neg (by omega)]
    have e1:(2*(K+i)+s%2-2*K) / 2=i:=by omega
    have e2:(2*(K+i)+s%2-2*K)%2=s%2:=by omega
    simp[fF,e1,e2,h1]
   ·split at h
    ·simp only[Option.some.injEq]at h
     subst h
     rw[if_pos (by omega)]
     congr 1
     omega
    ·cases h
  simp[mC,key,h0]
 ·intro h
  unfold mC at h
  obtain⟨s',_,h⟩:=Option.bind_eq_some_iff.1 h
  split at h
  ·simp only[Option.some.injEq]at h;subst h;assumption
  ·cases h
theorem MU{nb K:Nat}{own:List Nat}{s l:Nat}(dm:nb%2=0)(h:fh nb K own s=some l):l%2=s%2:=by
 unfold fh at h
 split at h
 ·obtain⟨i,_,rfl⟩:=Option.map_eq_some_iff.1 h
  omega
 ·split at h
  ·simp only[Option.some.injEq]at h;omega
  ·cases h
theorem Xy{nb K:Nat}{own:List Nat}{s l:Nat}(h:fh nb K own s=some l):l< 2*(K+own.length):=by
 unfold fh at h
 split at h
 ·obtain⟨i,hi,rfl⟩:=Option.map_eq_some_iff.1 h
  have:=(List.getElem?_eq_some_iff.1 (fz hi)).1
  omega
 ·split at h
  ·simp only[Option.some.injEq]at h;omega
  ·cases h
def EX(fs:List Nat)(i:Nat):Option Nat:=(fs[i]?).bind fun k=>if fs.idxOf? k=some i then some k else none
theorem Up{fs:List Nat}{k i:Nat}:fs.idxOf? k=some i↔EX fs i=some k:=by
 constructor
 ·intro h
  simp[EX,fz h,h]
 ·intro h
  unfold EX at h
  obtain⟨k',_,h⟩:=Option.bind_eq_some_iff.1 h
  split at h
  ·simp only[Option.some.injEq]at h;subst h;assumption
  ·cases h
theorem Kj{bx:List (Option (List T))}{w':World}{nb K:Nat}{t:T}{x:Value}(hI:Inv P W S0 S β φ bx w')(dm:nb%2=0)(hx:ak S w' β φ x t):
  ∃r outs,fV nb K bx t= .al [r,.al outs]∧∃β' φ',Core P W.X S β' φ' (outs.map eD) w'∧ak S w' β' φ' x r∧∀l,l< 2*K→β' l=β (l+nb)∧(bx[l+nb]? =some none→(outs.map eD)[l]? =some none):=by
 unfold fV
 generalize (t.eO++(vT nb K++uf nb K bx t).flatMap fun s=>gX ((ai bx s).getD []))=fs
 generalize uf nb K bx t=own
 unfold ou
 refine⟨_,_,rfl,fun l=>(mC nb K own l).bind β,fun k=>(EX fs k).bind φ, ?_⟩
 have eV:∀l:Nat,(((List.range (2*(K+own.length))).map fun l=>As ((mC nb K own l).bind fun s=>if s< nb then some (ah (fh nb K own) (fun k=>fs.idxOf? k) ((ai bx s).getD []))else(ai bx s).map (ah (fh nb K own) (fun k=>fs.idxOf? k)))).map eD)[l]? =
   if l< 2*(K+own.length)then some ((mC nb K own l).bind fun s=>if s< nb then some (ah (fh nb K own) (fun k=>fs.idxOf? k) ((ai bx s).getD []))else(ai bx s).map (ah (fh nb K own) (fun k=>fs.idxOf? k)))else none:=fun l=>by
  rw[List.map_map,List.getElem?_map]
  by_cases hlt:l< 2*(K+own.length)
  ·rw[List.getElem?_range hlt,if_pos hlt]
   simp[Lr]
  ·rw[List.getElem?_eq_none (by simpa using hlt),if_neg hlt]
   rfl
 obtain⟨h1,h2⟩:=hI.core.relabel (X':=W.X) (bx':=(((List.range (2*(K+own.length))).map fun l=>As ((mC nb K own l).bind fun s=>if s< nb then some (ah (fh nb K own) (fun k=>fs.idxOf? k) ((ai bx s).getD []))else(ai bx s).map (ah (fh nb K own) (fun k=>fs.idxOf? k)))).map eD))
  (ρ:=fh nb K own) (ρi:=mC nb K own) (η:=fun k=>fs.idxOf? k) (ηi:=EX fs) (fun s l=>ya) (fun k k'=>Up) (fun s l h=>MU dm h)
  (fun s l cs h1 h2=>by
   rw[eV,if_pos (Xy h1),ya.1 h1]
   simp only[Option.bind_some,fc.2 h2,Option.getD_some,Option.map_some]
   split<;>rfl)
  (fun l b9 h=>by
   rw[eV]at h
   split at h<;>try(cases h;done)
   simp only[Option.some.injEq]at h
   obtain⟨s,hs,h⟩:=Option.bind_eq_some_iff.1 h
   have fB:=ya.2 hs
   split at h
   ·simp only[Option.some.injEq]at h
    cases hb:ai bx s with
    |none=>rw[hb]at h;exact .inl h.symm
    |some cs=>rw[hb]at h;exact .inr ⟨s,cs,fB,fc.1 hb,h.symm⟩
   ·obtain⟨cs,aF,rfl⟩:=Option.map_eq_some_iff.1 h
    exact .inr ⟨s,cs,fB,fc.1 aF,rfl⟩)
  (fun b hb=> .inl hb)
 refine⟨h1,h2 x t hx,fun l hl=> ?_⟩
 have hu:mC nb K own l=some (l+nb):=ya.1 (by
  unfold fh
  rw[if_neg (by omega),if_pos (by omega)]
  congr 1
  omega)
 refine⟨by simp[hu],fun hb=> ?_⟩
 rw[eV,if_pos (by omega),hu]
 have ff:ai bx (l+nb)=none:=by unfold ai;rw[hb];rfl
 simp[ff]
theorem AS{C:FuncId→List T→Option T}(hC:∀f args r,C f args=some r→Sound P f args r){io:FuncId→Nat}{bN:List Nat→Array Oper→List (Option (Nat×Bool)×IOp)→Bool}(hD:mU P bN){N f:Nat}{fn:Func}{fR:aC}{h:Hints}{canon:List CM}{split:Bool}{args:List T}{ins:List (Option (List T))}{r0:T}
  (hf:P.funcs[f]? =some fn) (hn:(fn.name== "runtime.NumGoroutine")=false) (hl:lower P io bN vm bm h canon split fn=some fR) (hr:nA C N fR args ins=some r0):∃r outs,r0= .al [r,.al outs]∧yq P f args ins r (outs.map eD):=by
 simp only[nA]at hr
 split at hr<;>try(cases hr;done)
 rename_i eC
 obtain⟨hlen,OD⟩:=eC
 generalize dm:2*fR.eK=nb at hr
 generalize gq:args.map (T.aj (fun l=>some (l+nb)) some)=yb at hr
 generalize n9:List.replicate nb none++ins.map (Option.map (ah (fun l=>some (l+nb)) some))=bx at hr
 obtain⟨σ,hex,hr⟩:∃σ,(exec C N fR.body ⟨[],yb++List.replicate (fR.kj-fR.nparams) .undef,bx⟩=some (.norm σ)∨exec C N fR.body ⟨[],yb++List.replicate (fR.kj-fR.nparams) .undef,bx⟩=some (.ret σ))∧
   (c9 σ fR.results fR.canon).map (fV nb (ins.length / 2) σ.boxes)=some r0:=by
  split at hr<;>try(cases hr;done)
  ·rename_i σ he;exact⟨σ,.inl he,hr⟩
  ·rename_i σ he;exact⟨σ,.inr he,hr⟩
 obtain⟨t,ht,rfl⟩:=Option.map_eq_some_iff.1 hr
 obtain⟨am8,jl,_⟩:=x7 (W:=⟨default,fun _=>False,0,bn,0⟩) (w:=default) (S:=fun _ _=>False) (β:=bn) (φ:=cD) (σ:=σ) hC hD (N:=N) hf hn hl
 obtain⟨r,outs,agQ⟩:∃r outs,fV nb (ins.length / 2) σ.boxes t= .al [r,.al outs]:=⟨_,_,rfl⟩
 refine⟨r,outs,agQ,jl,fun B S β φ vs hI Od ij=> ?_⟩
 let ρi:Nat→Option Nat:=fun s=>if nb≤s then some (s-nb)else none
 have T8:nb%2=0:=by omega
 obtain⟨kA,hrel⟩:=hI.core.relabel (X':=B.X) (bx':=bx) (ρ:=fun l=>some (l+nb)) (ρi:=ρi) (η:=some) (ηi:=some)
  (fun l s=>by
   simp only[ρi,Option.some.injEq]
   constructor
   ·intro h;subst h;rw[if_pos (by omega)];congr 1;omega
   ·intro h;split at h
    ·simp only[Option.some.injEq]at h;omega
    ·cases h)
  (fun k k'=>by simp[eq_comm]) (fun l s h=>by simp only[Option.some.injEq]at h;omega)
  (fun l s cs h1 h2=>by
   simp only[Option.some.injEq]at h1
   subst h1
   rw[←n9,List.getElem?_append_right (by simp),List.length_replicate,Nat.add_sub_cancel,List.getElem?_map,h2]
   rfl)
  (fun s b9 h=>by
   rw[←n9,List.getElem?_append]at h
   split at h
   ·rw[List.getElem?_replicate]at h
    split at h<;>cases h
   ·rename_i Bm
    rw[List.length_replicate,List.getElem?_map]at h
    rw[List.length_replicate]at Bm
    obtain⟨o,ho,h⟩:=Option.map_eq_some_iff.1 h
    obtain⟨cs,rfl,rfl⟩:=Option.map_eq_some_iff.1 h
    exact .inr ⟨s-nb,cs,by congr 1;omega,ho,rfl⟩)
  (fun b hb=> .inl hb)
 let W:di:=⟨B.w,B.X,nb,fun s=>(ρi s).bind β,B.w.heap.size⟩
 have Iw:Inv P W S S (fun s=>(ρi s).bind β) (fun k=>(some k).bind φ) bx B.w:=
  ⟨⟨rfl,rfl,rfl,Nat.le_refl _,hI.below.lt,fun _ _=>rfl,cg.refl _⟩,kA.lt,kA.box,kA.boxed,kA.inj,kA.gm,kA.dS,fun b o h=> .inl h,fun _ _ h=>h,fun _ _ _ _ _ h=>h,fun s b _ h=> .inl h⟩
 obtain⟨_,_,hb⟩:=x7 (W:=W) (w:=B.w) (S:=S) (β:=fun s=>(ρi s).bind β) (φ:=fun k=>(some k).bind φ) (σ:=σ) hC hD (N:=N) hf hn hl
 refine(hb (args:=yb) (vs:=vs) (by rw[←gq];simpa using hlen) Iw rfl rfl (by show 2*bm.length≤nb;rw[←am8,dm];exact Nat.le_refl _) (by rw[←gq];simpa using Od) (fun i x t hx ht=> ?_) hex ht).mono fun e w' ⟨x,S',β',φ',he,xV,cj⟩=> ?_
 ·rw[←gq,List.getElem?_map]at ht
  obtain⟨u,hu,rfl⟩:=Option.map_eq_some_iff.1 ht
  exact hrel _ _ (ij i x u hx hu)
 ·obtain⟨r',ac7,h1,xT,o4,h2,h3,h4⟩:=Kj (K:=ins.length / 2) xV T8 cj
  rw[agQ]at h1
  simp only[T.al.injEq,List.cons.injEq,and_true]at h1
  obtain⟨rfl,rfl⟩:=h1
  refine⟨x,S',xT,o4,he,⟨⟨xV.below.os,xV.below.tape,xV.below.output,xV.below.size,xV.below.lt,xV.below.block,xV.below.room⟩,h2.lt,h2.box,h2.boxed,h2.inj,h2.gm,h2.dS,xV.top,xV.base,xV.stay,fun s b _ h=>by simp[bn]at h⟩,h3,fun l b uN=> ?_⟩
  obtain⟨_,_,cs,aF,_⟩:=hI.box l b uN
  have hlt:=(List.getElem?_eq_some_iff.1 aF).1
  obtain⟨g1,g2⟩:=h4 l (by omega)
  have rC:W.β0 (l+nb)=some b:=by
   show(ρi (l+nb)).bind β=some b
   simp only[ρi,show nb≤l+nb by omega,if_true,Nat.add_sub_cancel,Option.bind_some]
   exact uN
  rcases xV.pX (l+nb) b (by show nb≤l+nb;omega) rC with h|h
  ·exact .inl (by rw[g1];exact h)
  ·exact .inr (g2 h)
theorem aeA:∀(t u:T),t.same u=true→t=u:=by
 intro t
 induction t using T.rec (motive_2:=fun ts=>∀us,Ch ts us=true→ts=us)with
 |undef=>intro u h;cases u<;>simp[T.same]at h;rfl
 |v x=>intro u h;cases u<;>simp[T.same]at h
 |sl g n cs ih=>
  intro u h
  cases u<;>try(cases cs<;>simp[T.same]at h;done)
  rename_i g' n' b9
  cases cs<;>cases b9<;>simp[T.same]at h
  obtain⟨rfl,rfl⟩:=h
  rfl
 |ptr=>intro u h;cases u<;>simp[T.same]at h
 |ref=>intro u h;cases u<;>simp[T.same]at h;obtain⟨rfl,rfl⟩:=h;rfl
 |au=>intro u h;cases u<;>simp[T.same]at h;obtain⟨⟨⟨rfl,rfl⟩,rfl⟩,rfl⟩:=h;rfl
 |aQ=>intro u h;cases u<;>simp[T.same]at h;subst h;rfl
 |agg ts ih=>intro u h;cases u<;>simp only[T.same]at h<;>first|(rw[ih _ h])|cases h
 |al ts ih=>intro u h;cases u<;>simp only[T.same]at h<;>first|(rw[ih _ h])|cases h
 |bq=>intro u h;cases u<;>simp[T.same]at h
 |nil=>rename_i us h;cases us<;>simp[Ch]at h;rfl
 |cons t ts ih1 ih2=>
  rename_i us h
  cases us with
  |nil=>simp[Ch]at h
  |cons u us=>simp only[Ch,Bool.and_eq_true]at h;rw[ih1 _ h.1,ih2 _ h.2]
theorem abF{S:Nat→Nat→Prop}{w:World}{β:aX}{φ:bB}{v:Value}(h:ak S w β φ v (.sl .any 0 [])):ak S w β φ v (.sl .nil 0 [])∨ak S w β φ v (.sl .l9 0 []):=by
 generalize hq:T.sl .any 0 []=q at h
 cases h with
 |nil _ _ g hg=>exact .inl (.nil _ _ _ rfl)
 |sl _ _ g ad n c cs f cG hg aF cj=>
  cases hq
  exact .inr (.sl _ _ _ ad _ c [] f cG (.inl (.inl rfl)) (fun i hi=>by simp at hi) (fun i t ht=>by simp at ht))
 |_=>cases hq
theorem zm{S:Nat→Nat→Prop}{w:World}{β:aX}{φ:bB}:∀(args:List T) (vs:List Value),vs.length=args.length→(∀(i:Nat) (x:Value) (t:T),vs[i]? =some x→args[i]? =some t→ak S w β φ x t)→
  ∃yb∈splits args,yb.length=args.length∧∀(i:Nat) (x:Value) (t:T),vs[i]? =some x→yb[i]? =some t→ak S w β φ x t
 | [],vs,_,_=>⟨[],by simp[splits],rfl,fun i x t _ h=>by simp at h⟩
 |t::ts,[],hl,_=>by simp at hl
 |t::ts,v::vs,hl,hr=>by
  obtain⟨as,h1,h2,h3⟩:=zm ts vs (by simpa using hl) fun i x t hx ht=>hr (i+1) x t (by simpa using hx) (by simpa using ht)
  have h0:=hr 0 v t rfl rfl
  have fin:∀u,u::as∈splits (t::ts)→ak S w β φ v u→∃yb∈splits (t::ts),yb.length=(t::ts).length∧∀(i:Nat) (x:Value) (t:T),(v::vs)[i]? =some x→yb[i]? =some t→ak S w β φ x t:=fun u hm hu=>
   ⟨u::as,hm,by simp[h2],fun i x t hx ht=>by
    cases i with
    |zero=>simp at hx ht;subst hx ht;exact hu
    |succ i=>simp at hx ht;exact h3 i x t hx ht⟩
  by_cases hs:t= .sl .any 0 []
  ·subst hs
   rcases abF h0 with h'|h'
   ·exact fin (.sl .nil 0 []) (by simp[splits,h1]) h'
   ·exact fin (.sl .l9 0 []) (by simp[splits,h1]) h'
  ·refine fin t ?_ h0
   have:splits (t::ts)=(splits ts).map (t::·):=by
    conv=>lhs;unfold splits
    split
    ·rename_i h;cases h
    ·rename_i h;simp only[List.cons.injEq]at h;exact absurd h.1 hs
    ·rename_i h;simp only[List.cons.injEq]at h;obtain⟨rfl,rfl⟩:=h;rfl
   rw[this]
   exact List.mem_map.2 ⟨as,h1,rfl⟩
theorem DO{split:Bool}{args:List T}{F:List T→Option T}{r:T}(h:jd split args F=some r):(split=false∧F args=some r)∨∀as∈splits args,F as=some r:=by
 unfold jd at h
 split at h
 ·right
  intro as has
  split at h<;>try(cases h;done)
  rename_i r0 rs hm
  split at h<;>try(cases h;done)
  rename_i iy
  simp only[Option.some.injEq]at h
  subst h
  obtain⟨i,hi⟩:=List.mem_iff_getElem?.1 has
  obtain⟨hlen,hsp⟩:=du hm
  have hlt:=(List.getElem?_eq_some_iff.1 hi).1
  have agR:i< (r0::rs).length:=by omega
  have:=hsp i _ ((r0::rs)[i]) hi (by simp[agR])
  rw[this]
  rw[List.all_eq_true]at iy
  cases i with
  |zero=>rfl
  |succ i=>
   simp only[List.getElem_cons_succ]
   have:=aeA _ _ (iy (rs[i]'(by simpa using agR)) (List.getElem_mem _))
   rw[←this]
 ·rename_i hs
  exact .inl ⟨by simpa using hs,h⟩
structure Uq(P:Program)(E:Env):Prop where
 fn:∀f fR,E.fn f=some fR→∃(io:FuncId→Nat) (bN:List Nat→Array Oper→List (Option (Nat×Bool)×IOp)→Bool) (vm bm:List Nat) (h:Hints) (canon:List CM) (split:Bool) (fn:Func),mU P bN∧P.funcs[f]? =some fn∧(fn.name== "runtime.NumGoroutine")=false∧lower P io bN vm bm h canon split fn=some fR
 kF:∀f g args r,E.kF f=some g→g args=some r→Sound P f args r
theorem Bz.split{f:FuncId}{args:List T}{r:T}(h:∀as∈splits args,Bz P f as r):Bz P f args r:=by
 have hne:∃as,as∈splits args:=by
  have:∀l:List T,∃as,as∈splits l:=by
   intro l
   induction l with
   |nil=>exact⟨[],by simp[splits]⟩
   |cons t ts ih=>
    obtain⟨as,has⟩:=ih
    unfold splits
    split
    ·exact⟨[],by simp⟩
    ·rename_i h;simp only[List.cons.injEq]at h;obtain⟨_,rfl⟩:=h;exact⟨.sl .nil 0 []::as,by simp[has]⟩
    ·rename_i h;simp only[List.cons.injEq]at h;obtain⟨rfl,rfl⟩:=h;exact⟨t::as,by simp[has]⟩
  exact this args
 obtain⟨as0,abG⟩:=hne
 refine⟨(h as0 abG).1,fun w S vs hS hl ij=> ?_⟩
 obtain⟨as,has,hlen,hr⟩:=zm (S:=S) (w:=w) (β:=bn) (φ:=cD) args vs.toList (by simpa using hl) (fun i x t hx ht=>ij i x t (by simpa using hx) ht)
 exact(h as has).2 w S vs hS (by omega) fun i x t hx ht=>hr i x t (by simpa using hx) ht
theorem yq.split{f:FuncId}{args:List T}{ins outs:List (Option (List T))}{r:T}(hc:jG P f=true)(h:∀as∈splits args,yq P f as ins r outs):yq P f args ins r outs:=by
 refine⟨hc,fun B S β φ vs hI hl ij=> ?_⟩
 obtain⟨as,has,hlen,hr⟩:=zm (S:=S) (w:=B.w) (β:=β) (φ:=φ) args vs.toList (by simpa using hl) (fun i x t hx ht=>ij i x t (by simpa using hx) ht)
 exact(h as has).2 B S β φ vs hI (by omega) fun i x t hx ht=>hr i x t (by simpa using hx) ht
theorem jY{E:Env}(hE:Uq P E):∀(n:Nat) (f:FuncId) (args:List T) (r:T),aV E n f args=some r→Sound P f args r
 |0,f,args,r,h=>by simp[aV]at h
 |n+1,f,args,r,h=>by
  simp only[aV]at h
  split at h
  ·rename_i g hg
   exact hE.kF f g args r hg h
  ·split at h
   ·rename_i hlt
    unfold Sound
    rw[if_pos hlt]
    split at h<;>try(cases h;done)
    rename_i fn pZ
    obtain⟨io,bN,vm,bm,hh,cn,sp,fn',hD,hf,hn,hl⟩:=hE.fn f fn pZ
    rcases DO h with⟨_,h⟩|h
    ·exact GX (jY hE n) hD hf hn hl h
    ·exact Bz.split fun as has=>GX (jY hE n) hD hf hn hl (h as has)
   ·rename_i hlt
    unfold Sound
    rw[if_neg hlt]
    split at h<;>try(cases h;done)
    ·rename_i fn as ins pZ
     obtain⟨io,bN,vm,bm,hh,cn,sp,fn',hD,hf,hn,hl⟩:=hE.fn _ fn pZ
     rcases DO h with⟨_,h⟩|h
     ·obtain⟨r',outs,rfl,hs⟩:=AS (jY hE n) hD hf hn hl h
      exact .inl ⟨as,ins,r',outs,rfl,rfl,hs⟩
     ·have hne:∃BC,BC∈splits as:=by
       have:∀l:List T,∃as,as∈splits l:=by
        intro l
        induction l with
        |nil=>exact⟨[],by simp[splits]⟩
        |cons t ts ih=>
         obtain⟨as,has⟩:=ih
         unfold splits
         split
         ·exact⟨[],by simp⟩
         ·rename_i h;simp only[List.cons.injEq]at h;obtain⟨_,rfl⟩:=h;exact⟨.sl .nil 0 []::as,by simp[has]⟩
         ·rename_i h;simp only[List.cons.injEq]at h;obtain⟨rfl,rfl⟩:=h;exact⟨t::as,by simp[has]⟩
       exact this as
      obtain⟨as0,abG⟩:=hne
      obtain⟨r',outs,rfl,hs⟩:=AS (jY hE n) hD hf hn hl (h as0 abG)
      refine .inl ⟨as,ins,r',outs,rfl,rfl,yq.split hs.1 fun BC am9=> ?_⟩
      obtain⟨r2,aqI,e,hs2⟩:=AS (jY hE n) hD hf hn hl (h BC am9)
      simp only[T.al.injEq,List.cons.injEq,and_true]at e
      obtain⟨rfl,rfl⟩:=e
      exact hs2
    ·rename_i fn caps pZ
     obtain⟨io,bN,vm,bm,hh,cn,sp,fn',hD,hf,hn,hl⟩:=hE.fn _ fn pZ
     obtain⟨ys,h1,rfl⟩:=Option.map_eq_some_iff.1 h
     exact .inr ⟨caps,ys,rfl,rfl,OB (jY hE n) hD hf hn hl h1⟩
end
end Go.Vi
end
section
namespace Go.Vi
open Go Go.RowKit
def T.val:T→Value
 | .v x=>x
 |_=>Go.undef
theorem aeB{t:T}(h:t.A4=true):t= .v t.val∧t.val.oneCell'=true:=by
 cases t<;>simp only[T.A4]at h<;>try(cases h;done)
 exact⟨rfl,h⟩
theorem aeC{S:Nat→Nat→Prop}{w:World}{β:aX}{φ:bB}{x:Value}{t:T}(h:ak S w β φ x t)(ht:t.A4=true):x=t.val:=by
 obtain⟨e,_⟩:=aeB ht
 rw[e]at h
 exact cA h
section
variable{P:Program}{B:di}{S:Nat→Nat→Prop}{β:aX}{φ:bB}{bx:List (Option (List T))}
theorem Ur{w:World}{b:Nat}{cs:List T}(h:Sm S w β φ b cs)(hv:cs.all T.A4=true):
  ∃cur e,w.heap[b]? =some (.cells cur e (0,0))∧cs.length≤cur.size∧(∀j x,j< cs.length→cur[j]? =some x→x.oneCell'=true)∧cur.toList.take cs.length=cs.map T.val:=by
 obtain⟨c,e,h1,h2,h3,h4⟩:=h
 refine⟨c,e,h1,h2,fun j x hj hx=>h3 j x hj hx,List.ext_getElem? fun j=> ?_⟩
 rw[List.getElem?_take,List.getElem?_map]
 split
 ·rename_i hj
  have hc:j< c.size:=by omega
  have e1:c.toList[j]? =some c[j]:=by simp[hc]
  have e2:cs[j]? =some cs[j]:=List.getElem?_eq_getElem hj
  rw[e1,e2,Option.map_some]
  congr 1
  exact aeC (h4 j _ _ (Array.getElem?_eq_getElem hc) e2) (List.all_eq_true.1 hv _ (List.getElem_mem hj))
 ·rename_i hj
  rw[List.getElem?_eq_none (by omega)];rfl
end
end Go.Vi
end
