/-
  A claim's own text, joined by a small program out of: Vj25, Vj26, Vj27, Vj17b, Vj29.
-/
import Derived.Test.YtodollbkpkpklaaGreatX16
set_option linter.unusedVariables false
set_option linter.unusedSimpArgs false
section
namespace Go.Vi
open Go Go.RowKit
section
variable{P:Program}{nt:Nat}{vm bm:List Nat}{o:Oper}
def NC(x:Option IOp):Prop:=∀d q ds,x≠some (.callv d q ds)
theorem NC.none:NC none:=fun _ _ _ h=>by cases h
theorem NC.some{i:IOp}(h:∀d q ds,i≠ .callv d q ds):NC (some i):=fun d q ds h'=>h d q ds (Option.some.inj h')
theorem NC.bind{α:Type}{x:Option α}{f:α→Option IOp}(h:∀a,NC (f a)):NC (x.bind f):=fun d q ds h'=>by
 obtain⟨a,_,h'⟩:=Option.bind_eq_some_iff.1 h'
 exact h a d q ds h'
theorem NC.map{α:Type}{x:Option α}{f:α→IOp}(h:∀a d q ds,f a≠ .callv d q ds):NC (x.map f):=fun d q ds h'=>by
 obtain⟨a,_,h'⟩:=Option.map_eq_some_iff.1 h'
 exact h a d q ds h'
theorem ad3(bm:List Nat)(d:Nat)(e:TypeId)(sz bytes:Nat)(zs:List T)(q:ag)(d':Nat)(q':ag)(ds:List ag):JE bm d e sz bytes zs q≠ .callv d' q' ds:=by
 unfold JE;split<;>(intro h;cases h)
theorem ad4(bm:List Nat)(d:Nat)(e:TypeId)(sz len:Nat)(zs:List T)(qs:List (Nat×Nat×ag))(d':Nat)(q':ag)(ds:List ag):Tu bm d e sz len zs qs≠ .callv d' q' ds:=by
 unfold Tu;split<;>(intro h;cases h)
theorem abj(bm:List Nat)(d:Nat)(e:TypeId)(sz bytes:Nat)(zs:List T)(k:Nat)(x y:ag)(d':Nat)(q':ag)(ds:List ag):BM bm d e sz bytes zs k x y≠ .callv d' q' ds:=by
 unfold BM;split<;>(intro h;cases h)
theorem ad5(bm:List Nat)(dst:Option Nat)(q:ag)(d':Nat)(q':ag)(ds:List ag):M6 P bm dst q≠ .callv d' q' ds:=by
 unfold M6;repeat' split
 all_goals (intro h;cases h)
theorem abk(opd:Operand→Option ag)(neg:Bool)(op:BinOp)(t:TypeId)(x y:Operand):NC (E9 P opd neg op t x y):=by
 unfold E9
 simp only[Option.bind_eq_bind]
 split<;>repeat' (first
  |exact NC.none
  |(refine NC.some fun _ _ _=> ?_;intro h;cases h;done)
  |refine NC.bind fun _=> ?_
  |split)
theorem W9{io:FuncId→Nat}{done:List (Option Nat)}{d:Nat}{q:ag}{ds:List ag}(h:nY P io vm bm done o=some (.callv d q ds)):∃c fo,o.op= .call c∧c.callee= .value fo:=by
 by_cases hc:∃c fo,o.op= .call c∧c.callee= .value fo
 ·exact hc
 exfalso
 suffices hn:NC (nY P io vm bm done o)from hn _ _ _ h
 clear h
 cases ho:o.op<;>simp only[nY,ho,Option.bind_eq_bind]
 case call c=>
  cases b7:c.callee with
  |value fo=>exact absurd ⟨c,fo,ho,b7⟩ hc
  |_=>
   repeat' (first
    |exact NC.none
    |contradiction
    |exact NC.some (abj _ _ _ _ _ _ _ _ _)
    |(refine NC.some fun _ _ _=> ?_;intro h;cases h;done)
    |(refine NC.map fun _ _ _ _=> ?_;intro h;cases h;done)
    |refine NC.bind fun _=> ?_
    |split)
 all_goals
  repeat' (first
   |exact NC.none
   |contradiction
   |exact abk _ _ _ _ _ _
   |exact NC.some (ad3 _ _ _ _ _ _ _)
   |exact NC.map fun _ _ _ _=>ad5 _ _ _ _ _ _
   |exact NC.some (ad4 _ _ _ _ _ _ _)
   |(refine NC.some fun _ _ _=> ?_;intro h;cases h;done)
   |(refine NC.map fun _ _ _ _=> ?_;intro h;cases h;done)
   |refine NC.bind fun _=> ?_
   |split)
theorem abl{S S':Nat→Nat→Prop}{w:World}{β:aY}{φ:bw}{x:Value}{t:T}(h:ak S w β φ x t)(hs:scal t=true):ak S' w bj cz x t:=by
 cases h with
 |v=>exact .v ..
 |agg _ _ xs ts hl h1 hr=>
  refine .agg _ _ _ _ hl h1 fun i y u hy hu=> ?_
  have h2:=hr i y u hy hu
  simp only[scal,List.all_eq_true]at hs
  have h3:=hs u (List.mem_of_getElem? hu)
  cases u with
  |v z=>rw[cy h2];exact .v ..
  |_=>simp[T.Ay]at h3
 |_=>simp[scal]at hs
variable{w0:World}{l nb:Nat}{Sc:Nat→Nat→Prop}{J:Nat→(Nat→Prop)→World→Prop}{ys:List (List T)}
def YR(P:Program)(w0:World)(nb:Nat)(Sc:Nat→Nat→Prop)(J:Nat→(Nat→Prop)→World→Prop)(nt:Nat)(vm:List Nat)(k:Nat)(done:List (Option Nat))(σ:St)(a:Act)(w:World):Prop:=
 ∃(Wb:dg) (own:Nat→Prop) (S:Nat→Nat→Prop) (β:aY) (φ:bw),bX P Wb Sc S β φ nt vm done σ a w∧a.defers=[]∧Wb.nb=nb∧(∀b,Wb.X b↔b< Wb.w.heap.size∧¬own b)∧
  (∀b,own b→w0.heap.size≤b∧b< Wb.w.heap.size)∧w0.heap.size≤Wb.w.heap.size∧J k own Wb.w
structure T8(P:Program)(w0:World)(l:Nat)(Sc:Nat→Nat→Prop)(J:Nat→(Nat→Prop)→World→Prop)(ys:List (List T)):Prop where
 lt:∀b o,Sc b o→b< w0.heap.size
 step:∀k own sW W W',J k own W→(∀b,own b→w0.heap.size≤b∧b< W.heap.size)→IterStep own sW W W'→J k sW W'
 yield:∀k y own W (xs:Array Value),ys[k]? =some y→J k own W→(∀b,own b→w0.heap.size≤b∧b< W.heap.size)→xs.size=y.length→(∀(i:Nat) (x:Value) (t:T),xs[i]? =some x→y[i]? =some t→ak Sc W bj cz x t)→
  ∀n,YieldAt (wd none) n P l xs W fun e W'=>e= .returned (.bool true)∧J (k+1) own W'∧zq Sc own W W'
def uv(Wb:dg)(own:Nat→Prop)(w:World)(b:Nat):Prop:=own b∨(Wb.w.heap.size≤b∧b< w.heap.size)
theorem YR.now{k:Nat}{σ:St}{a:Act}{w:World}{done:List (Option Nat)}{Wb:dg}{own:Nat→Prop}{S:Nat→Nat→Prop}{β:aY}{φ:bw}(hy:T8 P w0 l Sc J ys)
  (hR:bX P Wb Sc S β φ nt vm done σ a w) (hX:∀b,Wb.X b↔b< Wb.w.heap.size∧¬own b) (jV:∀b,own b→w0.heap.size≤b∧b< Wb.w.heap.size) (hsz:w0.heap.size≤Wb.w.heap.size) (hJ:J k own Wb.w):
  J k (uv Wb own w) w∧∀b,uv Wb own w b→w0.heap.size≤b∧b< w.heap.size:=by
 have hb:=hR.inv.below
 have hle:=hb.size
 refine⟨hy.step k own _ Wb.w w hJ jV ⟨hb.os,hb.tape,hb.output,hle,fun b h=> .inl h,fun b h=>h,fun b hlt hn=>hb.block b ((hX b).2 ⟨hlt,hn⟩),hb.room⟩,fun b h=> ?_⟩
 rcases h with h|h
 ·have:=jV b h;omega
 ·omega
set_option maxHeartbeats 1000000 in
theorem Ij{C:FuncId→List T→Option T}(hC:∀f args r,C f args=some r→Sound P f args r){io:FuncId→Nat}(di:2*bm.length≤nb)(hy:T8 P w0 l Sc J ys){n:Nat}{ops:Array Oper}{Q:Exit→Act→World→Prop}{σ':St}:
  ∀(rest pre:List Oper) {il:List (Option (Nat×Bool)×IOp)} {σ:St} {a:Act} {w:World} {k:Nat} {zs suf:List (List T)},
  ops.toList=pre++rest→YR P w0 nb Sc J nt vm k (pre.map (·.dst)) σ a w→jU P io nt vm bm (pre.map (·.dst)) rest=some il→mO C l σ il=some (σ',zs)→ys.drop k=zs++suf→
  (∀a' w',YR P w0 nb Sc J nt vm (k+zs.length) (ops.toList.map (·.dst)) σ' a' w'→Q .normal a' w')→wpListIn (wd none) n P ops Q rest a w
 | [],pre,il,σ,a,w,k,zs,suf,o3,h,hl,hr,Ik,hQ=>by
  simp only[jU,Option.some.injEq]at hl
  subst hl
  simp only[mO,Option.some.injEq,Prod.mk.injEq]at hr
  obtain⟨rfl,rfl⟩:=hr
  simp only[List.append_nil]at o3
  rw[←o3]at h
  exact hQ _ _ h
 |o::rest,pre,il,σ,a,w,k,zs,suf,o3,h,hl,hr,Ik,hQ=>by
  have ih:=@Ij C hC io di hy n ops Q σ' rest (pre++[o])
  unfold jU at hl
  split at hl<;>try(cases hl;done)
  rename_i fA
  rw[Bool.not_eq_true,tg,Bool.or_eq_false_iff]at fA
  obtain⟨BY,NH⟩:=fA
  obtain⟨i,hi,hl⟩:=Option.bind_eq_some_iff.1 hl
  obtain⟨r,gq,hl⟩:=Option.bind_eq_some_iff.1 hl
  simp only[Option.some.injEq]at hl
  subst hl
  have hd:∀s,o.dst=some s→some s ∉ pre.map (·.dst)∧s< nt:=by
   intro s hs
   rw[hs]at BY
   simp only[Bool.or_eq_false_iff,Bool.not_eq_false',decide_eq_true_eq]at BY
   refine⟨fun hm=> ?_,BY.2⟩
   have:=BY.1
   rw[List.contains_iff_mem.2 hm]at this
   cases this
  have hg:∀j b,o.guard=some (j,b)→(((pre.map (·.dst))[j]?).join).isSome=true:=by
   intro j b hg
   rw[hg]at NH
   simpa using NH
  have TH:∀(j s:Nat),(pre.map (·.dst))[j]? =some (some s)→(ops[j]?).bind (·.dst)=some s:=by
   intro j s hj
   rw[List.getElem?_map,Option.map_eq_some_iff]at hj
   obtain⟨q,hq,CZ⟩:=hj
   have hlt:=(List.getElem?_eq_some_iff.1 hq).1
   have:ops[j]? =some q:=by
    rw[←Array.getElem?_toList,o3,List.getElem?_append,if_pos hlt,hq]
   rw[this]
   exact CZ
  simp only[mO]at hr
  obtain⟨go,hgo,hr⟩:=Option.bind_eq_some_iff.1 hr
  obtain⟨Wb,own,S,β,φ,hR,Ll,Hc,hX,jV,hsz,hJ⟩:=h
  have hw:=BX hR TH hg hgo
  simp only[wpListIn,hw]
  have hdone:(pre++[o]).map (·.dst)=pre.map (·.dst)++[o.dst]:=by simp
  have agb:2*bm.length≤Wb.nb:=by rw[Hc];exact di
  cases go with
  |false=>
   simp only[Bool.false_eq_true,if_false]at hr⊢
   exact⟨fun _ _=>trivial,ih (by simp[o3]) (by rw[hdone];exact⟨Wb,own,S,β,φ,hR.put hd (.v ..),by rw[put_defers];exact Ll,Hc,hX,jV,hsz,hJ⟩) (by rw[hdone];exact gq) hr Ik hQ⟩
  |true=>
   simp only[if_true]at hr⊢
   obtain⟨⟨t,az,zs1⟩,eu,hr⟩:=Option.bind_eq_some_iff.1 hr
   obtain⟨⟨fB,Xa⟩,Dk,N8⟩:=Option.map_eq_some_iff.1 hr
   simp only[Prod.mk.injEq]at N8
   obtain⟨rfl,rfl⟩:=N8
   have plain:zs1=[]→ae C σ i=some (t,az)→o.wpIn (wd none) n P a w (wpListIn (wd none) n P ops Q rest) Q:=by
    intro hz hrun
    subst hz
    have fin:∀x w',ax P Wb Sc S β φ w σ az t x w'→wpListIn (wd none) n P ops Q rest (a.put o.dst x) w':=fun x w' hA=>by
     obtain⟨S',β',φ',Dc⟩:=hR.after hA hd
     exact ih (by simp[o3]) (by rw[hdone];exact⟨Wb,own,S',β',φ',Dc,by rw[put_defers];exact Ll,Hc,hX,jV,hsz,hJ⟩) (by rw[hdone];exact gq) Dk Ik hQ
    by_cases hc:∃c f,o.op= .call c∧c.callee= .value f
    ·obtain⟨c,f,ho,hcv⟩:=hc
     exact yy hC hR.inv agb hR.opd hi ho hcv hrun fin
    ·obtain⟨x,w',T2,hA⟩:=G1 (a:=a) (o:=o) hR.inv agb hR.opd hi (fun c f ho hcv=>hc ⟨c,f,ho,hcv⟩) hrun
     exact T2.wpIn (rU hi) (fin _ _ hA)
   unfold ry at eu
   split at eu
   ·rename_i d q ds
    split at eu
    ·rename_i hyq
     split at eu<;>try(cases eu;done)
     obtain⟨l0,aa,bb,hq⟩:=Fq hyq
     rw[hq]at eu
     simp only[AE]at eu
     split at eu<;>try(cases eu;done)
     rename_i hc5
     obtain⟨rfl,W0,kE,hsc,hny⟩:=hc5
     obtain rfl:=Array.eq_empty_of_size_eq_zero W0
     obtain rfl:=Array.eq_empty_of_size_eq_zero kE
     simp only[Option.some.injEq,Prod.mk.injEq]at eu
     obtain⟨rfl,rfl,rfl⟩:=eu
     obtain⟨c,fo,ho,hcv⟩:=W9 hi
     have K6:=rU hi
     have H5:=hR.opd
     obtain⟨cl,ar,at'⟩:=c
     simp only at hcv
     subst hcv
     simp only[nY,ho,Option.bind_eq_bind]at hi
     cases G2:o.dst with
     |none=>rw[G2]at hi;cases fo<;>simp at hi
     |some d'=>
      rw[G2]at hi
      cases fo with
      |const v=>simp at hi
      |global g=>simp at hi
      |func f=>
       simp only at hi
       obtain⟨KU,_,hi⟩:=Option.bind_eq_some_iff.1 hi
       simp only[Option.some.injEq]at hi
       unfold M5 at hi
       split at hi<;>cases hi
      |tmp s=>
       simp only at hi
       obtain⟨q',Gb,hi⟩:=Option.bind_eq_some_iff.1 hi
       obtain⟨KU,amp,hi⟩:=Option.bind_eq_some_iff.1 hi
       simp only[Option.some.injEq]at hi
       unfold JF at hi
       split at hi<;>try(cases hi;done)
       simp only[IOp.callv.injEq]at hi
       obtain⟨rfl,rfl,rfl⟩:=hi
       have hv:a.eval (.tmp s)= .func (.yield l0) #[] #[]:=by
        have:=hR.opd _ _ Gb
        rw[hq]at this
        exact cy this
       have hrun:(execOp a.eval o).run P w=(Instr.yield l0 (ar.map a.eval)).run P w:=by
        simp[execOp,ho,resolve,hv,Deferred.ofValue,invoke]
       obtain⟨Xb,K9⟩:=dp amp
       have hk:ys[k]? =some (KU.map (ag.get σ)):=by
        have:=congrArg (·[0]?) Ik
        simpa using this
       obtain⟨hJn,hon⟩:=YR.now hy hR hX jV hsz hJ
       obtain⟨fn,tmps,assign,body,yr,A9⟩:=hy.yield k _ _ w (ar.map a.eval) hk hJn hon (by simpa using Xb) (fun i x t hx ht=>by
        simp only[Array.getElem?_map,Option.map_eq_some_iff,List.getElem?_map]at hx ht
        obtain⟨p,hp,rfl⟩:=hx
        obtain⟨q,hqq,rfl⟩:=ht
        refine abl (hR.opd p q (K9 i p q (by simpa using hp) hqq)) ?_
        exact List.all_eq_true.1 hsc _ (List.mem_map.2 ⟨q,List.mem_of_getElem? hqq,rfl⟩)) (n-1)
       unfold Oper.wpIn
       refine⟨fun _ _=>trivial, ?_⟩
       rw[Oper.semAt_eq _ _ _ K6,hrun,yr,Oper.uponIn_round]
       refine⟨(fun h=>by cases h),A9.mono fun e w' ⟨he,hJ',hst⟩=> ?_⟩
       subst he
       let Wb':dg:=⟨w',fun b=>b< w'.heap.size∧¬uv Wb own w b,nb,bj,0⟩
       have yB:∀b o,S b o→Sc b o∨uv Wb own w b:=fun b o hs=>by
        rcases hR.inv.top b o hs with h|h
        ·exact .inl h
        ·have hlt:=hR.inv.lt b o hs
         by_cases hb:b< Wb.w.heap.size
         ·refine .inr (.inl ?_)
          by_cases ho:own b
          ·exact ho
          ·exact absurd ((hX b).2 ⟨hb,ho⟩) h
         ·exact .inr (.inr ⟨by omega,hlt⟩)
       have agc:∀b,b< w.heap.size→¬uv Wb own w b→Wb.X b:=fun b hb hn=>
        (hX b).2 ⟨by
         by_cases hlt:b< Wb.w.heap.size
         ·exact hlt
         ·exact absurd (.inr ⟨by omega,hb⟩) hn,fun h=>hn (.inl h)⟩
       obtain⟨J',xf,_⟩:=hR.inv.RW (w':=w') (X':=Wb'.X) (S0':=Sc) (nb:=nb) (m0:=0) (β0:=bj) (fun b=>b< w.heap.size∧¬uv Wb own w b) hst.size
        (fun b hb hz=>hst.block b (by
         by_cases hn:uv Wb own w b
         ·exact hn
         ·exact absurd ⟨hb,hn⟩ hz))
        (fun b hb=>agc b hb.1 hb.2)
        (fun b o hs sp v hv=>by
         rcases yB b o hs with h|h
         ·exact hst.cell b o h sp v hv
         ·rw[World.cell?_of_block (w:=w) (hst.block b h)];exact hv)
        (fun b hb=>by
         by_cases hlt:b< w.heap.size
         ·exact .inl (agc b hlt hb.2)
         ·exact .inr (by omega)) (fun b hb=>hb.1) hR.inv.base
        (fun b o hs=>(yB b o hs).imp id fun h hx=>hx.2 h) (fun s b _ h=>by simp[bj]at h) hst.room
       have Dc:bX P Wb' Sc S β φ nt vm (pre.map (·.dst)) σ a w':=
        ⟨J',⟨[],by simp,by simp[Ll],by simp⟩,hR.size,hR.o0,hR.pM,fun i s u h1 h2 h3=>xf _ _ _ (hR.vars i s u h1 h2 h3),fun j s u h1 h2=>xf _ _ _ (hR.uj j s u h1 h2),hR.Af⟩
       have um:=Dc.put (dst:=o.dst) hd (x:= .bool true) (t:=T.bool true) (.v ..)
       have hYR:YR P w0 nb Sc J nt vm (k+1) (pre.map (·.dst)++[o.dst]) {σ with rs:=σ.rs++[T.bool true]} (a.put o.dst (.bool true)) w':=by
        refine⟨Wb',uv Wb own w,S,β,φ,um,by rw[put_defers];exact Ll,rfl,fun b=>Iff.rfl,fun b hb=> ?_, ?_,hJ'⟩
        ·have h1:=hon b hb
         have h2:=hst.size
         exact⟨h1.1,by show b< w'.heap.size;omega⟩
        ·have h2:=hst.size
         have h3:=hR.inv.below.size
         show w0.heap.size≤w'.heap.size
         omega
       refine ih (k:=k+1) (zs:=Xa) (suf:=suf) (by simp[o3]) (by rw[hdone];exact hYR) (by rw[hdone];exact gq) Dk ?_ ?_
       ·rw[←List.drop_drop,Ik]
        simp
       ·intro a' AP hYR
        refine hQ a' AP ?_
        have e:k+([KU.map (ag.get σ)]++Xa).length=k+1+Xa.length:=by simp;omega
        rw[e];exact hYR
    ·have:=qN 0 eu
     exact plain this.2.1 this.2.2
   ·split at eu<;>try(cases eu;done)
    simp only[Option.some.injEq,Prod.mk.injEq]at eu
    obtain⟨rfl,rfl,rfl⟩:=eu
    exact plain rfl rfl
   ·simp only[Option.some.injEq,Prod.mk.injEq]at eu
    obtain⟨rfl,rfl,rfl⟩:=eu
    exact plain rfl rfl
   ·have:=qN 0 eu
    exact plain this.2.1 this.2.2
end
end Go.Vi
end
section
namespace Go.Vi
open Go Go.RowKit
section
variable{P:Program}{nt:Nat}{vm bm:List Nat}{w0:World}{l nb:Nat}{Sc:Nat→Nat→Prop}{J:Nat→(Nat→Prop)→World→Prop}{ys:List (List T)}
theorem Xc{C:FuncId→List T→Option T}{σ σ':St}{o:IOp}{t:T}(h:ry C l σ o=some (t,σ',[])):ae C σ o=some (t,σ'):=by
 unfold ry at h
 split at h
 ·split at h
  ·split at h<;>try(cases h;done)
   unfold AE at h
   split at h<;>try(cases h;done)
   split at h<;>(cases h;done)
  ·exact(qN 0 h).2.2
 ·split at h<;>try(cases h;done)
  simp only[Option.some.injEq,Prod.mk.injEq]at h
  obtain⟨rfl,rfl,_⟩:=h
  rfl
 ·simp only[Option.some.injEq,Prod.mk.injEq]at h
  obtain⟨rfl,rfl,_⟩:=h
  rfl
 ·exact(qN 0 h).2.2
theorem Aj{C:FuncId→List T→Option T}{σ':St}:∀(il:List (Option (Nat×Bool)×IOp)) (σ:St),mO C l σ il=some (σ',[])→eQ C σ il=some σ'
 | [],σ,h=>by
  simp only[mO,Option.some.injEq,Prod.mk.injEq]at h
  simp only[eQ,h.1]
 |(g,o)::il,σ,h=>by
  simp only[mO]at h
  obtain⟨go,hg,h⟩:=Option.bind_eq_some_iff.1 h
  simp only[eQ,hg,Option.bind_some]
  cases go with
  |true=>
   simp only[if_true]at h⊢
   obtain⟨⟨t,az,z1⟩,h1,h⟩:=Option.bind_eq_some_iff.1 h
   obtain⟨⟨fB,z2⟩,h2,h⟩:=Option.map_eq_some_iff.1 h
   simp only[Prod.mk.injEq,List.append_eq_nil_iff]at h
   obtain⟨rfl,rfl,rfl⟩:=h
   rw[Xc h1]
   simp only[Option.bind_some]
   exact Aj il _ h2
  |false=>
   simp only[Bool.false_eq_true,if_false]at h⊢
   exact Aj il _ h
def Xd(P:Program)(w0:World)(nb:Nat)(Sc:Nat→Nat→Prop)(J:Nat→(Nat→Prop)→World→Prop)(nt:Nat)(vm:List Nat)(k:Nat)(Q:Exit→Act→World→Prop):Out→Prop
 | .norm σ=>∀a w,YR P w0 nb Sc J nt vm k [] σ a w→Q .normal a w
 | .exit id σ=>∀a w,YR P w0 nb Sc J nt vm k [] σ a w→Q (gr id) a w
 | .ret σ=>∀a w,YR P w0 nb Sc J nt vm k [] σ a w→Q .ret a w
theorem YR.kill{k:Nat}{vs:List Nat}{σ:St}{a:Act}{w:World}(h:YR P w0 nb Sc J nt vm k [] σ a w):YR P w0 nb Sc J nt vm k [] {σ with vars:=ef vs σ.vars} a w:=by
 obtain⟨Wb,own,S,β,φ,hR,h⟩:=h
 exact⟨Wb,own,S,β,φ,G9 vs σ.vars hR,h⟩
theorem YR.free{k:Nat}{ss:List Nat}{σ σ':St}{a:Act}{w:World}(h:YR P w0 nb Sc J nt vm k [] σ a w)(hf:cB ss σ=some σ'):YR P w0 nb Sc J nt vm k [] σ' a w:=by
 obtain⟨Wb,own,S,β,φ,hR,h⟩:=h
 obtain⟨β',h3⟩:=Ha ss hR hf
 exact⟨Wb,own,S,β',φ,h3,h⟩
theorem YR.fin{k:Nat}{JN:List (Option Nat)}{σ:St}{a:Act}{w:World}(h:YR P w0 nb Sc J nt vm k JN σ a w):YR P w0 nb Sc J nt vm k [] ⟨[],fz σ.rs σ.vars (vm.map (qJ JN)),σ.boxes⟩ a w:=by
 obtain⟨Wb,own,S,β,φ,hR,h⟩:=h
 exact⟨Wb,own,S,β,φ,hR.fin,h⟩
theorem N9{C:FuncId→List T→Option T}{N:Nat}{kv kb:List Nat}{ia:IC}{σ:St}:aS C l N (.seq (.kill kv) (.seq (.free kb) ia)) σ=(cB kb {σ with vars:=ef kv σ.vars}).bind fun az=>aS C l N ia az:=by
 simp only[aS]
 cases cB kb {σ with vars:=ef kv σ.vars}with
 |none=>rfl
 |some az=>
  simp only[Option.map_some,Option.bind_some,List.nil_append]
  cases aS C l N ia az<;>rfl
theorem Gv{C:FuncId→List T→Option T}(hC:∀f args r,C f args=some r→Sound P f args r){io:FuncId→Nat}{bE:List Nat→Array Oper→List (Option (Nat×Bool)×IOp)→Bool}(hD:mE P bE)(N:Nat)(di:2*bm.length≤nb)(hy:T8 P w0 l Sc J ys):
  ∀(m:Nat) (c:Code) {n:Nat} {h h':Hints} {ic:IC} {σ:St} {out:Out} {zs suf:List (List T)} {k:Nat} {a:Act} {w:World} {Q:Exit→Act→World→Prop},
  bz P io nt vm bm bE m c h=some (ic,h')→aS C l N ic σ=some (out,zs)→ys.drop k=zs++suf→YR P w0 nb Sc J nt vm k [] σ a w→Xd P w0 nb Sc J nt vm (k+zs.length) Q out→c.wpIn (wd none) n P Q a w:=by
 intro m
 induction m with
 |zero=>intro c n h h' ic σ out zs suf k a w Q hl;simp[bz]at hl
 |succ m ih=>
 intro c n h h' ic σ out zs suf k a w Q hl he pQ hc hQ
 cases c with
 |skip=>
  simp only[bz,Option.some.injEq,Prod.mk.injEq]at hl
  obtain⟨rfl,rfl⟩:=hl
  simp only[aS,Option.some.injEq,Prod.mk.injEq]at he
  obtain⟨rfl,rfl⟩:=he
  exact wpIn_skip (hQ _ _ hc)
 |label l=>
  simp only[bz,Option.some.injEq,Prod.mk.injEq]at hl
  obtain⟨rfl,rfl⟩:=hl
  simp only[aS,Option.some.injEq,Prod.mk.injEq]at he
  obtain⟨rfl,rfl⟩:=he
  exact wpIn_label (hQ _ _ hc)
 |exit id=>
  simp only[bz]at hl
  split at hl<;>try(cases hl;done)
  rename_i H8
  simp only[Option.some.injEq,Prod.mk.injEq]at hl
  obtain⟨rfl,rfl⟩:=hl
  simp only[aS,Option.some.injEq,Prod.mk.injEq]at he
  obtain⟨rfl,rfl⟩:=he
  have:=hQ _ _ hc
  simp only[gr,H8,if_true]at this
  exact wpIn_exit this
 |goto l=>
  simp only[bz,Option.some.injEq,Prod.mk.injEq]at hl
  obtain⟨rfl,rfl⟩:=hl
  simp only[aS,Option.some.injEq,Prod.mk.injEq]at he
  obtain⟨rfl,rfl⟩:=he
  have:=hQ _ _ hc
  simp only[gr,show ¬(cD+l< cD) by omega,if_false,Nat.add_sub_cancel_left]at this
  exact wpIn_goto this
 |ret=>
  simp only[bz,Option.some.injEq,Prod.mk.injEq]at hl
  obtain⟨rfl,rfl⟩:=hl
  simp only[aS,Option.some.injEq,Prod.mk.injEq]at he
  obtain⟨rfl,rfl⟩:=he
  exact wpIn_ret (hQ _ _ hc)
 |region id ops draw=>
  simp only[bz]at hl
  by_cases Db:(jU P io nt vm bm [] ops.toList).isNone=true
  ·rw[if_pos Db]at hl
   simp only[Option.some.injEq,Prod.mk.injEq]at hl
   obtain⟨rfl,rfl⟩:=hl
   simp[aS]at he
  rw[if_neg Db]at hl
  obtain⟨il,ym,hl⟩:=Option.bind_eq_some_iff.1 hl
  split at hl<;>try(cases hl;done)
  rename_i agd
  simp only[Option.some.injEq,Prod.mk.injEq]at hl
  obtain⟨rfl,rfl⟩:=hl
  simp only[aS]at he
  obtain⟨⟨fB,zs'⟩,lx,he⟩:=Option.bind_eq_some_iff.1 he
  split at he<;>try(cases he;done)
  rename_i K6
  simp only[Option.some.injEq,Prod.mk.injEq]at he
  obtain⟨rfl,rfl⟩:=he
  have rP:YR P w0 nb Sc J nt vm k ([]:List (Option Nat)) {σ with rs:=[]} a w:=by
   obtain⟨Wb,own,S,β,φ,hR,h⟩:=hc
   have uW:σ.rs=[]:=List.length_eq_zero_iff.1 (by simpa using hR.pM)
   have:({σ with rs:=[]}:St)=σ:=by rw[←uW]
   rw[this];exact⟨Wb,own,S,β,φ,hR,h⟩
  have fin:∀a' w',YR P w0 nb Sc J nt vm (k+zs'.length) (ops.toList.map (·.dst)) fB a' w'→Q .normal a' w':=fun a' w' h=>hQ _ _ h.fin
  cases draw with
  |false=>exact wpIn_region_list (Ij hC di hy ops.toList [] (by simp) rP (by simpa using ym) lx pQ fin)
  |true=>
   simp only[Bool.true_and,Bool.not_eq_true',Bool.not_eq_false]at agd
   simp only[true_and,Bool.not_eq_false]at K6
   have hz:zs'=[]:=by simpa using K6
   subst hz
   obtain⟨Wb,own,S,β,φ,hR,Ll,Hc,hX⟩:=rP
   exact hD C io Wb w Sc S β φ nt vm bm id ops il _ fB a Q none n hC (by rw[Hc];exact di) agd hR ym (Aj il _ lx) fun S' β' φ' a' w' Dc amq=>fin a' w' ⟨Wb,own,S',β',φ',Dc,amq.trans Ll,Hc,hX⟩
 |seq x y=>
  simp only[bz,Option.bind_eq_bind]at hl
  obtain⟨⟨ia,h1⟩,fu,hl⟩:=Option.bind_eq_some_iff.1 hl
  obtain⟨⟨ib,h2⟩,mX,hl⟩:=Option.bind_eq_some_iff.1 hl
  simp only[Option.some.injEq,Prod.mk.injEq]at hl
  obtain⟨rfl,rfl⟩:=hl
  simp only[aS]at he
  refine wpIn_seq ?_
  split at he
  ·rename_i az z1 h1
   obtain⟨⟨o2,z2⟩,lx,he⟩:=Option.map_eq_some_iff.1 he
   simp only[Prod.mk.injEq]at he
   obtain⟨rfl,rfl⟩:=he
   refine ih x fu h1 (suf:=z2++suf) (by rw[pQ,List.append_assoc]) hc fun a' w' rP=> ?_
   refine ih y mX lx (k:=k+z1.length) (suf:=suf) (by rw[←List.drop_drop,pQ];simp) rP ?_
   rw[Nat.add_assoc,←List.length_append]
   exact hQ
  ·rename_i hne
   refine ih x fu he pQ hc ?_
   cases out with
   |norm az=>exact absurd he (hne az zs)
   |exit id az=>
    intro a w hc
    have:=hQ a w hc
    unfold gr at this⊢
    split<;>simp_all [Exit.then]
   |ret az=>exact fun a w hc=>hQ a w hc
 |cond c x y=>
  simp only[bz,Option.bind_eq_bind]at hl
  obtain⟨d,hd,hl⟩:=Option.bind_eq_some_iff.1 hl
  obtain⟨⟨ia,h1⟩,fu,hl⟩:=Option.bind_eq_some_iff.1 hl
  obtain⟨⟨ib,h2⟩,mX,hl⟩:=Option.bind_eq_some_iff.1 hl
  simp only[Option.some.injEq,Prod.mk.injEq]at hl
  obtain⟨rfl,rfl⟩:=hl
  simp only[aS]at he
  split at he<;>try(cases he;done)
  rename_i t ht
  have C6:=hc
  obtain⟨Wb,own,S,β,φ,hR,_⟩:=hc
  have hv:=cy (ht▸hR.opd c d hd)
  refine wpIn_cond hv ?_
  cases t with
  |true=>exact ih x fu (by simpa using he) pQ C6 hQ
  |false=>exact ih y mX (by simpa using he) pQ C6 hQ
 |block id x=>
  simp only[bz,Option.bind_eq_bind]at hl
  obtain⟨⟨ia,h1⟩,fu,hl⟩:=Option.bind_eq_some_iff.1 hl
  simp only at hl
  split at hl<;>try(cases hl;done)
  rename_i H8
  simp only[Option.some.injEq,Prod.mk.injEq]at hl
  obtain⟨rfl,rfl⟩:=hl
  simp only[aS]at he
  refine wpIn_block ?_
  have key:∀j a w,j≠id→Q (gr j) a w→Exit.inBlock id Q (gr j) a w:=fun j a w hj h=>by
   unfold gr at h⊢
   split
   ·rename_i hlt
    simp only[hlt,if_true]at h
    simp only[Exit.inBlock]
    rw[if_neg hj]
    exact h
   ·rename_i hlt
    simp only[hlt,if_false]at h
    exact h
  split at he
  ·rename_i j az z1 h1
   split at he
   ·rename_i hj
    simp only[Option.some.injEq,Prod.mk.injEq]at he
    obtain⟨rfl,rfl⟩:=he
    refine ih x fu h1 pQ hc fun a' w' rP=> ?_
    subst hj
    simp only[gr,H8,if_true,Exit.inBlock]
    exact hQ _ _ rP
   ·rename_i hj
    simp only[Option.some.injEq,Prod.mk.injEq]at he
    obtain⟨rfl,rfl⟩:=he
    exact ih x fu h1 pQ hc fun a' w' rP=>key _ _ _ hj (hQ _ _ rP)
  ·rename_i hne
   refine ih x fu he pQ hc ?_
   cases out with
   |norm az=>exact fun a w hc=>hQ a w hc
   |exit id az=>exact absurd he (hne id az zs)
   |ret az=>exact fun a w hc=>hQ a w hc
 |loop x=>
  cases h with
  |nil=>simp[bz]at hl
  |cons hd h=>
  obtain⟨vs,ss⟩:=hd
  simp only[bz,Option.bind_eq_bind]at hl
  obtain⟨⟨ia,h1⟩,fu,hl⟩:=Option.bind_eq_some_iff.1 hl
  simp only[Option.some.injEq,Prod.mk.injEq]at hl
  obtain⟨rfl,rfl⟩:=hl
  generalize vs.filterMap (vm.idxOf? ·)=kv at he
  generalize ((ss.filterMap (mu bm ·)).flatMap fun s=>[s,s+1])=kb at he
  simp only[aS]at he
  refine wpIn_loop_rounds N ?_
  suffices key:∀q σ a w k zs,j3 (fun σ=>aS C l N (.seq (.kill kv) (.seq (.free kb) ia)) σ) q σ=some (out,zs)→ys.drop k=zs++suf→YR P w0 nb Sc J nt vm k [] σ a w→Xd P w0 nb Sc J nt vm (k+zs.length) Q out→Code.roundsIn (wd none) n P x Q q a w from key N σ a w k zs he pQ hc hQ
  intro q
  induction q with
  |zero=>intro σ a w k zs he;simp[j3]at he
  |succ q ihn=>
   intro σ a w k zs he pQ hc hQ
   rw[roundsIn_succ]
   simp only[j3]at he
   rw[N9]at he
   cases Ba:cB kb {σ with vars:=ef kv σ.vars}with
   |none=>rw[Ba]at he;simp at he
   |some az=>
    rw[Ba]at he
    simp only[Option.bind_some]at he
    have nw:=(hc.kill (vs:=kv)).free Ba
    split at he
    ·rename_i fB z1 h2
     obtain⟨⟨o2,z2⟩,lx,he⟩:=Option.map_eq_some_iff.1 he
     simp only[Prod.mk.injEq]at he
     obtain⟨rfl,rfl⟩:=he
     refine ih x fu h2 (suf:=z2++suf) (by rw[pQ,List.append_assoc]) nw fun a' w' rP=> ?_
     refine ihn fB a' w' (k+z1.length) z2 lx (by rw[←List.drop_drop,pQ];simp) rP ?_
     rw[Nat.add_assoc,←List.length_append]
     exact hQ
    ·rename_i hne
     refine ih x fu he pQ nw ?_
     cases out with
     |norm fB=>exact absurd he (hne fB zs)
     |exit id az=>
      intro a w hc
      have:=hQ a w hc
      unfold gr at this⊢
      split<;>simp_all [Exit.then]
     |ret az=>exact fun a w hc=>hQ a w hc
 |scope x=>
  simp only[bz]at hl
  split at hl
  ·simp only[Option.bind_eq_bind]at hl
   obtain⟨⟨ia,h1⟩,fu,hl⟩:=Option.bind_eq_some_iff.1 hl
   simp only[Option.some.injEq,Prod.mk.injEq]at hl
   obtain⟨rfl,rfl⟩:=hl
   simp only[aS]at he
   split at he
   ·rename_i j az z1 h1
    split at he<;>try(cases he;done)
    rename_i hj
    simp only[Option.some.injEq,Prod.mk.injEq]at he
    obtain⟨rfl,rfl⟩:=he
    refine lN (ih x fu h1 pQ hc fun a w hc=> ?_)
    have:=hQ a w hc
    simp only[gr,hj,if_true]at this⊢
    exact this
   ·rename_i hne
    refine lN (ih x fu he pQ hc ?_)
    cases out with
    |norm az=>exact fun a w hc=>hQ a w hc
    |ret az=>exact fun a w hc=>hQ a w hc
    |exit id az=>exact absurd he (hne id az zs)
  ·split at hl<;>try(cases hl;done)
   simp only[Option.bind_eq_bind]at hl
   obtain⟨⟨ia,h1⟩,fu,hl⟩:=Option.bind_eq_some_iff.1 hl
   obtain⟨⟨ib,h2⟩,mX,hl⟩:=Option.bind_eq_some_iff.1 hl
   simp only[Option.some.injEq,Prod.mk.injEq]at hl
   obtain⟨rfl,rfl⟩:=hl
   simp[aS]at he
 |rangeFunc g ps x y=>
  simp only[bz,Option.bind_eq_bind]at hl
  obtain⟨d,hd,hl⟩:=Option.bind_eq_some_iff.1 hl
  obtain⟨is,wa,hl⟩:=Option.bind_eq_some_iff.1 hl
  split at hl<;>try(cases hl;done)
  obtain⟨⟨ia,h1⟩,fu,hl⟩:=Option.bind_eq_some_iff.1 hl
  obtain⟨⟨ib,h2⟩,mX,hl⟩:=Option.bind_eq_some_iff.1 hl
  simp only[Option.some.injEq,Prod.mk.injEq]at hl
  obtain⟨rfl,rfl⟩:=hl
  simp[aS]at he
 |refuse _=>simp[bz]at hl
end
end Go.Vi
end
section
namespace Go.Vi
open Go Go.RowKit
section
variable{P:Program}{vm bm:List Nat}
theorem En(w:World)(S:Nat→Nat→Prop)(hS:∀b o,S b o→b< w.heap.size)(m:Nat):Inv P ⟨w,fun b=>b< w.heap.size,m,bj,w.heap.size⟩ S S bj cz (List.replicate m none) w:=by
 refine⟨⟨rfl,rfl,rfl,Nat.le_refl _,fun _ h=>h,fun _ _=>rfl,cg.refl _⟩,hS,fun s b hb=>by simp[bj]at hb,fun s cs hs=> ?_,fun s s' b hb=>by simp[bj]at hb,fun k x e hk=>by simp[cz]at hk,fun k k' x x' e e' hk=>by simp[cz]at hk,
  fun b o h=> .inl h,fun _ _ h=>h,fun _ _ _ _ _ h=>h,fun s b _ h=>by simp[bj]at h⟩
 simp only[List.getElem?_replicate]at hs
 split at hs<;>cases hs
theorem Oa{C:FuncId→List T→Option T}(hC:∀f args r,C f args=some r→Sound P f args r){io:FuncId→Nat}{bE:List Nat→Array Oper→List (Option (Nat×Bool)×IOp)→Bool}(hD:mE P bE){N f:Nat}{fn:Func}{fF:aD}{h:Hints}{canon:List CM}{split:Bool}{caps:List T}{ys:List (List T)}
  (hf:P.funcs[f]? =some fn) (hn:(fn.name== "runtime.NumGoroutine")=false) (hl:lower P io bE vm bm h canon split fn=some fF) (Wc:rz C N 0 fF caps=some ys):G3 P f caps ys:=by
 have iZ:jr P f=true:=by
  unfold lower at hl
  simp only at hl
  split at hl<;>try(cases hl;done)
  rename_i c hb
  simp[jr,hf,hb,hn]
 refine⟨iZ,fun l w S vs hS NO gU J hstep Ob hJ0 n=> ?_⟩
 have hr:=T7 Wc l
 unfold rz at hr
 split at hr<;>try(cases hr;done)
 rename_i amr
 obtain⟨hlen,_,age⟩:=amr
 unfold lower at hl
 simp only at hl
 split at hl<;>try(cases hl;done)
 rename_i c hb
 split at hl<;>try(cases hl;done)
 rename_i fA
 obtain⟨D5,hbm,n9,gZ⟩:=fA
 simp only[Option.bind_eq_bind]at hl
 obtain⟨⟨ic,h'⟩,vU,hl⟩:=Option.bind_eq_some_iff.1 hl
 obtain⟨Gk,aba,hl⟩:=Option.bind_eq_some_iff.1 hl
 simp only[Option.some.injEq]at hl
 subst hl
 simp only at hlen hr age
 have aiy:Gk=[]:=by simpa using age
 subst aiy
 generalize hp:fn.params.size+fn.nfree=p at n9 hlen hr
 have aml:p≤vm.length:=by
  have:=congrArg List.length n9
  simp only[List.length_take,List.length_range]at this
  omega
 have NS:∀i,i< p→vm[i]? =some i:=by
  intro i hi
  have:(vm.take p)[i]? =some i:=by rw[n9];simp[hi]
  rw[List.getElem?_take]at this
  simpa [hi]using this
 have Db:p≤fn.ntmps:=by
  by_cases h0:p=0
  ·omega
  ·have:=NS (p-1) (by omega)
   have hm:=List.mem_of_getElem? this
   simp only[List.all_eq_true,decide_eq_true_eq]at gZ
   have:=gZ _ hm
   omega
 have hI:=En (P:=P) w S hS (2*bm.length)
 have ama:(#[Value.func (.yield l) #[] #[]]++vs).size=p:=by simp;omega
 have hY0:YR P w (2*bm.length) S J fn.ntmps vm 0 [] ⟨[],yT l::caps++List.replicate (vm.length-p) .undef,List.replicate (2*bm.length) none⟩
   {tmps:=(#[Value.func (.yield l) #[] #[]]++vs)++Array.replicate (fn.ntmps-(#[Value.func (.yield l) #[] #[]]++vs).size) undef,defers:=[]} w:=by
  refine⟨_,fun _=>False,S,bj,cz,⟨hI,⟨[],by simp,rfl,by simp⟩,by simp;omega,by simp;omega,rfl,fun i s u hi _ hu=> ?_,fun j s u hj=>by simp at hj,fun j j' s hj=>by simp at hj⟩,rfl,rfl,fun b=>by simp,fun b hb=>hb.elim,Nat.le_refl _,hJ0⟩
  rw[List.getElem?_append]at hu
  split at hu
  ·rename_i hlt
   simp only[List.length_cons]at hlt
   have:=NS i (by omega)
   rw[this]at hi
   simp only[Option.some.injEq]at hi
   subst hi
   have jb:i< (#[Value.func (.yield l) #[] #[]]++vs).size:=by omega
   simp only[Array.getD_eq_getD_getElem?]
   rw[Array.getElem?_append_left jb]
   cases i with
   |zero=>
    simp only[List.getElem?_cons_zero,Option.some.injEq]at hu
    subst hu
    rw[Array.getElem?_append_left (by simp)]
    exact .v ..
   |succ i=>
    simp only[List.getElem?_cons_succ]at hu
    rw[Array.getElem?_append_right (by simp)]
    simp only[List.size_toArray,List.length_cons,List.length_nil,Nat.zero_add,Nat.add_sub_cancel]
    have hiv:i< vs.size:=by omega
    refine gU i _ u ?_ hu
    simp[hiv]
  ·rw[List.getElem?_replicate]at hu
   split at hu
   ·simp only[Option.some.injEq]at hu;subst hu;exact .undef ..
   ·cases hu
 have hy:T8 P w l S J ys:=⟨hS,hstep,Ob⟩
 refine callsIn_of_wp_marks (F:=wd none) hf hb trivial ?_
 have fin:∀(σ:St) a' w',YR P w (2*bm.length) S J fn.ntmps vm (0+ys.length) [] σ a' w'→LeavesInM (wd none) n P fn a'.tmps (fun e w'=>(∃v,e= .returned v)∧∃own,(∀b,own b→w.heap.size≤b∧b< w'.heap.size)∧J ys.length own w') a'.defers .returning w':=by
  rintro σ a' w' ⟨Wb,own,S',β',φ',hR,Ll,Hc,hX,jV,hsz,hJ⟩
  obtain⟨hJn,hon⟩:=YR.now hy hR hX jV hsz hJ
  rw[Ll]
  rw[Nat.zero_add]at hJn
  have uW:c9 σ [] canon=some (.an []):=by cases canon<;>simp[c9,gh]
  obtain⟨x,hx,cj⟩:=De (a:=a') (σ:=σ) hR.inv (fun i s u h1 h2=>hR.vars i s u h1 (by simp) h2) aba uW
  simp only[LeavesInM,LeavesIn]
  exact⟨x,hx,⟨x,rfl⟩,uv Wb own w',hon,hJn⟩
 split at hr<;>try(cases hr;done)
 ·rename_i σ KY he
  simp only[Option.some.injEq]at hr
  subst hr
  exact Gv hC hD N (Nat.le_refl _) hy 400 c vU he (suf:=[]) (by simp) hY0 fun a' w' hc=>fin σ a' w' hc
 ·rename_i σ KY he
  simp only[Option.some.injEq]at hr
  subst hr
  exact Gv hC hD N (Nat.le_refl _) hy 400 c vU he (suf:=[]) (by simp) hY0 fun a' w' hc=>fin σ a' w' hc
end
end Go.Vi
end
section
namespace Go.Vi
open Go Go.RowKit
section
variable{P:Program}{W:dg}{w:World}{S0 S:Nat→Nat→Prop}{β:aY}{φ:bw}{a:Act}{o:Oper}{σ:St}{nt:Nat}{vm bm:List Nat}
theorem Gw{C:FuncId→List T→Option T}(hC:∀f args r,C f args=some r→Sound P f args r){io:FuncId→Nat}{bE:List Nat→Array Oper→List (Option (Nat×Bool)×IOp)→Bool}(hD:mE P bE){N f:Nat}{fn:Func}{fF:aD}{h:Hints}{canon:List CM}{split:Bool}{args:List T}{r:T}
  (hf:P.funcs[f]? =some fn) (hn:(fn.name== "runtime.NumGoroutine")=false) (hl:lower P io bE vm bm h canon split fn=some fF) (hr:sm C N fF args=some r):A4 P f args r:=by
 simp only[sm]at hr
 split at hr<;>try(cases hr;done)
 rename_i hlen
 obtain⟨σ,hex,hr⟩:∃σ,(exec C N fF.body ⟨[],args++List.replicate (fF.jZ-fF.nparams) .undef,List.replicate (2*fF.ez) none⟩=some (.norm σ)∨exec C N fF.body ⟨[],args++List.replicate (fF.jZ-fF.nparams) .undef,List.replicate (2*fF.ez) none⟩=some (.ret σ))∧
   (c9 σ fF.results fF.canon).bind (j2 σ.boxes)=some r:=by
  split at hr<;>try(cases hr;done)
  ·rename_i σ he;exact⟨σ,.inl he,hr⟩
  ·rename_i σ he;exact⟨σ,.inr he,hr⟩
 obtain⟨t,ht,hr⟩:=Option.bind_eq_some_iff.1 hr
 obtain⟨di,iZ,_⟩:=xy (W:=⟨default,fun _=>False,0,bj,0⟩) (w:=default) (S:=fun _ _=>False) (β:=bj) (φ:=cz) (σ:=σ) hC hD (N:=N) hf hn hl
 refine⟨iZ,fun w S vs hS NO gU=> ?_⟩
 obtain⟨_,_,hb⟩:=xy (W:=⟨w,fun b=>b< w.heap.size,2*fF.ez,bj,w.heap.size⟩) (w:=w) (S:=S) (β:=bj) (φ:=cz) (σ:=σ) hC hD (N:=N) hf hn hl
 refine(hb (args:=args) hlen (En w S hS _) rfl rfl (by rw[di];exact Nat.le_refl _) NO gU hex ht).mono fun e w' ⟨x,S',β',φ',he,hI,cj⟩=> ?_
 exact⟨x,he,⟨hI.below.os,hI.below.tape,hI.below.output,hI.below.size,hI.below.block⟩,NQ hI cj hr⟩
theorem xB{nb K:Nat}{own:List Nat}{s l:Nat}:fb nb K own s=some l↔me nb K own l=some s:=by
 constructor
 ·intro h
  have h0:=h
  unfold fb at h
  have key:(if l< 2*K then some (l+nb)else fw own (l-2*K))=some s:=by
   split at h
   ·obtain⟨i,hi,rfl⟩:=Option.map_eq_some_iff.1 h
    have h1:=fq hi
    rw[if_neg (by omega)]
    have e1:(2*(K+i)+s%2-2*K) / 2=i:=by omega
    have e2:(2*(K+i)+s%2-2*K)%2=s%2:=by omega
    simp[fw,e1,e2,h1]
   ·split at h
    ·simp only[Option.some.injEq]at h
     subst h
     rw[if_pos (by omega)]
     congr 1
     omega
    ·cases h
  simp[me,key,h0]
 ·intro h
  unfold me at h
  obtain⟨s',_,h⟩:=Option.bind_eq_some_iff.1 h
  split at h
  ·simp only[Option.some.injEq]at h;subst h;assumption
  ·cases h
theorem Mv{nb K:Nat}{own:List Nat}{s l:Nat}(di:nb%2=0)(h:fb nb K own s=some l):l%2=s%2:=by
 unfold fb at h
 split at h
 ·obtain⟨i,_,rfl⟩:=Option.map_eq_some_iff.1 h
  omega
 ·split at h
  ·simp only[Option.some.injEq]at h;omega
  ·cases h
theorem Xe{nb K:Nat}{own:List Nat}{s l:Nat}(h:fb nb K own s=some l):l< 2*(K+own.length):=by
 unfold fb at h
 split at h
 ·obtain⟨i,hi,rfl⟩:=Option.map_eq_some_iff.1 h
  have:=(List.getElem?_eq_some_iff.1 (fq hi)).1
  omega
 ·split at h
  ·simp only[Option.some.injEq]at h;omega
  ·cases h
def Eo(fs:List Nat)(i:Nat):Option Nat:=(fs[i]?).bind fun k=>if fs.idxOf? k=some i then some k else none
theorem T9{fs:List Nat}{k i:Nat}:fs.idxOf? k=some i↔Eo fs i=some k:=by
 constructor
 ·intro h
  simp[Eo,fq h,h]
 ·intro h
  unfold Eo at h
  obtain⟨k',_,h⟩:=Option.bind_eq_some_iff.1 h
  split at h
  ·simp only[Option.some.injEq]at h;subst h;assumption
  ·cases h
theorem JT{bx:List (Option (List T))}{w':World}{nb K:Nat}{t:T}{x:Value}(hI:Inv P W S0 S β φ bx w')(di:nb%2=0)(hx:ak S w' β φ x t):
  ∃r outs,fJ nb K bx t= .an [r,.an outs]∧∃β' φ',Core P W.X S β' φ' (outs.map er) w'∧ak S w' β' φ' x r∧∀l,l< 2*K→β' l=β (l+nb)∧(bx[l+nb]? =some none→(outs.map er)[l]? =some none):=by
 unfold fJ
 generalize (t.fa++(vr nb K++tJ nb K bx t).flatMap fun s=>gQ ((aj bx s).getD []))=fs
 generalize tJ nb K bx t=own
 unfold nT
 refine⟨_,_,rfl,fun l=>(me nb K own l).bind β,fun k=>(Eo fs k).bind φ, ?_⟩
 have eW:∀l:Nat,(((List.range (2*(K+own.length))).map fun l=>zQ ((me nb K own l).bind fun s=>if s< nb then some (ai (fb nb K own) (fun k=>fs.idxOf? k) ((aj bx s).getD []))else(aj bx s).map (ai (fb nb K own) (fun k=>fs.idxOf? k)))).map er)[l]? =
   if l< 2*(K+own.length)then some ((me nb K own l).bind fun s=>if s< nb then some (ai (fb nb K own) (fun k=>fs.idxOf? k) ((aj bx s).getD []))else(aj bx s).map (ai (fb nb K own) (fun k=>fs.idxOf? k)))else none:=fun l=>by
  rw[List.map_map,List.getElem?_map]
  by_cases hlt:l< 2*(K+own.length)
  ·rw[List.getElem?_range hlt,if_pos hlt]
   simp[K0]
  ·rw[List.getElem?_eq_none (by simpa using hlt),if_neg hlt]
   rfl
 obtain⟨h1,h2⟩:=hI.core.relabel (X':=W.X) (bx':=(((List.range (2*(K+own.length))).map fun l=>zQ ((me nb K own l).bind fun s=>if s< nb then some (ai (fb nb K own) (fun k=>fs.idxOf? k) ((aj bx s).getD []))else(aj bx s).map (ai (fb nb K own) (fun k=>fs.idxOf? k)))).map er))
  (ρ:=fb nb K own) (ρi:=me nb K own) (η:=fun k=>fs.idxOf? k) (ηi:=Eo fs) (fun s l=>xB) (fun k k'=>T9) (fun s l h=>Mv di h)
  (fun s l cs h1 h2=>by
   rw[eW,if_pos (Xe h1),xB.1 h1]
   simp only[Option.bind_some,eX.2 h2,Option.getD_some,Option.map_some]
   split<;>rfl)
  (fun l bW h=>by
   rw[eW]at h
   split at h<;>try(cases h;done)
   simp only[Option.some.injEq]at h
   obtain⟨s,hs,h⟩:=Option.bind_eq_some_iff.1 h
   have fY:=xB.2 hs
   split at h
   ·simp only[Option.some.injEq]at h
    cases hb:aj bx s with
    |none=>rw[hb]at h;exact .inl h.symm
    |some cs=>rw[hb]at h;exact .inr ⟨s,cs,fY,eX.1 hb,h.symm⟩
   ·obtain⟨cs,aG,rfl⟩:=Option.map_eq_some_iff.1 h
    exact .inr ⟨s,cs,fY,eX.1 aG,rfl⟩)
  (fun b hb=> .inl hb)
 refine⟨h1,h2 x t hx,fun l hl=> ?_⟩
 have hu:me nb K own l=some (l+nb):=xB.1 (by
  unfold fb
  rw[if_neg (by omega),if_pos (by omega)]
  congr 1
  omega)
 refine⟨by simp[hu],fun hb=> ?_⟩
 rw[eW,if_pos (by omega),hu]
 have eZ:aj bx (l+nb)=none:=by unfold aj;rw[hb];rfl
 simp[eZ]
theorem Ak{C:FuncId→List T→Option T}(hC:∀f args r,C f args=some r→Sound P f args r){io:FuncId→Nat}{bE:List Nat→Array Oper→List (Option (Nat×Bool)×IOp)→Bool}(hD:mE P bE){N f:Nat}{fn:Func}{fF:aD}{h:Hints}{canon:List CM}{split:Bool}{args:List T}{ins:List (Option (List T))}{r0:T}
  (hf:P.funcs[f]? =some fn) (hn:(fn.name== "runtime.NumGoroutine")=false) (hl:lower P io bE vm bm h canon split fn=some fF) (hr:na C N fF args ins=some r0):∃r outs,r0= .an [r,.an outs]∧xS P f args ins r (outs.map er):=by
 simp only[na]at hr
 split at hr<;>try(cases hr;done)
 rename_i fA
 obtain⟨hlen,Oc⟩:=fA
 generalize di:2*fF.ez=nb at hr
 generalize ga:args.map (T.al (fun l=>some (l+nb)) some)=xC at hr
 generalize nL:List.replicate nb none++ins.map (Option.map (ai (fun l=>some (l+nb)) some))=bx at hr
 obtain⟨σ,hex,hr⟩:∃σ,(exec C N fF.body ⟨[],xC++List.replicate (fF.jZ-fF.nparams) .undef,bx⟩=some (.norm σ)∨exec C N fF.body ⟨[],xC++List.replicate (fF.jZ-fF.nparams) .undef,bx⟩=some (.ret σ))∧
   (c9 σ fF.results fF.canon).map (fJ nb (ins.length / 2) σ.boxes)=some r0:=by
  split at hr<;>try(cases hr;done)
  ·rename_i σ he;exact⟨σ,.inl he,hr⟩
  ·rename_i σ he;exact⟨σ,.inr he,hr⟩
 obtain⟨t,ht,rfl⟩:=Option.map_eq_some_iff.1 hr
 obtain⟨ams,iZ,_⟩:=xy (W:=⟨default,fun _=>False,0,bj,0⟩) (w:=default) (S:=fun _ _=>False) (β:=bj) (φ:=cz) (σ:=σ) hC hD (N:=N) hf hn hl
 obtain⟨r,outs,agf⟩:∃r outs,fJ nb (ins.length / 2) σ.boxes t= .an [r,.an outs]:=⟨_,_,rfl⟩
 refine⟨r,outs,agf,iZ,fun B S β φ vs hI NO gU=> ?_⟩
 let ρi:Nat→Option Nat:=fun s=>if nb≤s then some (s-nb)else none
 have TS:nb%2=0:=by omega
 obtain⟨j8,hrel⟩:=hI.core.relabel (X':=B.X) (bx':=bx) (ρ:=fun l=>some (l+nb)) (ρi:=ρi) (η:=some) (ηi:=some)
  (fun l s=>by
   simp only[ρi,Option.some.injEq]
   constructor
   ·intro h;subst h;rw[if_pos (by omega)];congr 1;omega
   ·intro h;split at h
    ·simp only[Option.some.injEq]at h;omega
    ·cases h)
  (fun k k'=>by simp[eq_comm]) (fun l s h=>by simp only[Option.some.injEq]at h;omega)
  (fun l s cs h1 h2=>by
   simp only[Option.some.injEq]at h1
   subst h1
   rw[←nL,List.getElem?_append_right (by simp),List.length_replicate,Nat.add_sub_cancel,List.getElem?_map,h2]
   rfl)
  (fun s bW h=>by
   rw[←nL,List.getElem?_append]at h
   split at h
   ·rw[List.getElem?_replicate]at h
    split at h<;>cases h
   ·rename_i F6
    rw[List.length_replicate,List.getElem?_map]at h
    rw[List.length_replicate]at F6
    obtain⟨o,ho,h⟩:=Option.map_eq_some_iff.1 h
    obtain⟨cs,rfl,rfl⟩:=Option.map_eq_some_iff.1 h
    exact .inr ⟨s-nb,cs,by congr 1;omega,ho,rfl⟩)
  (fun b hb=> .inl hb)
 let W:dg:=⟨B.w,B.X,nb,fun s=>(ρi s).bind β,B.w.heap.size⟩
 have H3:Inv P W S S (fun s=>(ρi s).bind β) (fun k=>(some k).bind φ) bx B.w:=
  ⟨⟨rfl,rfl,rfl,Nat.le_refl _,hI.below.lt,fun _ _=>rfl,cg.refl _⟩,j8.lt,j8.box,j8.boxed,j8.inj,j8.fX,j8.dK,fun b o h=> .inl h,fun _ _ h=>h,fun _ _ _ _ _ h=>h,fun s b _ h=> .inl h⟩
 obtain⟨_,_,hb⟩:=xy (W:=W) (w:=B.w) (S:=S) (β:=fun s=>(ρi s).bind β) (φ:=fun k=>(some k).bind φ) (σ:=σ) hC hD (N:=N) hf hn hl
 refine(hb (args:=xC) (vs:=vs) (by rw[←ga];simpa using hlen) H3 rfl rfl (by show 2*bm.length≤nb;rw[←ams,di];exact Nat.le_refl _) (by rw[←ga];simpa using NO) (fun i x t hx ht=> ?_) hex ht).mono fun e w' ⟨x,S',β',φ',he,xm,cj⟩=> ?_
 ·rw[←ga,List.getElem?_map]at ht
  obtain⟨u,hu,rfl⟩:=Option.map_eq_some_iff.1 ht
  exact hrel _ _ (gU i x u hx hu)
 ·obtain⟨r',acG,h1,xk,oK,h2,h3,h4⟩:=JT (K:=ins.length / 2) xm TS cj
  rw[agf]at h1
  simp only[T.an.injEq,List.cons.injEq,and_true]at h1
  obtain⟨rfl,rfl⟩:=h1
  refine⟨x,S',xk,oK,he,⟨⟨xm.below.os,xm.below.tape,xm.below.output,xm.below.size,xm.below.lt,xm.below.block,xm.below.room⟩,h2.lt,h2.box,h2.boxed,h2.inj,h2.fX,h2.dK,xm.top,xm.base,xm.stay,fun s b _ h=>by simp[bj]at h⟩,h3,fun l b D2=> ?_⟩
  obtain⟨_,_,cs,aG,_⟩:=hI.box l b D2
  have hlt:=(List.getElem?_eq_some_iff.1 aG).1
  obtain⟨g1,g2⟩:=h4 l (by omega)
  have rb:W.β0 (l+nb)=some b:=by
   show(ρi (l+nb)).bind β=some b
   simp only[ρi,show nb≤l+nb by omega,if_true,Nat.add_sub_cancel,Option.bind_some]
   exact D2
  rcases xm.pJ (l+nb) b (by show nb≤l+nb;omega) rb with h|h
  ·exact .inl (by rw[g1];exact h)
  ·exact .inr (g2 h)
theorem ad6:∀(t u:T),t.same u=true→t=u:=by
 intro t
 induction t using T.rec (motive_2:=fun ts=>∀us,BH ts us=true→ts=us)with
 |undef=>intro u h;cases u<;>simp[T.same]at h;rfl
 |v x=>intro u h;cases u<;>simp[T.same]at h
 |sl g n cs ih=>
  intro u h
  cases u<;>try(cases cs<;>simp[T.same]at h;done)
  rename_i g' n' bW
  cases cs<;>cases bW<;>simp[T.same]at h
  obtain⟨rfl,rfl⟩:=h
  rfl
 |ptr=>intro u h;cases u<;>simp[T.same]at h
 |ref=>intro u h;cases u<;>simp[T.same]at h;obtain⟨rfl,rfl⟩:=h;rfl
 |av=>intro u h;cases u<;>simp[T.same]at h;obtain⟨⟨⟨rfl,rfl⟩,rfl⟩,rfl⟩:=h;rfl
 |aQ=>intro u h;cases u<;>simp[T.same]at h;subst h;rfl
 |agg ts ih=>intro u h;cases u<;>simp only[T.same]at h<;>first|(rw[ih _ h])|cases h
 |an ts ih=>intro u h;cases u<;>simp only[T.same]at h<;>first|(rw[ih _ h])|cases h
 |bB=>intro u h;cases u<;>simp[T.same]at h
 |nil=>rename_i us h;cases us<;>simp[BH]at h;rfl
 |cons t ts ih1 ih2=>
  rename_i us h
  cases us with
  |nil=>simp[BH]at h
  |cons u us=>simp only[BH,Bool.and_eq_true]at h;rw[ih1 _ h.1,ih2 _ h.2]
theorem abm{S:Nat→Nat→Prop}{w:World}{β:aY}{φ:bw}{v:Value}(h:ak S w β φ v (.sl .any 0 [])):ak S w β φ v (.sl .nil 0 [])∨ak S w β φ v (.sl .lP 0 []):=by
 generalize hq:T.sl .any 0 []=q at h
 cases h with
 |nil _ _ g hg=>exact .inl (.nil _ _ _ rfl)
 |sl _ _ g ad n c cs f cF hg aG cj=>
  cases hq
  exact .inr (.sl _ _ _ ad _ c [] f cF (.inl (.inl rfl)) (fun i hi=>by simp at hi) (fun i t ht=>by simp at ht))
 |_=>cases hq
theorem yN{S:Nat→Nat→Prop}{w:World}{β:aY}{φ:bw}:∀(args:List T) (vs:List Value),vs.length=args.length→(∀(i:Nat) (x:Value) (t:T),vs[i]? =some x→args[i]? =some t→ak S w β φ x t)→
  ∃xC∈splits args,xC.length=args.length∧∀(i:Nat) (x:Value) (t:T),vs[i]? =some x→xC[i]? =some t→ak S w β φ x t
 | [],vs,_,_=>⟨[],by simp[splits],rfl,fun i x t _ h=>by simp at h⟩
 |t::ts,[],hl,_=>by simp at hl
 |t::ts,v::vs,hl,hr=>by
  obtain⟨as,h1,h2,h3⟩:=yN ts vs (by simpa using hl) fun i x t hx ht=>hr (i+1) x t (by simpa using hx) (by simpa using ht)
  have h0:=hr 0 v t rfl rfl
  have fin:∀u,u::as∈splits (t::ts)→ak S w β φ v u→∃xC∈splits (t::ts),xC.length=(t::ts).length∧∀(i:Nat) (x:Value) (t:T),(v::vs)[i]? =some x→xC[i]? =some t→ak S w β φ x t:=fun u hm hu=>
   ⟨u::as,hm,by simp[h2],fun i x t hx ht=>by
    cases i with
    |zero=>simp at hx ht;subst hx ht;exact hu
    |succ i=>simp at hx ht;exact h3 i x t hx ht⟩
  by_cases hs:t= .sl .any 0 []
  ·subst hs
   rcases abm h0 with h'|h'
   ·exact fin (.sl .nil 0 []) (by simp[splits,h1]) h'
   ·exact fin (.sl .lP 0 []) (by simp[splits,h1]) h'
  ·refine fin t ?_ h0
   have:splits (t::ts)=(splits ts).map (t::·):=by
    conv=>lhs;unfold splits
    split
    ·rename_i h;cases h
    ·rename_i h;simp only[List.cons.injEq]at h;exact absurd h.1 hs
    ·rename_i h;simp only[List.cons.injEq]at h;obtain⟨rfl,rfl⟩:=h;rfl
   rw[this]
   exact List.mem_map.2 ⟨as,h1,rfl⟩
theorem Dl{split:Bool}{args:List T}{F:List T→Option T}{r:T}(h:iT split args F=some r):(split=false∧F args=some r)∨∀as∈splits args,F as=some r:=by
 unfold iT at h
 split at h
 ·right
  intro as has
  split at h<;>try(cases h;done)
  rename_i r0 rs hm
  split at h<;>try(cases h;done)
  rename_i gZ
  simp only[Option.some.injEq]at h
  subst h
  obtain⟨i,hi⟩:=List.mem_iff_getElem?.1 has
  obtain⟨hlen,hsp⟩:=dp hm
  have hlt:=(List.getElem?_eq_some_iff.1 hi).1
  have agh:i< (r0::rs).length:=by omega
  have:=hsp i _ ((r0::rs)[i]) hi (by simp[agh])
  rw[this]
  rw[List.all_eq_true]at gZ
  cases i with
  |zero=>rfl
  |succ i=>
   simp only[List.getElem_cons_succ]
   have:=ad6 _ _ (gZ (rs[i]'(by simpa using agh)) (List.getElem_mem _))
   rw[←this]
 ·rename_i hs
  exact .inl ⟨by simpa using hs,h⟩
structure Ua(P:Program)(E:Env):Prop where
 fn:∀f fF,E.fn f=some fF→∃(io:FuncId→Nat) (bE:List Nat→Array Oper→List (Option (Nat×Bool)×IOp)→Bool) (vm bm:List Nat) (h:Hints) (canon:List CM) (split:Bool) (fn:Func),mE P bE∧P.funcs[f]? =some fn∧(fn.name== "runtime.NumGoroutine")=false∧lower P io bE vm bm h canon split fn=some fF
 kJ:∀f g args r,E.kJ f=some g→g args=some r→Sound P f args r
theorem A4.split{f:FuncId}{args:List T}{r:T}(h:∀as∈splits args,A4 P f as r):A4 P f args r:=by
 have hne:∃as,as∈splits args:=by
  have:∀l:List T,∃as,as∈splits l:=by
   intro l
   induction l with
   |nil=>exact⟨[],by simp[splits]⟩
   |cons t ts ih=>
    obtain⟨as,has⟩:=ih
    unfold splits
    split
    ·exact⟨[],by simp⟩
    ·rename_i h;simp only[List.cons.injEq]at h;obtain⟨_,rfl⟩:=h;exact⟨.sl .nil 0 []::as,by simp[has]⟩
    ·rename_i h;simp only[List.cons.injEq]at h;obtain⟨rfl,rfl⟩:=h;exact⟨t::as,by simp[has]⟩
  exact this args
 obtain⟨as0,abn⟩:=hne
 refine⟨(h as0 abn).1,fun w S vs hS hl gU=> ?_⟩
 obtain⟨as,has,hlen,hr⟩:=yN (S:=S) (w:=w) (β:=bj) (φ:=cz) args vs.toList (by simpa using hl) (fun i x t hx ht=>gU i x t (by simpa using hx) ht)
 exact(h as has).2 w S vs hS (by omega) fun i x t hx ht=>hr i x t (by simpa using hx) ht
theorem xS.split{f:FuncId}{args:List T}{ins outs:List (Option (List T))}{r:T}(hc:jr P f=true)(h:∀as∈splits args,xS P f as ins r outs):xS P f args ins r outs:=by
 refine⟨hc,fun B S β φ vs hI hl gU=> ?_⟩
 obtain⟨as,has,hlen,hr⟩:=yN (S:=S) (w:=B.w) (β:=β) (φ:=φ) args vs.toList (by simpa using hl) (fun i x t hx ht=>gU i x t (by simpa using hx) ht)
 exact(h as has).2 B S β φ vs hI (by omega) fun i x t hx ht=>hr i x t (by simpa using hx) ht
theorem jI{E:Env}(hE:Ua P E):∀(n:Nat) (f:FuncId) (args:List T) (r:T),aW E n f args=some r→Sound P f args r
 |0,f,args,r,h=>by simp[aW]at h
 |n+1,f,args,r,h=>by
  simp only[aW]at h
  split at h
  ·rename_i g hg
   exact hE.kJ f g args r hg h
  ·split at h
   ·rename_i hlt
    unfold Sound
    rw[if_pos hlt]
    split at h<;>try(cases h;done)
    rename_i fn pL
    obtain⟨io,bE,vm,bm,hh,cn,sp,fn',hD,hf,hn,hl⟩:=hE.fn f fn pL
    rcases Dl h with⟨_,h⟩|h
    ·exact Gw (jI hE n) hD hf hn hl h
    ·exact A4.split fun as has=>Gw (jI hE n) hD hf hn hl (h as has)
   ·rename_i hlt
    unfold Sound
    rw[if_neg hlt]
    split at h<;>try(cases h;done)
    ·rename_i fn as ins pL
     obtain⟨io,bE,vm,bm,hh,cn,sp,fn',hD,hf,hn,hl⟩:=hE.fn _ fn pL
     rcases Dl h with⟨_,h⟩|h
     ·obtain⟨r',outs,rfl,hs⟩:=Ak (jI hE n) hD hf hn hl h
      exact .inl ⟨as,ins,r',outs,rfl,rfl,hs⟩
     ·have hne:∃A7,A7∈splits as:=by
       have:∀l:List T,∃as,as∈splits l:=by
        intro l
        induction l with
        |nil=>exact⟨[],by simp[splits]⟩
        |cons t ts ih=>
         obtain⟨as,has⟩:=ih
         unfold splits
         split
         ·exact⟨[],by simp⟩
         ·rename_i h;simp only[List.cons.injEq]at h;obtain⟨_,rfl⟩:=h;exact⟨.sl .nil 0 []::as,by simp[has]⟩
         ·rename_i h;simp only[List.cons.injEq]at h;obtain⟨rfl,rfl⟩:=h;exact⟨t::as,by simp[has]⟩
       exact this as
      obtain⟨as0,abn⟩:=hne
      obtain⟨r',outs,rfl,hs⟩:=Ak (jI hE n) hD hf hn hl (h as0 abn)
      refine .inl ⟨as,ins,r',outs,rfl,rfl,xS.split hs.1 fun A7 amt=> ?_⟩
      obtain⟨r2,apZ,e,hs2⟩:=Ak (jI hE n) hD hf hn hl (h A7 amt)
      simp only[T.an.injEq,List.cons.injEq,and_true]at e
      obtain⟨rfl,rfl⟩:=e
      exact hs2
    ·rename_i fn caps pL
     obtain⟨io,bE,vm,bm,hh,cn,sp,fn',hD,hf,hn,hl⟩:=hE.fn _ fn pL
     obtain⟨ys,h1,rfl⟩:=Option.map_eq_some_iff.1 h
     exact .inr ⟨caps,ys,rfl,rfl,Oa (jI hE n) hD hf hn hl h1⟩
end
end Go.Vi
end
section
namespace Go.Vi
open Go Go.RowKit
def T.val:T→Value
 | .v x=>x
 |_=>Go.undef
theorem ad7{t:T}(h:t.Ay=true):t= .v t.val∧t.val.oneCell'=true:=by
 cases t<;>simp only[T.Ay]at h<;>try(cases h;done)
 exact⟨rfl,h⟩
theorem ad8{S:Nat→Nat→Prop}{w:World}{β:aY}{φ:bw}{x:Value}{t:T}(h:ak S w β φ x t)(ht:t.Ay=true):x=t.val:=by
 obtain⟨e,_⟩:=ad7 ht
 rw[e]at h
 exact cy h
section
variable{P:Program}{B:dg}{S:Nat→Nat→Prop}{β:aY}{φ:bw}{bx:List (Option (List T))}
theorem Ub{w:World}{b:Nat}{cs:List T}(h:R6 S w β φ b cs)(hv:cs.all T.Ay=true):
  ∃cur e,w.heap[b]? =some (.cells cur e (0,0))∧cs.length≤cur.size∧(∀j x,j< cs.length→cur[j]? =some x→x.oneCell'=true)∧cur.toList.take cs.length=cs.map T.val:=by
 obtain⟨c,e,h1,h2,h3,h4⟩:=h
 refine⟨c,e,h1,h2,fun j x hj hx=>h3 j x hj hx,List.ext_getElem? fun j=> ?_⟩
 rw[List.getElem?_take,List.getElem?_map]
 split
 ·rename_i hj
  have hc:j< c.size:=by omega
  have e1:c.toList[j]? =some c[j]:=by simp[hc]
  have e2:cs[j]? =some cs[j]:=List.getElem?_eq_getElem hj
  rw[e1,e2,Option.map_some]
  congr 1
  exact ad8 (h4 j _ _ (Array.getElem?_eq_getElem hc) e2) (List.all_eq_true.1 hv _ (List.getElem_mem hj))
 ·rename_i hj
  rw[List.getElem?_eq_none (by omega)];rfl
end
end Go.Vi
end
