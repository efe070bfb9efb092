/-
  A claim's own text, joined by a small program out of: Vj14, Vj14b.
-/
import Derived.Test.YtodollbkpkpklaaGreatX13
import Derived.RangeFuncNested
set_option linter.unusedVariables false
set_option linter.unusedSimpArgs false
section
namespace Go.Vi
open Go Go.RowKit
section
variable{P:Program}{W:dg}{w:World}{S0 S:Nat→Nat→Prop}{β:aY}{φ:bw}{a:Act}{o:Oper}{σ:St}
def Wj(P:Program)(S:Nat→Nat→Prop)(w w':World)(x:Value)(t:T):Prop:=
 ∃(S':Nat→Nat→Prop) (φ:bw),(∀b o,S' b o→S b o∨w.heap.size≤b)∧(∀b o,S' b o→b< w'.heap.size)∧ak S' w' bj φ x t∧
  (∀k x e,φ k=some (x,e)→Ny P (fun b=>b< w.heap.size) S' bj w' x e)∧∀k k' x x' e e',φ k=some (x,e)→φ k'=some (x',e')→k≠k'→x.ownBlock≠x'.ownBlock
def jr(P:Program)(f:FuncId):Bool:=
 match P.funcs[f]? with
 |some fn=>fn.body.isSome&& !(fn.name== "runtime.NumGoroutine")
 |none=>false
def A4(P:Program)(f:FuncId)(args:List T)(r:T):Prop:=
 jr P f=true∧∀(w:World) (S:Nat→Nat→Prop) (vs:Array Value),(∀b o,S b o→b< w.heap.size)→vs.size=args.length→(∀(i:Nat) (x:Value) (t:T),vs[i]? =some x→args[i]? =some t→ak S w bj cz x t)→
  Calls P f vs w fun e w'=>∃x,e= .returned x∧Below w.heap.size w w'∧Wj P S w w' x r
def xS(P:Program)(f:FuncId)(args:List T)(ins:List (Option (List T)))(r:T)(outs:List (Option (List T))):Prop:=
 jr P f=true∧∀(B:dg) (S:Nat→Nat→Prop) (β:aY) (φ:bw) (vs:Array Value),Inv P B S S β φ ins B.w→vs.size=args.length→(∀(i:Nat) (x:Value) (t:T),vs[i]? =some x→args[i]? =some t→ak S B.w β φ x t)→
  Calls P f vs B.w fun e w'=>∃x S' β' φ',e= .returned x∧Inv P {B with nb:=0,β0:=bj} S S' β' φ' outs w'∧ak S' w' β' φ' x r∧∀l b,β l=some b→β' l=some b∨outs[l]? =some none
def wd(r:Option Nat):Fence:={Fence.wide with round:=r}
structure IterStep(own sW:Nat→Prop)(W W':World):Prop where
 os:W'.os=W.os
 tape:W'.tape=W.tape
 output:W'.output=W.output
 size:W.heap.size≤W'.heap.size
 grow:∀b,own b→sW b
 new:∀b,sW b→own b∨(W.heap.size≤b∧b< W'.heap.size)
 block:∀b,b< W.heap.size→¬own b→W'.heap[b]? =W.heap[b]?
 room:cg W W'
structure zq(S:Nat→Nat→Prop)(own:Nat→Prop)(W W':World):Prop where
 os:W'.os=W.os
 tape:W'.tape=W.tape
 output:W'.output=W.output
 size:W.heap.size≤W'.heap.size
 block:∀b,own b→W'.heap[b]? =W.heap[b]?
 room:cg W W'
 cell:∀b o,S b o→∀sp v,W.cell? ⟨b,o,sp⟩=some v→W'.cell? ⟨b,o,sp⟩=some v
def G3(P:Program)(f:FuncId)(caps:List T)(ys:List (List T)):Prop:=
 jr P f=true∧∀(l:Nat) (w:World) (S:Nat→Nat→Prop) (vs:Array Value),(∀b o,S b o→b< w.heap.size)→vs.size=caps.length→(∀(i:Nat) (x:Value) (t:T),vs[i]? =some x→caps[i]? =some t→ak S w bj cz x t)→
  ∀(J:Nat→(Nat→Prop)→World→Prop),(∀k own sW W W',J k own W→(∀b,own b→w.heap.size≤b∧b< W.heap.size)→IterStep own sW W W'→J k sW W')→
  (∀k y own W (xs:Array Value),ys[k]? =some y→J k own W→(∀b,own b→w.heap.size≤b∧b< W.heap.size)→xs.size=y.length→(∀(i:Nat) (x:Value) (t:T),xs[i]? =some x→y[i]? =some t→ak S W bj cz x t)→
   ∀n,YieldAt (wd none) n P l xs W fun e W'=>e= .returned (.bool true)∧J (k+1) own W'∧zq S own W W')→
  J 0 (fun _=>False) w→∀n,CallsIn (wd none) n P f (#[.func (.yield l) #[] #[]]++vs) w fun e W'=>(∃v,e= .returned v)∧∃own,(∀b,own b→w.heap.size≤b∧b< W'.heap.size)∧J ys.length own W'
def Sound(P:Program)(f:FuncId)(args:List T)(r:T):Prop:=
 if f< aq then A4 P f args r
 else(∃as ins r' outs,args=[.an as,.an ins]∧r= .an [r',.an outs]∧xS P (f-aq) as (ins.map er) r' (outs.map er))∨
  ∃caps ys,args=[.an caps]∧r= .an (ys.map .an)∧G3 P (f-aq) caps ys
def fP(S:Nat→Nat→Prop)(β:aY):Nat→Nat→Prop:=fun b o=>S b o∨∃s,β s=some b
theorem mapM_map{α γ:Type}{f:α→Option γ}{xs:List α}{ys:List γ}(h:xs.mapM f=some ys):∀(i:Nat) (y:γ),ys[i]? =some y→∃x,xs[i]? =some x∧f x=some y:=by
 intro i y hy
 obtain⟨h1,h2⟩:=dp h
 have hi:=(List.getElem?_eq_some_iff.1 hy).1
 have uX:i< xs.length:=by omega
 exact⟨xs[i],by simp[uX],h2 i _ y (by simp[uX]) hy⟩
theorem Ae{bx:List (Option (List T))}(hI:Inv P W S0 S β φ bx w):∀(k:Nat) (x:Value) (t u:T),ak S w β φ x t→close bx k t=some u→ak (fP S β) w bj cz x u:=by
 intro k
 induction k with
 |zero=>intro x t u _ h;simp[close]at h
 |succ k ih=>
  intro x t u hr h
  have hS:∀b o,S b o→fP S β b o:=fun b o h=> .inl h
  cases hr with
  |undef=>simp only[close,Option.some.injEq]at h;subst h;exact .undef ..
  |v=>simp only[close,Option.some.injEq]at h;subst h;exact .v ..
  |nil=>simp only[close,Option.some.injEq]at h;subst h;exact .nil _ _ _ rfl
  |sl _ _ g ad n c cs f cF hg aG cj=>
   have yl:∀i,i< cs.length→fP S β ad.block (ad.off+i)∧w.cell? (ad.add i)=some (f i)∧(f i).oneCell'=true:=fun i hi=>⟨hS _ _ (aG i hi).1,(aG i hi).2⟩
   have aim:∀(i:Nat) (t:T),cs[i]? =some t→ak (fP S β) w bj cz (f i) t:=fun i t ht=>(cj i t ht).mono hS (fun _ _=>id) (fun _ _=>id) (fun _ _ _ _ _=>id) (cg.refl _)
   simp only[close,Option.some.injEq]at h
   subst h
   exact .sl _ _ _ ad n c cs f cF (.inl (.inr rfl)) yl aim
  |ptr _ _ ad cs off f aG cj=>
   simp only[close,Option.some.injEq]at h
   subst h
   exact .ptr _ _ ad cs off f (fun i hi=>⟨hS _ _ (aG i hi).1,(aG i hi).2⟩) fun i t ht=>(cj i t ht).mono hS (fun _ _=>id) (fun _ _=>id) (fun _ _ _ _ _=>id) (cg.refl _)
  |aQ=>simp only[close,Option.some.injEq]at h;subst h;exact .undef ..
  |gX _ _ ad s off m=>
   simp only[close,if_true,Option.some.injEq]at h
   subst h
   cases ad with
   |none=>exact .nil _ _ _ rfl
   |some ad=>exact .sl _ _ _ ad _ _ _ (fun _=>undef) (Nat.le_refl _) (.inl (.inr rfl)) (fun i hi=>by simp at hi) (fun i t ht=>by simp at ht)
  |ref _ _ s off b hb hp=>
   simp only[close]at h
   split at h<;>try(cases h;done)
   rename_i cs hs
   obtain⟨bW,yl,rfl⟩:=Option.map_eq_some_iff.1 h
   obtain⟨c,e,hc,hsz,h1,cj⟩:=mA hI hb hp hs
   obtain⟨hl,_⟩:=dp yl
   have:=ak.ptr (S:=fP S β) (w:=w) bj cz ⟨b,0,none⟩ bW off (fun i=>c.getD i undef) (fun i hi=>⟨.inr ⟨s,hb⟩,by rw[lr,Nat.zero_add,yq hc];simp[Array.getD,show i< c.size by omega],h1 i _ (by omega) (by simp[Array.getD,show i< c.size by omega])⟩)
    (fun i t ht=>by
     obtain⟨q,hq,b7⟩:=mapM_map yl i t ht
     have hi:=(List.getElem?_eq_some_iff.1 hq).1
     exact ih _ q t (cj i _ q (by simp[Array.getD,show i< c.size by omega]) hq) b7)
   rwa [lr,Nat.zero_add]at this
  |av _ _ s off n m b c hb hp cF oH=>
   simp only[close]at h
   split at h
   ·rename_i hn
    simp only[Option.some.injEq]at h
    subst h hn
    exact .sl _ _ _ ⟨b,off,none⟩ 0 c [] (fun _=>undef) (Nat.zero_le _) (.inl (.inr rfl)) (fun i hi=>by simp at hi) (fun i t ht=>by simp at ht)
   split at h<;>try(cases h;done)
   rename_i cs hs
   obtain⟨bW,yl,rfl⟩:=Option.map_eq_some_iff.1 h
   obtain⟨cc,e,hc,hsz,h1,cj⟩:=mA hI hb hp hs
   obtain⟨hl,_⟩:=dp yl
   simp only[List.length_take,List.length_drop]at hl
   exact .sl _ _ _ ⟨b,off,none⟩ n c bW (fun i=>cc.getD (off+i) undef) cF (.inl (.inr rfl)) (fun i hi=>⟨.inr ⟨s,hb⟩,by rw[lr,yq hc];simp[Array.getD,show off+i< cc.size by omega],h1 (off+i) _ (by omega) (by simp[Array.getD,show off+i< cc.size by omega])⟩)
    (fun i t ht=>by
     obtain⟨q,hq,b7⟩:=mapM_map yl i t ht
     rw[List.getElem?_take]at hq
     split at hq
     ·rw[List.getElem?_drop]at hq
      have hi:=(List.getElem?_eq_some_iff.1 hq).1
      exact ih _ q t (cj (off+i) _ q (by simp[Array.getD,show off+i< cc.size by omega]) hq) b7
     ·cases hq)
  |agg _ _ xs ts hl h1 cj=>
   simp only[close]at h
   obtain⟨us,vX,rfl⟩:=Option.map_eq_some_iff.1 h
   obtain⟨hlu,hsp⟩:=dp vX
   exact .agg _ _ _ _ (by omega) h1 fun i x u hx hu=>by
    obtain⟨q,hq,b7⟩:=mapM_map vX i u hu
    exact ih x q u (cj i x q hx hq) b7
  |an _ _ xs ts hl cj=>
   simp only[close]at h
   obtain⟨us,vX,rfl⟩:=Option.map_eq_some_iff.1 h
   obtain⟨hlu,hsp⟩:=dp vX
   exact .an _ _ _ _ (by omega) fun i x u hx hu=>by
    obtain⟨q,hq,b7⟩:=mapM_map vX i u hu
    exact ih x q u (cj i x q hx hq) b7
  |bB _ _ fn xs ys ts us hx hy h1 h2=>
   simp only[close,Option.bind_eq_bind,Option.pure_def]at h
   obtain⟨AZ,A0,h⟩:=Option.bind_eq_some_iff.1 h
   obtain⟨us',vX,h⟩:=Option.bind_eq_some_iff.1 h
   simp only[Option.some.injEq]at h
   subst h
   obtain⟨fu,_⟩:=dp A0
   obtain⟨mX,_⟩:=dp vX
   exact .bB _ _ _ _ _ _ _ (by omega) (by omega) (fun i x u hx hu=>by
    obtain⟨q,hq,b7⟩:=mapM_map A0 i u hu
    exact ih x q u (h1 i x q hx hq) b7) (fun i x u hx hu=>by
    obtain⟨q,hq,b7⟩:=mapM_map vX i u hu
    exact ih x q u (h2 i x q hx hq) b7)
theorem Nz{bx:List (Option (List T))}:∀(k:Nat) (x:Value) (t u:T),ak S w β φ x t→t.aV=false→close bx k t=some u→ak S w bj cz x u:=by
 intro k
 induction k with
 |zero=>intro x t u _ _ h;simp[close]at h
 |succ k ih=>
  intro x t u hr hn h
  cases hr with
  |undef=>simp only[close,Option.some.injEq]at h;subst h;exact .undef ..
  |v=>simp only[close,Option.some.injEq]at h;subst h;exact .v ..
  |nil=>simp only[close,Option.some.injEq]at h;subst h;exact .nil _ _ _ rfl
  |sl _ _ g ad n c cs f cF hg aG cj=>
   simp only[close,Option.some.injEq]at h
   subst h
   exact .sl _ _ _ ad n c cs f cF (.inl (.inr rfl)) aG cj
  |ptr _ _ ad cs off f aG cj=>simp only[close,Option.some.injEq]at h;subst h;exact .ptr _ _ ad cs off f aG cj
  |ref=>simp[T.aV]at hn
  |av=>simp[T.aV]at hn
  |gX=>simp[T.aV]at hn
  |aQ=>simp[T.aV]at hn
  |agg _ _ xs ts hl h1 cj=>
   simp only[T.aV,vH,List.any_eq_false]at hn
   simp only[close]at h
   obtain⟨us,vX,rfl⟩:=Option.map_eq_some_iff.1 h
   obtain⟨hlu,hsp⟩:=dp vX
   exact .agg _ _ _ _ (by omega) h1 fun i x u hx hu=>by
    obtain⟨q,hq,b7⟩:=mapM_map vX i u hu
    exact ih x q u (cj i x q hx hq) (by simpa using hn q (List.mem_of_getElem? hq)) b7
  |an _ _ xs ts hl cj=>
   simp only[T.aV,vH,List.any_eq_false]at hn
   simp only[close]at h
   obtain⟨us,vX,rfl⟩:=Option.map_eq_some_iff.1 h
   obtain⟨hlu,hsp⟩:=dp vX
   exact .an _ _ _ _ (by omega) fun i x u hx hu=>by
    obtain⟨q,hq,b7⟩:=mapM_map vX i u hu
    exact ih x q u (cj i x q hx hq) (by simpa using hn q (List.mem_of_getElem? hq)) b7
  |bB _ _ fn xs ys ts us hx hy h1 h2=>
   simp only[T.aV,vH,Bool.or_eq_false_iff,List.any_eq_false]at hn
   simp only[close,Option.bind_eq_bind,Option.pure_def]at h
   obtain⟨AZ,A0,h⟩:=Option.bind_eq_some_iff.1 h
   obtain⟨us',vX,h⟩:=Option.bind_eq_some_iff.1 h
   simp only[Option.some.injEq]at h
   subst h
   obtain⟨fu,_⟩:=dp A0
   obtain⟨mX,_⟩:=dp vX
   exact .bB _ _ _ _ _ _ _ (by omega) (by omega) (fun i x u hx hu=>by
    obtain⟨q,hq,b7⟩:=mapM_map A0 i u hu
    exact ih x q u (h1 i x q hx hq) (by simpa using hn.1 q (List.mem_of_getElem? hq)) b7) (fun i x u hx hu=>by
    obtain⟨q,hq,b7⟩:=mapM_map vX i u hu
    exact ih x q u (h2 i x q hx hq) (by simpa using hn.2 q (List.mem_of_getElem? hq)) b7)
mutual
theorem DQ(d:Nat):∀t:T,t.import d=t.al some (fun k=>if k< 8 then some (8*d+k)else none)
 | .sl (.own k e) n cs=>by simp only[T.import,T.al];split<;>rfl
 | .sl .nil n cs| .sl .any n cs| .sl .lP n cs| .sl .clip n cs=>rfl
 | .agg ts=>by simp only[T.import,T.al,oJ d ts]
 | .an ts=>by simp only[T.import,T.al,oJ d ts]
 | .bB f a b=>by simp only[T.import,T.al,oJ d a,oJ d b]
 | .undef| .v _| .ptr _ _| .ref _ _| .av _ _ _ _| .aQ _=>rfl
theorem oJ(d:Nat):∀ts:List T,dD d ts=ai some (fun k=>if k< 8 then some (8*d+k)else none) ts
 | []=>rfl
 |t::ts=>by simp only[dD,ai,DQ d t,oJ d ts]
end
theorem ak.import{φ':bw}{x:Value}{t:T}(d:Nat)(h:ak S w β φ x t)(vT:∀k p,k< 8→φ k=some p→φ' (8*d+k)=some p):ak S w β φ' x (t.import d):=by
 rw[DQ]
 refine h.al (fun s s' b h1 h2=> ?_) (fun s s' h1=> ?_) fun k k' p h1 h2=> ?_
 ·simp only[Option.some.injEq]at h1;subst h1;exact h2
 ·simp only[Option.some.injEq]at h1;subst h1;rfl
 ·split at h1
  ·rename_i hh
   simp only[Option.some.injEq]at h1
   subst h1
   exact vT _ _ hh h2
  ·cases h1
theorem RR(d k:Nat):hit (2*d) k=true↔k / 8=d:=by
 simp only[hit,show 2*d%2=0 by omega,if_true,beq_iff_eq]
 omega
theorem HU{d:Nat}(hI:Inv P W S0 S β φ σ.boxes w){w':World}(hb:Below w.heap.size w w'){S':Nat→Nat→Prop}{ψ:bw}{x:Value}{r:T}(hlt:∀b o,S' b o→b< w'.heap.size)
  (hr:ak (fun b o=>S b o∨(w.heap.size≤b∧S' b o)) w' bj ψ x r) (hf:∀k x e,ψ k=some (x,e)→Ny P (fun b=>b< w.heap.size) S' bj w' x e)
  (TB:∀k k' x x' e e',ψ k=some (x,e)→ψ k'=some (x',e')→k≠k'→x.ownBlock≠x'.ownBlock):ax P W S0 S β φ w σ (σ.strip (2*d)) (r.import d) x w':=by
 let S2:Nat→Nat→Prop:=fun b o=>S b o∨(w.heap.size≤b∧S' b o)
 let oK:bw:=fun k=>if k / 8=d then ψ (k%8)else φ k
 have hg:=hI.grow hb
 have hsz:=hb.size
 have afS:∀s b,β s=some b→b< w.heap.size:=fun s b hs=>hI.vE hs
 have kN:∀y u,ak S w β φ y u→ak S2 w' β oK y (u.strip (2*d)):=fun y u h=>
  ak.strip (2*d) ((h.grow hI.lt hb).mono (fun b o h=> .inl h) (fun _ _=>id) (fun _ _=>id) (fun _ _ _ _ _=>id) (cg.refl _)) fun k p hk hne=>by
   have:¬k / 8=d:=fun h=>by rw[←RR]at h;rw[h]at hne;cases hne
   simp[oK,this,hk]
 refine⟨S2,β,oK,T.strip (2*d), ?_,⟨hg.below, ?_, ?_, ?_,hI.inj, ?_, ?_,fun b o h=> ?_,fun b o h=> .inl (hg.base b o h),hg.stay,fun s b hn h0=>(hI.pJ s b hn h0).imp id fun h=>by simp[St.strip,h]⟩,kN,by simp[St.strip,aF],by simp[St.strip,aF]⟩
 ·exact(hr.import d (φ':=oK) fun k p hk hp=>by
   have h1:(8*d+k) / 8=d:=by omega
   have h2:(8*d+k)%8=k:=by omega
   simp[oK,h1,h2,hp]).mono (fun _ _=>id) (fun s b h=>by simp[bj]at h) (fun _ _=>id) (fun _ _ _ _ _=>id) (cg.refl _)
 ·intro b o h
  rcases h with h|⟨_,h⟩
  ·exact hg.lt b o h
  ·exact hlt b o h
 ·intro s b hs
  obtain⟨h1,h2,cs,h3,h4⟩:=hI.box s b hs
  refine⟨h1,fun o ho=> ?_,cs.map (T.strip (2*d)), ?_,h4.mono (hb.block b h4.lt) kN⟩
  ·rcases ho with ho|⟨ho,_⟩
   ·exact h2 o ho
   ·have:=hI.vE hs;omega
  ·simp only[St.strip,List.getElem?_map,h3,Option.map_some,aF]
 ·intro s cs hs
  simp only[St.strip,List.getElem?_map,Option.map_eq_some_iff]at hs
  obtain⟨ob,A5,hs⟩:=hs
  cases ob with
  |none=>simp at hs
  |some bW=>
   simp only[Option.map_some,Option.some.injEq]at hs
   exact(hI.boxed s bW A5).imp (fun e=>by obtain⟨u,hu,hs⟩:=hs;subst hu;rw[←hs,e];rfl) id
 ·intro k y e hk
  by_cases h:k / 8=d
  ·simp only[oK,h,if_true]at hk
   obtain⟨g,n,c,sz,xs,i,rfl,hi,hs,ho,h1,h2,h3⟩:=hf _ y e hk
   refine⟨g,n,c,sz,xs,i,rfl,hi,hs,ho,fun o h=> ?_,fun s ft=> ?_,fun hX=> ?_⟩
   ·rcases h with h|⟨_,h⟩
    ·have:=hI.lt g o h;omega
    ·exact h1 o h
   ·have:=afS s g ft;omega
   ·have:=hI.below.lt _ hX;have:=hI.below.size;omega
  ·simp only[oK,h,if_false]at hk
   obtain⟨g,n,c,sz,xs,i,rfl,hi,hs,ho,h1,h2⟩:=hg.fX k y e hk
   have hgl:=hI.HL hk (g:=g) (by simp[Value.ownBlock])
   refine⟨g,n,c,sz,xs,i,rfl,hi,hs,ho,fun o h=> ?_,h2⟩
   rcases h with h|⟨h,_⟩
   ·exact h1 o h
   ·omega
 ·have w7:∀k y e,ψ k=some (y,e)→∃g,y.ownBlock=some g∧w.heap.size≤g:=fun k y e hk=>by
   obtain⟨g,n,c,sz,xs,i,rfl,hi,hs,ho,h1,h2,h3⟩:=hf _ y e hk
   exact⟨g,by simp[Value.ownBlock],Nat.le_of_not_lt h3⟩
  have hold:∀k y e,φ k=some (y,e)→∃g,y.ownBlock=some g∧g< w.heap.size:=fun k y e hk=>by
   obtain⟨g,n,c,sz,xs,i,rfl,hi,hs,ho,h1,h2⟩:=hI.fX _ y e hk
   exact⟨g,by simp[Value.ownBlock],(ho.lt g (by simp[Value.ownBlock])).2⟩
  intro k k' y y' e e' hk cp hne
  by_cases h:k / 8=d<;>by_cases h':k' / 8=d
  ·simp only[oK,h,if_true]at hk
   simp only[oK,h',if_true]at cp
   exact TB _ _ _ _ _ _ hk cp (by omega)
  ·simp only[oK,h,if_true]at hk
   simp only[oK,h',if_false]at cp
   obtain⟨g,gp,ui⟩:=w7 _ _ _ hk
   obtain⟨g',G4,NA⟩:=hold _ _ _ cp
   rw[gp,G4];simp;omega
  ·simp only[oK,h,if_false]at hk
   simp only[oK,h',if_true]at cp
   obtain⟨g,gp,ui⟩:=hold _ _ _ hk
   obtain⟨g',G4,NA⟩:=w7 _ _ _ cp
   rw[gp,G4];simp;omega
  ·simp only[oK,h,if_false]at hk
   simp only[oK,h',if_false]at cp
   exact hI.dK _ _ _ _ _ _ hk cp hne
 ·rcases h with h|⟨h,_⟩
  ·exact hI.top b o h
  ·exact .inr fun hX=>by have:=hI.below.lt _ hX;have:=hI.below.size;omega
theorem HV{S':Nat→Nat→Prop}{w':World}{ψ:bw}{x:Value}{t:T}{n0:Nat}(hf:∀k x e,ψ k=some (x,e)→Ny P (fun b=>b< n0) S' bj w' x e)(h:ak S' w' bj ψ x t)(lu:t.fresh1=true):
  ak (fun b o=>S b o∨(n0≤b∧S' b o)) w' bj ψ x t:=by
 cases h with
 |undef=>exact .undef ..
 |v=>exact .v ..
 |nil _ _ g hg=>exact .nil _ _ g hg
 |sl _ _ g ad n c cs f cF hg aG cj=>
  have G5:cs=[]→ak (fun b o=>S b o∨(n0≤b∧S' b o)) w' bj ψ (.slice (some ad) n c) (.sl g n cs):=fun h=>by
   subst h
   exact .sl _ _ _ ad n c [] f cF hg (fun i hi=>by simp at hi) (fun i t ht=>by simp at ht)
  rcases hg with(rfl|rfl)|⟨rfl,hg⟩|⟨k,e,rfl,hk⟩
  ·exact G5 (by cases cs<;>simp[T.fresh1]at lu⊢)
  ·exact G5 (by cases cs<;>simp[T.fresh1]at lu⊢)
  ·exact G5 (by cases cs<;>simp[T.fresh1]at lu⊢)
  ·simp only[T.fresh1,List.all_eq_true]at lu
   rcases hk with hk|⟨_,_,rfl⟩
   ·obtain⟨g',n',c',sz,xs,i,hx,hi,hs,ho,h1,h2,h3⟩:=hf k _ e hk
    simp only[Value.slice.injEq,Option.some.injEq]at hx
    obtain⟨rfl,rfl,rfl⟩:=hx
    refine .sl _ _ _ ⟨g',0,none⟩ n c cs f cF (.inr (.inr ⟨k,e,rfl,.inl hk⟩)) (fun i hi=>⟨.inr ⟨Nat.le_of_not_lt h3,(aG i hi).1⟩,(aG i hi).2⟩) (fun i t ht=> ?_)
    have hv:=lu t (List.mem_of_getElem? ht)
    cases t<;>simp[T.Ay]at hv
    have:=cj i _ ht
    have:=cy this
    subst this
    exact .v ..
   ·exact G5 rfl
 |ptr=>simp[T.fresh1]at lu
 |ref=>simp[T.fresh1]at lu
 |av=>simp[T.fresh1]at lu
 |gX=>simp[T.fresh1]at lu
 |aQ=>simp[T.fresh1]at lu
 |agg=>simp[T.fresh1]at lu
 |an=>simp[T.fresh1]at lu
 |bB=>simp[T.fresh1]at lu
theorem HW{S':Nat→Nat→Prop}{w':World}{ψ:bw}{x:Value}{t:T}{n0:Nat}(hf:∀k x e,ψ k=some (x,e)→Ny P (fun b=>b< n0) S' bj w' x e)(h:ak S' w' bj ψ x t)(lu:t.fresh2=true):
  ak (fun b o=>S b o∨(n0≤b∧S' b o)) w' bj ψ x t:=by
 by_cases ha:∃cs,t= .agg cs
 ·obtain⟨cs,rfl⟩:=ha
  simp only[T.fresh2,List.all_eq_true]at lu
  cases h with
  |agg _ _ xs ts hl h1 cj=>exact .agg _ _ _ _ hl h1 fun i x t hx ht=>HV hf (cj i x t hx ht) (lu t (List.mem_of_getElem? ht))
 ·refine HV hf h ?_
  cases t<;>first|exact lu|exact absurd ⟨_,rfl⟩ ha
theorem Wl{S':Nat→Nat→Prop}{w':World}{ψ:bw}{x:Value}{t:T}{n0:Nat}(hf:∀k x e,ψ k=some (x,e)→Ny P (fun b=>b< n0) S' bj w' x e)(h:ak S' w' bj ψ x t)(lu:t.fresh=true):
  ak (fun b o=>S b o∨(n0≤b∧S' b o)) w' bj ψ x t:=by
 by_cases ha:∃cs,t= .an cs
 ·obtain⟨cs,rfl⟩:=ha
  simp only[T.fresh,List.all_eq_true]at lu
  cases h with
  |an _ _ xs ts hl cj=>exact .an _ _ _ _ hl fun i x t hx ht=>HW hf (cj i x t hx ht) (lu t (List.mem_of_getElem? ht))
 ·refine HW hf h ?_
  cases t<;>first|exact lu|exact absurd ⟨_,rfl⟩ ha
theorem QI{C:FuncId→List T→Option T}(hC:∀f args r,C f args=some r→Sound P f args r){d f:Nat}{as:List T}{vs:Array Value}{t:T}{σ':St}(hI:Inv P W S0 S β φ σ.boxes w)
  (hl:vs.size=as.length) (ha:∀(i:Nat) (x:Value) (t:T),vs[i]? =some x→as[i]? =some t→ak S w β φ x t) (hr:ae.cU C σ d f as=some (t,σ')):
  jr P f=true∧Calls P f vs w fun e w'=>∃x,e= .returned x∧ax P W S0 S β φ w σ σ' t x w':=by
 simp only[ae.cU,Option.bind_eq_bind]at hr
 obtain⟨cs,aG,hr⟩:=Option.bind_eq_some_iff.1 hr
 obtain⟨r,xj,hr⟩:=Option.bind_eq_some_iff.1 hr
 split at hr<;>try(cases hr;done)
 rename_i lu
 simp only[Option.some.injEq,Prod.mk.injEq]at hr
 obtain⟨rfl,rfl⟩:=hr
 unfold tH at xj
 split at xj<;>try(cases xj;done)
 rename_i hlt
 have hS:=hC f cs r xj
 unfold Sound at hS
 rw[if_pos hlt]at hS
 obtain⟨iZ,DR⟩:=hS
 refine⟨iZ, ?_⟩
 obtain⟨vU,_⟩:=dp aG
 by_cases G6:bc as=true
 ·have afT:r.fresh=true:=by simpa [G6]using lu
  refine(DR w (fP S β) vs (fun b o h=> ?_) (by omega) (fun i x u hx hu=> ?_)).mono fun e w' h=> ?_
  ·rcases h with h|⟨s,h⟩
   ·exact hI.lt b o h
   ·exact hI.vE h
  ·obtain⟨q,hq,b7⟩:=mapM_map aG i u hu
   exact Ae hI 6 x q u (ha i x q hx hq) b7
  ·obtain⟨x,rfl,hb,S',ψ,h1,h2,h3,h4,h5⟩:=h
   exact⟨x,rfl,HU hI hb h2 (Wl h4 h3 afT) h4 h5⟩
 ·simp only[vH,Bool.not_eq_true,List.any_eq_false]at G6
  refine(DR w S vs hI.lt (by omega) (fun i x u hx hu=> ?_)).mono fun e w' h=> ?_
  ·obtain⟨q,hq,b7⟩:=mapM_map aG i u hu
   exact Nz 6 x q u (ha i x q hx hq) (by simpa using G6 q (List.mem_of_getElem? hq)) b7
  ·obtain⟨x,rfl,hb,S',ψ,h1,h2,h3,h4,h5⟩:=h
   refine⟨x,rfl,HU hI hb h2 (h3.mono (fun b o h=> ?_) (fun _ _=>id) (fun _ _=>id) (fun _ _ _ _ _=>id) (cg.refl _)) h4 h5⟩
   rcases h1 b o h with h'|h'
   ·exact .inl h'
   ·exact .inr ⟨h',h⟩
end
end Go.Vi
end
section
namespace Go.Vi
open Go Go.RowKit
theorem DS{l:List Nat}{x i:Nat}(hn:l.Nodup)(h:l[i]? =some x):l.idxOf? x=some i:=by
 have hm:=List.mem_of_getElem? h
 cases hj:l.idxOf? x with
 |none=>
  rw[List.idxOf?,List.findIdx?_eq_none_iff]at hj
  have:=hj x hm
  simp at this
 |some j=>
  have h2:=fq hj
  obtain⟨h3,h4⟩:=List.getElem?_eq_some_iff.1 h
  obtain⟨h5,h6⟩:=List.getElem?_eq_some_iff.1 h2
  have:j=i:=(List.getElem_inj hn).1 (h6.trans h4.symm)
  rw[this]
theorem tm{ss:List Nat}{s l:Nat}(h:iL ss s=some l):fw ss l=some s∧l%2=s%2∧l< 2*ss.length:=by
 unfold iL at h
 obtain⟨i,hi,rfl⟩:=Option.map_eq_some_iff.1 h
 have h1:=fq hi
 have h2:=(List.getElem?_eq_some_iff.1 h1).1
 have e1:(2*i+s%2) / 2=i:=by omega
 have e2:(2*i+s%2)%2=s%2:=by omega
 refine⟨?_,e2,by omega⟩
 simp only[fw,e1,h1,Option.bind_some,e2,if_true]
theorem DT{ss:List Nat}(hn:ss.Nodup){s l:Nat}(h:fw ss l=some s):iL ss s=some l:=by
 unfold fw at h
 obtain⟨s',ft,h⟩:=Option.bind_eq_some_iff.1 h
 split at h
 ·rename_i hp
  simp only[Option.some.injEq]at h
  subst h
  simp only[iL,DS hn ft,Option.map_some,Option.some.injEq]
  omega
 ·cases h
def MC(fs:List Nat)(k':Nat):Option Nat:=
 if k'%8=0∧j1≤k' / 8 then(fs[k' / 8-j1]?).bind fun k=>if rv fs k=some k' then some k else none else none
theorem KZ{fs:List Nat}{k k':Nat}:rv fs k=some k'↔MC fs k'=some k:=by
 constructor
 ·intro h
  have h0:=h
  unfold rv at h
  obtain⟨i,hi,rfl⟩:=Option.map_eq_some_iff.1 h
  have h1:=fq hi
  have e1:8*(j1+i)%8=0:=by omega
  have e2:8*(j1+i) / 8=j1+i:=by omega
  have e3:j1+i-j1=i:=by omega
  simp only[MC,e1,e2,e3,h1,true_and,Nat.le_add_right,if_true,Option.bind_some,h0]
 ·intro h
  unfold MC at h
  split at h
  ·obtain⟨k2,u5,h⟩:=Option.bind_eq_some_iff.1 h
   split at h
   ·simp only[Option.some.injEq]at h;subst h;assumption
   ·cases h
  ·cases h
theorem K0(o:Option (List T)):er (zQ o)=o:=by cases o<;>rfl
structure Core(P:Program)(X:Nat→Prop)(S:Nat→Nat→Prop)(β:aY)(φ:bw)(bx:List (Option (List T)))(w:World):Prop where
 lt:∀b o,S b o→b< w.heap.size
 box:∀s b,β s=some b→¬X b∧(∀o,¬S b o)∧∃cs,bx[s]? =some (some cs)∧qK S w β φ (s%2) b cs
 boxed:∀s cs,bx[s]? =some (some cs)→cs=[]∨∃b,β s=some b
 inj:∀s s' b,β s=some b→β s'=some b→s=s'
 fX:∀k x e,φ k=some (x,e)→Ny P X S β w x e
 dK:∀k k' x x' e e',φ k=some (x,e)→φ k'=some (x',e')→k≠k'→x.ownBlock≠x'.ownBlock
section
variable{P:Program}{W:dg}{w:World}{S0 S:Nat→Nat→Prop}{β:aY}{φ:bw}{a:Act}{o:Oper}{σ:St}
theorem Inv.core{bx:List (Option (List T))}(h:Inv P W S0 S β φ bx w):Core P W.X S β φ bx w:=⟨h.lt,h.box,h.boxed,h.inj,h.fX,h.dK⟩
theorem Core.relabel{X X':Nat→Prop}{bx bx':List (Option (List T))}{ρ ρi η ηi:Nat→Option Nat}(h:Core P X S β φ bx w)(DU:∀s l,ρ s=some l↔ρi l=some s)(NB:∀k k',η k=some k'↔ηi k'=some k)
  (hp:∀s l,ρ s=some l→l%2=s%2) (lS:∀s l cs,ρ s=some l→bx[s]? =some (some cs)→bx'[l]? =some (some (ai ρ η cs)))
  (tn:∀l bW,bx'[l]? =some (some bW)→bW=[]∨∃s cs,ρ s=some l∧bx[s]? =some (some cs)∧bW=ai ρ η cs)
  (hX:∀b,X' b→X b∨((∀l,(ρi l).bind β≠some b)∧∀k x e,(ηi k).bind φ=some (x,e)→x.ownBlock≠some b)):
  Core P X' S (fun l=>(ρi l).bind β) (fun k=>(ηi k).bind φ) bx' w∧∀x t,ak S w β φ x t→ak S w (fun l=>(ρi l).bind β) (fun k=>(ηi k).bind φ) x (t.al ρ η):=by
 have hm:∀x t,ak S w β φ x t→ak S w (fun l=>(ρi l).bind β) (fun k=>(ηi k).bind φ) x (t.al ρ η):=fun x t hx=>
  hx.al (fun s s' b h1 h2=>by simp[(DU s s').1 h1,h2]) hp (fun k k' p h1 h2=>by simp[(NB k k').1 h1,h2])
 refine⟨⟨h.lt,fun l b hb=> ?_,fun l bW hl=> ?_,fun l l' b hb eZ=> ?_,fun k x e hk=> ?_,fun k k' x x' e e' hk cp hne=> ?_⟩,hm⟩
 ·have kE:=hb
  obtain⟨s,hs,hb⟩:=Option.bind_eq_some_iff.1 hb
  obtain⟨h1,h2,cs,h3,h4⟩:=h.box s b hb
  have fY:=(DU s l).2 hs
  refine⟨fun hx=> ?_,h2,ai ρ η cs,lS s l cs fY h3, ?_⟩
  ·rcases hX b hx with h'|h'
   ·exact h1 h'
   ·exact h'.1 l kE
  ·rw[br,hp s l fY]
   exact h4.mono rfl hm
 ·rcases tn l bW hl with h'|⟨s,cs,h1,h2,rfl⟩
  ·exact .inl h'
  ·refine(h.boxed s cs h2).imp (fun e=>by rw[e];rfl) fun⟨b,hb⟩=>⟨b,by simp[(DU s l).1 h1,hb]⟩
 ·obtain⟨s,hs,hb⟩:=Option.bind_eq_some_iff.1 hb
  obtain⟨s',ft,eZ⟩:=Option.bind_eq_some_iff.1 eZ
  have:=h.inj s s' b hb eZ
  subst this
  have h1:=(DU s l).2 hs
  have h2:=(DU s l').2 ft
  rw[h1]at h2
  exact Option.some.inj h2
 ·have A6:=hk
  obtain⟨k0,j7,u5⟩:=Option.bind_eq_some_iff.1 hk
  obtain⟨g,n,c,sz,xs,i,rfl,hi,hsz,ho,h1,h2,h3⟩:=h.fX k0 x e u5
  refine⟨g,n,c,sz,xs,i,rfl,hi,hsz,ho,h1,fun l hl=> ?_,fun hx=> ?_⟩
  ·obtain⟨s,_,hb⟩:=Option.bind_eq_some_iff.1 hl
   exact h2 s hb
  ·rcases hX g hx with h'|h'
   ·exact h3 h'
   ·exact h'.2 k _ e A6 (by simp[Value.ownBlock])
 ·obtain⟨k0,j7,u5⟩:=Option.bind_eq_some_iff.1 hk
  obtain⟨k0',Np,al5⟩:=Option.bind_eq_some_iff.1 cp
  refine h.dK k0 k0' x x' e e' u5 al5 fun he=>hne ?_
  subst he
  have h1:=(NB k0 k).2 j7
  have h2:=(NB k0 k').2 Np
  rw[h1]at h2
  exact Option.some.inj h2
theorem xx{back ζ:Nat→Option Nat}{s:Nat}:∀(os:List (Option (List T))) (l:Nat) (bx:List (Option (List T))),(∀l',l≤l'→l'< l+os.length→back l'≠some s)→(ey back ζ os l bx)[s]? =bx[s]?
 | [],_,_,_=>rfl
 |o::os,l,bx,h=>by
  rw[ey,xx os (l+1) _ fun l' h1 h2=>h l' (by omega) (by simp;omega)]
  have:=h l (Nat.le_refl _) (by simp)
  cases hb:back l with
  |none=>rfl
  |some s'=>
   have hne:s'≠s:=fun e=>this (by rw[hb,e])
   simp[List.getElem?_set,hne]
theorem K1{back ζ:Nat→Option Nat}{s:Nat}:∀(os:List (Option (List T))) (l l':Nat) (bx:List (Option (List T))) (o:Option (List T)),(∀i j,back i=some s→back j=some s→i=j)→back l'=some s→l≤l'→os[l'-l]? =some o→
  s< bx.length→(ey back ζ os l bx)[s]? =some (o.map (ai back ζ))
 | [],l,l',bx,o,_,_,_,h,_=>by simp at h
 |q::os,l,l',bx,o,TB,hb,hle,h,hlt=>by
  by_cases he:l'=l
  ·subst he
   simp only[Nat.sub_self,List.getElem?_cons_zero,Option.some.injEq]at h
   subst h
   rw[ey,xx os (l'+1) _ fun j h1 h2 hj=>by have:=TB _ _ hb hj;omega]
   simp[hb,hlt]
  ·rw[ey]
   refine K1 os (l+1) l' _ o TB hb (by omega) ?_ ?_
   ·rw[show l'-l=(l'-(l+1))+1 by omega,List.getElem?_cons_succ]at h
    exact h
   ·cases back l<;>simp[hlt]
theorem yx{bx:List (Option (List T))}{s:Nat}(h:dF bx s=true):bx[s]? =some none:=by
 unfold dF at h
 split at h
 ·assumption
 ·cases h
theorem eX{bx:List (Option (List T))}{s:Nat}{cs:List T}:aj bx s=some cs↔bx[s]? =some (some cs):=by
 unfold aj
 cases h:bx[s]? with
 |none=>simp
 |some o=>cases o<;>simp
theorem DV{C:FuncId→List T→Option T}(hC:∀f args r,C f args=some r→Sound P f args r){d f:Nat}{ad:List Nat}{as:List T}{vs:Array Value}{t:T}{σ':St}(hI:Inv P W S0 S β φ σ.boxes w)
  (RS:∀s∈ad,s+1< W.nb) (hl:vs.size=as.length) (ha:∀(i:Nat) (x:Value) (t:T),vs[i]? =some x→as[i]? =some t→ak S w β φ x t) (hr:ae.eo C σ d ad f as=some (t,σ')):
  jr P f=true∧Calls P f vs w fun e w'=>∃x,e= .returned x∧ax P W S0 S β φ w σ σ' t x w':=by
 simp only[ae.eo]at hr
 generalize RQ:reach σ.boxes 10000 [] (eh as)=ss at hr
 generalize RP:(ss.flatMap fun s=>gQ ((aj σ.boxes s).getD []))=fs at hr
 generalize aaY:((List.range (2*ss.length)).map fun l=>zQ (((fw ss l).bind (aj σ.boxes)).map (ai (iL ss) (rv fs))))=ins at hr
 split at hr<;>try(cases hr;done)
 rename_i r outs hCr
 generalize TC:dw ss ad=back at hr
 generalize Wm:fy d=ζ at hr
 generalize Fh:iR ss outs=live at hr
 generalize al6:gg d fs=ND at hr
 split at hr<;>try(cases hr;done)
 rename_i fA
 obtain⟨hlen,Wn,ain,TD,NF⟩:=fA
 simp only[Option.some.injEq,Prod.mk.injEq]at hr
 obtain⟨rfl,rfl⟩:=hr
 have hS:=hC _ _ _ hCr
 unfold Sound at hS
 rw[if_neg (Nat.not_lt.2 (Nat.le_add_right _ _))]at hS
 obtain⟨A7,aqn,r',acG,e1,e2,iZ,DR⟩:=hS.resolve_right fun⟨_,_,e1,_⟩=>by simp at e1
 simp only[List.cons.injEq,T.an.injEq,and_true]at e1 e2
 obtain⟨e1a,e1b⟩:=e1
 obtain⟨rfl,rfl⟩:=e2
 subst e1a e1b
 rw[Nat.add_sub_cancel_left]at iZ DR
 refine⟨iZ, ?_⟩
 let K3:aY:=fun l=>(fw ss l).bind β
 let rS:bw:=fun k=>(MC fs k).bind φ
 let X1:Nat→Prop:=fun b=>b< w.heap.size∧(∀l,K3 l≠some b)∧∀k x e,rS k=some (x,e)→x.ownBlock≠some b
 have DU:∀s l,iL ss s=some l↔fw ss l=some s:=fun s l=>⟨fun h=>(tm h).1,DT TD⟩
 have RT:∀l:Nat,(ins.map er)[l]? =if l< 2*ss.length then some (((fw ss l).bind (aj σ.boxes)).map (ai (iL ss) (rv fs)))else none:=fun l=>by
  rw[←aaY,List.map_map,List.getElem?_map]
  by_cases hlt:l< 2*ss.length
  ·rw[List.getElem?_range hlt,if_pos hlt]
   simp[K0]
  ·rw[List.getElem?_eq_none (by simpa using hlt),if_neg hlt]
   rfl
 obtain⟨j8,hrel⟩:=hI.core.relabel (X':=X1) (bx':=ins.map er) DU (fun k k'=>KZ) (fun s l h=>(tm h).2.1)
  (fun s l cs h1 h2=>by
   obtain⟨h3,h4,h5⟩:=tm h1
   rw[RT,if_pos h5,h3]
   simp[eX.2 h2])
  (fun l bW h=>by
   rw[RT]at h
   split at h
   ·simp only[Option.some.injEq]at h
    obtain⟨cs,aG,rfl⟩:=Option.map_eq_some_iff.1 h
    obtain⟨s,hs,aG⟩:=Option.bind_eq_some_iff.1 aG
    exact .inr ⟨s,cs,(DU s l).2 hs,eX.1 aG,rfl⟩
   ·cases h)
  (fun b hb=> .inr ⟨hb.2.1,hb.2.2⟩)
 have aio:Inv P ⟨w,X1,0,bj,w.heap.size⟩ S S K3 rS (ins.map er) w:=
  ⟨⟨rfl,rfl,rfl,Nat.le_refl _,fun k hk=>hk.1,fun _ _=>rfl,cg.refl _⟩,j8.lt,j8.box,j8.boxed,j8.inj,j8.fX,j8.dK,fun b o h=> .inl h,fun b o h=>h,fun b o _ sp v hv=>hv,fun s b _ h=>by simp[bj]at h⟩
 refine(DR ⟨w,X1,0,bj,w.heap.size⟩ S K3 rS vs aio (by simpa using hl) (fun i x t hx ht=> ?_)).mono fun e w' aip=> ?_
 ·rw[List.getElem?_map]at ht
  obtain⟨u,hu,rfl⟩:=Option.map_eq_some_iff.1 ht
  exact(ha i x u hx hu).fx.al (fun s s' b h1 h2=>by simp[K3,(DU s s').1 h1,h2]) (fun s s' h=>(tm h).2.1) (fun k k' p h=>by cases h)
 obtain⟨x,S',β',φ',rfl,J,hx,hst⟩:=aip
 refine⟨x,rfl, ?_⟩
 have apX:(outs.map er).length=2*(ss.length+ad.length):=by simpa using hlen
 rw[List.all_eq_true]at Wn NF
 have aaZ:∀s∈ad,s%2=0∧σ.boxes[s]? =some none∧σ.boxes[s+1]? =some none∧s ∉ ss∧s+1 ∉ ss:=fun s hs=>by
  have:=Wn s hs
  simp only[Bool.and_eq_true,beq_iff_eq,Bool.not_eq_true',List.contains_eq_mem,decide_eq_false_iff_not]at this
  exact⟨this.1.1.1.1,yx this.1.1.1.2,yx this.1.1.2,this.1.2,this.2⟩
 have JI:∀s l,iL ss s=some l→s∈ss:=fun s l h=>by
  unfold iL at h
  obtain⟨i,hi,_⟩:=Option.map_eq_some_iff.1 h
  exact List.mem_of_getElem? (fq hi)
 let fwd:Nat→Option Nat:=fun s=>(iL ss s).or ((ad.idxOf? (s-s%2)).map fun j=>2*(ss.length+j)+s%2)
 have TE:∀s j,ad.idxOf? (s-s%2)=some j→ad[j]? =some (s-s%2)∧s-s%2∈ad:=fun s j h=>⟨fq h,List.mem_of_getElem? (fq h)⟩
 have DW:∀l s,back l=some s↔fwd s=some l:=fun l s=>by
  rw[←TC]
  unfold dw
  constructor
  ·intro h
   split at h
   ·have:=DT TD h
    simp[fwd,this]
   ·rename_i hlt
    obtain⟨a',ha',rfl⟩:=Option.map_eq_some_iff.1 h
    have kp:=List.mem_of_getElem? ha'
    obtain⟨h1,h2,h3,h4,h5⟩:=aaZ a' kp
    have e1:a'+l%2-(a'+l%2)%2=a':=by omega
    have e2:(a'+l%2)%2=l%2:=by omega
    have h6:iL ss (a'+l%2)=none:=by
     cases js:iL ss (a'+l%2)with
     |none=>rfl
     |some l'=>
      have:=JI _ _ js
      rcases Nat.mod_two_eq_zero_or_one l with h0|h0<;>rw[h0]at this
      ·exact absurd this h4
      ·exact absurd this h5
    have h7:fwd (a'+l%2)=some (2*(ss.length+(l / 2-ss.length))+l%2):=by
     simp only[fwd]
     rw[h6,e1,e2,DS ain ha']
     rfl
    rw[h7]
    congr 1
    omega
  ·intro h
   simp only[fwd]at h
   cases js:iL ss s with
   |some l'=>
    simp only[js,Option.some_or,Option.some.injEq]at h
    subst h
    obtain⟨h1,h2,h3⟩:=tm js
    simp only[show l' / 2< ss.length by omega,if_true]
    exact h1
   |none=>
    simp only[js,Option.none_or]at h
    obtain⟨j,hj,rfl⟩:=Option.map_eq_some_iff.1 h
    obtain⟨h1,h2⟩:=TE s j hj
    have e1:(2*(ss.length+j)+s%2) / 2=ss.length+j:=by omega
    have e2:(2*(ss.length+j)+s%2)%2=s%2:=by omega
    simp only[e1,e2,show ¬(ss.length+j< ss.length) by omega,if_false,show ss.length+j-ss.length=j by omega,h1,Option.map_some,Option.some.injEq]
    omega
 have aiq:∀s i j,back i=some s→back j=some s→i=j:=fun s i j h1 h2=>by
  have h1:=(DW i s).1 h1
  have h2:=(DW j s).1 h2
  rw[h1]at h2
  exact Option.some.inj h2
 have b9:∀s l,fwd s=some l→l< (outs.map er).length∧l%2=s%2:=fun s l h=>by
  simp only[fwd]at h
  cases js:iL ss s with
  |some l'=>
   simp only[js,Option.some_or,Option.some.injEq]at h
   subst h
   obtain⟨h1,h2,h3⟩:=tm js
   exact⟨by omega,h2⟩
  |none=>
   simp only[js,Option.none_or]at h
   obtain⟨j,hj,rfl⟩:=Option.map_eq_some_iff.1 h
   have:=(List.getElem?_eq_some_iff.1 (TE s j hj).1).1
   exact⟨by omega,by omega⟩
 have zh:∀s b,fwd s=none→β s=some b→X1 b:=fun s b hf hb=>by
  refine⟨hI.vE hb,fun l hl=> ?_,fun k y e hk hy=> ?_⟩
  ·obtain⟨s',ft,eZ⟩:=Option.bind_eq_some_iff.1 hl
   have:=hI.inj _ _ _ eZ hb
   subst this
   have:=DT TD ft
   simp[fwd,this]at hf
  ·obtain⟨k',_,cp⟩:=Option.bind_eq_some_iff.1 hk
   obtain⟨g,n,c,sz,xs,i,rfl,_,_,_,_,h2,_⟩:=hI.fX k' y e cp
   simp only[Value.ownBlock,Option.some.injEq]at hy
   exact h2 s (hy▸hb)
 have BW:∀s l,iL ss s=none→fwd s=some l→β s=none∧s< W.nb:=fun s l hn h=>by
  simp only[fwd,hn,Option.none_or]at h
  obtain⟨j,hj,rfl⟩:=Option.map_eq_some_iff.1 h
  obtain⟨_,kp⟩:=TE s j hj
  obtain⟨h1,h2,h3,_,_⟩:=aaZ _ kp
  have di:=RS _ kp
  have nL:σ.boxes[s]? =some none:=by
   rcases Nat.mod_two_eq_zero_or_one s with h0|h0
   ·rwa [h0,Nat.sub_zero]at h2
   ·rw[h0]at h3;rwa [show s-1+1=s by omega]at h3
  refine⟨?_,by omega⟩
  cases hb:β s with
  |none=>rfl
  |some b=>obtain⟨_,_,cs,h4,_⟩:=hI.box s b hb;rw[nL]at h4;simp at h4
 have Wo:∀k y e g,k ∉ fs→φ k=some (y,e)→y.ownBlock=some g→X1 g:=fun k y e g hk hy hg=>by
  refine⟨hI.HL hy hg,fun l hl=> ?_,fun k' y' e' cp K4=> ?_⟩
  ·obtain⟨s',_,eZ⟩:=Option.bind_eq_some_iff.1 hl
   obtain⟨g',n,c,sz,xs,i,rfl,_,_,_,_,h2,_⟩:=hI.fX k y e hy
   simp only[Value.ownBlock,Option.some.injEq]at hg
   exact h2 s' (hg▸eZ)
  ·obtain⟨k2,u5,cp⟩:=Option.bind_eq_some_iff.1 cp
   have Gd:=KZ.2 u5
   have kp:k2∈fs:=by
    unfold rv at Gd
    obtain⟨i,hi,_⟩:=Option.map_eq_some_iff.1 Gd
    exact List.mem_of_getElem? (fq hi)
   exact hI.dK k2 k y' y e' e cp hy (fun h=>hk (h▸kp)) (by rw[K4,hg])
 have RU:∀b,W.X b→X1 b:=fun b hb=>by
  refine⟨by have:=hI.below.lt b hb;have:=hI.below.size;omega,fun l hl=> ?_,fun k y e hk hy=> ?_⟩
  ·obtain⟨s',_,eZ⟩:=Option.bind_eq_some_iff.1 hl
   exact(hI.box s' b eZ).1 hb
  ·obtain⟨k',_,cp⟩:=Option.bind_eq_some_iff.1 hk
   obtain⟨g,n,c,sz,xs,i,rfl,_,_,_,_,_,h3⟩:=hI.fX k' y e cp
   simp only[Value.ownBlock,Option.some.injEq]at hy
   exact h3 (hy▸hb)
 let xk:aY:=fun s=>match fwd s with
  |some l=>β' l
  |none=>β s
 let oK:bw:=fun k=>if k / 8=d then φ' (k%8)else if k∈fs then none else φ k
 have iv:∀b o,S b o→∀sp v,w.cell? ⟨b,o,sp⟩=some v→w'.cell? ⟨b,o,sp⟩=some v:=fun b o h sp v hv=>J.stay b o h sp v hv
 have KM:∀b o,S b o→S' b o:=J.base
 have kN:∀y u,ak S w β φ y u→ak S' w' xk oK y (u.al live ND):=fun y u hu=>by
  refine(hu.mono (β':=β) (φ':=φ) KM (fun _ _=>id) (fun _ _=>id) iv J.below.room).al (fun s s' b h1 h2=> ?_) (fun s s' h1=> ?_) (fun k k' p h1 h2=> ?_)
  ·rw[←Fh]at h1
   unfold iR at h1
   cases js:iL ss s with
   |some l=>
    rw[js]at h1
    simp only at h1
    split at h1
    ·rename_i hsome
     simp only[Option.some.injEq]at h1
     subst h1
     have hf:fwd s=some l:=by simp[fwd,js]
     have lS:K3 l=some b:=by simp[K3,(DU s l).1 js,h2]
     rcases hst l b lS with h|h
     ·simp[xk,hf,h]
     ·rw[List.getElem?_map]at h
      obtain⟨q,hq,RL⟩:=Option.map_eq_some_iff.1 h
      simp[List.getD,hq,RL]at hsome
    ·cases h1
   |none=>
    rw[js]at h1
    simp only[Option.some.injEq]at h1
    subst h1
    cases hf:fwd s with
    |none=>simp[xk,hf,h2]
    |some l=>have:=(BW s l js hf).1;rw[this]at h2;cases h2
  ·rw[←Fh]at h1
   unfold iR at h1
   split at h1
   ·split at h1
    ·simp only[Option.some.injEq]at h1;rw[h1]
    ·cases h1
   ·simp only[Option.some.injEq]at h1;rw[h1]
  ·rw[←al6]at h1
   unfold gg at h1
   split at h1
   ·cases h1
   ·rename_i hh
    simp only[Bool.or_eq_true,List.contains_eq_mem,decide_eq_true_eq,RR,not_or]at hh
    simp only[Option.some.injEq]at h1
    subst h1
    simp[oK,hh.1,hh.2,h2]
 have Wq:∀y u,ak S' w' β' φ' y u→ak S' w' xk oK y (u.al back ζ):=fun y u hu=>by
  refine hu.al (fun l s b h1 h2=> ?_) (fun l s h1=> ?_) (fun k k' p h1 h2=> ?_)
  ·simp[xk,(DW l s).1 h1,h2]
  ·exact(b9 s l ((DW l s).1 h1)).2.symm
  ·rw[←Wm]at h1
   unfold fy at h1
   split at h1
   ·rename_i hk
    simp only[Option.some.injEq]at h1
    subst h1
    have e1:(8*d+k) / 8=d:=by omega
    have e2:(8*d+k)%8=k:=by omega
    simp[oK,e1,e2,h2]
   ·cases h1
 have al7:∀s l,fwd s=some l→s< (σ.boxes.map (Option.map (ai live ND))).length:=fun s l hf=>by
  simp only[List.length_map]
  cases js:iL ss s with
  |some l'=>
   have:=NF s (JI s l' js)
   obtain⟨cs,aG⟩:=Option.isSome_iff_exists.1 this
   exact(List.getElem?_eq_some_iff.1 (eX.1 aG)).1
  |none=>
   simp only[fwd,js,Option.none_or]at hf
   obtain⟨j,hj,rfl⟩:=Option.map_eq_some_iff.1 hf
   obtain⟨_,kp⟩:=TE s j hj
   obtain⟨h1,h2,h3,_,_⟩:=aaZ _ kp
   have:=(List.getElem?_eq_some_iff.1 h2).1
   have:=(List.getElem?_eq_some_iff.1 h3).1
   omega
 have eW:∀s l o,fwd s=some l→(outs.map er)[l]? =some o→(ey back ζ (outs.map er) 0 (σ.boxes.map (Option.map (ai live ND))))[s]? =some (o.map (ai back ζ)):=fun s l o hf ho=>
  K1 _ 0 l _ o (aiq s) ((DW l s).2 hf) (Nat.zero_le _) (by simpa using ho) (al7 s l hf)
 have HX:∀s,fwd s=none→(ey back ζ (outs.map er) 0 (σ.boxes.map (Option.map (ai live ND))))[s]? =(σ.boxes[s]?).map (Option.map (ai live ND)):=fun s hf=>by
  rw[xx _ 0 _ fun l _ _ h=>by have:=(DW l s).1 h;rw[hf]at this;cases this]
  simp
 have hO:∀l,l< (outs.map er).length→∃o,(outs.map er)[l]? =some o:=fun l h=>⟨_,List.getElem?_eq_getElem h⟩
 refine⟨S',xk,oK,T.al live ND,Wq _ _ hx,⟨?_,J.lt, ?_, ?_, ?_, ?_, ?_, ?_,fun b o h=>KM _ _ (hI.base b o h),fun b o h0 sp v hv=>iv b o (hI.base b o h0) sp v (hI.stay b o h0 sp v hv), ?_⟩,kN,by simp[br],by simp[br]⟩
 ·exact⟨J.below.os.trans hI.below.os,J.below.tape.trans hI.below.tape,J.below.output.trans hI.below.output,Nat.le_trans hI.below.size J.below.size,hI.below.lt,fun k hk=>(J.below.block k (RU k hk)).trans (hI.below.block k hk),hI.below.room.trans J.below.room⟩
 ·intro s b hb
  simp only[xk]at hb
  cases hf:fwd s with
  |some l=>
   rw[hf]at hb
   obtain⟨h1,h2,cs,h3,h4⟩:=J.box l b hb
   refine⟨fun hx=>h1 (RU b hx),h2,ai back ζ cs,by rw[eW s l _ hf h3];rfl, ?_⟩
   rw[←(b9 s l hf).2,br]
   exact h4.mono rfl Wq
  |none=>
   rw[hf]at hb
   obtain⟨h1,h2,cs,h3,h4⟩:=hI.box s b hb
   have K5:=zh s b hf hb
   refine⟨h1,fun o ho=> ?_,ai live ND cs,by rw[HX s hf,h3];rfl, ?_⟩
   ·rcases J.top b o ho with h|h
    ·exact h2 o h
    ·exact h K5
   ·rw[br]
    exact h4.mono (J.below.block b K5) kN
 ·intro s cs hs
  cases hf:fwd s with
  |some l=>
   obtain⟨o,ho⟩:=hO l (b9 s l hf).1
   rw[eW s l o hf ho]at hs
   simp only[Option.some.injEq]at hs
   obtain⟨HY,rfl,rfl⟩:=Option.map_eq_some_iff.1 hs
   exact(J.boxed l HY ho).imp (fun e=>by rw[e];rfl) fun⟨b,hb⟩=>⟨b,by simp[xk,hf,hb]⟩
  |none=>
   rw[HX s hf]at hs
   obtain⟨o,ho,hs⟩:=Option.map_eq_some_iff.1 hs
   obtain⟨HY,rfl,rfl⟩:=Option.map_eq_some_iff.1 hs
   exact(hI.boxed s HY ho).imp (fun e=>by rw[e];rfl) fun⟨b,hb⟩=>⟨b,by simp[xk,hf,hb]⟩
 ·intro s1 s2 b h1 h2
  simp only[xk]at h1 h2
  cases Ge:fwd s1 with
  |some l1=>
   rw[Ge]at h1
   cases A8:fwd s2 with
   |some l2=>
    rw[A8]at h2
    have:=J.inj l1 l2 b h1 h2
    subst this
    have h3:=(DW l1 s1).2 Ge
    have h4:=(DW l1 s2).2 A8
    rw[h3]at h4
    exact Option.some.inj h4
   |none=>
    rw[A8]at h2
    exact absurd (zh s2 b A8 h2) (J.box l1 b h1).1
  |none=>
   rw[Ge]at h1
   cases A8:fwd s2 with
   |some l2=>
    rw[A8]at h2
    exact absurd (zh s1 b Ge h1) (J.box l2 b h2).1
   |none=>
    rw[A8]at h2
    exact hI.inj s1 s2 b h1 h2
 ·intro k y e hk
  simp only[oK]at hk
  split at hk
  ·obtain⟨g,n,c,sz,xs,i,rfl,hi,hsz,ho,h1,h2,h3⟩:=J.fX _ y e hk
   refine⟨g,n,c,sz,xs,i,rfl,hi,hsz,ho,h1,fun s hs=> ?_,fun hx=>h3 (RU g hx)⟩
   simp only[xk]at hs
   cases hf:fwd s with
   |some l=>rw[hf]at hs;exact h2 l hs
   |none=>rw[hf]at hs;exact h3 (zh s g hf hs)
  ·split at hk
   ·cases hk
   ·rename_i al8
    obtain⟨g,n,c,sz,xs,i,rfl,hi,hsz,ho,h1,h2,h3⟩:=hI.fX _ y e hk
    have K5:=Wo k _ e g al8 hk (by simp[Value.ownBlock])
    have jj:=J.below.block g K5
    refine⟨g,n,c,sz,xs,i,rfl,hi,hsz,⟨ho.1, ?_⟩,fun o hs=> ?_,fun s hs=> ?_,h3⟩
    ·rcases ho.2 with h|⟨g',cap,cur,e2,hv,hb,hg,r⟩
     ·exact .inl h
     ·simp only[Value.slice.injEq,Option.some.injEq,Addr.mk.injEq]at hv
      obtain⟨⟨rfl,_⟩,_,rfl⟩:=hv
      exact .inr ⟨g,_,cur,e2,rfl,hb,jj.trans hg,r⟩
    ·rcases J.top g o hs with h|h
     ·exact h1 o h
     ·exact absurd K5 h
    ·simp only[xk]at hs
     cases hf:fwd s with
     |some l=>rw[hf]at hs;exact(J.box l g hs).1 K5
     |none=>rw[hf]at hs;exact h2 s hs
 ·intro k k' y y' e e' hk cp hne
  simp only[oK]at hk cp
  have w7:∀k y e,φ' k=some (y,e)→∃g,y.ownBlock=some g∧¬X1 g:=fun k y e hk=>by
   obtain⟨g,n,c,sz,xs,i,rfl,_,_,_,_,_,h3⟩:=J.fX _ y e hk
   exact⟨g,by simp[Value.ownBlock],h3⟩
  have hold:∀k y e,k ∉ fs→φ k=some (y,e)→∃g,y.ownBlock=some g∧X1 g:=fun k y e NG hk=>by
   obtain⟨g,n,c,sz,xs,i,rfl,_,_,_,_,_,_⟩:=hI.fX _ y e hk
   exact⟨g,by simp[Value.ownBlock],Wo k _ e g NG hk (by simp[Value.ownBlock])⟩
  split at hk
  ·rename_i hd
   split at cp
   ·rename_i gK
    exact J.dK _ _ _ _ _ _ hk cp (by omega)
   ·split at cp
    ·cases cp
    ·rename_i NG
     obtain⟨g,gp,ui⟩:=w7 _ _ _ hk
     obtain⟨g',G4,NA⟩:=hold _ _ _ NG cp
     rw[gp,G4]
     intro h
     simp only[Option.some.injEq]at h
     exact ui (h▸NA)
  ·split at hk
   ·cases hk
   ·rename_i NG
    split at cp
    ·obtain⟨g,gp,ui⟩:=hold _ _ _ NG hk
     obtain⟨g',G4,NA⟩:=w7 _ _ _ cp
     rw[gp,G4]
     intro h
     simp only[Option.some.injEq]at h
     exact NA (h▸ui)
    ·split at cp
     ·cases cp
     ·exact hI.dK _ _ _ _ _ _ hk cp hne
 ·intro b o h
  rcases J.top b o h with h|h
  ·exact hI.top b o h
  ·exact .inr fun hx=>h (RU b hx)
 ·intro s b hn h0
  rcases hI.pJ s b hn h0 with h|h
  ·cases hf:fwd s with
   |none=>exact .inl (by simp[xk,hf,h])
   |some l=>
    cases js:iL ss s with
    |none=>have:=(BW s l js hf).2;omega
    |some l'=>
     have:l'=l:=by simp[fwd,js]at hf;exact hf
     subst this
     have lS:K3 l'=some b:=by simp[K3,(DU s l').1 js,h]
     rcases hst l' b lS with h'|h'
     ·exact .inl (by simp[xk,hf,h'])
     ·exact .inr (by rw[eW s l' _ hf h'];rfl)
  ·have hf:fwd s=none:=by
    cases hf:fwd s with
    |none=>rfl
    |some l=>
     cases js:iL ss s with
     |none=>have:=(BW s l js hf).2;omega
     |some l'=>
      have:=NF s (JI s l' js)
      obtain⟨cs,aG⟩:=Option.isSome_iff_exists.1 this
      rw[eX,h]at aG
      simp at aG
   exact .inr (by rw[HX s hf,h];rfl)
end
end Go.Vi
end
