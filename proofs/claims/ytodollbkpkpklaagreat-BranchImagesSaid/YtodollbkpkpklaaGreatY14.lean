/-
  A claim's own text, joined by a small program out of: Vj14, Vj14b.
-/
import Derived.Test.YtodollbkpkpklaaGreatY13
import Derived.RangeFuncNested
set_option linter.unusedVariables false
set_option linter.unusedSimpArgs false
section
namespace Go.Vi
open Go Go.RowKit
section
variable{P:Program}{W:di}{w:World}{S0 S:Nat→Nat→Prop}{β:aX}{φ:bB}{a:Act}{o:Oper}{σ:St}
def WG(P:Program)(S:Nat→Nat→Prop)(w w':World)(x:Value)(t:T):Prop:=
 ∃(S':Nat→Nat→Prop) (φ:bB),(∀b o,S' b o→S b o∨w.heap.size≤b)∧(∀b o,S' b o→b< w'.heap.size)∧ak S' w' bn φ x t∧
  (∀k x e,φ k=some (x,e)→NZ P (fun b=>b< w.heap.size) S' bn w' x e)∧∀k k' x x' e e',φ k=some (x,e)→φ k'=some (x',e')→k≠k'→x.ownBlock≠x'.ownBlock
def jG(P:Program)(f:FuncId):Bool:=
 match P.funcs[f]? with
 |some fn=>fn.body.isSome&& !(fn.name== "runtime.NumGoroutine")
 |none=>false
def Bz(P:Program)(f:FuncId)(args:List T)(r:T):Prop:=
 jG P f=true∧∀(w:World) (S:Nat→Nat→Prop) (vs:Array Value),(∀b o,S b o→b< w.heap.size)→vs.size=args.length→(∀(i:Nat) (x:Value) (t:T),vs[i]? =some x→args[i]? =some t→ak S w bn cD x t)→
  Calls P f vs w fun e w'=>∃x,e= .returned x∧Below w.heap.size w w'∧WG P S w w' x r
def yq(P:Program)(f:FuncId)(args:List T)(ins:List (Option (List T)))(r:T)(outs:List (Option (List T))):Prop:=
 jG P f=true∧∀(B:di) (S:Nat→Nat→Prop) (β:aX) (φ:bB) (vs:Array Value),Inv P B S S β φ ins B.w→vs.size=args.length→(∀(i:Nat) (x:Value) (t:T),vs[i]? =some x→args[i]? =some t→ak S B.w β φ x t)→
  Calls P f vs B.w fun e w'=>∃x S' β' φ',e= .returned x∧Inv P {B with nb:=0,β0:=bn} S S' β' φ' outs w'∧ak S' w' β' φ' x r∧∀l b,β l=some b→β' l=some b∨outs[l]? =some none
def wd(r:Option Nat):Fence:={Fence.wide with round:=r}
structure IterStep(own tu:Nat→Prop)(W W':World):Prop where
 os:W'.os=W.os
 tape:W'.tape=W.tape
 output:W'.output=W.output
 size:W.heap.size≤W'.heap.size
 grow:∀b,own b→tu b
 new:∀b,tu b→own b∨(W.heap.size≤b∧b< W'.heap.size)
 block:∀b,b< W.heap.size→¬own b→W'.heap[b]? =W.heap[b]?
 room:cg W W'
structure zV(S:Nat→Nat→Prop)(own:Nat→Prop)(W W':World):Prop where
 os:W'.os=W.os
 tape:W'.tape=W.tape
 output:W'.output=W.output
 size:W.heap.size≤W'.heap.size
 block:∀b,own b→W'.heap[b]? =W.heap[b]?
 room:cg W W'
 cell:∀b o,S b o→∀sp v,W.cell? ⟨b,o,sp⟩=some v→W'.cell? ⟨b,o,sp⟩=some v
def Ht(P:Program)(f:FuncId)(caps:List T)(ys:List (List T)):Prop:=
 jG P f=true∧∀(l:Nat) (w:World) (S:Nat→Nat→Prop) (vs:Array Value),(∀b o,S b o→b< w.heap.size)→vs.size=caps.length→(∀(i:Nat) (x:Value) (t:T),vs[i]? =some x→caps[i]? =some t→ak S w bn cD x t)→
  ∀(J:Nat→(Nat→Prop)→World→Prop),(∀k own tu W W',J k own W→(∀b,own b→w.heap.size≤b∧b< W.heap.size)→IterStep own tu W W'→J k tu W')→
  (∀k y own W (xs:Array Value),ys[k]? =some y→J k own W→(∀b,own b→w.heap.size≤b∧b< W.heap.size)→xs.size=y.length→(∀(i:Nat) (x:Value) (t:T),xs[i]? =some x→y[i]? =some t→ak S W bn cD x t)→
   ∀n,YieldAt (wd none) n P l xs W fun e W'=>e= .returned (.bool true)∧J (k+1) own W'∧zV S own W W')→
  J 0 (fun _=>False) w→∀n,CallsIn (wd none) n P f (#[.func (.yield l) #[] #[]]++vs) w fun e W'=>(∃v,e= .returned v)∧∃own,(∀b,own b→w.heap.size≤b∧b< W'.heap.size)∧J ys.length own W'
def Sound(P:Program)(f:FuncId)(args:List T)(r:T):Prop:=
 if f< an then Bz P f args r
 else(∃as ins r' outs,args=[.al as,.al ins]∧r= .al [r',.al outs]∧yq P (f-an) as (ins.map eD) r' (outs.map eD))∨
  ∃caps ys,args=[.al caps]∧r= .al (ys.map .al)∧Ht P (f-an) caps ys
def ga(S:Nat→Nat→Prop)(β:aX):Nat→Nat→Prop:=fun b o=>S b o∨∃s,β s=some b
theorem mapM_map{α γ:Type}{f:α→Option γ}{xs:List α}{ys:List γ}(h:xs.mapM f=some ys):∀(i:Nat) (y:γ),ys[i]? =some y→∃x,xs[i]? =some x∧f x=some y:=by
 intro i y hy
 obtain⟨h1,h2⟩:=du h
 have hi:=(List.getElem?_eq_some_iff.1 hy).1
 have vp:i< xs.length:=by omega
 exact⟨xs[i],by simp[vp],h2 i _ y (by simp[vp]) hy⟩
theorem AM{bx:List (Option (List T))}(hI:Inv P W S0 S β φ bx w):∀(k:Nat) (x:Value) (t u:T),ak S w β φ x t→close bx k t=some u→ak (ga S β) w bn cD x u:=by
 intro k
 induction k with
 |zero=>intro x t u _ h;simp[close]at h
 |succ k ih=>
  intro x t u hr h
  have hS:∀b o,S b o→ga S β b o:=fun b o h=> .inl h
  cases hr with
  |undef=>simp only[close,Option.some.injEq]at h;subst h;exact .undef ..
  |v=>simp only[close,Option.some.injEq]at h;subst h;exact .v ..
  |nil=>simp only[close,Option.some.injEq]at h;subst h;exact .nil _ _ _ rfl
  |sl _ _ g ad n c cs f cG hg aF cj=>
   have yQ:∀i,i< cs.length→ga S β ad.block (ad.off+i)∧w.cell? (ad.add i)=some (f i)∧(f i).oneCell'=true:=fun i hi=>⟨hS _ _ (aF i hi).1,(aF i hi).2⟩
   have aiW:∀(i:Nat) (t:T),cs[i]? =some t→ak (ga S β) w bn cD (f i) t:=fun i t ht=>(cj i t ht).mono hS (fun _ _=>id) (fun _ _=>id) (fun _ _ _ _ _=>id) (cg.refl _)
   simp only[close,Option.some.injEq]at h
   subst h
   exact .sl _ _ _ ad n c cs f cG (.inl (.inr rfl)) yQ aiW
  |ptr _ _ ad cs off f aF cj=>
   simp only[close,Option.some.injEq]at h
   subst h
   exact .ptr _ _ ad cs off f (fun i hi=>⟨hS _ _ (aF i hi).1,(aF i hi).2⟩) fun i t ht=>(cj i t ht).mono hS (fun _ _=>id) (fun _ _=>id) (fun _ _ _ _ _=>id) (cg.refl _)
  |aQ=>simp only[close,Option.some.injEq]at h;subst h;exact .undef ..
  |iv _ _ ad s off m=>
   simp only[close,if_true,Option.some.injEq]at h
   subst h
   cases ad with
   |none=>exact .nil _ _ _ rfl
   |some ad=>exact .sl _ _ _ ad _ _ _ (fun _=>undef) (Nat.le_refl _) (.inl (.inr rfl)) (fun i hi=>by simp at hi) (fun i t ht=>by simp at ht)
  |ref _ _ s off b hb hp=>
   simp only[close]at h
   split at h<;>try(cases h;done)
   rename_i cs hs
   obtain⟨b9,yQ,rfl⟩:=Option.map_eq_some_iff.1 h
   obtain⟨c,e,hc,hsz,h1,cj⟩:=mQ hI hb hp hs
   obtain⟨hl,_⟩:=du yQ
   have:=ak.ptr (S:=ga S β) (w:=w) bn cD ⟨b,0,none⟩ b9 off (fun i=>c.getD i undef) (fun i hi=>⟨.inr ⟨s,hb⟩,by rw[lR,Nat.zero_add,yW hc];simp[Array.getD,show i< c.size by omega],h1 i _ (by omega) (by simp[Array.getD,show i< c.size by omega])⟩)
    (fun i t ht=>by
     obtain⟨q,hq,bV⟩:=mapM_map yQ i t ht
     have hi:=(List.getElem?_eq_some_iff.1 hq).1
     exact ih _ q t (cj i _ q (by simp[Array.getD,show i< c.size by omega]) hq) bV)
   rwa [lR,Nat.zero_add]at this
  |au _ _ s off n m b c hb hp cG oZ=>
   simp only[close]at h
   split at h
   ·rename_i hn
    simp only[Option.some.injEq]at h
    subst h hn
    exact .sl _ _ _ ⟨b,off,none⟩ 0 c [] (fun _=>undef) (Nat.zero_le _) (.inl (.inr rfl)) (fun i hi=>by simp at hi) (fun i t ht=>by simp at ht)
   split at h<;>try(cases h;done)
   rename_i cs hs
   obtain⟨b9,yQ,rfl⟩:=Option.map_eq_some_iff.1 h
   obtain⟨cc,e,hc,hsz,h1,cj⟩:=mQ hI hb hp hs
   obtain⟨hl,_⟩:=du yQ
   simp only[List.length_take,List.length_drop]at hl
   exact .sl _ _ _ ⟨b,off,none⟩ n c b9 (fun i=>cc.getD (off+i) undef) cG (.inl (.inr rfl)) (fun i hi=>⟨.inr ⟨s,hb⟩,by rw[lR,yW hc];simp[Array.getD,show off+i< cc.size by omega],h1 (off+i) _ (by omega) (by simp[Array.getD,show off+i< cc.size by omega])⟩)
    (fun i t ht=>by
     obtain⟨q,hq,bV⟩:=mapM_map yQ i t ht
     rw[List.getElem?_take]at hq
     split at hq
     ·rw[List.getElem?_drop]at hq
      have hi:=(List.getElem?_eq_some_iff.1 hq).1
      exact ih _ q t (cj (off+i) _ q (by simp[Array.getD,show off+i< cc.size by omega]) hq) bV
     ·cases hq)
  |agg _ _ xs ts hl h1 cj=>
   simp only[close]at h
   obtain⟨us,wV,rfl⟩:=Option.map_eq_some_iff.1 h
   obtain⟨hlu,hsp⟩:=du wV
   exact .agg _ _ _ _ (by omega) h1 fun i x u hx hu=>by
    obtain⟨q,hq,bV⟩:=mapM_map wV i u hu
    exact ih x q u (cj i x q hx hq) bV
  |al _ _ xs ts hl cj=>
   simp only[close]at h
   obtain⟨us,wV,rfl⟩:=Option.map_eq_some_iff.1 h
   obtain⟨hlu,hsp⟩:=du wV
   exact .al _ _ _ _ (by omega) fun i x u hx hu=>by
    obtain⟨q,hq,bV⟩:=mapM_map wV i u hu
    exact ih x q u (cj i x q hx hq) bV
  |bq _ _ fn xs ys ts us hx hy h1 h2=>
   simp only[close,Option.bind_eq_bind,Option.pure_def]at h
   obtain⟨Gy,zU,h⟩:=Option.bind_eq_some_iff.1 h
   obtain⟨us',wV,h⟩:=Option.bind_eq_some_iff.1 h
   simp only[Option.some.injEq]at h
   subst h
   obtain⟨fg,_⟩:=du zU
   obtain⟨nx,_⟩:=du wV
   exact .bq _ _ _ _ _ _ _ (by omega) (by omega) (fun i x u hx hu=>by
    obtain⟨q,hq,bV⟩:=mapM_map zU i u hu
    exact ih x q u (h1 i x q hx hq) bV) (fun i x u hx hu=>by
    obtain⟨q,hq,bV⟩:=mapM_map wV i u hu
    exact ih x q u (h2 i x q hx hq) bV)
theorem N0{bx:List (Option (List T))}:∀(k:Nat) (x:Value) (t u:T),ak S w β φ x t→t.aU=false→close bx k t=some u→ak S w bn cD x u:=by
 intro k
 induction k with
 |zero=>intro x t u _ _ h;simp[close]at h
 |succ k ih=>
  intro x t u hr hn h
  cases hr with
  |undef=>simp only[close,Option.some.injEq]at h;subst h;exact .undef ..
  |v=>simp only[close,Option.some.injEq]at h;subst h;exact .v ..
  |nil=>simp only[close,Option.some.injEq]at h;subst h;exact .nil _ _ _ rfl
  |sl _ _ g ad n c cs f cG hg aF cj=>
   simp only[close,Option.some.injEq]at h
   subst h
   exact .sl _ _ _ ad n c cs f cG (.inl (.inr rfl)) aF cj
  |ptr _ _ ad cs off f aF cj=>simp only[close,Option.some.injEq]at h;subst h;exact .ptr _ _ ad cs off f aF cj
  |ref=>simp[T.aU]at hn
  |au=>simp[T.aU]at hn
  |iv=>simp[T.aU]at hn
  |aQ=>simp[T.aU]at hn
  |agg _ _ xs ts hl h1 cj=>
   simp only[T.aU,wv,List.any_eq_false]at hn
   simp only[close]at h
   obtain⟨us,wV,rfl⟩:=Option.map_eq_some_iff.1 h
   obtain⟨hlu,hsp⟩:=du wV
   exact .agg _ _ _ _ (by omega) h1 fun i x u hx hu=>by
    obtain⟨q,hq,bV⟩:=mapM_map wV i u hu
    exact ih x q u (cj i x q hx hq) (by simpa using hn q (List.mem_of_getElem? hq)) bV
  |al _ _ xs ts hl cj=>
   simp only[T.aU,wv,List.any_eq_false]at hn
   simp only[close]at h
   obtain⟨us,wV,rfl⟩:=Option.map_eq_some_iff.1 h
   obtain⟨hlu,hsp⟩:=du wV
   exact .al _ _ _ _ (by omega) fun i x u hx hu=>by
    obtain⟨q,hq,bV⟩:=mapM_map wV i u hu
    exact ih x q u (cj i x q hx hq) (by simpa using hn q (List.mem_of_getElem? hq)) bV
  |bq _ _ fn xs ys ts us hx hy h1 h2=>
   simp only[T.aU,wv,Bool.or_eq_false_iff,List.any_eq_false]at hn
   simp only[close,Option.bind_eq_bind,Option.pure_def]at h
   obtain⟨Gy,zU,h⟩:=Option.bind_eq_some_iff.1 h
   obtain⟨us',wV,h⟩:=Option.bind_eq_some_iff.1 h
   simp only[Option.some.injEq]at h
   subst h
   obtain⟨fg,_⟩:=du zU
   obtain⟨nx,_⟩:=du wV
   exact .bq _ _ _ _ _ _ _ (by omega) (by omega) (fun i x u hx hu=>by
    obtain⟨q,hq,bV⟩:=mapM_map zU i u hu
    exact ih x q u (h1 i x q hx hq) (by simpa using hn.1 q (List.mem_of_getElem? hq)) bV) (fun i x u hx hu=>by
    obtain⟨q,hq,bV⟩:=mapM_map wV i u hu
    exact ih x q u (h2 i x q hx hq) (by simpa using hn.2 q (List.mem_of_getElem? hq)) bV)
mutual
theorem Em(d:Nat):∀t:T,t.import d=t.aj some (fun k=>if k< 8 then some (8*d+k)else none)
 | .sl (.own k e) n cs=>by simp only[T.import,T.aj];split<;>rfl
 | .sl .nil n cs| .sl .any n cs| .sl .l9 n cs| .sl .clip n cs=>rfl
 | .agg ts=>by simp only[T.import,T.aj,o3 d ts]
 | .al ts=>by simp only[T.import,T.aj,o3 d ts]
 | .bq f a b=>by simp only[T.import,T.aj,o3 d a,o3 d b]
 | .undef| .v _| .ptr _ _| .ref _ _| .au _ _ _ _| .aQ _=>rfl
theorem o3(d:Nat):∀ts:List T,dz d ts=ah some (fun k=>if k< 8 then some (8*d+k)else none) ts
 | []=>rfl
 |t::ts=>by simp only[dz,ah,Em d t,o3 d ts]
end
theorem ak.import{φ':bB}{x:Value}{t:T}(d:Nat)(h:ak S w β φ x t)(wN:∀k p,k< 8→φ k=some p→φ' (8*d+k)=some p):ak S w β φ' x (t.import d):=by
 rw[Em]
 refine h.aj (fun s s' b h1 h2=> ?_) (fun s s' h1=> ?_) fun k k' p h1 h2=> ?_
 ·simp only[Option.some.injEq]at h1;subst h1;exact h2
 ·simp only[Option.some.injEq]at h1;subst h1;rfl
 ·split at h1
  ·rename_i hh
   simp only[Option.some.injEq]at h1
   subst h1
   exact wN _ _ hh h2
  ·cases h1
theorem R7(d k:Nat):hit (2*d) k=true↔k / 8=d:=by
 simp only[hit,show 2*d%2=0 by omega,if_true,beq_iff_eq]
 omega
theorem Io{d:Nat}(hI:Inv P W S0 S β φ σ.boxes w){w':World}(hb:Below w.heap.size w w'){S':Nat→Nat→Prop}{ψ:bB}{x:Value}{r:T}(hlt:∀b o,S' b o→b< w'.heap.size)
  (hr:ak (fun b o=>S b o∨(w.heap.size≤b∧S' b o)) w' bn ψ x r) (hf:∀k x e,ψ k=some (x,e)→NZ P (fun b=>b< w.heap.size) S' bn w' x e)
  (TR:∀k k' x x' e e',ψ k=some (x,e)→ψ k'=some (x',e')→k≠k'→x.ownBlock≠x'.ownBlock):ax P W S0 S β φ w σ (σ.strip (2*d)) (r.import d) x w':=by
 let S2:Nat→Nat→Prop:=fun b o=>S b o∨(w.heap.size≤b∧S' b o)
 let o4:bB:=fun k=>if k / 8=d then ψ (k%8)else φ k
 have hg:=hI.grow hb
 have hsz:=hb.size
 have agt:∀s b,β s=some b→b< w.heap.size:=fun s b hs=>hI.wo hs
 have lh:∀y u,ak S w β φ y u→ak S2 w' β o4 y (u.strip (2*d)):=fun y u h=>
  ak.strip (2*d) ((h.grow hI.lt hb).mono (fun b o h=> .inl h) (fun _ _=>id) (fun _ _=>id) (fun _ _ _ _ _=>id) (cg.refl _)) fun k p hk hne=>by
   have:¬k / 8=d:=fun h=>by rw[←R7]at h;rw[h]at hne;cases hne
   simp[o4,this,hk]
 refine⟨S2,β,o4,T.strip (2*d), ?_,⟨hg.below, ?_, ?_, ?_,hI.inj, ?_, ?_,fun b o h=> ?_,fun b o h=> .inl (hg.base b o h),hg.stay,fun s b hn h0=>(hI.pX s b hn h0).imp id fun h=>by simp[St.strip,h]⟩,lh,by simp[St.strip,aE],by simp[St.strip,aE]⟩
 ·exact(hr.import d (φ':=o4) fun k p hk hp=>by
   have h1:(8*d+k) / 8=d:=by omega
   have h2:(8*d+k)%8=k:=by omega
   simp[o4,h1,h2,hp]).mono (fun _ _=>id) (fun s b h=>by simp[bn]at h) (fun _ _=>id) (fun _ _ _ _ _=>id) (cg.refl _)
 ·intro b o h
  rcases h with h|⟨_,h⟩
  ·exact hg.lt b o h
  ·exact hlt b o h
 ·intro s b hs
  obtain⟨h1,h2,cs,h3,h4⟩:=hI.box s b hs
  refine⟨h1,fun o ho=> ?_,cs.map (T.strip (2*d)), ?_,h4.mono (hb.block b h4.lt) lh⟩
  ·rcases ho with ho|⟨ho,_⟩
   ·exact h2 o ho
   ·have:=hI.wo hs;omega
  ·simp only[St.strip,List.getElem?_map,h3,Option.map_some,aE]
 ·intro s cs hs
  simp only[St.strip,List.getElem?_map,Option.map_eq_some_iff]at hs
  obtain⟨ob,BA,hs⟩:=hs
  cases ob with
  |none=>simp at hs
  |some b9=>
   simp only[Option.map_some,Option.some.injEq]at hs
   exact(hI.boxed s b9 BA).imp (fun e=>by obtain⟨u,hu,hs⟩:=hs;subst hu;rw[←hs,e];rfl) id
 ·intro k y e hk
  by_cases h:k / 8=d
  ·simp only[o4,h,if_true]at hk
   obtain⟨g,n,c,sz,xs,i,rfl,hi,hs,ho,h1,h2,h3⟩:=hf _ y e hk
   refine⟨g,n,c,sz,xs,i,rfl,hi,hs,ho,fun o h=> ?_,fun s fA=> ?_,fun hX=> ?_⟩
   ·rcases h with h|⟨_,h⟩
    ·have:=hI.lt g o h;omega
    ·exact h1 o h
   ·have:=agt s g fA;omega
   ·have:=hI.below.lt _ hX;have:=hI.below.size;omega
  ·simp only[o4,h,if_false]at hk
   obtain⟨g,n,c,sz,xs,i,rfl,hi,hs,ho,h1,h2⟩:=hg.gm k y e hk
   have hgl:=hI.Ic hk (g:=g) (by simp[Value.ownBlock])
   refine⟨g,n,c,sz,xs,i,rfl,hi,hs,ho,fun o h=> ?_,h2⟩
   rcases h with h|⟨h,_⟩
   ·exact h1 o h
   ·omega
 ·have xI:∀k y e,ψ k=some (y,e)→∃g,y.ownBlock=some g∧w.heap.size≤g:=fun k y e hk=>by
   obtain⟨g,n,c,sz,xs,i,rfl,hi,hs,ho,h1,h2,h3⟩:=hf _ y e hk
   exact⟨g,by simp[Value.ownBlock],Nat.le_of_not_lt h3⟩
  have hold:∀k y e,φ k=some (y,e)→∃g,y.ownBlock=some g∧g< w.heap.size:=fun k y e hk=>by
   obtain⟨g,n,c,sz,xs,i,rfl,hi,hs,ho,h1,h2⟩:=hI.gm _ y e hk
   exact⟨g,by simp[Value.ownBlock],(ho.lt g (by simp[Value.ownBlock])).2⟩
  intro k k' y y' e e' hk cr hne
  by_cases h:k / 8=d<;>by_cases h':k' / 8=d
  ·simp only[o4,h,if_true]at hk
   simp only[o4,h',if_true]at cr
   exact TR _ _ _ _ _ _ hk cr (by omega)
  ·simp only[o4,h,if_true]at hk
   simp only[o4,h',if_false]at cr
   obtain⟨g,gA,uL⟩:=xI _ _ _ hk
   obtain⟨g',Hu,N1⟩:=hold _ _ _ cr
   rw[gA,Hu];simp;omega
  ·simp only[o4,h,if_false]at hk
   simp only[o4,h',if_true]at cr
   obtain⟨g,gA,uL⟩:=hold _ _ _ hk
   obtain⟨g',Hu,N1⟩:=xI _ _ _ cr
   rw[gA,Hu];simp;omega
  ·simp only[o4,h,if_false]at hk
   simp only[o4,h',if_false]at cr
   exact hI.dS _ _ _ _ _ _ hk cr hne
 ·rcases h with h|⟨h,_⟩
  ·exact hI.top b o h
  ·exact .inr fun hX=>by have:=hI.below.lt _ hX;have:=hI.below.size;omega
theorem Ip{S':Nat→Nat→Prop}{w':World}{ψ:bB}{x:Value}{t:T}{n0:Nat}(hf:∀k x e,ψ k=some (x,e)→NZ P (fun b=>b< n0) S' bn w' x e)(h:ak S' w' bn ψ x t)(lS:t.fresh1=true):
  ak (fun b o=>S b o∨(n0≤b∧S' b o)) w' bn ψ x t:=by
 cases h with
 |undef=>exact .undef ..
 |v=>exact .v ..
 |nil _ _ g hg=>exact .nil _ _ g hg
 |sl _ _ g ad n c cs f cG hg aF cj=>
  have Hv:cs=[]→ak (fun b o=>S b o∨(n0≤b∧S' b o)) w' bn ψ (.slice (some ad) n c) (.sl g n cs):=fun h=>by
   subst h
   exact .sl _ _ _ ad n c [] f cG hg (fun i hi=>by simp at hi) (fun i t ht=>by simp at ht)
  rcases hg with(rfl|rfl)|⟨rfl,hg⟩|⟨k,e,rfl,hk⟩
  ·exact Hv (by cases cs<;>simp[T.fresh1]at lS⊢)
  ·exact Hv (by cases cs<;>simp[T.fresh1]at lS⊢)
  ·exact Hv (by cases cs<;>simp[T.fresh1]at lS⊢)
  ·simp only[T.fresh1,List.all_eq_true]at lS
   rcases hk with hk|⟨_,_,rfl⟩
   ·obtain⟨g',n',c',sz,xs,i,hx,hi,hs,ho,h1,h2,h3⟩:=hf k _ e hk
    simp only[Value.slice.injEq,Option.some.injEq]at hx
    obtain⟨rfl,rfl,rfl⟩:=hx
    refine .sl _ _ _ ⟨g',0,none⟩ n c cs f cG (.inr (.inr ⟨k,e,rfl,.inl hk⟩)) (fun i hi=>⟨.inr ⟨Nat.le_of_not_lt h3,(aF i hi).1⟩,(aF i hi).2⟩) (fun i t ht=> ?_)
    have hv:=lS t (List.mem_of_getElem? ht)
    cases t<;>simp[T.A4]at hv
    have:=cj i _ ht
    have:=cA this
    subst this
    exact .v ..
   ·exact Hv rfl
 |ptr=>simp[T.fresh1]at lS
 |ref=>simp[T.fresh1]at lS
 |au=>simp[T.fresh1]at lS
 |iv=>simp[T.fresh1]at lS
 |aQ=>simp[T.fresh1]at lS
 |agg=>simp[T.fresh1]at lS
 |al=>simp[T.fresh1]at lS
 |bq=>simp[T.fresh1]at lS
theorem Iq{S':Nat→Nat→Prop}{w':World}{ψ:bB}{x:Value}{t:T}{n0:Nat}(hf:∀k x e,ψ k=some (x,e)→NZ P (fun b=>b< n0) S' bn w' x e)(h:ak S' w' bn ψ x t)(lS:t.fresh2=true):
  ak (fun b o=>S b o∨(n0≤b∧S' b o)) w' bn ψ x t:=by
 by_cases ha:∃cs,t= .agg cs
 ·obtain⟨cs,rfl⟩:=ha
  simp only[T.fresh2,List.all_eq_true]at lS
  cases h with
  |agg _ _ xs ts hl h1 cj=>exact .agg _ _ _ _ hl h1 fun i x t hx ht=>Ip hf (cj i x t hx ht) (lS t (List.mem_of_getElem? ht))
 ·refine Ip hf h ?_
  cases t<;>first|exact lS|exact absurd ⟨_,rfl⟩ ha
theorem WH{S':Nat→Nat→Prop}{w':World}{ψ:bB}{x:Value}{t:T}{n0:Nat}(hf:∀k x e,ψ k=some (x,e)→NZ P (fun b=>b< n0) S' bn w' x e)(h:ak S' w' bn ψ x t)(lS:t.fresh=true):
  ak (fun b o=>S b o∨(n0≤b∧S' b o)) w' bn ψ x t:=by
 by_cases ha:∃cs,t= .al cs
 ·obtain⟨cs,rfl⟩:=ha
  simp only[T.fresh,List.all_eq_true]at lS
  cases h with
  |al _ _ xs ts hl cj=>exact .al _ _ _ _ hl fun i x t hx ht=>Iq hf (cj i x t hx ht) (lS t (List.mem_of_getElem? ht))
 ·refine Iq hf h ?_
  cases t<;>first|exact lS|exact absurd ⟨_,rfl⟩ ha
theorem Q1{C:FuncId→List T→Option T}(hC:∀f args r,C f args=some r→Sound P f args r){d f:Nat}{as:List T}{vs:Array Value}{t:T}{σ':St}(hI:Inv P W S0 S β φ σ.boxes w)
  (hl:vs.size=as.length) (ha:∀(i:Nat) (x:Value) (t:T),vs[i]? =some x→as[i]? =some t→ak S w β φ x t) (hr:ae.cW C σ d f as=some (t,σ')):
  jG P f=true∧Calls P f vs w fun e w'=>∃x,e= .returned x∧ax P W S0 S β φ w σ σ' t x w':=by
 simp only[ae.cW,Option.bind_eq_bind]at hr
 obtain⟨cs,aF,hr⟩:=Option.bind_eq_some_iff.1 hr
 obtain⟨r,xS,hr⟩:=Option.bind_eq_some_iff.1 hr
 split at hr<;>try(cases hr;done)
 rename_i lS
 simp only[Option.some.injEq,Prod.mk.injEq]at hr
 obtain⟨rfl,rfl⟩:=hr
 unfold ue at xS
 split at xS<;>try(cases xS;done)
 rename_i hlt
 have hS:=hC f cs r xS
 unfold Sound at hS
 rw[if_pos hlt]at hS
 obtain⟨jl,En⟩:=hS
 refine⟨jl, ?_⟩
 obtain⟨wO,_⟩:=du aF
 by_cases Hw:aZ as=true
 ·have agu:r.fresh=true:=by simpa [Hw]using lS
  refine(En w (ga S β) vs (fun b o h=> ?_) (by omega) (fun i x u hx hu=> ?_)).mono fun e w' h=> ?_
  ·rcases h with h|⟨s,h⟩
   ·exact hI.lt b o h
   ·exact hI.wo h
  ·obtain⟨q,hq,bV⟩:=mapM_map aF i u hu
   exact AM hI 6 x q u (ha i x q hx hq) bV
  ·obtain⟨x,rfl,hb,S',ψ,h1,h2,h3,h4,h5⟩:=h
   exact⟨x,rfl,Io hI hb h2 (WH h4 h3 agu) h4 h5⟩
 ·simp only[wv,Bool.not_eq_true,List.any_eq_false]at Hw
  refine(En w S vs hI.lt (by omega) (fun i x u hx hu=> ?_)).mono fun e w' h=> ?_
  ·obtain⟨q,hq,bV⟩:=mapM_map aF i u hu
   exact N0 6 x q u (ha i x q hx hq) (by simpa using Hw q (List.mem_of_getElem? hq)) bV
  ·obtain⟨x,rfl,hb,S',ψ,h1,h2,h3,h4,h5⟩:=h
   refine⟨x,rfl,Io hI hb h2 (h3.mono (fun b o h=> ?_) (fun _ _=>id) (fun _ _=>id) (fun _ _ _ _ _=>id) (cg.refl _)) h4 h5⟩
   rcases h1 b o h with h'|h'
   ·exact .inl h'
   ·exact .inr ⟨h',h⟩
end
end Go.Vi
end
section
namespace Go.Vi
open Go Go.RowKit
theorem Eo{l:List Nat}{x i:Nat}(hn:l.Nodup)(h:l[i]? =some x):l.idxOf? x=some i:=by
 have hm:=List.mem_of_getElem? h
 cases hj:l.idxOf? x with
 |none=>
  rw[List.idxOf?,List.findIdx?_eq_none_iff]at hj
  have:=hj x hm
  simp at this
 |some j=>
  have h2:=fz hj
  obtain⟨h3,h4⟩:=List.getElem?_eq_some_iff.1 h
  obtain⟨h5,h6⟩:=List.getElem?_eq_some_iff.1 h2
  have:j=i:=(List.getElem_inj hn).1 (h6.trans h4.symm)
  rw[this]
theorem tN{ss:List Nat}{s l:Nat}(h:iU ss s=some l):fF ss l=some s∧l%2=s%2∧l< 2*ss.length:=by
 unfold iU at h
 obtain⟨i,hi,rfl⟩:=Option.map_eq_some_iff.1 h
 have h1:=fz hi
 have h2:=(List.getElem?_eq_some_iff.1 h1).1
 have e1:(2*i+s%2) / 2=i:=by omega
 have e2:(2*i+s%2)%2=s%2:=by omega
 refine⟨?_,e2,by omega⟩
 simp only[fF,e1,h1,Option.bind_some,e2,if_true]
theorem Ep{ss:List Nat}(hn:ss.Nodup){s l:Nat}(h:fF ss l=some s):iU ss s=some l:=by
 unfold fF at h
 obtain⟨s',fA,h⟩:=Option.bind_eq_some_iff.1 h
 split at h
 ·rename_i hp
  simp only[Option.some.injEq]at h
  subst h
  simp only[iU,Eo hn fA,Option.map_some,Option.some.injEq]
  omega
 ·cases h
def M4(fs:List Nat)(k':Nat):Option Nat:=
 if k'%8=0∧ko≤k' / 8 then(fs[k' / 8-ko]?).bind fun k=>if rM fs k=some k' then some k else none else none
theorem Lq{fs:List Nat}{k k':Nat}:rM fs k=some k'↔M4 fs k'=some k:=by
 constructor
 ·intro h
  have h0:=h
  unfold rM at h
  obtain⟨i,hi,rfl⟩:=Option.map_eq_some_iff.1 h
  have h1:=fz hi
  have e1:8*(ko+i)%8=0:=by omega
  have e2:8*(ko+i) / 8=ko+i:=by omega
  have e3:ko+i-ko=i:=by omega
  simp only[M4,e1,e2,e3,h1,true_and,Nat.le_add_right,if_true,Option.bind_some,h0]
 ·intro h
  unfold M4 at h
  split at h
  ·obtain⟨k2,vv,h⟩:=Option.bind_eq_some_iff.1 h
   split at h
   ·simp only[Option.some.injEq]at h;subst h;assumption
   ·cases h
  ·cases h
theorem Lr(o:Option (List T)):eD (As o)=o:=by cases o<;>rfl
structure Core(P:Program)(X:Nat→Prop)(S:Nat→Nat→Prop)(β:aX)(φ:bB)(bx:List (Option (List T)))(w:World):Prop where
 lt:∀b o,S b o→b< w.heap.size
 box:∀s b,β s=some b→¬X b∧(∀o,¬S b o)∧∃cs,bx[s]? =some (some cs)∧qW S w β φ (s%2) b cs
 boxed:∀s cs,bx[s]? =some (some cs)→cs=[]∨∃b,β s=some b
 inj:∀s s' b,β s=some b→β s'=some b→s=s'
 gm:∀k x e,φ k=some (x,e)→NZ P X S β w x e
 dS:∀k k' x x' e e',φ k=some (x,e)→φ k'=some (x',e')→k≠k'→x.ownBlock≠x'.ownBlock
section
variable{P:Program}{W:di}{w:World}{S0 S:Nat→Nat→Prop}{β:aX}{φ:bB}{a:Act}{o:Oper}{σ:St}
theorem Inv.core{bx:List (Option (List T))}(h:Inv P W S0 S β φ bx w):Core P W.X S β φ bx w:=⟨h.lt,h.box,h.boxed,h.inj,h.gm,h.dS⟩
theorem Core.relabel{X X':Nat→Prop}{bx bx':List (Option (List T))}{ρ ρi η ηi:Nat→Option Nat}(h:Core P X S β φ bx w)(Er:∀s l,ρ s=some l↔ρi l=some s)(N2:∀k k',η k=some k'↔ηi k'=some k)
  (hp:∀s l,ρ s=some l→l%2=s%2) (mc:∀s l cs,ρ s=some l→bx[s]? =some (some cs)→bx'[l]? =some (some (ah ρ η cs)))
  (tO:∀l b9,bx'[l]? =some (some b9)→b9=[]∨∃s cs,ρ s=some l∧bx[s]? =some (some cs)∧b9=ah ρ η cs)
  (hX:∀b,X' b→X b∨((∀l,(ρi l).bind β≠some b)∧∀k x e,(ηi k).bind φ=some (x,e)→x.ownBlock≠some b)):
  Core P X' S (fun l=>(ρi l).bind β) (fun k=>(ηi k).bind φ) bx' w∧∀x t,ak S w β φ x t→ak S w (fun l=>(ρi l).bind β) (fun k=>(ηi k).bind φ) x (t.aj ρ η):=by
 have hm:∀x t,ak S w β φ x t→ak S w (fun l=>(ρi l).bind β) (fun k=>(ηi k).bind φ) x (t.aj ρ η):=fun x t hx=>
  hx.aj (fun s s' b h1 h2=>by simp[(Er s s').1 h1,h2]) hp (fun k k' p h1 h2=>by simp[(N2 k k').1 h1,h2])
 refine⟨⟨h.lt,fun l b hb=> ?_,fun l b9 hl=> ?_,fun l l' b hb ff=> ?_,fun k x e hk=> ?_,fun k k' x x' e e' hk cr hne=> ?_⟩,hm⟩
 ·have kY:=hb
  obtain⟨s,hs,hb⟩:=Option.bind_eq_some_iff.1 hb
  obtain⟨h1,h2,cs,h3,h4⟩:=h.box s b hb
  have fB:=(Er s l).2 hs
  refine⟨fun hx=> ?_,h2,ah ρ η cs,mc s l cs fB h3, ?_⟩
  ·rcases hX b hx with h'|h'
   ·exact h1 h'
   ·exact h'.1 l kY
  ·rw[bu,hp s l fB]
   exact h4.mono rfl hm
 ·rcases tO l b9 hl with h'|⟨s,cs,h1,h2,rfl⟩
  ·exact .inl h'
  ·refine(h.boxed s cs h2).imp (fun e=>by rw[e];rfl) fun⟨b,hb⟩=>⟨b,by simp[(Er s l).1 h1,hb]⟩
 ·obtain⟨s,hs,hb⟩:=Option.bind_eq_some_iff.1 hb
  obtain⟨s',fA,ff⟩:=Option.bind_eq_some_iff.1 ff
  have:=h.inj s s' b hb ff
  subst this
  have h1:=(Er s l).2 hs
  have h2:=(Er s l').2 fA
  rw[h1]at h2
  exact Option.some.inj h2
 ·have BB:=hk
  obtain⟨k0,kz,vv⟩:=Option.bind_eq_some_iff.1 hk
  obtain⟨g,n,c,sz,xs,i,rfl,hi,hsz,ho,h1,h2,h3⟩:=h.gm k0 x e vv
  refine⟨g,n,c,sz,xs,i,rfl,hi,hsz,ho,h1,fun l hl=> ?_,fun hx=> ?_⟩
  ·obtain⟨s,_,hb⟩:=Option.bind_eq_some_iff.1 hl
   exact h2 s hb
  ·rcases hX g hx with h'|h'
   ·exact h3 h'
   ·exact h'.2 k _ e BB (by simp[Value.ownBlock])
 ·obtain⟨k0,kz,vv⟩:=Option.bind_eq_some_iff.1 hk
  obtain⟨k0',NP,amL⟩:=Option.bind_eq_some_iff.1 cr
  refine h.dS k0 k0' x x' e e' vv amL fun he=>hne ?_
  subst he
  have h1:=(N2 k0 k).2 kz
  have h2:=(N2 k0 k').2 NP
  rw[h1]at h2
  exact Option.some.inj h2
theorem x6{back ζ:Nat→Option Nat}{s:Nat}:∀(os:List (Option (List T))) (l:Nat) (bx:List (Option (List T))),(∀l',l≤l'→l'< l+os.length→back l'≠some s)→(eJ back ζ os l bx)[s]? =bx[s]?
 | [],_,_,_=>rfl
 |o::os,l,bx,h=>by
  rw[eJ,x6 os (l+1) _ fun l' h1 h2=>h l' (by omega) (by simp;omega)]
  have:=h l (Nat.le_refl _) (by simp)
  cases hb:back l with
  |none=>rfl
  |some s'=>
   have hne:s'≠s:=fun e=>this (by rw[hb,e])
   simp[List.getElem?_set,hne]
theorem Lt{back ζ:Nat→Option Nat}{s:Nat}:∀(os:List (Option (List T))) (l l':Nat) (bx:List (Option (List T))) (o:Option (List T)),(∀i j,back i=some s→back j=some s→i=j)→back l'=some s→l≤l'→os[l'-l]? =some o→
  s< bx.length→(eJ back ζ os l bx)[s]? =some (o.map (ah back ζ))
 | [],l,l',bx,o,_,_,_,h,_=>by simp at h
 |q::os,l,l',bx,o,TR,hb,hle,h,hlt=>by
  by_cases he:l'=l
  ·subst he
   simp only[Nat.sub_self,List.getElem?_cons_zero,Option.some.injEq]at h
   subst h
   rw[eJ,x6 os (l'+1) _ fun j h1 h2 hj=>by have:=TR _ _ hb hj;omega]
   simp[hb,hlt]
  ·rw[eJ]
   refine Lt os (l+1) l' _ o TR hb (by omega) ?_ ?_
   ·rw[show l'-l=(l'-(l+1))+1 by omega,List.getElem?_cons_succ]at h
    exact h
   ·cases back l<;>simp[hlt]
theorem y4{bx:List (Option (List T))}{s:Nat}(h:dK bx s=true):bx[s]? =some none:=by
 unfold dK at h
 split at h
 ·assumption
 ·cases h
theorem fc{bx:List (Option (List T))}{s:Nat}{cs:List T}:ai bx s=some cs↔bx[s]? =some (some cs):=by
 unfold ai
 cases h:bx[s]? with
 |none=>simp
 |some o=>cases o<;>simp
theorem Es{C:FuncId→List T→Option T}(hC:∀f args r,C f args=some r→Sound P f args r){d f:Nat}{ad:List Nat}{as:List T}{vs:Array Value}{t:T}{σ':St}(hI:Inv P W S0 S β φ σ.boxes w)
  (R8:∀s∈ad,s+1< W.nb) (hl:vs.size=as.length) (ha:∀(i:Nat) (x:Value) (t:T),vs[i]? =some x→as[i]? =some t→ak S w β φ x t) (hr:ae.ez C σ d ad f as=some (t,σ')):
  jG P f=true∧Calls P f vs w fun e w'=>∃x,e= .returned x∧ax P W S0 S β φ w σ σ' t x w':=by
 simp only[ae.ez]at hr
 generalize R6:reach σ.boxes 10000 [] (dZ as)=ss at hr
 generalize R5:(ss.flatMap fun s=>gX ((ai σ.boxes s).getD []))=fs at hr
 generalize abg:((List.range (2*ss.length)).map fun l=>As (((fF ss l).bind (ai σ.boxes)).map (ah (iU ss) (rM fs))))=ins at hr
 split at hr<;>try(cases hr;done)
 rename_i r outs hCr
 generalize TS:dC ss ad=back at hr
 generalize WI:fH d=ζ at hr
 generalize FO:jb ss outs=live at hr
 generalize amM:gu d fs=N3 at hr
 split at hr<;>try(cases hr;done)
 rename_i eC
 obtain⟨hlen,WJ,aiX,TT,N4⟩:=eC
 simp only[Option.some.injEq,Prod.mk.injEq]at hr
 obtain⟨rfl,rfl⟩:=hr
 have hS:=hC _ _ _ hCr
 unfold Sound at hS
 rw[if_neg (Nat.not_lt.2 (Nat.le_add_right _ _))]at hS
 obtain⟨BC,aq6,r',ac7,e1,e2,jl,En⟩:=hS.resolve_right fun⟨_,_,e1,_⟩=>by simp at e1
 simp only[List.cons.injEq,T.al.injEq,and_true]at e1 e2
 obtain⟨e1a,e1b⟩:=e1
 obtain⟨rfl,rfl⟩:=e2
 subst e1a e1b
 rw[Nat.add_sub_cancel_left]at jl En
 refine⟨jl, ?_⟩
 let Lu:aX:=fun l=>(fF ss l).bind β
 let sj:bB:=fun k=>(M4 fs k).bind φ
 let X1:Nat→Prop:=fun b=>b< w.heap.size∧(∀l,Lu l≠some b)∧∀k x e,sj k=some (x,e)→x.ownBlock≠some b
 have Er:∀s l,iU ss s=some l↔fF ss l=some s:=fun s l=>⟨fun h=>(tN h).1,Ep TT⟩
 have R9:∀l:Nat,(ins.map eD)[l]? =if l< 2*ss.length then some (((fF ss l).bind (ai σ.boxes)).map (ah (iU ss) (rM fs)))else none:=fun l=>by
  rw[←abg,List.map_map,List.getElem?_map]
  by_cases hlt:l< 2*ss.length
  ·rw[List.getElem?_range hlt,if_pos hlt]
   simp[Lr]
  ·rw[List.getElem?_eq_none (by simpa using hlt),if_neg hlt]
   rfl
 obtain⟨kA,hrel⟩:=hI.core.relabel (X':=X1) (bx':=ins.map eD) Er (fun k k'=>Lq) (fun s l h=>(tN h).2.1)
  (fun s l cs h1 h2=>by
   obtain⟨h3,h4,h5⟩:=tN h1
   rw[R9,if_pos h5,h3]
   simp[fc.2 h2])
  (fun l b9 h=>by
   rw[R9]at h
   split at h
   ·simp only[Option.some.injEq]at h
    obtain⟨cs,aF,rfl⟩:=Option.map_eq_some_iff.1 h
    obtain⟨s,hs,aF⟩:=Option.bind_eq_some_iff.1 aF
    exact .inr ⟨s,cs,(Er s l).2 hs,fc.1 aF,rfl⟩
   ·cases h)
  (fun b hb=> .inr ⟨hb.2.1,hb.2.2⟩)
 have aiY:Inv P ⟨w,X1,0,bn,w.heap.size⟩ S S Lu sj (ins.map eD) w:=
  ⟨⟨rfl,rfl,rfl,Nat.le_refl _,fun k hk=>hk.1,fun _ _=>rfl,cg.refl _⟩,kA.lt,kA.box,kA.boxed,kA.inj,kA.gm,kA.dS,fun b o h=> .inl h,fun b o h=>h,fun b o _ sp v hv=>hv,fun s b _ h=>by simp[bn]at h⟩
 refine(En ⟨w,X1,0,bn,w.heap.size⟩ S Lu sj vs aiY (by simpa using hl) (fun i x t hx ht=> ?_)).mono fun e w' aiZ=> ?_
 ·rw[List.getElem?_map]at ht
  obtain⟨u,hu,rfl⟩:=Option.map_eq_some_iff.1 ht
  exact(ha i x u hx hu).fG.aj (fun s s' b h1 h2=>by simp[Lu,(Er s s').1 h1,h2]) (fun s s' h=>(tN h).2.1) (fun k k' p h=>by cases h)
 obtain⟨x,S',β',φ',rfl,J,hx,hst⟩:=aiZ
 refine⟨x,rfl, ?_⟩
 have aqG:(outs.map eD).length=2*(ss.length+ad.length):=by simpa using hlen
 rw[List.all_eq_true]at WJ N4
 have abh:∀s∈ad,s%2=0∧σ.boxes[s]? =some none∧σ.boxes[s+1]? =some none∧s ∉ ss∧s+1 ∉ ss:=fun s hs=>by
  have:=WJ s hs
  simp only[Bool.and_eq_true,beq_iff_eq,Bool.not_eq_true',List.contains_eq_mem,decide_eq_false_iff_not]at this
  exact⟨this.1.1.1.1,y4 this.1.1.1.2,y4 this.1.1.2,this.1.2,this.2⟩
 have J8:∀s l,iU ss s=some l→s∈ss:=fun s l h=>by
  unfold iU at h
  obtain⟨i,hi,_⟩:=Option.map_eq_some_iff.1 h
  exact List.mem_of_getElem? (fz hi)
 let fwd:Nat→Option Nat:=fun s=>(iU ss s).or ((ad.idxOf? (s-s%2)).map fun j=>2*(ss.length+j)+s%2)
 have TU:∀s j,ad.idxOf? (s-s%2)=some j→ad[j]? =some (s-s%2)∧s-s%2∈ad:=fun s j h=>⟨fz h,List.mem_of_getElem? (fz h)⟩
 have Et:∀l s,back l=some s↔fwd s=some l:=fun l s=>by
  rw[←TS]
  unfold dC
  constructor
  ·intro h
   split at h
   ·have:=Ep TT h
    simp[fwd,this]
   ·rename_i hlt
    obtain⟨a',ha',rfl⟩:=Option.map_eq_some_iff.1 h
    have kM:=List.mem_of_getElem? ha'
    obtain⟨h1,h2,h3,h4,h5⟩:=abh a' kM
    have e1:a'+l%2-(a'+l%2)%2=a':=by omega
    have e2:(a'+l%2)%2=l%2:=by omega
    have h6:iU ss (a'+l%2)=none:=by
     cases jH:iU ss (a'+l%2)with
     |none=>rfl
     |some l'=>
      have:=J8 _ _ jH
      rcases Nat.mod_two_eq_zero_or_one l with h0|h0<;>rw[h0]at this
      ·exact absurd this h4
      ·exact absurd this h5
    have h7:fwd (a'+l%2)=some (2*(ss.length+(l / 2-ss.length))+l%2):=by
     simp only[fwd]
     rw[h6,e1,e2,Eo aiX ha']
     rfl
    rw[h7]
    congr 1
    omega
  ·intro h
   simp only[fwd]at h
   cases jH:iU ss s with
   |some l'=>
    simp only[jH,Option.some_or,Option.some.injEq]at h
    subst h
    obtain⟨h1,h2,h3⟩:=tN jH
    simp only[show l' / 2< ss.length by omega,if_true]
    exact h1
   |none=>
    simp only[jH,Option.none_or]at h
    obtain⟨j,hj,rfl⟩:=Option.map_eq_some_iff.1 h
    obtain⟨h1,h2⟩:=TU s j hj
    have e1:(2*(ss.length+j)+s%2) / 2=ss.length+j:=by omega
    have e2:(2*(ss.length+j)+s%2)%2=s%2:=by omega
    simp only[e1,e2,show ¬(ss.length+j< ss.length) by omega,if_false,show ss.length+j-ss.length=j by omega,h1,Option.map_some,Option.some.injEq]
    omega
 have ai0:∀s i j,back i=some s→back j=some s→i=j:=fun s i j h1 h2=>by
  have h1:=(Et i s).1 h1
  have h2:=(Et j s).1 h2
  rw[h1]at h2
  exact Option.some.inj h2
 have ct:∀s l,fwd s=some l→l< (outs.map eD).length∧l%2=s%2:=fun s l h=>by
  simp only[fwd]at h
  cases jH:iU ss s with
  |some l'=>
   simp only[jH,Option.some_or,Option.some.injEq]at h
   subst h
   obtain⟨h1,h2,h3⟩:=tN jH
   exact⟨by omega,h2⟩
  |none=>
   simp only[jH,Option.none_or]at h
   obtain⟨j,hj,rfl⟩:=Option.map_eq_some_iff.1 h
   have:=(List.getElem?_eq_some_iff.1 (TU s j hj).1).1
   exact⟨by omega,by omega⟩
 have zN:∀s b,fwd s=none→β s=some b→X1 b:=fun s b hf hb=>by
  refine⟨hI.wo hb,fun l hl=> ?_,fun k y e hk hy=> ?_⟩
  ·obtain⟨s',fA,ff⟩:=Option.bind_eq_some_iff.1 hl
   have:=hI.inj _ _ _ ff hb
   subst this
   have:=Ep TT fA
   simp[fwd,this]at hf
  ·obtain⟨k',_,cr⟩:=Option.bind_eq_some_iff.1 hk
   obtain⟨g,n,c,sz,xs,i,rfl,_,_,_,_,h2,_⟩:=hI.gm k' y e cr
   simp only[Value.ownBlock,Option.some.injEq]at hy
   exact h2 s (hy▸hb)
 have Cy:∀s l,iU ss s=none→fwd s=some l→β s=none∧s< W.nb:=fun s l hn h=>by
  simp only[fwd,hn,Option.none_or]at h
  obtain⟨j,hj,rfl⟩:=Option.map_eq_some_iff.1 h
  obtain⟨_,kM⟩:=TU s j hj
  obtain⟨h1,h2,h3,_,_⟩:=abh _ kM
  have dm:=R8 _ kM
  have n9:σ.boxes[s]? =some none:=by
   rcases Nat.mod_two_eq_zero_or_one s with h0|h0
   ·rwa [h0,Nat.sub_zero]at h2
   ·rw[h0]at h3;rwa [show s-1+1=s by omega]at h3
  refine⟨?_,by omega⟩
  cases hb:β s with
  |none=>rfl
  |some b=>obtain⟨_,_,cs,h4,_⟩:=hI.box s b hb;rw[n9]at h4;simp at h4
 have WK:∀k y e g,k ∉ fs→φ k=some (y,e)→y.ownBlock=some g→X1 g:=fun k y e g hk hy hg=>by
  refine⟨hI.Ic hy hg,fun l hl=> ?_,fun k' y' e' cr Lv=> ?_⟩
  ·obtain⟨s',_,ff⟩:=Option.bind_eq_some_iff.1 hl
   obtain⟨g',n,c,sz,xs,i,rfl,_,_,_,_,h2,_⟩:=hI.gm k y e hy
   simp only[Value.ownBlock,Option.some.injEq]at hg
   exact h2 s' (hg▸ff)
  ·obtain⟨k2,vv,cr⟩:=Option.bind_eq_some_iff.1 cr
   have GD:=Lq.2 vv
   have kM:k2∈fs:=by
    unfold rM at GD
    obtain⟨i,hi,_⟩:=Option.map_eq_some_iff.1 GD
    exact List.mem_of_getElem? (fz hi)
   exact hI.dS k2 k y' y e' e cr hy (fun h=>hk (h▸kM)) (by rw[Lv,hg])
 have Sa:∀b,W.X b→X1 b:=fun b hb=>by
  refine⟨by have:=hI.below.lt b hb;have:=hI.below.size;omega,fun l hl=> ?_,fun k y e hk hy=> ?_⟩
  ·obtain⟨s',_,ff⟩:=Option.bind_eq_some_iff.1 hl
   exact(hI.box s' b ff).1 hb
  ·obtain⟨k',_,cr⟩:=Option.bind_eq_some_iff.1 hk
   obtain⟨g,n,c,sz,xs,i,rfl,_,_,_,_,_,h3⟩:=hI.gm k' y e cr
   simp only[Value.ownBlock,Option.some.injEq]at hy
   exact h3 (hy▸hb)
 let xT:aX:=fun s=>match fwd s with
  |some l=>β' l
  |none=>β s
 let o4:bB:=fun k=>if k / 8=d then φ' (k%8)else if k∈fs then none else φ k
 have iE:∀b o,S b o→∀sp v,w.cell? ⟨b,o,sp⟩=some v→w'.cell? ⟨b,o,sp⟩=some v:=fun b o h sp v hv=>J.stay b o h sp v hv
 have Lc:∀b o,S b o→S' b o:=J.base
 have lh:∀y u,ak S w β φ y u→ak S' w' xT o4 y (u.aj live N3):=fun y u hu=>by
  refine(hu.mono (β':=β) (φ':=φ) Lc (fun _ _=>id) (fun _ _=>id) iE J.below.room).aj (fun s s' b h1 h2=> ?_) (fun s s' h1=> ?_) (fun k k' p h1 h2=> ?_)
  ·rw[←FO]at h1
   unfold jb at h1
   cases jH:iU ss s with
   |some l=>
    rw[jH]at h1
    simp only at h1
    split at h1
    ·rename_i hsome
     simp only[Option.some.injEq]at h1
     subst h1
     have hf:fwd s=some l:=by simp[fwd,jH]
     have mc:Lu l=some b:=by simp[Lu,(Er s l).1 jH,h2]
     rcases hst l b mc with h|h
     ·simp[xT,hf,h]
     ·rw[List.getElem?_map]at h
      obtain⟨q,hq,R1⟩:=Option.map_eq_some_iff.1 h
      simp[List.getD,hq,R1]at hsome
    ·cases h1
   |none=>
    rw[jH]at h1
    simp only[Option.some.injEq]at h1
    subst h1
    cases hf:fwd s with
    |none=>simp[xT,hf,h2]
    |some l=>have:=(Cy s l jH hf).1;rw[this]at h2;cases h2
  ·rw[←FO]at h1
   unfold jb at h1
   split at h1
   ·split at h1
    ·simp only[Option.some.injEq]at h1;rw[h1]
    ·cases h1
   ·simp only[Option.some.injEq]at h1;rw[h1]
  ·rw[←amM]at h1
   unfold gu at h1
   split at h1
   ·cases h1
   ·rename_i hh
    simp only[Bool.or_eq_true,List.contains_eq_mem,decide_eq_true_eq,R7,not_or]at hh
    simp only[Option.some.injEq]at h1
    subst h1
    simp[o4,hh.1,hh.2,h2]
 have WL:∀y u,ak S' w' β' φ' y u→ak S' w' xT o4 y (u.aj back ζ):=fun y u hu=>by
  refine hu.aj (fun l s b h1 h2=> ?_) (fun l s h1=> ?_) (fun k k' p h1 h2=> ?_)
  ·simp[xT,(Et l s).1 h1,h2]
  ·exact(ct s l ((Et l s).1 h1)).2.symm
  ·rw[←WI]at h1
   unfold fH at h1
   split at h1
   ·rename_i hk
    simp only[Option.some.injEq]at h1
    subst h1
    have e1:(8*d+k) / 8=d:=by omega
    have e2:(8*d+k)%8=k:=by omega
    simp[o4,e1,e2,h2]
   ·cases h1
 have amN:∀s l,fwd s=some l→s< (σ.boxes.map (Option.map (ah live N3))).length:=fun s l hf=>by
  simp only[List.length_map]
  cases jH:iU ss s with
  |some l'=>
   have:=N4 s (J8 s l' jH)
   obtain⟨cs,aF⟩:=Option.isSome_iff_exists.1 this
   exact(List.getElem?_eq_some_iff.1 (fc.1 aF)).1
  |none=>
   simp only[fwd,jH,Option.none_or]at hf
   obtain⟨j,hj,rfl⟩:=Option.map_eq_some_iff.1 hf
   obtain⟨_,kM⟩:=TU s j hj
   obtain⟨h1,h2,h3,_,_⟩:=abh _ kM
   have:=(List.getElem?_eq_some_iff.1 h2).1
   have:=(List.getElem?_eq_some_iff.1 h3).1
   omega
 have eV:∀s l o,fwd s=some l→(outs.map eD)[l]? =some o→(eJ back ζ (outs.map eD) 0 (σ.boxes.map (Option.map (ah live N3))))[s]? =some (o.map (ah back ζ)):=fun s l o hf ho=>
  Lt _ 0 l _ o (ai0 s) ((Et l s).2 hf) (Nat.zero_le _) (by simpa using ho) (amN s l hf)
 have Ir:∀s,fwd s=none→(eJ back ζ (outs.map eD) 0 (σ.boxes.map (Option.map (ah live N3))))[s]? =(σ.boxes[s]?).map (Option.map (ah live N3)):=fun s hf=>by
  rw[x6 _ 0 _ fun l _ _ h=>by have:=(Et l s).1 h;rw[hf]at this;cases this]
  simp
 have hO:∀l,l< (outs.map eD).length→∃o,(outs.map eD)[l]? =some o:=fun l h=>⟨_,List.getElem?_eq_getElem h⟩
 refine⟨S',xT,o4,T.aj live N3,WL _ _ hx,⟨?_,J.lt, ?_, ?_, ?_, ?_, ?_, ?_,fun b o h=>Lc _ _ (hI.base b o h),fun b o h0 sp v hv=>iE b o (hI.base b o h0) sp v (hI.stay b o h0 sp v hv), ?_⟩,lh,by simp[bu],by simp[bu]⟩
 ·exact⟨J.below.os.trans hI.below.os,J.below.tape.trans hI.below.tape,J.below.output.trans hI.below.output,Nat.le_trans hI.below.size J.below.size,hI.below.lt,fun k hk=>(J.below.block k (Sa k hk)).trans (hI.below.block k hk),hI.below.room.trans J.below.room⟩
 ·intro s b hb
  simp only[xT]at hb
  cases hf:fwd s with
  |some l=>
   rw[hf]at hb
   obtain⟨h1,h2,cs,h3,h4⟩:=J.box l b hb
   refine⟨fun hx=>h1 (Sa b hx),h2,ah back ζ cs,by rw[eV s l _ hf h3];rfl, ?_⟩
   rw[←(ct s l hf).2,bu]
   exact h4.mono rfl WL
  |none=>
   rw[hf]at hb
   obtain⟨h1,h2,cs,h3,h4⟩:=hI.box s b hb
   have Lx:=zN s b hf hb
   refine⟨h1,fun o ho=> ?_,ah live N3 cs,by rw[Ir s hf,h3];rfl, ?_⟩
   ·rcases J.top b o ho with h|h
    ·exact h2 o h
    ·exact h Lx
   ·rw[bu]
    exact h4.mono (J.below.block b Lx) lh
 ·intro s cs hs
  cases hf:fwd s with
  |some l=>
   obtain⟨o,ho⟩:=hO l (ct s l hf).1
   rw[eV s l o hf ho]at hs
   simp only[Option.some.injEq]at hs
   obtain⟨Is,rfl,rfl⟩:=Option.map_eq_some_iff.1 hs
   exact(J.boxed l Is ho).imp (fun e=>by rw[e];rfl) fun⟨b,hb⟩=>⟨b,by simp[xT,hf,hb]⟩
  |none=>
   rw[Ir s hf]at hs
   obtain⟨o,ho,hs⟩:=Option.map_eq_some_iff.1 hs
   obtain⟨Is,rfl,rfl⟩:=Option.map_eq_some_iff.1 hs
   exact(hI.boxed s Is ho).imp (fun e=>by rw[e];rfl) fun⟨b,hb⟩=>⟨b,by simp[xT,hf,hb]⟩
 ·intro s1 s2 b h1 h2
  simp only[xT]at h1 h2
  cases GF:fwd s1 with
  |some l1=>
   rw[GF]at h1
   cases BD:fwd s2 with
   |some l2=>
    rw[BD]at h2
    have:=J.inj l1 l2 b h1 h2
    subst this
    have h3:=(Et l1 s1).2 GF
    have h4:=(Et l1 s2).2 BD
    rw[h3]at h4
    exact Option.some.inj h4
   |none=>
    rw[BD]at h2
    exact absurd (zN s2 b BD h2) (J.box l1 b h1).1
  |none=>
   rw[GF]at h1
   cases BD:fwd s2 with
   |some l2=>
    rw[BD]at h2
    exact absurd (zN s1 b GF h1) (J.box l2 b h2).1
   |none=>
    rw[BD]at h2
    exact hI.inj s1 s2 b h1 h2
 ·intro k y e hk
  simp only[o4]at hk
  split at hk
  ·obtain⟨g,n,c,sz,xs,i,rfl,hi,hsz,ho,h1,h2,h3⟩:=J.gm _ y e hk
   refine⟨g,n,c,sz,xs,i,rfl,hi,hsz,ho,h1,fun s hs=> ?_,fun hx=>h3 (Sa g hx)⟩
   simp only[xT]at hs
   cases hf:fwd s with
   |some l=>rw[hf]at hs;exact h2 l hs
   |none=>rw[hf]at hs;exact h3 (zN s g hf hs)
  ·split at hk
   ·cases hk
   ·rename_i amO
    obtain⟨g,n,c,sz,xs,i,rfl,hi,hsz,ho,h1,h2,h3⟩:=hI.gm _ y e hk
    have Lx:=WK k _ e g amO hk (by simp[Value.ownBlock])
    have jw:=J.below.block g Lx
    refine⟨g,n,c,sz,xs,i,rfl,hi,hsz,⟨ho.1, ?_⟩,fun o hs=> ?_,fun s hs=> ?_,h3⟩
    ·rcases ho.2 with h|⟨g',cap,cur,e2,hv,hb,hg,r⟩
     ·exact .inl h
     ·simp only[Value.slice.injEq,Option.some.injEq,Addr.mk.injEq]at hv
      obtain⟨⟨rfl,_⟩,_,rfl⟩:=hv
      exact .inr ⟨g,_,cur,e2,rfl,hb,jw.trans hg,r⟩
    ·rcases J.top g o hs with h|h
     ·exact h1 o h
     ·exact absurd Lx h
    ·simp only[xT]at hs
     cases hf:fwd s with
     |some l=>rw[hf]at hs;exact(J.box l g hs).1 Lx
     |none=>rw[hf]at hs;exact h2 s hs
 ·intro k k' y y' e e' hk cr hne
  simp only[o4]at hk cr
  have xI:∀k y e,φ' k=some (y,e)→∃g,y.ownBlock=some g∧¬X1 g:=fun k y e hk=>by
   obtain⟨g,n,c,sz,xs,i,rfl,_,_,_,_,_,h3⟩:=J.gm _ y e hk
   exact⟨g,by simp[Value.ownBlock],h3⟩
  have hold:∀k y e,k ∉ fs→φ k=some (y,e)→∃g,y.ownBlock=some g∧X1 g:=fun k y e N5 hk=>by
   obtain⟨g,n,c,sz,xs,i,rfl,_,_,_,_,_,_⟩:=hI.gm _ y e hk
   exact⟨g,by simp[Value.ownBlock],WK k _ e g N5 hk (by simp[Value.ownBlock])⟩
  split at hk
  ·rename_i hd
   split at cr
   ·rename_i gR
    exact J.dS _ _ _ _ _ _ hk cr (by omega)
   ·split at cr
    ·cases cr
    ·rename_i N5
     obtain⟨g,gA,uL⟩:=xI _ _ _ hk
     obtain⟨g',Hu,N1⟩:=hold _ _ _ N5 cr
     rw[gA,Hu]
     intro h
     simp only[Option.some.injEq]at h
     exact uL (h▸N1)
  ·split at hk
   ·cases hk
   ·rename_i N5
    split at cr
    ·obtain⟨g,gA,uL⟩:=hold _ _ _ N5 hk
     obtain⟨g',Hu,N1⟩:=xI _ _ _ cr
     rw[gA,Hu]
     intro h
     simp only[Option.some.injEq]at h
     exact N1 (h▸uL)
    ·split at cr
     ·cases cr
     ·exact hI.dS _ _ _ _ _ _ hk cr hne
 ·intro b o h
  rcases J.top b o h with h|h
  ·exact hI.top b o h
  ·exact .inr fun hx=>h (Sa b hx)
 ·intro s b hn h0
  rcases hI.pX s b hn h0 with h|h
  ·cases hf:fwd s with
   |none=>exact .inl (by simp[xT,hf,h])
   |some l=>
    cases jH:iU ss s with
    |none=>have:=(Cy s l jH hf).2;omega
    |some l'=>
     have:l'=l:=by simp[fwd,jH]at hf;exact hf
     subst this
     have mc:Lu l'=some b:=by simp[Lu,(Er s l').1 jH,h]
     rcases hst l' b mc with h'|h'
     ·exact .inl (by simp[xT,hf,h'])
     ·exact .inr (by rw[eV s l' _ hf h'];rfl)
  ·have hf:fwd s=none:=by
    cases hf:fwd s with
    |none=>rfl
    |some l=>
     cases jH:iU ss s with
     |none=>have:=(Cy s l jH hf).2;omega
     |some l'=>
      have:=N4 s (J8 s l' jH)
      obtain⟨cs,aF⟩:=Option.isSome_iff_exists.1 this
      rw[fc,h]at aF
      simp at aF
   exact .inr (by rw[Ir s hf,h];rfl)
end
end Go.Vi
end
