/-
  A claim's own text, joined by a small program out of: Vj5, Vj6.
-/
import Derived.Test.YtodollbkpkpklaaGreatX9
import Derived.Lib.AppendStr
set_option linter.unusedVariables false
set_option linter.unusedSimpArgs false
section
namespace Go.Vi
open Go Go.RowKit
section
variable{P:Program}
def sM(P:Program)(u:TypeId)(i:TypeInfo)(z x:Value)(m:Nat)(news:List Value)(w:World):Prop:=
 (∃d,P.underlying u=some d∧(∀k,d≠ .int k)∧∀w':World,w'.heap=w.heap→(Builtin.lenOf x).run P w'= .ok m w'∧(Builtin.firstCells i.size m x).run P w'= .ok news.toArray w')∨
 (∃kn kq,P.underlying u=some (.int kn)∧x= .int kq (m:Int)∧m≤4294967296∧m*i.bytes≤281474976710656∧0< i.size∧z.cells.size=i.size∧news=(Builtin.zeroCells z.cells m).toList)
theorem Aa{t u ty e:TypeId}{i:TypeInfo}{z:Value}(ht:P.underlying t=some (.slice e))(hi:P.info? e=some i)(hz:i.zero=some z){x:Value}{m:Nat}{news:List Value}{w:World}(hs:sM P u i z x m news w)
  {g sLen sCap:Nat} {cur:Array Value} {e2:TypeId} (hg:w.heap[g]? =some (.cells cur e2 (0,0))) (h1:∀v∈news,v.oneCell'=true) (hroom:sLen+m≤sCap) (dZ:sLen*i.size+news.length≤cur.size):
  (Builtin.append_ #[t,u] ty #[.slice (some ⟨g,0,none⟩) sLen sCap,x]).run P w=
   .ok (.slice (some ⟨g,0,none⟩) (sLen+m) sCap) (w.setRow g (cur.toList.take (sLen*i.size)++news++cur.toList.drop (sLen*i.size+news.length)).toArray):=by
 have hst:=run_storeCells_at P g (sLen*i.size) e2 news 0 cur w hg (by simpa using dZ) h1
 simp only[Nat.add_zero]at hst
 rcases hs with⟨d,hu,hd,cI⟩|⟨kn,kq,hu,rfl,hm,hb,hsz,da,rfl⟩
 ·obtain⟨hl,hf⟩:=cI w rfl
  have hint:(match(generalizing:=false) d with| .int _=>true|_=>false)=false:=by cases d<;>first|rfl|exact absurd rfl (hd _)
  simp[Builtin.append_,run_underlying ht,run_underlying hu,sizeOf,typeInfo,hi,hint,hl,hroom,hf,Addr.add_lit,hst]
 ·have hw:IntKind.i64.wrap (m:Int)=m:=by rw[IntKind.wrap_i64];omega
  have sU:¬((m:Int)< 0):=by omega
  have aaK:¬(281474976710656< (m:Int)*(i.bytes:Int)):=by rw[←Int.natCast_mul];omega
  by_cases h0:m*i.size=0
  ·have np:m=0:=by rcases Nat.mul_eq_zero.1 h0 with h|h<;>omega
   subst np
   have e0:(Builtin.zeroCells z.cells 0).toList=[]:=by simp[Builtin.zeroCells]
   rw[e0]at hst⊢
   simp[Builtin.append_,run_underlying ht,run_underlying hu,sizeOf,typeInfo,zeroValue,hi,hz,asInt,asIntOf,IntKind.wrap_i64,hroom,Addr.add_lit]at hst⊢
   simp at hroom
   simp[hroom,hst]
  ·simp[Builtin.append_,run_underlying ht,run_underlying hu,sizeOf,typeInfo,zeroValue,hi,hz,asInt,asIntOf,hw,sU,aaK,h0,hroom,Addr.add_lit,hst]
theorem vD{t u ty e:TypeId}{i:TypeInfo}{z:Value}(ht:P.underlying t=some (.slice e))(hi:P.info? e=some i)(hz:i.zero=some z){x:Value}{m:Nat}{news:List Value}{w:World}(hs:sM P u i z x m news w)
  {base:Option Addr} {sLen sCap:Nat} {olds:List Value} (hold:(Builtin.firstCells i.size sLen (.slice base sLen sCap)).run P w.drew= .ok olds.toArray w.drew) (hg:sCap< sLen+m) (h0m:0< m)
  (nJ:sLen+m≤4294967296) (dZ:(sLen+m)*i.bytes≤140737488355328):
  (Builtin.append_ #[t,u] ty #[.slice base sLen sCap,x]).run P w=
   .ok (.slice (some ⟨w.heap.size,0,none⟩) (sLen+m) (grownCap w (sLen+m) sCap e))
    (w.drew.alloc (.cells (olds.toArray++news.toArray++Builtin.zeroCells z.cells (grownCap w (sLen+m) sCap e-(sLen+m))) e)):=by
 have hn:¬(sLen+m≤sCap):=by omega
 have afI:¬(9223372036854775807< ((sLen:Int)+(m:Int))):=by omega
 have aaL:¬(281474976710656< Builtin.nextslicecap (sLen+m) sCap*i.bytes):=by have:=growslice_fits hg dZ;omega
 rcases hs with⟨d,hu,hd,cI⟩|⟨kn,kq,hu,rfl,hm,hb,hsz,da,rfl⟩
 ·obtain⟨hl,_⟩:=cI w rfl
  obtain⟨_,hf⟩:=cI w.drew rfl
  have hint:(match(generalizing:=false) d with| .int _=>true|_=>false)=false:=by cases d<;>first|rfl|exact absurd rfl (hd _)
  simp[Builtin.append_,run_underlying ht,run_underlying hu,sizeOf,typeInfo,zeroValue,hi,hz,hint,hl,hn,afI,aaL,Question.forced,hf,hold,newRow,grownCap]
  simp only[←Array.append_assoc,List.append_toArray]
 ·have hw:IntKind.i64.wrap (m:Int)=m:=by rw[IntKind.wrap_i64];omega
  have sU:¬((m:Int)< 0):=by omega
  have aaK:¬(281474976710656< (m:Int)*(i.bytes:Int)):=by rw[←Int.natCast_mul];omega
  have h0:¬(m*i.size=0):=Nat.mul_ne_zero (by omega) (by omega)
  simp[Builtin.append_,run_underlying ht,run_underlying hu,sizeOf,typeInfo,zeroValue,hi,hz,asInt,asIntOf,hw,hn,sU,h0,afI,aaL,aaK,Question.forced,hold,newRow,grownCap]
theorem KL{base e:Nat}{i:TypeInfo}{z:Value}{w:World}{n m old:Nat}{xs news:List Value}(xw:z.cells.size=i.size)(hb:base≤w.heap.size)(hx:xs.length=n*i.size)(hl:news.length=m*i.size)(nJ:n+m≤4294967296):
  (w.drew.alloc (.cells (xs.toArray++news.toArray++Builtin.zeroCells z.cells (grownCap w (n+m) old e-(n+m))) e)).ownsRow base e i.size
   (.slice (some ⟨w.heap.size,0,none⟩) (n+m) (grownCap w (n+m) old e)) (n+m) (xs++news):=by
 have F6:=grownCap_ge w (n+m) old e
 have VS:grownCap w (n+m) old e≤maxLen:=grownCap_le_maxLen w (n+m) old e (by simp only[maxLen];omega)
 have hlen:(xs++news).length=(n+m)*i.size:=by rw[List.length_append,hx,hl,Nat.add_mul]
 refine⟨hlen,.inr ⟨w.heap.size,_,_,rfl,hb,heap_alloc_new w.drew _,F6,VS, ?_, ?_⟩⟩
 ·simp only[Array.size_append,List.size_toArray,size_zeroCells,xw,hx,hl,←Nat.add_mul]
  congr 1
  omega
 ·simp only[Array.toList_append,List.append_assoc]
  rw[←List.append_assoc,←hlen]
  exact List.take_left
end
end Go.Vi
end
section
namespace Go.Vi
open Go Go.RowKit
section
variable{P:Program}{W:dg}{w:World}{S0 S:Nat→Nat→Prop}{β:aY}{φ:bw}
theorem DB{base acC e sz:Nat}{v:Value}{n:Nat}{xs:List Value}(h:tZ w base e sz v n xs)(hb:acC≤base):tZ w acC e sz v n xs:=by
 refine⟨h.1, ?_⟩
 rcases h.2 with h2|⟨g,cap,cur,e',hv,hg,r⟩
 ·exact .inl h2
 ·exact .inr ⟨g,cap,cur,e',hv,by omega,r⟩
theorem Fe{σ σ':St}(hI:Inv P W S0 S β φ σ.boxes w){w':World}{g n c e sz:Nat}{xs:List Value}{cs:List T}{i:TypeInfo}(hi:P.info? e=some i)(hsz:i.size=sz)
  (zg:w.grownBy w' (some g)) (nK:cg w w') (Nb:¬W.X g) (Ab:∀s,β s≠some g) (wY:Nat→Prop) [DecidablePred wY]
  (zh:∀k x e,wY k→φ k=some (x,e)→x.ownBlock≠some g)
  (ej:∀o sp v,S g o→w.cell? ⟨g,o,sp⟩=some v→w'.cell? ⟨g,o,sp⟩=some v) (RC:∀o,S g o→o< n*sz)
  (ho:tZ w' 0 e sz (.slice (some ⟨g,0,none⟩) n c) n xs) (hx:xs.length=cs.length) (h1:∀v∈xs,v.oneCell'=true)
  (hr:∀(j:Nat) (y:Value) (u:T),xs[j]? =some y→cs[j]? =some u→ak S w bj cz y u) (k1:Nat) (j7:¬wY k1) (adj:T→T)
  (alZ:∀(y:Value) (u:T) (S':Nat→Nat→Prop) (AP:World) (β':aY) (φ':bw),ak S' AP β' φ y u→(∀k p,φ k=some p→wY k→φ' k=some p)→ak S' AP β' φ' y (adj u))
  (uW:σ'.rs=σ.rs.map adj) (lM:σ'.vars=σ.vars.map adj) (nL:σ'.boxes=σ.boxes.map (Option.map (List.map adj))):
  ax P W S0 S β φ w σ σ' (.sl (.own k1 e) n cs) (.slice (some ⟨g,0,none⟩) n c) w':=by
 let S':Nat→Nat→Prop:=fun b o=>S b o∨(b=g∧o< n*sz)
 let φ':bw:=fun k=>if k=k1 then some (.slice (some ⟨g,0,none⟩) n c,e)else if wY k then φ k else none
 have vT:∀k p,φ k=some p→wY k→φ' k=some p:=fun k p hk pI=>by
  have:k≠k1:=fun h=>j7 (h▸pI)
  simp[φ',this,pI,hk]
 have hlen:cs.length=n*sz:=by rw[←hx];exact ho.1
 have KM:∀b o,S b o→S' b o:=fun b o h=> .inl h
 have iv:∀b o,S b o→∀sp v,w.cell? ⟨b,o,sp⟩=some v→w'.cell? ⟨b,o,sp⟩=some v:=fun b o hS sp v hv=>by
  by_cases hb:b=g
  ·subst hb;exact ej o sp v hS hv
  ·rw[World.cell?_of_block (w:=w) (zg.block b (hI.lt _ _ hS) (by simpa using hb))]
   exact hv
 have kN:∀y u,ak S w β φ y u→ak S' w' β φ' y (adj u):=fun y u h=>alZ y u S' w' β φ' (h.mono KM (fun _ _=>id) (fun _ _=>id) iv nK) vT
 have al0:g< w'.heap.size:=(ho.lt g (by simp[Value.ownBlock])).2
 have cF:n≤c:=by
  rcases ho.2 with⟨h,_⟩|⟨_,_,_,_,h,_,_,h2,_⟩
  ·cases h
  ·simp only[Value.slice.injEq]at h;obtain⟨_,_,rfl⟩:=h;exact h2
 have xw:=zg.size
 refine⟨S',β,φ',adj, ?_,⟨?_, ?_, ?_, ?_,hI.inj, ?_, ?_,fun b o h=> ?_,fun b o h=> .inl (hI.base b o h),fun b o h0 sp v hv=>iv b o (hI.base b o h0) sp v (hI.stay b o h0 sp v hv),fun s b hn h0=>(hI.pJ s b hn h0).imp id fun h=>by rw[nL,List.getElem?_map,h];rfl⟩,kN,uW,lM⟩
 ·refine .sl _ _ _ ⟨g,0,none⟩ n c cs (fun j=>xs.getD j undef) cF (.inr (.inr ⟨k1,e,rfl,.inl (by simp[φ'])⟩)) (fun j hj=> ?_) (fun j u hu=> ?_)
  ·have th:j< xs.length:=by omega
   refine⟨.inr ⟨rfl,by simpa using(by omega:j< n*sz)⟩, ?_, ?_⟩
   ·have:=ho.cells (g:=g) (by simp[Value.ownBlock]) j xs[j] (by simp[th])
    simpa [th]using this
   ·have:xs.getD j undef=xs[j]:=by simp[th]
    rw[this]
    exact h1 _ (List.getElem_mem th)
  ·have hj:=(List.getElem?_eq_some_iff.1 hu).1
   have th:j< xs.length:=by omega
   exact(hr j _ u (by simp[th]) hu).mono KM (fun _ _=>id) (fun _ _=>id) iv nK
 ·exact hI.below.step zg (fun k e=>by cases e;exact Nb) nK
 ·intro b o h
  rcases h with h|⟨rfl,_⟩
  ·have:=hI.lt _ _ h;omega
  ·exact al0
 ·intro s b hb
  obtain⟨ua,nr,bW,CX,zj⟩:=hI.box s b hb
  have hne:b≠g:=fun h=>Ab s (h▸hb)
  refine⟨ua,fun o zk=> ?_,bW.map adj, ?_,zj.mono (zg.block b zj.lt (by simpa using hne)) kN⟩
  ·rcases zk with zk|⟨h,_⟩
   ·exact nr o zk
   ·exact hne h
  ·rw[nL,List.getElem?_map,CX];rfl
 ·intro s bW hs
  rw[nL,List.getElem?_map]at hs
  obtain⟨o,zk,h⟩:=Option.map_eq_some_iff.1 hs
  cases o with
  |none=>simp at h
  |some al1=>
   simp only[Option.map_some,Option.some.injEq]at h
   exact(hI.boxed s al1 zk).imp (fun e=>by rw[←h,e];rfl) id
 ·intro k x e' hk
  by_cases h:k=k1
  ·simp only[φ',h,if_true,Option.some.injEq,Prod.mk.injEq]at hk
   obtain⟨rfl,rfl⟩:=hk
   refine⟨g,n,c,sz,xs,i,rfl,hi,hsz,ho,fun o h=> ?_,Ab,Nb⟩
   rcases h with h|⟨_,h⟩
   ·exact RC o h
   ·exact h
  ·simp only[φ',h,if_false]at hk
   split at hk
   ·rename_i pI
    obtain⟨g',n',c',kC,xs',i',rfl,uX,wZ,zk,nr,CX,zj⟩:=hI.fX k x e' hk
    have hne:g'≠g:=fun h=>zh k _ e' pI hk (by simp[Value.ownBlock,h])
    refine⟨g',n',c',kC,xs',i',rfl,uX,wZ,zk.kept zg (.inr (by simpa [Value.ownBlock]using hne)),fun o h=> ?_,CX,zj⟩
    rcases h with h|⟨h,_⟩
    ·exact nr o h
    ·exact absurd h hne
   ·cases hk
 ·intro k k' x x' e1 e2 hk cp hne
  by_cases h:k=k1<;>by_cases h':k'=k1
  ·exact absurd (h.trans h'.symm) hne
  ·simp only[φ',h,if_true,Option.some.injEq,Prod.mk.injEq]at hk
   simp only[φ',h',if_false]at cp
   split at cp
   ·rename_i pI
    obtain⟨rfl,rfl⟩:=hk
    exact fun he=>zh k' _ _ pI cp (by rw[←he];simp[Value.ownBlock])
   ·cases cp
  ·simp only[φ',h',if_true,Option.some.injEq,Prod.mk.injEq]at cp
   simp only[φ',h,if_false]at hk
   split at hk
   ·rename_i pI
    obtain⟨rfl,rfl⟩:=cp
    exact fun he=>zh k _ _ pI hk (by rw[he];simp[Value.ownBlock])
   ·cases hk
  ·simp only[φ',h,if_false]at hk
   simp only[φ',h',if_false]at cp
   split at hk<;>split at cp
   ·exact hI.dK k k' x x' e1 e2 hk cp hne
   all_goals first|cases hk|cases cp
 ·rcases h with h|⟨rfl,_⟩
  ·exact hI.top b o h
  ·exact .inr Nb
theorem GY(d i:Nat)(hi:i< 8):hit (2*d) (8*d+i)=true:=by
 simp only[hit,show 2*d%2=0 by omega,if_true,beq_iff_eq]
 omega
theorem HK{σ:St}{d:Nat}(hI:Inv P W S0 S β φ σ.boxes w){w':World}(hb:Below w.heap.size w w'){g n c e sz:Nat}{xs:List Value}{cs:List T}{i:TypeInfo}(hi:P.info? e=some i)(hsz:i.size=sz)
  (ho:tZ w' w.heap.size e sz (.slice (some ⟨g,0,none⟩) n c) n xs) (hx:xs.length=cs.length) (h1:∀v∈xs,v.oneCell'=true)
  (hr:∀(j:Nat) (y:Value) (u:T),xs[j]? =some y→cs[j]? =some u→ak S w bj cz y u):
  ax P W S0 S β φ w σ (σ.strip (2*d)) (.sl (.own (8*d) e) n cs) (.slice (some ⟨g,0,none⟩) n c) w':=by
 have hgw:w.heap.size≤g:=(ho.lt g (by simp[Value.ownBlock])).1
 have hW:=hI.below.size
 refine Fe hI hi hsz ⟨hb.os,hb.tape,hb.output,hb.size,fun k hk _=>hb.block k hk⟩ (iw hb.block) (fun h=>by have:=hI.below.lt _ h;omega) (fun s hs=> ?_) (fun k=>hit (2*d) k=false) (fun k x e' _ hk=> ?_) (fun o sp v hS _=>by have:=hI.lt _ _ hS;omega)
  (fun o hS=>by have:=hI.lt _ _ hS;omega) (DB ho (Nat.zero_le _)) hx h1 hr (8*d) (by simpa using GY d 0 (by omega)) (T.strip (2*d)) (fun y u S' AP β' φ' h hp=>h.strip (2*d) fun k p hk hne=>hp k p hk hne) ?_ ?_ ?_
 ·have:=hI.vE hs
  omega
 ·intro h
  have:=hI.HL hk h
  omega
 ·simp[St.strip,aF]
 ·simp[St.strip,aF]
 ·simp only[St.strip]
  congr 1
  funext o
  cases o<;>simp[aF]
theorem Tw{σ:St}{d k e u t ty:Nat}{n m:Nat}{x0 x:Value}{cs ys:List T}{news:List Value}{i:TypeInfo}{z:Value}(hI:Inv P W S0 S β φ σ.boxes w)(ht:P.underlying t=some (.slice e))(hi:P.info? e=some i)(hz:i.zero=some z)
  (da:z.cells.size=i.size) (hs:sM P u i z x m news w) (hl:news.length=m*i.size) (KN:news.length=ys.length) (h1:∀v∈news,v.oneCell'=true)
  (hr:∀(j:Nat) (y:Value) (u:T),news[j]? =some y→ys[j]? =some u→ak S w bj cz y u)
  (VT:ak S w β φ x0 (.sl (.own k e) n cs)) (jV:∃a c,x0= .slice (some a) n c∧φ k=some (.slice (some a) n c,e)) (aG:cs.length=n*i.size) (nJ:n+m≤4294967296) (dZ:(n+m)*i.bytes≤4294967296):
  ∃x' w',(Builtin.append_ #[t,u] ty #[x0,x]).run P w= .ok x' w'∧ax P W S0 S β φ w σ ((σ.strip (2*k+1)).strip (2*d)) (.sl (.own (8*d) e) (n+m) (cs++ys)) x' w':=by
 obtain⟨a,c,f,hk,iv,gU,rfl⟩:∃(a:Addr) (c:Nat) (f:Nat→Value),φ k=some (.slice (some a) n c,e)∧(∀i,i< cs.length→S a.block (a.off+i)∧w.cell? (a.add i)=some (f i)∧(f i).oneCell'=true)∧
   (∀i t,cs[i]? =some t→ak S w bj cz (f i) t)∧x0= .slice (some a) n c:=by
  obtain⟨a',c',rfl,cp⟩:=jV
  generalize ht:T.sl (.own k e) n cs=tt at VT
  cases VT with
  |sl _ _ g a n c cs f cF hg aG h=>cases ht;exact⟨_,_,f,cp,aG,h,rfl⟩
  |undef=>cases ht
  |v=>cases ht
  |av=>cases ht
  |gX=>cases ht
 obtain⟨g,n',c',sz,xs,i',hx,uX,hsz,ho,RC,Ab,Nb⟩:=hI.fX k _ e hk
 rw[hi]at uX
 simp only[Option.some.injEq]at uX
 subst uX
 simp only[Value.slice.injEq,Option.some.injEq]at hx
 obtain⟨rfl,rfl,rfl⟩:=hx
 have hgw:g< w.heap.size:=(ho.lt g (by simp[Value.ownBlock])).2
 have KO:∀j y u,xs[j]? =some y→cs[j]? =some u→ak S w bj cz y u:=fun j y u hy hu=>by
  have h2:=(iv j ((List.getElem?_eq_some_iff.1 hu).1)).2.1
  have h3:=ho.cells (g:=g) (by simp[Value.ownBlock]) j y hy
  rw[h2]at h3
  simp only[Option.some.injEq]at h3
  subst h3
  exact gU j u hu
 have Nc:∀v∈xs,v.oneCell'=true:=fun v hv=>by
  obtain⟨j,hj⟩:=List.mem_iff_getElem?.1 hv
  have hlt:j< cs.length:=by have:=(List.getElem?_eq_some_iff.1 hj).1;rw[aG,hsz,←ho.1];exact this
  obtain⟨_,h2,h3⟩:=iv j hlt
  have h4:=ho.cells (g:=g) (by simp[Value.ownBlock]) j v hj
  rw[h2]at h4
  simp only[Option.some.injEq]at h4
  exact h4▸h3
 have DC:xs.length=cs.length:=by rw[ho.1,aG,hsz]
 have eu:∀(j:Nat) (y:Value) (u:T),(xs++news)[j]? =some y→(cs++ys)[j]? =some u→ak S w bj cz y u:=fun j y u hy hu=>by
  by_cases hj:j< xs.length
  ·rw[List.getElem?_append_left hj]at hy
   rw[List.getElem?_append_left (by omega)]at hu
   exact KO j y u hy hu
  ·rw[List.getElem?_append_right (by omega)]at hy
   rw[List.getElem?_append_right (by omega),←DC]at hu
   exact hr _ y u hy hu
 have RD:∀v∈xs++news,v.oneCell'=true:=fun v hv=>by
  rcases List.mem_append.1 hv with h|h
  ·exact Nc v h
  ·exact h1 v h
 have yk:∀(y:Value) (u:T) (S':Nat→Nat→Prop) (AP:World) (β':aY) (φ':bw),ak S' AP β' φ y u→(∀k' p,φ k'=some p→(k'≠k∧hit (2*d) k'=false)→φ' k'=some p)→
   ak S' AP β' φ' y ((T.strip (2*d)∘T.strip (2*k+1)) u):=fun y u S' AP β' φ' h hp=>
  ak.strip (φ:=fun k'=>if k'=k then none else φ k') (2*d) (h.strip (2*k+1) fun k' p cp hne=>by
   have:k'≠k:=fun e=>by subst e;simp[hit]at hne;omega
   simp[this,cp]) fun k' p cp hne=>by
   by_cases hh:k'=k
   ·simp[hh]at cp
   ·simp only[hh,if_false]at cp;exact hp k' p cp ⟨hh,hne⟩
 have hs1:((σ.strip (2*k+1)).strip (2*d)).rs=σ.rs.map (T.strip (2*d)∘T.strip (2*k+1)):=by simp[St.strip,aF]
 have hs2:((σ.strip (2*k+1)).strip (2*d)).vars=σ.vars.map (T.strip (2*d)∘T.strip (2*k+1)):=by simp[St.strip,aF]
 have hs3:((σ.strip (2*k+1)).strip (2*d)).boxes=σ.boxes.map (Option.map (List.map (T.strip (2*d)∘T.strip (2*k+1)))):=by
  simp only[St.strip,List.map_map]
  congr 1
  funext o
  cases o<;>simp[aF]
 have hd8:¬(8*d≠k∧hit (2*d) (8*d)=false):=fun h=>by
  have:=GY d 0 (by omega)
  simp only[Nat.add_zero]at this
  rw[this]at h
  exact absurd h.2 (by simp)
 have MB:(xs++news).length=(cs++ys).length:=by simp[DC,KN]
 rcases ho.2 with⟨h,_⟩|⟨g',cap,cur,e2,mw,_,hg,cF,yl,n9⟩
 ·cases h
 simp only[Value.slice.injEq,Option.some.injEq,Addr.mk.injEq]at mw
 obtain⟨⟨rfl,_⟩,_,rfl⟩:=mw
 by_cases hroom:n+m≤c
 ·have ub:n*i.size+news.length≤cur.size:=by rw[hl,←Nat.add_mul];exact Nat.le_trans (Nat.mul_le_mul_right _ hroom) (hsz▸yl)
  refine⟨_,_,Aa ht hi hz hs hg h1 hroom ub, ?_⟩
  have jV:tZ (w.setRow g (cur.toList.take (n*i.size)++news++cur.toList.drop (n*i.size+news.length)).toArray) 0 e i.size (.slice (some ⟨g,0,none⟩) (n+m) c) (n+m) (xs++news):=by
   refine⟨by rw[List.length_append,ho.1,hl,hsz,Nat.add_mul],.inr ⟨g,c,_,e2,rfl,Nat.zero_le _,setRow_heap w g cur _ e2 _ hg,hroom, ?_, ?_⟩⟩
   ·simp only[List.size_toArray,List.length_append,List.length_take,List.length_drop,Array.length_toList]
    rw[hsz]
    rw[hsz]at ub
    omega
   ·rw[hsz,n9]
    have e1:(n+m)*sz=(xs++news).length:=by rw[List.length_append,ho.1,hl,hsz,Nat.add_mul]
    rw[e1]
    exact List.take_left
  refine Fe (w':=w.setRow g (cur.toList.take (n*i.size)++news++cur.toList.drop (n*i.size+news.length)).toArray) hI hi rfl ⟨rfl,rfl,rfl,by simp,fun j _ hj=>setRow_other w g j _ (fun h=>hj (by rw[h]))⟩ (jW (g:=g) (fun j _ hj=>setRow_other w g j _ hj) fun q ⟨cc,e',q1,q2⟩=>⟨_,e2,setRow_heap w g cur _ e2 _ hg,by
   rw[hg]at q1
   simp only[Option.some.injEq,Obj.cells.injEq]at q1
   obtain⟨rfl,_,_⟩:=q1
   simp only[List.size_toArray,List.length_append,List.length_take,List.length_drop,Array.length_toList]
   omega⟩) Nb Ab (fun k'=>k'≠k∧hit (2*d) k'=false) (fun k' x' e' pI cp=> ?_) (fun o sp v hS hv=> ?_)
   (fun o hS=> ?_) jV MB RD eu (8*d) hd8 _ yk hs1 hs2 hs3
  ·have:=hI.dK k' k _ _ _ _ cp hk pI.1
   simpa [Value.ownBlock]using this
  ·have hlt:=RC o hS
   simp only[World.cell?,hg]at hv
   simp only[World.cell?,setRow_heap w g cur _ e2 _ hg]
   split at hv
   ·cases hv
   ·rename_i hsp
    rw[if_neg hsp,gY _ _ _ _ ub,if_neg (by rw[hsz];omega)]
    exact hv
  ·have:=RC o hS
   have h3:n*sz≤(n+m)*i.size:=by rw[hsz];exact Nat.mul_le_mul_right _ (by omega)
   omega
 ·have np:0< m:=by omega
  have hfo:(Builtin.firstCells i.size n (.slice (some ⟨g,0,none⟩) n c)).run P w.drew= .ok xs.toArray w.drew:=
   run_firstCells_some w.drew i.size n ⟨g,0,none⟩ n c xs (by rw[ho.1,hsz]) (by simpa using ho.cells (g:=g) (by simp[Value.ownBlock]))
  refine⟨_,_,vD ht hi hz hs hfo (by omega) np nJ (by omega), ?_⟩
  have jV:=AQ (KL (w:=w) (base:=w.heap.size) (e:=e) (i:=i) (z:=z) (n:=n) (m:=m) (old:=c) (xs:=xs) (news:=news) da (Nat.le_refl _) (by rw[ho.1,hsz]) hl nJ)
  refine Fe (w':=w.drew.alloc (.cells (xs.toArray++news.toArray++Builtin.zeroCells z.cells (grownCap w (n+m) c e-(n+m))) e)) hI hi rfl ⟨rfl,rfl,rfl,by simp,fun j hj _=>heap_alloc_old w.drew _ j hj⟩ (iw fun j hj=>heap_alloc_old w.drew _ j hj) (fun h=>by have:=hI.below.lt _ h;have:=hI.below.size;omega) (fun s ft=> ?_) (fun k'=>k'≠k∧hit (2*d) k'=false) (fun k' x' e' pI cp=> ?_)
   (fun o sp v hS hv=> ?_) (fun o hS=> ?_) (DB jV (Nat.zero_le _)) MB RD eu (8*d) hd8 _ yk hs1 hs2 hs3
  ·have:=hI.vE ft
   omega
  ·intro h
   have:=hI.HL cp h
   omega
  ·have:=hI.lt _ _ hS;omega
  ·have:=hI.lt _ _ hS;omega
theorem HM{σ:St}{d e u t ty:Nat}{n m c:Nat}{base:Option Addr}{x:Value}{cs ys:List T}{olds news:List Value}{i:TypeInfo}{z:Value}(hI:Inv P W S0 S β φ σ.boxes w)(ht:P.underlying t=some (.slice e))(hi:P.info? e=some i)(hz:i.zero=some z)
  (da:z.cells.size=i.size) (hs:sM P u i z x m news w) (hl:news.length=m*i.size) (KN:news.length=ys.length) (h1:∀v∈news,v.oneCell'=true)
  (hr:∀(j:Nat) (y:Value) (u:T),news[j]? =some y→ys[j]? =some u→ak S w bj cz y u)
  (hold:(Builtin.firstCells i.size n (.slice base n c)).run P w.drew= .ok olds.toArray w.drew) (ym:olds.length=n*i.size) (vU:olds.length=cs.length) (uc:∀v∈olds,v.oneCell'=true)
  (F7:∀(j:Nat) (y:Value) (u:T),olds[j]? =some y→cs[j]? =some u→ak S w bj cz y u)
  (hc:c< n+m) (np:0< m) (nJ:n+m≤4294967296) (dZ:(n+m)*i.bytes≤4294967296):
  ∃x' w',(Builtin.append_ #[t,u] ty #[.slice base n c,x]).run P w= .ok x' w'∧ax P W S0 S β φ w σ (σ.strip (2*d)) (.sl (.own (8*d) e) (n+m) (cs++ys)) x' w':=by
 refine⟨_,_,vD ht hi hz hs hold hc np nJ (by omega), ?_⟩
 have jV:=AQ (KL (w:=w) (base:=w.heap.size) (e:=e) (i:=i) (z:=z) (n:=n) (m:=m) (old:=c) (xs:=olds) (news:=news) da (Nat.le_refl _) ym hl nJ)
 refine HK (w':=w.drew.alloc (.cells (olds.toArray++news.toArray++Builtin.zeroCells z.cells (grownCap w (n+m) c e-(n+m))) e)) hI ⟨rfl,rfl,rfl,by simp,fun j hj=>heap_alloc_old w.drew _ j hj⟩ hi rfl jV (by simp[vU,KN]) (fun v hv=> ?_) (fun j y u hy hu=> ?_)
 ·rcases List.mem_append.1 hv with h|h
  ·exact uc v h
  ·exact h1 v h
 ·by_cases hj:j< olds.length
  ·rw[List.getElem?_append_left hj]at hy
   rw[List.getElem?_append_left (by omega)]at hu
   exact F7 j y u hy hu
  ·rw[List.getElem?_append_right (by omega)]at hy
   rw[List.getElem?_append_right (by omega),←vU]at hu
   exact hr _ y u hy hu
end
end Go.Vi
end
