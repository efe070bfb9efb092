/-
  A claim's own text, joined by a small program out of: Vj5, Vj6.
-/
import Derived.Test.YtodollbkpkpklaaGreatY9
import Derived.Lib.AppendStr
set_option linter.unusedVariables false
set_option linter.unusedSimpArgs false
section
namespace Go.Vi
open Go Go.RowKit
section
variable{P:Program}
def tf(P:Program)(u:TypeId)(i:TypeInfo)(z x:Value)(m:Nat)(news:List Value)(w:World):Prop:=
 (∃d,P.underlying u=some d∧(∀k,d≠ .int k)∧∀w':World,w'.heap=w.heap→(Builtin.lenOf x).run P w'= .ok m w'∧(Builtin.firstCells i.size m x).run P w'= .ok news.toArray w')∨
 (∃kn kq,P.underlying u=some (.int kn)∧x= .int kq (m:Int)∧m≤4294967296∧m*i.bytes≤281474976710656∧0< i.size∧z.cells.size=i.size∧news=(Builtin.zeroCells z.cells m).toList)
theorem AI{t u ty e:TypeId}{i:TypeInfo}{z:Value}(ht:P.underlying t=some (.slice e))(hi:P.info? e=some i)(hz:i.zero=some z){x:Value}{m:Nat}{news:List Value}{w:World}(hs:tf P u i z x m news w)
  {g sLen sCap:Nat} {cur:Array Value} {e2:TypeId} (hg:w.heap[g]? =some (.cells cur e2 (0,0))) (h1:∀v∈news,v.oneCell'=true) (hroom:sLen+m≤sCap) (dh:sLen*i.size+news.length≤cur.size):
  (Builtin.append_ #[t,u] ty #[.slice (some ⟨g,0,none⟩) sLen sCap,x]).run P w=
   .ok (.slice (some ⟨g,0,none⟩) (sLen+m) sCap) (w.setRow g (cur.toList.take (sLen*i.size)++news++cur.toList.drop (sLen*i.size+news.length)).toArray):=by
 have hst:=run_storeCells_at P g (sLen*i.size) e2 news 0 cur w hg (by simpa using dh) h1
 simp only[Nat.add_zero]at hst
 rcases hs with⟨d,hu,hd,cI⟩|⟨kn,kq,hu,rfl,hm,hb,hsz,da,rfl⟩
 ·obtain⟨hl,hf⟩:=cI w rfl
  have hint:(match(generalizing:=false) d with| .int _=>true|_=>false)=false:=by cases d<;>first|rfl|exact absurd rfl (hd _)
  simp[Builtin.append_,run_underlying ht,run_underlying hu,sizeOf,typeInfo,hi,hint,hl,hroom,hf,Addr.add_lit,hst]
 ·have hw:IntKind.i64.wrap (m:Int)=m:=by rw[IntKind.wrap_i64];omega
  have tq:¬((m:Int)< 0):=by omega
  have aa2:¬(281474976710656< (m:Int)*(i.bytes:Int)):=by rw[←Int.natCast_mul];omega
  by_cases h0:m*i.size=0
  ·have nI:m=0:=by rcases Nat.mul_eq_zero.1 h0 with h|h<;>omega
   subst nI
   have e0:(Builtin.zeroCells z.cells 0).toList=[]:=by simp[Builtin.zeroCells]
   rw[e0]at hst⊢
   simp[Builtin.append_,run_underlying ht,run_underlying hu,sizeOf,typeInfo,zeroValue,hi,hz,asInt,asIntOf,IntKind.wrap_i64,hroom,Addr.add_lit]at hst⊢
   simp at hroom
   simp[hroom,hst]
  ·simp[Builtin.append_,run_underlying ht,run_underlying hu,sizeOf,typeInfo,zeroValue,hi,hz,asInt,asIntOf,hw,tq,aa2,h0,hroom,Addr.add_lit,hst]
theorem wm{t u ty e:TypeId}{i:TypeInfo}{z:Value}(ht:P.underlying t=some (.slice e))(hi:P.info? e=some i)(hz:i.zero=some z){x:Value}{m:Nat}{news:List Value}{w:World}(hs:tf P u i z x m news w)
  {base:Option Addr} {sLen sCap:Nat} {olds:List Value} (hold:(Builtin.firstCells i.size sLen (.slice base sLen sCap)).run P w.drew= .ok olds.toArray w.drew) (hg:sCap< sLen+m) (h0m:0< m)
  (nY:sLen+m≤4294967296) (dh:(sLen+m)*i.bytes≤140737488355328):
  (Builtin.append_ #[t,u] ty #[.slice base sLen sCap,x]).run P w=
   .ok (.slice (some ⟨w.heap.size,0,none⟩) (sLen+m) (grownCap w (sLen+m) sCap e))
    (w.drew.alloc (.cells (olds.toArray++news.toArray++Builtin.zeroCells z.cells (grownCap w (sLen+m) sCap e-(sLen+m))) e)):=by
 have hn:¬(sLen+m≤sCap):=by omega
 have agj:¬(9223372036854775807< ((sLen:Int)+(m:Int))):=by omega
 have aa3:¬(281474976710656< Builtin.nextslicecap (sLen+m) sCap*i.bytes):=by have:=growslice_fits hg dh;omega
 rcases hs with⟨d,hu,hd,cI⟩|⟨kn,kq,hu,rfl,hm,hb,hsz,da,rfl⟩
 ·obtain⟨hl,_⟩:=cI w rfl
  obtain⟨_,hf⟩:=cI w.drew rfl
  have hint:(match(generalizing:=false) d with| .int _=>true|_=>false)=false:=by cases d<;>first|rfl|exact absurd rfl (hd _)
  simp[Builtin.append_,run_underlying ht,run_underlying hu,sizeOf,typeInfo,zeroValue,hi,hz,hint,hl,hn,agj,aa3,Question.forced,hf,hold,newRow,grownCap]
  simp only[←Array.append_assoc,List.append_toArray]
 ·have hw:IntKind.i64.wrap (m:Int)=m:=by rw[IntKind.wrap_i64];omega
  have tq:¬((m:Int)< 0):=by omega
  have aa2:¬(281474976710656< (m:Int)*(i.bytes:Int)):=by rw[←Int.natCast_mul];omega
  have h0:¬(m*i.size=0):=Nat.mul_ne_zero (by omega) (by omega)
  simp[Builtin.append_,run_underlying ht,run_underlying hu,sizeOf,typeInfo,zeroValue,hi,hz,asInt,asIntOf,hw,hn,tq,h0,agj,aa3,aa2,Question.forced,hold,newRow,grownCap]
theorem La{base e:Nat}{i:TypeInfo}{z:Value}{w:World}{n m old:Nat}{xs news:List Value}(x5:z.cells.size=i.size)(hb:base≤w.heap.size)(hx:xs.length=n*i.size)(hl:news.length=m*i.size)(nY:n+m≤4294967296):
  (w.drew.alloc (.cells (xs.toArray++news.toArray++Builtin.zeroCells z.cells (grownCap w (n+m) old e-(n+m))) e)).ownsRow base e i.size
   (.slice (some ⟨w.heap.size,0,none⟩) (n+m) (grownCap w (n+m) old e)) (n+m) (xs++news):=by
 have Bm:=grownCap_ge w (n+m) old e
 have Wc:grownCap w (n+m) old e≤maxLen:=grownCap_le_maxLen w (n+m) old e (by simp only[maxLen];omega)
 have hlen:(xs++news).length=(n+m)*i.size:=by rw[List.length_append,hx,hl,Nat.add_mul]
 refine⟨hlen,.inr ⟨w.heap.size,_,_,rfl,hb,heap_alloc_new w.drew _,Bm,Wc, ?_, ?_⟩⟩
 ·simp only[Array.size_append,List.size_toArray,size_zeroCells,x5,hx,hl,←Nat.add_mul]
  congr 1
  omega
 ·simp only[Array.toList_append,List.append_assoc]
  rw[←List.append_assoc,←hlen]
  exact List.take_left
end
end Go.Vi
end
section
namespace Go.Vi
open Go Go.RowKit
section
variable{P:Program}{W:di}{w:World}{S0 S:Nat→Nat→Prop}{β:aX}{φ:bB}
theorem D7{base ac3 e sz:Nat}{v:Value}{n:Nat}{xs:List Value}(h:uE w base e sz v n xs)(hb:ac3≤base):uE w ac3 e sz v n xs:=by
 refine⟨h.1, ?_⟩
 rcases h.2 with h2|⟨g,cap,cur,e',hv,hg,r⟩
 ·exact .inl h2
 ·exact .inr ⟨g,cap,cur,e',hv,by omega,r⟩
theorem FK{σ σ':St}(hI:Inv P W S0 S β φ σ.boxes w){w':World}{g n c e sz:Nat}{xs:List Value}{cs:List T}{i:TypeInfo}(hi:P.info? e=some i)(hsz:i.size=sz)
  (zM:w.grownBy w' (some g)) (nZ:cg w w') (ND:¬W.X g) (AJ:∀s,β s≠some g) (xG:Nat→Prop) [DecidablePred xG]
  (zN:∀k x e,xG k→φ k=some (x,e)→x.ownBlock≠some g)
  (ey:∀o sp v,S g o→w.cell? ⟨g,o,sp⟩=some v→w'.cell? ⟨g,o,sp⟩=some v) (RU:∀o,S g o→o< n*sz)
  (ho:uE w' 0 e sz (.slice (some ⟨g,0,none⟩) n c) n xs) (hx:xs.length=cs.length) (h1:∀v∈xs,v.oneCell'=true)
  (hr:∀(j:Nat) (y:Value) (u:T),xs[j]? =some y→cs[j]? =some u→ak S w bn cD y u) (k1:Nat) (kz:¬xG k1) (adj:T→T)
  (amF:∀(y:Value) (u:T) (S':Nat→Nat→Prop) (Bn:World) (β':aX) (φ':bB),ak S' Bn β' φ y u→(∀k p,φ k=some p→xG k→φ' k=some p)→ak S' Bn β' φ' y (adj u))
  (vo:σ'.rs=σ.rs.map adj) (l6:σ'.vars=σ.vars.map adj) (n9:σ'.boxes=σ.boxes.map (Option.map (List.map adj))):
  ax P W S0 S β φ w σ σ' (.sl (.own k1 e) n cs) (.slice (some ⟨g,0,none⟩) n c) w':=by
 let S':Nat→Nat→Prop:=fun b o=>S b o∨(b=g∧o< n*sz)
 let φ':bB:=fun k=>if k=k1 then some (.slice (some ⟨g,0,none⟩) n c,e)else if xG k then φ k else none
 have wN:∀k p,φ k=some p→xG k→φ' k=some p:=fun k p hk pW=>by
  have:k≠k1:=fun h=>kz (h▸pW)
  simp[φ',this,pW,hk]
 have hlen:cs.length=n*sz:=by rw[←hx];exact ho.1
 have Lc:∀b o,S b o→S' b o:=fun b o h=> .inl h
 have iE:∀b o,S b o→∀sp v,w.cell? ⟨b,o,sp⟩=some v→w'.cell? ⟨b,o,sp⟩=some v:=fun b o hS sp v hv=>by
  by_cases hb:b=g
  ·subst hb;exact ey o sp v hS hv
  ·rw[World.cell?_of_block (w:=w) (zM.block b (hI.lt _ _ hS) (by simpa using hb))]
   exact hv
 have lh:∀y u,ak S w β φ y u→ak S' w' β φ' y (adj u):=fun y u h=>amF y u S' w' β φ' (h.mono Lc (fun _ _=>id) (fun _ _=>id) iE nZ) wN
 have amG:g< w'.heap.size:=(ho.lt g (by simp[Value.ownBlock])).2
 have cG:n≤c:=by
  rcases ho.2 with⟨h,_⟩|⟨_,_,_,_,h,_,_,h2,_⟩
  ·cases h
  ·simp only[Value.slice.injEq]at h;obtain⟨_,_,rfl⟩:=h;exact h2
 have x5:=zM.size
 refine⟨S',β,φ',adj, ?_,⟨?_, ?_, ?_, ?_,hI.inj, ?_, ?_,fun b o h=> ?_,fun b o h=> .inl (hI.base b o h),fun b o h0 sp v hv=>iE b o (hI.base b o h0) sp v (hI.stay b o h0 sp v hv),fun s b hn h0=>(hI.pX s b hn h0).imp id fun h=>by rw[n9,List.getElem?_map,h];rfl⟩,lh,vo,l6⟩
 ·refine .sl _ _ _ ⟨g,0,none⟩ n c cs (fun j=>xs.getD j undef) cG (.inr (.inr ⟨k1,e,rfl,.inl (by simp[φ'])⟩)) (fun j hj=> ?_) (fun j u hu=> ?_)
  ·have tK:j< xs.length:=by omega
   refine⟨.inr ⟨rfl,by simpa using(by omega:j< n*sz)⟩, ?_, ?_⟩
   ·have:=ho.cells (g:=g) (by simp[Value.ownBlock]) j xs[j] (by simp[tK])
    simpa [tK]using this
   ·have:xs.getD j undef=xs[j]:=by simp[tK]
    rw[this]
    exact h1 _ (List.getElem_mem tK)
  ·have hj:=(List.getElem?_eq_some_iff.1 hu).1
   have tK:j< xs.length:=by omega
   exact(hr j _ u (by simp[tK]) hu).mono Lc (fun _ _=>id) (fun _ _=>id) iE nZ
 ·exact hI.below.step zM (fun k e=>by cases e;exact ND) nZ
 ·intro b o h
  rcases h with h|⟨rfl,_⟩
  ·have:=hI.lt _ _ h;omega
  ·exact amG
 ·intro s b hb
  obtain⟨uF,lQ,b9,Dv,zO⟩:=hI.box s b hb
  have hne:b≠g:=fun h=>AJ s (h▸hb)
  refine⟨uF,fun o zP=> ?_,b9.map adj, ?_,zO.mono (zM.block b zO.lt (by simpa using hne)) lh⟩
  ·rcases zP with zP|⟨h,_⟩
   ·exact lQ o zP
   ·exact hne h
  ·rw[n9,List.getElem?_map,Dv];rfl
 ·intro s b9 hs
  rw[n9,List.getElem?_map]at hs
  obtain⟨o,zP,h⟩:=Option.map_eq_some_iff.1 hs
  cases o with
  |none=>simp at h
  |some amH=>
   simp only[Option.map_some,Option.some.injEq]at h
   exact(hI.boxed s amH zP).imp (fun e=>by rw[←h,e];rfl) id
 ·intro k x e' hk
  by_cases h:k=k1
  ·simp only[φ',h,if_true,Option.some.injEq,Prod.mk.injEq]at hk
   obtain⟨rfl,rfl⟩:=hk
   refine⟨g,n,c,sz,xs,i,rfl,hi,hsz,ho,fun o h=> ?_,AJ,ND⟩
   rcases h with h|⟨_,h⟩
   ·exact RU o h
   ·exact h
  ·simp only[φ',h,if_false]at hk
   split at hk
   ·rename_i pW
    obtain⟨g',n',c',kW,xs',i',rfl,vp,xH,zP,lQ,Dv,zO⟩:=hI.gm k x e' hk
    have hne:g'≠g:=fun h=>zN k _ e' pW hk (by simp[Value.ownBlock,h])
    refine⟨g',n',c',kW,xs',i',rfl,vp,xH,zP.kept zM (.inr (by simpa [Value.ownBlock]using hne)),fun o h=> ?_,Dv,zO⟩
    rcases h with h|⟨h,_⟩
    ·exact lQ o h
    ·exact absurd h hne
   ·cases hk
 ·intro k k' x x' e1 e2 hk cr hne
  by_cases h:k=k1<;>by_cases h':k'=k1
  ·exact absurd (h.trans h'.symm) hne
  ·simp only[φ',h,if_true,Option.some.injEq,Prod.mk.injEq]at hk
   simp only[φ',h',if_false]at cr
   split at cr
   ·rename_i pW
    obtain⟨rfl,rfl⟩:=hk
    exact fun he=>zN k' _ _ pW cr (by rw[←he];simp[Value.ownBlock])
   ·cases cr
  ·simp only[φ',h',if_true,Option.some.injEq,Prod.mk.injEq]at cr
   simp only[φ',h,if_false]at hk
   split at hk
   ·rename_i pW
    obtain⟨rfl,rfl⟩:=cr
    exact fun he=>zN k _ _ pW hk (by rw[he];simp[Value.ownBlock])
   ·cases hk
  ·simp only[φ',h,if_false]at hk
   simp only[φ',h',if_false]at cr
   split at hk<;>split at cr
   ·exact hI.dS k k' x x' e1 e2 hk cr hne
   all_goals first|cases hk|cases cr
 ·rcases h with h|⟨rfl,_⟩
  ·exact hI.top b o h
  ·exact .inr ND
theorem Ho(d i:Nat)(hi:i< 8):hit (2*d) (8*d+i)=true:=by
 simp only[hit,show 2*d%2=0 by omega,if_true,beq_iff_eq]
 omega
theorem Ib{σ:St}{d:Nat}(hI:Inv P W S0 S β φ σ.boxes w){w':World}(hb:Below w.heap.size w w'){g n c e sz:Nat}{xs:List Value}{cs:List T}{i:TypeInfo}(hi:P.info? e=some i)(hsz:i.size=sz)
  (ho:uE w' w.heap.size e sz (.slice (some ⟨g,0,none⟩) n c) n xs) (hx:xs.length=cs.length) (h1:∀v∈xs,v.oneCell'=true)
  (hr:∀(j:Nat) (y:Value) (u:T),xs[j]? =some y→cs[j]? =some u→ak S w bn cD y u):
  ax P W S0 S β φ w σ (σ.strip (2*d)) (.sl (.own (8*d) e) n cs) (.slice (some ⟨g,0,none⟩) n c) w':=by
 have hgw:w.heap.size≤g:=(ho.lt g (by simp[Value.ownBlock])).1
 have hW:=hI.below.size
 refine FK hI hi hsz ⟨hb.os,hb.tape,hb.output,hb.size,fun k hk _=>hb.block k hk⟩ (iF hb.block) (fun h=>by have:=hI.below.lt _ h;omega) (fun s hs=> ?_) (fun k=>hit (2*d) k=false) (fun k x e' _ hk=> ?_) (fun o sp v hS _=>by have:=hI.lt _ _ hS;omega)
  (fun o hS=>by have:=hI.lt _ _ hS;omega) (D7 ho (Nat.zero_le _)) hx h1 hr (8*d) (by simpa using Ho d 0 (by omega)) (T.strip (2*d)) (fun y u S' Bn β' φ' h hp=>h.strip (2*d) fun k p hk hne=>hp k p hk hne) ?_ ?_ ?_
 ·have:=hI.wo hs
  omega
 ·intro h
  have:=hI.Ic hk h
  omega
 ·simp[St.strip,aE]
 ·simp[St.strip,aE]
 ·simp only[St.strip]
  congr 1
  funext o
  cases o<;>simp[aE]
theorem TM{σ:St}{d k e u t ty:Nat}{n m:Nat}{x0 x:Value}{cs ys:List T}{news:List Value}{i:TypeInfo}{z:Value}(hI:Inv P W S0 S β φ σ.boxes w)(ht:P.underlying t=some (.slice e))(hi:P.info? e=some i)(hz:i.zero=some z)
  (da:z.cells.size=i.size) (hs:tf P u i z x m news w) (hl:news.length=m*i.size) (Ld:news.length=ys.length) (h1:∀v∈news,v.oneCell'=true)
  (hr:∀(j:Nat) (y:Value) (u:T),news[j]? =some y→ys[j]? =some u→ak S w bn cD y u)
  (Wd:ak S w β φ x0 (.sl (.own k e) n cs)) (ke:∃a c,x0= .slice (some a) n c∧φ k=some (.slice (some a) n c,e)) (aF:cs.length=n*i.size) (nY:n+m≤4294967296) (dh:(n+m)*i.bytes≤4294967296):
  ∃x' w',(Builtin.append_ #[t,u] ty #[x0,x]).run P w= .ok x' w'∧ax P W S0 S β φ w σ ((σ.strip (2*k+1)).strip (2*d)) (.sl (.own (8*d) e) (n+m) (cs++ys)) x' w':=by
 obtain⟨a,c,f,hk,iE,ij,rfl⟩:∃(a:Addr) (c:Nat) (f:Nat→Value),φ k=some (.slice (some a) n c,e)∧(∀i,i< cs.length→S a.block (a.off+i)∧w.cell? (a.add i)=some (f i)∧(f i).oneCell'=true)∧
   (∀i t,cs[i]? =some t→ak S w bn cD (f i) t)∧x0= .slice (some a) n c:=by
  obtain⟨a',c',rfl,cr⟩:=ke
  generalize ht:T.sl (.own k e) n cs=tt at Wd
  cases Wd with
  |sl _ _ g a n c cs f cG hg aF h=>cases ht;exact⟨_,_,f,cr,aF,h,rfl⟩
  |undef=>cases ht
  |v=>cases ht
  |au=>cases ht
  |iv=>cases ht
 obtain⟨g,n',c',sz,xs,i',hx,vp,hsz,ho,RU,AJ,ND⟩:=hI.gm k _ e hk
 rw[hi]at vp
 simp only[Option.some.injEq]at vp
 subst vp
 simp only[Value.slice.injEq,Option.some.injEq]at hx
 obtain⟨rfl,rfl,rfl⟩:=hx
 have hgw:g< w.heap.size:=(ho.lt g (by simp[Value.ownBlock])).2
 have Lf:∀j y u,xs[j]? =some y→cs[j]? =some u→ak S w bn cD y u:=fun j y u hy hu=>by
  have h2:=(iE j ((List.getElem?_eq_some_iff.1 hu).1)).2.1
  have h3:=ho.cells (g:=g) (by simp[Value.ownBlock]) j y hy
  rw[h2]at h3
  simp only[Option.some.injEq]at h3
  subst h3
  exact ij j u hu
 have NF:∀v∈xs,v.oneCell'=true:=fun v hv=>by
  obtain⟨j,hj⟩:=List.mem_iff_getElem?.1 hv
  have hlt:j< cs.length:=by have:=(List.getElem?_eq_some_iff.1 hj).1;rw[aF,hsz,←ho.1];exact this
  obtain⟨_,h2,h3⟩:=iE j hlt
  have h4:=ho.cells (g:=g) (by simp[Value.ownBlock]) j v hj
  rw[h2]at h4
  simp only[Option.some.injEq]at h4
  exact h4▸h3
 have D8:xs.length=cs.length:=by rw[ho.1,aF,hsz]
 have dN:∀(j:Nat) (y:Value) (u:T),(xs++news)[j]? =some y→(cs++ys)[j]? =some u→ak S w bn cD y u:=fun j y u hy hu=>by
  by_cases hj:j< xs.length
  ·rw[List.getElem?_append_left hj]at hy
   rw[List.getElem?_append_left (by omega)]at hu
   exact Lf j y u hy hu
  ·rw[List.getElem?_append_right (by omega)]at hy
   rw[List.getElem?_append_right (by omega),←D8]at hu
   exact hr _ y u hy hu
 have RV:∀v∈xs++news,v.oneCell'=true:=fun v hv=>by
  rcases List.mem_append.1 hv with h|h
  ·exact NF v h
  ·exact h1 v h
 have yP:∀(y:Value) (u:T) (S':Nat→Nat→Prop) (Bn:World) (β':aX) (φ':bB),ak S' Bn β' φ y u→(∀k' p,φ k'=some p→(k'≠k∧hit (2*d) k'=false)→φ' k'=some p)→
   ak S' Bn β' φ' y ((T.strip (2*d)∘T.strip (2*k+1)) u):=fun y u S' Bn β' φ' h hp=>
  ak.strip (φ:=fun k'=>if k'=k then none else φ k') (2*d) (h.strip (2*k+1) fun k' p cr hne=>by
   have:k'≠k:=fun e=>by subst e;simp[hit]at hne;omega
   simp[this,cr]) fun k' p cr hne=>by
   by_cases hh:k'=k
   ·simp[hh]at cr
   ·simp only[hh,if_false]at cr;exact hp k' p cr ⟨hh,hne⟩
 have hs1:((σ.strip (2*k+1)).strip (2*d)).rs=σ.rs.map (T.strip (2*d)∘T.strip (2*k+1)):=by simp[St.strip,aE]
 have hs2:((σ.strip (2*k+1)).strip (2*d)).vars=σ.vars.map (T.strip (2*d)∘T.strip (2*k+1)):=by simp[St.strip,aE]
 have hs3:((σ.strip (2*k+1)).strip (2*d)).boxes=σ.boxes.map (Option.map (List.map (T.strip (2*d)∘T.strip (2*k+1)))):=by
  simp only[St.strip,List.map_map]
  congr 1
  funext o
  cases o<;>simp[aE]
 have hd8:¬(8*d≠k∧hit (2*d) (8*d)=false):=fun h=>by
  have:=Ho d 0 (by omega)
  simp only[Nat.add_zero]at this
  rw[this]at h
  exact absurd h.2 (by simp)
 have M3:(xs++news).length=(cs++ys).length:=by simp[D8,Ld]
 rcases ho.2 with⟨h,_⟩|⟨g',cap,cur,e2,mN,_,hg,cG,yQ,oD⟩
 ·cases h
 simp only[Value.slice.injEq,Option.some.injEq,Addr.mk.injEq]at mN
 obtain⟨⟨rfl,_⟩,_,rfl⟩:=mN
 by_cases hroom:n+m≤c
 ·have uG:n*i.size+news.length≤cur.size:=by rw[hl,←Nat.add_mul];exact Nat.le_trans (Nat.mul_le_mul_right _ hroom) (hsz▸yQ)
  refine⟨_,_,AI ht hi hz hs hg h1 hroom uG, ?_⟩
  have ke:uE (w.setRow g (cur.toList.take (n*i.size)++news++cur.toList.drop (n*i.size+news.length)).toArray) 0 e i.size (.slice (some ⟨g,0,none⟩) (n+m) c) (n+m) (xs++news):=by
   refine⟨by rw[List.length_append,ho.1,hl,hsz,Nat.add_mul],.inr ⟨g,c,_,e2,rfl,Nat.zero_le _,setRow_heap w g cur _ e2 _ hg,hroom, ?_, ?_⟩⟩
   ·simp only[List.size_toArray,List.length_append,List.length_take,List.length_drop,Array.length_toList]
    rw[hsz]
    rw[hsz]at uG
    omega
   ·rw[hsz,oD]
    have e1:(n+m)*sz=(xs++news).length:=by rw[List.length_append,ho.1,hl,hsz,Nat.add_mul]
    rw[e1]
    exact List.take_left
  refine FK (w':=w.setRow g (cur.toList.take (n*i.size)++news++cur.toList.drop (n*i.size+news.length)).toArray) hI hi rfl ⟨rfl,rfl,rfl,by simp,fun j _ hj=>setRow_other w g j _ (fun h=>hj (by rw[h]))⟩ (kf (g:=g) (fun j _ hj=>setRow_other w g j _ hj) fun q ⟨cc,e',q1,q2⟩=>⟨_,e2,setRow_heap w g cur _ e2 _ hg,by
   rw[hg]at q1
   simp only[Option.some.injEq,Obj.cells.injEq]at q1
   obtain⟨rfl,_,_⟩:=q1
   simp only[List.size_toArray,List.length_append,List.length_take,List.length_drop,Array.length_toList]
   omega⟩) ND AJ (fun k'=>k'≠k∧hit (2*d) k'=false) (fun k' x' e' pW cr=> ?_) (fun o sp v hS hv=> ?_)
   (fun o hS=> ?_) ke M3 RV dN (8*d) hd8 _ yP hs1 hs2 hs3
  ·have:=hI.dS k' k _ _ _ _ cr hk pW.1
   simpa [Value.ownBlock]using this
  ·have hlt:=RU o hS
   simp only[World.cell?,hg]at hv
   simp only[World.cell?,setRow_heap w g cur _ e2 _ hg]
   split at hv
   ·cases hv
   ·rename_i hsp
    rw[if_neg hsp,iw _ _ _ _ uG,if_neg (by rw[hsz];omega)]
    exact hv
  ·have:=RU o hS
   have h3:n*sz≤(n+m)*i.size:=by rw[hsz];exact Nat.mul_le_mul_right _ (by omega)
   omega
 ·have nI:0< m:=by omega
  have hfo:(Builtin.firstCells i.size n (.slice (some ⟨g,0,none⟩) n c)).run P w.drew= .ok xs.toArray w.drew:=
   run_firstCells_some w.drew i.size n ⟨g,0,none⟩ n c xs (by rw[ho.1,hsz]) (by simpa using ho.cells (g:=g) (by simp[Value.ownBlock]))
  refine⟨_,_,wm ht hi hz hs hfo (by omega) nI nY (by omega), ?_⟩
  have ke:=Bo (La (w:=w) (base:=w.heap.size) (e:=e) (i:=i) (z:=z) (n:=n) (m:=m) (old:=c) (xs:=xs) (news:=news) da (Nat.le_refl _) (by rw[ho.1,hsz]) hl nY)
  refine FK (w':=w.drew.alloc (.cells (xs.toArray++news.toArray++Builtin.zeroCells z.cells (grownCap w (n+m) c e-(n+m))) e)) hI hi rfl ⟨rfl,rfl,rfl,by simp,fun j hj _=>heap_alloc_old w.drew _ j hj⟩ (iF fun j hj=>heap_alloc_old w.drew _ j hj) (fun h=>by have:=hI.below.lt _ h;have:=hI.below.size;omega) (fun s fA=> ?_) (fun k'=>k'≠k∧hit (2*d) k'=false) (fun k' x' e' pW cr=> ?_)
   (fun o sp v hS hv=> ?_) (fun o hS=> ?_) (D7 ke (Nat.zero_le _)) M3 RV dN (8*d) hd8 _ yP hs1 hs2 hs3
  ·have:=hI.wo fA
   omega
  ·intro h
   have:=hI.Ic cr h
   omega
  ·have:=hI.lt _ _ hS;omega
  ·have:=hI.lt _ _ hS;omega
theorem Ie{σ:St}{d e u t ty:Nat}{n m c:Nat}{base:Option Addr}{x:Value}{cs ys:List T}{olds news:List Value}{i:TypeInfo}{z:Value}(hI:Inv P W S0 S β φ σ.boxes w)(ht:P.underlying t=some (.slice e))(hi:P.info? e=some i)(hz:i.zero=some z)
  (da:z.cells.size=i.size) (hs:tf P u i z x m news w) (hl:news.length=m*i.size) (Ld:news.length=ys.length) (h1:∀v∈news,v.oneCell'=true)
  (hr:∀(j:Nat) (y:Value) (u:T),news[j]? =some y→ys[j]? =some u→ak S w bn cD y u)
  (hold:(Builtin.firstCells i.size n (.slice base n c)).run P w.drew= .ok olds.toArray w.drew) (yR:olds.length=n*i.size) (wO:olds.length=cs.length) (pG:∀v∈olds,v.oneCell'=true)
  (Gw:∀(j:Nat) (y:Value) (u:T),olds[j]? =some y→cs[j]? =some u→ak S w bn cD y u)
  (hc:c< n+m) (nI:0< m) (nY:n+m≤4294967296) (dh:(n+m)*i.bytes≤4294967296):
  ∃x' w',(Builtin.append_ #[t,u] ty #[.slice base n c,x]).run P w= .ok x' w'∧ax P W S0 S β φ w σ (σ.strip (2*d)) (.sl (.own (8*d) e) (n+m) (cs++ys)) x' w':=by
 refine⟨_,_,wm ht hi hz hs hold hc nI nY (by omega), ?_⟩
 have ke:=Bo (La (w:=w) (base:=w.heap.size) (e:=e) (i:=i) (z:=z) (n:=n) (m:=m) (old:=c) (xs:=olds) (news:=news) da (Nat.le_refl _) yR hl nY)
 refine Ib (w':=w.drew.alloc (.cells (olds.toArray++news.toArray++Builtin.zeroCells z.cells (grownCap w (n+m) c e-(n+m))) e)) hI ⟨rfl,rfl,rfl,by simp,fun j hj=>heap_alloc_old w.drew _ j hj⟩ hi rfl ke (by simp[wO,Ld]) (fun v hv=> ?_) (fun j y u hy hu=> ?_)
 ·rcases List.mem_append.1 hv with h|h
  ·exact pG v h
  ·exact h1 v h
 ·by_cases hj:j< olds.length
  ·rw[List.getElem?_append_left hj]at hy
   rw[List.getElem?_append_left (by omega)]at hu
   exact Gw j y u hy hu
  ·rw[List.getElem?_append_right (by omega)]at hy
   rw[List.getElem?_append_right (by omega),←wO]at hu
   exact hr _ y u hy hu
end
end Go.Vi
end
