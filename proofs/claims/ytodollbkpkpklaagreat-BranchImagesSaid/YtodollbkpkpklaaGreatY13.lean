/-
  A claim's own text, joined by a small program out of: Vj12b, Vj12c, Vj13.
-/
import Derived.Test.YtodollbkpkpklaaGreatY12
import Derived.MapKept
import Derived.RangeFuncRecord
set_option linter.unusedVariables false
set_option linter.unusedSimpArgs false
section
namespace Go.Vi
open Go Go.RowKit
section
variable{P:Program}{W:di}{w:World}{S0 S:Nat→Nat→Prop}{β:aX}{φ:bB}{a:Act}{o:Oper}{σ:St}
theorem mT(W:World)(l:Nat)(o:Obj):W.grownBy (W.putObj l o) (some l):=
 ⟨rfl,rfl,rfl,by simp,fun k _ hk=>World.putObj_heap_other (fun h=>hk (by rw[h]))⟩
theorem Wy{s:Nat}{t:T}{x:Value}(hI:Inv P W S0 S β φ σ.boxes w)(hn:s< W.nb)(hs:σ.boxes[s]? =some none)(h:ak S w β φ x t):ax P W S0 S β φ w σ {σ with boxes:=σ.boxes.set s (some [])} t x w:=by
 have hlt:s< σ.boxes.length:=(List.getElem?_eq_some_iff.1 hs).1
 refine⟨S,β,φ,id,h,⟨hI.below,hI.lt,fun s' b hb=> ?_,fun s' b9 hb=> ?_,hI.inj,hI.gm,hI.dS,hI.top,hI.base,hI.stay,fun s' b nK h0=>(hI.pX s' b nK h0).imp id fun h=>by simpa [List.getElem?_set,show ¬s=s' by omega]using h⟩,fun _ _=>id,by simp,by simp⟩
 ·obtain⟨h1,h2,cs,h3,h4⟩:=hI.box s' b hb
  refine⟨h1,h2,cs, ?_,h4⟩
  by_cases es:s'=s
  ·subst es;rw[hs]at h3;simp at h3
  ·simpa [List.getElem?_set,Ne.symm es]using h3
 ·by_cases es:s'=s
  ·subst es
   simp[hlt]at hb
   exact .inl hb
  ·simp only[List.getElem?_set,Ne.symm es,if_false]at hb
   exact hI.boxed s' b9 hb
theorem ax.Lm{σ':St}{t:T}{x:Value}{w1 w':World}(hI:Inv P W S0 S β φ σ.boxes w)(hb:Below w.heap.size w w1)(h:ax P W S0 S β φ w1 σ σ' t x w'):ax P W S0 S β φ w σ σ' t x w':=by
 obtain⟨S',β',φ',adj,h1,h2,h3,h4,h5⟩:=h
 exact⟨S',β',φ',adj,h1,h2,fun y u hu=>h3 _ _ (hu.grow hI.lt hb),h4,h5⟩
theorem Wz(hI:Inv P W S0 S β φ σ.boxes w){c:Call}{x y:Operand}{t u e s m:Nat}{g:Tag}{xs ys zs:List T}{i:TypeInfo}{z:Value}{news:List Value}{r:T}{σ':St}(ho:o.op= .call c)(hc:c.callee= .builtin .append)(ha:c.args.toList=[x,y])(uI:c.argTypes.toList=[t,u])
  (ht:P.underlying t=some (.slice e)) (hi:P.info? e=some i) (hz:i.zero=some z) (da:z.cells.size=i.size) (hsz:0< i.size) (hx:ak S w β φ (a.eval x) (.sl g 0 xs)) (mb:ys.length=m*i.size)
  (cI:tf P u i z (a.eval y) m news w) (ny:news.length=ys.length) (h1:∀v∈news,v.oneCell'=true) (hr:∀(j:Nat) (q:Value) (t:T),news[j]? =some q→ys[j]? =some t→ak S w bn cD q t)
  (nY:m≤4294967296) (dh:m*i.bytes≤4294967296) (hs:σ.boxes[s]? =some none) (hp:s%2=0) (hns:s< W.nb)
  (h:(match(generalizing:=false) g with
    | .own k e'=>if e'=e∧0< m then some (T.au s 0 m (m*i.size),{σ.strip (2*k+1)with boxes:=(σ.strip (2*k+1)).boxes.set s (some ys)})else none
    | .nil=>some (T.au s 0 m (m*i.size),{σ with boxes:=σ.boxes.set s (some ys)})
    | .clip=>some (T.au s 0 m (m*i.size),{σ with boxes:=σ.boxes.set s (some ys)})
    |_=>none)=some (r,σ')):
  ∃x w',aL P a o w x w'∧ax P W S0 S β φ w σ σ' r x w':=by
 have he:=mu (P:=P) (w:=w) (a:=a) ho hc [x,y] ha [t,u] uI
 have oE:∀v w',(Builtin.append_ #[t,u] o.type #[a.eval x,a.eval y]).run P w= .ok v w'→aL P a o w v w':=fun v w' hh=> .inl (by rw[he];simp[builtin,hh])
 have Ih:m=0→ys=[]:=fun hm=>List.eq_nil_of_length_eq_zero (by rw[mb,hm];simp)
 generalize hv:a.eval x=xv at hx oE
 have grow:∀(base:Option Addr) (c':Nat) (sj:bB) (az:St),xv= .slice base 0 c'→c'< m→Inv P W S0 S β sj az.boxes w→az.boxes[s]? =some none→
   ∃x w',aL P a o w x w'∧ax P W S0 S β sj w az {az with boxes:=az.boxes.set s (some ys)} (.au s 0 m (m*i.size)) x w':=fun base c' sj az oY Wc o0 hs1=>by
  have hrun:=wm (P:=P) (t:=t) (u:=u) (ty:=o.type) (base:=base) (sLen:=0) (sCap:=c') (olds:=[]) ht hi hz cI (by cases base<;>simp[Builtin.firstCells,zS]) (by omega) (by omega) (by omega) (by rw[Nat.zero_add];omega)
  refine⟨_,_,oE _ _ (by rw[oY];exact hrun), ?_⟩
  have gA:=o0.grow (w':=w.drew) (Below.refl _ _).drew
  refine ax.Lm o0 (Below.refl _ _).drew (uK (σ:=az) (o:= .cells (([]:List Value).toArray++news.toArray++Builtin.zeroCells z.cells (grownCap w (0+m) c' e-(0+m))) e) gA hns hs1 (fun β' hm=>⟨fun _=>⟨_,e,heap_alloc_new w.drew _, ?_, ?_, ?_⟩,fun h=>by omega⟩) (fun β' h=> ?_))
  ·simp[ny]
  ·intro j q hj hq
   simp only[List.append_toArray,List.nil_append]at hq
   rw[Array.getElem?_append_left (by simp[ny];omega)]at hq
   exact h1 q (List.mem_of_getElem? (by simpa using hq))
  ·intro j q u hq hu
   have hj:=(List.getElem?_eq_some_iff.1 hu).1
   simp only[List.append_toArray,List.nil_append]at hq
   rw[Array.getElem?_append_left (by simp[ny];omega)]at hq
   have:=hr j q u (by simpa using hq) hu
   refine hm _ _ ((this.grow hI.lt (w':=w.drew) (Below.refl _ _).drew).mono (fun _ _=>id) (fun _ _ h=>by simp[bn]at h) (fun _ _ h=>by simp[cD]at h) (fun _ _ _ _ _=>id) (cg.refl _))
  ·simp only[Nat.zero_add]
   refine .au _ _ _ _ _ _ _ _ h hp (by have:=grownCap_ge w (0+m) c' e;simpa using this) ⟨fun vE kW hm=> ?_,fun h0=>by omega,fun h0=>by omega⟩
   have e2:i.size=kW:=Nat.eq_of_mul_eq_mul_left vE hm
   refine⟨_,e,heap_alloc_new w.drew _, ?_⟩
   have Bm:=grownCap_ge w (0+m) c' e
   simp only[Nat.zero_add]at Bm⊢
   have e3:m+(grownCap w m c' e-m)=grownCap w m c' e:=by omega
   simp only[Array.size_append,List.size_toArray,List.length_nil,Nat.zero_add,ny,mb,size_zeroCells,da]
   rw[←e2,←Nat.add_mul,e3]
   exact Nat.le_refl _
 have wu:∀(base:Option Addr) (sj:bB) (az:St),xv= .slice base 0 0→m=0→Inv P W S0 S β sj az.boxes w→az.boxes[s]? =some none→
   ∃x w',aL P a o w x w'∧ax P W S0 S β sj w az {az with boxes:=az.boxes.set s (some ys)} (.au s 0 m (m*i.size)) x w':=fun base sj az oY hm o0 hs1=>by
  rw[Ih hm]
  refine⟨xv,w,oE _ _ ?_,Wy o0 hns hs1 (by rw[oY,hm];exact .iv ..)⟩
  subst hm
  have mP:news=[]:=List.eq_nil_of_length_eq_zero (by rw[ny,mb];simp)
  subst mP
  rw[oY]
  rcases cI with⟨dd,hu,hd,hs⟩|⟨kn,kq,hu,hy,hm,ff,wU,agm,xI⟩
  ·obtain⟨s1,s2⟩:=hs w rfl
   have hint:(match(generalizing:=false) dd with| .int _=>true|_=>false)=false:=by cases dd<;>first|rfl|exact absurd rfl (hd _)
   cases base<;>simp[Builtin.append_,run_underlying ht,run_underlying hu,sizeOf,typeInfo,hi,hint,s1,s2,storeCells]
  ·rw[hy]
   cases base<;>simp[Builtin.append_,run_underlying ht,run_underlying hu,sizeOf,typeInfo,hi,asInt,asIntOf,IntKind.wrap_i64,storeCells]
 have both:∀(base:Option Addr) (sj:bB) (az:St),xv= .slice base 0 0→Inv P W S0 S β sj az.boxes w→az.boxes[s]? =some none→
   ∃x w',aL P a o w x w'∧ax P W S0 S β sj w az {az with boxes:=az.boxes.set s (some ys)} (.au s 0 m (m*i.size)) x w':=fun base sj az oY o0 hs1=>by
  by_cases hm:m=0
  ·exact wu base sj az oY hm o0 hs1
  ·exact grow base 0 sj az oY (by omega) o0 hs1
 have yP:∀c,(σ.strip c).boxes[s]? =some none:=fun c=>by simp[St.strip,hs]
 cases hx with
 |nil _ _ _ hg=>
  cases g with
  |nil=>simp only[Option.some.injEq,Prod.mk.injEq]at h;obtain⟨rfl,rfl⟩:=h;exact both none φ σ rfl hI hs
  |l9=>cases h
  |any=>cases h
  |clip=>simp only[Option.some.injEq,Prod.mk.injEq]at h;obtain⟨rfl,rfl⟩:=h;exact both none φ σ rfl hI hs
  |own k e'=>
   simp only at h
   split at h
   ·simp only[Option.some.injEq,Prod.mk.injEq]at h
    obtain⟨rfl,rfl⟩:=h
    obtain⟨x',w',hrun,hA⟩:=both none _ _ rfl (dropped (2*k+1) hI) (yP _)
    exact⟨x',w',hrun,hA.pre (2*k+1)⟩
   ·cases h
 |sl _ _ _ ad _ c' _ f cG hg aF cj=>
  cases g with
  |nil=>rcases hg with(h'|h')|⟨h',_⟩|⟨k,e',h',_⟩<;>cases h'
  |l9=>cases h
  |any=>cases h
  |clip=>
   have Bv:c'=0:=by
    rcases hg with(h'|h')|⟨_,h'⟩|⟨k,e',h',_⟩
    ·cases h'
    ·cases h'
    ·exact h'
    ·cases h'
   subst Bv
   simp only[Option.some.injEq,Prod.mk.injEq]at h
   obtain⟨rfl,rfl⟩:=h
   exact both (some ad) φ σ rfl hI hs
  |own k e'=>
   simp only at h
   split at h
   ·rename_i Wt
    obtain⟨rfl,aqF⟩:=Wt
    simp only[Option.some.injEq,Prod.mk.injEq]at h
    obtain⟨rfl,rfl⟩:=h
    have hk:φ k=some (.slice (some ad) 0 c',e')∨((0:Nat)=0∧c'=0∧xs=[]):=by
     rcases hg with(h'|h')|⟨h',_⟩|⟨k',e2,h',hk⟩
     ·cases h'
     ·cases h'
     ·cases h'
     ·cases h';exact hk
    rcases hk with hk|⟨_,rfl,_⟩
    ·by_cases hroom:m≤c'
     ·obtain⟨gb,n',c2,sz,xs',i',Wf,vp,xH,ke,RU,AJ,ND⟩:=hI.gm k _ e' hk
      rw[hi]at vp
      simp only[Option.some.injEq]at vp
      subst vp
      simp only[Value.slice.injEq,Option.some.injEq]at Wf
      obtain⟨rfl,rfl,rfl⟩:=Wf
      rcases ke.2 with⟨h',_⟩|⟨g',cap,cur,Ij,mN,_,Gz,aq5,yQ,oD⟩
      ·cases h'
      simp only[Value.slice.injEq,Option.some.injEq,Addr.mk.injEq]at mN
      obtain⟨⟨rfl,_⟩,_,rfl⟩:=mN
      have uG:0*i.size+news.length≤cur.size:=by rw[ny,mb];have h9:=Nat.mul_le_mul_right i.size hroom;rw[←xH]at yQ;omega
      have hrun:=AI (P:=P) (t:=t) (u:=u) (ty:=o.type) ht hi hz cI Gz h1 (sLen:=0) (sCap:=c') (by omega) uG
      refine⟨_,_,oE _ _ hrun,ax.pre (2*k+1) (J6 (g:=gb) (σ:=σ.strip (2*k+1)) (dropped (2*k+1) hI) hns (yP _) ⟨rfl,rfl,rfl,by simp,fun j _ hj=>setRow_other w gb j _ (fun h=>hj (by rw[h]))⟩ ND (fun o hS=>by have:=RU o hS;omega) AJ (fun k' x' e2 cr=> ?_)
       (fun β' hm=>⟨fun _=>⟨_,Ij,setRow_heap w gb cur _ Ij _ Gz, ?_, ?_, ?_⟩,fun h=>by omega⟩) (fun β' h=> ?_)
       (kf (g:=gb) (fun j _ hj=>setRow_other w gb j _ hj) fun q ⟨cc,e2,q1,q2⟩=>⟨_,Ij,setRow_heap w gb cur _ Ij _ Gz,by
        rw[Gz]at q1
        simp only[Option.some.injEq,Obj.cells.injEq]at q1
        obtain⟨rfl,_,_⟩:=q1
        simp only[List.size_toArray,List.length_append,List.length_take,List.length_drop,Array.length_toList]
        omega⟩))⟩
      ·split at cr
       ·cases cr
       ·rename_i hh
        have hne:k'≠k:=fun e=>hh (by subst e;simp[hit];omega)
        have:=hI.dS k' k _ _ _ _ cr hk hne
        simpa [Value.ownBlock]using this
      ·simp only[List.size_toArray,List.length_append,List.length_take,List.length_drop,Array.length_toList,ny]
       omega
      ·intro j q hj hq
       rw[iw _ _ _ _ uG,if_pos (by omega)]at hq
       exact h1 q (List.mem_of_getElem? hq)
      ·intro j q u hq hu
       have hj:=(List.getElem?_eq_some_iff.1 hu).1
       rw[iw _ _ _ _ uG,if_pos (by omega)]at hq
       exact hm _ _ ((hr j q u (by simpa using hq) hu).mono (fun _ _=>id) (fun _ _ h=>by simp[bn]at h) (fun _ _ h=>by simp[cD]at h) (fun _ _ _ _ _=>id) (cg.refl _))
      ·simp only[Nat.zero_add]
       refine .au _ _ _ _ _ _ _ _ h hp hroom ⟨fun vE kW hm=> ?_,fun h0=>by omega,fun h0=>by omega⟩
       have e2:i.size=kW:=Nat.eq_of_mul_eq_mul_left vE hm
       refine⟨_,Ij,setRow_heap w gb cur _ Ij _ Gz, ?_⟩
       simp only[List.size_toArray,List.length_append,List.length_take,List.length_drop,Array.length_toList]
       rw[←e2]
       rw[xH]at*
       omega
     ·obtain⟨x',w',hrun,hA⟩:=grow (some ad) c' _ _ rfl (by omega) (dropped (2*k+1) hI) (yP _)
      exact⟨x',w',hrun,hA.pre (2*k+1)⟩
    ·obtain⟨x',w',hrun,hA⟩:=both (some ad) _ _ rfl (dropped (2*k+1) hI) (yP _)
     exact⟨x',w',hrun,hA.pre (2*k+1)⟩
   ·cases h
theorem abd{bx:List (Option (List T))}{s:Nat}{o:Option (List T)}(h:bx[s]? =some o):bx.set s o=bx:=by
 have hlt:=(List.getElem?_eq_some_iff.1 h).1
 have:bx[s]=o:=(List.getElem?_eq_some_iff.1 h).2
 rw[←this]
 exact List.set_getElem_self hlt
theorem abe(hI:Inv P W S0 S β φ σ.boxes w){c:Call}{x:Operand}{t e s off n cn:Nat}{cs zs:List T}{sz:Nat}(ho:o.op= .call c)(hc:c.callee= .builtin .clear)(ha:c.args.toList=[x])(uI:c.argTypes.toList=[t])
  (ht:P.underlying t=some (.slice e)) (hsz:P.cellsOf e=sz) (hz:zeroOf P e=some zs) (hx:ak S w β φ (a.eval x) (.au s off n cn)) (hs:σ.boxes[s]? =some (some cs)) (hp:s%2=0)
  (R0:zs.length=sz) (hle:off+n*sz≤cs.length):
  ∃x w',aL P a o w x w'∧ax P W S0 S β φ w σ {σ with boxes:=σ.boxes.set s (some (setCells cs off (List.replicate n zs).flatten))} .undef x w':=by
 have he:=mu (P:=P) (w:=w) (a:=a) ho hc [x] ha [t] uI
 have WA:n=0→∀ad c',a.eval x= .slice ad 0 c'→∃x w',aL P a o w x w'∧ax P W S0 S β φ w σ {σ with boxes:=σ.boxes.set s (some (setCells cs off (List.replicate n zs).flatten))} .undef x w':=fun hn ad c' hv=>by
  subst hn
  refine⟨.tuple #[],w,.inl ?_, ?_⟩
  ·rw[he]
   cases ad<;>simp[hv,builtin,Builtin.clear_,run_underlying ht]
  ·have:setCells cs off (List.replicate 0 zs).flatten=cs:=by simp[setCells]
   rw[this,abd hs]
   exact ax.same hI (.undef ..)
 generalize hv:a.eval x=xv at hx
 cases hx with
 |iv _ _ ad _ _ _=>exact WA rfl ad 0 hv
 |au _ _ _ _ _ _ b cap hb _ cG oZ=>
  by_cases hn:n=0
  ·subst hn;exact WA rfl _ cap hv
  ·obtain⟨cc,ce,hcc,xH,RZ,Wx⟩:=mQ hI hb hp hs
   obtain⟨i,z,hi,rq,da,hR⟩:=jW (S:=S) (w:=w) (β:=β) (φ:=φ) hz
   obtain⟨r1,r2,r3⟩:=iG hR n
   have ct:(Builtin.zeroCells z.cells n).toList=(List.replicate n z.cells.toList).flatten:=by
    by_cases h0:z.cells.size=0
    ·have:z.cells=#[]:=Array.eq_empty_of_size_eq_zero h0
     simp[Builtin.zeroCells,this,Bt]
    ·have:=eU z.cells n (by omega)
     simp only[Builtin.zeroCells]
     rw[this]
   have hlen:((List.replicate n z.cells.toList).flatten).length=(List.replicate n zs).flatten.length:=by simpa using r1
   have nx:(List.replicate n zs).flatten.length=n*sz:=by simp[List.length_flatten,R0]
   refine⟨.tuple #[],_,.inl ?_,Ef hI hb hp hs hcc (vs:=(List.replicate n z.cells.toList).flatten) (ns:=(List.replicate n zs).flatten) (o:=off) hlen (by omega) (fun v hv=> ?_) (fun j y u hy hu=>r3 j y u (by simpa using hy) hu) _ _ (fun w'=> .undef ..)⟩
   ·rw[he]
    have hst:=AL (P:=P) (w:=w) (vs:=(List.replicate n z.cells.toList).flatten) (o:=off) hcc (by omega) (fun v hv=>by
     obtain⟨j,hj⟩:=List.mem_iff_getElem?.1 hv
     exact r2 j v (by simpa using hj))
    have Bu:(zeroValue e).run P w= .ok z w:=by simp[zeroValue,typeInfo,hi,rq]
    obtain⟨n',rfl⟩:∃n',n=n'+1:=⟨n-1,by omega⟩
    simp[hv,builtin,Builtin.clear_,run_underlying ht,Bu,ct,hst]
   ·obtain⟨j,hj⟩:=List.mem_iff_getElem?.1 hv
    exact r2 j v (by simpa using hj)
theorem yZ{b:Nat}{es:Array MapEntry}{ck:Nat}(h:w.heap[b]? =some (.map es ck)):(getObj b).run P w= .ok (.map es ck) w:=by simp[getObj,Sem.run,h]
theorem WC{b:Nat}{es:Array MapEntry}{ck:Nat}(o:Obj)(h:w.heap[b]? =some (.map es ck)):(setObj b o).run P w= .ok () (w.putObj b o):=by simp[setObj,Sem.run,h,World.putObj]
theorem aet(hI:Inv P W S0 S β φ σ.boxes w){t s:Nat}(ho:o.op= .makeMap t none)(hs:σ.boxes[s]? =some none)(hp:s%2=1)(hn:s< W.nb):
  ∃x w',aL P a o w x w'∧ax P W S0 S β φ w σ {σ with boxes:=σ.boxes.set s (some [])} (.aQ s) x w':=
 ⟨.map (some w.heap.size),w.alloc (.map #[] 0),.inl (by simp[execOp,ho,Instr.makeMap]),
  uK hI hn hs (fun β' hm=>⟨fun h=>by omega,fun _=>⟨#[],0,heap_alloc_new w _,.nil,by simp[NR]⟩⟩) (fun β' h=> .aQ _ _ _ _ h hp)⟩
theorem Hq{v:Value}{s:Nat}(h:ak S w β φ v (.aQ s)):∃b,β s=some b∧s%2=1∧v= .map (some b):=by
 generalize ht:T.aQ s=t at h
 cases h<;>cases ht
 rename_i b hp hb
 exact⟨b,hb,hp,rfl⟩
theorem agp(hI:Inv P W S0 S β φ σ.boxes w){c:Call}{x:Operand}{ty k e s:TypeId}{cs:List T}(ho:o.op= .call c)(hc:c.callee= .builtin .len)(ha:c.args.toList=[x])(uI:c.argTypes.toList=[ty])
  (hu:P.underlying ty=some (.map k e)) (hx:ak S w β φ (a.eval x) (.aQ s)) (hs:σ.boxes[s]? =some (some cs)):∃x w',aL P a o w x w'∧ax P W S0 S β φ w σ σ (T.int (cs.length / 2:Nat)) x w':=by
 have he:=mu (P:=P) (w:=w) (a:=a) ho hc [x] ha [ty] uI
 obtain⟨b,hb,hp,hv⟩:=Hq hx
 obtain⟨es,ck,h1,h2,Cu⟩:=J7 hI hb hp hs
 have hl:∀{es:List MapEntry} {ts:List T},fZ S w β φ es ts→ts.length=2*es.length:=fun h=>by
  induction h with
  |nil=>rfl
  |cons e es k v ts hk hv h ih=>simp[ih];omega
 have:=hl h2
 refine quiet hI (x:= .int .i64 (es.size:Nat)) ?_ ?_
 ·rw[he]
  simp[hv,builtin,Builtin.len_,run_underlying hu,yZ h1,goInt]
 ·rw[show cs.length / 2=es.size by simp at this;omega]
  exact .v ..
def lk:LK→TypeDesc→Bool
 | .int,.int _=>true
 | .bool,.bool=>true
 |_,_=>false
theorem Eg{t:TypeId}{k:LK}(h:yp P t=some k):∃d,P.underlying t=some d∧lk k d=true:=by
 unfold yp at h
 split at h
 ·rename_i q hq;simp only[Option.some.injEq]at h;subst h;exact⟨_,hq,rfl⟩
 ·rename_i hq;simp only[Option.some.injEq]at h;subst h;exact⟨_,hq,rfl⟩
 ·cases h
theorem GA{k:LK}{d:TypeDesc}(hd:lk k d=true){x y:Value}{t u:T}{r:Bool}(h:iA k t u=some r)(hx:ak S w β φ x t)(hy:ak S w β φ y u):
  Instr.sameNow d x y=some r∧(r=true→x=y∧Instr.sameBits 10000 y x=true):=by
 unfold iA at h
 split at h
 ·have h1:=cA hx;have h2:=cA hy
  subst h1 h2
  cases d<;>simp[lk]at hd
  split at h
  ·rename_i hk
   simp only[Option.some.injEq]at h
   subst hk h
   refine⟨by simp[Instr.sameNow],fun Bx=> ?_⟩
   simp only[beq_iff_eq]at Bx
   subst Bx
   exact⟨rfl,by simp[Instr.sameBits]⟩
  ·cases h
 ·have h1:=cA hx;have h2:=cA hy
  subst h1 h2
  cases d<;>simp[lk]at hd
  simp only[Option.some.injEq]at h
  subst h
  refine⟨by simp[Instr.sameNow],fun Bx=> ?_⟩
  simp only[beq_iff_eq]at Bx
  subst Bx
  exact⟨rfl,by simp[Instr.sameBits]⟩
 ·cases d<;>simp[lk]at hd
 ·cases h
theorem Ik{k:LK}{d:TypeDesc}(hd:lk k d=true){x:Value}{key:T}(hx:ak S w β φ x key):∀{es:List MapEntry} {ts:List T} {r:Option T} (i:Nat),fZ S w β φ es ts→mB k key ts=some r→
  ∃q,Instr.findNow d x es i=some q∧(r=none→q=none)∧∀v,r=some v→∃j y,q=some (j,y)∧ak S w β φ y v
 | [],_,r,i,.nil,h=>by
  simp only[mB,Option.some.injEq]at h
  subst h
  exact⟨none,rfl,fun _=>rfl,fun v hv=>by cases hv⟩
 |e::es,_,r,i,.cons _ _ kt v ts hk hv wq,h=>by
  simp only[mB]at h
  obtain⟨b,hb,h⟩:=Option.bind_eq_some_iff.1 h
  obtain⟨h1,h2⟩:=GA hd hb hx hk
  simp only[Instr.findNow,h1]
  cases b with
  |true=>
   simp only[if_true,Option.some.injEq]at h
   subst h
   exact⟨_,rfl,(fun h=>by cases h),fun v' Bw=>⟨_,_,rfl,by simp only[Option.some.injEq]at Bw;subst Bw;exact hv⟩⟩
  |false=>
   simp only[Bool.false_eq_true,if_false]at h
   exact Ik hd hx (i+1) wq h
theorem run_checkKey{k:LK}{d:TypeDesc}(hd:lk k d=true){t:TypeId}(ht:P.underlying t=some d)(b:Bool)(n:Nat)(v:Value):(Instr.checkKey b (n+1) t v).run P w= .ok () w:=by
 cases k<;>cases d<;>simp[lk]at hd<;>(unfold Instr.checkKey;cases v<;>simp[run_underlying ht])
theorem NS(hI:Inv P W S0 S β φ σ.boxes w){ty kt e s:TypeId}{x ix:Operand}{ok:Bool}{k:LK}{z key:T}{cs:List T}{r:Option T}(ho:o.op= .lookup ty x ix ok)(hu:P.underlying ty=some (.map kt e))(hk:yp P kt=some k)(hz:Hm P e=some z)
  (hx:ak S w β φ (a.eval x) (.aQ s)) (hi:ak S w β φ (a.eval ix) key) (hs:σ.boxes[s]? =some (some cs)) (hf:mB k key cs=some r) {t:T}
  (h:t=match(generalizing:=false) r with
   |some v=>if ok then T.al [v,T.bool true]else v
   |none=>if ok then T.al [z,T.bool false]else z):∃x w',aL P a o w x w'∧ax P W S0 S β φ w σ σ t x w':=by
 obtain⟨b,hb,hp,hv⟩:=Hq hx
 obtain⟨es,ck,h1,h2,Cu⟩:=J7 hI hb hp hs
 obtain⟨d,hd,WD⟩:=Eg hk
 obtain⟨q,hq,hq1,R1⟩:=Ik WD hi 0 h2 hf
 have eC:=run_checkKey (w:=w) WD hd es.isEmpty 9999 (a.eval ix)
 obtain⟨zi,zv,hzi,Bu,hzk,rfl⟩:∃zi zv,P.info? e=some zi∧zi.zero=some zv∧J1 zv=true∧z=ofValue zv:=by
  unfold Hm at hz
  cases hi:P.info? e with
  |none=>simp[hi]at hz
  |some zi=>
   cases oZ:zi.zero with
   |none=>simp[hi,oZ]at hz
   |some zv=>
    simp only[hi,oZ]at hz
    split at hz
    ·rename_i hkv;simp only[Option.some.injEq]at hz;exact⟨zi,zv,rfl,oZ,hkv,hz.symm⟩
    ·cases hz
 have hzr:(zeroValue e).run P w= .ok zv w:=by simp[zeroValue,typeInfo,hzi,Bu]
 have pair:∀(y:Value) (v:T) (bb:Bool),ak S w β φ y v→ak S w β φ (.tuple #[y,.bool bb]) (.al [v,T.bool bb]):=fun y v bb hyv=>by
  refine .al _ _ _ _ rfl fun i x t hx ht=> ?_
  match i,hx,ht with
  |0,hx,ht=>simp at hx ht;subst hx ht;exact hyv
  |1,hx,ht=>simp at hx ht;subst hx ht;exact .v ..
  |i+2,hx,_=>simp at hx
 cases r with
 |none=>
  have:=hq1 rfl
  subst this
  subst h
  cases ok
  ·exact quiet hI (x:=zv) (by simp[execOp,ho,hv,Instr.lookup,run_underlying hu,yZ h1,eC,Instr.findKey,run_underlying hd,hq,hzr]) (sg zv hzk)
  ·exact quiet hI (x:= .tuple #[zv,.bool false]) (by simp[execOp,ho,hv,Instr.lookup,run_underlying hu,yZ h1,eC,Instr.findKey,run_underlying hd,hq,hzr]) (pair _ _ _ (sg zv hzk))
 |some v=>
  obtain⟨j,y,rfl,hyv⟩:=R1 v rfl
  subst h
  cases ok
  ·exact quiet hI (x:=y) (by simp[execOp,ho,hv,Instr.lookup,run_underlying hu,yZ h1,eC,Instr.findKey,run_underlying hd,hq]) hyv
  ·exact quiet hI (x:= .tuple #[y,.bool true]) (by simp[execOp,ho,hv,Instr.lookup,run_underlying hu,yZ h1,eC,Instr.findKey,run_underlying hd,hq]) (pair _ _ _ hyv)
theorem Ln{k:LK}{d:TypeDesc}(hd:lk k d=true){x y:Value}{key v:T}(hx:ak S w β φ x key)(hy:ak S w β φ y v):∀{es:List MapEntry} {ts Gy:List T} (i:Nat),fZ S w β φ es ts→tn k key v ts=some Gy→
  (Instr.findNow d x es i=some none∧∀n,fZ S w β φ (es++[{key:=x,val:=y,born:=n}]) Gy)∨
  ∃j q,Instr.findNow d x es i=some (some (i+j,q))∧(∃e,es[j]? =some e∧Instr.sameBits 10000 e.key x=true)∧fZ S w β φ (es.modify j fun e=>{e with key:=x,val:=y}) Gy
 | [],_,Gy,i,.nil,h=>by
  simp only[tn,Option.some.injEq]at h
  subst h
  exact .inl ⟨rfl,fun n=> .cons _ _ _ _ _ hx hy .nil⟩
 |e::es,_,Gy,i,.cons _ _ kt vt ts hk hv wq,h=>by
  simp only[tn]at h
  obtain⟨b,hb,h⟩:=Option.bind_eq_some_iff.1 h
  obtain⟨h1,h2⟩:=GA hd hb hx hk
  simp only[Instr.findNow,h1]
  cases b with
  |true=>
   simp only[if_true,Option.some.injEq]at h
   subst h
   obtain⟨h3,h4⟩:=h2 rfl
   exact .inr ⟨0,_,rfl,⟨e,rfl,h4⟩,by simpa using .cons _ _ _ _ _ hx hy wq⟩
  |false=>
   simp only[Bool.false_eq_true,if_false]at h
   obtain⟨ts2,amK,rfl⟩:=Option.map_eq_some_iff.1 h
   rcases Ln hd hx hy (i+1) wq amK with⟨g1,g2⟩|⟨j,q,g1,g2,g3⟩
   ·exact .inl ⟨g1,fun n=> .cons _ _ _ _ _ hk hv (g2 n)⟩
   ·exact .inr ⟨j+1,q,by rw[g1,Nat.add_assoc,Nat.add_comm 1 j],by simpa using g2,by simpa using .cons _ _ _ _ _ hk hv g3⟩
theorem QZ(hI:Inv P W S0 S β φ σ.boxes w){ty kt e s:TypeId}{x ix y:Operand}{k:LK}{key v:T}{cs b9:List T}(ho:o.op= .mapUpdate ty x ix y)(hu:P.underlying ty=some (.map kt e))(hk:yp P kt=some k)
  (hx:ak S w β φ (a.eval x) (.aQ s)) (hi:ak S w β φ (a.eval ix) key) (hy:ak S w β φ (a.eval y) v) (hs:σ.boxes[s]? =some (some cs)) (hf:tn k key v cs=some b9):
  ∃x w',aL P a o w x w'∧ax P W S0 S β φ w σ {σ with boxes:=σ.boxes.set s (some b9)} .undef x w':=by
 obtain⟨b,hb,hp,hv⟩:=Hq hx
 obtain⟨es,ck,h1,h2,Cu⟩:=J7 hI hb hp hs
 obtain⟨d,hd,WD⟩:=Eg hk
 have eC:=run_checkKey (w:=w) WD hd false 9999 (a.eval ix)
 have hlt:s< σ.boxes.length:=(List.getElem?_eq_some_iff.1 hs).1
 have hblt:b< w.heap.size:=(Array.getElem?_eq_some_iff.1 h1).1
 rcases Ln WD hi hy 0 h2 hf with⟨g1,g2⟩|⟨j,q,g1,⟨e',g2,g3⟩,g4⟩
 ·refine⟨undef,w.putObj b (.map (es.push {key:=a.eval ix,val:=a.eval y,born:=ck}) (ck+1)),.inr ⟨rfl, ?_⟩,Cw hI hb hlt (mT _ _ _) (fun hm=>⟨fun h=>by omega,fun _=>⟨_,_,World.putObj_heap_same hblt, ?_, ?_⟩⟩) _ _ (.undef ..) (kf (g:=b) (fun j hj hne=>(mT _ _ _).block j hj (by simpa using hne)) fun q ⟨cc,e2,q1,_⟩=>by rw[h1]at q1;cases q1)⟩
  ·simp only[execOp,ho,hv,Instr.mapUpdate,Sem.run_bind,run_underlying hu,Result.andThen_ok,yZ h1,eC,Instr.findKey,run_underlying hd,g1,Sem.run_pure,WC _ h1]
  ·have:=(g2 ck).mono (adj:=id) hm
   simpa using this
  ·refine⟨?_,fun x hx=> ?_⟩
   ·simp only[Array.toList_push,List.map_append,List.map_cons,List.map_nil]
    refine List.nodup_append.2 ⟨Cu.1,by simp,fun a ha b hb=> ?_⟩
    obtain⟨x,hx,rfl⟩:=List.mem_map.1 ha
    simp only[List.mem_singleton]at hb
    subst hb
    have:=Cu.2 x hx
    omega
   ·simp only[Array.toList_push,List.mem_append,List.mem_singleton]at hx
    rcases hx with hx|rfl
    ·have:=Cu.2 x hx;omega
    ·exact Nat.lt_succ_self ck
 ·have g2':es[j]? =some e':=by simpa using g2
  refine⟨undef,w.putObj b (.map (es.modify j fun e=>{e with key:=a.eval ix,val:=a.eval y}) ck),.inr ⟨rfl, ?_⟩,Cw hI hb hlt (mT _ _ _) (fun hm=>⟨fun h=>by omega,fun _=>⟨_,_,World.putObj_heap_same hblt, ?_, ?_⟩⟩) _ _ (.undef ..) (kf (g:=b) (fun j hj hne=>(mT _ _ _).block j hj (by simpa using hne)) fun q ⟨cc,e2,q1,_⟩=>by rw[h1]at q1;cases q1)⟩
  ·rw[Nat.zero_add]at g1
   simp only[execOp,ho,hv,Instr.mapUpdate,Sem.run_bind,run_underlying hu,Result.andThen_ok,yZ h1,eC,Instr.findKey,run_underlying hd,g1,Sem.run_pure,Instr.keyThatStays,g2',Option.map_some,Option.getD_some,g3,if_true,WC _ h1]
  ·have:=g4.mono (adj:=id) hm
   simpa using this
  ·have agq:∀(l:List MapEntry) (j:Nat),((l.modify j fun e=>{e with key:=a.eval ix,val:=a.eval y}).map (·.born))=l.map (·.born):=fun l j=>by
    apply List.ext_getElem?
    intro i
    simp only[List.getElem?_map,List.getElem?_modify]
    cases l[i]? with
    |none=>rfl
    |some q=>simp only[Option.map_eq_map,Option.map_some];split<;>rfl
   have e1:(es.modify j fun e=>{e with key:=a.eval ix,val:=a.eval y}).toList=es.toList.modify j fun e=>{e with key:=a.eval ix,val:=a.eval y}:=by simp
   refine⟨by rw[e1,agq];exact Cu.1,fun x hx=> ?_⟩
   rw[e1]at hx
   have:x.born∈es.toList.map (·.born):=by rw[←agq es.toList j];exact List.mem_map.2 ⟨x,hx,rfl⟩
   obtain⟨z,hz,y3⟩:=List.mem_map.1 this
   rw[←y3]
   exact Cu.2 z hz
end
end Go.Vi
end
section
namespace Go.Vi
open Go Go.RowKit
section
variable{P:Program}{W:di}{w:World}{S0 S:Nat→Nat→Prop}{β:aX}{φ:bB}{a:Act}{o:Oper}{σ:St}
def tr(s:Nat):Nat→Option Nat:=fun x=>if x=s then none else some x
theorem drop_eq(s:Nat)(σ:St):σ.drop s=⟨ah (tr s) some σ.rs,ah (tr s) some σ.vars,(σ.boxes.map (Option.map (ah (tr s) some))).set s none⟩:=rfl
theorem ak.but{y:Value}{u:T}(s:Nat)(h:ak S w β φ y u):ak S w (fun x=>if x=s then none else β x) φ y (u.aj (tr s) some):=
 h.aj (fun k k' b h1 h2=>by
  unfold tr at h1
  split at h1
  ·cases h1
  ·rename_i hne
   simp only[Option.some.injEq]at h1
   subst h1
   simp[hne,h2]) (fun k k' h1=>by
  unfold tr at h1
  split at h1
  ·cases h1
  ·simp only[Option.some.injEq]at h1;subst h1;rfl) fun k k' p h1 h2=>by simp only[Option.some.injEq]at h1;subst h1;exact h2
theorem R2(s:Nat)(hI:Inv P W S0 S β φ σ.boxes w):Inv P W S0 S (fun x=>if x=s then none else β x) φ (σ.drop s).boxes w:=by
 have eV:∀s',s'≠s→(σ.drop s).boxes[s']? =(σ.boxes[s']?).map (Option.map (ah (tr s) some)):=fun s' h=>by
  rw[drop_eq]
  simp[List.getElem?_set,Ne.symm h]
 refine⟨hI.below,hI.lt,fun s' b hb=> ?_,fun s' cs hs=> ?_,fun s1 s2 b h1 h2=> ?_,fun k x e hk=> ?_,hI.dS,hI.top,hI.base,hI.stay,fun s' b hn h0=> ?_⟩
 ·by_cases hne:s'=s
  ·simp[hne]at hb
  ·simp only[hne,if_false]at hb
   obtain⟨h1,h2,cs,h3,h4⟩:=hI.box s' b hb
   refine⟨h1,h2,cs.map (T.aj (tr s) some), ?_,h4.mono rfl fun y u h=>h.but s⟩
   rw[eV s' hne,h3]
   simp[bu]
 ·by_cases hne:s'=s
  ·subst hne
   rw[drop_eq]at hs
   simp only[List.getElem?_set,if_true]at hs
   split at hs<;>simp at hs
  ·rw[eV s' hne]at hs
   obtain⟨o',zP,h⟩:=Option.map_eq_some_iff.1 hs
   cases o' with
   |none=>simp at h
   |some b9=>
    simp only[Option.map_some,Option.some.injEq]at h
    refine(hI.boxed s' b9 zP).imp (fun e=>by rw[←h,e];rfl) fun⟨b,hb⟩=>⟨b,by simp[hne,hb]⟩
 ·by_cases e1:s1=s
  ·simp[e1]at h1
  ·by_cases e2:s2=s
   ·simp[e2]at h2
   ·simp only[e1,e2,if_false]at h1 h2
    exact hI.inj _ _ _ h1 h2
 ·obtain⟨g,n,c,sz,xs,i,h1,h2,h3,h4,h5,h6,h7⟩:=hI.gm k x e hk
  refine⟨g,n,c,sz,xs,i,h1,h2,h3,h4,h5,fun s' fA=> ?_,h7⟩
  by_cases e1:s'=s
  ·simp[e1]at fA
  ·simp only[e1,if_false]at fA
   exact h6 _ fA
 ·by_cases hne:s'=s
  ·subst hne
   right
   rw[drop_eq]
   have hlt:s'< σ.boxes.length:=by
    rcases hI.pX s' b hn h0 with h|h
    ·obtain⟨_,_,cs,h3,_⟩:=hI.box s' b h
     exact(List.getElem?_eq_some_iff.1 h3).1
    ·exact(List.getElem?_eq_some_iff.1 h).1
   simp[hlt]
  ·rcases hI.pX s' b hn h0 with h|h
   ·left;simp[hne,h]
   ·right;rw[eV s' hne,h];rfl
theorem ax.Il{σ':St}{t:T}{x:Value}{w':World}(s:Nat)(h:ax P W S0 S (fun x=>if x=s then none else β x) φ w (σ.drop s) σ' t x w'):ax P W S0 S β φ w σ σ' t x w':=by
 obtain⟨S',β',φ',adj,h1,h2,h3,h4,h5⟩:=h
 exact⟨S',β',φ',adj∘T.aj (tr s) some,h1,h2,fun y u hu=>h3 _ _ (hu.but s),by rw[h4];simp[drop_eq,bu],by rw[h5];simp[drop_eq,bu]⟩
theorem TO(hI:Inv P W S0 S β φ σ.boxes w){c:Call}{x y:Operand}{t u e s s' n cn m:Nat}{ys:List T}{i:TypeInfo}{z:Value}{news:List Value}(ho:o.op= .call c)(hc:c.callee= .builtin .append)(ha:c.args.toList=[x,y])(uI:c.argTypes.toList=[t,u])
  (ht:P.underlying t=some (.slice e)) (hi:P.info? e=some i) (hz:i.zero=some z) (da:z.cells.size=i.size) (hsz:0< i.size) (hx:ak S w β φ (a.eval x) (.au s' 0 n cn)) (mb:ys.length=m*i.size)
  (cI:tf P u i z (a.eval y) m news w) (ny:news.length=ys.length) (h1:∀v∈news,v.oneCell'=true) (hr:∀(j:Nat) (q:Value) (t:T),news[j]? =some q→ys[j]? =some t→ak S w bn cD q t)
  (nY:n+m≤4294967296) (dh:(n+m)*i.bytes≤4294967296) (hs:s=s'∨σ.boxes[s]? =some none) (hlt:s< σ.boxes.length) (hp:s%2=0) (hns:s< W.nb)
  (Bv:0< n∧cn=n*i.size∨n=0∧(cn=0∨cn=1+i.size)) (hle:n*i.size≤((ai σ.boxes s').getD []).length):
  ∃x w',aL P a o w x w'∧ax P W S0 S β φ w σ {σ.drop s' with boxes:=(σ.drop s').boxes.set s (some (ah (tr s') some (((ai σ.boxes s').getD []).take (n*i.size))++ys))} (.au s 0 (n+m) (if n+m=0 then cn else(n+m)*i.size)) x w':=by
 have he:=mu (P:=P) (w:=w) (a:=a) ho hc [x,y] ha [t,u] uI
 have oE:∀v w',(Builtin.append_ #[t,u] o.type #[a.eval x,a.eval y]).run P w= .ok v w'→aL P a o w v w':=fun v w' hh=> .inl (by rw[he];simp[builtin,hh])
 have Ih:m=0→ys=[]:=fun hm=>List.eq_nil_of_length_eq_zero (by rw[mb,hm];simp)
 have o0:=R2 s' hI
 have hs1:(σ.drop s').boxes[s]? =some none:=by
  rw[drop_eq]
  rcases hs with rfl|hs
  ·simp[hlt]
  ·simp only[List.getElem?_set,List.length_map,List.getElem?_map,hs]
   split<;>simp_all
 generalize hv:a.eval x=xv at hx oE
 have grow:∀(base:Option Addr) (c':Nat) (olds:List Value) (cs:List T),xv= .slice base n c'→c'< n+m→(Builtin.firstCells i.size n (.slice base n c')).run P w.drew= .ok olds.toArray w.drew→olds.length=n*i.size→olds.length=cs.length→
   (∀v∈olds,v.oneCell'=true)→(∀(j:Nat) (y:Value) (u:T),olds[j]? =some y→cs[j]? =some u→ak S w β φ y u)→n≤c'→
   ∃x w',aL P a o w x w'∧ax P W S0 S β φ w σ {σ.drop s' with boxes:=(σ.drop s').boxes.set s (some (ah (tr s') some cs++ys))} (.au s 0 (n+m) (if n+m=0 then cn else(n+m)*i.size)) x w':=fun base c' olds cs oY Wc hold yR wO pG Gw cG=>by
  have hrun:=wm (P:=P) (t:=t) (u:=u) (ty:=o.type) (base:=base) (sLen:=n) (sCap:=c') (olds:=olds) ht hi hz cI hold Wc (by omega) nY (by omega)
  refine⟨_,_,oE _ _ (by rw[oY];exact hrun),ax.Il s' ?_⟩
  have gA:=o0.grow (w':=w.drew) (Below.refl _ _).drew
  have Eh:(ah (tr s') some cs).length=olds.length:=by rw[bu,List.length_map,wO]
  refine ax.Lm o0 (Below.refl _ _).drew (uK (σ:=σ.drop s') (o:= .cells (olds.toArray++news.toArray++Builtin.zeroCells z.cells (grownCap w (n+m) c' e-(n+m))) e) gA hns hs1 (fun β' hm=>⟨fun _=>⟨_,e,heap_alloc_new w.drew _, ?_, ?_, ?_⟩,fun h=>by omega⟩) (fun β' h=> ?_))
  ·simp[ny,Eh]
  ·intro j q hj hq
   simp only[List.append_toArray]at hq
   rw[Array.getElem?_append_left (by simp[ny,←Eh];simp at hj;omega)]at hq
   have GB:(olds++news)[j]? =some q:=by simpa using hq
   rcases List.mem_append.1 (List.mem_of_getElem? GB)with h|h
   ·exact pG q h
   ·exact h1 q h
  ·intro j q u hq hu
   have hj:=(List.getElem?_eq_some_iff.1 hu).1
   simp only[List.append_toArray]at hq
   rw[Array.getElem?_append_left (by simp[ny,←Eh];simp at hj;omega)]at hq
   have GB:(olds++news)[j]? =some q:=by simpa using hq
   by_cases hjo:j< olds.length
   ·rw[List.getElem?_append_left hjo]at GB
    rw[List.getElem?_append_left (by omega),bu,List.getElem?_map]at hu
    obtain⟨u',ly,rfl⟩:=Option.map_eq_some_iff.1 hu
    exact hm _ _ (((Gw j q u' GB ly).but s').grow hI.lt (Below.refl _ _).drew)
   ·rw[List.getElem?_append_right (by omega)]at GB
    rw[List.getElem?_append_right (by omega),Eh]at hu
    have:=hr _ q u GB hu
    refine hm _ _ ((this.grow hI.lt (w':=w.drew) (Below.refl _ _).drew).mono (fun _ _=>id) (fun _ _ h=>by simp[bn]at h) (fun _ _ h=>by simp[cD]at h) (fun _ _ _ _ _=>id) (cg.refl _))
  ·rw[if_neg (by omega)]
   refine .au _ _ _ _ _ _ _ _ h hp (grownCap_ge w (n+m) c' e) ⟨fun vE kW hm=> ?_,fun h0=>by omega,fun h0=>by omega⟩
   have e2:i.size=kW:=Nat.eq_of_mul_eq_mul_left vE hm
   refine⟨_,e,heap_alloc_new w.drew _, ?_⟩
   have Bm:=grownCap_ge w (n+m) c' e
   have e3:n+m+(grownCap w (n+m) c' e-(n+m))=grownCap w (n+m) c' e:=by omega
   simp only[Array.size_append,List.size_toArray,ny,mb,yR,size_zeroCells,da]
   rw[←e2,←Nat.add_mul,←Nat.add_mul,e3]
   omega
 have wu:∀(base:Option Addr),xv= .slice base 0 0→n=0→m=0→
   ∃x w',aL P a o w x w'∧ax P W S0 S β φ w σ {σ.drop s' with boxes:=(σ.drop s').boxes.set s (some (ah (tr s') some (((ai σ.boxes s').getD []).take (n*i.size))++ys))} (.au s 0 (n+m) (if n+m=0 then cn else(n+m)*i.size)) x w':=fun base oY hn hm=>by
  subst hn hm
  rw[Ih rfl]
  simp only[Nat.zero_mul,List.take_zero,List.append_nil,Nat.add_zero]
  refine⟨xv,w,oE _ _ ?_,ax.Il s' (Wy o0 hns hs1 (by rw[oY];exact .iv ..))⟩
  have mP:news=[]:=List.eq_nil_of_length_eq_zero (by rw[ny,mb];simp)
  subst mP
  rw[oY]
  rcases cI with⟨dd,hu,hd,hs⟩|⟨kn,kq,hu,hy,hm,ff,wU,agm,xI⟩
  ·obtain⟨s1,s2⟩:=hs w rfl
   have hint:(match(generalizing:=false) dd with| .int _=>true|_=>false)=false:=by cases dd<;>first|rfl|exact absurd rfl (hd _)
   cases base<;>simp[Builtin.append_,run_underlying ht,run_underlying hu,sizeOf,typeInfo,hi,hint,s1,s2,storeCells]
  ·rw[hy]
   cases base<;>simp[Builtin.append_,run_underlying ht,run_underlying hu,sizeOf,typeInfo,hi,asInt,asIntOf,IntKind.wrap_i64,storeCells]
 have Ei:∀(base:Option Addr),xv= .slice base 0 0→n=0→
   ∃x w',aL P a o w x w'∧ax P W S0 S β φ w σ {σ.drop s' with boxes:=(σ.drop s').boxes.set s (some (ah (tr s') some (((ai σ.boxes s').getD []).take (n*i.size))++ys))} (.au s 0 (n+m) (if n+m=0 then cn else(n+m)*i.size)) x w':=fun base oY hn=>by
  by_cases hm:m=0
  ·exact wu base oY hn hm
  ·subst hn
   have:=grow base 0 [] [] oY (by omega) (by cases base<;>simp[Builtin.firstCells,zS]) (by simp) rfl (fun v hv=>(nomatch hv)) (fun j y u hy=>(nomatch hy)) (Nat.le_refl _)
   simpa using this
 cases hx with
 |iv _ _ ad _ _ _=>exact Ei ad rfl rfl
 |au _ _ _ _ _ _ b cap hb vu cG oZ=>
  obtain⟨R3,NT,cs,n9,Ej⟩:=hI.box s' b hb
  obtain⟨cc,e',hcc,agl,kg,hcr⟩:=Ej.1 vu
  have hba:(ai σ.boxes s').getD []=cs:=by simp[ai,n9]
  rw[hba]at hle wu Ei⊢
  have R4:cap*i.size≤cc.size:=by
   have fit:se w b (0+cap*i.size)→cap*i.size≤cc.size:=fun⟨c2,e2,q1,q2⟩=>by
    rw[hcc]at q1
    simp only[Option.some.injEq,Obj.cells.injEq]at q1
    obtain⟨rfl,_,_⟩:=q1
    omega
   rcases Bv with⟨hn,hm⟩|⟨hn,hm|hm⟩
   ·exact fit (oZ.1 hn _ hm)
   ·have:=oZ.2.1 hn hm;subst this;omega
   ·exact fit (oZ.2.2 hn _ hsz hm)
  have agr:∀j,j< n*i.size→j< cc.size:=fun j hj=>by omega
  have hold:∀w':World,w'.heap=w.heap→(Builtin.firstCells i.size n (.slice (some ⟨b,0,none⟩) n cap)).run P w'= .ok (cc.toList.take (n*i.size)).toArray w':=fun w' hw=>by
   simp only[Builtin.firstCells]
   have:=run_loadCells (P:=P) w' ⟨b,0,none⟩ (n*i.size) (fun j=>cc.getD j undef) fun j hj=>by
    rw[lR,World.cell?_of_block (w:=w) (w':=w') (by rw[hw]),yW hcc]
    have:=agr j hj
    simp[Array.getD,this]
   rw[this]
   congr 1
   apply Array.ext'
   simp only[List.toList_toArray]
   apply List.ext_getElem?
   intro j
   rw[List.getElem?_take]
   by_cases hj:j< n*i.size
   ·have:=agr j hj
    simp[hj,this,Array.getD]
   ·simp[hj]
  have nL:(cc.toList.take (n*i.size)).length=n*i.size:=by simp;omega
  have TP:(cs.take (n*i.size)).length=n*i.size:=by simp;omega
  have pG:∀v∈cc.toList.take (n*i.size),v.oneCell'=true:=fun v hv=>by
   obtain⟨j,hj⟩:=List.mem_iff_getElem?.1 hv
   rw[List.getElem?_take]at hj
   split at hj
   ·exact kg j v (by omega) (by simpa using hj)
   ·cases hj
  have Gw:∀(j:Nat) (y:Value) (u:T),(cc.toList.take (n*i.size))[j]? =some y→(cs.take (n*i.size))[j]? =some u→ak S w β φ y u:=fun j y u hy hu=>by
   rw[List.getElem?_take]at hy hu
   split at hy
   ·rename_i hj
    rw[if_pos hj]at hu
    exact hcr j y u (by simpa using hy) hu
   ·cases hy
  by_cases hroom:n+m≤cap
  ·have uG:n*i.size+news.length≤cc.size:=by
    rw[ny,mb,←Nat.add_mul]
    have:=Nat.mul_le_mul_right i.size hroom
    omega
   have hrun:=AI (P:=P) (t:=t) (u:=u) (ty:=o.type) ht hi hz cI hcc h1 (sLen:=n) (sCap:=cap) hroom uG
   have nZ:cg w (w.setRow b (cc.toList.take (n*i.size)++news++cc.toList.drop (n*i.size+news.length)).toArray):=kf (g:=b) (fun j _ hj=>setRow_other w b j _ hj) fun q ⟨c2,e2,q1,q2⟩=>⟨_,e',setRow_heap w b cc _ e' _ hcc,by
    rw[hcc]at q1
    simp only[Option.some.injEq,Obj.cells.injEq]at q1
    obtain⟨rfl,_,_⟩:=q1
    simp only[List.size_toArray,List.length_append,List.length_take,List.length_drop,Array.length_toList]
    omega⟩
   have Eh:(ah (tr s') some (cs.take (n*i.size))).length=n*i.size:=by rw[bu,List.length_map,TP]
   refine⟨_,_,oE _ _ hrun,ax.Il s' (J6 (g:=b) (σ:=σ.drop s') o0 hns hs1 ⟨rfl,rfl,rfl,by simp,fun j _ hj=>setRow_other w b j _ (fun h=>hj (by rw[h]))⟩ R3 NT (fun s2 h2=> ?_) (fun k' x' e2 cr lT=> ?_)
    (fun β' hm=>⟨fun _=>⟨_,e',setRow_heap w b cc _ e' _ hcc, ?_, ?_, ?_⟩,fun h=>by omega⟩) (fun β' h=> ?_) nZ)⟩
   ·by_cases hne:s2=s'
    ·simp[hne]at h2
    ·simp only[hne,if_false]at h2
     exact hne (hI.inj _ _ _ h2 hb)
   ·obtain⟨g,n2,c2,sz2,xs2,i2,rfl,_,_,_,_,h6,_⟩:=hI.gm k' x' e2 cr
    simp only[Value.ownBlock,Option.some.injEq]at lT
    exact h6 s' (by rw[hb];simpa using lT.symm)
   ·simp only[List.size_toArray,List.length_append,List.length_take,List.length_drop,Array.length_toList,Eh,ny]
    omega
   ·intro j q hj hq
    rw[iw _ _ _ _ uG]at hq
    rw[List.length_append,Eh]at hj
    split at hq
    ·exact h1 q (List.mem_of_getElem? hq)
    ·exact kg j q (by omega) hq
   ·intro j q u hq hu
    have hj:=(List.getElem?_eq_some_iff.1 hu).1
    rw[List.length_append,Eh]at hj
    rw[iw _ _ _ _ uG]at hq
    split at hq
    ·rename_i Ed
     rw[List.getElem?_append_right (by omega),Eh]at hu
     exact hm _ _ ((hr _ q u hq hu).mono (fun _ _=>id) (fun _ _ h=>by simp[bn]at h) (fun _ _ h=>by simp[cD]at h) (fun _ _ _ _ _=>id) (cg.refl _))
    ·have hj3:j< n*i.size:=by omega
     rw[List.getElem?_append_left (by omega),bu,List.getElem?_map]at hu
     obtain⟨u',ly,rfl⟩:=Option.map_eq_some_iff.1 hu
     rw[List.getElem?_take,if_pos hj3]at ly
     exact hm _ _ ((hcr j q u' hq ly).but s')
   ·refine .au _ _ _ _ _ _ _ _ h hp hroom (Cs.grows (w:=w) ⟨fun vE kW hm=> ?_,fun h0 hm=> ?_,fun h0 kW fA hm=> ?_⟩ nZ)
    ·rw[if_neg (by omega)]at hm
     have e2:i.size=kW:=Nat.eq_of_mul_eq_mul_left vE hm
     exact⟨cc,e',hcc,by rw[←e2];omega⟩
    ·rw[if_pos h0]at hm
     exact oZ.2.1 (by omega) hm
    ·rw[if_pos h0]at hm
     exact oZ.2.2 (by omega) kW fA hm
  ·exact grow (some ⟨b,0,none⟩) cap _ _ rfl (by omega) (hold w.drew rfl) nL (by rw[nL,TP]) pG Gw cG
theorem ags(hI:Inv P W S0 S β φ σ.boxes w){d e s n cn:Nat}{x:Value}{i:TypeInfo}(hi:P.info? e=some i)(hsz:0< i.size)(hx:ak S w β φ x (.au s 0 n cn))
  (Bv:0< n∧cn=n*i.size∨n=0∧(cn=0∨cn=1+i.size)) (hle:n*i.size≤((ai σ.boxes s).getD []).length) (bV:bj (((ai σ.boxes s).getD []).take (n*i.size))=true):
  ax P W S0 S β φ w σ ((σ.drop s).strip (2*d)) (.sl (.own (8*d) e) n (((ai σ.boxes s).getD []).take (n*i.size))) x w:=by
 have o0:=R2 s hI
 refine ax.Il s ?_
 have Ei:∀(base:Option Addr),x= .slice base 0 0→n=0→ax P W S0 S (fun x=>if x=s then none else β x) φ w (σ.drop s) ((σ.drop s).strip (2*d)) (.sl (.own (8*d) e) n (((ai σ.boxes s).getD []).take (n*i.size))) x w:=fun base oY hn=>by
  subst hn oY
  refine ax.drop (2*d) o0 fun φ'=> ?_
  simp only[Nat.zero_mul,List.take_zero]
  cases base with
  |none=>exact .nil _ _ _ rfl
  |some ad=>exact .sl _ _ _ ad _ _ _ (fun _=>undef) (Nat.le_refl _) (.inr (.inr ⟨_,e,rfl,.inr ⟨rfl,rfl,rfl⟩⟩)) (fun i hi=>by simp at hi) (fun i t ht=>by simp at ht)
 cases hx with
 |iv _ _ ad _ _ _=>exact Ei ad rfl rfl
 |au _ _ _ _ _ _ b cap hb vu cG oZ=>
  by_cases h00:n=0∧cn=0
  ·have:=oZ.2.1 h00.1 h00.2
   subst this
   have hn:=h00.1
   subst hn
   exact Ei (some ⟨b,0,none⟩) rfl rfl
  obtain⟨R3,NT,cs,n9,Ej⟩:=hI.box s b hb
  obtain⟨cc,e',hcc,agl,kg,hcr⟩:=Ej.1 vu
  have hba:(ai σ.boxes s).getD []=cs:=by simp[ai,n9]
  rw[hba]at hle bV⊢
  have R4:cap*i.size≤cc.size:=by
   have fit:se w b (0+cap*i.size)→cap*i.size≤cc.size:=fun⟨c2,e2,q1,q2⟩=>by
    rw[hcc]at q1
    simp only[Option.some.injEq,Obj.cells.injEq]at q1
    obtain⟨rfl,_,_⟩:=q1
    omega
   rcases Bv with⟨hn,hm⟩|⟨hn,hm|hm⟩
   ·exact fit (oZ.1 hn _ hm)
   ·exact absurd ⟨hn,hm⟩ h00
   ·exact fit (oZ.2.2 hn _ hsz hm)
  have nL:(cc.toList.take (n*i.size)).length=n*i.size:=by simp;omega
  have TP:(cs.take (n*i.size)).length=n*i.size:=by simp;omega
  rw[si,List.all_eq_true]at bV
  refine FK (σ:=σ.drop s) (w':=w) (g:=b) (n:=n) (c:=cap) (sz:=i.size) (xs:=cc.toList.take (n*i.size)) o0 hi rfl ⟨rfl,rfl,rfl,Nat.le_refl _,fun j _ _=>rfl⟩ (cg.refl w) R3 (fun s2 h2=> ?_) (fun k=>hit (2*d) k=false) (fun k' x' e2 _ cr lT=> ?_) (fun o sp v hS _=>absurd hS (NT o)) (fun o hS=>absurd hS (NT o))
   ⟨nL,.inr ⟨b,cap,cc,e',rfl,Nat.zero_le _,hcc,cG,R4,rfl⟩⟩ (by rw[nL,TP]) (fun v hv=> ?_) (fun j y u hy hu=> ?_) (8*d) (by simpa using Ho d 0 (by omega)) (T.strip (2*d)) (fun y u S' Bn β' φ' h hp=>h.strip (2*d) fun k p hk hne=>hp k p hk hne) ?_ ?_ ?_
  ·by_cases hne:s2=s
   ·simp[hne]at h2
   ·simp only[hne,if_false]at h2
    exact hne (hI.inj _ _ _ h2 hb)
  ·obtain⟨g,n2,c2,sz2,xs2,i2,rfl,_,_,_,_,h6,_⟩:=hI.gm k' x' e2 cr
   simp only[Value.ownBlock,Option.some.injEq]at lT
   exact h6 s (by rw[hb];simpa using lT.symm)
  ·obtain⟨j,hj⟩:=List.mem_iff_getElem?.1 hv
   rw[List.getElem?_take]at hj
   split at hj
   ·exact kg j v (by omega) (by simpa using hj)
   ·cases hj
  ·have ly:=hu
   rw[List.getElem?_take]at hy hu
   split at hy
   ·rename_i hj
    rw[if_pos hj]at hu
    exact(hcr j y u (by simpa using hy) hu).of_closed (bV u (List.mem_of_getElem? ly))
   ·cases hy
  ·simp[St.strip,aE]
  ·simp[St.strip,aE]
  ·simp only[St.strip]
   congr 1
   funext o
   cases o<;>simp[aE]
theorem NU(hI:Inv P W S0 S β φ σ.boxes w){c:Call}{x:Operand}{ty e:TypeId}{u:T}{n:Nat}(ho:o.op= .call c)(hc:c.callee= .builtin .cap)(ha:c.args.toList=[x])(uI:c.argTypes.toList=[ty])
  (hu:P.underlying ty=some (.slice e)) (hx:ak S w β φ (a.eval x) u) (h:(match(generalizing:=false) u with
   | .sl .nil _ _=>some 0
   | .sl .clip n _=>some n
   | .au _ _ 0 0=>some 0
   |_=>none)=some n):∃x w',aL P a o w x w'∧ax P W S0 S β φ w σ σ (T.int (n:Nat)) x w':=by
 have he:=mu (P:=P) (w:=w) (a:=a) ho hc [x] ha [ty] uI
 have fin:∀base l,a.eval x= .slice base l n→∃x w',aL P a o w x w'∧ax P W S0 S β φ w σ σ (T.int (n:Nat)) x w':=fun base l hv=>
  quiet hI (x:= .int .i64 n) (by rw[he];simp[hv,builtin,Builtin.cap_,run_underlying hu,goInt]) (.v ..)
 generalize hv:a.eval x=xv at hx fin
 cases hx with
 |nil _ _ g hg=>
  cases g<;>simp at h<;>subst h<;>exact fin _ _ rfl
 |sl _ _ g ad l c' cs f cG hg aF cj=>
  cases g<;>simp at h
  ·rcases hg with(h'|h')|⟨h',_⟩|⟨k,e',h',_⟩<;>cases h'
  ·subst h
   rcases hg with(h'|h')|⟨_,rfl⟩|⟨k,e',h',_⟩
   ·cases h'
   ·cases h'
   ·exact fin _ _ rfl
   ·cases h'
 |au _ _ s off l m b c' hb hp hn hz=>
  split at h<;>try(cases h;done)
  ·rename_i h';cases h'
  ·rename_i h';cases h'
  ·rename_i h'
   cases h'
   simp only[Option.some.injEq]at h
   subst h
   have:=hz.2.1 rfl rfl
   subst this
   exact fin _ _ rfl
 |iv _ _ ad s off m=>
  split at h<;>try(cases h;done)
  ·rename_i h';cases h'
  ·rename_i h';cases h'
  ·simp only[Option.some.injEq]at h
   subst h
   exact fin _ _ rfl
 |_=>simp at h
end
end Go.Vi
end
section
namespace Go.Vi
open Go Go.RowKit
section
variable{P:Program}{W:di}{w:World}{S0 S:Nat→Nat→Prop}{β:aX}{φ:bB}{a:Act}{o:Oper}{σ:St}
theorem Lo{C:FuncId→List T→Option T}(hI:Inv P W S0 S β φ σ.boxes w){opd:Operand→Option ag}(hop:∀x d,opd x=some d→ak S w β φ (a.eval x) (d.get σ)){neg:Bool}{ty yt:TypeId}{x y:Operand}{i:IOp}{t:T}{σ':St}
  (ho:o.op= .binOp (if neg then .neq else .eql) ty x y yt) (hl:FG P opd neg (if neg then .neq else .eql) ty x y=some i) (hr:ae C σ i=some (t,σ')):∃x w',aL P a o w x w'∧ax P W S0 S β φ w σ σ' t x w':=by
 unfold FG at hl
 have scal:∀{ud:TypeDesc},(do some (IOp.bin (if neg then .neq else .eql) ty (←opd x) (←opd y)))=some i→∃x w',aL P a o w x w'∧ax P W S0 S β φ w σ σ' t x w':=by
  intro _ hl
  simp only[Option.bind_eq_bind]at hl
  obtain⟨d,hd,hl⟩:=Option.bind_eq_some_iff.1 hl
  obtain⟨e,he,hl⟩:=Option.bind_eq_some_iff.1 hl
  simp only[Option.some.injEq]at hl
  subst hl
  simp only[ae]at hr
  obtain⟨r,fq,dE⟩:=Option.map_eq_some_iff.1 hr
  simp only[Prod.mk.injEq]at dE
  obtain⟨rfl,rfl⟩:=dE
  exact ac4 hI ho (hop _ _ hd) (hop _ _ he) fq
 cases hu:P.underlying ty with
 |none=>simp[hu]at hl
 |some ud=>
  rw[hu]at hl
  cases ud<;>try(simp at hl;done)
  case int k=>exact scal (ud:= .bool) hl
  case float k=>exact scal (ud:= .bool) hl
  case complex k=>exact scal (ud:= .bool) hl
  case string=>exact scal (ud:= .bool) hl
  case bool=>
   simp only[Option.bind_eq_bind]at hl
   obtain⟨d,hd,hl⟩:=Option.bind_eq_some_iff.1 hl
   obtain⟨e,he,hl⟩:=Option.bind_eq_some_iff.1 hl
   simp only[Option.some.injEq]at hl
   subst hl
   simp only[ae]at hr
   split at hr
   ·rename_i p q hp hq
    simp only[Option.some.injEq,Prod.mk.injEq]at hr
    obtain⟨rfl,rfl⟩:=hr
    exact aiS (u:=T.v (.bool p)) (v:=T.v (.bool q)) hI ho hu (hp▸hop _ _ hd) (hq▸hop _ _ he) rfl
   ·cases hr
  case slice e=>
   simp only[Option.bind_eq_bind]at hl
   split at hl
   ·rename_i cG
    obtain⟨d,hd,hl⟩:=Option.bind_eq_some_iff.1 hl
    simp only[Option.some.injEq]at hl
    subst hl
    have hy:a.eval y= .slice none 0 0:=by
     unfold H8 at cG
     split at cG
     ·rfl
     ·cases cG
    simp only[ae]at hr
    have hx:=hop _ _ hd
    generalize d.get σ=u at hr hx
    have fin:∀b:T,(b,σ)=(t,σ')→(match(generalizing:=false) u with
      | .sl .nil _ _=>some (T.bool (!neg))
      | .sl .l9 _ _=>some (T.bool neg)
      | .sl _ n _=>if 0< n then some (T.bool neg)else none
      | .au _ _ n _=>if 0< n then some (T.bool neg)else none
      |_=>none)=some b→∃x w',aL P a o w x w'∧ax P W S0 S β φ w σ σ' t x w':=fun b hb h=>by
     simp only[Prod.mk.injEq]at hb
     obtain⟨rfl,rfl⟩:=hb
     exact aek hI ho hu hx hy h
    split at hr
    ·simp only[Option.some.injEq]at hr
     exact fin _ hr rfl
    ·simp only[Option.some.injEq]at hr
     exact fin _ hr rfl
    ·split at hr<;>try(cases hr;done)
     rename_i g n cs gA uL h0
     simp only[Option.some.injEq]at hr
     refine fin _ hr ?_
     cases g<;>simp_all
    ·split at hr<;>try(cases hr;done)
     rename_i h0
     simp only[Option.some.injEq]at hr
     exact fin _ hr (by simp[h0])
    ·cases hr
   ·cases hl
  case struct fs=>
   simp only[Option.bind_eq_bind]at hl
   obtain⟨ks,hks,hl⟩:=Option.bind_eq_some_iff.1 hl
   split at hl
   ·cases hl
   ·rename_i hc
    simp only[not_or,Bool.not_eq_true,ne_eq,Decidable.not_not]at hc
    obtain⟨d,hd,hl⟩:=Option.bind_eq_some_iff.1 hl
    obtain⟨e,he,hl⟩:=Option.bind_eq_some_iff.1 hl
    simp only[Option.some.injEq]at hl
    subst hl
    simp only[ae]at hr
    split at hr
    ·rename_i p q hp hq
     obtain⟨r,fq,dE⟩:=Option.map_eq_some_iff.1 hr
     simp only[Prod.mk.injEq]at dE
     obtain⟨rfl,rfl⟩:=dE
     exact ac6 (u:=T.agg p) (v:=T.agg q) hI ho hks hc.2 hc.1 (hp▸hop _ _ hd) (hq▸hop _ _ he) (by simp[fq])
    ·cases hr
  case array n e'=>
   simp only[Option.bind_eq_bind]at hl
   obtain⟨ks,hks,hl⟩:=Option.bind_eq_some_iff.1 hl
   split at hl
   ·cases hl
   ·rename_i hc
    simp only[not_or,Bool.not_eq_true,ne_eq,Decidable.not_not]at hc
    obtain⟨d,hd,hl⟩:=Option.bind_eq_some_iff.1 hl
    obtain⟨e,he,hl⟩:=Option.bind_eq_some_iff.1 hl
    simp only[Option.some.injEq]at hl
    subst hl
    simp only[ae]at hr
    split at hr
    ·rename_i p q hp hq
     obtain⟨r,fq,dE⟩:=Option.map_eq_some_iff.1 hr
     simp only[Prod.mk.injEq]at dE
     obtain⟨rfl,rfl⟩:=dE
     exact ac6 (u:=T.agg p) (v:=T.agg q) hI ho hks hc.2 hc.1 (hp▸hop _ _ hd) (hq▸hop _ _ he) (by simp[fq])
    ·cases hr
theorem oa{bm:List Nat}{d s:Nat}(h:mM bm d=some s):s+1< 2*bm.length:=by
 unfold mM at h
 obtain⟨i,hi,rfl⟩:=Option.map_eq_some_iff.1 h
 have:=(List.getElem?_eq_some_iff.1 (fz hi)).1
 omega
theorem NV{C:FuncId→List T→Option T}{bm:List Nat}{dst:Option Nat}{q:ag}{t:T}{σ':St}{x:Value}(hI:Inv P W S0 S β φ σ.boxes w)(hrun:aL P a o w x w)(hx:ak S w β φ x (q.get σ))
  (hr:ae C σ (Nx P bm dst q)=some (t,σ')):∃x w',aL P a o w x w'∧ax P W S0 S β φ w σ σ' t x w':=by
 have plain:ae C σ (.mv q)=some (t,σ')→∃x w',aL P a o w x w'∧ax P W S0 S β φ w σ σ' t x w':=fun hr=>by
  simp only[ae,Option.some.injEq,Prod.mk.injEq]at hr
  obtain⟨rfl,rfl⟩:=hr
  exact⟨x,w,hrun,ax.same hI hx⟩
 unfold Nx at hr
 split at hr
 ·split at hr
  ·split at hr
   ·rename_i d e _ hc
    obtain⟨Dz,kg⟩:=hc
    obtain⟨i,hi⟩:=Option.isSome_iff_exists.1 kg
    have hsi:P.cellsOf e=i.size:=by simp[Program.cellsOf,hi]
    rw[hsi]at Dz hr
    simp only[ae]at hr
    split at hr
    ·rename_i s off n cn hg
     split at hr<;>try(cases hr;done)
     rename_i hh
     obtain⟨rfl,Bv,hle,bV⟩:=hh
     simp only[Option.some.injEq,Prod.mk.injEq]at hr
     obtain⟨rfl,rfl⟩:=hr
     rw[hg]at hx
     exact⟨x,w,hrun,ags hI hi Dz hx Bv hle bV⟩
    ·simp only[Option.some.injEq,Prod.mk.injEq]at hr
     obtain⟨rfl,rfl⟩:=hr
     exact⟨x,w,hrun,ax.same hI hx⟩
   ·exact plain hr
  ·exact plain hr
 ·exact plain hr
theorem Hr{C:FuncId→List T→Option T}{io:FuncId→Nat}{vm bm:List Nat}{done:List (Option Nat)}{i:IOp}{t:T}{σ':St}(hI:Inv P W S0 S β φ σ.boxes w)(dm:2*bm.length≤W.nb)
  (hop:∀x d,lP vm done x=some d→ak S w β φ (a.eval x) (d.get σ)) (hl:oB P io vm bm done o=some i) (cG:∀c f,o.op= .call c→c.callee≠ .value f) (hr:ae C σ i=some (t,σ')):
  ∃x w',aL P a o w x w'∧ax P W S0 S β φ w σ σ' t x w':=by
 generalize abf:lP vm done=opd at hop
 cases ho:o.op
 all_goals (simp only[oB,ho,abf,Option.bind_eq_bind]at hl)
 all_goals try(cases hl;done)
 case move x=>
  obtain⟨d,hd,rfl⟩:=Option.map_eq_some_iff.1 hl
  exact NV hI (.inl (by simp[execOp,ho])) (hop _ _ hd) hr
 case assign x=>
  obtain⟨d,hd,rfl⟩:=Option.map_eq_some_iff.1 hl
  exact NV hI (.inl (by simp[execOp,ho])) (hop _ _ hd) hr
 case pick c x y=>
  obtain⟨dc,hdc,hl⟩:=Option.bind_eq_some_iff.1 hl
  obtain⟨dx,hdx,hl⟩:=Option.bind_eq_some_iff.1 hl
  obtain⟨dy,hdy,hl⟩:=Option.bind_eq_some_iff.1 hl
  simp only[Option.some.injEq]at hl
  subst hl
  simp only[ae]at hr
  split at hr
  ·rename_i b hb
   simp only[Option.some.injEq,Prod.mk.injEq]at hr
   obtain⟨rfl,rfl⟩:=hr
   exact agk (tc:=T.v (.bool b)) hI ho (hb▸hop _ _ hdc) (hop _ _ hdx) (hop _ _ hdy) rfl
  ·cases hr
 case binOp op ty x y yt=>
  by_cases h1:op= .eql
  ·subst h1
   exact Lo (neg:=false) hI hop (by simpa using ho) (by simpa using hl) hr
  ·by_cases h2:op= .neq
   ·subst h2
    exact Lo (neg:=true) hI hop (by simpa using ho) (by simpa using hl) hr
   ·have NK:((opd x).bind fun d=>(opd y).bind fun e=>some (IOp.bin op ty d e))=some i:=by
     cases op<;>first|exact hl|exact absurd rfl h1|exact absurd rfl h2
    obtain⟨d,hd,NK⟩:=Option.bind_eq_some_iff.1 NK
    obtain⟨e,he,NK⟩:=Option.bind_eq_some_iff.1 NK
    simp only[Option.some.injEq]at NK
    subst NK
    simp only[ae]at hr
    obtain⟨r,fq,dE⟩:=Option.map_eq_some_iff.1 hr
    simp only[Prod.mk.injEq]at dE
    obtain⟨rfl,rfl⟩:=dE
    exact ac4 hI ho (hop _ _ hd) (hop _ _ he) fq
 case unOp op ty x=>
  obtain⟨d,hd,rfl⟩:=Option.map_eq_some_iff.1 hl
  have hx:=hop _ _ hd
  simp only[ae]at hr
  split at hr
  ·rename_i v hv
   obtain⟨z,hz,dE⟩:=Option.map_eq_some_iff.1 hr
   simp only[Prod.mk.injEq]at dE
   obtain⟨rfl,rfl⟩:=dE
   exact amI (u:=T.v v) hI ho (hv▸hx) (by simp[hz])
  ·cases hr
 case convert s d x=>
  split at hl
  ·rename_i ks k hs gR
   obtain⟨q,hq,rfl⟩:=Option.map_eq_some_iff.1 hl
   have hx:=hop _ _ hq
   simp only[ae]at hr
   split at hr
   ·rename_i k' n hv
    simp only[Option.some.injEq,Prod.mk.injEq]at hr
    obtain⟨rfl,rfl⟩:=hr
    exact FL (u:=T.v (.int k' n)) hI ho hs gR (hv▸hx) rfl
   ·rename_i f b hv
    obtain⟨z,hz,dE⟩:=Option.map_eq_some_iff.1 hr
    simp only[Prod.mk.injEq]at dE
    obtain⟨rfl,rfl⟩:=dE
    exact FL (u:=T.v (.float f b)) hI ho hs gR (hv▸hx) (by simp[hz])
   ·cases hr
  ·rename_i ks k hs gR
   obtain⟨q,hq,rfl⟩:=Option.map_eq_some_iff.1 hl
   have hx:=hop _ _ hq
   simp only[ae]at hr
   split at hr
   ·rename_i k' n hv
    simp only[Option.some.injEq,Prod.mk.injEq]at hr
    obtain⟨rfl,rfl⟩:=hr
    exact FL (u:=T.v (.int k' n)) hI ho hs gR (hv▸hx) rfl
   ·rename_i f b hv
    obtain⟨z,hz,dE⟩:=Option.map_eq_some_iff.1 hr
    simp only[Prod.mk.injEq]at dE
    obtain⟨rfl,rfl⟩:=dE
    exact FL (u:=T.v (.float f b)) hI ho hs gR (hv▸hx) (by simp[hz])
   ·cases hr
  ·rename_i ks k hs gR
   obtain⟨q,hq,rfl⟩:=Option.map_eq_some_iff.1 hl
   have hx:=hop _ _ hq
   simp only[ae]at hr
   split at hr
   ·rename_i k' n hv
    simp only[Option.some.injEq,Prod.mk.injEq]at hr
    obtain⟨rfl,rfl⟩:=hr
    exact Wg (u:=T.v (.int k' n)) hI ho hs gR (hv▸hx) rfl
   ·cases hr
  ·rename_i e hs gR
   split at hl
   ·rename_i he
    obtain⟨q,hq,rfl⟩:=Option.map_eq_some_iff.1 hl
    have hx:=hop _ _ hq
    simp only[ae]at hr
    split at hr
    ·rename_i g n cs hv
     split at hr
     ·rename_i hn
      obtain⟨z,hz,dE⟩:=Option.map_eq_some_iff.1 hr
      simp only[Prod.mk.injEq]at dE
      obtain⟨rfl,rfl⟩:=dE
      exact aes (u:=T.sl g n cs) hI ho hs he gR (hv▸hx) (by simp[hn,hz])
     ·cases hr
    ·cases hr
   ·cases hl
  ·cases hl
 case extract x k=>
  obtain⟨d,hd,hl⟩:=Option.bind_eq_some_iff.1 hl
  simp only[Option.some.injEq]at hl
  subst hl
  have hx:=hop _ _ hd
  simp only[ae]at hr
  split at hr
  ·rename_i ts hv
   obtain⟨z,hz,dE⟩:=Option.map_eq_some_iff.1 hr
   simp only[Prod.mk.injEq]at dE
   obtain⟨rfl,rfl⟩:=dE
   exact Wh (u:=T.al ts) hI ho (hv▸hx) hz
  ·cases hr
 case build ty parts=>
  split at hl<;>try(cases hl;done)
  all_goals
   rename_i hu
   split at hl<;>try(cases hl;done)
   rename_i yU
   obtain⟨zs,da,hl⟩:=Option.bind_eq_some_iff.1 hl
   obtain⟨qs,Dx,hl⟩:=Option.bind_eq_some_iff.1 hl
   simp only[Option.some.injEq]at hl
   subst hl
   simp only[ae]at hr
   obtain⟨z,hz,dE⟩:=Option.map_eq_some_iff.1 hr
   simp only[Prod.mk.injEq]at dE
   obtain⟨rfl,rfl⟩:=dE
   exact aem hI ho yU (fun e he=>by rw[hu]at he;cases he) hop da Dx (by simp[hz])
 case field ty x k=>
  split at hl<;>try(cases hl;done)
  rename_i fs hu
  split at hl<;>try(cases hl;done)
  rename_i f hf
  obtain⟨⟨g,n⟩,hg,hl⟩:=Option.bind_eq_some_iff.1 hl
  obtain⟨d,hd,hl⟩:=Option.bind_eq_some_iff.1 hl
  simp only[Option.some.injEq]at hl
  subst hl
  have hx:=hop _ _ hd
  simp only[ae]at hr
  split at hr
  ·rename_i cs hv
   obtain⟨z,hz,dE⟩:=Option.map_eq_some_iff.1 hr
   simp only[Prod.mk.injEq]at dE
   obtain⟨rfl,rfl⟩:=dE
   exact ael (u:=T.agg cs) hI ho hu hf hg (hv▸hx) hz
  ·cases hr
 case index ty x ix=>
  split at hl<;>try(cases hl;done)
  ·rename_i len e hu
   obtain⟨⟨g,n⟩,hg,hl⟩:=Option.bind_eq_some_iff.1 hl
   obtain⟨d,hd,hl⟩:=Option.bind_eq_some_iff.1 hl
   obtain⟨d',gR,hl⟩:=Option.bind_eq_some_iff.1 hl
   simp only[Option.some.injEq]at hl
   subst hl
   have hx:=hop _ _ hd
   simp only[ae]at hr
   split at hr
   ·rename_i cs j hv hj
    split at hr
    ·rename_i hlt
     obtain⟨z,hz,dE⟩:=Option.map_eq_some_iff.1 hr
     simp only[Prod.mk.injEq]at dE
     obtain⟨rfl,rfl⟩:=dE
     exact aa4 (u:=T.agg cs) hI ho hu hg (hv▸hx) (hop _ _ gR) (by simp[hj,hlt,hz])
    ·cases hr
   ·cases hr
  ·rename_i hu
   obtain⟨d,hd,hl⟩:=Option.bind_eq_some_iff.1 hl
   obtain⟨d',gR,hl⟩:=Option.bind_eq_some_iff.1 hl
   simp only[Option.some.injEq]at hl
   subst hl
   have hx:=hop _ _ hd
   simp only[ae]at hr
   split at hr
   ·rename_i s j hv hj
    obtain⟨z,hz,dE⟩:=Option.map_eq_some_iff.1 hr
    simp only[Prod.mk.injEq]at dE
    obtain⟨rfl,rfl⟩:=dE
    exact aa5 (u:=T.v (.string s)) hI ho hu (hv▸hx) (hop _ _ gR) (by simp[hj,hz])
   ·cases hr
 case alloc ty=>
  split at hl<;>try(cases hl;done)
  obtain⟨s,hs,hl⟩:=Option.bind_eq_some_iff.1 hl
  obtain⟨zs,da,hl⟩:=Option.bind_eq_some_iff.1 hl
  simp only[Option.some.injEq]at hl
  subst hl
  simp only[ae]at hr
  split at hr<;>try(cases hr;done)
  rename_i hb
  split at hr<;>try(cases hr;done)
  rename_i hp
  simp only[Option.some.injEq,Prod.mk.injEq]at hr
  obtain⟨rfl,rfl⟩:=hr
  exact aep hI ho da hb hp (by have:=oa hs;omega)
 case box ty x=>
  split at hl<;>try(cases hl;done)
  obtain⟨s,hs,hl⟩:=Option.bind_eq_some_iff.1 hl
  obtain⟨d,hd,hl⟩:=Option.bind_eq_some_iff.1 hl
  simp only[Option.some.injEq]at hl
  subst hl
  simp only[ae]at hr
  split at hr<;>try(cases hr;done)
  rename_i cs hb hc
  split at hr<;>try(cases hr;done)
  rename_i h1
  simp only[Option.some.injEq,Prod.mk.injEq]at hr
  obtain⟨rfl,rfl⟩:=hr
  exact aiT hI ho (hop _ _ hd) hc h1.1 hb h1.2 (by have:=oa hs;omega)
 case load ty x=>
  obtain⟨⟨g,n⟩,hg,hl⟩:=Option.bind_eq_some_iff.1 hl
  obtain⟨d,hd,hl⟩:=Option.bind_eq_some_iff.1 hl
  simp only[Option.some.injEq]at hl
  subst hl
  have hx:=hop _ _ hd
  simp only[ae]at hr
  split at hr
  ·rename_i s off hv
   split at hr<;>try(cases hr;done)
   rename_i cs hb
   obtain⟨z,hz,dE⟩:=Option.map_eq_some_iff.1 hr
   simp only[Prod.mk.injEq]at dE
   obtain⟨rfl,rfl⟩:=dE
   obtain⟨y,h1,h2⟩:=Cx (u:=T.ref s off) (t:=z) hI hg (hv▸hx) (by simp[hb,hz])
   exact quiet hI (by simp[execOp,ho,h1]) h2
  ·rename_i cs off hv
   obtain⟨z,hz,dE⟩:=Option.map_eq_some_iff.1 hr
   simp only[Prod.mk.injEq]at dE
   obtain⟨rfl,rfl⟩:=dE
   have hz:=(Option.filter_eq_some_iff.1 hz).1
   obtain⟨y,h1,h2⟩:=Cx (u:=T.ptr cs off) (t:=z) hI hg (hv▸hx) (by simp[hz])
   exact quiet hI (by simp[execOp,ho,h1]) h2
  ·cases hr
 case store ty x y=>
  obtain⟨⟨g,n⟩,hg,hl⟩:=Option.bind_eq_some_iff.1 hl
  obtain⟨d,hd,hl⟩:=Option.bind_eq_some_iff.1 hl
  obtain⟨d',gR,hl⟩:=Option.bind_eq_some_iff.1 hl
  simp only[Option.some.injEq]at hl
  subst hl
  simp only[ae]at hr
  obtain⟨w',h1,h2⟩:=Q0 hI hg (hop _ _ hd) (hop _ _ gR) hr
  exact⟨undef,w',.inr ⟨rfl,by simp[execOp,ho,h1]⟩,h2⟩
 case fieldAddr ty x k=>
  split at hl<;>try(cases hl;done)
  rename_i fs hu
  split at hl<;>try(cases hl;done)
  rename_i f hf
  split at hl<;>try(cases hl;done)
  rename_i hz
  obtain⟨d,hd,hl⟩:=Option.bind_eq_some_iff.1 hl
  simp only[Option.some.injEq]at hl
  subst hl
  have hx:=hop _ _ hd
  simp only[ae]at hr
  split at hr
  ·rename_i s off hv
   simp only[Option.some.injEq,Prod.mk.injEq]at hr
   obtain⟨rfl,rfl⟩:=hr
   obtain⟨y,h1,h2⟩:=GC (u:=T.ref s off) hu hf hz (hv▸hx) rfl
   exact quiet hI (by simp[execOp,ho,h1]) h2
  ·rename_i cs off hv
   simp only[Option.some.injEq,Prod.mk.injEq]at hr
   obtain⟨rfl,rfl⟩:=hr
   obtain⟨y,h1,h2⟩:=GC (u:=T.ptr cs off) hu hf hz (hv▸hx) rfl
   exact quiet hI (by simp[execOp,ho,h1]) h2
  ·cases hr
 case indexAddr ty x ix=>
  split at hl<;>try(cases hl;done)
  ·rename_i len e hu
   split at hl<;>try(cases hl;done)
   rename_i hz
   obtain⟨d,hd,hl⟩:=Option.bind_eq_some_iff.1 hl
   obtain⟨d',gR,hl⟩:=Option.bind_eq_some_iff.1 hl
   simp only[Option.some.injEq]at hl
   subst hl
   have hx:=hop _ _ hd
   simp only[ae]at hr
   split at hr
   ·rename_i s off j hv hj
    split at hr<;>try(cases hr;done)
    rename_i hlt
    simp only[Option.some.injEq,Prod.mk.injEq]at hr
    obtain⟨rfl,rfl⟩:=hr
    obtain⟨y,h1,h2⟩:=Ek (u:=T.ref s off) (t:=T.ref s (off+j*P.cellsOf e)) hu hz (hv▸hx) (hop _ _ gR) (by simp[hj,hlt])
    exact quiet hI (by simp[execOp,ho,h1]) h2
   ·rename_i cs off j hv hj
    split at hr<;>try(cases hr;done)
    rename_i hlt
    simp only[Option.some.injEq,Prod.mk.injEq]at hr
    obtain⟨rfl,rfl⟩:=hr
    obtain⟨y,h1,h2⟩:=Ek (u:=T.ptr cs off) (t:=T.ptr cs (off+j*P.cellsOf e)) hu hz (hv▸hx) (hop _ _ gR) (by simp[hj,hlt])
    exact quiet hI (by simp[execOp,ho,h1]) h2
   ·cases hr
  ·rename_i e hu
   split at hl<;>try(cases hl;done)
   rename_i hz
   obtain⟨d,hd,hl⟩:=Option.bind_eq_some_iff.1 hl
   obtain⟨d',gR,hl⟩:=Option.bind_eq_some_iff.1 hl
   simp only[Option.some.injEq]at hl
   subst hl
   have hx:=hop _ _ hd
   simp only[ae]at hr
   split at hr
   ·rename_i g n cs j hv hj
    split at hr<;>try(cases hr;done)
    rename_i hlt
    simp only[Option.some.injEq,Prod.mk.injEq]at hr
    obtain⟨rfl,rfl⟩:=hr
    obtain⟨y,h1,h2⟩:=El (u:=T.sl g n cs) (t:=T.ptr cs (j*P.cellsOf e)) hu hz (hv▸hx) (hop _ _ gR) (by simp[hj,hlt])
    exact quiet hI (by simp[execOp,ho,h1]) h2
   ·rename_i s off n cn j hv hj
    split at hr<;>try(cases hr;done)
    rename_i hlt
    simp only[Option.some.injEq,Prod.mk.injEq]at hr
    obtain⟨rfl,rfl⟩:=hr
    obtain⟨y,h1,h2⟩:=El (u:=T.au s off n cn) (t:=T.ref s (off+j*P.cellsOf e)) hu hz (hv▸hx) (hop _ _ gR) (by simp[hj,hlt])
    exact quiet hI (by simp[execOp,ho,h1]) h2
   ·cases hr
 case sliceToArrayPointer ty x=>
  split at hl<;>try(cases hl;done)
  rename_i len e hu
  obtain⟨d,hd,rfl⟩:=Option.map_eq_some_iff.1 hl
  have hx:=hop _ _ hd
  simp only[ae]at hr
  split at hr
  ·rename_i s off n cn hv
   split at hr<;>try(cases hr;done)
   rename_i hle
   simp only[Option.some.injEq,Prod.mk.injEq]at hr
   obtain⟨rfl,rfl⟩:=hr
   exact RX (u:=T.au s off n cn) hI ho hu (hv▸hx) (by simp[hle])
  ·rename_i g n cs hv
   split at hr<;>try(cases hr;done)
   rename_i hle
   simp only[Option.some.injEq,Prod.mk.injEq]at hr
   obtain⟨rfl,rfl⟩:=hr
   exact RX (u:=T.sl g n cs) hI ho hu (hv▸hx) (by simp[hle])
  ·cases hr
 case makeMap ty r=>
  cases r with
  |some r=>simp at hl
  |none=>
   simp only at hl
   split at hl<;>try(cases hl;done)
   obtain⟨s,hs,rfl⟩:=Option.map_eq_some_iff.1 hl
   simp only[ae]at hr
   split at hr<;>try(cases hr;done)
   rename_i hb
   split at hr<;>try(cases hr;done)
   rename_i hp
   simp only[Option.some.injEq,Prod.mk.injEq]at hr
   obtain⟨rfl,rfl⟩:=hr
   exact aet hI ho hb hp (by have:=oa hs;omega)
 case lookup ty x ix ok=>
  split at hl<;>try(cases hl;done)
  rename_i kt e hu
  obtain⟨k,hk,hl⟩:=Option.bind_eq_some_iff.1 hl
  obtain⟨z,hz,hl⟩:=Option.bind_eq_some_iff.1 hl
  obtain⟨d,hd,hl⟩:=Option.bind_eq_some_iff.1 hl
  obtain⟨d',gR,hl⟩:=Option.bind_eq_some_iff.1 hl
  simp only[Option.some.injEq]at hl
  subst hl
  have hx:=hop _ _ hd
  simp only[ae]at hr
  split at hr<;>try(cases hr;done)
  rename_i s hv
  split at hr<;>try(cases hr;done)
  rename_i cs hb
  obtain⟨r,hf,hr⟩:=Option.bind_eq_some_iff.1 hr
  cases r with
  |some v=>
   simp only[Option.some.injEq,Prod.mk.injEq]at hr
   obtain⟨rfl,rfl⟩:=hr
   exact NS (r:=some v) hI ho hu hk hz (hv▸hx) (hop _ _ gR) hb hf rfl
  |none=>
   simp only[Option.some.injEq,Prod.mk.injEq]at hr
   obtain⟨rfl,rfl⟩:=hr
   exact NS (r:=none) hI ho hu hk hz (hv▸hx) (hop _ _ gR) hb hf rfl
 case mapUpdate ty x ix y=>
  split at hl<;>try(cases hl;done)
  rename_i kt e hu
  obtain⟨k,hk,hl⟩:=Option.bind_eq_some_iff.1 hl
  obtain⟨d,hd,hl⟩:=Option.bind_eq_some_iff.1 hl
  obtain⟨d',gR,hl⟩:=Option.bind_eq_some_iff.1 hl
  obtain⟨d2,RW,hl⟩:=Option.bind_eq_some_iff.1 hl
  simp only[Option.some.injEq]at hl
  subst hl
  have hx:=hop _ _ hd
  simp only[ae]at hr
  split at hr<;>try(cases hr;done)
  rename_i s hv
  split at hr<;>try(cases hr;done)
  rename_i cs hb
  obtain⟨b9,hf,dE⟩:=Option.map_eq_some_iff.1 hr
  simp only[Prod.mk.injEq]at dE
  obtain⟨rfl,rfl⟩:=dE
  exact QZ hI ho hu hk (hv▸hx) (hop _ _ gR) (hop _ _ RW) hb hf
 case makeFunc fn first cap=>
  obtain⟨fs,R5,hl⟩:=Option.bind_eq_some_iff.1 hl
  obtain⟨cs,aF,hl⟩:=Option.bind_eq_some_iff.1 hl
  simp only[Option.some.injEq]at hl
  subst hl
  simp only[ae,Option.some.injEq,Prod.mk.injEq]at hr
  obtain⟨rfl,rfl⟩:=hr
  exact abb hI ho hop R5 aF
 case nilCheck x=>
  obtain⟨d,hd,rfl⟩:=Option.map_eq_some_iff.1 hl
  have hx:=hop _ _ hd
  simp only[ae]at hr
  generalize d.get σ=u at hr hx
  split at hr<;>try(cases hr;done)
  all_goals
   simp only[Option.some.injEq,Prod.mk.injEq]at hr
   obtain⟨rfl,rfl⟩:=hr
   exact TN hI ho hx rfl
 case slice ty x lo hi mx=>
  split at hl<;>try(cases hl;done)
  ·rename_i hu
   split at hl<;>try(cases hl;done)
   rename_i hmx
   rw[Option.isNone_iff_eq_none]at hmx
   subst hmx
   obtain⟨d,hd,hl⟩:=Option.bind_eq_some_iff.1 hl
   obtain⟨l',e1,hl⟩:=Option.bind_eq_some_iff.1 hl
   obtain⟨h',e2,hl⟩:=Option.bind_eq_some_iff.1 hl
   simp only[Option.some.injEq]at hl
   subst hl
   have hx:=hop _ _ hd
   simp only[ae]at hr
   split at hr<;>try(cases hr;done)
   rename_i s hv
   obtain⟨h,f2,hr⟩:=Option.bind_eq_some_iff.1 hr
   obtain⟨l,f1,hr⟩:=Option.bind_eq_some_iff.1 hr
   split at hr<;>try(cases hr;done)
   rename_i hh
   simp only[Option.some.injEq,Prod.mk.injEq]at hr
   obtain⟨rfl,rfl⟩:=hr
   exact aa7 (u:=T.v (.string s)) hI ho hu hop e1 e2 (hv▸hx) (by simp only;rw[f2,Option.bind_some,f1,Option.bind_some,if_pos hh])
  ·rename_i e hu
   split at hl<;>try(cases hl;done)
   rename_i hc
   simp only[not_or,not_and,Option.isNone_iff_eq_none]at hc
   obtain⟨d,hd,hl⟩:=Option.bind_eq_some_iff.1 hl
   obtain⟨l',e1,hl⟩:=Option.bind_eq_some_iff.1 hl
   obtain⟨h',e2,hl⟩:=Option.bind_eq_some_iff.1 hl
   obtain⟨m',e3,hl⟩:=Option.bind_eq_some_iff.1 hl
   simp only[Option.some.injEq]at hl
   subst hl
   have hx:=hop _ _ hd
   have Ig:mx.isSome=true→hi.isSome=true:=fun h=>by
    have:=hc.2 h
    cases hi with
    |none=>exact absurd rfl this
    |some _=>rfl
   simp only[ae]at hr
   split at hr<;>try(cases hr;done)
   ·rename_i g n cs hv
    obtain⟨h,f2,hr⟩:=Option.bind_eq_some_iff.1 hr
    obtain⟨l,f1,hr⟩:=Option.bind_eq_some_iff.1 hr
    obtain⟨m,f3,hr⟩:=Option.bind_eq_some_iff.1 hr
    split at hr<;>try(cases hr;done)
    rename_i hh
    simp only[Option.some.injEq,Prod.mk.injEq]at hr
    obtain⟨rfl,rfl⟩:=hr
    refine NL (u:=T.sl g n cs) hI ho hu hc.1 hop e1 e2 e3 Ig (hv▸hx) ?_
    simp only
    rw[f2,Option.bind_some,f1,Option.bind_some,f3,Option.bind_some,if_pos hh]
   ·rename_i s off n cn hv
    obtain⟨h,f2,hr⟩:=Option.bind_eq_some_iff.1 hr
    obtain⟨l,f1,hr⟩:=Option.bind_eq_some_iff.1 hr
    obtain⟨m,f3,hr⟩:=Option.bind_eq_some_iff.1 hr
    split at hr<;>try(cases hr;done)
    rename_i hh
    simp only[Option.some.injEq,Prod.mk.injEq]at hr
    obtain⟨rfl,rfl⟩:=hr
    refine NL (u:=T.au s off n cn) hI ho hu hc.1 hop e1 e2 e3 Ig (hv▸hx) ?_
    simp only
    rw[f2,Option.bind_some,f1,Option.bind_some,f3,Option.bind_some,if_pos hh]
  ·rename_i len e hu
   split at hl<;>try(cases hl;done)
   rename_i hc
   simp only[not_or,Option.isSome_iff_ne_none,ne_eq,Decidable.not_not]at hc
   obtain⟨hz,rfl⟩:=hc
   obtain⟨d,hd,hl⟩:=Option.bind_eq_some_iff.1 hl
   obtain⟨l',e1,hl⟩:=Option.bind_eq_some_iff.1 hl
   obtain⟨h',e2,hl⟩:=Option.bind_eq_some_iff.1 hl
   simp only[Option.some.injEq]at hl
   subst hl
   have hx:=hop _ _ hd
   simp only[ae]at hr
   split at hr<;>try(cases hr;done)
   rename_i s off hv
   obtain⟨h,f2,hr⟩:=Option.bind_eq_some_iff.1 hr
   obtain⟨l,f1,hr⟩:=Option.bind_eq_some_iff.1 hr
   split at hr<;>try(cases hr;done)
   rename_i cs n9
   split at hr<;>try(cases hr;done)
   rename_i hh
   simp only[Option.some.injEq,Prod.mk.injEq]at hr
   obtain⟨rfl,rfl⟩:=hr
   refine aa6 (u:=T.ref s off) hI ho hu hz hop e1 e2 (hv▸hx) ?_
   simp only
   rw[f2,Option.bind_some,f1,Option.bind_some,n9]
   simp only
   rw[if_pos hh]
 case makeSlice ty l c=>
  split at hl<;>try(cases hl;done)
  rename_i e d hu Hs
  have key:∀(q:ag) zs,0< P.cellsOf e→zeroOf P e=some zs→opd l=some q→a.eval c=a.eval l→i=J3 bm d e (P.cellsOf e) (P.bytesOf e) zs q→∃x w',aL P a o w x w'∧ax P W S0 S β φ w σ σ' t x w':=by
   rintro q zs tM da hq bV rfl
   unfold J3 at hr
   split at hr
   ·rename_i s hs
    simp only[ae]at hr
    split at hr<;>try(cases hr;done)
    rename_i n hn hb
    split at hr<;>try(cases hr;done)
    rename_i hh
    simp only[Option.some.injEq,Prod.mk.injEq]at hr
    obtain⟨rfl,rfl⟩:=hr
    exact aeo hI ho hu tM bV (hop _ _ hq) hn da hh.1 hh.2.1 hb hh.2.2 (by have:=oa hs;omega)
   simp only[ae]at hr
   split at hr<;>try(cases hr;done)
   rename_i n hn
   split at hr<;>try(cases hr;done)
   rename_i hh
   simp only[Option.some.injEq,Prod.mk.injEq]at hr
   obtain⟨rfl,rfl⟩:=hr
   exact Wn hI ho hu tM bV (hop _ _ hq) hn da hh.1 hh.2
  split at hl<;>try(cases hl;done)
  ·rename_i l' c'
   split at hl<;>try(cases hl;done)
   rename_i hh
   obtain⟨zs,da,hl⟩:=Option.bind_eq_some_iff.1 hl
   obtain⟨q,hq,hl⟩:=Option.bind_eq_some_iff.1 hl
   simp only[Option.some.injEq]at hl
   exact key q zs hh.2 da hq (by rw[hh.1]) hl.symm
  ·rename_i m m'
   split at hl<;>try(cases hl;done)
   rename_i hh
   obtain⟨zs,da,hl⟩:=Option.bind_eq_some_iff.1 hl
   obtain⟨q,hq,hl⟩:=Option.bind_eq_some_iff.1 hl
   simp only[Option.some.injEq]at hl
   exact key q zs hh.2 da hq (by rw[hh.1]) hl.symm
  ·rename_i c'
   split at hl<;>try(cases hl;done)
   rename_i hh
   obtain⟨q,hq,rfl⟩:=Option.map_eq_some_iff.1 hl
   obtain⟨zs,da⟩:=Option.isSome_iff_exists.1 hh.2
   simp only[ae]at hr
   split at hr<;>try(cases hr;done)
   rename_i n hn
   split at hr<;>try(cases hr;done)
   rename_i hb
   simp only[Option.some.injEq,Prod.mk.injEq]at hr
   obtain⟨rfl,rfl⟩:=hr
   exact aen hI ho hu hh.1 rfl (hop _ _ hq) hn da hb.1 hb.2
 case buildSlice ty len parts=>
  split at hl<;>try(cases hl;done)
  rename_i e d hu Hs
  split at hl<;>try(cases hl;done)
  rename_i hh
  obtain⟨zs,da,hl⟩:=Option.bind_eq_some_iff.1 hl
  obtain⟨qs,Dx,hl⟩:=Option.bind_eq_some_iff.1 hl
  simp only[Option.some.injEq]at hl
  subst hl
  unfold TK at hr
  split at hr
  ·rename_i s hs
   simp only[ae]at hr
   split at hr<;>try(cases hr;done)
   rename_i kY
   obtain⟨cs,aF,hr⟩:=Option.bind_eq_some_iff.1 hr
   split at hr<;>try(cases hr;done)
   rename_i hb
   simp only[Option.some.injEq,Prod.mk.injEq]at hr
   obtain⟨rfl,rfl⟩:=hr
   exact Wr hI ho hu hh.2 hh.1 hop da Dx aF hb.1 hb.2.1 kY hb.2.2 (by have:=oa hs;omega)
  simp only[ae,Option.bind_eq_bind]at hr
  obtain⟨cs,aF,hr⟩:=Option.bind_eq_some_iff.1 hr
  split at hr<;>try(cases hr;done)
  rename_i hb
  simp only[Option.some.injEq,Prod.mk.injEq]at hr
  obtain⟨rfl,rfl⟩:=hr
  exact aa8 hI ho hu hh.2 hh.1 hop da Dx aF hb.1 hb.2.1 hb.2.2
 case call c=>
  split at hl
  ·
   rename_i d fD Hs
   split at hl<;>try(cases hl;done)
   rename_i x y ty uy gq rA
   have key:∀(e:TypeId) (sz:Nat) (zs:List T) (kind:Nat) (qx qy:ag),P.underlying ty=some (.slice e)→0< sz→P.cellsOf e=sz→zeroOf P e=some zs→opd x=some qx→opd y=some qy→i=Cn bm d e sz (P.bytesOf e) zs kind qx qy→
     ((kind=0∧∃e',P.underlying uy=some (.slice e'))∨(kind=1∧P.underlying uy=some .string)∨(kind=2∧∃k,P.underlying uy=some (.int k)))→∃x w',aL P a o w x w'∧ax P W S0 S β φ w σ σ' t x w':=by
    rintro e sz zs kind qx qy hu tM hsz da NW NX rfl aiV
    obtain⟨i,z,hi,hz,hzc,hR⟩:=jW (S:=S) (w:=w) (β:=bn) (φ:=cD) da
    have hsi:sz=i.size:=by rw[←hsz];simp[Program.cellsOf,hi]
    have Im:P.bytesOf e=i.bytes:=by simp[Program.bytesOf,hi]
    subst hsi
    have hx:=hop _ _ NW
    have hy:=hop _ _ NX
    have TQ:∀m ys,iP σ.boxes kind i.size zs (qy.get σ)=some (m,ys)→ys.length=m*i.size→m≤room→m*i.bytes≤room→dJ (qy.get σ) ys=true→
      ∃news,tf P uy i z (a.eval y) m news w∧news.length=ys.length∧(∀v∈news,v.oneCell'=true)∧∀(j:Nat) (q:Value) (t:T),news[j]? =some q→ys[j]? =some t→ak S w bn cD q t:=by
     intro m ys cI mb nY iH bV
     unfold iP at cI
     rcases aiV with⟨rfl,e',ly⟩|⟨rfl,ly⟩|⟨rfl,k,hk⟩
     ·simp only at cI
      split at cI
      ·rename_i g' m' Lp WE
       simp only[Option.some.injEq,Prod.mk.injEq]at cI
       obtain⟨rfl,rfl⟩:=cI
       rw[WE]at hy;exact Ws ly hy mb
      ·rename_i s off m' c' WE
       split at cI<;>try(cases cI;done)
       rename_i cs n9
       split at cI<;>try(cases cI;done)
       rename_i hp
       simp only[Option.some.injEq,Prod.mk.injEq]at cI
       obtain⟨rfl,rfl⟩:=cI
       rw[WE]at hy bV
       exact aeq hI ly hy n9 mb bV
      ·cases cI
     ·simp only at cI
      split at cI<;>try(cases cI;done)
      rename_i s WE
      split at cI<;>try(cases cI;done)
      rename_i hs1
      simp only[Option.some.injEq,Prod.mk.injEq]at cI
      obtain⟨rfl,rfl⟩:=cI
      rw[WE]at hy
      rw[cA hy]
      exact aer ly hs1
     ·simp only at cI
      obtain⟨m',xP,hmm⟩:=Option.map_eq_some_iff.1 cI
      simp only[Prod.mk.injEq]at hmm
      obtain⟨rfl,rfl⟩:=hmm
      obtain⟨kq,nJ⟩:=lj hy xP
      rw[nJ]
      exact aa9 hk (by simp only[room]at nY;omega) (by simp only[room]at iH;omega) tM hzc hR
    unfold Cn at hr
    split at hr
    ·rename_i s fB
     simp only[ae]at hr
     split at hr<;>try(cases hr;done)
     ·rename_i g n xs m ys hgx cI By
      split at hr<;>try(cases hr;done)
      rename_i hh
      obtain⟨mP,mb,iH,nY,bV,hp⟩:=hh
      subst mP
      rw[Im]at iH
      rw[hgx]at hx
      obtain⟨news,k1,k2,k3,k4⟩:=TQ m ys cI mb nY iH bV
      refine Wz (zs:=[]) hI ho fD gq rA hu hi hz hzc tM hx mb k1 k2 k3 k4 (by simp only[room]at nY;exact nY) (by simp only[room]at iH;exact iH) By hp (by have:=oa fB;omega) ?_
      cases g<;>exact hr
     ·rename_i s' o' n cn m ys old hgx cI By
      split at hr<;>try(cases hr;done)
      rename_i hh
      obtain⟨ho0,R6,hp,Bv,hle,mb,iH,nY,bV⟩:=hh
      subst ho0
      simp only[Option.some.injEq,Prod.mk.injEq]at hr
      obtain⟨rfl,rfl⟩:=hr
      rw[Im]at iH
      rw[hgx]at hx
      obtain⟨news,k1,k2,k3,k4⟩:=TQ m ys cI mb (by omega) (by
       have:m*i.bytes≤(n+m)*i.bytes:=Nat.mul_le_mul_right _ (by omega)
       omega) bV
      exact TO hI ho fD gq rA hu hi hz hzc tM hx mb k1 k2 k3 k4 (by simp only[room]at nY;exact nY) (by simp only[room]at iH;exact iH) (R6.imp id fun h=>by
       cases old with
       |none=>exact By
       |some _=>cases h) (List.getElem?_eq_some_iff.1 By).1 hp (by have:=oa fB;omega) Bv hle
    simp only[ae]at hr
    split at hr<;>try(cases hr;done)
    rename_i g n xs m ys hgx cI
    split at hr<;>try(cases hr;done)
    rename_i hh
    obtain⟨D8,mb,iH,nY,bV⟩:=hh
    rw[Im]at iH
    rw[hgx]at hx
    obtain⟨news,k1,k2,k3,k4⟩:=TQ m ys cI mb (by omega) (by
     have:m*i.bytes≤(n+m)*i.bytes:=Nat.mul_le_mul_right _ (by omega)
     omega) bV
    refine aba (zs:=[]) (d:=d) hI ho fD gq rA hu hi hz hzc tM hx D8 mb k1 k2 k3 k4 (by simp only[room]at nY;exact nY) (by simp only[room]at iH;exact iH) ?_
    cases g<;>exact hr
   split at hl<;>try(cases hl;done)
   ·rename_i e e' hu ly
    split at hl<;>try(cases hl;done)
    rename_i hh
    obtain⟨zs,da,hl⟩:=Option.bind_eq_some_iff.1 hl
    obtain⟨qx,NW,hl⟩:=Option.bind_eq_some_iff.1 hl
    obtain⟨qy,NX,hl⟩:=Option.bind_eq_some_iff.1 hl
    simp only[Option.some.injEq]at hl
    exact key e _ zs 0 qx qy hu hh rfl da NW NX hl.symm (.inl ⟨rfl,e',ly⟩)
   ·rename_i e hu ly
    split at hl<;>try(cases hl;done)
    rename_i hh
    obtain⟨zs,da,hl⟩:=Option.bind_eq_some_iff.1 hl
    obtain⟨qx,NW,hl⟩:=Option.bind_eq_some_iff.1 hl
    obtain⟨qy,NX,hl⟩:=Option.bind_eq_some_iff.1 hl
    simp only[Option.some.injEq]at hl
    exact key e 1 zs 1 qx qy hu (by omega) hh da NW NX hl.symm (.inr (.inl ⟨rfl,ly⟩))
   ·rename_i e k hu ly
    split at hl<;>try(cases hl;done)
    rename_i hh
    obtain⟨zs,da,hl⟩:=Option.bind_eq_some_iff.1 hl
    obtain⟨qx,NW,hl⟩:=Option.bind_eq_some_iff.1 hl
    obtain⟨qy,NX,hl⟩:=Option.bind_eq_some_iff.1 hl
    simp only[Option.some.injEq]at hl
    exact key e _ zs 2 qx qy hu hh rfl da NW NX hl.symm (.inr (.inr ⟨rfl,k,ly⟩))
  ·
   rename_i fD
   split at hl<;>try(cases hl;done)
   rename_i x ty gq rA
   split at hl<;>try(cases hl;done)
   ·rename_i e hu
    obtain⟨d,hd,rfl⟩:=Option.map_eq_some_iff.1 hl
    simp only[ae]at hr
    obtain⟨z,hz,dE⟩:=Option.map_eq_some_iff.1 hr
    simp only[Prod.mk.injEq]at dE
    obtain⟨rfl,rfl⟩:=dE
    exact ac5 hI ho fD gq rA (.inl ⟨rfl,_,hu⟩) (hop _ _ hd) hz
   ·rename_i hu
    obtain⟨d,hd,rfl⟩:=Option.map_eq_some_iff.1 hl
    simp only[ae]at hr
    obtain⟨z,hz,dE⟩:=Option.map_eq_some_iff.1 hr
    simp only[Prod.mk.injEq]at dE
    obtain⟨rfl,rfl⟩:=dE
    exact ac5 hI ho fD gq rA (.inr ⟨rfl,hu⟩) (hop _ _ hd) hz
   ·rename_i n e hu
    simp only[Option.some.injEq]at hl
    subst hl
    simp only[ae,Option.some.injEq,Prod.mk.injEq]at hr
    obtain⟨rfl,rfl⟩:=hr
    have he:=mu (P:=P) (w:=w) (a:=a) ho fD [x] gq [ty] rA
    exact quiet hI (x:= .int .i64 n) (by rw[he];simp[builtin,Builtin.len_,run_underlying hu,goInt]) (.v ..)
   ·rename_i hu
    obtain⟨d,hd,rfl⟩:=Option.map_eq_some_iff.1 hl
    have hx:=hop _ _ hd
    simp only[ae]at hr
    split at hr<;>try(cases hr;done)
    rename_i s hv
    split at hr<;>try(cases hr;done)
    rename_i cs hb
    simp only[Option.some.injEq,Prod.mk.injEq]at hr
    obtain⟨rfl,rfl⟩:=hr
    exact agp hI ho fD gq rA hu (hv▸hx) hb
  ·
   rename_i fD
   split at hl<;>try(cases hl;done)
   rename_i x ty gq rA
   split at hl<;>try(cases hl;done)
   rename_i e hu
   obtain⟨d,hd,rfl⟩:=Option.map_eq_some_iff.1 hl
   have hx:=hop _ _ hd
   simp only[ae]at hr
   split at hr<;>try(cases hr;done)
   ·rename_i hv
    simp only[Option.some.injEq,Prod.mk.injEq]at hr
    obtain⟨rfl,rfl⟩:=hr
    exact NU hI ho fD gq rA hu (hv▸hx) rfl
   ·rename_i n cs hv
    simp only[Option.some.injEq,Prod.mk.injEq]at hr
    obtain⟨rfl,rfl⟩:=hr
    exact NU hI ho fD gq rA hu (hv▸hx) rfl
   ·rename_i hv
    simp only[Option.some.injEq,Prod.mk.injEq]at hr
    obtain⟨rfl,rfl⟩:=hr
    exact NU hI ho fD gq rA hu (hv▸hx) rfl
  ·rename_i fD
   obtain⟨as,has,hl⟩:=Option.bind_eq_some_iff.1 hl
   simp only[Option.some.injEq]at hl
   subst hl
   simp only[ae]at hr
   split at hr<;>try(cases hr;done)
   rename_i k x rest zU
   obtain⟨z,hz,dE⟩:=Option.map_eq_some_iff.1 hr
   simp only[Prod.mk.injEq]at dE
   obtain⟨rfl,rfl⟩:=dE
   exact NQ (mx:=true) hI ho fD hop has (by rw[zU];simp[hz])
  ·rename_i fD
   obtain⟨as,has,hl⟩:=Option.bind_eq_some_iff.1 hl
   simp only[Option.some.injEq]at hl
   subst hl
   simp only[ae]at hr
   split at hr<;>try(cases hr;done)
   rename_i k x rest zU
   obtain⟨z,hz,dE⟩:=Option.map_eq_some_iff.1 hr
   simp only[Prod.mk.injEq]at dE
   obtain⟨rfl,rfl⟩:=dE
   exact NQ (mx:=false) hI ho fD hop has (by rw[zU];simp[hz])
  ·rename_i fD
   split at hl<;>try(cases hl;done)
   rename_i x gq
   obtain⟨d,hd,rfl⟩:=Option.map_eq_some_iff.1 hl
   have hx:=hop _ _ hd
   simp only[ae]at hr
   split at hr<;>try(cases hr;done)
   rename_i f re im hv
   simp only[Option.some.injEq,Prod.mk.injEq]at hr
   obtain⟨rfl,rfl⟩:=hr
   exact Ww (k:=0) (u:=T.v (.complex f re im)) hI ho fD gq (hv▸hx) rfl
  ·rename_i fD
   split at hl<;>try(cases hl;done)
   rename_i x gq
   obtain⟨d,hd,rfl⟩:=Option.map_eq_some_iff.1 hl
   have hx:=hop _ _ hd
   simp only[ae]at hr
   split at hr<;>try(cases hr;done)
   rename_i f re im hv
   simp only[Option.some.injEq,Prod.mk.injEq]at hr
   obtain⟨rfl,rfl⟩:=hr
   exact Ww (k:=1) (u:=T.v (.complex f re im)) hI ho fD gq (hv▸hx) rfl
  ·rename_i fD
   split at hl<;>try(cases hl;done)
   rename_i x y gq
   obtain⟨d,hd,hl⟩:=Option.bind_eq_some_iff.1 hl
   obtain⟨d',gR,hl⟩:=Option.bind_eq_some_iff.1 hl
   simp only[Option.some.injEq]at hl
   subst hl
   have hx:=hop _ _ hd
   have hy:=hop _ _ gR
   simp only[ae]at hr
   split at hr<;>try(cases hr;done)
   rename_i k re k' im hv Bw
   split at hr<;>try(cases hr;done)
   rename_i hk
   simp only[Option.some.injEq,Prod.mk.injEq]at hr
   obtain⟨rfl,rfl⟩:=hr
   exact agn (u:=T.v (.float k re)) (v:=T.v (.float k' im)) hI ho fD gq (hv▸hx) (Bw▸hy) (by simp[hk])
  ·rename_i fD
   split at hl<;>try(cases hl;done)
   rename_i x y ty uy gq rA
   split at hl<;>try(cases hl;done)
   rename_i e hu
   split at hl<;>try(cases hl;done)
   rename_i hz
   obtain⟨d,hd,hl⟩:=Option.bind_eq_some_iff.1 hl
   obtain⟨d',gR,hl⟩:=Option.bind_eq_some_iff.1 hl
   simp only[Option.some.injEq]at hl
   subst hl
   simp only[ae]at hr
   exact ago hI ho fD gq rA hu rfl (by omega) (hop _ _ hd) (hop _ _ gR) hr
  ·rename_i fD
   split at hl<;>try(cases hl;done)
   rename_i x ty gq rA
   split at hl<;>try(cases hl;done)
   rename_i e hu
   split at hl<;>try(cases hl;done)
   rename_i tM
   obtain⟨zs,da,hl⟩:=Option.bind_eq_some_iff.1 hl
   obtain⟨d,hd,hl⟩:=Option.bind_eq_some_iff.1 hl
   simp only[Option.some.injEq]at hl
   subst hl
   have hx:=hop _ _ hd
   simp only[ae]at hr
   split at hr<;>try(cases hr;done)
   rename_i s off n cn hv
   split at hr<;>try(cases hr;done)
   rename_i cs hb
   split at hr<;>try(cases hr;done)
   rename_i hh
   simp only[Option.some.injEq,Prod.mk.injEq]at hr
   obtain⟨rfl,rfl⟩:=hr
   exact abe hI ho fD gq rA hu rfl da (hv▸hx) hb hh.1 hh.2.2.1 hh.2.2.2.1
  ·rename_i f d fD Hs
   exact absurd fD (cG c _ ho)
  ·rename_i s d fD Hs
   exact absurd fD (cG c _ ho)
  ·cases hl
end
end Go.Vi
end
