/-
  A claim's own text, joined by a small program out of: Vj12.
-/
import Derived.Test.YtodollbkpkpklaaGreatY11
import Derived.Laws.BytesArg
set_option linter.unusedVariables false
set_option linter.unusedSimpArgs false
section
namespace Go.Vi
open Go Go.RowKit
section
variable{P:Program}{W:di}{w:World}{S0 S:Nat→Nat→Prop}{β:aX}{φ:bB}{a:Act}{o:Oper}{σ:St}
theorem du{α γ:Type}{f:α→Option γ}:∀{xs:List α} {ds:List γ},xs.mapM f=some ds→xs.length=ds.length∧∀(i:Nat) (x:α) (d:γ),xs[i]? =some x→ds[i]? =some d→f x=some d
 | [],ds,h=>by simp at h;subst h;exact⟨rfl,fun i x d h=>by simp at h⟩
 |x::xs,ds,h=>by
  simp only[List.mapM_cons,Option.bind_eq_bind,Option.pure_def]at h
  obtain⟨d,hd,h⟩:=Option.bind_eq_some_iff.1 h
  obtain⟨Ll,yX,h⟩:=Option.bind_eq_some_iff.1 h
  simp only[Option.some.injEq]at h
  subst h
  obtain⟨k1,k2⟩:=du yX
  refine⟨by simp[k1],fun i x' d' mN gR=> ?_⟩
  cases i with
  |zero=>simp at mN gR;subst mN;subst gR;exact hd
  |succ i=>simp at mN gR;exact k2 i x' d' mN gR
theorem Ii(mx:Bool):∀(vs:List Value) (ts:List T) (k:IntKind) (acc r:Int),vs.length=ts.length→(∀(i:Nat) (x:Value) (t:T),vs[i]? =some x→ts[i]? =some t→ak S w β φ x t)→nD mx acc ts=some r→
  (vs.foldlM (if mx then Builtin.max2 else Builtin.min2) (.int k acc)).run P w= .ok (.int k r) w
 | [],[],k,acc,r,_,_,h=>by simp only[nD,Option.some.injEq]at h;subst h;simp
 |v::vs,t::ts,k,acc,r,hl,hr,h=>by
  unfold nD at h
  split at h
  ·rename_i h';cases h'
  ·rename_i k' y Gy h'
   cases h'
   have hv:=cA (hr 0 v _ rfl rfl)
   subst hv
   have ih:=Ii mx vs ts k _ r (by simpa using hl) (fun i x t hx ht=>hr (i+1) x t (by simpa using hx) (by simpa using ht)) h
   cases mx
   ·simp only[Bool.false_eq_true,if_false]at ih⊢
    simp only[List.foldlM_cons,Sem.run_bind,Builtin.min2,Sem.run_pure,Result.andThen_ok]
    exact ih
   ·simp only[if_true]at ih⊢
    simp only[List.foldlM_cons,Sem.run_bind,Builtin.max2,Sem.run_pure,Result.andThen_ok]
    exact ih
  ·cases h
 | [],_::_,_,_,_,h,_,_=>by simp at h
 |_::_,[],_,_,_,h,_,_=>by simp at h
theorem NQ(hI:Inv P W S0 S β φ σ.boxes w){c:Call}{mx:Bool}{opd:Operand→Option ag}{as:List ag}{t:T}(ho:o.op= .call c)(hc:c.callee= .builtin (if mx then .max else .min))(hop:∀x d,opd x=some d→ak S w β φ (a.eval x) (d.get σ))
  (ha:c.args.toList.mapM opd=some as) (h:(match(generalizing:=false) as.map (ag.get σ)with
  | .v (.int k x)::rest=>(nD mx x rest).map fun r=>T.v (.int k r)
  |_=>none)=some t):∃x w',aL P a o w x w'∧ax P W S0 S β φ w σ σ t x w':=by
 obtain⟨m1,m2⟩:=du ha
 have he:=mu (P:=P) (w:=w) (a:=a) ho hc c.args.toList rfl c.argTypes.toList rfl
 have ij:∀(i:Nat) (x:Value) (t:T),(c.args.toList.map a.eval)[i]? =some x→(as.map (ag.get σ))[i]? =some t→ak S w β φ x t:=fun i x t hx ht=>by
  simp only[List.getElem?_map,Option.map_eq_some_iff]at hx ht
  obtain⟨p,hp,rfl⟩:=hx
  obtain⟨q,hq,rfl⟩:=ht
  exact hop p q (m2 i p q hp hq)
 generalize xR:c.args.toList.map a.eval=vs at ij he
 generalize zU:as.map (ag.get σ)=ts at ij h
 have hlen:vs.length=ts.length:=by rw[←xR,←zU];simpa using m1
 split at h
 ·rename_i k x rest
  obtain⟨r,hr,rfl⟩:=Option.map_eq_some_iff.1 h
  cases vs with
  |nil=>simp at hlen
  |cons v vs=>
   have hv:=cA (ij 0 v _ rfl rfl)
   subst hv
   have hrun:=Ii (P:=P) (w:=w) mx vs rest k x r (by simpa using hlen) (fun i y t hy ht=>ij (i+1) y t (by simpa using hy) (by simpa using ht)) hr
   refine quiet hI (x:= .int k r) ?_ (.v ..)
   rw[he]
   cases mx
   ·simp only[Bool.false_eq_true,if_false]at hrun⊢
    simp[builtin,Builtin.min_,hrun]
   ·simp only[if_true]at hrun⊢
    simp[builtin,Builtin.max_,hrun]
 ·cases h
theorem Ww(hI:Inv P W S0 S β φ σ.boxes w){c:Call}{k:Nat}{x:Operand}{u t:T}(ho:o.op= .call c)(hc:c.callee= .builtin (if k=0 then .real else .imag))(ha:c.args.toList=[x])(hx:ak S w β φ (a.eval x) u)
  (h:(match(generalizing:=false) u with| .v (.complex f re im)=>some (T.v (.float f (if k=0 then re else im)))|_=>none)=some t):∃x w',aL P a o w x w'∧ax P W S0 S β φ w σ σ t x w':=by
 have he:=mu (P:=P) (w:=w) (a:=a) ho hc [x] ha c.argTypes.toList rfl
 split at h
 ·have hv:=cA hx
  simp only[Option.some.injEq]at h
  subst h
  refine quiet hI ?_ (.v ..)
  rw[he]
  by_cases hk:k=0
  ·have hr:∀(Lk:Array TypeId) (ty:TypeId) (f:FloatKind) (re im:Nat),(Builtin.real_ Lk ty #[.complex f re im]).run P w= .ok (.float f re) w:=fun _ _ _ _ _=>rfl
   simp[hk,hv,builtin,hr]
  ·have hr:∀(Lk:Array TypeId) (ty:TypeId) (f:FloatKind) (re im:Nat),(Builtin.imag_ Lk ty #[.complex f re im]).run P w= .ok (.float f im) w:=fun _ _ _ _ _=>rfl
   simp[hk,hv,builtin,hr]
 ·cases h
theorem agn(hI:Inv P W S0 S β φ σ.boxes w){c:Call}{x y:Operand}{u v t:T}(ho:o.op= .call c)(hc:c.callee= .builtin .complex)(ha:c.args.toList=[x,y])(hx:ak S w β φ (a.eval x) u)(hy:ak S w β φ (a.eval y) v)
  (h:(match(generalizing:=false) u,v with| .v (.float k re),.v (.float k' im)=>if k=k' then some (T.v (.complex k re im))else none|_,_=>none)=some t):∃x w',aL P a o w x w'∧ax P W S0 S β φ w σ σ t x w':=by
 have he:=mu (P:=P) (w:=w) (a:=a) ho hc [x,y] ha c.argTypes.toList rfl
 split at h
 ·split at h
  ·rename_i hk
   subst hk
   have h1:=cA hx
   have h2:=cA hy
   simp only[Option.some.injEq]at h
   subst h
   refine quiet hI ?_ (.v ..)
   rw[he]
   have hr:∀(Lk:Array TypeId) (ty:TypeId) (k:FloatKind) (re im:Nat),(Builtin.complex_ Lk ty #[.float k re,.float k im]).run P w= .ok (.complex k re im) w:=fun _ _ k _ _=>by
    show(if k=k then(pure (.complex k _ _):Sem Value)else _).run P w=_
    simp
   simp[h1,h2,builtin,hr]
  ·cases h
 ·cases h
theorem Ee:∀{cs:List T} {bs:List UInt8},bytesOf cs=some bs→∃ns:List Int,cs=ns.map (fun n=>T.v (.int .u8 n))∧bs=ns.map fun n=>UInt8.ofNat n.toNat
 | [],bs,h=>by simp only[bytesOf,Option.some.injEq]at h;subst h;exact⟨[],rfl,rfl⟩
 |c::cs,bs,h=>by
  unfold bytesOf at h
  split at h
  ·rename_i h';cases h'
  ·rename_i n b9 h'
   cases h'
   obtain⟨bs',hb,rfl⟩:=Option.map_eq_some_iff.1 h
   obtain⟨ns,rfl,rfl⟩:=Ee hb
   exact⟨n::ns,rfl,rfl⟩
  ·cases h
theorem aes(hI:Inv P W S0 S β φ σ.boxes w){s d e:TypeId}{x:Operand}{u t:T}(ho:o.op= .convert s d x)(hs:P.underlying s=some (.slice e))(he:P.underlying e=some (.int .u8))(hd:P.underlying d=some .string)(hx:ak S w β φ (a.eval x) u)
  (h:(match(generalizing:=false) u with| .sl _ n cs=>if n=cs.length then(bytesOf cs).map fun b=>T.str ⟨b.toArray⟩else none|_=>none)=some t):∃x w',aL P a o w x w'∧ax P W S0 S β φ w σ σ t x w':=by
 generalize hv:a.eval x=xv at hx
 cases hx with
 |nil=>
  simp only at h
  simp[bytesOf]at h
  subst h
  refine quiet hI (x:= .string ⟨#[]⟩) ?_ (.v ..)
  simp[execOp,ho,hv,convert,run_underlying hs,run_underlying hd,run_underlying he,Conv.bytesToString]
  rfl
 |sl _ _ g ad n c cs f cG hg aF hr=>
  simp only at h
  split at h
  ·rename_i hn
   obtain⟨bs,hb,rfl⟩:=Option.map_eq_some_iff.1 h
   obtain⟨ns,rfl,rfl⟩:=Ee hb
   simp only[List.length_map]at hn aF
   have hl:(loadCells ad n).run P w= .ok (ns.map (Value.int .u8)).toArray w:=by
    have:=run_loadCells_list (P:=P) w ad (ns.map (Value.int .u8)) (fun j v hj=>by
     simp only[List.getElem?_map,Option.map_eq_some_iff]at hj
     obtain⟨q,hq,rfl⟩:=hj
     have hlt:=(List.getElem?_eq_some_iff.1 hq).1
     have h1:=(aF j hlt).2.1
     have h2:=cA (hr j (.v (.int .u8 q)) (by simp[hq]))
     rw[h1,h2])
    rw[List.length_map]at this
    rw[hn]
    exact this
   refine quiet hI (x:= .string ⟨(ns.map fun n=>UInt8.ofNat n.toNat).toArray⟩) ?_ (.v ..)
   have h3:=run_bytesToString (P:=P) w ad n c ns hl
   rw[foldl_push_bytes]at h3
   simp[execOp,ho,hv,convert,run_underlying hs,run_underlying hd,run_underlying he,h3]
  ·cases h
 |_=>simp at h
theorem TN(hI:Inv P W S0 S β φ σ.boxes w){x:Operand}{u t:T}(ho:o.op= .nilCheck x)(hx:ak S w β φ (a.eval x) u)
  (h:(match(generalizing:=false) u with
  | .ref s o=>some (T.ref s o)
  | .ptr cs o=>some (.ptr cs o)
  | .bq (.func f) a b=>some (.bq (.func f) a b)
  | .v (.func (.func f) a b)=>some (.v (.func (.func f) a b))
  |_=>none)=some t):∃x w',aL P a o w x w'∧ax P W S0 S β φ w σ σ t x w':=by
 generalize hv:a.eval x=xv at hx
 split at h
 ·simp only[Option.some.injEq]at h;subst h
  have mN:=hx
  cases hx with
  |ref _ _ s off b hb hp=>exact quiet hI (by simp[execOp,ho,hv]) mN
 ·simp only[Option.some.injEq]at h;subst h
  have mN:=hx
  cases hx with
  |ptr _ _ ad cs off f aF hr=>exact quiet hI (by simp[execOp,ho,hv]) mN
 ·simp only[Option.some.injEq]at h;subst h
  have mN:=hx
  cases hx with
  |bq _ _ fn xs ys ts us hx hy hh k=>exact quiet hI (by simp[execOp,ho,hv]) mN
 ·simp only[Option.some.injEq]at h;subst h
  have mN:=cA hx
  subst mN
  exact quiet hI (by simp[execOp,ho,hv]) (.v ..)
 ·cases h
theorem ago(hI:Inv P W S0 S β φ σ.boxes w){c:Call}{x y:Operand}{ty uy e:TypeId}{sz:Nat}{u v t:T}{σ':St}(ho:o.op= .call c)(hc:c.callee= .builtin .copy)(ha:c.args.toList=[x,y])(uI:c.argTypes.toList=[ty,uy])
  (hty:P.underlying ty=some (.slice e)) (hsz:P.cellsOf e=sz) (hz:sz≠0) (hx:ak S w β φ (a.eval x) u) (hy:ak S w β φ (a.eval y) v)
  (h:(match(generalizing:=false) u,(match(generalizing:=false) v with
   | .sl _ m ys=>some (m,ys)
   | .v (.string s)=>if sz=1 then some (s.size,s.data.toList.map fun(b:UInt8)=>T.u8 b.toNat)else none
   |_=>none)with
  | .au s o n _,some (m,ys)=>match σ.boxes[s]? with
   |some (some cs)=>if ys.length=m*sz∧o+n*sz≤cs.length∧0< n then some (T.int (min m n:Nat),{σ with boxes:=σ.boxes.set s (some (setCells cs o (ys.take (min m n*sz))))})else none
   |_=>none
  |_,_=>none)=some (t,σ')):∃x w',aL P a o w x w'∧ax P W S0 S β φ w σ σ' t x w':=by
 have he:=mu (P:=P) (w:=w) (a:=a) ho hc [x,y] ha [ty,uy] uI
 have src:∀m ys,(match(generalizing:=false) v with
   | .sl _ m ys=>some (m,ys)
   | .v (.string s)=>if sz=1 then some (s.size,s.data.toList.map fun(b:UInt8)=>T.u8 b.toNat)else none
   |_=>none)=some (m,ys)→ys.length=m*sz→∀k,k≤m→(Builtin.lenOf (a.eval y)).run P w= .ok m w∧∃vs:List Value,(Builtin.firstCells sz k (a.eval y)).run P w= .ok vs.toArray w∧vs.length=(ys.take (k*sz)).length∧
    (∀q∈vs,q.oneCell'=true)∧∀(i:Nat) (q:Value) (t:T),vs[i]? =some q→(ys.take (k*sz))[i]? =some t→ak S w β φ q t:=by
  intro m ys hm hl k hk
  have hmul:k*sz≤m*sz:=Nat.mul_le_mul_right _ hk
  generalize hv:a.eval y=yv at hy
  cases hy with
  |nil=>
   simp only[Option.some.injEq,Prod.mk.injEq]at hm
   obtain⟨rfl,rfl⟩:=hm
   exact⟨by simp[Builtin.lenOf],[],by simp[Builtin.firstCells],by simp,fun q hq=>(nomatch hq),fun i q t hq=>(nomatch hq)⟩
  |sl _ _ g ad n c' cs f cG hg aF hr=>
   simp only[Option.some.injEq,Prod.mk.injEq]at hm
   obtain⟨rfl,rfl⟩:=hm
   refine⟨by simp[Builtin.lenOf],(List.range (k*sz)).map f, ?_,by simp;omega,fun q hq=> ?_,fun i q t hq ht=> ?_⟩
   ·simp only[Builtin.firstCells]
    exact run_loadCells w ad (k*sz) f fun j hj=>(aF j (by omega)).2.1
   ·simp only[List.mem_map,List.mem_range]at hq
    obtain⟨j,hj,rfl⟩:=hq
    exact(aF j (by omega)).2.2
   ·rw[List.getElem?_take]at ht
    split at ht
    ·rename_i hi
     simp[hi]at hq
     subst hq
     exact(hr i t ht).mono (fun _ _=>id) (fun _ _ h=>by simp[bn]at h) (fun _ _ h=>by simp[cD]at h) (fun _ _ _ _ _=>id) (cg.refl _)
    ·cases ht
  |v=>
   split at hm
   ·rename_i h';cases h'
   ·rename_i s h'
    cases h'
    split at hm
    ·rename_i hs1
     simp only[Option.some.injEq,Prod.mk.injEq]at hm
     obtain⟨rfl,rfl⟩:=hm
     subst hs1
     refine⟨by simp[Builtin.lenOf],((s.extract 0 k).data.map fun b=>Value.int .u8 b.toNat).toList,by(simp[Builtin.firstCells];apply Array.ext';simp), ?_,fun q hq=> ?_,fun i q t hq ht=> ?_⟩
     ·have:s.data.size=s.size:=rfl
      simp
      try omega
     ·simp only[Array.toList_map,List.mem_map]at hq
      obtain⟨b,_,rfl⟩:=hq
      rfl
     ·rw[List.getElem?_take]at ht
      split at ht
      ·rename_i hi
       simp only[Nat.mul_one]at hi
       simp only[Array.toList_map,List.getElem?_map,Option.map_eq_some_iff]at hq ht
       obtain⟨b,hb,rfl⟩:=hq
       obtain⟨b',ff,rfl⟩:=ht
       have:b=b':=by
        simp only[ByteArray.data_extract,Array.toList_extract,List.extract_eq_take_drop,List.drop_zero,Nat.sub_zero,List.getElem?_take,hi,if_true]at hb
        rw[hb]at ff
        simpa using ff
       subst this
       exact .v ..
      ·cases ht
    ·cases hm
   ·cases hm
  |_=>simp at hm
 generalize hms:(match(generalizing:=false) v with
   | .sl _ m ys=>some (m,ys)
   | .v (.string s)=>if sz=1 then some (s.size,s.data.toList.map fun(b:UInt8)=>T.u8 b.toNat)else none
   |_=>none)=ms at h src
 generalize hv:a.eval x=xv at hx
 cases hx with
 |iv _ _ ad s off cn=>
  cases ms with
  |none=>simp at h
  |some p=>
   simp only at h
   cases hs:σ.boxes[s]? with
   |none=>simp[hs]at h
   |some ob=>cases ob<;>simp[hs]at h
 |au _ _ s off n cn b cap hb hp cG oZ=>
  cases ms with
  |none=>simp at h
  |some p=>
   obtain⟨m,ys⟩:=p
   simp only at h
   cases hs:σ.boxes[s]? with
   |none=>simp[hs]at h
   |some ob=>
    cases ob with
    |none=>simp[hs]at h
    |some cs=>
     simp only[hs]at h
     split at h
     ·rename_i hh
      obtain⟨hl,hle,mP⟩:=hh
      simp only[Option.some.injEq,Prod.mk.injEq]at h
      obtain⟨rfl,rfl⟩:=h
      obtain⟨s1,vs,s2,s3,s4,s5⟩:=src m ys rfl hl (min m n) (Nat.min_le_left _ _)
      obtain⟨cc,ce,hcc,xH,RZ,Wx⟩:=mQ hI hb hp hs
      have hmul:min m n*sz≤n*sz:=Nat.mul_le_mul_right _ (Nat.min_le_right _ _)
      have htl:(ys.take (min m n*sz)).length≤min m n*sz:=by simp;omega
      refine⟨.int .i64 (min m n:Nat),_,.inl ?_,Ef hI hb hp hs hcc (vs:=vs) (ns:=ys.take (min m n*sz)) (o:=off) s3 (by omega) s4 s5 _ _ (fun w'=> .v ..)⟩
      rw[he]
      have hst:=AL (P:=P) (w:=w) (vs:=vs) (o:=off) hcc (by omega) s4
      simp[builtin,Builtin.copy_,hv,run_underlying hty,s1,jk hsz hz,goInt]
      have e1:m.min n=min m n:=rfl
      simp[e1,s2,hst]
     ·cases h
 |_=>simp at h
end
end Go.Vi
end
