/-
  A claim's own text, joined by a small program out of: Vj30, Vj31, Vj32, Vj33, Vj35, Vj36, Vj38, VjY.
-/
import Derived.Test.YtodollbkpkpklaaGreatY1
import Derived.Laws.IdiomArrays
set_option linter.unusedVariables false
set_option linter.unusedSimpArgs false
section
namespace Go.Vi
open Go
def Ev(E:Env)(f:FuncId)(args:List T)(r:T):Prop:=∃n,aV E n f args=some r
def Wp(E:Env)(c:IC)(σ:St)(Q:Out→Prop):Prop:=∃n o,exec (aV E n) n c σ=some o∧Q o
def nC(E:Env)(ops:List (Option (Nat×Bool)×IOp))(σ:St)(K:St→Prop):Prop:=∃n σ',eZ (aV E n) σ ops=some σ'∧K σ'
def mh(E:Env)(o:IOp)(σ:St)(K:T→St→Prop):Prop:=∃n p,ae (aV E n) σ o=some p∧K p.1 p.2
def C0:lg:=fun _ _=>none
def z8(K:St→Prop)(Q:Out→Prop):Out→Prop
 | .norm σ=>K σ
 | .exit j σ=>Q (.exit j σ)
 | .ret σ=>Q (.ret σ)
def EZ(id:Nat)(Q:Out→Prop):Out→Prop
 | .norm σ=>Q (.norm σ)
 | .exit j σ=>if j=id then Q (.norm σ)else Q (.exit j σ)
 | .ret σ=>Q (.ret σ)
def BK(Q:Out→Prop):Out→Prop
 | .norm σ=>Q (.norm σ)
 | .exit j σ=>if j< cE then Q (.exit j σ)else False
 | .ret σ=>Q (.ret σ)
def abJ(R:St→Prop):Out→Prop
 | .norm σ=>R σ
 | .exit _ _=>False
 | .ret σ=>R σ
theorem thenK_norm(K Q σ):z8 K Q (.norm σ)=K σ:=rfl
theorem thenK_exit(K Q j σ):z8 K Q (.exit j σ)=Q (.exit j σ):=rfl
theorem thenK_ret(K Q σ):z8 K Q (.ret σ)=Q (.ret σ):=rfl
theorem blockK_norm(id Q σ):EZ id Q (.norm σ)=Q (.norm σ):=rfl
theorem blockK_exit(id Q j σ):EZ id Q (.exit j σ)=if j=id then Q (.norm σ)else Q (.exit j σ):=rfl
theorem blockK_ret(id Q σ):EZ id Q (.ret σ)=Q (.ret σ):=rfl
theorem nojumpK_norm(Q σ):BK Q (.norm σ)=Q (.norm σ):=rfl
theorem nojumpK_exit(Q j σ):BK Q (.exit j σ)=if j< cE then Q (.exit j σ)else False:=rfl
theorem nojumpK_ret(Q σ):BK Q (.ret σ)=Q (.ret σ):=rfl
theorem retK_norm(R σ):abJ R (.norm σ)=R σ:=rfl
theorem retK_ret(R σ):abJ R (.ret σ)=R σ:=rfl
section
variable{E:Env}{Q:Out→Prop}{σ:St}
theorem wp_skip:Wp E .skip σ Q=Q (.norm σ):=propext ⟨fun⟨n,o,h,q⟩=>by simp only[exec,Option.some.injEq]at h;exact h▸q,fun q=>⟨0,_,rfl,q⟩⟩
theorem wp_ret:Wp E .ret σ Q=Q (.ret σ):=propext ⟨fun⟨n,o,h,q⟩=>by simp only[exec,Option.some.injEq]at h;exact h▸q,fun q=>⟨0,_,rfl,q⟩⟩
theorem wp_exit(id:Nat):Wp E (.exit id) σ Q=Q (.exit id σ):=propext ⟨fun⟨n,o,h,q⟩=>by simp only[exec,Option.some.injEq]at h;exact h▸q,fun q=>⟨0,_,rfl,q⟩⟩
theorem Sp(vs:List Nat):Wp E (.kill vs) σ Q=Q (.norm {σ with vars:=er vs σ.vars}):=propext ⟨fun⟨n,o,h,q⟩=>by simp only[exec,Option.some.injEq]at h;exact h▸q,fun q=>⟨0,_,rfl,q⟩⟩
theorem le_max(E:Env)(n m:Nat):Le (aV E n) (aV E (max n m))∧Le (aV E m) (aV E (max n m)):=⟨ef (Nat.le_max_left ..),ef (Nat.le_max_right ..)⟩
theorem wp_seq(a b:IC):Wp E (.seq a b) σ Q=Wp E a σ (z8 (fun σ'=>Wp E b σ' Q) Q):=propext ⟨fun⟨n,o,h,q⟩=>by
  simp only[exec]at h
  cases ha:exec (aV E n) n a σ with
  |none=>rw[ha]at h;cases h
  |some x=>
   rw[ha]at h
   refine⟨n,x,ha, ?_⟩
   cases x with
   |norm σ'=>exact⟨n,o,h,q⟩
   |exit j σ'=>simp only[Option.some.injEq]at h;subst h;exact q
   |ret σ'=>simp only[Option.some.injEq]at h;subst h;exact q,
 fun⟨n,x,h,q⟩=>by
  cases x with
  |norm σ'=>
   obtain⟨m,o,h2,q2⟩:=q
   refine⟨max n m,o, ?_,q2⟩
   simp only[exec,cC (le_max E n m).1 (Nat.le_max_left n m) h]
   exact cC (le_max E n m).2 (Nat.le_max_right n m) h2
  |exit j σ'=>exact⟨n,_,by simp only[exec,h],q⟩
  |ret σ'=>exact⟨n,_,by simp only[exec,h],q⟩⟩
theorem Re{c:ag}{t:Bool}(a b:IC)(hc:c.get σ= .v (.bool t)):Wp E (.cond c a b) σ Q=if t=true then Wp E a σ Q else Wp E b σ Q:=by
 unfold Wp
 simp only[exec,hc]
 cases t<;>rfl
theorem wp_block(id:Nat)(a:IC):Wp E (.block id a) σ Q=Wp E a σ (EZ id Q):=propext ⟨fun⟨n,o,h,q⟩=>by
  simp only[exec]at h
  cases ha:exec (aV E n) n a σ with
  |none=>rw[ha]at h;cases h
  |some x=>
   rw[ha]at h
   refine⟨n,x,ha, ?_⟩
   cases x with
   |norm σ'=>simp only[Option.some.injEq]at h;subst h;exact q
   |exit j σ'=>
    simp only at h
    rw[blockK_exit]
    split at h<;>(simp only[Option.some.injEq]at h;subst h)
    ·rw[if_pos (by assumption)];exact q
    ·rw[if_neg (by assumption)];exact q
   |ret σ'=>simp only[Option.some.injEq]at h;subst h;exact q,
 fun⟨n,x,h,q⟩=>by
  cases x with
  |norm σ'=>exact⟨n,_,by simp only[exec,h],q⟩
  |exit j σ'=>
   rw[blockK_exit]at q
   split at q
   ·rename_i hj;exact⟨n,_,by simp only[exec,h,if_pos hj],q⟩
   ·rename_i hj;exact⟨n,_,by simp only[exec,h,if_neg hj],q⟩
  |ret σ'=>exact⟨n,_,by simp only[exec,h],q⟩⟩
theorem Xz(a:IC)(h:Wp E a σ (BK Q)):Wp E (.kT a) σ Q:=by
 obtain⟨n,x,h,q⟩:=h
 cases x with
 |norm σ'=>exact⟨n,_,by simp only[exec,h],q⟩
 |exit j σ'=>
  rw[nojumpK_exit]at q
  split at q
  ·rename_i hj;exact⟨n,_,by simp only[exec,h,if_pos hj],q⟩
  ·cases q
 |ret σ'=>exact⟨n,_,by simp only[exec,h],q⟩
theorem wp_loop(a:IC)(h:Wp E a σ (z8 (fun σ'=>Wp E (.loop a) σ' Q) Q)):Wp E (.loop a) σ Q:=by
 obtain⟨n,x,h,q⟩:=h
 cases x with
 |norm σ'=>
  obtain⟨m,o,h2,q2⟩:=q
  refine⟨max n m+1,o, ?_,q2⟩
  simp only[exec,pv]at h2⊢
  have hle:Le (aV E n) (aV E (max n m+1)):=ef (by omega)
  have abK:Le (aV E m) (aV E (max n m+1)):=ef (by omega)
  rw[cC hle (by omega) h]
  exact Cp (fun σ o=>cC abK (by omega)) (by omega) h2
 |exit j σ'=>
  refine⟨n+1,_, ?_,q⟩
  simp only[exec,pv]
  rw[cC (ef (Nat.le_succ n)) (Nat.le_succ n) h]
 |ret σ'=>
  refine⟨n+1,_, ?_,q⟩
  simp only[exec,pv]
  rw[cC (ef (Nat.le_succ n)) (Nat.le_succ n) h]
theorem XA(r:RF):Wp E (.A5 r) σ Q=nC E r.ops {σ with rs:=[]} fun σ'=>Q (.norm ⟨[],fJ σ'.rs σ'.vars r.outs,σ'.boxes⟩):=propext ⟨fun⟨n,o,h,q⟩=>by
  simp only[exec,wA,Option.bind_eq_bind]at h
  obtain⟨s,h1,h2⟩:=Option.map_eq_some_iff.1 h
  obtain⟨s0,h3,h4⟩:=Option.bind_eq_some_iff.1 h1
  simp only[Option.some.injEq]at h4
  subst h2 h4
  exact⟨n,s0,h3,q⟩,
 fun⟨n,s,h,q⟩=>⟨n,_,by simp only[exec,wA,Option.bind_eq_bind,h,Option.bind_some,Option.map_some],q⟩⟩
variable{K:St→Prop}{K2:T→St→Prop}
theorem LR:nC E [] σ K=K σ:=propext ⟨fun⟨n,o,h,q⟩=>by simp only[eZ,Option.some.injEq]at h;exact h▸q,fun q=>⟨0,_,rfl,q⟩⟩
theorem OH(o:IOp)(rest:List (Option (Nat×Bool)×IOp)){g:Option (Nat×Bool)}(hg:bU σ.rs g=some true):
  nC E ((g,o)::rest) σ K=mh E o σ fun t σ'=>nC E rest {σ' with rs:=σ'.rs++[t]} K:=propext ⟨fun⟨n,s,h,q⟩=>by
  simp only[eZ,hg,Option.bind_some,if_true]at h
  obtain⟨p,h1,h2⟩:=Option.bind_eq_some_iff.1 h
  exact⟨n,p,h1,n,s,h2,q⟩,
 fun⟨n,p,h1,m,s,h2,q⟩=>⟨max n m,s,by
  simp only[eZ,hg,Option.bind_some,if_true,Co (le_max E n m).1 h1]
  exact wh (le_max E n m).2 h2,q⟩⟩
theorem IQ(o:IOp)(rest:List (Option (Nat×Bool)×IOp)){g:Option (Nat×Bool)}(hg:bU σ.rs g=some false):
  nC E ((g,o)::rest) σ K=nC E rest {σ with rs:=σ.rs++[T.bJ]} K:=by
 unfold nC
 simp only[eZ,hg,Option.bind_some,Bool.false_eq_true,if_false]
theorem Uu(o:IOp)(rest:List (Option (Nat×Bool)×IOp)):nC E ((none,o)::rest) σ K=mh E o σ fun t σ'=>nC E rest {σ' with rs:=σ'.rs++[t]} K:=OH o rest rfl
theorem ai9{f:FuncId}{args:List T}{r:T}{fn:aC}(hp:E.kF f=none)(hf:f< an)(pZ:E.fn f=some fn)(hs:fn.split=false)(hl:args.length=fn.nparams)
  (h:Wp E fn.body ⟨[],args++List.replicate (fn.kj-fn.nparams) .undef,List.replicate (2*fn.eK) none⟩ (abJ fun σ=>(c9 σ fn.results fn.canon).bind (kp σ.boxes)=some r)):Ev E f args r:=by
 obtain⟨n,o,h1,h2⟩:=h
 refine⟨n+1, ?_⟩
 simp only[aV,hp,if_pos hf,pZ,jd,hs,Bool.false_eq_true,if_false,sK,if_pos hl,h1]
 cases o with
 |norm σ=>exact h2
 |exit j σ=>exact h2.elim
 |ret σ=>exact h2
end
end Go.Vi
end
section
namespace Go.Vi
open Go
def dp{α:Type}(o:Option α)(k:α→Prop):Prop:=∃a,o=some a∧k a
theorem bc{α:Type}(a:α)(k:α→Prop):dp (some a) k=k a:=propext ⟨fun⟨_,h,q⟩=>by cases h;exact q,fun q=>⟨a,rfl,q⟩⟩
theorem aW{α:Type}(k:α→Prop):dp none k=False:=by unfold dp;simp
theorem lX{α γ:Type}(f:α→γ)(o:Option α)(k:γ→Prop):dp (o.map f) k=dp o fun x=>k (f x):=propext ⟨fun⟨a,h,q⟩=>by
 obtain⟨b,hb,rfl⟩:=Option.map_eq_some_iff.1 h;exact⟨b,hb,q⟩,fun⟨b,hb,q⟩=>⟨f b,by rw[hb];rfl,q⟩⟩
theorem XB{α γ:Type}(f:α→Option γ)(o:Option α)(k:γ→Prop):dp (o.bind f) k=dp o fun x=>dp (f x) k:=propext ⟨fun⟨a,h,q⟩=>by
 obtain⟨b,hb,h2⟩:=Option.bind_eq_some_iff.1 h;exact⟨b,hb,a,h2,q⟩,fun⟨b,hb,a,h2,q⟩=>⟨a,by rw[hb];exact h2,q⟩⟩
theorem tz{α:Type}(c:Prop)[Decidable c](x:Option α)(k:α→Prop):dp (if c then x else none) k=(c∧dp x k):=by
 by_cases h:c<;>simp[h,aW]
theorem GY{α:Type}(p:α→Bool)(o:Option α)(k:α→Prop):dp (o.filter p) k=dp o fun x=>p x=true∧k x:=by
 cases o with
 |none=>simp[aW,Option.filter]
 |some a=>by_cases h:p a=true<;>simp[Option.filter,h,aW,bc]
def M6(t:T)(A B:Prop):Prop:=match t with
 | .v (.bool t)=>if t=true then A else B
 |_=>False
def zn(o:Option T)(w:Bool)(A B:Prop):Prop:=match o with
 |some (.v (.bool b))=>if(b==w)=true then A else B
 |some (.v (.tuple _))=>B
 |_=>False
theorem Kk(w:Bool)(A B:Prop):zn (some T.bJ) w A B=B:=rfl
def nth:List T→Nat→T
 | [],_=> .undef
 |t::_,0=>t
 |_::ts,n+1=>nth ts n
theorem CJ:∀(l:List T) (i:Nat),l.getD i .undef=nth l i
 | [],i=>by simp[nth]
 |t::ts,0=>by simp[nth]
 |t::ts,i+1=>by simp only[List.getD_cons_succ,nth,CJ ts i]
theorem abL(t:T)(ts:List T):nth (t::ts) 0=t:=rfl
theorem abM(t:T)(ts:List T)(n:Nat):nth (t::ts) (n+1)=nth ts n:=rfl
def cp:List T→Nat→Option T
 | [],_=>none
 |t::_,0=>some t
 |_::ts,n+1=>cp ts n
theorem np:∀(l:List T) (i:Nat),l[i]? =cp l i
 | [],i=>by simp[cp]
 |t::ts,0=>by simp[cp]
 |t::ts,i+1=>by simp only[List.getElem?_cons_succ,cp,np ts i]
theorem abN(n:Nat):cp [] n=none:=rfl
theorem XC(t:T)(ts:List T):cp (t::ts) 0=some t:=rfl
theorem XD(t:T)(ts:List T)(n:Nat):cp (t::ts) (n+1)=cp ts n:=rfl
def snoc:List T→T→List T
 | [],t=>[t]
 |a::l,t=>a::snoc l t
theorem vH:∀(l:List T) (t:T),l++[t]=snoc l t
 | [],t=>rfl
 |a::l,t=>by rw[List.cons_append,vH l t];rfl
theorem abO(t:T):snoc [] t=[t]:=rfl
theorem XE(a t:T)(l:List T):snoc (a::l) t=a::snoc l t:=rfl
def gd:List (Option (List T))→Nat→Bool
 | [],_=>false
 |none::_,0=>true
 |some _::_,0=>false
 |_::l,n+1=>gd l n
theorem qA:∀(bx:List (Option (List T))) (s:Nat),(bx[s]? =some none)=(gd bx s=true)
 | [],s=>by simp[gd]
 |none::l,0=>by simp[gd]
 |some _::l,0=>by simp[gd]
 |none::l,s+1=>by simp only[List.getElem?_cons_succ,gd,qA l s]
 |some _::l,s+1=>by simp only[List.getElem?_cons_succ,gd,qA l s]
theorem OI(s:Nat):gd [] s=false:=by cases s<;>rfl
theorem MV(l:List (Option (List T))):gd (none::l) 0=true:=rfl
theorem MW(cs:List T)(l:List (Option (List T))):gd (some cs::l) 0=false:=rfl
theorem MX(o:Option (List T))(l:List (Option (List T)))(n:Nat):gd (o::l) (n+1)=gd l n:=by cases o<;>rfl
theorem XF(s:Nat):ai [] s=none:=rfl
theorem Uv(o:Option (List T))(l:List (Option (List T))):ai (o::l) 0=o:=rfl
theorem Uw(o:Option (List T))(l:List (Option (List T)))(n:Nat):ai (o::l) (n+1)=ai l n:=rfl
theorem aja(rs vars:List T)(bx:List (Option (List T)))(i:Nat):ag.get ⟨rs,vars,bx⟩ (.r i)=nth rs i:=CJ rs i
theorem ajb(rs vars:List T)(bx:List (Option (List T)))(i:Nat):ag.get ⟨rs,vars,bx⟩ (.x i)=nth vars i:=CJ vars i
theorem ajc(σ:St)(t:T):ag.get σ (.c t)=t:=rfl
section
variable{E:Env}{Q:Out→Prop}{σ:St}{K:St→Prop}{K2:T→St→Prop}
theorem wp_cond(c:ag)(a b:IC):Wp E (.cond c a b) σ Q=M6 (c.get σ) (Wp E a σ Q) (Wp E b σ Q):=by
 cases hc:c.get σ with
 |v x=>
  cases x with
  |bool t=>rw[Re a b hc];rfl
  |_=>simp only[M6];exact propext ⟨fun⟨n,o,h,q⟩=>by simp[exec,hc]at h,fun h=>h.elim⟩
 |_=>simp only[M6];exact propext ⟨fun⟨n,o,h,q⟩=>by simp[exec,hc]at h,fun h=>h.elim⟩
theorem eu(o:IOp)(rest:List (Option (Nat×Bool)×IOp)):nC E ((none,o)::rest) σ K=mh E o σ fun t σ'=>nC E rest {σ' with rs:=snoc σ'.rs t} K:=by
 simp only[←vH];exact Uu o rest
theorem CK(ss:List Nat):Wp E (.free ss) σ Q=dp (cB ss σ) fun σ'=>Q (.norm σ'):=propext ⟨fun⟨n,o,h,q⟩=>by
 simp only[exec]at h
 obtain⟨s,h1,rfl⟩:=Option.map_eq_some_iff.1 h
 exact⟨s,h1,q⟩,fun⟨s,h,q⟩=>⟨0,_,by simp only[exec,h,Option.map_some],q⟩⟩
theorem IS(j:Nat)(w:Bool)(o:IOp)(rest:List (Option (Nat×Bool)×IOp)):
  nC E ((some (j,w),o)::rest) σ K=zn (cp σ.rs j) w (mh E o σ fun t σ'=>nC E rest {σ' with rs:=snoc σ'.rs t} K) (nC E rest {σ with rs:=snoc σ.rs T.bJ} K):=by
 rw[←np]
 simp only[←vH]
 unfold zn
 split
 ·rename_i b hb
  split
  ·rename_i h;exact OH o rest (by simp only[bU,hb];rw[h])
  ·rename_i h
   refine IQ o rest ?_
   simp only[bU,hb]
   simpa using h
 ·rename_i hb;exact IQ o rest (by simp only[bU,hb])
 ·rename_i h1 h2
  have:bU σ.rs (some (j,w))=none:=by
   unfold bU
   simp only
   try
    split
    ·rename_i b hb;exact absurd hb (h1 b)
    ·rename_i b hb;exact absurd hb (h2 b)
    ·rfl
  exact propext ⟨fun⟨n,s,h,q⟩=>by simp[eZ,this]at h,fun h=>h.elim⟩
def IOp.Aa:IOp→Bool
 | .call ..| .callv ..| .callnew ..| .callio ..| .callvio ..=>false
 |_=>true
theorem yc{o:IOp}(h:o.Aa=true)(C C':lg):ae C σ o=ae C' σ o:=by
 cases o<;>first|rfl|cases h
theorem eh{o:IOp}(h:o.Aa=true):mh E o σ K2=dp (ae C0 σ o) fun p=>K2 p.1 p.2:=propext ⟨fun⟨n,p,h1,q⟩=>⟨p,by rw[yc h C0 (aV E n)];exact h1,q⟩,fun⟨p,h1,q⟩=>⟨0,p,by rw[yc h _ C0];exact h1,q⟩⟩
theorem aeD(a:ag):mh E (.mv a) σ K2=K2 (a.get σ) σ:=by rw[eh rfl];exact bc _ _
def Ux(c a b:T)(k:T→Prop):Prop:=match c with
 | .v (.bool t)=>k (if t=true then a else b)
 |_=>False
theorem Uy(t:Bool)(a b:T)(k:T→Prop):Ux (.v (.bool t)) a b k=k (if t=true then a else b):=rfl
theorem XG(c a b:ag):mh E (.pick c a b) σ K2=Ux (c.get σ) (a.get σ) (b.get σ) fun t=>K2 t σ:=by
 rw[eh rfl]
 simp only[ae,Ux]
 generalize ag.get σ c=t
 cases t<;>try exact aW _
 rename_i x
 cases x<;>first|exact aW _|exact bc _ _
theorem abP(op:BinOp)(t:TypeId)(a b:ag):mh E (.bin op t a b) σ K2=dp (bM op t (a.get σ) (b.get σ)) fun r=>K2 r σ:=by rw[eh rfl];exact lX _ _ _
def abQ(neg:Bool)(a b:T)(k:T→Prop):Prop:=match a,b with
 | .v (.bool x),.v (.bool y)=>k (T.bool ((x==y) !=neg))
 |_,_=>False
theorem XH(neg x y:Bool)(k:T→Prop):abQ neg (.v (.bool x)) (.v (.bool y)) k=k (.v (.bool ((x==y) !=neg))):=rfl
theorem abR(neg:Bool)(a b:ag):mh E (.eqb neg a b) σ K2=abQ neg (a.get σ) (b.get σ) fun t=>K2 t σ:=by
 rw[eh rfl]
 simp only[ae,abQ]
 generalize ag.get σ a=t
 generalize ag.get σ b=u
 cases t<;>try exact aW _
 rename_i x
 cases x<;>try exact aW _
 cases u<;>try exact aW _
 rename_i y
 cases y<;>first|exact aW _|exact bc _ _
theorem IT(zero:List T)(parts:List (Nat×Nat×ag)):mh E (.build zero parts) σ K2=dp (df (ag.get σ) zero parts) fun cs=>K2 (.agg cs) σ:=by rw[eh rfl];exact lX _ _ _
def OJ(isAgg:Bool)(off n:Nat)(a:T)(k:T→Prop):Prop:=match a with
 | .agg cs=>dp (one? isAgg n cs off) k
 |_=>False
theorem Uz(isAgg:Bool)(off n:Nat)(cs:List T)(k:T→Prop):OJ isAgg off n (.agg cs) k=dp (one? isAgg n cs off) k:=rfl
theorem UA(isAgg:Bool)(off n:Nat)(a:ag):mh E (.field isAgg off n a) σ K2=OJ isAgg off n (a.get σ) fun t=>K2 t σ:=by
 rw[eh rfl]
 simp only[ae,OJ]
 generalize ag.get σ a=t
 cases t<;>first|exact aW _|exact lX _ _ _
def BL(a i:T)(k:T→Prop):Prop:=match a,i with
 | .v (.string s),.v (.int _ j)=>0≤j∧dp s.data[j.toNat]? fun b=>k (.u8 b.toNat)
 |_,_=>False
theorem Rf(s:ByteArray)(kd:IntKind)(j:Int)(k:T→Prop):BL (.v (.string s)) (.v (.int kd j)) k=(0≤j∧dp s.data[j.toNat]? fun b=>k (.v (.int .u8 b.toNat))):=rfl
theorem Rg(a i:ag):mh E (.indexS a i) σ K2=BL (a.get σ) (i.get σ) fun t=>K2 t σ:=by
 rw[eh rfl]
 simp only[ae]
 cases ha:a.get σ with
 |v x=>
  cases x with
  |string s=>
   cases hi:i.get σ with
   |v y=>
    cases y with
    |int kd j=>
     simp only[asNat,BL]
     by_cases h:0≤j
     ·simp only[h,if_true,lX,true_and]
     ·simp[h,aW]
    |_=>exact aW _
   |_=>exact aW _
  |_=>simp only[BL];exact aW _
 |_=>simp only[BL];exact aW _
def HE(a:T)(i:Nat)(k:T→Prop):Prop:=match a with
 | .al ts=>dp (cp ts i) k
 |_=>False
theorem OK(ts:List T)(i:Nat)(k:T→Prop):HE (.al ts) i k=dp (cp ts i) k:=rfl
theorem OL(a:ag)(i:Nat):mh E (.extract a i) σ K2=HE (a.get σ) i fun t=>K2 t σ:=by
 rw[eh rfl]
 simp only[ae,HE,←np]
 generalize ag.get σ a=t
 cases t<;>first|exact aW _|exact lX _ _ _
def E1(bx:List (Option (List T)))(s:Nat)(cs:List T)(k:List (Option (List T))→Prop):Prop:=gd bx s=true∧s%2=0∧k (bx.set s (some cs))
theorem IU(s:Nat)(zero:List T):mh E (.alloc s zero) σ K2=E1 σ.boxes s zero fun bx=>K2 (.ref s 0) {σ with boxes:=bx}:=by
 rw[eh rfl]
 simp only[ae,E1,←qA]
 split
 ·rename_i h
  rw[h,tz,bc]
  simp
 ·rename_i h
  rw[aW]
  simp only[eq_iff_iff,false_iff,not_and]
  exact fun h'=>absurd h' h
def mY(t:T)(k:List T→Prop):Prop:=dp (cellsOf t) k
theorem UB(cs:List T)(k:List T→Prop):mY (.agg cs) k=k cs:=bc _ _
theorem abS(x:Value)(k:List T→Prop):mY (.v x) k=k [.v x]:=bc _ _
theorem XI(g:Tag)(n:Nat)(cs:List T)(k:List T→Prop):mY (.sl g n cs) k=k [.sl g n cs]:=bc _ _
theorem UC(s o n c:Nat)(k:List T→Prop):mY (.au s o n c) k=k [.au s o n c]:=bc _ _
theorem UD(s o:Nat)(k:List T→Prop):mY (.ref s o) k=k [.ref s o]:=bc _ _
theorem Rh(s:Nat)(k:List T→Prop):mY (.aQ s) k=k [.aQ s]:=bc _ _
theorem UE(f:Fn)(a b:List T)(k:List T→Prop):mY (.bq f a b) k=k [.bq f a b]:=bc _ _
theorem UF(cs:List T)(o:Nat)(k:List T→Prop):mY (.ptr cs o) k=k [.ptr cs o]:=bc _ _
theorem OM(s:Nat)(a:ag):mh E (.box s a) σ K2=mY (a.get σ) fun cs=>cs.all T.one=true∧E1 σ.boxes s cs fun bx=>K2 (.ref s 0) {σ with boxes:=bx}:=by
 rw[eh rfl]
 simp only[ae,mY]
 cases hc:cellsOf (a.get σ)with
 |none=>rw[aW];split<;>simp_all [aW]
 |some cs=>
  simp only[bc,E1,←qA]
  split
  ·rename_i h1 h2
   simp only[Option.some.injEq]at h2
   subst h2
   rw[h1,tz,bc]
   simp[and_assoc]
  ·rename_i h1
   rw[aW]
   simp only[eq_iff_iff,false_iff,not_and]
   exact fun _ h'=>absurd rfl (h1 _ h')
def M7(bx:List (Option (List T)))(isAgg:Bool)(n:Nat)(a:T)(k:T→Prop):Prop:=match a with
 | .ref s off=>dp (ai bx s) fun cs=>dp (one? isAgg n cs off) k
 | .ptr cs off=>dp (one? isAgg n cs off) fun t=>t.closed=true∧k t
 |_=>False
theorem XJ(bx isAgg n s off k):M7 bx isAgg n (.ref s off) k=dp (ai bx s) fun cs=>dp (one? isAgg n cs off) k:=rfl
theorem XK(bx isAgg n cs off k):M7 bx isAgg n (.ptr cs off) k=dp (one? isAgg n cs off) fun t=>t.closed=true∧k t:=rfl
theorem XL(isAgg:Bool)(n:Nat)(a:ag):mh E (.load isAgg n a) σ K2=M7 σ.boxes isAgg n (a.get σ) fun t=>K2 t σ:=by
 rw[eh rfl]
 simp only[ae,M7]
 generalize ag.get σ a=t
 cases t<;>try exact aW _
 ·rename_i cs off
  show dp (((one? isAgg n cs off).filter T.closed).map _) _=_
  rw[lX,GY]
 ·rename_i s off
  show dp (match σ.boxes[s]? with|some (some cs)=>(one? isAgg n cs off).map (·,σ)|_=>none) _=dp (ai σ.boxes s) fun cs=>dp (one? isAgg n cs off) fun t=>K2 t σ
  unfold ai
  cases hb:σ.boxes[s]? with
  |none=>simp only[Option.join_none,aW]
  |some o=>cases o with
   |none=>simp only[Option.join_some,aW]
   |some cs=>simp only[Option.join_some,bc];exact lX _ _ _
def E2(bx:List (Option (List T)))(n:Nat)(a:T)(ns:List T)(k:List (Option (List T))→Prop):Prop:=match a with
 | .ref s off=>dp (ai bx s) fun cs=>ns.length=n∧off+n≤cs.length∧ns.all T.one=true∧k (bx.set s (some (setCells cs off ns)))
 |_=>False
theorem UG(bx n s off ns k):E2 bx n (.ref s off) ns k=dp (ai bx s) fun cs=>ns.length=n∧off+n≤cs.length∧ns.all T.one=true∧k (bx.set s (some (setCells cs off ns))):=rfl
theorem IV(n:Nat)(a b:ag):mh E (.store n a b) σ K2=mY (b.get σ) fun ns=>E2 σ.boxes n (a.get σ) ns fun bx=>K2 .undef {σ with boxes:=bx}:=by
 rw[eh rfl]
 simp only[ae,mY]
 cases hc:cellsOf (b.get σ)with
 |none=>rw[aW];split<;>simp_all [aW]
 |some ns=>
  simp only[bc]
  cases ha:a.get σ with
  |ref s off=>
   simp only[E2]
   cases hb:σ.boxes[s]? with
   |none=>simp only[aW,ai,hb,Option.join_none]
   |some o=>cases o with
    |none=>simp only[aW,ai,hb,Option.join_some]
    |some cs=>simp only[ai,hb,Option.join_some,tz,bc,and_assoc]
  |_=>simp only[E2,aW]
def IW(off:Nat)(a:T)(k:T→Prop):Prop:=match a with
 | .ref s o=>k (.ref s (o+off))
 | .ptr cs o=>k (.ptr cs (o+off))
 |_=>False
theorem UH(off s o k):IW off (.ref s o) k=k (.ref s (o+off)):=rfl
theorem UI(off cs o k):IW off (.ptr cs o) k=k (.ptr cs (o+off)):=rfl
theorem UJ(off:Nat)(a:ag):mh E (.faddr off a) σ K2=IW off (a.get σ) fun t=>K2 t σ:=by
 rw[eh rfl]
 simp only[ae,IW]
 generalize ag.get σ a=t
 cases t<;>first|exact aW _|exact bc _ _
def BM(len sz:Nat)(a i:T)(k:T→Prop):Prop:=match a,i with
 | .ref s o,.v (.int _ j)=>0≤j∧j.toNat< len∧k (.ref s (o+j.toNat*sz))
 | .ptr cs o,.v (.int _ j)=>0≤j∧j.toNat< len∧k (.ptr cs (o+j.toNat*sz))
 |_,_=>False
theorem Ri(len sz s o kd j k):BM len sz (.ref s o) (.v (.int kd j)) k=(0≤j∧j.toNat< len∧k (.ref s (o+j.toNat*sz))):=rfl
theorem Rj(len sz cs o kd j k):BM len sz (.ptr cs o) (.v (.int kd j)) k=(0≤j∧j.toNat< len∧k (.ptr cs (o+j.toNat*sz))):=rfl
theorem GZ(t:T):(∃kd j,t= .v (.int kd j)∧0≤j∧asNat t=some j.toNat)∨(asNat t=none∧∀kd j,t= .v (.int kd j)→¬0≤j):=by
 cases t with
 |v x=>cases x with
  |int kd j=>
   by_cases h:0≤j
   ·exact .inl ⟨kd,j,rfl,h,by simp[asNat,h]⟩
   ·exact .inr ⟨by simp[asNat,h],fun kd' j' e=>by cases e;exact h⟩
  |_=>exact .inr ⟨rfl,fun kd j e=>by cases e⟩
 |_=>exact .inr ⟨rfl,fun kd j e=>by cases e⟩
theorem Rk(len sz:Nat)(a i:ag):mh E (.iaddrA len sz a i) σ K2=BM len sz (a.get σ) (i.get σ) fun t=>K2 t σ:=by
 rw[eh rfl]
 simp only[ae]
 rcases GZ (i.get σ)with⟨kd,j,e1,e2,e3⟩|⟨e1,e2⟩
 ·rw[e1]at e3
  cases ha:a.get σ<;>simp only[e1,e3,BM,aW,tz,bc,e2,true_and]
 ·cases ha:a.get σ<;>simp only[e1,aW,BM]
  all_goals
   split<;>simp_all<;>(intros;omega)
def BN(sz:Nat)(a i:T)(k:T→Prop):Prop:=match a,i with
 | .sl _ n cs,.v (.int _ j)=>0≤j∧j.toNat< n∧k (.ptr cs (j.toNat*sz))
 | .au s o n _,.v (.int _ j)=>0≤j∧j.toNat< n∧k (.ref s (o+j.toNat*sz))
 |_,_=>False
theorem UK(sz g n cs kd j k):BN sz (.sl g n cs) (.v (.int kd j)) k=(0≤j∧j.toNat< n∧k (.ptr cs (j.toNat*sz))):=rfl
theorem Rl(sz s o n c kd j k):BN sz (.au s o n c) (.v (.int kd j)) k=(0≤j∧j.toNat< n∧k (.ref s (o+j.toNat*sz))):=rfl
theorem Rm(sz:Nat)(a i:ag):mh E (.iaddrS sz a i) σ K2=BN sz (a.get σ) (i.get σ) fun t=>K2 t σ:=by
 rw[eh rfl]
 simp only[ae]
 rcases GZ (i.get σ)with⟨kd,j,e1,e2,e3⟩|⟨e1,e2⟩
 ·rw[e1]at e3
  cases ha:a.get σ<;>simp only[e1,e3,BN,aW,tz,bc,e2,true_and]
 ·cases ha:a.get σ<;>simp only[e1,aW,BN]
  all_goals
   split<;>simp_all<;>(intros;omega)
theorem abT(str:Bool)(a:ag):mh E (.len str a) σ K2=dp (jE str (a.get σ)) fun t=>K2 t σ:=by rw[eh rfl];exact lX _ _ _
theorem aeE(g n cs):jE false (.sl g n cs)=some (.v (.int .i64 n)):=rfl
theorem abU(s o n c):jE false (.au s o n c)=some (.v (.int .i64 n)):=rfl
theorem cd(s:ByteArray):jE true (.v (.string s))=some (.v (.int .i64 s.size)):=rfl
theorem G0(fn:Fn)(first cap:List ag):mh E (.mkFunc fn first cap) σ K2=K2 (.bq fn (first.map (ag.get σ)) (cap.map (ag.get σ))) σ:=by rw[eh rfl];exact bc _ _
end
theorem yu{x:Int}(h1: -9223372036854775808≤x)(h2:x≤9223372036854775807):IntKind.i64.wrap x=x:=by rw[IntKind.wrap_i64];omega
theorem aeF(t:TypeId)(a b:Int):bM .add t (.v (.int .i64 a)) (.v (.int .i64 b))=some (.v (.int .i64 (IntKind.i64.wrap (a+b)))):=rfl
theorem aeG(t:TypeId)(a b:Int):bM .sub t (.v (.int .i64 a)) (.v (.int .i64 b))=some (.v (.int .i64 (IntKind.i64.wrap (a-b)))):=rfl
theorem aeH(t:TypeId)(a b:Int):bM .mul t (.v (.int .i64 a)) (.v (.int .i64 b))=some (.v (.int .i64 (IntKind.i64.wrap (a*b)))):=rfl
theorem aeI(t:TypeId)(k:IntKind)(a b:Int):bM .lss t (.v (.int k a)) (.v (.int k b))=some (.v (.bool (decide (a< b)))):=by cases k<;>rfl
theorem aeJ(t:TypeId)(k:IntKind)(a b:Int):bM .leq t (.v (.int k a)) (.v (.int k b))=some (.v (.bool (decide (a≤b)))):=by cases k<;>rfl
theorem aeK(t:TypeId)(k:IntKind)(a b:Int):bM .gtr t (.v (.int k a)) (.v (.int k b))=some (.v (.bool (decide (b< a)))):=by cases k<;>rfl
theorem aeL(t:TypeId)(k:IntKind)(a b:Int):bM .geq t (.v (.int k a)) (.v (.int k b))=some (.v (.bool (decide (b≤a)))):=by cases k<;>rfl
theorem aeM(t:TypeId)(k:IntKind)(a b:Int):bM .eql t (.v (.int k a)) (.v (.int k b))=some (.v (.bool (a==b))):=by cases k<;>rfl
theorem aeN(t:TypeId)(k:IntKind)(a b:Int):bM .neq t (.v (.int k a)) (.v (.int k b))=some (.v (.bool (a !=b))):=by cases k<;>rfl
end Go.Vi
end
section
namespace Go.Vi
open Go
attribute [simp] thenK_norm thenK_exit thenK_ret blockK_norm blockK_exit blockK_ret nojumpK_norm nojumpK_exit nojumpK_ret retK_norm retK_ret
 wp_skip wp_ret wp_exit Sp wp_seq wp_block XA wp_cond CK LR eu IS abN XC XD abO XE OI MV MW MX XF Uv Uw
 bc aW lX XB tz GY Kk abL abM aja ajb ajc
 aeD Uy XG abP XH abR IT Uz UA Rf Rg OK OL
 UB abS XI UC UD Rh UE UF IU OM XJ XK XL UG IV UH UI UJ
 Ri Rj Rk UK Rl Rm abT aeE abU cd G0
 aeF aeG aeH aeI aeJ aeK aeL aeM aeN
 er E1 cB
@[simp] theorem aqJ(x:Value):(T.v x).one=x.oneCell':=rfl
@[simp] theorem aqf(g n cs):(T.sl g n cs).one=true:=rfl
@[simp] theorem aps(s o):(T.ref s o).one=true:=rfl
@[simp] theorem apt(s o n c):(T.au s o n c).one=true:=rfl
@[simp] theorem anb(s):(T.aQ s).one=true:=rfl
@[simp] theorem apu(f a b):(T.bq f a b).one=true:=rfl
@[simp] theorem apv(cs o):(T.ptr cs o).one=true:=rfl
@[simp] theorem aqg(k n):(Value.int k n).oneCell'=true:=rfl
@[simp] theorem apw(b):(Value.bool b).oneCell'=true:=rfl
@[simp] theorem aqh(s):(Value.string s).oneCell'=true:=rfl
@[simp] theorem ajd(d:Nat):stripL d []=[]:=by simp only[stripL]
@[simp] theorem aif(d:Nat)(t:T)(ts:List T):stripL d (t::ts)=t.strip d::stripL d ts:=by simp only[stripL]
@[simp] theorem anc(d:Nat)(x:Value):(T.v x).strip d= .v x:=by simp only[T.strip]
@[simp] theorem aih(d:Nat):(T.undef).strip d= .undef:=by simp only[T.strip]
@[simp] theorem afO(d:Nat):T.bJ.strip d=T.bJ:=by simp only[T.strip,T.bJ]
@[simp] theorem aje(d n:Nat)(cs:List T):(T.sl .any n cs).strip d= .sl .any n cs:=by simp only[T.strip]
@[simp] theorem akZ(d n:Nat)(cs:List T):(T.sl .nil n cs).strip d= .sl .nil n cs:=by simp only[T.strip]
@[simp] theorem ajf(d n:Nat)(cs:List T):(T.sl .clip n cs).strip d= .sl .clip n cs:=by simp only[T.strip]
@[simp] theorem ak0(d:Nat)(cs:List T)(o:Nat):(T.ptr cs o).strip d= .ptr cs o:=by simp only[T.strip]
@[simp] theorem ak1(d s o:Nat):(T.ref s o).strip d= .ref s o:=by simp only[T.strip]
@[simp] theorem ak2(d s o n c:Nat):(T.au s o n c).strip d= .au s o n c:=by simp only[T.strip]
@[simp] theorem ajg(d s:Nat):(T.aQ s).strip d= .aQ s:=by simp only[T.strip]
@[simp] theorem ak3(d:Nat)(ts:List T):(T.agg ts).strip d= .agg (stripL d ts):=by simp only[T.strip]
@[simp] theorem ak4(d:Nat)(f:Fn)(a b:List T):(T.bq f a b).strip d= .bq f (stripL d a) (stripL d b):=by simp only[T.strip]
@[simp] theorem ane(d:Nat)(rs vars:List T)(bx:List (Option (List T))):St.strip d ⟨rs,vars,bx⟩=⟨stripL d rs,stripL d vars,bx.map (Option.map (stripL d))⟩:=rfl
@[simp] theorem aii(d:Nat):dz d []=[]:=by simp only[dz]
@[simp] theorem agS(d:Nat)(t:T)(ts:List T):dz d (t::ts)=t.import d::dz d ts:=by simp only[dz]
@[simp] theorem anf(d:Nat)(x:Value):(T.v x).import d= .v x:=by simp only[T.import]
@[simp] theorem ajh(d n:Nat)(cs:List T):(T.sl .any n cs).import d= .sl .any n cs:=by simp only[T.import]
@[simp] theorem aji(d n:Nat)(cs:List T):(T.sl .nil n cs).import d= .sl .nil n cs:=by simp only[T.import]
@[simp] theorem aij(d n:Nat)(cs:List T):(T.sl .clip n cs).import d= .sl .clip n cs:=by simp only[T.import]
@[simp] theorem ajj(d:Nat)(ts:List T):(T.agg ts).import d= .agg (dz d ts):=by simp only[T.import]
@[simp] theorem ajk(d:Nat)(ts:List T):(T.al ts).import d= .al (dz d ts):=by simp only[T.import]
@[simp] theorem ajl(s:Nat):aR s []=true:=by simp only[aR]
@[simp] theorem aik(s:Nat)(t:T)(ts:List T):aR s (t::ts)=(t.ay s&&aR s ts):=by simp only[aR]
@[simp] theorem apx(s:Nat)(x:Value):(T.v x).ay s=true:=by simp only[T.ay]
@[simp] theorem ail(s:Nat):(T.undef).ay s=true:=by simp only[T.ay]
@[simp] theorem ang(s:Nat)(g:Tag)(n:Nat)(cs:List T):(T.sl g n cs).ay s=true:=by simp only[T.ay]
@[simp] theorem ak5(s s' o:Nat):(T.ref s' o).ay s=(s' !=s):=by simp only[T.ay]
@[simp] theorem ak6(s s' o n c:Nat):(T.au s' o n c).ay s=(s' !=s):=by simp only[T.ay]
@[simp] theorem ajm(s s':Nat):(T.aQ s').ay s=(s' !=s):=by simp only[T.ay]
@[simp] theorem ak7(s:Nat)(ts:List T):(T.agg ts).ay s=aR s ts:=by simp only[T.ay]
@[simp] theorem ak8(s:Nat)(f:Fn)(a b:List T):(T.bq f a b).ay s=(aR s a&&aR s b):=by simp only[T.ay]
@[simp] theorem anh(s:Nat)(rs vars:List T)(bx:List (Option (List T))):St.ay s ⟨rs,vars,bx⟩=(aR s rs&&aR s vars&&bx.all fun o=>match o with|some cs=>aR s cs|none=>true):=rfl
@[simp] theorem aim:aZ []=false:=by simp only[aZ]
@[simp] theorem agT(t:T)(ts:List T):aZ (t::ts)=(t.aU||aZ ts):=by simp only[aZ]
@[simp] theorem ani(x:Value):(T.v x).aU=false:=by simp only[T.aU]
@[simp] theorem agU:(T.undef).aU=false:=by simp only[T.aU]
@[simp] theorem ak9(g:Tag)(n:Nat)(cs:List T):(T.sl g n cs).aU=false:=by simp only[T.aU]
@[simp] theorem ajn(cs:List T)(o:Nat):(T.ptr cs o).aU=false:=by simp only[T.aU]
@[simp] theorem ajo(s o:Nat):(T.ref s o).aU=true:=by simp only[T.aU]
@[simp] theorem ajp(s o n c:Nat):(T.au s o n c).aU=true:=by simp only[T.aU]
@[simp] theorem ajq(ts:List T):(T.agg ts).aU=aZ ts:=by simp only[T.aU]
@[simp] theorem ajr(ts:List T):(T.al ts).aU=aZ ts:=by simp only[T.aU]
@[simp] theorem ajs(f:Fn)(a b:List T):(T.bq f a b).aU=(aZ a||aZ b):=by simp only[T.aU]
@[simp] theorem ain:bj []=true:=by simp only[bj]
@[simp] theorem agV(t:T)(ts:List T):bj (t::ts)=(t.closed&&bj ts):=by simp only[bj]
@[simp] theorem anj(x:Value):(T.v x).closed=true:=by simp only[T.closed]
@[simp] theorem agW:(T.undef).closed=true:=by simp only[T.closed]
@[simp] theorem ajt(n:Nat)(cs:List T):(T.sl .any n cs).closed=true:=by simp only[T.closed]
@[simp] theorem aju(ts:List T):(T.agg ts).closed=bj ts:=by simp only[T.closed]
section
variable(bx:List (Option (List T)))(k:Nat)
@[simp] theorem apy(x:Value):close bx (k+1) (.v x)=some (.v x):=by simp only[close]
@[simp] theorem aio:close bx (k+1) .undef=some .undef:=by simp only[close]
@[simp] theorem ank(g:Tag)(n:Nat)(cs:List T):close bx (k+1) (.sl g n cs)=some (.sl .any n cs):=by simp only[close]
@[simp] theorem ala(cs:List T)(o:Nat):close bx (k+1) (.ptr cs o)=some (.ptr cs o):=by simp only[close]
@[simp] theorem alb(s o:Nat):close bx (k+1) (.ref s o)=(ai bx s).bind fun cs=>(cs.mapM (close bx k)).map (T.ptr · o):=by
 simp only[close,ai]
 cases bx[s]? with
 |none=>rfl
 |some o=>cases o<;>rfl
@[simp] theorem alc(s o n c:Nat):close bx (k+1) (.au s o n c)=if n=0 then some (.sl .any 0 [])else(ai bx s).bind fun cs=>(((cs.drop o).take c).mapM (close bx k)).map (T.sl .any n ·):=by
 simp only[close,ai]
 split
 ·rfl
 ·cases bx[s]? with
  |none=>rfl
  |some o=>cases o<;>rfl
@[simp] theorem ajv(s:Nat):close bx (k+1) (.aQ s)=some .undef:=by simp only[close]
@[simp] theorem ald(ts:List T):close bx (k+1) (.agg ts)=(ts.mapM (close bx k)).map T.agg:=by simp only[close]
@[simp] theorem ale(ts:List T):close bx (k+1) (.al ts)=(ts.mapM (close bx k)).map T.al:=by simp only[close]
@[simp] theorem alf(f:Fn)(a b:List T):close bx (k+1) (.bq f a b)=(a.mapM (close bx k)).bind fun a=>(b.mapM (close bx k)).map fun b=> .bq f a b:=by
 simp only[close,Option.bind_eq_bind]
 cases a.mapM (close bx k)with
 |none=>rfl
 |some a'=>cases b.mapM (close bx k)<;>rfl
end
@[simp] theorem ajw(i:Nat)(cs:List CM):fU i cs []=[]:=by cases cs<;>rfl
@[simp] theorem aip(i:Nat)(ts:List T):fU i [] ts=ts:=by cases ts<;>rfl
@[simp] theorem ajx(i:Nat)(cs:List CM)(t:T)(ts:List T):fU i (.raw::cs) (t::ts)=t::fU (i+1) cs ts:=rfl
@[simp] theorem anl:gX []=[]:=by simp only[gX]
@[simp] theorem alg(t:T)(ts:List T):gX (t::ts)=t.eO++gX ts:=by simp only[gX]
@[simp] theorem aqi(x:Value):(T.v x).eO=[]:=by simp only[T.eO]
@[simp] theorem ajy:(T.undef).eO=[]:=by simp only[T.eO]
@[simp] theorem anm(k:Nat)(e:TypeId)(n:Nat)(cs:List T):(T.sl (.own k e) n cs).eO=[k]:=by simp only[T.eO]
@[simp] theorem ann(n:Nat)(cs:List T):(T.sl .any n cs).eO=[]:=by simp only[T.eO]
@[simp] theorem ajz(n:Nat)(cs:List T):(T.sl .nil n cs).eO=[]:=by simp only[T.eO]
@[simp] theorem alh(n:Nat)(cs:List T):(T.sl .clip n cs).eO=[]:=by simp only[T.eO]
@[simp] theorem ano(ts:List T):(T.agg ts).eO=gX ts:=by simp only[T.eO]
@[simp] theorem anp(ts:List T):(T.al ts).eO=gX ts:=by simp only[T.eO]
@[simp] theorem ajA(ρ η:Nat→Option Nat):ah ρ η []=[]:=by simp only[ah]
@[simp] theorem aiq(ρ η:Nat→Option Nat)(t:T)(ts:List T):ah ρ η (t::ts)=t.aj ρ η::ah ρ η ts:=by simp only[ah]
@[simp] theorem apz(ρ η:Nat→Option Nat)(x:Value):(T.v x).aj ρ η= .v x:=by simp only[T.aj]
@[simp] theorem air(ρ η:Nat→Option Nat):(T.undef).aj ρ η= .undef:=by simp only[T.aj]
@[simp] theorem ali(ρ η:Nat→Option Nat)(n:Nat)(cs:List T):(T.sl .any n cs).aj ρ η= .sl .any n cs:=by simp only[T.aj]
@[simp] theorem ais(ρ η:Nat→Option Nat)(n:Nat)(cs:List T):(T.sl .nil n cs).aj ρ η= .sl .nil n cs:=by simp only[T.aj]
@[simp] theorem ajB(ρ η:Nat→Option Nat)(n:Nat)(cs:List T):(T.sl .clip n cs).aj ρ η= .sl .clip n cs:=by simp only[T.aj]
def E3(o:Option Nat)(f:Nat→T):T:=match o with|some s=>f s|none=> .undef
@[simp] theorem alj(s:Nat)(f:Nat→T):E3 (some s) f=f s:=rfl
@[simp] theorem alk(f:Nat→T):E3 none f= .undef:=rfl
def UL(o:Option Nat)(e:TypeId):Tag:=match o with|some k=> .own k e|none=> .any
@[simp] theorem alm(s:Nat)(e:TypeId):UL (some s) e= .own s e:=rfl
@[simp] theorem aln(e:TypeId):UL none e= .any:=rfl
@[simp] theorem alo(ρ η:Nat→Option Nat)(k:Nat)(e:TypeId)(n:Nat)(cs:List T):(T.sl (.own k e) n cs).aj ρ η= .sl (UL (η k) e) n cs:=by simp only[T.aj,UL];cases η k<;>rfl
@[simp] theorem alp(ρ η:Nat→Option Nat)(ts:List T):(T.agg ts).aj ρ η= .agg (ah ρ η ts):=by simp only[T.aj]
@[simp] theorem alq(ρ η:Nat→Option Nat)(ts:List T):(T.al ts).aj ρ η= .al (ah ρ η ts):=by simp only[T.aj]
@[simp] theorem alr(ρ η:Nat→Option Nat)(s o:Nat):(T.ref s o).aj ρ η=E3 (ρ s) fun s'=> .ref s' o:=by simp only[T.aj,E3];cases ρ s<;>rfl
@[simp] theorem als(ρ η:Nat→Option Nat)(s o n c:Nat):(T.au s o n c).aj ρ η=E3 (ρ s) fun s'=> .au s' o n c:=by simp only[T.aj,E3];cases ρ s<;>rfl
@[simp] theorem ajC(ρ η:Nat→Option Nat)(s:Nat):(T.aQ s).aj ρ η=E3 (ρ s) fun s'=> .aQ s':=by simp only[T.aj,E3];cases ρ s<;>rfl
@[simp] theorem alu(n:Nat)(cs:List T)(off:Nat):one? false n cs off=cp cs off:=np cs off
@[simp] theorem anq(n:Nat)(a:T)(cs:List T)(off:Nat):one? true n (a::cs) off=if off+n≤(a::cs).length then some (.agg (((a::cs).drop off).take n))else none:=rfl
@[simp] theorem afP(a:T)(cs:List T)(off:Nat)(ns:List T):setCells (a::cs) off ns=(a::cs).take off++ns++(a::cs).drop (off+ns.length):=rfl
@[simp] theorem afQ(rs vars:List T)(t:T)(j:Nat)(outs:List (Option Nat)):fJ rs (t::vars) (some j::outs)=nth rs j::fJ rs vars outs:=by simp only[fJ,List.zipWith_cons_cons,CJ]
@[simp] theorem afR(rs vars:List T)(t:T)(outs:List (Option Nat)):fJ rs (t::vars) (none::outs)=t::fJ rs vars outs:=rfl
@[simp] theorem apA(rs vars:List T):fJ rs vars []=[]:=by simp[fJ]
theorem lY{α:Type}{enc:α→List T}{sz:Nat}(h:∀x,(enc x).length=sz):∀l:List α,(l.flatMap enc).length=l.length*sz
 | []=>by simp
 |x::l=>by simp[h,lY h l,Nat.add_mul,Nat.add_comm]
theorem CL{α:Type}{enc:α→List T}{sz:Nat}(h:∀x,(enc x).length=sz):∀(l:List α) (k:Nat) (hk:k< l.length),((l.flatMap enc).drop (k*sz)).take sz=enc l[k]
 | [],k,hk=>by simp at hk
 |x::l,0,hk=>by simp[h x]
 |x::l,k+1,hk=>by
  have:=CL h l k (by simpa using hk)
  have e:(k+1)*sz=(enc x).length+k*sz:=by rw[h x,Nat.add_mul];omega
  rw[List.flatMap_cons,e,←List.drop_drop,List.drop_left' rfl]
  simpa using this
theorem tA{α:Type}{enc:α→List T}{sz:Nat}(h:∀x,(enc x).length=sz)(l:List α)(k:Nat)(hk:k< l.length):one? true sz (l.flatMap enc) (k*sz)=some (.agg (enc l[k])):=by
 have h1:k*sz+sz≤(l.flatMap enc).length:=by rw[lY h,←Nat.succ_mul];exact Nat.mul_le_mul_right sz hk
 simp only[one?,if_true,if_pos h1,CL h l k hk]
theorem G1{E:Env}{Q:Out→Prop}{body:IC}(I:Nat→St→Prop)(n:Nat)(hstep:∀k σ,k≤n→I k σ→Wp E body σ (z8 (fun σ'=>k< n∧I (k+1) σ') Q)):∀(m k:Nat) (σ:St),n-k=m→k≤n→I k σ→Wp E (.loop body) σ Q
 |0,k,σ,hm,hk,hI=>by
  refine wp_loop body ?_
  obtain⟨f,o,h1,h2⟩:=hstep k σ hk hI
  refine⟨f,o,h1, ?_⟩
  cases o with
  |norm σ'=>rw[thenK_norm]at h2;omega
  |exit=>exact h2
  |ret=>exact h2
 |m+1,k,σ,hm,hk,hI=>by
  refine wp_loop body ?_
  obtain⟨f,o,h1,h2⟩:=hstep k σ hk hI
  refine⟨f,o,h1, ?_⟩
  cases o with
  |norm σ'=>
   rw[thenK_norm]at h2⊢
   exact G1 I n hstep m (k+1) σ' (by omega) (by omega) h2.2
  |exit=>exact h2
  |ret=>exact h2
theorem abV{E:Env}{Q:Out→Prop}{body:IC}{σ:St}(n:Nat)(I:Nat→St→Prop)(h0:I 0 σ)(hstep:∀k σ,k≤n→I k σ→Wp E body σ (z8 (fun σ'=>k< n∧I (k+1) σ') Q)):Wp E (.loop body) σ Q:=
 G1 I n hstep n 0 σ (by omega) (by omega) h0
end Go.Vi
end
section
namespace Go.Vi
open Go
def la:T→Prop
 | .v (.bool _)=>True
 | .v (.tuple _)=>True
 |_=>False
def UM:T→Bool→Bool
 | .v (.bool b),w=>b==w
 |_,_=>false
@[simp] theorem anr(b):la (.v (.bool b))=True:=rfl
@[simp] theorem ait:la T.bJ=True:=rfl
@[simp] theorem afS(w):UM T.bJ w=false:=rfl
def Kl:IOp→Bool
 | .mv _| .pick ..| .bin ..| .eqb ..| .eqa ..| .eqnil ..| .un ..| .toInt ..| .field ..| .indexA ..| .indexS ..| .extract ..| .load ..| .faddr ..| .iaddrA ..| .iaddrS ..| .len ..=>true
 |_=>false
def gS(σ:St)(o:IOp):T:=match ae C0 σ o with
 |some p=>p.1
 |none=> .undef
def iX(σ:St)(o:IOp):Prop:=(ae C0 σ o).isSome=true
theorem adh{o:IOp}(h:Kl o=true){C:lg}{σ:St}{p:T×St}(hp:ae C σ o=some p):p.2=σ:=by
 cases o<;>simp only[Kl]at h<;>try(cases h;done)
 all_goals
  simp only[ae]at hp
  repeat' split at hp
  all_goals first
   |(cases hp;rfl)
   |(cases hp;done)
   |(obtain⟨_,_,rfl⟩:=Option.map_eq_some_iff.1 hp;rfl)
theorem Sq{o:IOp}(h:Kl o=true):o.Aa=true:=by cases o<;>first|rfl|cases h
@[simp] def RdK(E:Env)(σ:St)(K:St→Prop)(o:IOp)(j:Nat)(w:Bool)(rest:List (Option (Nat×Bool)×IOp)):Prop:=
 la (nth σ.rs j)∧(if UM (nth σ.rs j) w=true then iX σ o else True)∧nC E rest {σ with rs:=σ.rs++[if UM (nth σ.rs j) w=true then gS σ o else T.bJ]} K
section
variable{E:Env}{σ:St}{K:St→Prop}(j:Nat)(w:Bool)(rest:List (Option (Nat×Bool)×IOp))
end
def qB(o:Option T):T:=o.getD .undef
@[simp] theorem alv(t):qB (some t)=t:=rfl
theorem jK{σ:St}{o:IOp}{r:Option T}(h:ae C0 σ o=r.map (·,σ)):gS σ o=qB r:=by unfold gS;rw[h];cases r<;>rfl
theorem jL{σ:St}{o:IOp}{r:Option T}(h:ae C0 σ o=r.map (·,σ)):iX σ o=(r.isSome=true):=by unfold iX;rw[h];cases r<;>rfl
section
variable(σ:St)
@[simp] theorem agX(a):gS σ (.mv a)=a.get σ:=rfl
@[simp] theorem agY(a):iX σ (.mv a)=True:=eq_true rfl
@[simp] theorem apB(op t a b):gS σ (.bin op t a b)=qB (bM op t (a.get σ) (b.get σ)):=jK rfl
@[simp] theorem apC(op t a b):iX σ (.bin op t a b)=((bM op t (a.get σ) (b.get σ)).isSome=true):=jL rfl
def IX(c a b:T):Option T:=match c with| .v (.bool t)=>some (if t=true then a else b)|_=>none
@[simp] theorem ajD(t a b):IX (.v (.bool t)) a b=some (if t=true then a else b):=rfl
theorem ON(a b c):ae C0 σ (.pick a b c)=(IX (a.get σ) (b.get σ) (c.get σ)).map (·,σ):=by
 simp only[ae,IX]
 generalize ag.get σ a=t
 cases t<;>try rfl
 rename_i x
 cases x<;>rfl
@[simp] theorem ans(a b c):gS σ (.pick a b c)=qB (IX (a.get σ) (b.get σ) (c.get σ)):=jK (ON ..)
@[simp] theorem ant(a b c):iX σ (.pick a b c)=((IX (a.get σ) (b.get σ) (c.get σ)).isSome=true):=jL (ON ..)
def OP(neg:Bool)(a b:T):Option T:=match a,b with| .v (.bool x),.v (.bool y)=>some (T.bool ((x==y) !=neg))|_,_=>none
@[simp] theorem alw(neg x y):OP neg (.v (.bool x)) (.v (.bool y))=some (.v (.bool ((x==y) !=neg))):=rfl
theorem Sr(neg a b):ae C0 σ (.eqb neg a b)=(OP neg (a.get σ) (b.get σ)).map (·,σ):=by
 simp only[ae,OP]
 generalize ag.get σ a=t
 generalize ag.get σ b=u
 cases t<;>try rfl
 rename_i x
 cases x<;>try rfl
 cases u<;>try rfl
 rename_i y
 cases y<;>rfl
@[simp] theorem apD(neg a b):gS σ (.eqb neg a b)=qB (OP neg (a.get σ) (b.get σ)):=jK (Sr ..)
@[simp] theorem apE(neg a b):iX σ (.eqb neg a b)=((OP neg (a.get σ) (b.get σ)).isSome=true):=jL (Sr ..)
def anu(a:T):Option T:=match a with| .v (.bool x)=>some (T.bool (!x))|_=>none
@[simp] theorem alx(x):anu (.v (.bool x))=some (.v (.bool (!x))):=rfl
def XM(op:UnOp)(a:T):Option T:=match a with| .v x=>(gn (Op.unary op x)).map T.v|_=>none
@[simp] theorem apF(x):XM .not (.v (.bool x))=some (.v (.bool (!x))):=rfl
theorem XN(op a):ae C0 σ (.un op a)=(XM op (a.get σ)).map (·,σ):=by
 simp only[ae,XM]
 generalize ag.get σ a=t
 cases t<;>try rfl
 rename_i x
 show Option.map _ _=Option.map _ (Option.map _ _)
 cases gn (Op.unary op x)<;>rfl
@[simp] theorem aqj(op a):gS σ (.un op a)=qB (XM op (a.get σ)):=jK (XN ..)
@[simp] theorem aqk(op a):iX σ (.un op a)=((XM op (a.get σ)).isSome=true):=jL (XN ..)
def agZ(isAgg:Bool)(off n:Nat)(a:T):Option T:=match a with| .agg cs=>one? isAgg n cs off|_=>none
@[simp] theorem ajE(isAgg off n cs):agZ isAgg off n (.agg cs)=one? isAgg n cs off:=rfl
def FY(bx:List (Option (List T)))(isAgg:Bool)(n:Nat)(a:T):Option T:=match a with
 | .ref s off=>(ai bx s).bind fun cs=>one? isAgg n cs off
 | .ptr cs off=>(one? isAgg n cs off).filter T.closed
 |_=>none
@[simp] theorem aly(bx isAgg n s off):FY bx isAgg n (.ref s off)=(ai bx s).bind fun cs=>one? isAgg n cs off:=rfl
@[simp] theorem alz(bx isAgg n cs off):FY bx isAgg n (.ptr cs off)=(one? isAgg n cs off).filter T.closed:=rfl
theorem OQ(isAgg n a):ae C0 σ (.load isAgg n a)=(FY σ.boxes isAgg n (a.get σ)).map (·,σ):=by
 simp only[ae,FY]
 generalize ag.get σ a=t
 cases t<;>try rfl
 rename_i s off
 show(match σ.boxes[s]? with|some (some cs)=>(one? isAgg n cs off).map (·,σ)|_=>none)=Option.map _ ((ai σ.boxes s).bind fun cs=>one? isAgg n cs off)
 unfold ai
 cases σ.boxes[s]? with
 |none=>rfl
 |some o=>cases o<;>rfl
@[simp] theorem anv(isAgg n a):gS σ (.load isAgg n a)=qB (FY σ.boxes isAgg n (a.get σ)):=jK (OQ ..)
@[simp] theorem anw(isAgg n a):iX σ (.load isAgg n a)=((FY σ.boxes isAgg n (a.get σ)).isSome=true):=jL (OQ ..)
def BO(off:Nat)(a:T):Option T:=match a with
 | .ref s o=>some (.ref s (o+off))
 | .ptr cs o=>some (.ptr cs (o+off))
 |_=>none
@[simp] theorem ajF(off s o):BO off (.ref s o)=some (.ref s (o+off)):=rfl
@[simp] theorem ajG(off cs o):BO off (.ptr cs o)=some (.ptr cs (o+off)):=rfl
theorem LS(off a):ae C0 σ (.faddr off a)=(BO off (a.get σ)).map (·,σ):=by
 simp only[ae,BO]
 generalize ag.get σ a=t
 cases t<;>rfl
@[simp] theorem alA(off a):gS σ (.faddr off a)=qB (BO off (a.get σ)):=jK (LS ..)
@[simp] theorem alB(off a):iX σ (.faddr off a)=((BO off (a.get σ)).isSome=true):=jL (LS ..)
@[simp] theorem apG(str a):gS σ (.len str a)=qB (jE str (a.get σ)):=jK rfl
@[simp] theorem apH(str a):iX σ (.len str a)=((jE str (a.get σ)).isSome=true):=jL rfl
def dY(sz:Nat)(a i:T):Option T:=match a,i with
 | .sl _ n cs,.v (.int _ j)=>if 0≤j∧j.toNat< n then some (.ptr cs (j.toNat*sz))else none
 | .au s o n _,.v (.int _ j)=>if 0≤j∧j.toNat< n then some (.ref s (o+j.toNat*sz))else none
 |_,_=>none
@[simp] theorem ajH(sz g n cs kd j):dY sz (.sl g n cs) (.v (.int kd j))=if 0≤j∧j.toNat< n then some (.ptr cs (j.toNat*sz))else none:=rfl
@[simp] theorem aiu(sz s o n c kd j):dY sz (.au s o n c) (.v (.int kd j))=if 0≤j∧j.toNat< n then some (.ref s (o+j.toNat*sz))else none:=rfl
theorem IY(sz a i):ae C0 σ (.iaddrS sz a i)=(dY sz (a.get σ) (i.get σ)).map (·,σ):=by
 simp only[ae,dY]
 generalize ag.get σ a=t
 generalize ag.get σ i=u
 cases t<;>try rfl
 all_goals
  cases u<;>try rfl
  rename_i y
  cases y<;>try rfl
  rename_i n _ kd j
  by_cases h:0≤j<;>simp[asNat,h]<;>split<;>simp_all
@[simp] theorem ajI(sz a i):gS σ (.iaddrS sz a i)=qB (dY sz (a.get σ) (i.get σ)):=jK (IY ..)
@[simp] theorem ajJ(sz a i):iX σ (.iaddrS sz a i)=((dY sz (a.get σ) (i.get σ)).isSome=true):=jL (IY ..)
def yw(len sz:Nat)(a i:T):Option T:=match a,i with
 | .ref s o,.v (.int _ j)=>if 0≤j∧j.toNat< len then some (.ref s (o+j.toNat*sz))else none
 | .ptr cs o,.v (.int _ j)=>if 0≤j∧j.toNat< len then some (.ptr cs (o+j.toNat*sz))else none
 |_,_=>none
@[simp] theorem aiv(len sz s o kd j):yw len sz (.ref s o) (.v (.int kd j))=if 0≤j∧j.toNat< len then some (.ref s (o+j.toNat*sz))else none:=rfl
@[simp] theorem aiw(len sz cs o kd j):yw len sz (.ptr cs o) (.v (.int kd j))=if 0≤j∧j.toNat< len then some (.ptr cs (o+j.toNat*sz))else none:=rfl
theorem IZ(len sz a i):ae C0 σ (.iaddrA len sz a i)=(yw len sz (a.get σ) (i.get σ)).map (·,σ):=by
 simp only[ae,yw]
 generalize ag.get σ a=t
 generalize ag.get σ i=u
 cases t<;>try rfl
 all_goals
  cases u<;>try rfl
  rename_i y
  cases y<;>try rfl
  rename_i kd j
  by_cases h:0≤j<;>simp[asNat,h]<;>split<;>simp_all
@[simp] theorem ajK(len sz a i):gS σ (.iaddrA len sz a i)=qB (yw len sz (a.get σ) (i.get σ)):=jK (IZ ..)
@[simp] theorem ajL(len sz a i):iX σ (.iaddrA len sz a i)=((yw len sz (a.get σ) (i.get σ)).isSome=true):=jL (IZ ..)
def OS(neg:Bool)(ks:List LK)(a b:T):Option T:=match a,b with| .agg xs,.agg ys=>(cw ks xs ys).map fun e=>T.bool (e !=neg)|_,_=>none
@[simp] theorem anx(neg ks xs ys):OS neg ks (.agg xs) (.agg ys)=(cw ks xs ys).map fun e=>T.bool (e !=neg):=rfl
theorem Ss(neg ks a b):ae C0 σ (.eqa neg ks a b)=(OS neg ks (a.get σ) (b.get σ)).map (·,σ):=by
 simp only[ae,OS]
 generalize ag.get σ a=t
 generalize ag.get σ b=u
 cases t<;>try rfl
 cases u<;>try rfl
 rename_i xs ys
 show Option.map _ _=Option.map _ (Option.map _ _)
 cases cw ks xs ys<;>rfl
@[simp] theorem apI(neg ks a b):gS σ (.eqa neg ks a b)=qB (OS neg ks (a.get σ) (b.get σ)):=jK (Ss ..)
@[simp] theorem apJ(neg ks a b):iX σ (.eqa neg ks a b)=((OS neg ks (a.get σ) (b.get σ)).isSome=true):=jL (Ss ..)
def BP(a i:T):Option T:=match a,i with
 | .v (.string s),.v (.int _ j)=>if 0≤j then s.data[j.toNat]?.map fun b=>T.v (.int .u8 b.toNat)else none
 |_,_=>none
@[simp] theorem aix(s kd j):BP (.v (.string s)) (.v (.int kd j))=if 0≤j then s.data[j.toNat]?.map fun b=>T.v (.int .u8 b.toNat)else none:=rfl
theorem I0(a i):ae C0 σ (.indexS a i)=(BP (a.get σ) (i.get σ)).map (·,σ):=by
 simp only[ae,BP]
 generalize ag.get σ a=t
 generalize ag.get σ i=u
 cases t<;>try rfl
 rename_i x
 cases x<;>try rfl
 cases u<;>try rfl
 rename_i y
 cases y<;>try rfl
 rename_i s kd j
 by_cases h:0≤j
 ·simp only[asNat,h,if_true]
  cases s.data[j.toNat]? <;>rfl
 ·simp[asNat,h]
@[simp] theorem ajM(a i):gS σ (.indexS a i)=qB (BP (a.get σ) (i.get σ)):=jK (I0 ..)
@[simp] theorem ajN(a i):iX σ (.indexS a i)=((BP (a.get σ) (i.get σ)).isSome=true):=jL (I0 ..)
end
theorem bin_eqs(t:TypeId)(a b:ByteArray):bM .eql t (.v (.string a)) (.v (.string b))=some (.v (.bool (a.toList==b.toList))):=rfl
theorem bin_nes(t:TypeId)(a b:ByteArray):bM .neq t (.v (.string a)) (.v (.string b))=some (.v (.bool (!(a.toList==b.toList)))):=rfl
attribute [simp] bin_eqs bin_nes
@[simp] theorem aiy:cw [] [] []=some true:=rfl
@[simp] theorem Rn(k:IntKind)(ks:List LK)(a b:Int)(as bs:List T):cw (.int::ks) (.v (.int k a)::as) (.v (.int k b)::bs)=(cw ks as bs).map fun y=>(a==b)&&y:=by
 simp only[cw,iA,Option.bind_eq_bind,if_true,Option.bind_some]
 cases cw ks as bs<;>rfl
@[simp] theorem aiz(ks:List LK)(a b:ByteArray)(as bs:List T):cw (.str::ks) (.v (.string a)::as) (.v (.string b)::bs)=(cw ks as bs).map fun y=>(a.toList==b.toList)&&y:=by
 simp only[cw,iA,Option.bind_eq_bind,Option.bind_some]
 cases cw ks as bs<;>rfl
end Go.Vi
end
section
namespace Go.Vi
open Go
structure Hd(p:Prop):Prop where
 out:p
inductive Fr where
 |seq (b:IC)|xX (id:Nat)|nj
def Fin(E:Env):List Fr→(Out→Prop)→Out→Prop
 | [],Q=>Q
 | .seq b::k,Q=>z8 (fun σ=>Wp E b σ (Fin E k Q)) (Fin E k Q)
 | .xX id::k,Q=>EZ id (Fin E k Q)
 | .nj::k,Q=>BK (Fin E k Q)
def M(E:Env)(c:IC)(k:List Fr)(σ:St)(Q:Out→Prop):Prop:=Wp E c σ (Fin E k Q)
def N(E:Env)(k:List Fr)(σ:St)(Q:Out→Prop):Prop:=Fin E k Q (.norm σ)
def X(E:Env)(id:Nat)(k:List Fr)(σ:St)(Q:Out→Prop):Prop:=Fin E k Q (.exit id σ)
def R(E:Env)(k:List Fr)(σ:St)(Q:Out→Prop):Prop:=Fin E k Q (.ret σ)
abbrev nQ:=List (Option (Nat×Bool)×IOp)
def O(E:Env)(ops:nQ)(outs:List (Option Nat))(k:List Fr)(σ:St)(Q:Out→Prop):Prop:=nC E ops σ fun σ'=>N E k ⟨[],fJ σ'.rs σ'.vars outs,σ'.boxes⟩ Q
section
variable{E:Env}{k:List Fr}{σ:St}{Q:Out→Prop}
@[simp] theorem aql:M E .skip k σ Q=N E k σ Q:=wp_skip
@[simp] theorem aqK:M E .ret k σ Q=R E k σ Q:=wp_ret
@[simp] theorem aqm(id):M E (.exit id) k σ Q=X E id k σ Q:=wp_exit id
@[simp] theorem aqn(vs)(rs vars bx):M E (.kill vs) k ⟨rs,vars,bx⟩ Q=N E k ⟨rs,er vs vars,bx⟩ Q:=Sp vs
@[simp] theorem ajO:M E (.free []) k σ Q=N E k σ Q:=(CK []).trans (bc _ _)
@[simp] theorem aiA(s ss)(rs vars bx):M E (.free (s::ss)) k ⟨rs,vars,bx⟩ Q=(St.ay s ⟨rs,vars,bx⟩=true∧M E (.free ss) k ⟨rs,vars,bx.set s none⟩ Q):=by
 unfold M
 rw[CK,CK]
 simp only[cB]
 exact tz _ _ _
@[simp] theorem aqL(a b):M E (.seq a b) k σ Q=M E a (.seq b::k) σ Q:=wp_seq a b
@[simp] theorem apK(id a):M E (.block id a) k σ Q=M E a (.xX id::k) σ Q:=wp_block id a
theorem abW(a)(h:M E a (.nj::k) σ Q):M E (.kT a) k σ Q:=Xz a h
@[simp] theorem aqM(r):M E (.A5 r) k σ Q=O E r.ops r.outs k {σ with rs:=[]} Q:=XA r
def I1(E:Env)(t:T)(a b:IC)(k:List Fr)(σ:St)(Q:Out→Prop):Prop:=M6 t (M E a k σ Q) (M E b k σ Q)
@[simp] theorem aqo(c a b):M E (.cond c a b) k σ Q=I1 E (c.get σ) a b k σ Q:=wp_cond c a b
@[simp] theorem ajP(a b):I1 E (.v (.bool true)) a b k σ Q=M E a k σ Q:=rfl
@[simp] theorem aiB(a b):I1 E (.v (.bool false)) a b k σ Q=M E b k σ Q:=rfl
theorem pg{t:Bool}{a b}(h1:t=true→M E a k σ Q)(h2:t=false→M E b k σ Q):I1 E (.v (.bool t)) a b k σ Q:=by
 cases t
 ·exact h2 rfl
 ·exact h1 rfl
@[simp] theorem aqN:N E [] σ Q=Q (.norm σ):=rfl
@[simp] theorem aqO(b):N E (.seq b::k) σ Q=M E b k σ Q:=rfl
@[simp] theorem aqP(id):N E (.xX id::k) σ Q=N E k σ Q:=rfl
@[simp] theorem ara:N E (.nj::k) σ Q=N E k σ Q:=rfl
@[simp] theorem aqQ(id):X E id [] σ Q=Q (.exit id σ):=rfl
@[simp] theorem aqR(id b):X E id (.seq b::k) σ Q=X E id k σ Q:=rfl
@[simp] theorem aqS(id j):X E id (.xX j::k) σ Q=if id=j then N E k σ Q else X E id k σ Q:=rfl
@[simp] theorem arb(id):X E id (.nj::k) σ Q=if id< cE then X E id k σ Q else False:=rfl
@[simp] theorem aqT:R E [] σ Q=Q (.ret σ):=rfl
@[simp] theorem aqU(b):R E (.seq b::k) σ Q=R E k σ Q:=rfl
@[simp] theorem aqV(id):R E (.xX id::k) σ Q=R E k σ Q:=rfl
@[simp] theorem arc:R E (.nj::k) σ Q=R E k σ Q:=rfl
variable{outs:List (Option Nat)}{rest:nQ}
@[simp] theorem aqW(rs vars bx):O E [] outs k ⟨rs,vars,bx⟩ Q=N E k ⟨[],fJ rs vars outs,bx⟩ Q:=LR
theorem rE{o:IOp}(h:Kl o=true)(rs vars bx):O E ((none,o)::rest) outs k ⟨rs,vars,bx⟩ Q=(iX ⟨rs,vars,bx⟩ o∧O E rest outs k ⟨snoc rs (gS ⟨rs,vars,bx⟩ o),vars,bx⟩ Q):=by
 unfold O
 rw[eu,eh (Sq h)]
 unfold iX gS
 cases hr:ae C0 ⟨rs,vars,bx⟩ o with
 |none=>simp[aW]
 |some p=>
  have:=adh h hr
  rw[bc,this];simp
variable(rs vars:List T)(bx:List (Option (List T)))
@[simp] theorem ard(a):O E ((none,.mv a)::rest) outs k ⟨rs,vars,bx⟩ Q=O E rest outs k ⟨snoc rs (a.get ⟨rs,vars,bx⟩),vars,bx⟩ Q:=by rw[rE rfl,agY,true_and,agX]
@[simp] theorem aqp(a b c):O E ((none,.pick a b c)::rest) outs k ⟨rs,vars,bx⟩ Q=(iX ⟨rs,vars,bx⟩ (.pick a b c)∧O E rest outs k ⟨snoc rs (gS ⟨rs,vars,bx⟩ (.pick a b c)),vars,bx⟩ Q):=rE rfl ..
@[simp] theorem aqX(a b c d):O E ((none,.bin a b c d)::rest) outs k ⟨rs,vars,bx⟩ Q=(iX ⟨rs,vars,bx⟩ (.bin a b c d)∧O E rest outs k ⟨snoc rs (gS ⟨rs,vars,bx⟩ (.bin a b c d)),vars,bx⟩ Q):=rE rfl ..
@[simp] theorem aqY(a b c):O E ((none,.eqb a b c)::rest) outs k ⟨rs,vars,bx⟩ Q=(iX ⟨rs,vars,bx⟩ (.eqb a b c)∧O E rest outs k ⟨snoc rs (gS ⟨rs,vars,bx⟩ (.eqb a b c)),vars,bx⟩ Q):=rE rfl ..
@[simp] theorem aqZ(a b c d):O E ((none,.eqa a b c d)::rest) outs k ⟨rs,vars,bx⟩ Q=(iX ⟨rs,vars,bx⟩ (.eqa a b c d)∧O E rest outs k ⟨snoc rs (gS ⟨rs,vars,bx⟩ (.eqa a b c d)),vars,bx⟩ Q):=rE rfl ..
@[simp] theorem apL(a b):O E ((none,.eqnil a b)::rest) outs k ⟨rs,vars,bx⟩ Q=(iX ⟨rs,vars,bx⟩ (.eqnil a b)∧O E rest outs k ⟨snoc rs (gS ⟨rs,vars,bx⟩ (.eqnil a b)),vars,bx⟩ Q):=rE rfl ..
@[simp] theorem are(a b):O E ((none,.un a b)::rest) outs k ⟨rs,vars,bx⟩ Q=(iX ⟨rs,vars,bx⟩ (.un a b)∧O E rest outs k ⟨snoc rs (gS ⟨rs,vars,bx⟩ (.un a b)),vars,bx⟩ Q):=rE rfl ..
@[simp] theorem apM(a b):O E ((none,.toInt a b)::rest) outs k ⟨rs,vars,bx⟩ Q=(iX ⟨rs,vars,bx⟩ (.toInt a b)∧O E rest outs k ⟨snoc rs (gS ⟨rs,vars,bx⟩ (.toInt a b)),vars,bx⟩ Q):=rE rfl ..
@[simp] theorem anz(a b c d e):O E ((none,.indexA a b c d e)::rest) outs k ⟨rs,vars,bx⟩ Q=(iX ⟨rs,vars,bx⟩ (.indexA a b c d e)∧O E rest outs k ⟨snoc rs (gS ⟨rs,vars,bx⟩ (.indexA a b c d e)),vars,bx⟩ Q):=rE rfl ..
@[simp] theorem anA(a b):O E ((none,.indexS a b)::rest) outs k ⟨rs,vars,bx⟩ Q=(iX ⟨rs,vars,bx⟩ (.indexS a b)∧O E rest outs k ⟨snoc rs (gS ⟨rs,vars,bx⟩ (.indexS a b)),vars,bx⟩ Q):=rE rfl ..
@[simp] theorem alC(a b):O E ((none,.extract a b)::rest) outs k ⟨rs,vars,bx⟩ Q=(iX ⟨rs,vars,bx⟩ (.extract a b)∧O E rest outs k ⟨snoc rs (gS ⟨rs,vars,bx⟩ (.extract a b)),vars,bx⟩ Q):=rE rfl ..
@[simp] theorem o_load(a b c):O E ((none,.load a b c)::rest) outs k ⟨rs,vars,bx⟩ Q=(iX ⟨rs,vars,bx⟩ (.load a b c)∧O E rest outs k ⟨snoc rs (gS ⟨rs,vars,bx⟩ (.load a b c)),vars,bx⟩ Q):=rE rfl ..
@[simp] theorem apN(a b):O E ((none,.faddr a b)::rest) outs k ⟨rs,vars,bx⟩ Q=(iX ⟨rs,vars,bx⟩ (.faddr a b)∧O E rest outs k ⟨snoc rs (gS ⟨rs,vars,bx⟩ (.faddr a b)),vars,bx⟩ Q):=rE rfl ..
@[simp] theorem anB(a b c d):O E ((none,.iaddrA a b c d)::rest) outs k ⟨rs,vars,bx⟩ Q=(iX ⟨rs,vars,bx⟩ (.iaddrA a b c d)∧O E rest outs k ⟨snoc rs (gS ⟨rs,vars,bx⟩ (.iaddrA a b c d)),vars,bx⟩ Q):=rE rfl ..
@[simp] theorem anC(a b c):O E ((none,.iaddrS a b c)::rest) outs k ⟨rs,vars,bx⟩ Q=(iX ⟨rs,vars,bx⟩ (.iaddrS a b c)∧O E rest outs k ⟨snoc rs (gS ⟨rs,vars,bx⟩ (.iaddrS a b c)),vars,bx⟩ Q):=rE rfl ..
@[simp] theorem aq0(a b):O E ((none,.len a b)::rest) outs k ⟨rs,vars,bx⟩ Q=(iX ⟨rs,vars,bx⟩ (.len a b)∧O E rest outs k ⟨snoc rs (gS ⟨rs,vars,bx⟩ (.len a b)),vars,bx⟩ Q):=rE rfl ..
def G(E:Env)(g:Option T)(w:Bool)(o:IOp)(rest:nQ)(outs:List (Option Nat))(k:List Fr)(σ:St)(Q:Out→Prop):Prop:=
 zn g w (O E ((none,o)::rest) outs k σ Q) (O E rest outs k {σ with rs:=snoc σ.rs T.bJ} Q)
@[simp] theorem apO(j w o):O E ((some (j,w),o)::rest) outs k ⟨rs,vars,bx⟩ Q=G E (cp rs j) w o rest outs k ⟨rs,vars,bx⟩ Q:=by
 unfold O G
 rw[IS]
 unfold O
 rw[eu]
@[simp] theorem aqq(o):G E (some (.v (.bool true))) true o rest outs k σ Q=O E ((none,o)::rest) outs k σ Q:=rfl
@[simp] theorem apP(o):G E (some (.v (.bool false))) false o rest outs k σ Q=O E ((none,o)::rest) outs k σ Q:=rfl
@[simp] theorem apQ(o):G E (some (.v (.bool false))) true o rest outs k σ Q=O E rest outs k {σ with rs:=snoc σ.rs T.bJ} Q:=rfl
@[simp] theorem anD(o):G E (some (.v (.bool true))) false o rest outs k σ Q=O E rest outs k {σ with rs:=snoc σ.rs T.bJ} Q:=rfl
@[simp] theorem aqr(w o):G E (some T.bJ) w o rest outs k σ Q=O E rest outs k {σ with rs:=snoc σ.rs T.bJ} Q:=rfl
theorem kB{b w:Bool}{o}(h1:b=true→G E (some (.v (.bool true))) w o rest outs k σ Q)(h2:b=false→G E (some (.v (.bool false))) w o rest outs k σ Q):G E (some (.v (.bool b))) w o rest outs k σ Q:=by
 cases b
 ·exact h2 rfl
 ·exact h1 rfl
def rF(cs:List T):Bool:=cs.all T.one
@[simp] theorem anE:rF []=true:=rfl
@[simp] theorem alD(t cs):rF (t::cs)=(t.one&&rF cs):=rfl
def ld(t:T):List T:=(cellsOf t).getD []
def lZ(t:T):Bool:=(cellsOf t).isSome
@[simp] theorem ajQ(cs):ld (.agg cs)=cs:=rfl
@[simp] theorem anF(x):ld (.v x)=[.v x]:=rfl
@[simp] theorem alE(g n cs):ld (.sl g n cs)=[.sl g n cs]:=rfl
@[simp] theorem ajR(s o n c):ld (.au s o n c)=[.au s o n c]:=rfl
@[simp] theorem ajS(s o):ld (.ref s o)=[.ref s o]:=rfl
@[simp] theorem ajT(cs o):ld (.ptr cs o)=[.ptr cs o]:=rfl
@[simp] theorem aiC(s):ld (.aQ s)=[.aQ s]:=rfl
@[simp] theorem ajU(f a b):ld (.bq f a b)=[.bq f a b]:=rfl
@[simp] theorem ajV(cs):lZ (.agg cs)=true:=rfl
@[simp] theorem anG(x):lZ (.v x)=true:=rfl
@[simp] theorem alF(g n cs):lZ (.sl g n cs)=true:=rfl
@[simp] theorem ajW(s o n c):lZ (.au s o n c)=true:=rfl
@[simp] theorem ajX(s o):lZ (.ref s o)=true:=rfl
@[simp] theorem ajY(cs o):lZ (.ptr cs o)=true:=rfl
@[simp] theorem aiD(s):lZ (.aQ s)=true:=rfl
@[simp] theorem ajZ(f a b):lZ (.bq f a b)=true:=rfl
theorem LU(t:T)(k:List T→Prop):mY t k=(lZ t=true∧k (ld t)):=by
 unfold mY lZ ld
 cases cellsOf t with
 |none=>simp[aW]
 |some cs=>simp[bc]
@[simp] theorem aq1(s a):O E ((none,.box s a)::rest) outs k ⟨rs,vars,bx⟩ Q=(lZ (a.get ⟨rs,vars,bx⟩)=true∧rF (ld (a.get ⟨rs,vars,bx⟩))=true∧gd bx s=true∧s%2=0∧O E rest outs k ⟨snoc rs (.ref s 0),vars,bx.set s (some (ld (a.get ⟨rs,vars,bx⟩)))⟩ Q):=by
 unfold O
 rw[eu,OM,LU];rfl
@[simp] theorem apR(s cs):O E ((none,.alloc s cs)::rest) outs k ⟨rs,vars,bx⟩ Q=(gd bx s=true∧s%2=0∧O E rest outs k ⟨snoc rs (.ref s 0),vars,bx.set s (some cs)⟩ Q):=by
 unfold O
 rw[eu,IU];rfl
def XO(E:Env)(a:T)(n:Nat)(ns:List T)(rest:nQ)(outs:List (Option Nat))(k:List Fr)(σ:St)(Q:Out→Prop):Prop:=
 E2 σ.boxes n a ns fun bx=>O E rest outs k {σ with rs:=snoc σ.rs .undef,boxes:=bx} Q
def XP(E:Env)(o:Option (List T))(s off n:Nat)(ns:List T)(rest:nQ)(outs:List (Option Nat))(k:List Fr)(σ:St)(Q:Out→Prop):Prop:=
 dp o fun cs=>ns.length=n∧off+n≤cs.length∧rF ns=true∧O E rest outs k {σ with rs:=snoc σ.rs .undef,boxes:=σ.boxes.set s (some (setCells cs off ns))} Q
@[simp] theorem apS(n a b):O E ((none,.store n a b)::rest) outs k ⟨rs,vars,bx⟩ Q=(lZ (b.get ⟨rs,vars,bx⟩)=true∧XO E (a.get ⟨rs,vars,bx⟩) n (ld (b.get ⟨rs,vars,bx⟩)) rest outs k ⟨rs,vars,bx⟩ Q):=by
 unfold O
 rw[eu,IV,LU];rfl
@[simp] theorem aj0(s off n ns):XO E (.ref s off) n ns rest outs k ⟨rs,vars,bx⟩ Q=XP E (ai bx s) s off n ns rest outs k ⟨rs,vars,bx⟩ Q:=rfl
@[simp] theorem aiE(cs s off n ns):XP E (some cs) s off n ns rest outs k ⟨rs,vars,bx⟩ Q=(ns.length=n∧off+n≤cs.length∧rF ns=true∧O E rest outs k ⟨snoc rs .undef,vars,bx.set s (some (setCells cs off ns))⟩ Q):=bc _ _
@[simp] theorem apT(zero parts):O E ((none,.build zero parts)::rest) outs k ⟨rs,vars,bx⟩ Q=((df (ag.get ⟨rs,vars,bx⟩) zero parts).isSome=true∧O E rest outs k ⟨snoc rs (.agg ((df (ag.get ⟨rs,vars,bx⟩) zero parts).getD [])),vars,bx⟩ Q):=by
 unfold O
 rw[eu,IT]
 cases df (ag.get ⟨rs,vars,bx⟩) zero parts with
 |none=>simp[aW]
 |some cs=>simp[bc]
@[simp] theorem anH(fn first cap):O E ((none,.mkFunc fn first cap)::rest) outs k ⟨rs,vars,bx⟩ Q=O E rest outs k ⟨snoc rs (.bq fn (first.map (ag.get ⟨rs,vars,bx⟩)) (cap.map (ag.get ⟨rs,vars,bx⟩))),vars,bx⟩ Q:=by
 unfold O
 rw[eu,G0]
@[simp] theorem b7{t:T}(h:t.closed=true):Option.filter T.closed (some t)=some t:=by simp[Option.filter,h]
theorem ki{α:Type}{enc:α→List T}{sz:Nat}(h:∀x,(enc x).length=sz)(l:List α)(k j:Nat)(hk:k< l.length)(hj:j< sz):cp (l.flatMap enc) (k*sz+j)=cp (enc l[k]) j:=by
 rw[←np,←np,←CL h l k hk,List.getElem?_take,if_pos hj,List.getElem?_drop]
theorem Ev.det{f:FuncId}{cs:List T}{r r':T}(h:Ev E f cs r)(h':Ev E f cs r'):r=r':=by
 obtain⟨n,hn⟩:=h
 obtain⟨m,hm⟩:=h'
 have h1:=(le_max E n m).1 _ _ _ hn
 have h2:=(le_max E n m).2 _ _ _ hm
 rw[h1]at h2
 exact Option.some.inj h2
noncomputable def dI(E:Env)(f:FuncId)(cs:List T):Option T:=by
 classical exact if h:∃r,Ev E f cs r then some h.choose else none
theorem af{f:FuncId}{cs:List T}{r:T}(h:Ev E f cs r):dI E f cs=some r:=by
 unfold dI
 rw[dif_pos ⟨r,h⟩]
 exact congrArg some (Ev.det (Exists.choose_spec (p:=fun r=>Ev E f cs r) ⟨r,h⟩) h)
theorem CN{f:FuncId}{cs:List T}{r:T}(h:dI E f cs=some r):Ev E f cs r:=by
 unfold dI at h
 split at h
 ·rename_i hx;simp only[Option.some.injEq]at h;rw[←h];exact hx.choose_spec
 ·cases h
def Cr(E:Env)(d:Nat)(r:Option T)(hr:Bool)(rest:nQ)(outs:List (Option Nat))(k:List Fr)(σ:St)(Q:Out→Prop):Prop:=
 dp r fun r=>(hr&& !r.fresh)=false∧O E rest outs k ⟨snoc (σ.strip (2*d)).rs (r.import d),(σ.strip (2*d)).vars,(σ.strip (2*d)).boxes⟩ Q
@[simp] theorem apU(d r hr):Cr E d (some r) hr rest outs k ⟨rs,vars,bx⟩ Q=((hr&& !r.fresh)=false∧O E rest outs k ⟨snoc (stripL (2*d) rs) (r.import d),stripL (2*d) vars,bx.map (Option.map (stripL (2*d)))⟩ Q):=bc _ _
def Cl(E:Env)(d:Nat)(f:FuncId)(cs:Option (List T))(hr:Bool)(rest:nQ)(outs:List (Option Nat))(k:List Fr)(σ:St)(Q:Out→Prop):Prop:=
 dp cs fun cs=>f< an∧Cr E d (dI E f cs) hr rest outs k σ Q
@[simp] theorem apV(d f cs hr):Cl E d f (some cs) hr rest outs k σ Q=(f< an∧Cr E d (dI E f cs) hr rest outs k σ Q):=bc _ _
theorem Su{d:Nat}{f:FuncId}{as:List T}{o:IOp}(ho:∀n,ae (aV E n) ⟨rs,vars,bx⟩ o=ae.cW (aV E n) ⟨rs,vars,bx⟩ d f as)
  (h:Cl E d f (as.mapM (close bx 6)) (aZ as) rest outs k ⟨rs,vars,bx⟩ Q):O E ((none,o)::rest) outs k ⟨rs,vars,bx⟩ Q:=by
 unfold O
 rw[eu]
 obtain⟨cs,h1,hf,h⟩:=h
 obtain⟨r,h2,hr,h3⟩:=h
 obtain⟨n,hn⟩:=CN h2
 refine⟨n,(r.import d,St.strip (2*d) ⟨rs,vars,bx⟩), ?_,h3⟩
 rw[ho]
 simp only[ae.cW,h1,ue,if_pos hf,hn,Option.bind_eq_bind,Option.bind_some,hr,Bool.false_eq_true,if_false]
theorem OT{d:Nat}{f:FuncId}{as:List T}{o:IOp}(ho:∀n,ae (aV E n) ⟨rs,vars,bx⟩ o=ae.cW (aV E n) ⟨rs,vars,bx⟩ d f as)
  (h:O E ((none,o)::rest) outs k ⟨rs,vars,bx⟩ Q):Cl E d f (as.mapM (close bx 6)) (aZ as) rest outs k ⟨rs,vars,bx⟩ Q:=by
 unfold O at h
 rw[eu]at h
 obtain⟨n,p,h1,h2⟩:=h
 rw[ho]at h1
 simp only[ae.cW,Option.bind_eq_bind,Option.bind_eq_some_iff]at h1
 obtain⟨cs,h3,r,h4,h5⟩:=h1
 unfold ue at h4
 split at h4<;>try(cases h4;done)
 rename_i hf
 split at h5<;>try(cases h5;done)
 rename_i hr
 simp only[Option.some.injEq]at h5
 subst h5
 exact⟨cs,h3,hf,r,af ⟨n,h4⟩,by simpa using hr,h2⟩
@[simp] theorem aqs(d f as):O E ((none,.call d f as)::rest) outs k ⟨rs,vars,bx⟩ Q=Cl E d f ((as.map (ag.get ⟨rs,vars,bx⟩)).mapM (close bx 6)) (aZ (as.map (ag.get ⟨rs,vars,bx⟩))) rest outs k ⟨rs,vars,bx⟩ Q:=
 propext ⟨OT rs vars bx fun n=>rfl,Su rs vars bx fun n=>rfl⟩
def Cv(E:Env)(d:Nat)(c:Option (FuncId×List T×List T))(as:List T)(rest:nQ)(outs:List (Option Nat))(k:List Fr)(σ:St)(Q:Out→Prop):Prop:=
 dp c fun c=>Cl E d c.1 ((c.2.1++as++c.2.2).mapM (close σ.boxes 6)) (aZ (c.2.1++as++c.2.2)) rest outs k σ Q
@[simp] theorem apW(d f first cap as):Cv E d (some (f,first,cap)) as rest outs k ⟨rs,vars,bx⟩ Q=Cl E d f ((first++as++cap).mapM (close bx 6)) (aZ (first++as++cap)) rest outs k ⟨rs,vars,bx⟩ Q:=bc _ _
@[simp] theorem apX(d g as):O E ((none,.callv d g as)::rest) outs k ⟨rs,vars,bx⟩ Q=Cv E d (eQ (g.get ⟨rs,vars,bx⟩)) (as.map (ag.get ⟨rs,vars,bx⟩)) rest outs k ⟨rs,vars,bx⟩ Q:=by
 unfold Cv
 cases hc:eQ (g.get ⟨rs,vars,bx⟩)with
 |none=>
  rw[aW]
  unfold O
  rw[eu]
  exact propext ⟨fun⟨n,p,h,_⟩=>by simp[ae,hc]at h,fun h=>h.elim⟩
 |some c=>
  obtain⟨f,first,cap⟩:=c
  rw[bc]
  exact propext ⟨OT rs vars bx fun n=>by simp only[ae,hc],Su rs vars bx fun n=>by simp only[ae,hc]⟩
def M8(E:Env)(k:List Fr)(Q:Out→Prop)(S:St→Prop):Out→Prop
 | .norm σ=>S σ
 | .exit id σ=>X E id k σ Q
 | .ret σ=>R E k σ Q
@[simp] theorem aj1(S σ):M8 E k Q S (.norm σ)=S σ:=rfl
@[simp] theorem aj2(S id σ):M8 E k Q S (.exit id σ)=X E id k σ Q:=rfl
@[simp] theorem alG(S σ):M8 E k Q S (.ret σ)=R E k σ Q:=rfl
theorem m_loop{a:IC}(n:Nat)(I:Nat→St→Prop)(h0:I 0 σ)(hstep:∀j σ,j≤n→I j σ→M E a [] σ (M8 E k Q fun σ'=>j< n∧I (j+1) σ')):M E (.loop a) k σ Q:=
 abV n I h0 fun j σ hj hI=>by
  obtain⟨f,o,h1,h2⟩:=hstep j σ hj hI
  refine⟨f,o,h1, ?_⟩
  cases o with
  |norm σ'=>exact h2
  |exit=>exact h2
  |ret=>exact h2
def OU(res:List Ar)(canon:List CM)(r:T):Out→Prop
 | .norm σ=>(c9 σ res canon).bind (kp σ.boxes)=some r
 | .exit _ _=>False
 | .ret σ=>(c9 σ res canon).bind (kp σ.boxes)=some r
@[simp] theorem alH(res canon r σ):OU res canon r (.norm σ)=((c9 σ res canon).bind (kp σ.boxes)=some r):=rfl
@[simp] theorem anI(res canon r σ):OU res canon r (.ret σ)=((c9 σ res canon).bind (kp σ.boxes)=some r):=rfl
theorem aB{f:FuncId}{args:List T}{r:T}{fn:aC}(hp:E.kF f=none)(hf:f< an)(pZ:E.fn f=some fn)(hs:fn.split=false)(hl:args.length=fn.nparams)
  (h:M E fn.body [] ⟨[],args++List.replicate (fn.kj-fn.nparams) .undef,List.replicate (2*fn.eK) none⟩ (OU fn.results fn.canon r)):Ev E f args r:=by
 refine ai9 hp hf pZ hs hl ?_
 obtain⟨n,o,h1,h2⟩:=h
 refine⟨n,o,h1, ?_⟩
 cases o with
 |norm σ=>exact h2
 |exit=>exact h2
 |ret=>exact h2
end
end Go.Vi
end
section
namespace Go.Vi
open Go
def P1(E:Env)(r:Option (T×St))(rest:nQ)(outs:List (Option Nat))(k:List Fr)(Q:Out→Prop):Prop:=
 dp r fun p=>O E rest outs k ⟨snoc p.2.rs p.1,p.2.vars,p.2.boxes⟩ Q
section
variable{E:Env}{k:List Fr}{σ:St}{Q:Out→Prop}{outs:List (Option Nat)}{rest:nQ}(rs vars:List T)(bx:List (Option (List T)))
@[simp] theorem BQ(t:T):P1 E (some (t,⟨rs,vars,bx⟩)) rest outs k Q=O E rest outs k ⟨snoc rs t,vars,bx⟩ Q:=bc _ _
theorem bE{o:IOp}(h:o.Aa=true):O E ((none,o)::rest) outs k σ Q=P1 E (ae C0 σ o) rest outs k Q:=by
 unfold O P1
 rw[eu,eh h];rfl
@[simp] theorem anJ(d e sz len zero parts):O E ((none,.bslice d e sz len zero parts)::rest) outs k ⟨rs,vars,bx⟩ Q=
  P1 E ((df (fun a=>(ag.get ⟨rs,vars,bx⟩ a).cL) (List.replicate len zero).flatten parts).bind fun cs=>if len≤65536∧len*sz≤16777216∧bj cs=true then some (T.sl (if len=0 then .clip else .own (8*d) e) len cs,St.strip (2*d) ⟨rs,vars,bx⟩)else none) rest outs k Q:=bE rfl
@[simp] theorem alI(g:ag→T)(cells:List T):df g cells []=some cells:=rfl
@[simp] theorem aj3(g:ag→T)(cells:List T)(off n:Nat)(a:ag)(ps:List (Nat×Nat×ag)):df g cells ((off,n,a)::ps)=(cellsOf (g a)).bind fun cs=>if cs.length=n∧off+n≤cells.length∧rF cs=true then df g (setCells cells off cs) ps else none:=rfl
@[simp] theorem aiF(cs:List T):cellsOf (.agg cs)=some cs:=rfl
@[simp] theorem alJ(x:Value):cellsOf (.v x)=some [.v x]:=rfl
@[simp] theorem aj4(g n cs):cellsOf (.sl g n cs)=some [.sl g n cs]:=rfl
@[simp] theorem aiG(s o n c):cellsOf (.au s o n c)=some [.au s o n c]:=rfl
@[simp] theorem aiH(s o):cellsOf (.ref s o)=some [.ref s o]:=rfl
@[simp] theorem aqt(x:Value):(T.v x).cL= .v x:=by simp only[T.cL]
@[simp] theorem apY(g n cs):(T.sl g n cs).cL= .sl .any n cs:=by simp only[T.cL]
@[simp] theorem anK(cs):(T.agg cs).cL= .agg (jx cs):=by simp only[T.cL]
@[simp] theorem alK:jx []=[]:=by simp only[jx]
@[simp] theorem apZ(x:Value):(T.v x).fG= .v x:=rfl
@[simp] theorem alL(n cs):(T.sl .nil n cs).fG= .sl .nil n cs:=rfl
@[simp] theorem alM(n cs):(T.sl .any n cs).fG= .sl .any n cs:=rfl
@[simp] theorem alN(n cs):(T.sl .l9 n cs).fG= .sl .any n cs:=rfl
@[simp] theorem aj5(n cs):(T.sl .clip n cs).fG= .sl .any n cs:=rfl
@[simp] theorem alO(k e n cs):(T.sl (.own k e) n cs).fG= .sl .any n cs:=rfl
@[simp] theorem alP(s o n c):(T.au s o n c).fG= .au s o n c:=rfl
@[simp] theorem alQ(s o):(T.ref s o).fG= .ref s o:=rfl
@[simp] theorem alR(cs):(T.agg cs).fG= .agg (jx cs):=rfl
@[simp] theorem alS(f a b):(T.bq f a b).fG= .bq f (jx a) (jx b):=rfl
@[simp] theorem aj6(t ts):jx (t::ts)=t.cL::jx ts:=by simp only[jx]
def AT(σ:St)(d:Nat)(e:TypeId)(sz bytes:Nat)(a:T)(src:Option (Nat×List T))(cl:Bool):Option (T×St):=
 match a,src with
  | .sl g n xs,some (m,ys)=>
   if xs.length=n*sz∧ys.length=m*sz∧(n+m)*bytes≤room∧n+m≤room∧cl=true then
    match g with
    | .own k e'=>if e'=e then some (.sl (.own (8*d) e) (n+m) (xs++ys),(σ.strip (2*k+1)).strip (2*d))else none
    | .nil=>if n=0 then some (.sl (.own (8*d) e) m ys,σ.strip (2*d))else none
    | .clip=>if m=0 then(if n=0 then some (.sl (.own (8*d) e) 0 [],σ.strip (2*d))else none)else some (.sl (.own (8*d) e) (n+m) (xs++ys),σ.strip (2*d))
    | .l9=>if m=0 then some (.sl .any n xs,σ)else none
    | .any=>if m=0 then some (.sl .any n xs,σ)else none
   else none
  |_,_=>none
theorem Sv(d e sz bytes zero kind a b):ae C0 σ (.append d e sz bytes zero kind a b)=AT σ d e sz bytes (a.get σ) (iP σ.boxes kind sz zero (b.get σ)) (match iP σ.boxes kind sz zero (b.get σ)with|some (_,ys)=>dJ (b.get σ) ys|none=>false):=by
 simp only[ae,AT]
 generalize ag.get σ a=t
 generalize ag.get σ b=u
 cases t<;>try rfl
 cases iP σ.boxes kind sz zero u with
 |none=>rfl
 |some p=>rfl
@[simp] theorem anL(d e sz bytes zero kind a b):O E ((none,.append d e sz bytes zero kind a b)::rest) outs k ⟨rs,vars,bx⟩ Q=
  P1 E (AT ⟨rs,vars,bx⟩ d e sz bytes (a.get ⟨rs,vars,bx⟩) (iP bx kind sz zero (b.get ⟨rs,vars,bx⟩)) (match iP bx kind sz zero (b.get ⟨rs,vars,bx⟩)with|some (_,ys)=>dJ (b.get ⟨rs,vars,bx⟩) ys|none=>false)) rest outs k Q:=by
 rw[bE rfl,Sv]
@[simp] theorem anM(zero sz g m ys):iP bx 0 sz zero (.sl g m ys)=some (m,ys):=rfl
@[simp] theorem alT(zero s):iP bx 1 1 zero (.v (.string s))=some (s.size,s.data.toList.map fun(b:UInt8)=>T.u8 b.toNat):=rfl
@[simp] theorem ag0(g m cs ys):dJ (.sl g m cs) ys=true:=rfl
@[simp] theorem anN(d e sz bytes n m j xs ys):
  AT ⟨rs,vars,bx⟩ d e sz bytes (.sl (.own j e) n xs) (some (m,ys)) true=if xs.length=n*sz∧ys.length=m*sz∧(n+m)*bytes≤room∧n+m≤room then some (.sl (.own (8*d) e) (n+m) (xs++ys),(St.strip (2*j+1) ⟨rs,vars,bx⟩).strip (2*d))else none:=by
 simp only[AT,and_true,if_true]
@[simp] theorem anO(d e sz bytes m ys):
  AT ⟨rs,vars,bx⟩ d e sz bytes (.sl .nil 0 []) (some (m,ys)) true=if ys.length=m*sz∧m*bytes≤room∧m≤room then some (.sl (.own (8*d) e) m ys,St.strip (2*d) ⟨rs,vars,bx⟩)else none:=by
 simp only[AT,and_true,if_true,List.length_nil,Nat.zero_mul,true_and,Nat.zero_add]
@[simp] theorem alU(d e sz bytes n m xs ys):
  AT ⟨rs,vars,bx⟩ d e sz bytes (.sl .clip n xs) (some (m+1,ys)) true=if xs.length=n*sz∧ys.length=(m+1)*sz∧(n+(m+1))*bytes≤room∧n+(m+1)≤room then some (.sl (.own (8*d) e) (n+(m+1)) (xs++ys),St.strip (2*d) ⟨rs,vars,bx⟩)else none:=by
 simp only[AT,and_true,Nat.add_eq_zero_iff,Nat.one_ne_zero,and_false,if_false]
@[simp] theorem aiI(g:ag→T)(d:Nat):av g d none=some d:=rfl
@[simp] theorem aiJ(g:ag→T)(d:Nat)(a:ag):av g d (some a)=asNat (g a):=rfl
@[simp] theorem aj7(kd:IntKind)(n:Nat):asNat (.v (.int kd (n:Int)))=some n:=by simp[asNat]
@[simp] theorem aj8(kd:IntKind):asNat (.v (.int kd 0))=some 0:=rfl
def I2:List T→T
 | [t]=>t
 |ts=> .al ts
@[simp] theorem alV(t:T):I2 [t]=t:=rfl
@[simp] theorem alW(t u:T)(ts:List T):I2 (t::u::ts)= .al (t::u::ts):=rfl
@[simp] theorem alX:I2 []= .al []:=rfl
@[simp] theorem ap0(rs:List Ar)(canon:List CM):c9 σ rs canon=(rs.mapM (vS σ)).bind fun ts=>some (I2 (fU 0 canon ts)):=by
 unfold c9 I2
 simp only[Option.bind_eq_bind]
 cases rs.mapM (vS σ)with
 |none=>rfl
 |some ts=>
  simp only[Option.bind_some]
  generalize fU 0 canon ts=us
  match us with
  | []=>rfl
  | [t]=>rfl
  |t::u::us=>rfl
@[simp] theorem alY(i):vS ⟨rs,vars,bx⟩ (.var i)=cp vars i:=np vars i
def UN(bx:List (Option (List T)))(isAgg:Bool)(n:Nat):Option T→Option T
 |some (.ref s off)=>(ai bx s).bind fun cs=>one? isAgg n cs off
 |_=>none
@[simp] theorem alZ(isAgg n s off):UN bx isAgg n (some (.ref s off))=(ai bx s).bind fun cs=>one? isAgg n cs off:=rfl
@[simp] theorem aj9(i isAgg n):vS ⟨rs,vars,bx⟩ (.cell i isAgg n)=UN bx isAgg n (cp vars i):=by
 simp only[vS,←np,UN]
 cases vars[i]? with
 |none=>rfl
 |some t=>
  cases t<;>try rfl
  rename_i s off
  show(match bx[s]? with|some (some cs)=>one? isAgg n cs off|_=>none)=(ai bx s).bind fun cs=>one? isAgg n cs off
  unfold ai
  cases bx[s]? with
  |none=>rfl
  |some o=>cases o<;>rfl
@[simp] theorem aka(t:T):kp bx t=if t.aU=true then close bx 8 t else if t.eO.Nodup then some (t.aj (fun _=>none) (t.eO.idxOf? ·))else none:=rfl
def I3(a:T)(i:Nat):Option T:=match a with| .al ts=>cp ts i|_=>none
@[simp] theorem al0(ts i):I3 (.al ts) i=cp ts i:=rfl
theorem OV(a i):ae C0 σ (.extract a i)=(I3 (a.get σ) i).map (·,σ):=by
 simp only[ae,I3,←np]
 generalize ag.get σ a=t
 cases t<;>rfl
@[simp] theorem aiK(a i):gS σ (.extract a i)=qB (I3 (a.get σ) i):=jK (OV ..)
@[simp] theorem aiL(a i):iX σ (.extract a i)=((I3 (a.get σ) i).isSome=true):=jL (OV ..)
def P2(E:Env)(r:Option T)(rest:nQ)(outs:List (Option Nat))(k:List Fr)(σ:St)(Q:Out→Prop):Prop:=
 dp r fun t=>O E rest outs k ⟨snoc σ.rs t,σ.vars,σ.boxes⟩ Q
@[simp] theorem ap1(t:T):P2 E (some t) rest outs k ⟨rs,vars,bx⟩ Q=O E rest outs k ⟨snoc rs t,vars,bx⟩ Q:=bc _ _
def M9(bx:List (Option (List T)))(len sz:Nat)(a:T)(lo hi:Option Nat):Option T:=
 match a with
 | .ref s off=>hi.bind fun h=>lo.bind fun l=>(ai bx s).bind fun cs=>if l≤h∧h≤len∧off+len*sz≤cs.length then some (.au s (off+l*sz) (h-l) (if h=l then 1 else(h-l)*sz))else none
 |_=>none
@[simp] theorem al1(len sz s off lo hi):M9 bx len sz (.ref s off) lo hi=hi.bind fun h=>lo.bind fun l=>(ai bx s).bind fun cs=>if l≤h∧h≤len∧off+len*sz≤cs.length then some (.au s (off+l*sz) (h-l) (if h=l then 1 else(h-l)*sz))else none:=rfl
@[simp] theorem anP(len sz a lo hi):O E ((none,.sliceA len sz a lo hi)::rest) outs k ⟨rs,vars,bx⟩ Q=P2 E (M9 bx len sz (a.get ⟨rs,vars,bx⟩) (av (ag.get ⟨rs,vars,bx⟩) 0 lo) (av (ag.get ⟨rs,vars,bx⟩) len hi)) rest outs k ⟨rs,vars,bx⟩ Q:=by
 have hrun:ae C0 ⟨rs,vars,bx⟩ (.sliceA len sz a lo hi)=(M9 bx len sz (a.get ⟨rs,vars,bx⟩) (av (ag.get ⟨rs,vars,bx⟩) 0 lo) (av (ag.get ⟨rs,vars,bx⟩) len hi)).map (·,⟨rs,vars,bx⟩):=by
  simp only[ae,M9]
  generalize ag.get ⟨rs,vars,bx⟩ a=t
  cases t<;>try rfl
  rename_i s off
  simp only[Option.bind_eq_bind]
  cases av (ag.get ⟨rs,vars,bx⟩) len hi with
  |none=>rfl
  |some h=>cases av (ag.get ⟨rs,vars,bx⟩) 0 lo with
   |none=>rfl
   |some l=>
    simp only[Option.bind_some]
    unfold ai
    cases bx[s]? with
    |none=>rfl
    |some o=>cases o with
     |none=>rfl
     |some cs=>simp only[Option.join_some,Option.bind_some];split<;>rfl
 rw[bE rfl,hrun]
 exact lX _ _ _
def ti(sz:Nat)(a:T)(lo hi mx:Option Nat)(Sw:Bool):Option T:=
 match a with
 | .sl g n cs=>hi.bind fun h=>lo.bind fun l=>mx.bind fun m=>if l≤h∧h≤m∧m≤n then some (.sl (if g= .nil then .nil else if Sw=true∧h=m then .clip else .any) (h-l) ((cs.drop (l*sz)).take ((h-l)*sz)))else none
 | .au s o n c=>hi.bind fun h=>lo.bind fun l=>mx.bind fun m=>if l≤h∧h≤m∧m≤n∧(n=0∨n*sz=c)then some (.au s (o+l*sz) (h-l) (if h=l then(if n=0 then c else 1+sz)else(h-l)*sz))else none
 |_=>none
@[simp] theorem anQ(sz g n cs lo hi mx Sw):ti sz (.sl g n cs) lo hi mx Sw=hi.bind fun h=>lo.bind fun l=>mx.bind fun m=>if l≤h∧h≤m∧m≤n then some (.sl (if g= .nil then .nil else if Sw=true∧h=m then .clip else .any) (h-l) ((cs.drop (l*sz)).take ((h-l)*sz)))else none:=rfl
@[simp] theorem al2(sz s o n c lo hi mx Sw):ti sz (.au s o n c) lo hi mx Sw=hi.bind fun h=>lo.bind fun l=>mx.bind fun m=>if l≤h∧h≤m∧m≤n∧(n=0∨n*sz=c)then some (.au s (o+l*sz) (h-l) (if h=l then(if n=0 then c else 1+sz)else(h-l)*sz))else none:=rfl
def oK:T→Nat
 | .sl _ n _=>n
 | .au _ _ n _=>n
 |_=>0
@[simp] theorem ap2(g n cs):oK (.sl g n cs)=n:=rfl
@[simp] theorem anR(s o n c):oK (.au s o n c)=n:=rfl
@[simp] theorem anS(sz a lo hi mx):O E ((none,.sliceT sz a lo hi mx)::rest) outs k ⟨rs,vars,bx⟩ Q=P2 E (ti sz (a.get ⟨rs,vars,bx⟩) (av (ag.get ⟨rs,vars,bx⟩) 0 lo) (av (ag.get ⟨rs,vars,bx⟩) (oK (a.get ⟨rs,vars,bx⟩)) hi) (av (ag.get ⟨rs,vars,bx⟩) (oK (a.get ⟨rs,vars,bx⟩)) mx) mx.isSome) rest outs k ⟨rs,vars,bx⟩ Q:=by
 have hrun:ae C0 ⟨rs,vars,bx⟩ (.sliceT sz a lo hi mx)=(ti sz (a.get ⟨rs,vars,bx⟩) (av (ag.get ⟨rs,vars,bx⟩) 0 lo) (av (ag.get ⟨rs,vars,bx⟩) (oK (a.get ⟨rs,vars,bx⟩)) hi) (av (ag.get ⟨rs,vars,bx⟩) (oK (a.get ⟨rs,vars,bx⟩)) mx) mx.isSome).map (·,⟨rs,vars,bx⟩):=by
  simp only[ae,ti]
  generalize ag.get ⟨rs,vars,bx⟩ a=t
  cases t<;>try rfl
  all_goals
   simp only[Option.bind_eq_bind,oK]
   rename_i n _
   try simp only[oK]
   generalize av (ag.get ⟨rs,vars,bx⟩) n hi=oh
   generalize av (ag.get ⟨rs,vars,bx⟩) 0 lo=ol
   generalize av (ag.get ⟨rs,vars,bx⟩) n mx=om
   cases oh<;>try rfl
   cases ol<;>try rfl
   cases om<;>try rfl
   simp only[Option.bind_some]
   split<;>rfl
 rw[bE rfl,hrun]
 exact lX _ _ _
def anT(bx:List (Option (List T)))(sz:Nat)(zero:List T)(a:T):Option (List (Option (List T))):=
 match a with
 | .au s o n c=>(ai bx s).bind fun cs=>if s%2=0∧(n=0∨c=n*sz)∧zero.length=sz∧o+n*sz≤cs.length∧rF zero=true then some (bx.set s (some (setCells cs o (List.replicate n zero).flatten)))else none
 |_=>none
@[simp] theorem anU(sz zero s o n c):anT bx sz zero (.au s o n c)=(ai bx s).bind fun cs=>if s%2=0∧(n=0∨c=n*sz)∧zero.length=sz∧o+n*sz≤cs.length∧rF zero=true then some (bx.set s (some (setCells cs o (List.replicate n zero).flatten)))else none:=rfl
def P3(E:Env)(r:Option (List (Option (List T))))(rest:nQ)(outs:List (Option Nat))(k:List Fr)(σ:St)(Q:Out→Prop):Prop:=
 dp r fun bx=>O E rest outs k ⟨snoc σ.rs .undef,σ.vars,bx⟩ Q
def su(neg:Bool):T→Option T
 | .sl .nil _ _=>some (T.bool (!neg))
 | .sl .l9 _ _=>some (T.bool neg)
 | .sl _ n _=>if 0< n then some (T.bool neg)else none
 | .au _ _ n _=>if 0< n then some (T.bool neg)else none
 |_=>none
@[simp] theorem akb(neg n cs):su neg (.sl .any n cs)=if 0< n then some (.v (.bool neg))else none:=rfl
@[simp] theorem akc(neg n cs):su neg (.sl .nil n cs)=some (.v (.bool !neg)):=rfl
@[simp] theorem akd(neg j e n cs):su neg (.sl (.own j e) n cs)=if 0< n then some (.v (.bool neg))else none:=rfl
@[simp] theorem ake(neg s o n c):su neg (.au s o n c)=if 0< n then some (.v (.bool neg))else none:=rfl
theorem LV(neg a):ae C0 σ (.eqnil neg a)=(su neg (a.get σ)).map (·,σ):=by
 simp only[ae]
 generalize ag.get σ a=t
 cases t<;>try rfl
 ·rename_i g n cs
  cases g<;>try rfl
  all_goals
   simp only[su]
   split<;>rfl
 ·simp only[su]
  split<;>rfl
@[simp] theorem al3(neg a):gS σ (.eqnil neg a)=qB (su neg (a.get σ)):=jK (LV ..)
@[simp] theorem al4(neg a):iX σ (.eqnil neg a)=((su neg (a.get σ)).isSome=true):=jL (LV ..)
def UO(σ:St)(s:Nat)(sz bytes:Nat)(a:T)(src:Option (Nat×List T))(cl:Bool):Option (T×St):=
 match a,src with
 | .sl .clip n _,some (m,ys)=>if n=0∧ys.length=m*sz∧m*bytes≤room∧m≤room∧cl=true∧gd σ.boxes s=true∧s%2=0 then some (.au s 0 m (m*sz),{σ with boxes:=σ.boxes.set s (some ys)})else none
 |_,_=>none
@[simp] theorem akf(s sz bytes n cs m ys cl):UO ⟨rs,vars,bx⟩ s sz bytes (.sl .clip n cs) (some (m,ys)) cl=if n=0∧ys.length=m*sz∧m*bytes≤room∧m≤room∧cl=true∧gd bx s=true∧s%2=0 then some (.au s 0 m (m*sz),⟨rs,vars,bx.set s (some ys)⟩)else none:=rfl
theorem LW(s e sz bytes zero kind a b)(h:P1 E (UO ⟨rs,vars,bx⟩ s sz bytes (a.get ⟨rs,vars,bx⟩) (iP bx kind sz zero (b.get ⟨rs,vars,bx⟩)) (match iP bx kind sz zero (b.get ⟨rs,vars,bx⟩)with|some (_,ys)=>dJ (b.get ⟨rs,vars,bx⟩) ys|none=>false)) rest outs k Q):
  O E ((none,.appendB s e sz bytes zero kind a b)::rest) outs k ⟨rs,vars,bx⟩ Q:=by
 rw[bE rfl]
 obtain⟨p,h1,h2⟩:=h
 refine⟨p, ?_,h2⟩
 simp only[ae]
 unfold UO at h1
 generalize ag.get ⟨rs,vars,bx⟩ a=t at h1⊢
 generalize ag.get ⟨rs,vars,bx⟩ b=u at h1⊢
 split at h1<;>try(cases h1;done)
 rename_i n cs m ys cI
 rw[cI]at h1⊢
 simp only[Option.ite_none_right_eq_some]at h1
 obtain⟨⟨c1,c2,c3,c4,c5,c6,c7⟩,h1⟩:=h1
 have c6':bx[s]? =some none:=by rw[qA];exact c6
 simp only[c6']
 rw[if_pos ⟨c1,c2,c3,c4,c5,c7⟩]
 exact h1
noncomputable def CR(E:Env):lg:=fun f as=>dI E f as
theorem LX{d:Nat}{ad:List Nat}{f:FuncId}{as:List T}{p:T×St}(h:ae.ez (CR E) σ d ad f as=some p):∃n,ae.ez (aV E n) σ d ad f as=some p:=by
 unfold ae.ez at h
 simp only at h
 split at h<;>try(cases h;done)
 rename_i r os hc
 obtain⟨n,hn⟩:=CN hc
 refine⟨n, ?_⟩
 unfold ae.ez
 simp only[hn]
 exact h
theorem UP{d:Nat}{ad:List Nat}{f:FuncId}{as:List T}{p:T×St}(h:ae.dL (CR E) σ d ad f as=some p):∃n,ae.dL (aV E n) σ d ad f as=some p:=by
 unfold ae.dL at h
 split at h
 ·cases h
 ·rename_i hr
  split at h<;>try(cases h;done)
  rename_i r os hc
  obtain⟨n,hn⟩:=CN hc
  refine⟨n, ?_⟩
  unfold ae.dL
  rw[if_neg hr]
  simp only[hn]
  exact h
theorem CO{d ad f as}(h:P1 E (ae.ez (CR E) ⟨rs,vars,bx⟩ d ad f (as.map (ag.get ⟨rs,vars,bx⟩))) rest outs k Q):O E ((none,.callio d ad f as)::rest) outs k ⟨rs,vars,bx⟩ Q:=by
 unfold O
 rw[eu]
 obtain⟨p,h1,h2⟩:=h
 obtain⟨n,hn⟩:=LX h1
 exact⟨n,p,hn,h2⟩
theorem Ab{d ad f as}(h:P1 E (ae.dL (CR E) ⟨rs,vars,bx⟩ d ad f (as.map (ag.get ⟨rs,vars,bx⟩))) rest outs k Q):O E ((none,.callnew d ad f as)::rest) outs k ⟨rs,vars,bx⟩ Q:=by
 unfold O
 rw[eu]
 obtain⟨p,h1,h2⟩:=h
 obtain⟨n,hn⟩:=UP h1
 exact⟨n,p,hn,h2⟩
theorem yd{d:Nat}{ad:List Nat}{f:FuncId}{as:List T}{r:T}{os:List T}(h0:aZ as=false)(h:dI E (an+f) [.al (as.map fun t=>t.fG.aj (iU []) fun _=>none),.al []]=some (.al [r,.al os]))
  (h1:os.length=2*ad.length∧ad.all (fun s=>s%2==0&&dK σ.boxes s&&dK σ.boxes (s+1)&&σ.ay s&&σ.ay (s+1))∧ad.Nodup):
  ae.dL (CR E) σ d ad f as=some (r.aj (dC [] ad) (fH d),{σ.strip (2*d)with boxes:=eJ (dC [] ad) (fH d) (os.map eD) 0 (σ.strip (2*d)).boxes}):=by
 unfold ae.dL
 rw[h0]
 simp only[Bool.false_eq_true,if_false]
 have:CR E (an+f) [.al (as.map fun t=>t.fG.aj (iU []) fun _=>none),.al []]=some (.al [r,.al os]):=h
 rw[this]
 simp only
 rw[if_pos h1]
theorem xd{d:Nat}{ad:List Nat}{f:FuncId}{as:List T}{r:T}{os:List T}{ss fs:List Nat}{BC ins:List T}(R6:reach σ.boxes 10000 [] (dZ as)=ss)(R5:(ss.flatMap fun s=>gX ((ai σ.boxes s).getD []))=fs)
  (has:(as.map fun t=>t.fG.aj (iU ss) fun _=>none)=BC) (abg:((List.range (2*ss.length)).map fun l=>As (((fF ss l).bind (ai σ.boxes)).map (ah (iU ss) (rM fs))))=ins)
  (h:dI E (an+f) [.al BC,.al ins]=some (.al [r,.al os]))
  (h1:os.length=2*(ss.length+ad.length)∧ad.all (fun s=>s%2==0&&dK σ.boxes s&&dK σ.boxes (s+1)&& !ss.contains s&& !ss.contains (s+1))∧ad.Nodup∧ss.Nodup∧ss.all (fun s=>(ai σ.boxes s).isSome)):
  ae.ez (CR E) σ d ad f as=some (r.aj (dC ss ad) (fH d),⟨ah (jb ss os) (gu d fs) σ.rs,ah (jb ss os) (gu d fs) σ.vars,
     eJ (dC ss ad) (fH d) (os.map eD) 0 (σ.boxes.map (Option.map (ah (jb ss os) (gu d fs))))⟩):=by
 subst R6 R5 has abg
 unfold ae.ez
 simp only
 have:CR E (an+f) _=_:=h
 rw[this]
 simp only
 rw[if_pos h1]
end
def Na(res:List Ar)(canon:List CM)(nb n:Nat)(r:T):Out→Prop
 | .norm σ=>(c9 σ res canon).map (fV nb n σ.boxes)=some r
 | .exit _ _=>False
 | .ret σ=>(c9 σ res canon).map (fV nb n σ.boxes)=some r
@[simp] theorem akg(res canon nb n r)(σ:St):Na res canon nb n r (.norm σ)=((c9 σ res canon).map (fV nb n σ.boxes)=some r):=rfl
@[simp] theorem al5(res canon nb n r)(σ:St):Na res canon nb n r (.ret σ)=((c9 σ res canon).map (fV nb n σ.boxes)=some r):=rfl
@[simp] theorem al6(bx:List (Option (List T)))(n:Nat)(seen:List Nat):reach bx (n+1) seen []=seen:=rfl
@[simp] theorem akh(bx:List (Option (List T)))(n:Nat)(seen:List Nat)(s:Nat)(todo:List Nat):reach bx (n+1) seen (s::todo)=if seen.contains s then reach bx n seen todo else reach bx n (seen++[s]) (dZ ((ai bx s).getD [])++todo):=rfl
@[simp] theorem aki:dZ []=[]:=by simp only[dZ]
@[simp] theorem aiM(t:T)(ts:List T):dZ (t::ts)=t.refs++dZ ts:=by simp only[dZ]
@[simp] theorem aqu(x:Value):(T.v x).refs=[]:=by simp only[T.refs]
@[simp] theorem akj:(T.undef).refs=[]:=by simp only[T.refs]
@[simp] theorem ap3(g n cs):(T.sl g n cs).refs=[]:=by simp only[T.refs]
@[simp] theorem anV(s o):(T.ref s o).refs=[s]:=by simp only[T.refs]
@[simp] theorem anW(s o n c):(T.au s o n c).refs=[s]:=by simp only[T.refs]
@[simp] theorem al7(s):(T.aQ s).refs=[s]:=by simp only[T.refs]
@[simp] theorem anX(cs):(T.al cs).refs=dZ cs:=by simp only[T.refs]
@[simp] theorem al8(cs:List T):As (some cs)= .agg cs:=rfl
@[simp] theorem al9:As none= .undef:=rfl
@[simp] theorem anY(cs:List T):eD (.agg cs)=some cs:=rfl
@[simp] theorem akk:eD .undef=none:=rfl
theorem FZ{E:Env}{f:FuncId}{args ins:List T}{r:T}{fn:aC}(hp:E.kF (an+f)=none)(pZ:E.fn f=some fn)(hs:fn.split=false)(hl:args.length=fn.nparams)(hi:ins.length%2=0)
  (h:M E fn.body [] ⟨[],(args.map (T.aj (fun l=>some (l+2*fn.eK)) some))++List.replicate (fn.kj-fn.nparams) .undef,List.replicate (2*fn.eK) none++(ins.map eD).map (Option.map (ah (fun l=>some (l+2*fn.eK)) some))⟩ (Na fn.results fn.canon (2*fn.eK) (ins.length / 2) r)):
  Ev E (an+f) [.al args,.al ins] r:=by
 obtain⟨n,o,h1,h2⟩:=h
 refine⟨n+1, ?_⟩
 have hlt:¬an+f< an:=Nat.not_lt.2 (Nat.le_add_right _ _)
 simp only[aV,hp,if_neg hlt,Nat.add_sub_cancel_left,pZ,jd,hs,Bool.false_eq_true,if_false,nA,List.length_map,hl,hi,true_and,if_true]
 have uF:exec (aV E n) n fn.body {rs:=[],vars:=(args.map (T.aj (fun l=>some (l+2*fn.eK)) some))++List.replicate (fn.kj-fn.nparams) .undef,boxes:=List.replicate (2*fn.eK) none++(ins.map eD).map (Option.map (ah (fun l=>some (l+2*fn.eK)) some))}=some o:=h1
 rw[uF]
 cases o with
 |norm σ=>exact h2
 |exit=>exact h2.elim
 |ret σ=>exact h2
theorem abX{E:Env}{args:List T}{ins:List (Option (List T))}{r:T}{fn:aC}(hl:args.length=fn.nparams)(hi:ins.length%2=0)
  (h:M E fn.body [] ⟨[],(args.map (T.aj (fun l=>some (l+2*fn.eK)) some))++List.replicate (fn.kj-fn.nparams) .undef,List.replicate (2*fn.eK) none++ins.map (Option.map (ah (fun l=>some (l+2*fn.eK)) some))⟩ (Na fn.results fn.canon (2*fn.eK) (ins.length / 2) r)):
  ∃n,nA (aV E n) n fn args ins=some r:=by
 obtain⟨n,o,h1,h2⟩:=h
 refine⟨n, ?_⟩
 simp only[nA,hl,hi,true_and,if_true]
 rw[h1]
 cases o with
 |norm σ=>exact h2
 |exit=>exact h2.elim
 |ret σ=>exact h2
theorem UQ{E:Env}{f:FuncId}{args ins:List T}{r:T}{fn:aC}(hp:E.kF (an+f)=none)(pZ:E.fn f=some fn)(hs:fn.split=true)(hr:(splits args).length≤1∨T.same r r=true)(hne:splits args≠[])
  (h:∀as∈splits args,∃n,nA (aV E n) n fn as (ins.map eD)=some r):Ev E (an+f) [.al args,.al ins] r:=by
 have hlt:¬an+f< an:=Nat.not_lt.2 (Nat.le_add_right _ _)
 have mono:∀{n m:Nat} {as:List T},n≤m→nA (aV E n) n fn as (ins.map eD)=some r→nA (aV E m) m fn as (ins.map eD)=some r:=fun hm e=>by
  unfold nA at e⊢
  simp only at e⊢
  split at e<;>try(cases e;done)
  rename_i hp
  rw[if_pos hp]
  split at e
  ·rename_i he;rw[cC (ef hm) hm he];exact e
  ·rename_i he;rw[cC (ef hm) hm he];exact e
  ·cases e
 obtain⟨n,hn⟩:∃n,∀as∈splits args,nA (aV E n) n fn as (ins.map eD)=some r:=by
  revert h
  generalize splits args=l
  intro h
  clear hne
  induction l with
  |nil=>exact⟨0,fun _ h=>by cases h⟩
  |cons a l ih=>
   obtain⟨n,hn⟩:=ih fun as has=>h as (List.mem_cons_of_mem _ has)
   obtain⟨m,hm⟩:=h a (List.mem_cons_self ..)
   refine⟨max n m,fun as has=> ?_⟩
   rcases List.mem_cons.1 has with rfl|has
   ·exact mono (Nat.le_max_right ..) hm
   ·exact mono (Nat.le_max_left ..) (hn as has)
 refine⟨n+1, ?_⟩
 simp only[aV,hp,if_neg hlt,Nat.add_sub_cancel_left,pZ,jd,hs,if_true]
 have iy:∀l:List (List T),(∀as∈l,nA (aV E n) n fn as (ins.map eD)=some r)→l.mapM (fun as=>nA (aV E n) n fn as (ins.map eD))=some (List.replicate l.length r):=fun l=>by
  induction l with
  |nil=>intro _;rfl
  |cons a l ih=>
   intro h
   simp only[List.mapM_cons,h a (List.mem_cons_self ..),Option.bind_eq_bind,Option.bind_some,ih fun as has=>h as (List.mem_cons_of_mem _ has),Option.pure_def,List.length_cons,List.replicate_succ]
 rw[iy _ hn]
 cases fA:splits args with
 |nil=>exact absurd fA hne
 |cons a l=>
  simp only[List.length_cons,List.replicate_succ]
  rw[if_pos]
  refine List.all_eq_true.2 fun x hx=> ?_
  obtain⟨h1,h2⟩:=List.mem_replicate.1 hx
  rw[h2]
  rcases hr with hr|hr
  ·rw[fA,List.length_cons]at hr;omega
  ·exact hr
end Go.Vi
end
section
namespace Go.Vi
open Go
def I5(J:St→Prop):Out→Prop
 | .norm σ=>J σ
 |_=>False
@[simp] theorem akl(J σ):I5 J (.norm σ)=J σ:=rfl
@[simp] theorem akm(J id σ):I5 J (.exit id σ)=False:=rfl
@[simp] theorem ama(J σ):I5 J (.ret σ)=False:=rfl
def roundOf(E:Env)(n:Nat)(a b:IC)(σ:St):Option Out:=match exec (aV E n) n a σ with
 |some (.norm az)=>exec (aV E n) n b az
 |_=>none
theorem Ro{E:Env}{n:Nat}{a b:IC}{σ σ':St}(h:exec (aV E n) n (.seq a b) σ=some (.norm σ')):roundOf E n a b σ=some (.norm σ'):=by
 simp only[exec]at h
 unfold roundOf
 cases ho:exec (aV E n) n a σ with
 |none=>rw[ho]at h;cases h
 |some o=>
  rw[ho]at h
  cases o with
  |norm az=>exact h
  |exit j az=>cases h
  |ret az=>cases h
section
variable{E:Env}{k:List Fr}{σ:St}{Q:Out→Prop}
theorem LY{K:Nat}{ps:List Nat}{a b:IC}{Iu:List T}(I:Nat→List T→List (Option (List T))→Prop)
  (hstep:∀j t vars bx,Iu[j]? =some t→I j vars bx→∃y,t= .al y∧y.length=ps.length∧M E (.seq a b) [] ⟨[],cM ps y (ah (fun s=>some (s+K)) (fun _=>none) vars),dD K bx⟩
   (I5 fun σ'=>I (j+1) (fv (bD K σ'.boxes) vars) (bD K σ'.boxes))):
  ∀(ys:List T) (j:Nat) (vars:List T) (bx:List (Option (List T))),j≤Iu.length→Iu.drop j=ys→I j vars bx→∃n vars' bx',I Iu.length vars' bx'∧∀m,n≤m→ml (roundOf E m a b) K ps ys vars bx=some ⟨[],vars',bx'⟩
 | [],j,vars,bx,hle,hd,hI=>by
  have hj:Iu.length≤j:=by simpa using hd
  have:j=Iu.length:=by omega
  subst this
  exact⟨0,vars,bx,hI,fun m _=>rfl⟩
 |t::ys,j,vars,bx,hle,hd,hI=>by
  have ht:Iu[j]? =some t:=by
   have:=congrArg (·[0]?) hd
   simpa using this
  obtain⟨y,rfl,hl,n1,o,h1,h2⟩:=hstep j t vars bx ht hI
  cases o with
  |exit=>exact h2.elim
  |ret=>exact h2.elim
  |norm σ'=>
   have gR:Iu.drop (j+1)=ys:=by rw[←List.drop_drop,hd];rfl
   obtain⟨n2,vars',bx',xV,h3⟩:=LY I hstep ys (j+1) _ _ (by have:=(List.getElem?_eq_some_iff.1 ht).1;omega) gR h2
   refine⟨max n1 n2,vars',bx',xV,fun m hm=> ?_⟩
   have he:=Ro (cC (ef (E:=E) (show n1≤m by omega)) (show n1≤m by omega) h1)
   simp only[ml]
   rw[if_pos hl,he]
   exact h3 m (by omega)
section
variable{outs:List (Option Nat)}{rest:nQ}(rs vars:List T)(bx:List (Option (List T)))
@[simp] theorem ap4(d e bytes n):O E ((none,.mkCap d e bytes n)::rest) outs k ⟨rs,vars,bx⟩ Q=
  P1 E ((asNat (n.get ⟨rs,vars,bx⟩)).bind fun m=>if m*bytes≤room∧m≤room then some (T.sl (.own (8*d) e) 0 [],St.strip (2*d) ⟨rs,vars,bx⟩)else none) rest outs k Q:=by
 have hrun:ae C0 ⟨rs,vars,bx⟩ (.mkCap d e bytes n)=(asNat (n.get ⟨rs,vars,bx⟩)).bind fun m=>if m*bytes≤room∧m≤room then some (T.sl (.own (8*d) e) 0 [],St.strip (2*d) ⟨rs,vars,bx⟩)else none:=by
  simp only[ae]
  cases asNat (n.get ⟨rs,vars,bx⟩)<;>rfl
 rw[bE rfl,hrun]
end
theorem F0{K:Nat}{g:ag}{ps:List Nat}{a b:IC}{f:FuncId}{caps cs ys:List T}{ss:List Nat}(I:Nat→List T→List (Option (List T))→Prop)(hg:eQ (g.get σ)=some (f,[],caps))
  (R6:reach σ.boxes 10000 [] (dZ caps)=ss) (bV:(ah (fun s=>if ss.contains s then some s else none) (fun _=>none) caps).mapM (close (jc ss σ.boxes) 8)=some cs) (hev:Ev E (an+f) [.al cs] (.al ys))
  (h0:I 0 (ah (fun s=>if ss.contains s then none else some s) (fun _=>none) σ.vars) (vQ ss σ.boxes))
  (hstep:∀j t vars bx,ys[j]? =some t→I j vars bx→∃y,t= .al y∧y.length=ps.length∧M E (.seq a b) [] ⟨[],cM ps y (ah (fun s=>some (s+K)) (fun _=>none) vars),dD K bx⟩
   (I5 fun σ'=>I (j+1) (fv (bD K σ'.boxes) vars) (bD K σ'.boxes)))
  (Hy:∀vars bx,I ys.length vars bx→N E k (if vR ys&&ss.all (fun s=>dK bx s)then⟨[],vars,pw ss (jc ss σ.boxes) bx⟩else⟨[],vars,bx⟩) Q):M E (.range K g ps a b) k σ Q:=by
 obtain⟨n1,h1⟩:=hev
 obtain⟨n2,vars',bx',hI,h2⟩:=LY I hstep ys 0 _ _ (Nat.zero_le _) rfl h0
 refine⟨max n1 n2,_, ?_,Hy vars' bx' hI⟩
 have hc:=ef (E:=E) (show n1≤max n1 n2 by omega) _ _ _ h1
 have hr:=h2 (max n1 n2) (by omega)
 simp only[exec,hg,R6,bV,Option.bind_some,hc]
 exact(congrArg (Option.map _) hr).trans rfl
theorem G2{f:FuncId}{args:List T}{r:T}{fn:aC}(hp:E.kF f=none)(hf:f< an)(pZ:E.fn f=some fn)(hs:splits args=[args])(hl:args.length=fn.nparams)
  (h:M E fn.body [] ⟨[],args++List.replicate (fn.kj-fn.nparams) .undef,List.replicate (2*fn.eK) none⟩ (OU fn.results fn.canon r)):Ev E f args r:=by
 obtain⟨n,o,h1,h2⟩:=h
 have key:sK (aV E n) n fn args=some r:=by
  simp only[sK,if_pos hl,h1]
  cases o with
  |norm σ=>exact h2
  |exit j σ=>exact h2.elim
  |ret σ=>exact h2
 refine⟨n+1, ?_⟩
 simp only[aV,hp,if_pos hf,pZ,jd]
 split
 ·simp[hs,key]
 ·exact key
end
end Go.Vi
end
section
namespace Go.Vi
open Go
abbrev Ys:=List (List T)
def E4(E:Env)(o:IOp)(σ:St)(K:T→St→Ys→Prop):Prop:=∃n p,rN (aV E n) 0 σ o=some p∧K p.1 p.2.1 p.2.2
def kP(E:Env):nQ→St→Ys→(St→Ys→Prop)→Prop
 | [],σ,zs,K=>K σ zs
 |(none,o)::rest,σ,zs,K=>E4 E o σ fun t σ' ws=>kP E rest {σ' with rs:=snoc σ'.rs t} (zs++ws) K
 |(some (j,w),o)::rest,σ,zs,K=>zn (cp σ.rs j) w (E4 E o σ fun t σ' ws=>kP E rest {σ' with rs:=snoc σ'.rs t} (zs++ws) K) (kP E rest {σ with rs:=snoc σ.rs T.bJ} zs K)
theorem q8{E:Env}:∀{ops:nQ} {σ:St} {zs:Ys} {K:St→Ys→Prop},kP E ops σ zs K→∃n σ' ws,nm (aV E n) 0 σ ops=some (σ',ws)∧K σ' (zs++ws)
 | [],σ,zs,K,h=>⟨0,σ,[],rfl,by rw[List.append_nil];exact h⟩
 |(none,o)::rest,σ,zs,K,h=>by
  obtain⟨n,⟨t,az,ws⟩,h1,h2⟩:=h
  obtain⟨m,σ',OW,h3,h4⟩:=q8 h2
  refine⟨max n m,σ',ws++OW, ?_,by rw[←List.append_assoc];exact h4⟩
  simp only[nm,bU,Option.bind_some,if_true]
  rw[Hn (le_max E n m).1 h1,Option.bind_some,vH]
  rw[wJ (le_max E n m).2 h3]
  rfl
 |(some (j,w),o)::rest,σ,zs,K,h=>by
  unfold kP at h
  rw[←np]at h
  unfold zn at h
  split at h
  ·rename_i b hb
   split at h
   ·rename_i hw
    obtain⟨n,⟨t,az,ws⟩,h1,h2⟩:=h
    obtain⟨m,σ',OW,h3,h4⟩:=q8 h2
    refine⟨max n m,σ',ws++OW, ?_,by rw[←List.append_assoc];exact h4⟩
    have DP:bU σ.rs (some (j,w))=some true:=by simp only[bU,hb];rw[hw]
    simp only[nm,DP,Option.bind_some,if_true]
    rw[Hn (le_max E n m).1 h1,Option.bind_some,vH]
    rw[wJ (le_max E n m).2 h3]
    rfl
   ·rename_i hw
    obtain⟨m,σ',OW,h3,h4⟩:=q8 h
    refine⟨m,σ',OW, ?_,h4⟩
    have DP:bU σ.rs (some (j,w))=some false:=by simp only[bU,hb];simpa using hw
    simp only[nm,DP,Option.bind_some,Bool.false_eq_true,if_false,vH]
    exact h3
  ·rename_i hb
   obtain⟨m,σ',OW,h3,h4⟩:=q8 h
   refine⟨m,σ',OW, ?_,h4⟩
   have DP:bU σ.rs (some (j,w))=some false:=by simp only[bU,hb]
   simp only[nm,DP,Option.bind_some,Bool.false_eq_true,if_false,vH]
   exact h3
  ·exact h.elim
section
variable{E:Env}{K:T→St→Ys→Prop}(rs vars:List T)(bx:List (Option (List T)))
def dA(σ:St)(o:IOp):Bool:=o.reads.all fun x=> !fi (x.get σ)
def Km:IOp→Bool
 | .mv _=>true
 |_=>false
theorem LZ{o:IOp}(h:o.Aa=true)(hm:Km o=false)(C:lg)(l:Nat)(σ:St):rN C l σ o=mD C σ o:=by
 cases o<;>first|rfl|(simp[Km]at hm;done)|(simp[IOp.Aa]at h;done)
theorem OX{o:IOp}(h:o.Aa=true)(hm:Km o=false):E4 E o ⟨rs,vars,bx⟩ K=(dA ⟨rs,vars,bx⟩ o=true∧dp (ae C0 ⟨rs,vars,bx⟩ o) fun p=>fi p.1=false∧K p.1 p.2 []):=by
 refine propext ⟨fun⟨n,p,h1,h2⟩=> ?_,fun⟨hr,p,h1,h2,h3⟩=>⟨0,(p.1,p.2,[]), ?_,h3⟩⟩
 ·rw[LZ h hm]at h1
  unfold mD at h1
  split at h1
  ·rename_i hr
   refine⟨hr, ?_⟩
   obtain⟨q,h3,h4⟩:=Option.bind_eq_some_iff.1 h1
   split at h4
   ·cases h4
   ·rename_i hy
    simp only[Option.some.injEq]at h4
    subst h4
    exact⟨q,by rw[yc h C0 (aV E n)];exact h3,by simpa using hy,h2⟩
  ·cases h1
 ·rw[LZ h hm]
  unfold mD
  unfold dA at hr
  rw[if_pos hr,yc h _ C0,h1,Option.bind_some,h2]
  rfl
theorem ag1{o:IOp}(h:Kl o=true)(hm:Km o=false):E4 E o ⟨rs,vars,bx⟩ K=(dA ⟨rs,vars,bx⟩ o=true∧iX ⟨rs,vars,bx⟩ o∧fi (gS ⟨rs,vars,bx⟩ o)=false∧K (gS ⟨rs,vars,bx⟩ o) ⟨rs,vars,bx⟩ []):=by
 rw[OX rs vars bx (Sq h) hm]
 unfold iX gS
 cases hr:ae C0 ⟨rs,vars,bx⟩ o with
 |none=>simp[aW]
 |some p=>
  have:=adh h hr
  rw[bc,this];simp
theorem ag2(i:Nat):E4 E (.mv (.x i)) ⟨rs,vars,bx⟩ K=K (ag.get ⟨rs,vars,bx⟩ (.x i)) ⟨rs,vars,bx⟩ []:=
 propext ⟨fun⟨n,p,h,hk⟩=>by simp only[rN,Option.some.injEq]at h;subst h;exact hk,fun h=>⟨0,_,rfl,h⟩⟩
theorem aeO(i:Nat):E4 E (.mv (.r i)) ⟨rs,vars,bx⟩ K=K (ag.get ⟨rs,vars,bx⟩ (.r i)) ⟨rs,vars,bx⟩ []:=
 propext ⟨fun⟨n,p,h,hk⟩=>by simp only[rN,Option.some.injEq]at h;subst h;exact hk,fun h=>⟨0,_,rfl,h⟩⟩
theorem aeP(t:T):E4 E (.mv (.c t)) ⟨rs,vars,bx⟩ K=(fi t=false∧K t ⟨rs,vars,bx⟩ []):=by
 refine propext ⟨fun⟨n,p,h,hk⟩=> ?_,fun⟨h,hk⟩=>⟨0,(t,⟨rs,vars,bx⟩,[]),by simp only[rN,h];rfl,hk⟩⟩
 simp only[rN]at h
 split at h
 ·cases h
 ·rename_i hy;simp only[Option.some.injEq]at h;subst h;exact⟨by simpa using hy,hk⟩
theorem XQ(d i:Nat)(as:List ag)(hg:ag.get ⟨rs,vars,bx⟩ (.r i)=yT 0)(h1:(as.map (ag.get ⟨rs,vars,bx⟩)).all scal=true)(h2:(as.map (ag.get ⟨rs,vars,bx⟩)).all (fun t=> !fi t)=true)(h:K (T.bool true) ⟨rs,vars,bx⟩ [as.map (ag.get ⟨rs,vars,bx⟩)]):E4 E (.callv d (.r i) as) ⟨rs,vars,bx⟩ K:=by
 refine⟨0,(T.bool true,⟨rs,vars,bx⟩,[as.map (ag.get ⟨rs,vars,bx⟩)]), ?_,h⟩
 simp only[rN,hg]
 rw[if_pos (show fi (yT 0)=true from rfl)]
 simp only[yT,A8,h1,h2]
 rfl
theorem abY(d:Nat)(f:FuncId)(as:List ag)(cs:List T)(r:T)(hc:(as.map (ag.get ⟨rs,vars,bx⟩)).mapM (close bx 6)=some cs)(hf:f< an)(hE:dI E f cs=some r)(hr:dA ⟨rs,vars,bx⟩ (.call d f as)=true)(hn:(aZ (as.map (ag.get ⟨rs,vars,bx⟩))&& !r.fresh)=false)(hy:fi (r.import d)=false)
  (h:K (r.import d) ⟨stripL (2*d) rs,stripL (2*d) vars,bx.map (Option.map (stripL (2*d)))⟩ []):E4 E (.call d f as) ⟨rs,vars,bx⟩ K:=by
 obtain⟨n,nK⟩:=CN hE
 refine⟨n,(r.import d,St.strip (2*d) ⟨rs,vars,bx⟩,[]), ?_,h⟩
 show mD (aV E n) ⟨rs,vars,bx⟩ (.call d f as)=_
 unfold mD
 unfold dA at hr
 rw[if_pos hr]
 have:ae (aV E n) ⟨rs,vars,bx⟩ (.call d f as)=some (r.import d,St.strip (2*d) ⟨rs,vars,bx⟩):=by
  simp only[ae,ae.cW,hc,ue,if_pos hf,nK,Option.bind_eq_bind,Option.bind_some,hn,Bool.false_eq_true,if_false]
 rw[this,Option.bind_some,hy]
 rfl
theorem XR(d:Nat)(f:FuncId)(as:List ag)(h:dp ((as.map (ag.get ⟨rs,vars,bx⟩)).mapM (close bx 6)) fun cs=>dp (dI E f cs) fun r=>f< an∧dA ⟨rs,vars,bx⟩ (.call d f as)=true∧(aZ (as.map (ag.get ⟨rs,vars,bx⟩))&& !r.fresh)=false∧fi (r.import d)=false∧K (r.import d) ⟨stripL (2*d) rs,stripL (2*d) vars,bx.map (Option.map (stripL (2*d)))⟩ []):E4 E (.call d f as) ⟨rs,vars,bx⟩ K:=by
 obtain⟨cs,h1,r,h2,h3,h4,h5,h6,h7⟩:=h
 exact abY rs vars bx d f as cs r h1 h3 h2 h4 h5 h6 h7
end
def me(E:Env)(o:IOp)(rest:nQ)(σ:St)(zs:Ys)(K:St→Ys→Prop):Prop:=E4 E o σ fun t σ' ws=>kP E rest {σ' with rs:=snoc σ'.rs t} (zs++ws) K
def Sx(E:Env)(g:Option T)(w:Bool)(o:IOp)(rest:nQ)(σ:St)(zs:Ys)(K:St→Ys→Prop):Prop:=zn g w (me E o rest σ zs K) (kP E rest {σ with rs:=snoc σ.rs T.bJ} zs K)
def op2(E:Env)(r:Option (T×St))(rest:nQ)(zs:Ys)(K:St→Ys→Prop):Prop:=dp r fun p=>fi p.1=false∧kP E rest ⟨snoc p.2.rs p.1,p.2.vars,p.2.boxes⟩ zs K
section
variable{E:Env}{rest:nQ}{zs:Ys}{K:St→Ys→Prop}(rs vars:List T)(bx:List (Option (List T)))
@[simp] theorem abZ(σ):kP E [] σ zs K=K σ zs:=rfl
@[simp] theorem amb(o σ):kP E ((none,o)::rest) σ zs K=me E o rest σ zs K:=rfl
@[simp] theorem amc(j w o σ):kP E ((some (j,w),o)::rest) σ zs K=Sx E (cp σ.rs j) w o rest σ zs K:=rfl
@[simp] theorem anZ(o σ):Sx E (some (.v (.bool true))) true o rest σ zs K=me E o rest σ zs K:=rfl
@[simp] theorem amd(o σ):Sx E (some (.v (.bool false))) false o rest σ zs K=me E o rest σ zs K:=rfl
@[simp] theorem ame(o):Sx E (some (.v (.bool false))) true o rest ⟨rs,vars,bx⟩ zs K=kP E rest ⟨snoc rs T.bJ,vars,bx⟩ zs K:=rfl
@[simp] theorem akn(o):Sx E (some (.v (.bool true))) false o rest ⟨rs,vars,bx⟩ zs K=kP E rest ⟨snoc rs T.bJ,vars,bx⟩ zs K:=rfl
@[simp] theorem an0(w o):Sx E (some T.bJ) w o rest ⟨rs,vars,bx⟩ zs K=kP E rest ⟨snoc rs T.bJ,vars,bx⟩ zs K:=rfl
@[simp] theorem ab0(t:T):op2 E (some (t,⟨rs,vars,bx⟩)) rest zs K=(fi t=false∧kP E rest ⟨snoc rs t,vars,bx⟩ zs K):=bc _ _
theorem zo{o:IOp}(h:Kl o=true)(hm:Km o=false):me E o rest ⟨rs,vars,bx⟩ zs K=(dA ⟨rs,vars,bx⟩ o=true∧iX ⟨rs,vars,bx⟩ o∧fi (gS ⟨rs,vars,bx⟩ o)=false∧kP E rest ⟨snoc rs (gS ⟨rs,vars,bx⟩ o),vars,bx⟩ zs K):=by
 unfold me
 rw[ag1 rs vars bx h hm]
 show(_∧_∧_∧kP E rest ⟨_,vars,bx⟩ (zs++[]) K)=_
 rw[List.append_nil]
theorem vI{o:IOp}(h:o.Aa=true)(hm:Km o=false):me E o rest ⟨rs,vars,bx⟩ zs K=(dA ⟨rs,vars,bx⟩ o=true∧op2 E (ae C0 ⟨rs,vars,bx⟩ o) rest zs K):=by
 unfold me
 rw[OX rs vars bx h hm]
 simp only[List.append_nil]
 rfl
abbrev ru(E:Env)(o:IOp)(rest:nQ)(rs vars:List T)(bx:List (Option (List T)))(zs:Ys)(K:St→Ys→Prop):Prop:=dA ⟨rs,vars,bx⟩ o=true∧iX ⟨rs,vars,bx⟩ o∧fi (gS ⟨rs,vars,bx⟩ o)=false∧kP E rest ⟨snoc rs (gS ⟨rs,vars,bx⟩ o),vars,bx⟩ zs K
abbrev I6(E:Env)(o:IOp)(rest:nQ)(rs vars:List T)(bx:List (Option (List T)))(zs:Ys)(K:St→Ys→Prop):Prop:=dA ⟨rs,vars,bx⟩ o=true∧op2 E (ae C0 ⟨rs,vars,bx⟩ o) rest zs K
@[simp] theorem ap5(a b c d):me E (.bin a b c d) rest ⟨rs,vars,bx⟩ zs K=ru E (.bin a b c d) rest rs vars bx zs K:=zo rs vars bx rfl rfl
@[simp] theorem aqv(a b):me E (.un a b) rest ⟨rs,vars,bx⟩ zs K=ru E (.un a b) rest rs vars bx zs K:=zo rs vars bx rfl rfl
@[simp] theorem an1(a b c):me E (.load a b c) rest ⟨rs,vars,bx⟩ zs K=ru E (.load a b c) rest rs vars bx zs K:=zo rs vars bx rfl rfl
@[simp] theorem ap6(a b):me E (.len a b) rest ⟨rs,vars,bx⟩ zs K=ru E (.len a b) rest rs vars bx zs K:=zo rs vars bx rfl rfl
@[simp] theorem ako(a b c):me E (.iaddrS a b c) rest ⟨rs,vars,bx⟩ zs K=ru E (.iaddrS a b c) rest rs vars bx zs K:=zo rs vars bx rfl rfl
@[simp] theorem amf(a b):me E (.faddr a b) rest ⟨rs,vars,bx⟩ zs K=ru E (.faddr a b) rest rs vars bx zs K:=zo rs vars bx rfl rfl
@[simp] theorem an2(a b c):me E (.pick a b c) rest ⟨rs,vars,bx⟩ zs K=ru E (.pick a b c) rest rs vars bx zs K:=zo rs vars bx rfl rfl
@[simp] theorem amg(a b):me E (.alloc a b) rest ⟨rs,vars,bx⟩ zs K=I6 E (.alloc a b) rest rs vars bx zs K:=vI rs vars bx rfl rfl
@[simp] theorem amh(a b c):me E (.store a b c) rest ⟨rs,vars,bx⟩ zs K=I6 E (.store a b c) rest rs vars bx zs K:=vI rs vars bx rfl rfl
@[simp] theorem ami(a b):me E (.build a b) rest ⟨rs,vars,bx⟩ zs K=I6 E (.build a b) rest rs vars bx zs K:=vI rs vars bx rfl rfl
@[simp] theorem akp(a b c d e):me E (.sliceA a b c d e) rest ⟨rs,vars,bx⟩ zs K=I6 E (.sliceA a b c d e) rest rs vars bx zs K:=vI rs vars bx rfl rfl
@[simp] theorem akq(a b c d e f):me E (.bslice a b c d e f) rest ⟨rs,vars,bx⟩ zs K=I6 E (.bslice a b c d e f) rest rs vars bx zs K:=vI rs vars bx rfl rfl
@[simp] theorem akr(d e sz bytes zero kind a b):me E (.append d e sz bytes zero kind a b) rest ⟨rs,vars,bx⟩ zs K=(dA ⟨rs,vars,bx⟩ (.append d e sz bytes zero kind a b)=true∧op2 E (AT ⟨rs,vars,bx⟩ d e sz bytes (a.get ⟨rs,vars,bx⟩) (iP bx kind sz zero (b.get ⟨rs,vars,bx⟩)) (match iP bx kind sz zero (b.get ⟨rs,vars,bx⟩)with|some (_,ys)=>dJ (b.get ⟨rs,vars,bx⟩) ys|none=>false)) rest zs K):=by
 rw[vI rs vars bx rfl rfl,Sv]<;>rfl
@[simp] theorem aqw(i:Nat):me E (.mv (.x i)) rest ⟨rs,vars,bx⟩ zs K=kP E rest ⟨snoc rs (ag.get ⟨rs,vars,bx⟩ (.x i)),vars,bx⟩ zs K:=by unfold me;rw[ag2,List.append_nil]
@[simp] theorem ap7(i:Nat):me E (.mv (.r i)) rest ⟨rs,vars,bx⟩ zs K=kP E rest ⟨snoc rs (ag.get ⟨rs,vars,bx⟩ (.r i)),vars,bx⟩ zs K:=by unfold me;rw[aeO,List.append_nil]
@[simp] theorem ap8(t:T):me E (.mv (.c t)) rest ⟨rs,vars,bx⟩ zs K=(fi t=false∧kP E rest ⟨snoc rs t,vars,bx⟩ zs K):=by unfold me;rw[aeP,List.append_nil]
theorem XS(d i:Nat)(as:List ag)(hg:ag.get ⟨rs,vars,bx⟩ (.r i)=yT 0)(h1:(as.map (ag.get ⟨rs,vars,bx⟩)).all scal=true)(h2:(as.map (ag.get ⟨rs,vars,bx⟩)).all (fun t=> !fi t)=true)(h:kP E rest ⟨snoc rs (T.bool true),vars,bx⟩ (zs++[as.map (ag.get ⟨rs,vars,bx⟩)]) K):me E (.callv d (.r i) as) rest ⟨rs,vars,bx⟩ zs K:=
 XQ rs vars bx d i as hg h1 h2 h
theorem ab1(d:Nat)(f:FuncId)(as:List ag)(h:dp ((as.map (ag.get ⟨rs,vars,bx⟩)).mapM (close bx 6)) fun cs=>dp (dI E f cs) fun r=>f< an∧dA ⟨rs,vars,bx⟩ (.call d f as)=true∧(aZ (as.map (ag.get ⟨rs,vars,bx⟩))&& !r.fresh)=false∧fi (r.import d)=false∧kP E rest ⟨snoc (stripL (2*d) rs) (r.import d),stripL (2*d) vars,bx.map (Option.map (stripL (2*d)))⟩ zs K):me E (.call d f as) rest ⟨rs,vars,bx⟩ zs K:=by
 unfold me
 refine XR rs vars bx d f as ?_
 simp only[List.append_nil]
 exact h
end
def qC(E:Env):List Fr→(Out→Ys→Prop)→Out→Ys→Prop
 | [],Q=>Q
 | .seq b::k,Q=>fun o ys=>match o with
  | .norm σ=>∃n o' zs,aS (aV E n) 0 n b σ=some (o',zs)∧qC E k Q o' (ys++zs)
  | .exit j σ=>qC E k Q (.exit j σ) ys
  | .ret σ=>qC E k Q (.ret σ) ys
 | .xX id::k,Q=>fun o ys=>match o with
  | .norm σ=>qC E k Q (.norm σ) ys
  | .exit j σ=>if j=id then qC E k Q (.norm σ) ys else qC E k Q (.exit j σ) ys
  | .ret σ=>qC E k Q (.ret σ) ys
 | .nj::k,Q=>fun o ys=>match o with
  | .norm σ=>qC E k Q (.norm σ) ys
  | .exit j σ=>j< cE∧qC E k Q (.exit j σ) ys
  | .ret σ=>qC E k Q (.ret σ) ys
def MY(E:Env)(c:IC)(k:List Fr)(σ:St)(ys:Ys)(Q:Out→Ys→Prop):Prop:=∃n o zs,aS (aV E n) 0 n c σ=some (o,zs)∧qC E k Q o (ys++zs)
def NY(E:Env)(k:List Fr)(σ:St)(ys:Ys)(Q:Out→Ys→Prop):Prop:=qC E k Q (.norm σ) ys
def XY(E:Env)(id:Nat)(k:List Fr)(σ:St)(ys:Ys)(Q:Out→Ys→Prop):Prop:=qC E k Q (.exit id σ) ys
section
variable{E:Env}{k:List Fr}{σ:St}{ys:Ys}{Q:Out→Ys→Prop}
theorem I7:NY E [] σ ys Q=Q (.norm σ) ys:=rfl
theorem iJ(b):NY E (.seq b::k) σ ys Q=MY E b k σ ys Q:=rfl
theorem OY(id):NY E (.xX id::k) σ ys Q=NY E k σ ys Q:=rfl
theorem aks:NY E (.nj::k) σ ys Q=NY E k σ ys Q:=rfl
theorem XT(id):XY E id [] σ ys Q=Q (.exit id σ) ys:=rfl
theorem XU(id b):XY E id (.seq b::k) σ ys Q=XY E id k σ ys Q:=rfl
theorem XV(id j):XY E id (.xX j::k) σ ys Q=if id=j then NY E k σ ys Q else XY E id k σ ys Q:=rfl
theorem BR(h:NY E k σ ys Q):MY E .skip k σ ys Q:=⟨0,_,_,rfl,by rw[List.append_nil];exact h⟩
theorem Sy(id)(h:XY E id k σ ys Q):MY E (.exit id) k σ ys Q:=⟨0,_,_,rfl,by rw[List.append_nil];exact h⟩
theorem SA(vs)(h:NY E k {σ with vars:=er vs σ.vars} ys Q):MY E (.kill vs) k σ ys Q:=⟨0,_,_,rfl,by rw[List.append_nil];exact h⟩
theorem SD(ss){σ':St}(hf:cB ss σ=some σ')(h:NY E k σ' ys Q):MY E (.free ss) k σ ys Q:=⟨0,_,[],by simp only[aS,hf];rfl,by rw[List.append_nil];exact h⟩
theorem jC(a b)(h:MY E a (.seq b::k) σ ys Q):MY E (.seq a b) k σ ys Q:=by
 obtain⟨n,o,zs,h1,h2⟩:=h
 cases o with
 |norm σ'=>
  obtain⟨m,o',ws,h3,h4⟩:=h2
  refine⟨max n m,o',zs++ws, ?_,by rw[←List.append_assoc];exact h4⟩
  simp only[aS]
  rw[gp (le_max E n m).1 (Nat.le_max_left ..) h1]
  simp only
  rw[gp (le_max E n m).2 (Nat.le_max_right ..) h3]
  rfl
 |exit j σ'=>exact⟨n,_,zs,by simp only[aS,h1],h2⟩
 |ret σ'=>exact⟨n,_,zs,by simp only[aS,h1],h2⟩
theorem CP(id a)(h:MY E a (.xX id::k) σ ys Q):MY E (.block id a) k σ ys Q:=by
 obtain⟨n,o,zs,h1,h2⟩:=h
 cases o with
 |norm σ'=>exact⟨n,_,zs,by simp only[aS,h1],h2⟩
 |exit j σ'=>
  by_cases hj:j=id
  ·refine⟨n,.norm σ',zs,by simp only[aS,h1];rw[if_pos hj], ?_⟩
   simp only[qC,if_pos hj]at h2
   exact h2
  ·refine⟨n,.exit j σ',zs,by simp only[aS,h1];rw[if_neg hj], ?_⟩
   simp only[qC,if_neg hj]at h2
   exact h2
 |ret σ'=>exact⟨n,_,zs,by simp only[aS,h1],h2⟩
theorem XW(a)(h:MY E a (.nj::k) σ ys Q):MY E (.kT a) k σ ys Q:=by
 obtain⟨n,o,zs,h1,h2⟩:=h
 cases o with
 |norm σ'=>exact⟨n,_,zs,by simp only[aS,h1],h2⟩
 |exit j σ'=>exact⟨n,_,zs,by simp only[aS,h1];rw[if_pos h2.1],h2.2⟩
 |ret σ'=>exact⟨n,_,zs,by simp only[aS,h1],h2⟩
theorem uU(r:RF)(hd:r.draw=false)(h:kP E r.ops {σ with rs:=[]} [] fun σ' zs=>NY E k ⟨[],fJ σ'.rs σ'.vars r.outs,σ'.boxes⟩ (ys++zs) Q):MY E (.A5 r) k σ ys Q:=by
 obtain⟨n,σ',ws,h1,h2⟩:=q8 h
 refine⟨n,_,ws, ?_,h2⟩
 simp only[aS,h1,Option.bind_some,hd,Bool.false_eq_true,false_and,if_false]
theorem aeQ(r:RF)(h:kP E r.ops {σ with rs:=[]} [] fun σ' zs=>zs=[]∧NY E k ⟨[],fJ σ'.rs σ'.vars r.outs,σ'.boxes⟩ ys Q):MY E (.A5 r) k σ ys Q:=by
 obtain⟨n,σ',ws,h1,h2,h3⟩:=q8 h
 rw[List.nil_append]at h2
 subst h2
 refine⟨n,_,[], ?_,by rw[List.append_nil];exact h3⟩
 simp only[aS,h1,Option.bind_some,List.isEmpty_nil,Bool.true_eq_false,and_false,if_false]
theorem yx(c:ag)(a b:IC)(t:Bool)(hc:c.get σ= .v (.bool t))(h:if t then MY E a k σ ys Q else MY E b k σ ys Q):MY E (.cond c a b) k σ ys Q:=by
 cases t
 ·obtain⟨n,o,zs,h1,h2⟩:=h
  exact⟨n,o,zs,by simp only[aS,hc];exact h1,h2⟩
 ·obtain⟨n,o,zs,h1,h2⟩:=h
  exact⟨n,o,zs,by simp only[aS,hc];exact h1,h2⟩
def OZ(E:Env)(k:List Fr)(Q:Out→Ys→Prop)(S:St→Ys→Prop):Out→Ys→Prop
 | .norm σ,ys=>S σ ys
 | .exit id σ,ys=>XY E id k σ ys Q
 | .ret σ,ys=>qC E k Q (.ret σ) ys
theorem SE{a:IC}(n:Nat)(I:Nat→St→Ys→Prop)(h0:I 0 σ ys)(hstep:∀j σ ys,j≤n→I j σ ys→MY E a [] σ ys (OZ E k Q fun σ' Lp=>j< n∧I (j+1) σ' Lp)):MY E (.loop a) k σ ys Q:=by
 have key:∀d j σ ys,j≤n→n-j=d→I j σ ys→∃f o zs,(∀m,f≤m→kr (aS (aV E m) 0 m a) (d+1) σ=some (o,zs))∧qC E k Q o (ys++zs):=by
  intro d
  induction d with
  |zero=>
   intro j σ ys hj hd hI
   obtain⟨f,o,zs,h1,h2⟩:=hstep j σ ys hj hI
   have hm:=fun m (hm:f≤m)=>gp (ef (E:=E) hm) hm h1
   cases o with
   |norm σ'=>exact absurd h2.1 (by omega)
   |exit id σ'=>exact⟨f,_,zs,fun m h=>by simp only[kr,hm m h],h2⟩
   |ret σ'=>exact⟨f,_,zs,fun m h=>by simp only[kr,hm m h],h2⟩
  |succ d ih=>
   intro j σ ys hj hd hI
   obtain⟨f,o,zs,h1,h2⟩:=hstep j σ ys hj hI
   have hm:=fun m (hm:f≤m)=>gp (ef (E:=E) hm) hm h1
   cases o with
   |norm σ'=>
    obtain⟨f2,o2,Xu,h3,h4⟩:=ih (j+1) σ' (ys++zs) (by omega) (by omega) h2.2
    refine⟨max f f2,o2,zs++Xu,fun m h=> ?_,by rw[←List.append_assoc];exact h4⟩
    rw[kr,hm m (by omega)]
    simp only
    rw[h3 m (by omega)]
    rfl
   |exit id σ'=>exact⟨f,_,zs,fun m h=>by rw[kr,hm m h],h2⟩
   |ret σ'=>exact⟨f,_,zs,fun m h=>by rw[kr,hm m h],h2⟩
 obtain⟨f,o,zs,h1,h2⟩:=key (n-0) 0 σ ys (Nat.zero_le _) rfl h0
 refine⟨max f (n-0+1),o,zs, ?_,h2⟩
 show kr (aS (aV E _) 0 _ a) _ σ=_
 exact Cq (fun _ _ h=>h) (Nat.le_max_right ..) (h1 _ (Nat.le_max_left ..))
end
def adi(R:Ys→Prop):Out→Ys→Prop
 | .norm _,ys=>R ys
 | .exit _ _,_=>False
 | .ret _,ys=>R ys
theorem ag3{E:Env}{f:FuncId}{caps:List T}{zs:Ys}{fn:aC}(hp:E.kF (an+f)=none)(pZ:E.fn f=some fn)(hl:caps.length+1=fn.nparams)(hy:caps.all (fun t=> !fi t)=true)(hr:fn.results.isEmpty=true)(hnt:∀as ins,[T.al caps]≠[T.al as,T.al ins])
  (h:MY E fn.body [] ⟨[],yT 0::caps++List.replicate (fn.kj-fn.nparams) .undef,List.replicate (2*fn.eK) none⟩ [] (adi fun ys=>ys=zs)):Ev E (an+f) [.al caps] (.al (zs.map .al)):=by
 obtain⟨n,o,ws,h1,h2⟩:=h
 refine⟨n+1, ?_⟩
 have hb:¬an+f< an:=by omega
 simp only[aV,hp,if_neg hb,Nat.add_sub_cancel_left,pZ]
 have:rO (aV E n) n 0 fn caps=some zs:=by
  unfold rO
  rw[if_pos ⟨hl,hy,hr⟩,h1]
  cases o with
  |norm σ=>rw[List.nil_append]at h2;exact congrArg some h2
  |exit j σ=>exact h2.elim
  |ret σ=>rw[List.nil_append]at h2;exact congrArg some h2
 rw[this]
 rfl
end Go.Vi
end
