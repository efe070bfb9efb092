/-
  A claim's own text, joined by a small program out of: Vj30, Vj31, Vj32, Vj33, Vj35, Vj36, Vj38, VjY.
-/
import Derived.Test.YtodollbkpkpklaaGreatX1
import Derived.Laws.IdiomArrays
set_option linter.unusedVariables false
set_option linter.unusedSimpArgs false
section
namespace Go.Vi
open Go
def Ev(E:Env)(f:FuncId)(args:List T)(r:T):Prop:=∃n,aW E n f args=some r
def Wp(E:Env)(c:IC)(σ:St)(Q:Out→Prop):Prop:=∃n o,exec (aW E n) n c σ=some o∧Q o
def nf(E:Env)(ops:List (Option (Nat×Bool)×IOp))(σ:St)(K:St→Prop):Prop:=∃n σ',eQ (aW E n) σ ops=some σ'∧K σ'
def lW(E:Env)(o:IOp)(σ:St)(K:T→St→Prop):Prop:=∃n p,ae (aW E n) σ o=some p∧K p.1 p.2
def C0:kM:=fun _ _=>none
def zz(K:St→Prop)(Q:Out→Prop):Out→Prop
 | .norm σ=>K σ
 | .exit j σ=>Q (.exit j σ)
 | .ret σ=>Q (.ret σ)
def Er(id:Nat)(Q:Out→Prop):Out→Prop
 | .norm σ=>Q (.norm σ)
 | .exit j σ=>if j=id then Q (.norm σ)else Q (.exit j σ)
 | .ret σ=>Q (.ret σ)
def Bh(Q:Out→Prop):Out→Prop
 | .norm σ=>Q (.norm σ)
 | .exit j σ=>if j< cD then Q (.exit j σ)else False
 | .ret σ=>Q (.ret σ)
def abq(R:St→Prop):Out→Prop
 | .norm σ=>R σ
 | .exit _ _=>False
 | .ret σ=>R σ
theorem thenK_norm(K Q σ):zz K Q (.norm σ)=K σ:=rfl
theorem thenK_exit(K Q j σ):zz K Q (.exit j σ)=Q (.exit j σ):=rfl
theorem thenK_ret(K Q σ):zz K Q (.ret σ)=Q (.ret σ):=rfl
theorem blockK_norm(id Q σ):Er id Q (.norm σ)=Q (.norm σ):=rfl
theorem blockK_exit(id Q j σ):Er id Q (.exit j σ)=if j=id then Q (.norm σ)else Q (.exit j σ):=rfl
theorem blockK_ret(id Q σ):Er id Q (.ret σ)=Q (.ret σ):=rfl
theorem nojumpK_norm(Q σ):Bh Q (.norm σ)=Q (.norm σ):=rfl
theorem nojumpK_exit(Q j σ):Bh Q (.exit j σ)=if j< cD then Q (.exit j σ)else False:=rfl
theorem nojumpK_ret(Q σ):Bh Q (.ret σ)=Q (.ret σ):=rfl
theorem retK_norm(R σ):abq R (.norm σ)=R σ:=rfl
theorem retK_ret(R σ):abq R (.ret σ)=R σ:=rfl
section
variable{E:Env}{Q:Out→Prop}{σ:St}
theorem wp_skip:Wp E .skip σ Q=Q (.norm σ):=propext ⟨fun⟨n,o,h,q⟩=>by simp only[exec,Option.some.injEq]at h;exact h▸q,fun q=>⟨0,_,rfl,q⟩⟩
theorem wp_ret:Wp E .ret σ Q=Q (.ret σ):=propext ⟨fun⟨n,o,h,q⟩=>by simp only[exec,Option.some.injEq]at h;exact h▸q,fun q=>⟨0,_,rfl,q⟩⟩
theorem wp_exit(id:Nat):Wp E (.exit id) σ Q=Q (.exit id σ):=propext ⟨fun⟨n,o,h,q⟩=>by simp only[exec,Option.some.injEq]at h;exact h▸q,fun q=>⟨0,_,rfl,q⟩⟩
theorem R8(vs:List Nat):Wp E (.kill vs) σ Q=Q (.norm {σ with vars:=ef vs σ.vars}):=propext ⟨fun⟨n,o,h,q⟩=>by simp only[exec,Option.some.injEq]at h;exact h▸q,fun q=>⟨0,_,rfl,q⟩⟩
theorem le_max(E:Env)(n m:Nat):Le (aW E n) (aW E (max n m))∧Le (aW E m) (aW E (max n m)):=⟨dY (Nat.le_max_left ..),dY (Nat.le_max_right ..)⟩
theorem wp_seq(a b:IC):Wp E (.seq a b) σ Q=Wp E a σ (zz (fun σ'=>Wp E b σ' Q) Q):=propext ⟨fun⟨n,o,h,q⟩=>by
  simp only[exec]at h
  cases ha:exec (aW E n) n a σ with
  |none=>rw[ha]at h;cases h
  |some x=>
   rw[ha]at h
   refine⟨n,x,ha, ?_⟩
   cases x with
   |norm σ'=>exact⟨n,o,h,q⟩
   |exit j σ'=>simp only[Option.some.injEq]at h;subst h;exact q
   |ret σ'=>simp only[Option.some.injEq]at h;subst h;exact q,
 fun⟨n,x,h,q⟩=>by
  cases x with
  |norm σ'=>
   obtain⟨m,o,h2,q2⟩:=q
   refine⟨max n m,o, ?_,q2⟩
   simp only[exec,cC (le_max E n m).1 (Nat.le_max_left n m) h]
   exact cC (le_max E n m).2 (Nat.le_max_right n m) h2
  |exit j σ'=>exact⟨n,_,by simp only[exec,h],q⟩
  |ret σ'=>exact⟨n,_,by simp only[exec,h],q⟩⟩
theorem QU{c:ag}{t:Bool}(a b:IC)(hc:c.get σ= .v (.bool t)):Wp E (.cond c a b) σ Q=if t=true then Wp E a σ Q else Wp E b σ Q:=by
 unfold Wp
 simp only[exec,hc]
 cases t<;>rfl
theorem wp_block(id:Nat)(a:IC):Wp E (.block id a) σ Q=Wp E a σ (Er id Q):=propext ⟨fun⟨n,o,h,q⟩=>by
  simp only[exec]at h
  cases ha:exec (aW E n) n a σ with
  |none=>rw[ha]at h;cases h
  |some x=>
   rw[ha]at h
   refine⟨n,x,ha, ?_⟩
   cases x with
   |norm σ'=>simp only[Option.some.injEq]at h;subst h;exact q
   |exit j σ'=>
    simp only at h
    rw[blockK_exit]
    split at h<;>(simp only[Option.some.injEq]at h;subst h)
    ·rw[if_pos (by assumption)];exact q
    ·rw[if_neg (by assumption)];exact q
   |ret σ'=>simp only[Option.some.injEq]at h;subst h;exact q,
 fun⟨n,x,h,q⟩=>by
  cases x with
  |norm σ'=>exact⟨n,_,by simp only[exec,h],q⟩
  |exit j σ'=>
   rw[blockK_exit]at q
   split at q
   ·rename_i hj;exact⟨n,_,by simp only[exec,h,if_pos hj],q⟩
   ·rename_i hj;exact⟨n,_,by simp only[exec,h,if_neg hj],q⟩
  |ret σ'=>exact⟨n,_,by simp only[exec,h],q⟩⟩
theorem Xf(a:IC)(h:Wp E a σ (Bh Q)):Wp E (.kz a) σ Q:=by
 obtain⟨n,x,h,q⟩:=h
 cases x with
 |norm σ'=>exact⟨n,_,by simp only[exec,h],q⟩
 |exit j σ'=>
  rw[nojumpK_exit]at q
  split at q
  ·rename_i hj;exact⟨n,_,by simp only[exec,h,if_pos hj],q⟩
  ·cases q
 |ret σ'=>exact⟨n,_,by simp only[exec,h],q⟩
theorem wp_loop(a:IC)(h:Wp E a σ (zz (fun σ'=>Wp E (.loop a) σ' Q) Q)):Wp E (.loop a) σ Q:=by
 obtain⟨n,x,h,q⟩:=h
 cases x with
 |norm σ'=>
  obtain⟨m,o,h2,q2⟩:=q
  refine⟨max n m+1,o, ?_,q2⟩
  simp only[exec,o7]at h2⊢
  have hle:Le (aW E n) (aW E (max n m+1)):=dY (by omega)
  have abr:Le (aW E m) (aW E (max n m+1)):=dY (by omega)
  rw[cC hle (by omega) h]
  exact BO (fun σ o=>cC abr (by omega)) (by omega) h2
 |exit j σ'=>
  refine⟨n+1,_, ?_,q⟩
  simp only[exec,o7]
  rw[cC (dY (Nat.le_succ n)) (Nat.le_succ n) h]
 |ret σ'=>
  refine⟨n+1,_, ?_,q⟩
  simp only[exec,o7]
  rw[cC (dY (Nat.le_succ n)) (Nat.le_succ n) h]
theorem Xg(r:Ro):Wp E (.Az r) σ Q=nf E r.ops {σ with rs:=[]} fun σ'=>Q (.norm ⟨[],fz σ'.rs σ'.vars r.outs,σ'.boxes⟩):=propext ⟨fun⟨n,o,h,q⟩=>by
  simp only[exec,vK,Option.bind_eq_bind]at h
  obtain⟨s,h1,h2⟩:=Option.map_eq_some_iff.1 h
  obtain⟨s0,h3,h4⟩:=Option.bind_eq_some_iff.1 h1
  simp only[Option.some.injEq]at h4
  subst h2 h4
  exact⟨n,s0,h3,q⟩,
 fun⟨n,s,h,q⟩=>⟨n,_,by simp only[exec,vK,Option.bind_eq_bind,h,Option.bind_some,Option.map_some],q⟩⟩
variable{K:St→Prop}{K2:T→St→Prop}
theorem Lo:nf E [] σ K=K σ:=propext ⟨fun⟨n,o,h,q⟩=>by simp only[eQ,Option.some.injEq]at h;exact h▸q,fun q=>⟨0,_,rfl,q⟩⟩
theorem Og(o:IOp)(rest:List (Option (Nat×Bool)×IOp)){g:Option (Nat×Bool)}(hg:bR σ.rs g=some true):
  nf E ((g,o)::rest) σ K=lW E o σ fun t σ'=>nf E rest {σ' with rs:=σ'.rs++[t]} K:=propext ⟨fun⟨n,s,h,q⟩=>by
  simp only[eQ,hg,Option.bind_some,if_true]at h
  obtain⟨p,h1,h2⟩:=Option.bind_eq_some_iff.1 h
  exact⟨n,p,h1,n,s,h2,q⟩,
 fun⟨n,p,h1,m,s,h2,q⟩=>⟨max n m,s,by
  simp only[eQ,hg,Option.bind_some,if_true,BN (le_max E n m).1 h1]
  exact vC (le_max E n m).2 h2,q⟩⟩
theorem Ip(o:IOp)(rest:List (Option (Nat×Bool)×IOp)){g:Option (Nat×Bool)}(hg:bR σ.rs g=some false):
  nf E ((g,o)::rest) σ K=nf E rest {σ with rs:=σ.rs++[T.bD]} K:=by
 unfold nf
 simp only[eQ,hg,Option.bind_some,Bool.false_eq_true,if_false]
theorem Ue(o:IOp)(rest:List (Option (Nat×Bool)×IOp)):nf E ((none,o)::rest) σ K=lW E o σ fun t σ'=>nf E rest {σ' with rs:=σ'.rs++[t]} K:=Og o rest rfl
theorem aiz{f:FuncId}{args:List T}{r:T}{fn:aD}(hp:E.kJ f=none)(hf:f< aq)(pL:E.fn f=some fn)(hs:fn.split=false)(hl:args.length=fn.nparams)
  (h:Wp E fn.body ⟨[],args++List.replicate (fn.jZ-fn.nparams) .undef,List.replicate (2*fn.ez) none⟩ (abq fun σ=>(c9 σ fn.results fn.canon).bind (j2 σ.boxes)=some r)):Ev E f args r:=by
 obtain⟨n,o,h1,h2⟩:=h
 refine⟨n+1, ?_⟩
 simp only[aW,hp,if_pos hf,pL,iT,hs,Bool.false_eq_true,if_false,sm,if_pos hl,h1]
 cases o with
 |norm σ=>exact h2
 |exit j σ=>exact h2.elim
 |ret σ=>exact h2
end
end Go.Vi
end
section
namespace Go.Vi
open Go
def dm{α:Type}(o:Option α)(k:α→Prop):Prop:=∃a,o=some a∧k a
theorem bg{α:Type}(a:α)(k:α→Prop):dm (some a) k=k a:=propext ⟨fun⟨_,h,q⟩=>by cases h;exact q,fun q=>⟨a,rfl,q⟩⟩
theorem aX{α:Type}(k:α→Prop):dm none k=False:=by unfold dm;simp
theorem lB{α γ:Type}(f:α→γ)(o:Option α)(k:γ→Prop):dm (o.map f) k=dm o fun x=>k (f x):=propext ⟨fun⟨a,h,q⟩=>by
 obtain⟨b,hb,rfl⟩:=Option.map_eq_some_iff.1 h;exact⟨b,hb,q⟩,fun⟨b,hb,q⟩=>⟨f b,by rw[hb];rfl,q⟩⟩
theorem Xh{α γ:Type}(f:α→Option γ)(o:Option α)(k:γ→Prop):dm (o.bind f) k=dm o fun x=>dm (f x) k:=propext ⟨fun⟨a,h,q⟩=>by
 obtain⟨b,hb,h2⟩:=Option.bind_eq_some_iff.1 h;exact⟨b,hb,a,h2,q⟩,fun⟨b,hb,a,h2,q⟩=>⟨a,by rw[hb];exact h2,q⟩⟩
theorem sZ{α:Type}(c:Prop)[Decidable c](x:Option α)(k:α→Prop):dm (if c then x else none) k=(c∧dm x k):=by
 by_cases h:c<;>simp[h,aX]
theorem Gx{α:Type}(p:α→Bool)(o:Option α)(k:α→Prop):dm (o.filter p) k=dm o fun x=>p x=true∧k x:=by
 cases o with
 |none=>simp[aX,Option.filter]
 |some a=>by_cases h:p a=true<;>simp[Option.filter,h,aX,bg]
def ME(t:T)(A B:Prop):Prop:=match t with
 | .v (.bool t)=>if t=true then A else B
 |_=>False
def yO(o:Option T)(w:Bool)(A B:Prop):Prop:=match o with
 |some (.v (.bool b))=>if(b==w)=true then A else B
 |some (.v (.tuple _))=>B
 |_=>False
theorem JU(w:Bool)(A B:Prop):yO (some T.bD) w A B=B:=rfl
def nth:List T→Nat→T
 | [],_=> .undef
 |t::_,0=>t
 |_::ts,n+1=>nth ts n
theorem Cb:∀(l:List T) (i:Nat),l.getD i .undef=nth l i
 | [],i=>by simp[nth]
 |t::ts,0=>by simp[nth]
 |t::ts,i+1=>by simp only[List.getD_cons_succ,nth,Cb ts i]
theorem abt(t:T)(ts:List T):nth (t::ts) 0=t:=rfl
theorem abu(t:T)(ts:List T)(n:Nat):nth (t::ts) (n+1)=nth ts n:=rfl
def cr:List T→Nat→Option T
 | [],_=>none
 |t::_,0=>some t
 |_::ts,n+1=>cr ts n
theorem mQ:∀(l:List T) (i:Nat),l[i]? =cr l i
 | [],i=>by simp[cr]
 |t::ts,0=>by simp[cr]
 |t::ts,i+1=>by simp only[List.getElem?_cons_succ,cr,mQ ts i]
theorem abv(n:Nat):cr [] n=none:=rfl
theorem Xi(t:T)(ts:List T):cr (t::ts) 0=some t:=rfl
theorem Xj(t:T)(ts:List T)(n:Nat):cr (t::ts) (n+1)=cr ts n:=rfl
def snoc:List T→T→List T
 | [],t=>[t]
 |a::l,t=>a::snoc l t
theorem vh:∀(l:List T) (t:T),l++[t]=snoc l t
 | [],t=>rfl
 |a::l,t=>by rw[List.cons_append,vh l t];rfl
theorem abw(t:T):snoc [] t=[t]:=rfl
theorem Xl(a t:T)(l:List T):snoc (a::l) t=a::snoc l t:=rfl
def fQ:List (Option (List T))→Nat→Bool
 | [],_=>false
 |none::_,0=>true
 |some _::_,0=>false
 |_::l,n+1=>fQ l n
theorem pR:∀(bx:List (Option (List T))) (s:Nat),(bx[s]? =some none)=(fQ bx s=true)
 | [],s=>by simp[fQ]
 |none::l,0=>by simp[fQ]
 |some _::l,0=>by simp[fQ]
 |none::l,s+1=>by simp only[List.getElem?_cons_succ,fQ,pR l s]
 |some _::l,s+1=>by simp only[List.getElem?_cons_succ,fQ,pR l s]
theorem Oh(s:Nat):fQ [] s=false:=by cases s<;>rfl
theorem Mw(l:List (Option (List T))):fQ (none::l) 0=true:=rfl
theorem Mx(cs:List T)(l:List (Option (List T))):fQ (some cs::l) 0=false:=rfl
theorem My(o:Option (List T))(l:List (Option (List T)))(n:Nat):fQ (o::l) (n+1)=fQ l n:=by cases o<;>rfl
theorem Xm(s:Nat):aj [] s=none:=rfl
theorem Uf(o:Option (List T))(l:List (Option (List T))):aj (o::l) 0=o:=rfl
theorem Ug(o:Option (List T))(l:List (Option (List T)))(n:Nat):aj (o::l) (n+1)=aj l n:=rfl
theorem aiA(rs vars:List T)(bx:List (Option (List T)))(i:Nat):ag.get ⟨rs,vars,bx⟩ (.r i)=nth rs i:=Cb rs i
theorem aiB(rs vars:List T)(bx:List (Option (List T)))(i:Nat):ag.get ⟨rs,vars,bx⟩ (.x i)=nth vars i:=Cb vars i
theorem aiC(σ:St)(t:T):ag.get σ (.c t)=t:=rfl
section
variable{E:Env}{Q:Out→Prop}{σ:St}{K:St→Prop}{K2:T→St→Prop}
theorem wp_cond(c:ag)(a b:IC):Wp E (.cond c a b) σ Q=ME (c.get σ) (Wp E a σ Q) (Wp E b σ Q):=by
 cases hc:c.get σ with
 |v x=>
  cases x with
  |bool t=>rw[QU a b hc];rfl
  |_=>simp only[ME];exact propext ⟨fun⟨n,o,h,q⟩=>by simp[exec,hc]at h,fun h=>h.elim⟩
 |_=>simp only[ME];exact propext ⟨fun⟨n,o,h,q⟩=>by simp[exec,hc]at h,fun h=>h.elim⟩
theorem eg(o:IOp)(rest:List (Option (Nat×Bool)×IOp)):nf E ((none,o)::rest) σ K=lW E o σ fun t σ'=>nf E rest {σ' with rs:=snoc σ'.rs t} K:=by
 simp only[←vh];exact Ue o rest
theorem Cc(ss:List Nat):Wp E (.free ss) σ Q=dm (cB ss σ) fun σ'=>Q (.norm σ'):=propext ⟨fun⟨n,o,h,q⟩=>by
 simp only[exec]at h
 obtain⟨s,h1,rfl⟩:=Option.map_eq_some_iff.1 h
 exact⟨s,h1,q⟩,fun⟨s,h,q⟩=>⟨0,_,by simp only[exec,h,Option.map_some],q⟩⟩
theorem Iq(j:Nat)(w:Bool)(o:IOp)(rest:List (Option (Nat×Bool)×IOp)):
  nf E ((some (j,w),o)::rest) σ K=yO (cr σ.rs j) w (lW E o σ fun t σ'=>nf E rest {σ' with rs:=snoc σ'.rs t} K) (nf E rest {σ with rs:=snoc σ.rs T.bD} K):=by
 rw[←mQ]
 simp only[←vh]
 unfold yO
 split
 ·rename_i b hb
  split
  ·rename_i h;exact Og o rest (by simp only[bR,hb];rw[h])
  ·rename_i h
   refine Ip o rest ?_
   simp only[bR,hb]
   simpa using h
 ·rename_i hb;exact Ip o rest (by simp only[bR,hb])
 ·rename_i h1 h2
  have:bR σ.rs (some (j,w))=none:=by
   unfold bR
   simp only
   try
    split
    ·rename_i b hb;exact absurd hb (h1 b)
    ·rename_i b hb;exact absurd hb (h2 b)
    ·rfl
  exact propext ⟨fun⟨n,s,h,q⟩=>by simp[eQ,this]at h,fun h=>h.elim⟩
def IOp.zA:IOp→Bool
 | .call ..| .callv ..| .callnew ..| .callio ..| .callvio ..=>false
 |_=>true
theorem xD{o:IOp}(h:o.zA=true)(C C':kM):ae C σ o=ae C' σ o:=by
 cases o<;>first|rfl|cases h
theorem eb{o:IOp}(h:o.zA=true):lW E o σ K2=dm (ae C0 σ o) fun p=>K2 p.1 p.2:=propext ⟨fun⟨n,p,h1,q⟩=>⟨p,by rw[xD h C0 (aW E n)];exact h1,q⟩,fun⟨p,h1,q⟩=>⟨0,p,by rw[xD h _ C0];exact h1,q⟩⟩
theorem ad9(a:ag):lW E (.mv a) σ K2=K2 (a.get σ) σ:=by rw[eb rfl];exact bg _ _
def Uh(c a b:T)(k:T→Prop):Prop:=match c with
 | .v (.bool t)=>k (if t=true then a else b)
 |_=>False
theorem Ui(t:Bool)(a b:T)(k:T→Prop):Uh (.v (.bool t)) a b k=k (if t=true then a else b):=rfl
theorem Xn(c a b:ag):lW E (.pick c a b) σ K2=Uh (c.get σ) (a.get σ) (b.get σ) fun t=>K2 t σ:=by
 rw[eb rfl]
 simp only[ae,Uh]
 generalize ag.get σ c=t
 cases t<;>try exact aX _
 rename_i x
 cases x<;>first|exact aX _|exact bg _ _
theorem abx(op:BinOp)(t:TypeId)(a b:ag):lW E (.bin op t a b) σ K2=dm (bO op t (a.get σ) (b.get σ)) fun r=>K2 r σ:=by rw[eb rfl];exact lB _ _ _
def aby(neg:Bool)(a b:T)(k:T→Prop):Prop:=match a,b with
 | .v (.bool x),.v (.bool y)=>k (T.bool ((x==y) !=neg))
 |_,_=>False
theorem Xo(neg x y:Bool)(k:T→Prop):aby neg (.v (.bool x)) (.v (.bool y)) k=k (.v (.bool ((x==y) !=neg))):=rfl
theorem abz(neg:Bool)(a b:ag):lW E (.eqb neg a b) σ K2=aby neg (a.get σ) (b.get σ) fun t=>K2 t σ:=by
 rw[eb rfl]
 simp only[ae,aby]
 generalize ag.get σ a=t
 generalize ag.get σ b=u
 cases t<;>try exact aX _
 rename_i x
 cases x<;>try exact aX _
 cases u<;>try exact aX _
 rename_i y
 cases y<;>first|exact aX _|exact bg _ _
theorem Ir(zero:List T)(parts:List (Nat×Nat×ag)):lW E (.build zero parts) σ K2=dm (df (ag.get σ) zero parts) fun cs=>K2 (.agg cs) σ:=by rw[eb rfl];exact lB _ _ _
def Oi(isAgg:Bool)(off n:Nat)(a:T)(k:T→Prop):Prop:=match a with
 | .agg cs=>dm (one? isAgg n cs off) k
 |_=>False
theorem Uj(isAgg:Bool)(off n:Nat)(cs:List T)(k:T→Prop):Oi isAgg off n (.agg cs) k=dm (one? isAgg n cs off) k:=rfl
theorem Uk(isAgg:Bool)(off n:Nat)(a:ag):lW E (.field isAgg off n a) σ K2=Oi isAgg off n (a.get σ) fun t=>K2 t σ:=by
 rw[eb rfl]
 simp only[ae,Oi]
 generalize ag.get σ a=t
 cases t<;>first|exact aX _|exact lB _ _ _
def Bi(a i:T)(k:T→Prop):Prop:=match a,i with
 | .v (.string s),.v (.int _ j)=>0≤j∧dm s.data[j.toNat]? fun b=>k (.u8 b.toNat)
 |_,_=>False
theorem QV(s:ByteArray)(kd:IntKind)(j:Int)(k:T→Prop):Bi (.v (.string s)) (.v (.int kd j)) k=(0≤j∧dm s.data[j.toNat]? fun b=>k (.v (.int .u8 b.toNat))):=rfl
theorem QW(a i:ag):lW E (.indexS a i) σ K2=Bi (a.get σ) (i.get σ) fun t=>K2 t σ:=by
 rw[eb rfl]
 simp only[ae]
 cases ha:a.get σ with
 |v x=>
  cases x with
  |string s=>
   cases hi:i.get σ with
   |v y=>
    cases y with
    |int kd j=>
     simp only[asNat,Bi]
     by_cases h:0≤j
     ·simp only[h,if_true,lB,true_and]
     ·simp[h,aX]
    |_=>exact aX _
   |_=>exact aX _
  |_=>simp only[Bi];exact aX _
 |_=>simp only[Bi];exact aX _
def Hf(a:T)(i:Nat)(k:T→Prop):Prop:=match a with
 | .an ts=>dm (cr ts i) k
 |_=>False
theorem Oj(ts:List T)(i:Nat)(k:T→Prop):Hf (.an ts) i k=dm (cr ts i) k:=rfl
theorem Ol(a:ag)(i:Nat):lW E (.extract a i) σ K2=Hf (a.get σ) i fun t=>K2 t σ:=by
 rw[eb rfl]
 simp only[ae,Hf,←mQ]
 generalize ag.get σ a=t
 cases t<;>first|exact aX _|exact lB _ _ _
def Es(bx:List (Option (List T)))(s:Nat)(cs:List T)(k:List (Option (List T))→Prop):Prop:=fQ bx s=true∧s%2=0∧k (bx.set s (some cs))
theorem Is(s:Nat)(zero:List T):lW E (.alloc s zero) σ K2=Es σ.boxes s zero fun bx=>K2 (.ref s 0) {σ with boxes:=bx}:=by
 rw[eb rfl]
 simp only[ae,Es,←pR]
 split
 ·rename_i h
  rw[h,sZ,bg]
  simp
 ·rename_i h
  rw[aX]
  simp only[eq_iff_iff,false_iff,not_and]
  exact fun h'=>absurd h' h
def mH(t:T)(k:List T→Prop):Prop:=dm (cellsOf t) k
theorem Ul(cs:List T)(k:List T→Prop):mH (.agg cs) k=k cs:=bg _ _
theorem abA(x:Value)(k:List T→Prop):mH (.v x) k=k [.v x]:=bg _ _
theorem Xp(g:Tag)(n:Nat)(cs:List T)(k:List T→Prop):mH (.sl g n cs) k=k [.sl g n cs]:=bg _ _
theorem Um(s o n c:Nat)(k:List T→Prop):mH (.av s o n c) k=k [.av s o n c]:=bg _ _
theorem Un(s o:Nat)(k:List T→Prop):mH (.ref s o) k=k [.ref s o]:=bg _ _
theorem QX(s:Nat)(k:List T→Prop):mH (.aQ s) k=k [.aQ s]:=bg _ _
theorem Uo(f:Fn)(a b:List T)(k:List T→Prop):mH (.bB f a b) k=k [.bB f a b]:=bg _ _
theorem Up(cs:List T)(o:Nat)(k:List T→Prop):mH (.ptr cs o) k=k [.ptr cs o]:=bg _ _
theorem Om(s:Nat)(a:ag):lW E (.box s a) σ K2=mH (a.get σ) fun cs=>cs.all T.one=true∧Es σ.boxes s cs fun bx=>K2 (.ref s 0) {σ with boxes:=bx}:=by
 rw[eb rfl]
 simp only[ae,mH]
 cases hc:cellsOf (a.get σ)with
 |none=>rw[aX];split<;>simp_all [aX]
 |some cs=>
  simp only[bg,Es,←pR]
  split
  ·rename_i h1 h2
   simp only[Option.some.injEq]at h2
   subst h2
   rw[h1,sZ,bg]
   simp[and_assoc]
  ·rename_i h1
   rw[aX]
   simp only[eq_iff_iff,false_iff,not_and]
   exact fun _ h'=>absurd rfl (h1 _ h')
def MF(bx:List (Option (List T)))(isAgg:Bool)(n:Nat)(a:T)(k:T→Prop):Prop:=match a with
 | .ref s off=>dm (aj bx s) fun cs=>dm (one? isAgg n cs off) k
 | .ptr cs off=>dm (one? isAgg n cs off) fun t=>t.closed=true∧k t
 |_=>False
theorem Xq(bx isAgg n s off k):MF bx isAgg n (.ref s off) k=dm (aj bx s) fun cs=>dm (one? isAgg n cs off) k:=rfl
theorem Xr(bx isAgg n cs off k):MF bx isAgg n (.ptr cs off) k=dm (one? isAgg n cs off) fun t=>t.closed=true∧k t:=rfl
theorem Xs(isAgg:Bool)(n:Nat)(a:ag):lW E (.load isAgg n a) σ K2=MF σ.boxes isAgg n (a.get σ) fun t=>K2 t σ:=by
 rw[eb rfl]
 simp only[ae,MF]
 generalize ag.get σ a=t
 cases t<;>try exact aX _
 ·rename_i cs off
  show dm (((one? isAgg n cs off).filter T.closed).map _) _=_
  rw[lB,Gx]
 ·rename_i s off
  show dm (match σ.boxes[s]? with|some (some cs)=>(one? isAgg n cs off).map (·,σ)|_=>none) _=dm (aj σ.boxes s) fun cs=>dm (one? isAgg n cs off) fun t=>K2 t σ
  unfold aj
  cases hb:σ.boxes[s]? with
  |none=>simp only[Option.join_none,aX]
  |some o=>cases o with
   |none=>simp only[Option.join_some,aX]
   |some cs=>simp only[Option.join_some,bg];exact lB _ _ _
def Et(bx:List (Option (List T)))(n:Nat)(a:T)(ns:List T)(k:List (Option (List T))→Prop):Prop:=match a with
 | .ref s off=>dm (aj bx s) fun cs=>ns.length=n∧off+n≤cs.length∧ns.all T.one=true∧k (bx.set s (some (setCells cs off ns)))
 |_=>False
theorem Uq(bx n s off ns k):Et bx n (.ref s off) ns k=dm (aj bx s) fun cs=>ns.length=n∧off+n≤cs.length∧ns.all T.one=true∧k (bx.set s (some (setCells cs off ns))):=rfl
theorem It(n:Nat)(a b:ag):lW E (.store n a b) σ K2=mH (b.get σ) fun ns=>Et σ.boxes n (a.get σ) ns fun bx=>K2 .undef {σ with boxes:=bx}:=by
 rw[eb rfl]
 simp only[ae,mH]
 cases hc:cellsOf (b.get σ)with
 |none=>rw[aX];split<;>simp_all [aX]
 |some ns=>
  simp only[bg]
  cases ha:a.get σ with
  |ref s off=>
   simp only[Et]
   cases hb:σ.boxes[s]? with
   |none=>simp only[aX,aj,hb,Option.join_none]
   |some o=>cases o with
    |none=>simp only[aX,aj,hb,Option.join_some]
    |some cs=>simp only[aj,hb,Option.join_some,sZ,bg,and_assoc]
  |_=>simp only[Et,aX]
def Iu(off:Nat)(a:T)(k:T→Prop):Prop:=match a with
 | .ref s o=>k (.ref s (o+off))
 | .ptr cs o=>k (.ptr cs (o+off))
 |_=>False
theorem Ur(off s o k):Iu off (.ref s o) k=k (.ref s (o+off)):=rfl
theorem Us(off cs o k):Iu off (.ptr cs o) k=k (.ptr cs (o+off)):=rfl
theorem Ut(off:Nat)(a:ag):lW E (.faddr off a) σ K2=Iu off (a.get σ) fun t=>K2 t σ:=by
 rw[eb rfl]
 simp only[ae,Iu]
 generalize ag.get σ a=t
 cases t<;>first|exact aX _|exact bg _ _
def Bj(len sz:Nat)(a i:T)(k:T→Prop):Prop:=match a,i with
 | .ref s o,.v (.int _ j)=>0≤j∧j.toNat< len∧k (.ref s (o+j.toNat*sz))
 | .ptr cs o,.v (.int _ j)=>0≤j∧j.toNat< len∧k (.ptr cs (o+j.toNat*sz))
 |_,_=>False
theorem QY(len sz s o kd j k):Bj len sz (.ref s o) (.v (.int kd j)) k=(0≤j∧j.toNat< len∧k (.ref s (o+j.toNat*sz))):=rfl
theorem QZ(len sz cs o kd j k):Bj len sz (.ptr cs o) (.v (.int kd j)) k=(0≤j∧j.toNat< len∧k (.ptr cs (o+j.toNat*sz))):=rfl
theorem Gy(t:T):(∃kd j,t= .v (.int kd j)∧0≤j∧asNat t=some j.toNat)∨(asNat t=none∧∀kd j,t= .v (.int kd j)→¬0≤j):=by
 cases t with
 |v x=>cases x with
  |int kd j=>
   by_cases h:0≤j
   ·exact .inl ⟨kd,j,rfl,h,by simp[asNat,h]⟩
   ·exact .inr ⟨by simp[asNat,h],fun kd' j' e=>by cases e;exact h⟩
  |_=>exact .inr ⟨rfl,fun kd j e=>by cases e⟩
 |_=>exact .inr ⟨rfl,fun kd j e=>by cases e⟩
theorem Q0(len sz:Nat)(a i:ag):lW E (.iaddrA len sz a i) σ K2=Bj len sz (a.get σ) (i.get σ) fun t=>K2 t σ:=by
 rw[eb rfl]
 simp only[ae]
 rcases Gy (i.get σ)with⟨kd,j,e1,e2,e3⟩|⟨e1,e2⟩
 ·rw[e1]at e3
  cases ha:a.get σ<;>simp only[e1,e3,Bj,aX,sZ,bg,e2,true_and]
 ·cases ha:a.get σ<;>simp only[e1,aX,Bj]
  all_goals
   split<;>simp_all<;>(intros;omega)
def Bk(sz:Nat)(a i:T)(k:T→Prop):Prop:=match a,i with
 | .sl _ n cs,.v (.int _ j)=>0≤j∧j.toNat< n∧k (.ptr cs (j.toNat*sz))
 | .av s o n _,.v (.int _ j)=>0≤j∧j.toNat< n∧k (.ref s (o+j.toNat*sz))
 |_,_=>False
theorem Uu(sz g n cs kd j k):Bk sz (.sl g n cs) (.v (.int kd j)) k=(0≤j∧j.toNat< n∧k (.ptr cs (j.toNat*sz))):=rfl
theorem Q1(sz s o n c kd j k):Bk sz (.av s o n c) (.v (.int kd j)) k=(0≤j∧j.toNat< n∧k (.ref s (o+j.toNat*sz))):=rfl
theorem Q2(sz:Nat)(a i:ag):lW E (.iaddrS sz a i) σ K2=Bk sz (a.get σ) (i.get σ) fun t=>K2 t σ:=by
 rw[eb rfl]
 simp only[ae]
 rcases Gy (i.get σ)with⟨kd,j,e1,e2,e3⟩|⟨e1,e2⟩
 ·rw[e1]at e3
  cases ha:a.get σ<;>simp only[e1,e3,Bk,aX,sZ,bg,e2,true_and]
 ·cases ha:a.get σ<;>simp only[e1,aX,Bk]
  all_goals
   split<;>simp_all<;>(intros;omega)
theorem abB(str:Bool)(a:ag):lW E (.len str a) σ K2=dm (jo str (a.get σ)) fun t=>K2 t σ:=by rw[eb rfl];exact lB _ _ _
theorem aea(g n cs):jo false (.sl g n cs)=some (.v (.int .i64 n)):=rfl
theorem abC(s o n c):jo false (.av s o n c)=some (.v (.int .i64 n)):=rfl
theorem cf(s:ByteArray):jo true (.v (.string s))=some (.v (.int .i64 s.size)):=rfl
theorem Gz(fn:Fn)(first cap:List ag):lW E (.mkFunc fn first cap) σ K2=K2 (.bB fn (first.map (ag.get σ)) (cap.map (ag.get σ))) σ:=by rw[eb rfl];exact bg _ _
end
theorem Fs{x:Int}(h1: -9223372036854775808≤x)(h2:x≤9223372036854775807):IntKind.i64.wrap x=x:=by rw[IntKind.wrap_i64];omega
theorem aeb(t:TypeId)(a b:Int):bO .add t (.v (.int .i64 a)) (.v (.int .i64 b))=some (.v (.int .i64 (IntKind.i64.wrap (a+b)))):=rfl
theorem aec(t:TypeId)(a b:Int):bO .sub t (.v (.int .i64 a)) (.v (.int .i64 b))=some (.v (.int .i64 (IntKind.i64.wrap (a-b)))):=rfl
theorem aed(t:TypeId)(a b:Int):bO .mul t (.v (.int .i64 a)) (.v (.int .i64 b))=some (.v (.int .i64 (IntKind.i64.wrap (a*b)))):=rfl
theorem aee(t:TypeId)(k:IntKind)(a b:Int):bO .lss t (.v (.int k a)) (.v (.int k b))=some (.v (.bool (decide (a< b)))):=by cases k<;>rfl
theorem aef(t:TypeId)(k:IntKind)(a b:Int):bO .leq t (.v (.int k a)) (.v (.int k b))=some (.v (.bool (decide (a≤b)))):=by cases k<;>rfl
theorem aeg(t:TypeId)(k:IntKind)(a b:Int):bO .gtr t (.v (.int k a)) (.v (.int k b))=some (.v (.bool (decide (b< a)))):=by cases k<;>rfl
theorem aeh(t:TypeId)(k:IntKind)(a b:Int):bO .geq t (.v (.int k a)) (.v (.int k b))=some (.v (.bool (decide (b≤a)))):=by cases k<;>rfl
theorem aei(t:TypeId)(k:IntKind)(a b:Int):bO .eql t (.v (.int k a)) (.v (.int k b))=some (.v (.bool (a==b))):=by cases k<;>rfl
theorem aej(t:TypeId)(k:IntKind)(a b:Int):bO .neq t (.v (.int k a)) (.v (.int k b))=some (.v (.bool (a !=b))):=by cases k<;>rfl
end Go.Vi
end
section
namespace Go.Vi
open Go
attribute [simp] thenK_norm thenK_exit thenK_ret blockK_norm blockK_exit blockK_ret nojumpK_norm nojumpK_exit nojumpK_ret retK_norm retK_ret
 wp_skip wp_ret wp_exit R8 wp_seq wp_block Xg wp_cond Cc Lo eg Iq abv Xi Xj abw Xl Oh Mw Mx My Xm Uf Ug
 bg aX lB Xh sZ Gx JU abt abu aiA aiB aiC
 ad9 Ui Xn abx Xo abz Ir Uj Uk QV QW Oj Ol
 Ul abA Xp Um Un QX Uo Up Is Om Xq Xr Xs Uq It Ur Us Ut
 QY QZ Q0 Uu Q1 Q2 abB aea abC cf Gz
 aeb aec aed aee aef aeg aeh aei aej
 ef Es cB
@[simp] theorem ap0(x:Value):(T.v x).one=x.oneCell':=rfl
@[simp] theorem apw(g n cs):(T.sl g n cs).one=true:=rfl
@[simp] theorem aoI(s o):(T.ref s o).one=true:=rfl
@[simp] theorem aoJ(s o n c):(T.av s o n c).one=true:=rfl
@[simp] theorem amv(s):(T.aQ s).one=true:=rfl
@[simp] theorem aoK(f a b):(T.bB f a b).one=true:=rfl
@[simp] theorem aoL(cs o):(T.ptr cs o).one=true:=rfl
@[simp] theorem apx(k n):(Value.int k n).oneCell'=true:=rfl
@[simp] theorem aoM(b):(Value.bool b).oneCell'=true:=rfl
@[simp] theorem apy(s):(Value.string s).oneCell'=true:=rfl
@[simp] theorem aiD(d:Nat):stripL d []=[]:=by simp only[stripL]
@[simp] theorem ahF(d:Nat)(t:T)(ts:List T):stripL d (t::ts)=t.strip d::stripL d ts:=by simp only[stripL]
@[simp] theorem amw(d:Nat)(x:Value):(T.v x).strip d= .v x:=by simp only[T.strip]
@[simp] theorem ahG(d:Nat):(T.undef).strip d= .undef:=by simp only[T.strip]
@[simp] theorem afg(d:Nat):T.bD.strip d=T.bD:=by simp only[T.strip,T.bD]
@[simp] theorem aiE(d n:Nat)(cs:List T):(T.sl .any n cs).strip d= .sl .any n cs:=by simp only[T.strip]
@[simp] theorem ako(d n:Nat)(cs:List T):(T.sl .nil n cs).strip d= .sl .nil n cs:=by simp only[T.strip]
@[simp] theorem aiF(d n:Nat)(cs:List T):(T.sl .clip n cs).strip d= .sl .clip n cs:=by simp only[T.strip]
@[simp] theorem akp(d:Nat)(cs:List T)(o:Nat):(T.ptr cs o).strip d= .ptr cs o:=by simp only[T.strip]
@[simp] theorem akq(d s o:Nat):(T.ref s o).strip d= .ref s o:=by simp only[T.strip]
@[simp] theorem akr(d s o n c:Nat):(T.av s o n c).strip d= .av s o n c:=by simp only[T.strip]
@[simp] theorem aiG(d s:Nat):(T.aQ s).strip d= .aQ s:=by simp only[T.strip]
@[simp] theorem aks(d:Nat)(ts:List T):(T.agg ts).strip d= .agg (stripL d ts):=by simp only[T.strip]
@[simp] theorem akt(d:Nat)(f:Fn)(a b:List T):(T.bB f a b).strip d= .bB f (stripL d a) (stripL d b):=by simp only[T.strip]
@[simp] theorem amx(d:Nat)(rs vars:List T)(bx:List (Option (List T))):St.strip d ⟨rs,vars,bx⟩=⟨stripL d rs,stripL d vars,bx.map (Option.map (stripL d))⟩:=rfl
@[simp] theorem ahH(d:Nat):dD d []=[]:=by simp only[dD]
@[simp] theorem agi(d:Nat)(t:T)(ts:List T):dD d (t::ts)=t.import d::dD d ts:=by simp only[dD]
@[simp] theorem amy(d:Nat)(x:Value):(T.v x).import d= .v x:=by simp only[T.import]
@[simp] theorem aiH(d n:Nat)(cs:List T):(T.sl .any n cs).import d= .sl .any n cs:=by simp only[T.import]
@[simp] theorem aiI(d n:Nat)(cs:List T):(T.sl .nil n cs).import d= .sl .nil n cs:=by simp only[T.import]
@[simp] theorem ahI(d n:Nat)(cs:List T):(T.sl .clip n cs).import d= .sl .clip n cs:=by simp only[T.import]
@[simp] theorem aiJ(d:Nat)(ts:List T):(T.agg ts).import d= .agg (dD d ts):=by simp only[T.import]
@[simp] theorem aiK(d:Nat)(ts:List T):(T.an ts).import d= .an (dD d ts):=by simp only[T.import]
@[simp] theorem aiL(s:Nat):aR s []=true:=by simp only[aR]
@[simp] theorem ahJ(s:Nat)(t:T)(ts:List T):aR s (t::ts)=(t.ay s&&aR s ts):=by simp only[aR]
@[simp] theorem aoN(s:Nat)(x:Value):(T.v x).ay s=true:=by simp only[T.ay]
@[simp] theorem ahK(s:Nat):(T.undef).ay s=true:=by simp only[T.ay]
@[simp] theorem amz(s:Nat)(g:Tag)(n:Nat)(cs:List T):(T.sl g n cs).ay s=true:=by simp only[T.ay]
@[simp] theorem aku(s s' o:Nat):(T.ref s' o).ay s=(s' !=s):=by simp only[T.ay]
@[simp] theorem akv(s s' o n c:Nat):(T.av s' o n c).ay s=(s' !=s):=by simp only[T.ay]
@[simp] theorem aiM(s s':Nat):(T.aQ s').ay s=(s' !=s):=by simp only[T.ay]
@[simp] theorem akw(s:Nat)(ts:List T):(T.agg ts).ay s=aR s ts:=by simp only[T.ay]
@[simp] theorem akx(s:Nat)(f:Fn)(a b:List T):(T.bB f a b).ay s=(aR s a&&aR s b):=by simp only[T.ay]
@[simp] theorem amA(s:Nat)(rs vars:List T)(bx:List (Option (List T))):St.ay s ⟨rs,vars,bx⟩=(aR s rs&&aR s vars&&bx.all fun o=>match o with|some cs=>aR s cs|none=>true):=rfl
@[simp] theorem ahL:bc []=false:=by simp only[bc]
@[simp] theorem agj(t:T)(ts:List T):bc (t::ts)=(t.aV||bc ts):=by simp only[bc]
@[simp] theorem amB(x:Value):(T.v x).aV=false:=by simp only[T.aV]
@[simp] theorem agk:(T.undef).aV=false:=by simp only[T.aV]
@[simp] theorem aky(g:Tag)(n:Nat)(cs:List T):(T.sl g n cs).aV=false:=by simp only[T.aV]
@[simp] theorem aiN(cs:List T)(o:Nat):(T.ptr cs o).aV=false:=by simp only[T.aV]
@[simp] theorem aiO(s o:Nat):(T.ref s o).aV=true:=by simp only[T.aV]
@[simp] theorem aiP(s o n c:Nat):(T.av s o n c).aV=true:=by simp only[T.aV]
@[simp] theorem aiQ(ts:List T):(T.agg ts).aV=bc ts:=by simp only[T.aV]
@[simp] theorem aiR(ts:List T):(T.an ts).aV=bc ts:=by simp only[T.aV]
@[simp] theorem aiS(f:Fn)(a b:List T):(T.bB f a b).aV=(bc a||bc b):=by simp only[T.aV]
@[simp] theorem ahM:bn []=true:=by simp only[bn]
@[simp] theorem agl(t:T)(ts:List T):bn (t::ts)=(t.closed&&bn ts):=by simp only[bn]
@[simp] theorem amC(x:Value):(T.v x).closed=true:=by simp only[T.closed]
@[simp] theorem agm:(T.undef).closed=true:=by simp only[T.closed]
@[simp] theorem aiT(n:Nat)(cs:List T):(T.sl .any n cs).closed=true:=by simp only[T.closed]
@[simp] theorem aiU(ts:List T):(T.agg ts).closed=bn ts:=by simp only[T.closed]
section
variable(bx:List (Option (List T)))(k:Nat)
@[simp] theorem aoO(x:Value):close bx (k+1) (.v x)=some (.v x):=by simp only[close]
@[simp] theorem ahN:close bx (k+1) .undef=some .undef:=by simp only[close]
@[simp] theorem amD(g:Tag)(n:Nat)(cs:List T):close bx (k+1) (.sl g n cs)=some (.sl .any n cs):=by simp only[close]
@[simp] theorem akz(cs:List T)(o:Nat):close bx (k+1) (.ptr cs o)=some (.ptr cs o):=by simp only[close]
@[simp] theorem akA(s o:Nat):close bx (k+1) (.ref s o)=(aj bx s).bind fun cs=>(cs.mapM (close bx k)).map (T.ptr · o):=by
 simp only[close,aj]
 cases bx[s]? with
 |none=>rfl
 |some o=>cases o<;>rfl
@[simp] theorem akB(s o n c:Nat):close bx (k+1) (.av s o n c)=if n=0 then some (.sl .any 0 [])else(aj bx s).bind fun cs=>(((cs.drop o).take c).mapM (close bx k)).map (T.sl .any n ·):=by
 simp only[close,aj]
 split
 ·rfl
 ·cases bx[s]? with
  |none=>rfl
  |some o=>cases o<;>rfl
@[simp] theorem aiV(s:Nat):close bx (k+1) (.aQ s)=some .undef:=by simp only[close]
@[simp] theorem akC(ts:List T):close bx (k+1) (.agg ts)=(ts.mapM (close bx k)).map T.agg:=by simp only[close]
@[simp] theorem akD(ts:List T):close bx (k+1) (.an ts)=(ts.mapM (close bx k)).map T.an:=by simp only[close]
@[simp] theorem akE(f:Fn)(a b:List T):close bx (k+1) (.bB f a b)=(a.mapM (close bx k)).bind fun a=>(b.mapM (close bx k)).map fun b=> .bB f a b:=by
 simp only[close,Option.bind_eq_bind]
 cases a.mapM (close bx k)with
 |none=>rfl
 |some a'=>cases b.mapM (close bx k)<;>rfl
end
@[simp] theorem aiW(i:Nat)(cs:List CM):gh i cs []=[]:=by cases cs<;>rfl
@[simp] theorem ahO(i:Nat)(ts:List T):gh i [] ts=ts:=by cases ts<;>rfl
@[simp] theorem aiX(i:Nat)(cs:List CM)(t:T)(ts:List T):gh i (.raw::cs) (t::ts)=t::gh (i+1) cs ts:=rfl
@[simp] theorem amE:gQ []=[]:=by simp only[gQ]
@[simp] theorem akF(t:T)(ts:List T):gQ (t::ts)=t.fa++gQ ts:=by simp only[gQ]
@[simp] theorem apz(x:Value):(T.v x).fa=[]:=by simp only[T.fa]
@[simp] theorem aiY:(T.undef).fa=[]:=by simp only[T.fa]
@[simp] theorem amF(k:Nat)(e:TypeId)(n:Nat)(cs:List T):(T.sl (.own k e) n cs).fa=[k]:=by simp only[T.fa]
@[simp] theorem amG(n:Nat)(cs:List T):(T.sl .any n cs).fa=[]:=by simp only[T.fa]
@[simp] theorem aiZ(n:Nat)(cs:List T):(T.sl .nil n cs).fa=[]:=by simp only[T.fa]
@[simp] theorem akG(n:Nat)(cs:List T):(T.sl .clip n cs).fa=[]:=by simp only[T.fa]
@[simp] theorem amH(ts:List T):(T.agg ts).fa=gQ ts:=by simp only[T.fa]
@[simp] theorem amI(ts:List T):(T.an ts).fa=gQ ts:=by simp only[T.fa]
@[simp] theorem ai0(ρ η:Nat→Option Nat):ai ρ η []=[]:=by simp only[ai]
@[simp] theorem ahP(ρ η:Nat→Option Nat)(t:T)(ts:List T):ai ρ η (t::ts)=t.al ρ η::ai ρ η ts:=by simp only[ai]
@[simp] theorem aoP(ρ η:Nat→Option Nat)(x:Value):(T.v x).al ρ η= .v x:=by simp only[T.al]
@[simp] theorem ahQ(ρ η:Nat→Option Nat):(T.undef).al ρ η= .undef:=by simp only[T.al]
@[simp] theorem akH(ρ η:Nat→Option Nat)(n:Nat)(cs:List T):(T.sl .any n cs).al ρ η= .sl .any n cs:=by simp only[T.al]
@[simp] theorem ahR(ρ η:Nat→Option Nat)(n:Nat)(cs:List T):(T.sl .nil n cs).al ρ η= .sl .nil n cs:=by simp only[T.al]
@[simp] theorem ai1(ρ η:Nat→Option Nat)(n:Nat)(cs:List T):(T.sl .clip n cs).al ρ η= .sl .clip n cs:=by simp only[T.al]
def Eu(o:Option Nat)(f:Nat→T):T:=match o with|some s=>f s|none=> .undef
@[simp] theorem akI(s:Nat)(f:Nat→T):Eu (some s) f=f s:=rfl
@[simp] theorem akJ(f:Nat→T):Eu none f= .undef:=rfl
def Uv(o:Option Nat)(e:TypeId):Tag:=match o with|some k=> .own k e|none=> .any
@[simp] theorem akK(s:Nat)(e:TypeId):Uv (some s) e= .own s e:=rfl
@[simp] theorem akL(e:TypeId):Uv none e= .any:=rfl
@[simp] theorem akM(ρ η:Nat→Option Nat)(k:Nat)(e:TypeId)(n:Nat)(cs:List T):(T.sl (.own k e) n cs).al ρ η= .sl (Uv (η k) e) n cs:=by simp only[T.al,Uv];cases η k<;>rfl
@[simp] theorem akN(ρ η:Nat→Option Nat)(ts:List T):(T.agg ts).al ρ η= .agg (ai ρ η ts):=by simp only[T.al]
@[simp] theorem akO(ρ η:Nat→Option Nat)(ts:List T):(T.an ts).al ρ η= .an (ai ρ η ts):=by simp only[T.al]
@[simp] theorem akP(ρ η:Nat→Option Nat)(s o:Nat):(T.ref s o).al ρ η=Eu (ρ s) fun s'=> .ref s' o:=by simp only[T.al,Eu];cases ρ s<;>rfl
@[simp] theorem akQ(ρ η:Nat→Option Nat)(s o n c:Nat):(T.av s o n c).al ρ η=Eu (ρ s) fun s'=> .av s' o n c:=by simp only[T.al,Eu];cases ρ s<;>rfl
@[simp] theorem ai2(ρ η:Nat→Option Nat)(s:Nat):(T.aQ s).al ρ η=Eu (ρ s) fun s'=> .aQ s':=by simp only[T.al,Eu];cases ρ s<;>rfl
@[simp] theorem akR(n:Nat)(cs:List T)(off:Nat):one? false n cs off=cr cs off:=mQ cs off
@[simp] theorem amJ(n:Nat)(a:T)(cs:List T)(off:Nat):one? true n (a::cs) off=if off+n≤(a::cs).length then some (.agg (((a::cs).drop off).take n))else none:=rfl
@[simp] theorem afh(a:T)(cs:List T)(off:Nat)(ns:List T):setCells (a::cs) off ns=(a::cs).take off++ns++(a::cs).drop (off+ns.length):=rfl
@[simp] theorem afi(rs vars:List T)(t:T)(j:Nat)(outs:List (Option Nat)):fz rs (t::vars) (some j::outs)=nth rs j::fz rs vars outs:=by simp only[fz,List.zipWith_cons_cons,Cb]
@[simp] theorem afj(rs vars:List T)(t:T)(outs:List (Option Nat)):fz rs (t::vars) (none::outs)=t::fz rs vars outs:=rfl
@[simp] theorem aoQ(rs vars:List T):fz rs vars []=[]:=by simp[fz]
theorem mR{α:Type}{enc:α→List T}{sz:Nat}(h:∀x,(enc x).length=sz):∀l:List α,(l.flatMap enc).length=l.length*sz
 | []=>by simp
 |x::l=>by simp[h,mR h l,Nat.add_mul,Nat.add_comm]
theorem Cd{α:Type}{enc:α→List T}{sz:Nat}(h:∀x,(enc x).length=sz):∀(l:List α) (k:Nat) (hk:k< l.length),((l.flatMap enc).drop (k*sz)).take sz=enc l[k]
 | [],k,hk=>by simp at hk
 |x::l,0,hk=>by simp[h x]
 |x::l,k+1,hk=>by
  have:=Cd h l k (by simpa using hk)
  have e:(k+1)*sz=(enc x).length+k*sz:=by rw[h x,Nat.add_mul];omega
  rw[List.flatMap_cons,e,←List.drop_drop,List.drop_left' rfl]
  simpa using this
theorem pS{α:Type}{enc:α→List T}{sz:Nat}(h:∀x,(enc x).length=sz)(l:List α)(k:Nat)(hk:k< l.length):one? true sz (l.flatMap enc) (k*sz)=some (.agg (enc l[k])):=by
 have h1:k*sz+sz≤(l.flatMap enc).length:=by rw[mR h,←Nat.succ_mul];exact Nat.mul_le_mul_right sz hk
 simp only[one?,if_true,if_pos h1,Cd h l k hk]
theorem GA{E:Env}{Q:Out→Prop}{body:IC}(I:Nat→St→Prop)(n:Nat)(hstep:∀k σ,k≤n→I k σ→Wp E body σ (zz (fun σ'=>k< n∧I (k+1) σ') Q)):∀(m k:Nat) (σ:St),n-k=m→k≤n→I k σ→Wp E (.loop body) σ Q
 |0,k,σ,hm,hk,hI=>by
  refine wp_loop body ?_
  obtain⟨f,o,h1,h2⟩:=hstep k σ hk hI
  refine⟨f,o,h1, ?_⟩
  cases o with
  |norm σ'=>rw[thenK_norm]at h2;omega
  |exit=>exact h2
  |ret=>exact h2
 |m+1,k,σ,hm,hk,hI=>by
  refine wp_loop body ?_
  obtain⟨f,o,h1,h2⟩:=hstep k σ hk hI
  refine⟨f,o,h1, ?_⟩
  cases o with
  |norm σ'=>
   rw[thenK_norm]at h2⊢
   exact GA I n hstep m (k+1) σ' (by omega) (by omega) h2.2
  |exit=>exact h2
  |ret=>exact h2
theorem abD{E:Env}{Q:Out→Prop}{body:IC}{σ:St}(n:Nat)(I:Nat→St→Prop)(h0:I 0 σ)(hstep:∀k σ,k≤n→I k σ→Wp E body σ (zz (fun σ'=>k< n∧I (k+1) σ') Q)):Wp E (.loop body) σ Q:=
 GA I n hstep n 0 σ (by omega) (by omega) h0
end Go.Vi
end
section
namespace Go.Vi
open Go
def zB:T→Prop
 | .v (.bool _)=>True
 | .v (.tuple _)=>True
 |_=>False
def Uw:T→Bool→Bool
 | .v (.bool b),w=>b==w
 |_,_=>false
@[simp] theorem amK(b):zB (.v (.bool b))=True:=rfl
@[simp] theorem ahS:zB T.bD=True:=rfl
@[simp] theorem afk(w):Uw T.bD w=false:=rfl
def JV:IOp→Bool
 | .mv _| .pick ..| .bin ..| .eqb ..| .eqa ..| .eqnil ..| .un ..| .toInt ..| .field ..| .indexA ..| .indexS ..| .extract ..| .load ..| .faddr ..| .iaddrA ..| .iaddrS ..| .len ..=>true
 |_=>false
def gL(σ:St)(o:IOp):T:=match ae C0 σ o with
 |some p=>p.1
 |none=> .undef
def iO(σ:St)(o:IOp):Prop:=(ae C0 σ o).isSome=true
theorem acO{o:IOp}(h:JV o=true){C:kM}{σ:St}{p:T×St}(hp:ae C σ o=some p):p.2=σ:=by
 cases o<;>simp only[JV]at h<;>try(cases h;done)
 all_goals
  simp only[ae]at hp
  repeat' split at hp
  all_goals first
   |(cases hp;rfl)
   |(cases hp;done)
   |(obtain⟨_,_,rfl⟩:=Option.map_eq_some_iff.1 hp;rfl)
theorem R9{o:IOp}(h:JV o=true):o.zA=true:=by cases o<;>first|rfl|cases h
@[simp] def RdK(E:Env)(σ:St)(K:St→Prop)(o:IOp)(j:Nat)(w:Bool)(rest:List (Option (Nat×Bool)×IOp)):Prop:=
 zB (nth σ.rs j)∧(if Uw (nth σ.rs j) w=true then iO σ o else True)∧nf E rest {σ with rs:=σ.rs++[if Uw (nth σ.rs j) w=true then gL σ o else T.bD]} K
section
variable{E:Env}{σ:St}{K:St→Prop}(j:Nat)(w:Bool)(rest:List (Option (Nat×Bool)×IOp))
end
def pT(o:Option T):T:=o.getD .undef
@[simp] theorem akS(t):pT (some t)=t:=rfl
theorem jv{σ:St}{o:IOp}{r:Option T}(h:ae C0 σ o=r.map (·,σ)):gL σ o=pT r:=by unfold gL;rw[h];cases r<;>rfl
theorem jw{σ:St}{o:IOp}{r:Option T}(h:ae C0 σ o=r.map (·,σ)):iO σ o=(r.isSome=true):=by unfold iO;rw[h];cases r<;>rfl
section
variable(σ:St)
@[simp] theorem agn(a):gL σ (.mv a)=a.get σ:=rfl
@[simp] theorem ago(a):iO σ (.mv a)=True:=eq_true rfl
@[simp] theorem aoR(op t a b):gL σ (.bin op t a b)=pT (bO op t (a.get σ) (b.get σ)):=jv rfl
@[simp] theorem aoS(op t a b):iO σ (.bin op t a b)=((bO op t (a.get σ) (b.get σ)).isSome=true):=jw rfl
def Iv(c a b:T):Option T:=match c with| .v (.bool t)=>some (if t=true then a else b)|_=>none
@[simp] theorem ai3(t a b):Iv (.v (.bool t)) a b=some (if t=true then a else b):=rfl
theorem On(a b c):ae C0 σ (.pick a b c)=(Iv (a.get σ) (b.get σ) (c.get σ)).map (·,σ):=by
 simp only[ae,Iv]
 generalize ag.get σ a=t
 cases t<;>try rfl
 rename_i x
 cases x<;>rfl
@[simp] theorem amL(a b c):gL σ (.pick a b c)=pT (Iv (a.get σ) (b.get σ) (c.get σ)):=jv (On ..)
@[simp] theorem amM(a b c):iO σ (.pick a b c)=((Iv (a.get σ) (b.get σ) (c.get σ)).isSome=true):=jw (On ..)
def Oo(neg:Bool)(a b:T):Option T:=match a,b with| .v (.bool x),.v (.bool y)=>some (T.bool ((x==y) !=neg))|_,_=>none
@[simp] theorem akT(neg x y):Oo neg (.v (.bool x)) (.v (.bool y))=some (.v (.bool ((x==y) !=neg))):=rfl
theorem Sa(neg a b):ae C0 σ (.eqb neg a b)=(Oo neg (a.get σ) (b.get σ)).map (·,σ):=by
 simp only[ae,Oo]
 generalize ag.get σ a=t
 generalize ag.get σ b=u
 cases t<;>try rfl
 rename_i x
 cases x<;>try rfl
 cases u<;>try rfl
 rename_i y
 cases y<;>rfl
@[simp] theorem aoT(neg a b):gL σ (.eqb neg a b)=pT (Oo neg (a.get σ) (b.get σ)):=jv (Sa ..)
@[simp] theorem aoU(neg a b):iO σ (.eqb neg a b)=((Oo neg (a.get σ) (b.get σ)).isSome=true):=jw (Sa ..)
def amN(a:T):Option T:=match a with| .v (.bool x)=>some (T.bool (!x))|_=>none
@[simp] theorem akU(x):amN (.v (.bool x))=some (.v (.bool (!x))):=rfl
def Xt(op:UnOp)(a:T):Option T:=match a with| .v x=>(gy (Op.unary op x)).map T.v|_=>none
@[simp] theorem aoV(x):Xt .not (.v (.bool x))=some (.v (.bool (!x))):=rfl
theorem Xu(op a):ae C0 σ (.un op a)=(Xt op (a.get σ)).map (·,σ):=by
 simp only[ae,Xt]
 generalize ag.get σ a=t
 cases t<;>try rfl
 rename_i x
 show Option.map _ _=Option.map _ (Option.map _ _)
 cases gy (Op.unary op x)<;>rfl
@[simp] theorem apA(op a):gL σ (.un op a)=pT (Xt op (a.get σ)):=jv (Xu ..)
@[simp] theorem apB(op a):iO σ (.un op a)=((Xt op (a.get σ)).isSome=true):=jw (Xu ..)
def agp(isAgg:Bool)(off n:Nat)(a:T):Option T:=match a with| .agg cs=>one? isAgg n cs off|_=>none
@[simp] theorem ai4(isAgg off n cs):agp isAgg off n (.agg cs)=one? isAgg n cs off:=rfl
def Ft(bx:List (Option (List T)))(isAgg:Bool)(n:Nat)(a:T):Option T:=match a with
 | .ref s off=>(aj bx s).bind fun cs=>one? isAgg n cs off
 | .ptr cs off=>(one? isAgg n cs off).filter T.closed
 |_=>none
@[simp] theorem akV(bx isAgg n s off):Ft bx isAgg n (.ref s off)=(aj bx s).bind fun cs=>one? isAgg n cs off:=rfl
@[simp] theorem akW(bx isAgg n cs off):Ft bx isAgg n (.ptr cs off)=(one? isAgg n cs off).filter T.closed:=rfl
theorem Oq(isAgg n a):ae C0 σ (.load isAgg n a)=(Ft σ.boxes isAgg n (a.get σ)).map (·,σ):=by
 simp only[ae,Ft]
 generalize ag.get σ a=t
 cases t<;>try rfl
 rename_i s off
 show(match σ.boxes[s]? with|some (some cs)=>(one? isAgg n cs off).map (·,σ)|_=>none)=Option.map _ ((aj σ.boxes s).bind fun cs=>one? isAgg n cs off)
 unfold aj
 cases σ.boxes[s]? with
 |none=>rfl
 |some o=>cases o<;>rfl
@[simp] theorem amO(isAgg n a):gL σ (.load isAgg n a)=pT (Ft σ.boxes isAgg n (a.get σ)):=jv (Oq ..)
@[simp] theorem amP(isAgg n a):iO σ (.load isAgg n a)=((Ft σ.boxes isAgg n (a.get σ)).isSome=true):=jw (Oq ..)
def Bl(off:Nat)(a:T):Option T:=match a with
 | .ref s o=>some (.ref s (o+off))
 | .ptr cs o=>some (.ptr cs (o+off))
 |_=>none
@[simp] theorem ai5(off s o):Bl off (.ref s o)=some (.ref s (o+off)):=rfl
@[simp] theorem ai6(off cs o):Bl off (.ptr cs o)=some (.ptr cs (o+off)):=rfl
theorem Lp(off a):ae C0 σ (.faddr off a)=(Bl off (a.get σ)).map (·,σ):=by
 simp only[ae,Bl]
 generalize ag.get σ a=t
 cases t<;>rfl
@[simp] theorem akX(off a):gL σ (.faddr off a)=pT (Bl off (a.get σ)):=jv (Lp ..)
@[simp] theorem akY(off a):iO σ (.faddr off a)=((Bl off (a.get σ)).isSome=true):=jw (Lp ..)
@[simp] theorem aoW(str a):gL σ (.len str a)=pT (jo str (a.get σ)):=jv rfl
@[simp] theorem aoX(str a):iO σ (.len str a)=((jo str (a.get σ)).isSome=true):=jw rfl
def dR(sz:Nat)(a i:T):Option T:=match a,i with
 | .sl _ n cs,.v (.int _ j)=>if 0≤j∧j.toNat< n then some (.ptr cs (j.toNat*sz))else none
 | .av s o n _,.v (.int _ j)=>if 0≤j∧j.toNat< n then some (.ref s (o+j.toNat*sz))else none
 |_,_=>none
@[simp] theorem ai7(sz g n cs kd j):dR sz (.sl g n cs) (.v (.int kd j))=if 0≤j∧j.toNat< n then some (.ptr cs (j.toNat*sz))else none:=rfl
@[simp] theorem ahT(sz s o n c kd j):dR sz (.av s o n c) (.v (.int kd j))=if 0≤j∧j.toNat< n then some (.ref s (o+j.toNat*sz))else none:=rfl
theorem Iw(sz a i):ae C0 σ (.iaddrS sz a i)=(dR sz (a.get σ) (i.get σ)).map (·,σ):=by
 simp only[ae,dR]
 generalize ag.get σ a=t
 generalize ag.get σ i=u
 cases t<;>try rfl
 all_goals
  cases u<;>try rfl
  rename_i y
  cases y<;>try rfl
  rename_i n _ kd j
  by_cases h:0≤j<;>simp[asNat,h]<;>split<;>simp_all
@[simp] theorem ai8(sz a i):gL σ (.iaddrS sz a i)=pT (dR sz (a.get σ) (i.get σ)):=jv (Iw ..)
@[simp] theorem ai9(sz a i):iO σ (.iaddrS sz a i)=((dR sz (a.get σ) (i.get σ)).isSome=true):=jw (Iw ..)
def xU(len sz:Nat)(a i:T):Option T:=match a,i with
 | .ref s o,.v (.int _ j)=>if 0≤j∧j.toNat< len then some (.ref s (o+j.toNat*sz))else none
 | .ptr cs o,.v (.int _ j)=>if 0≤j∧j.toNat< len then some (.ptr cs (o+j.toNat*sz))else none
 |_,_=>none
@[simp] theorem ahU(len sz s o kd j):xU len sz (.ref s o) (.v (.int kd j))=if 0≤j∧j.toNat< len then some (.ref s (o+j.toNat*sz))else none:=rfl
@[simp] theorem ahV(len sz cs o kd j):xU len sz (.ptr cs o) (.v (.int kd j))=if 0≤j∧j.toNat< len then some (.ptr cs (o+j.toNat*sz))else none:=rfl
theorem Ix(len sz a i):ae C0 σ (.iaddrA len sz a i)=(xU len sz (a.get σ) (i.get σ)).map (·,σ):=by
 simp only[ae,xU]
 generalize ag.get σ a=t
 generalize ag.get σ i=u
 cases t<;>try rfl
 all_goals
  cases u<;>try rfl
  rename_i y
  cases y<;>try rfl
  rename_i kd j
  by_cases h:0≤j<;>simp[asNat,h]<;>split<;>simp_all
@[simp] theorem aja(len sz a i):gL σ (.iaddrA len sz a i)=pT (xU len sz (a.get σ) (i.get σ)):=jv (Ix ..)
@[simp] theorem ajb(len sz a i):iO σ (.iaddrA len sz a i)=((xU len sz (a.get σ) (i.get σ)).isSome=true):=jw (Ix ..)
def Ot(neg:Bool)(ks:List LK)(a b:T):Option T:=match a,b with| .agg xs,.agg ys=>(cd ks xs ys).map fun e=>T.bool (e !=neg)|_,_=>none
@[simp] theorem amQ(neg ks xs ys):Ot neg ks (.agg xs) (.agg ys)=(cd ks xs ys).map fun e=>T.bool (e !=neg):=rfl
theorem Sb(neg ks a b):ae C0 σ (.eqa neg ks a b)=(Ot neg ks (a.get σ) (b.get σ)).map (·,σ):=by
 simp only[ae,Ot]
 generalize ag.get σ a=t
 generalize ag.get σ b=u
 cases t<;>try rfl
 cases u<;>try rfl
 rename_i xs ys
 show Option.map _ _=Option.map _ (Option.map _ _)
 cases cd ks xs ys<;>rfl
@[simp] theorem aoY(neg ks a b):gL σ (.eqa neg ks a b)=pT (Ot neg ks (a.get σ) (b.get σ)):=jv (Sb ..)
@[simp] theorem aoZ(neg ks a b):iO σ (.eqa neg ks a b)=((Ot neg ks (a.get σ) (b.get σ)).isSome=true):=jw (Sb ..)
def Bm(a i:T):Option T:=match a,i with
 | .v (.string s),.v (.int _ j)=>if 0≤j then s.data[j.toNat]?.map fun b=>T.v (.int .u8 b.toNat)else none
 |_,_=>none
@[simp] theorem ahW(s kd j):Bm (.v (.string s)) (.v (.int kd j))=if 0≤j then s.data[j.toNat]?.map fun b=>T.v (.int .u8 b.toNat)else none:=rfl
theorem Iy(a i):ae C0 σ (.indexS a i)=(Bm (a.get σ) (i.get σ)).map (·,σ):=by
 simp only[ae,Bm]
 generalize ag.get σ a=t
 generalize ag.get σ i=u
 cases t<;>try rfl
 rename_i x
 cases x<;>try rfl
 cases u<;>try rfl
 rename_i y
 cases y<;>try rfl
 rename_i s kd j
 by_cases h:0≤j
 ·simp only[asNat,h,if_true]
  cases s.data[j.toNat]? <;>rfl
 ·simp[asNat,h]
@[simp] theorem ajc(a i):gL σ (.indexS a i)=pT (Bm (a.get σ) (i.get σ)):=jv (Iy ..)
@[simp] theorem ajd(a i):iO σ (.indexS a i)=((Bm (a.get σ) (i.get σ)).isSome=true):=jw (Iy ..)
end
theorem bin_eqs(t:TypeId)(a b:ByteArray):bO .eql t (.v (.string a)) (.v (.string b))=some (.v (.bool (a.toList==b.toList))):=rfl
theorem bin_nes(t:TypeId)(a b:ByteArray):bO .neq t (.v (.string a)) (.v (.string b))=some (.v (.bool (!(a.toList==b.toList)))):=rfl
attribute [simp] bin_eqs bin_nes
@[simp] theorem ahX:cd [] [] []=some true:=rfl
@[simp] theorem Q3(k:IntKind)(ks:List LK)(a b:Int)(as bs:List T):cd (.int::ks) (.v (.int k a)::as) (.v (.int k b)::bs)=(cd ks as bs).map fun y=>(a==b)&&y:=by
 simp only[cd,ig,Option.bind_eq_bind,if_true,Option.bind_some]
 cases cd ks as bs<;>rfl
@[simp] theorem ahY(ks:List LK)(a b:ByteArray)(as bs:List T):cd (.str::ks) (.v (.string a)::as) (.v (.string b)::bs)=(cd ks as bs).map fun y=>(a.toList==b.toList)&&y:=by
 simp only[cd,ig,Option.bind_eq_bind,Option.bind_some]
 cases cd ks as bs<;>rfl
end Go.Vi
end
section
namespace Go.Vi
open Go
structure Hd(p:Prop):Prop where
 out:p
inductive Fr where
 |seq (b:IC)|xo (id:Nat)|nj
def Fin(E:Env):List Fr→(Out→Prop)→Out→Prop
 | [],Q=>Q
 | .seq b::k,Q=>zz (fun σ=>Wp E b σ (Fin E k Q)) (Fin E k Q)
 | .xo id::k,Q=>Er id (Fin E k Q)
 | .nj::k,Q=>Bh (Fin E k Q)
def M(E:Env)(c:IC)(k:List Fr)(σ:St)(Q:Out→Prop):Prop:=Wp E c σ (Fin E k Q)
def N(E:Env)(k:List Fr)(σ:St)(Q:Out→Prop):Prop:=Fin E k Q (.norm σ)
def X(E:Env)(id:Nat)(k:List Fr)(σ:St)(Q:Out→Prop):Prop:=Fin E k Q (.exit id σ)
def R(E:Env)(k:List Fr)(σ:St)(Q:Out→Prop):Prop:=Fin E k Q (.ret σ)
abbrev nC:=List (Option (Nat×Bool)×IOp)
def O(E:Env)(ops:nC)(outs:List (Option Nat))(k:List Fr)(σ:St)(Q:Out→Prop):Prop:=nf E ops σ fun σ'=>N E k ⟨[],fz σ'.rs σ'.vars outs,σ'.boxes⟩ Q
section
variable{E:Env}{k:List Fr}{σ:St}{Q:Out→Prop}
@[simp] theorem apC:M E .skip k σ Q=N E k σ Q:=wp_skip
@[simp] theorem ap1:M E .ret k σ Q=R E k σ Q:=wp_ret
@[simp] theorem apD(id):M E (.exit id) k σ Q=X E id k σ Q:=wp_exit id
@[simp] theorem apE(vs)(rs vars bx):M E (.kill vs) k ⟨rs,vars,bx⟩ Q=N E k ⟨rs,ef vs vars,bx⟩ Q:=R8 vs
@[simp] theorem aje:M E (.free []) k σ Q=N E k σ Q:=(Cc []).trans (bg _ _)
@[simp] theorem ahZ(s ss)(rs vars bx):M E (.free (s::ss)) k ⟨rs,vars,bx⟩ Q=(St.ay s ⟨rs,vars,bx⟩=true∧M E (.free ss) k ⟨rs,vars,bx.set s none⟩ Q):=by
 unfold M
 rw[Cc,Cc]
 simp only[cB]
 exact sZ _ _ _
@[simp] theorem ap2(a b):M E (.seq a b) k σ Q=M E a (.seq b::k) σ Q:=wp_seq a b
@[simp] theorem ao0(id a):M E (.block id a) k σ Q=M E a (.xo id::k) σ Q:=wp_block id a
theorem abE(a)(h:M E a (.nj::k) σ Q):M E (.kz a) k σ Q:=Xf a h
@[simp] theorem ap3(r):M E (.Az r) k σ Q=O E r.ops r.outs k {σ with rs:=[]} Q:=Xg r
def Iz(E:Env)(t:T)(a b:IC)(k:List Fr)(σ:St)(Q:Out→Prop):Prop:=ME t (M E a k σ Q) (M E b k σ Q)
@[simp] theorem apF(c a b):M E (.cond c a b) k σ Q=Iz E (c.get σ) a b k σ Q:=wp_cond c a b
@[simp] theorem ajf(a b):Iz E (.v (.bool true)) a b k σ Q=M E a k σ Q:=rfl
@[simp] theorem ah0(a b):Iz E (.v (.bool false)) a b k σ Q=M E b k σ Q:=rfl
theorem oV{t:Bool}{a b}(h1:t=true→M E a k σ Q)(h2:t=false→M E b k σ Q):Iz E (.v (.bool t)) a b k σ Q:=by
 cases t
 ·exact h2 rfl
 ·exact h1 rfl
@[simp] theorem ap4:N E [] σ Q=Q (.norm σ):=rfl
@[simp] theorem ap5(b):N E (.seq b::k) σ Q=M E b k σ Q:=rfl
@[simp] theorem ap6(id):N E (.xo id::k) σ Q=N E k σ Q:=rfl
@[simp] theorem aqr:N E (.nj::k) σ Q=N E k σ Q:=rfl
@[simp] theorem ap7(id):X E id [] σ Q=Q (.exit id σ):=rfl
@[simp] theorem ap8(id b):X E id (.seq b::k) σ Q=X E id k σ Q:=rfl
@[simp] theorem ap9(id j):X E id (.xo j::k) σ Q=if id=j then N E k σ Q else X E id k σ Q:=rfl
@[simp] theorem aqs(id):X E id (.nj::k) σ Q=if id< cD then X E id k σ Q else False:=rfl
@[simp] theorem aqa:R E [] σ Q=Q (.ret σ):=rfl
@[simp] theorem aqb(b):R E (.seq b::k) σ Q=R E k σ Q:=rfl
@[simp] theorem aqc(id):R E (.xo id::k) σ Q=R E k σ Q:=rfl
@[simp] theorem aqt:R E (.nj::k) σ Q=R E k σ Q:=rfl
variable{outs:List (Option Nat)}{rest:nC}
@[simp] theorem aqd(rs vars bx):O E [] outs k ⟨rs,vars,bx⟩ Q=N E k ⟨[],fz rs vars outs,bx⟩ Q:=Lo
theorem rh{o:IOp}(h:JV o=true)(rs vars bx):O E ((none,o)::rest) outs k ⟨rs,vars,bx⟩ Q=(iO ⟨rs,vars,bx⟩ o∧O E rest outs k ⟨snoc rs (gL ⟨rs,vars,bx⟩ o),vars,bx⟩ Q):=by
 unfold O
 rw[eg,eb (R9 h)]
 unfold iO gL
 cases hr:ae C0 ⟨rs,vars,bx⟩ o with
 |none=>simp[aX]
 |some p=>
  have:=acO h hr
  rw[bg,this];simp
variable(rs vars:List T)(bx:List (Option (List T)))
@[simp] theorem aqu(a):O E ((none,.mv a)::rest) outs k ⟨rs,vars,bx⟩ Q=O E rest outs k ⟨snoc rs (a.get ⟨rs,vars,bx⟩),vars,bx⟩ Q:=by rw[rh rfl,ago,true_and,agn]
@[simp] theorem apG(a b c):O E ((none,.pick a b c)::rest) outs k ⟨rs,vars,bx⟩ Q=(iO ⟨rs,vars,bx⟩ (.pick a b c)∧O E rest outs k ⟨snoc rs (gL ⟨rs,vars,bx⟩ (.pick a b c)),vars,bx⟩ Q):=rh rfl ..
@[simp] theorem aqe(a b c d):O E ((none,.bin a b c d)::rest) outs k ⟨rs,vars,bx⟩ Q=(iO ⟨rs,vars,bx⟩ (.bin a b c d)∧O E rest outs k ⟨snoc rs (gL ⟨rs,vars,bx⟩ (.bin a b c d)),vars,bx⟩ Q):=rh rfl ..
@[simp] theorem aqf(a b c):O E ((none,.eqb a b c)::rest) outs k ⟨rs,vars,bx⟩ Q=(iO ⟨rs,vars,bx⟩ (.eqb a b c)∧O E rest outs k ⟨snoc rs (gL ⟨rs,vars,bx⟩ (.eqb a b c)),vars,bx⟩ Q):=rh rfl ..
@[simp] theorem aqg(a b c d):O E ((none,.eqa a b c d)::rest) outs k ⟨rs,vars,bx⟩ Q=(iO ⟨rs,vars,bx⟩ (.eqa a b c d)∧O E rest outs k ⟨snoc rs (gL ⟨rs,vars,bx⟩ (.eqa a b c d)),vars,bx⟩ Q):=rh rfl ..
@[simp] theorem ao1(a b):O E ((none,.eqnil a b)::rest) outs k ⟨rs,vars,bx⟩ Q=(iO ⟨rs,vars,bx⟩ (.eqnil a b)∧O E rest outs k ⟨snoc rs (gL ⟨rs,vars,bx⟩ (.eqnil a b)),vars,bx⟩ Q):=rh rfl ..
@[simp] theorem aqv(a b):O E ((none,.un a b)::rest) outs k ⟨rs,vars,bx⟩ Q=(iO ⟨rs,vars,bx⟩ (.un a b)∧O E rest outs k ⟨snoc rs (gL ⟨rs,vars,bx⟩ (.un a b)),vars,bx⟩ Q):=rh rfl ..
@[simp] theorem ao2(a b):O E ((none,.toInt a b)::rest) outs k ⟨rs,vars,bx⟩ Q=(iO ⟨rs,vars,bx⟩ (.toInt a b)∧O E rest outs k ⟨snoc rs (gL ⟨rs,vars,bx⟩ (.toInt a b)),vars,bx⟩ Q):=rh rfl ..
@[simp] theorem amR(a b c d e):O E ((none,.indexA a b c d e)::rest) outs k ⟨rs,vars,bx⟩ Q=(iO ⟨rs,vars,bx⟩ (.indexA a b c d e)∧O E rest outs k ⟨snoc rs (gL ⟨rs,vars,bx⟩ (.indexA a b c d e)),vars,bx⟩ Q):=rh rfl ..
@[simp] theorem amS(a b):O E ((none,.indexS a b)::rest) outs k ⟨rs,vars,bx⟩ Q=(iO ⟨rs,vars,bx⟩ (.indexS a b)∧O E rest outs k ⟨snoc rs (gL ⟨rs,vars,bx⟩ (.indexS a b)),vars,bx⟩ Q):=rh rfl ..
@[simp] theorem akZ(a b):O E ((none,.extract a b)::rest) outs k ⟨rs,vars,bx⟩ Q=(iO ⟨rs,vars,bx⟩ (.extract a b)∧O E rest outs k ⟨snoc rs (gL ⟨rs,vars,bx⟩ (.extract a b)),vars,bx⟩ Q):=rh rfl ..
@[simp] theorem o_load(a b c):O E ((none,.load a b c)::rest) outs k ⟨rs,vars,bx⟩ Q=(iO ⟨rs,vars,bx⟩ (.load a b c)∧O E rest outs k ⟨snoc rs (gL ⟨rs,vars,bx⟩ (.load a b c)),vars,bx⟩ Q):=rh rfl ..
@[simp] theorem ao3(a b):O E ((none,.faddr a b)::rest) outs k ⟨rs,vars,bx⟩ Q=(iO ⟨rs,vars,bx⟩ (.faddr a b)∧O E rest outs k ⟨snoc rs (gL ⟨rs,vars,bx⟩ (.faddr a b)),vars,bx⟩ Q):=rh rfl ..
@[simp] theorem amT(a b c d):O E ((none,.iaddrA a b c d)::rest) outs k ⟨rs,vars,bx⟩ Q=(iO ⟨rs,vars,bx⟩ (.iaddrA a b c d)∧O E rest outs k ⟨snoc rs (gL ⟨rs,vars,bx⟩ (.iaddrA a b c d)),vars,bx⟩ Q):=rh rfl ..
@[simp] theorem amU(a b c):O E ((none,.iaddrS a b c)::rest) outs k ⟨rs,vars,bx⟩ Q=(iO ⟨rs,vars,bx⟩ (.iaddrS a b c)∧O E rest outs k ⟨snoc rs (gL ⟨rs,vars,bx⟩ (.iaddrS a b c)),vars,bx⟩ Q):=rh rfl ..
@[simp] theorem aqh(a b):O E ((none,.len a b)::rest) outs k ⟨rs,vars,bx⟩ Q=(iO ⟨rs,vars,bx⟩ (.len a b)∧O E rest outs k ⟨snoc rs (gL ⟨rs,vars,bx⟩ (.len a b)),vars,bx⟩ Q):=rh rfl ..
def G(E:Env)(g:Option T)(w:Bool)(o:IOp)(rest:nC)(outs:List (Option Nat))(k:List Fr)(σ:St)(Q:Out→Prop):Prop:=
 yO g w (O E ((none,o)::rest) outs k σ Q) (O E rest outs k {σ with rs:=snoc σ.rs T.bD} Q)
@[simp] theorem ao4(j w o):O E ((some (j,w),o)::rest) outs k ⟨rs,vars,bx⟩ Q=G E (cr rs j) w o rest outs k ⟨rs,vars,bx⟩ Q:=by
 unfold O G
 rw[Iq]
 unfold O
 rw[eg]
@[simp] theorem apH(o):G E (some (.v (.bool true))) true o rest outs k σ Q=O E ((none,o)::rest) outs k σ Q:=rfl
@[simp] theorem ao5(o):G E (some (.v (.bool false))) false o rest outs k σ Q=O E ((none,o)::rest) outs k σ Q:=rfl
@[simp] theorem ao6(o):G E (some (.v (.bool false))) true o rest outs k σ Q=O E rest outs k {σ with rs:=snoc σ.rs T.bD} Q:=rfl
@[simp] theorem amV(o):G E (some (.v (.bool true))) false o rest outs k σ Q=O E rest outs k {σ with rs:=snoc σ.rs T.bD} Q:=rfl
@[simp] theorem apI(w o):G E (some T.bD) w o rest outs k σ Q=O E rest outs k {σ with rs:=snoc σ.rs T.bD} Q:=rfl
theorem j9{b w:Bool}{o}(h1:b=true→G E (some (.v (.bool true))) w o rest outs k σ Q)(h2:b=false→G E (some (.v (.bool false))) w o rest outs k σ Q):G E (some (.v (.bool b))) w o rest outs k σ Q:=by
 cases b
 ·exact h2 rfl
 ·exact h1 rfl
def rk(cs:List T):Bool:=cs.all T.one
@[simp] theorem amW:rk []=true:=rfl
@[simp] theorem ak0(t cs):rk (t::cs)=(t.one&&rk cs):=rfl
def kG(t:T):List T:=(cellsOf t).getD []
def lC(t:T):Bool:=(cellsOf t).isSome
@[simp] theorem ajg(cs):kG (.agg cs)=cs:=rfl
@[simp] theorem amX(x):kG (.v x)=[.v x]:=rfl
@[simp] theorem ak1(g n cs):kG (.sl g n cs)=[.sl g n cs]:=rfl
@[simp] theorem ajh(s o n c):kG (.av s o n c)=[.av s o n c]:=rfl
@[simp] theorem aji(s o):kG (.ref s o)=[.ref s o]:=rfl
@[simp] theorem ajj(cs o):kG (.ptr cs o)=[.ptr cs o]:=rfl
@[simp] theorem ah1(s):kG (.aQ s)=[.aQ s]:=rfl
@[simp] theorem ajk(f a b):kG (.bB f a b)=[.bB f a b]:=rfl
@[simp] theorem ajl(cs):lC (.agg cs)=true:=rfl
@[simp] theorem amY(x):lC (.v x)=true:=rfl
@[simp] theorem ak2(g n cs):lC (.sl g n cs)=true:=rfl
@[simp] theorem ajm(s o n c):lC (.av s o n c)=true:=rfl
@[simp] theorem ajn(s o):lC (.ref s o)=true:=rfl
@[simp] theorem ajo(cs o):lC (.ptr cs o)=true:=rfl
@[simp] theorem ah2(s):lC (.aQ s)=true:=rfl
@[simp] theorem ajp(f a b):lC (.bB f a b)=true:=rfl
theorem Lq(t:T)(k:List T→Prop):mH t k=(lC t=true∧k (kG t)):=by
 unfold mH lC kG
 cases cellsOf t with
 |none=>simp[aX]
 |some cs=>simp[bg]
@[simp] theorem aqi(s a):O E ((none,.box s a)::rest) outs k ⟨rs,vars,bx⟩ Q=(lC (a.get ⟨rs,vars,bx⟩)=true∧rk (kG (a.get ⟨rs,vars,bx⟩))=true∧fQ bx s=true∧s%2=0∧O E rest outs k ⟨snoc rs (.ref s 0),vars,bx.set s (some (kG (a.get ⟨rs,vars,bx⟩)))⟩ Q):=by
 unfold O
 rw[eg,Om,Lq];rfl
@[simp] theorem ao7(s cs):O E ((none,.alloc s cs)::rest) outs k ⟨rs,vars,bx⟩ Q=(fQ bx s=true∧s%2=0∧O E rest outs k ⟨snoc rs (.ref s 0),vars,bx.set s (some cs)⟩ Q):=by
 unfold O
 rw[eg,Is];rfl
def Xv(E:Env)(a:T)(n:Nat)(ns:List T)(rest:nC)(outs:List (Option Nat))(k:List Fr)(σ:St)(Q:Out→Prop):Prop:=
 Et σ.boxes n a ns fun bx=>O E rest outs k {σ with rs:=snoc σ.rs .undef,boxes:=bx} Q
def Xw(E:Env)(o:Option (List T))(s off n:Nat)(ns:List T)(rest:nC)(outs:List (Option Nat))(k:List Fr)(σ:St)(Q:Out→Prop):Prop:=
 dm o fun cs=>ns.length=n∧off+n≤cs.length∧rk ns=true∧O E rest outs k {σ with rs:=snoc σ.rs .undef,boxes:=σ.boxes.set s (some (setCells cs off ns))} Q
@[simp] theorem ao8(n a b):O E ((none,.store n a b)::rest) outs k ⟨rs,vars,bx⟩ Q=(lC (b.get ⟨rs,vars,bx⟩)=true∧Xv E (a.get ⟨rs,vars,bx⟩) n (kG (b.get ⟨rs,vars,bx⟩)) rest outs k ⟨rs,vars,bx⟩ Q):=by
 unfold O
 rw[eg,It,Lq];rfl
@[simp] theorem ajq(s off n ns):Xv E (.ref s off) n ns rest outs k ⟨rs,vars,bx⟩ Q=Xw E (aj bx s) s off n ns rest outs k ⟨rs,vars,bx⟩ Q:=rfl
@[simp] theorem ah3(cs s off n ns):Xw E (some cs) s off n ns rest outs k ⟨rs,vars,bx⟩ Q=(ns.length=n∧off+n≤cs.length∧rk ns=true∧O E rest outs k ⟨snoc rs .undef,vars,bx.set s (some (setCells cs off ns))⟩ Q):=bg _ _
@[simp] theorem ao9(zero parts):O E ((none,.build zero parts)::rest) outs k ⟨rs,vars,bx⟩ Q=((df (ag.get ⟨rs,vars,bx⟩) zero parts).isSome=true∧O E rest outs k ⟨snoc rs (.agg ((df (ag.get ⟨rs,vars,bx⟩) zero parts).getD [])),vars,bx⟩ Q):=by
 unfold O
 rw[eg,Ir]
 cases df (ag.get ⟨rs,vars,bx⟩) zero parts with
 |none=>simp[aX]
 |some cs=>simp[bg]
@[simp] theorem amZ(fn first cap):O E ((none,.mkFunc fn first cap)::rest) outs k ⟨rs,vars,bx⟩ Q=O E rest outs k ⟨snoc rs (.bB fn (first.map (ag.get ⟨rs,vars,bx⟩)) (cap.map (ag.get ⟨rs,vars,bx⟩))),vars,bx⟩ Q:=by
 unfold O
 rw[eg,Gz]
@[simp] theorem bJ{t:T}(h:t.closed=true):Option.filter T.closed (some t)=some t:=by simp[Option.filter,h]
theorem jY{α:Type}{enc:α→List T}{sz:Nat}(h:∀x,(enc x).length=sz)(l:List α)(k j:Nat)(hk:k< l.length)(hj:j< sz):cr (l.flatMap enc) (k*sz+j)=cr (enc l[k]) j:=by
 rw[←mQ,←mQ,←Cd h l k hk,List.getElem?_take,if_pos hj,List.getElem?_drop]
theorem Ev.det{f:FuncId}{cs:List T}{r r':T}(h:Ev E f cs r)(h':Ev E f cs r'):r=r':=by
 obtain⟨n,hn⟩:=h
 obtain⟨m,hm⟩:=h'
 have h1:=(le_max E n m).1 _ _ _ hn
 have h2:=(le_max E n m).2 _ _ _ hm
 rw[h1]at h2
 exact Option.some.inj h2
noncomputable def dC(E:Env)(f:FuncId)(cs:List T):Option T:=by
 classical exact if h:∃r,Ev E f cs r then some h.choose else none
theorem af{f:FuncId}{cs:List T}{r:T}(h:Ev E f cs r):dC E f cs=some r:=by
 unfold dC
 rw[dif_pos ⟨r,h⟩]
 exact congrArg some (Ev.det (Exists.choose_spec (p:=fun r=>Ev E f cs r) ⟨r,h⟩) h)
theorem Ce{f:FuncId}{cs:List T}{r:T}(h:dC E f cs=some r):Ev E f cs r:=by
 unfold dC at h
 split at h
 ·rename_i hx;simp only[Option.some.injEq]at h;rw[←h];exact hx.choose_spec
 ·cases h
def Cr(E:Env)(d:Nat)(r:Option T)(hr:Bool)(rest:nC)(outs:List (Option Nat))(k:List Fr)(σ:St)(Q:Out→Prop):Prop:=
 dm r fun r=>(hr&& !r.fresh)=false∧O E rest outs k ⟨snoc (σ.strip (2*d)).rs (r.import d),(σ.strip (2*d)).vars,(σ.strip (2*d)).boxes⟩ Q
@[simp] theorem apa(d r hr):Cr E d (some r) hr rest outs k ⟨rs,vars,bx⟩ Q=((hr&& !r.fresh)=false∧O E rest outs k ⟨snoc (stripL (2*d) rs) (r.import d),stripL (2*d) vars,bx.map (Option.map (stripL (2*d)))⟩ Q):=bg _ _
def Cl(E:Env)(d:Nat)(f:FuncId)(cs:Option (List T))(hr:Bool)(rest:nC)(outs:List (Option Nat))(k:List Fr)(σ:St)(Q:Out→Prop):Prop:=
 dm cs fun cs=>f< aq∧Cr E d (dC E f cs) hr rest outs k σ Q
@[simp] theorem apb(d f cs hr):Cl E d f (some cs) hr rest outs k σ Q=(f< aq∧Cr E d (dC E f cs) hr rest outs k σ Q):=bg _ _
theorem Sd{d:Nat}{f:FuncId}{as:List T}{o:IOp}(ho:∀n,ae (aW E n) ⟨rs,vars,bx⟩ o=ae.cU (aW E n) ⟨rs,vars,bx⟩ d f as)
  (h:Cl E d f (as.mapM (close bx 6)) (bc as) rest outs k ⟨rs,vars,bx⟩ Q):O E ((none,o)::rest) outs k ⟨rs,vars,bx⟩ Q:=by
 unfold O
 rw[eg]
 obtain⟨cs,h1,hf,h⟩:=h
 obtain⟨r,h2,hr,h3⟩:=h
 obtain⟨n,hn⟩:=Ce h2
 refine⟨n,(r.import d,St.strip (2*d) ⟨rs,vars,bx⟩), ?_,h3⟩
 rw[ho]
 simp only[ae.cU,h1,tH,if_pos hf,hn,Option.bind_eq_bind,Option.bind_some,hr,Bool.false_eq_true,if_false]
theorem Ou{d:Nat}{f:FuncId}{as:List T}{o:IOp}(ho:∀n,ae (aW E n) ⟨rs,vars,bx⟩ o=ae.cU (aW E n) ⟨rs,vars,bx⟩ d f as)
  (h:O E ((none,o)::rest) outs k ⟨rs,vars,bx⟩ Q):Cl E d f (as.mapM (close bx 6)) (bc as) rest outs k ⟨rs,vars,bx⟩ Q:=by
 unfold O at h
 rw[eg]at h
 obtain⟨n,p,h1,h2⟩:=h
 rw[ho]at h1
 simp only[ae.cU,Option.bind_eq_bind,Option.bind_eq_some_iff]at h1
 obtain⟨cs,h3,r,h4,h5⟩:=h1
 unfold tH at h4
 split at h4<;>try(cases h4;done)
 rename_i hf
 split at h5<;>try(cases h5;done)
 rename_i hr
 simp only[Option.some.injEq]at h5
 subst h5
 exact⟨cs,h3,hf,r,af ⟨n,h4⟩,by simpa using hr,h2⟩
@[simp] theorem apJ(d f as):O E ((none,.call d f as)::rest) outs k ⟨rs,vars,bx⟩ Q=Cl E d f ((as.map (ag.get ⟨rs,vars,bx⟩)).mapM (close bx 6)) (bc (as.map (ag.get ⟨rs,vars,bx⟩))) rest outs k ⟨rs,vars,bx⟩ Q:=
 propext ⟨Ou rs vars bx fun n=>rfl,Sd rs vars bx fun n=>rfl⟩
def Cv(E:Env)(d:Nat)(c:Option (FuncId×List T×List T))(as:List T)(rest:nC)(outs:List (Option Nat))(k:List Fr)(σ:St)(Q:Out→Prop):Prop:=
 dm c fun c=>Cl E d c.1 ((c.2.1++as++c.2.2).mapM (close σ.boxes 6)) (bc (c.2.1++as++c.2.2)) rest outs k σ Q
@[simp] theorem apc(d f first cap as):Cv E d (some (f,first,cap)) as rest outs k ⟨rs,vars,bx⟩ Q=Cl E d f ((first++as++cap).mapM (close bx 6)) (bc (first++as++cap)) rest outs k ⟨rs,vars,bx⟩ Q:=bg _ _
@[simp] theorem apd(d g as):O E ((none,.callv d g as)::rest) outs k ⟨rs,vars,bx⟩ Q=Cv E d (eC (g.get ⟨rs,vars,bx⟩)) (as.map (ag.get ⟨rs,vars,bx⟩)) rest outs k ⟨rs,vars,bx⟩ Q:=by
 unfold Cv
 cases hc:eC (g.get ⟨rs,vars,bx⟩)with
 |none=>
  rw[aX]
  unfold O
  rw[eg]
  exact propext ⟨fun⟨n,p,h,_⟩=>by simp[ae,hc]at h,fun h=>h.elim⟩
 |some c=>
  obtain⟨f,first,cap⟩:=c
  rw[bg]
  exact propext ⟨Ou rs vars bx fun n=>by simp only[ae,hc],Sd rs vars bx fun n=>by simp only[ae,hc]⟩
def MG(E:Env)(k:List Fr)(Q:Out→Prop)(S:St→Prop):Out→Prop
 | .norm σ=>S σ
 | .exit id σ=>X E id k σ Q
 | .ret σ=>R E k σ Q
@[simp] theorem ajr(S σ):MG E k Q S (.norm σ)=S σ:=rfl
@[simp] theorem ajs(S id σ):MG E k Q S (.exit id σ)=X E id k σ Q:=rfl
@[simp] theorem ak3(S σ):MG E k Q S (.ret σ)=R E k σ Q:=rfl
theorem m_loop{a:IC}(n:Nat)(I:Nat→St→Prop)(h0:I 0 σ)(hstep:∀j σ,j≤n→I j σ→M E a [] σ (MG E k Q fun σ'=>j< n∧I (j+1) σ')):M E (.loop a) k σ Q:=
 abD n I h0 fun j σ hj hI=>by
  obtain⟨f,o,h1,h2⟩:=hstep j σ hj hI
  refine⟨f,o,h1, ?_⟩
  cases o with
  |norm σ'=>exact h2
  |exit=>exact h2
  |ret=>exact h2
def Ov(res:List zP)(canon:List CM)(r:T):Out→Prop
 | .norm σ=>(c9 σ res canon).bind (j2 σ.boxes)=some r
 | .exit _ _=>False
 | .ret σ=>(c9 σ res canon).bind (j2 σ.boxes)=some r
@[simp] theorem ak4(res canon r σ):Ov res canon r (.norm σ)=((c9 σ res canon).bind (j2 σ.boxes)=some r):=rfl
@[simp] theorem am0(res canon r σ):Ov res canon r (.ret σ)=((c9 σ res canon).bind (j2 σ.boxes)=some r):=rfl
theorem aC{f:FuncId}{args:List T}{r:T}{fn:aD}(hp:E.kJ f=none)(hf:f< aq)(pL:E.fn f=some fn)(hs:fn.split=false)(hl:args.length=fn.nparams)
  (h:M E fn.body [] ⟨[],args++List.replicate (fn.jZ-fn.nparams) .undef,List.replicate (2*fn.ez) none⟩ (Ov fn.results fn.canon r)):Ev E f args r:=by
 refine aiz hp hf pL hs hl ?_
 obtain⟨n,o,h1,h2⟩:=h
 refine⟨n,o,h1, ?_⟩
 cases o with
 |norm σ=>exact h2
 |exit=>exact h2
 |ret=>exact h2
end
end Go.Vi
end
section
namespace Go.Vi
open Go
def P1(E:Env)(r:Option (T×St))(rest:nC)(outs:List (Option Nat))(k:List Fr)(Q:Out→Prop):Prop:=
 dm r fun p=>O E rest outs k ⟨snoc p.2.rs p.1,p.2.vars,p.2.boxes⟩ Q
section
variable{E:Env}{k:List Fr}{σ:St}{Q:Out→Prop}{outs:List (Option Nat)}{rest:nC}(rs vars:List T)(bx:List (Option (List T)))
@[simp] theorem Bn(t:T):P1 E (some (t,⟨rs,vars,bx⟩)) rest outs k Q=O E rest outs k ⟨snoc rs t,vars,bx⟩ Q:=bg _ _
theorem bH{o:IOp}(h:o.zA=true):O E ((none,o)::rest) outs k σ Q=P1 E (ae C0 σ o) rest outs k Q:=by
 unfold O P1
 rw[eg,eb h];rfl
@[simp] theorem am1(d e sz len zero parts):O E ((none,.bslice d e sz len zero parts)::rest) outs k ⟨rs,vars,bx⟩ Q=
  P1 E ((df (fun a=>(ag.get ⟨rs,vars,bx⟩ a).cH) (List.replicate len zero).flatten parts).bind fun cs=>if len≤65536∧len*sz≤16777216∧bn cs=true then some (T.sl (if len=0 then .clip else .own (8*d) e) len cs,St.strip (2*d) ⟨rs,vars,bx⟩)else none) rest outs k Q:=bH rfl
@[simp] theorem ak5(g:ag→T)(cells:List T):df g cells []=some cells:=rfl
@[simp] theorem ajt(g:ag→T)(cells:List T)(off n:Nat)(a:ag)(ps:List (Nat×Nat×ag)):df g cells ((off,n,a)::ps)=(cellsOf (g a)).bind fun cs=>if cs.length=n∧off+n≤cells.length∧rk cs=true then df g (setCells cells off cs) ps else none:=rfl
@[simp] theorem ah4(cs:List T):cellsOf (.agg cs)=some cs:=rfl
@[simp] theorem ak6(x:Value):cellsOf (.v x)=some [.v x]:=rfl
@[simp] theorem aju(g n cs):cellsOf (.sl g n cs)=some [.sl g n cs]:=rfl
@[simp] theorem ah5(s o n c):cellsOf (.av s o n c)=some [.av s o n c]:=rfl
@[simp] theorem ah6(s o):cellsOf (.ref s o)=some [.ref s o]:=rfl
@[simp] theorem apK(x:Value):(T.v x).cH= .v x:=by simp only[T.cH]
@[simp] theorem ape(g n cs):(T.sl g n cs).cH= .sl .any n cs:=by simp only[T.cH]
@[simp] theorem am2(cs):(T.agg cs).cH= .agg (jk cs):=by simp only[T.cH]
@[simp] theorem ak7:jk []=[]:=by simp only[jk]
@[simp] theorem apf(x:Value):(T.v x).fx= .v x:=rfl
@[simp] theorem ak8(n cs):(T.sl .nil n cs).fx= .sl .nil n cs:=rfl
@[simp] theorem ak9(n cs):(T.sl .any n cs).fx= .sl .any n cs:=rfl
@[simp] theorem ala(n cs):(T.sl .lP n cs).fx= .sl .any n cs:=rfl
@[simp] theorem ajv(n cs):(T.sl .clip n cs).fx= .sl .any n cs:=rfl
@[simp] theorem alb(k e n cs):(T.sl (.own k e) n cs).fx= .sl .any n cs:=rfl
@[simp] theorem alc(s o n c):(T.av s o n c).fx= .av s o n c:=rfl
@[simp] theorem ald(s o):(T.ref s o).fx= .ref s o:=rfl
@[simp] theorem ale(cs):(T.agg cs).fx= .agg (jk cs):=rfl
@[simp] theorem alf(f a b):(T.bB f a b).fx= .bB f (jk a) (jk b):=rfl
@[simp] theorem ajw(t ts):jk (t::ts)=t.cH::jk ts:=by simp only[jk]
def Al(σ:St)(d:Nat)(e:TypeId)(sz bytes:Nat)(a:T)(src:Option (Nat×List T))(cl:Bool):Option (T×St):=
 match a,src with
  | .sl g n xs,some (m,ys)=>
   if xs.length=n*sz∧ys.length=m*sz∧(n+m)*bytes≤room∧n+m≤room∧cl=true then
    match g with
    | .own k e'=>if e'=e then some (.sl (.own (8*d) e) (n+m) (xs++ys),(σ.strip (2*k+1)).strip (2*d))else none
    | .nil=>if n=0 then some (.sl (.own (8*d) e) m ys,σ.strip (2*d))else none
    | .clip=>if m=0 then(if n=0 then some (.sl (.own (8*d) e) 0 [],σ.strip (2*d))else none)else some (.sl (.own (8*d) e) (n+m) (xs++ys),σ.strip (2*d))
    | .lP=>if m=0 then some (.sl .any n xs,σ)else none
    | .any=>if m=0 then some (.sl .any n xs,σ)else none
   else none
  |_,_=>none
theorem Se(d e sz bytes zero kind a b):ae C0 σ (.append d e sz bytes zero kind a b)=Al σ d e sz bytes (a.get σ) (iH σ.boxes kind sz zero (b.get σ)) (match iH σ.boxes kind sz zero (b.get σ)with|some (_,ys)=>dE (b.get σ) ys|none=>false):=by
 simp only[ae,Al]
 generalize ag.get σ a=t
 generalize ag.get σ b=u
 cases t<;>try rfl
 cases iH σ.boxes kind sz zero u with
 |none=>rfl
 |some p=>rfl
@[simp] theorem am3(d e sz bytes zero kind a b):O E ((none,.append d e sz bytes zero kind a b)::rest) outs k ⟨rs,vars,bx⟩ Q=
  P1 E (Al ⟨rs,vars,bx⟩ d e sz bytes (a.get ⟨rs,vars,bx⟩) (iH bx kind sz zero (b.get ⟨rs,vars,bx⟩)) (match iH bx kind sz zero (b.get ⟨rs,vars,bx⟩)with|some (_,ys)=>dE (b.get ⟨rs,vars,bx⟩) ys|none=>false)) rest outs k Q:=by
 rw[bH rfl,Se]
@[simp] theorem am4(zero sz g m ys):iH bx 0 sz zero (.sl g m ys)=some (m,ys):=rfl
@[simp] theorem alg(zero s):iH bx 1 1 zero (.v (.string s))=some (s.size,s.data.toList.map fun(b:UInt8)=>T.u8 b.toNat):=rfl
@[simp] theorem agq(g m cs ys):dE (.sl g m cs) ys=true:=rfl
@[simp] theorem am5(d e sz bytes n m j xs ys):
  Al ⟨rs,vars,bx⟩ d e sz bytes (.sl (.own j e) n xs) (some (m,ys)) true=if xs.length=n*sz∧ys.length=m*sz∧(n+m)*bytes≤room∧n+m≤room then some (.sl (.own (8*d) e) (n+m) (xs++ys),(St.strip (2*j+1) ⟨rs,vars,bx⟩).strip (2*d))else none:=by
 simp only[Al,and_true,if_true]
@[simp] theorem am6(d e sz bytes m ys):
  Al ⟨rs,vars,bx⟩ d e sz bytes (.sl .nil 0 []) (some (m,ys)) true=if ys.length=m*sz∧m*bytes≤room∧m≤room then some (.sl (.own (8*d) e) m ys,St.strip (2*d) ⟨rs,vars,bx⟩)else none:=by
 simp only[Al,and_true,if_true,List.length_nil,Nat.zero_mul,true_and,Nat.zero_add]
@[simp] theorem alh(d e sz bytes n m xs ys):
  Al ⟨rs,vars,bx⟩ d e sz bytes (.sl .clip n xs) (some (m+1,ys)) true=if xs.length=n*sz∧ys.length=(m+1)*sz∧(n+(m+1))*bytes≤room∧n+(m+1)≤room then some (.sl (.own (8*d) e) (n+(m+1)) (xs++ys),St.strip (2*d) ⟨rs,vars,bx⟩)else none:=by
 simp only[Al,and_true,Nat.add_eq_zero_iff,Nat.one_ne_zero,and_false,if_false]
@[simp] theorem ah7(g:ag→T)(d:Nat):aw g d none=some d:=rfl
@[simp] theorem ah8(g:ag→T)(d:Nat)(a:ag):aw g d (some a)=asNat (g a):=rfl
@[simp] theorem ajx(kd:IntKind)(n:Nat):asNat (.v (.int kd (n:Int)))=some n:=by simp[asNat]
@[simp] theorem ajy(kd:IntKind):asNat (.v (.int kd 0))=some 0:=rfl
def IA:List T→T
 | [t]=>t
 |ts=> .an ts
@[simp] theorem ali(t:T):IA [t]=t:=rfl
@[simp] theorem alj(t u:T)(ts:List T):IA (t::u::ts)= .an (t::u::ts):=rfl
@[simp] theorem alk:IA []= .an []:=rfl
@[simp] theorem apg(rs:List zP)(canon:List CM):c9 σ rs canon=(rs.mapM (vq σ)).bind fun ts=>some (IA (gh 0 canon ts)):=by
 unfold c9 IA
 simp only[Option.bind_eq_bind]
 cases rs.mapM (vq σ)with
 |none=>rfl
 |some ts=>
  simp only[Option.bind_some]
  generalize gh 0 canon ts=us
  match us with
  | []=>rfl
  | [t]=>rfl
  |t::u::us=>rfl
@[simp] theorem alm(i):vq ⟨rs,vars,bx⟩ (.var i)=cr vars i:=mQ vars i
def Ux(bx:List (Option (List T)))(isAgg:Bool)(n:Nat):Option T→Option T
 |some (.ref s off)=>(aj bx s).bind fun cs=>one? isAgg n cs off
 |_=>none
@[simp] theorem aln(isAgg n s off):Ux bx isAgg n (some (.ref s off))=(aj bx s).bind fun cs=>one? isAgg n cs off:=rfl
@[simp] theorem ajz(i isAgg n):vq ⟨rs,vars,bx⟩ (.cell i isAgg n)=Ux bx isAgg n (cr vars i):=by
 simp only[vq,←mQ,Ux]
 cases vars[i]? with
 |none=>rfl
 |some t=>
  cases t<;>try rfl
  rename_i s off
  show(match bx[s]? with|some (some cs)=>one? isAgg n cs off|_=>none)=(aj bx s).bind fun cs=>one? isAgg n cs off
  unfold aj
  cases bx[s]? with
  |none=>rfl
  |some o=>cases o<;>rfl
@[simp] theorem ajA(t:T):j2 bx t=if t.aV=true then close bx 8 t else if t.fa.Nodup then some (t.al (fun _=>none) (t.fa.idxOf? ·))else none:=rfl
def IB(a:T)(i:Nat):Option T:=match a with| .an ts=>cr ts i|_=>none
@[simp] theorem alo(ts i):IB (.an ts) i=cr ts i:=rfl
theorem Ow(a i):ae C0 σ (.extract a i)=(IB (a.get σ) i).map (·,σ):=by
 simp only[ae,IB,←mQ]
 generalize ag.get σ a=t
 cases t<;>rfl
@[simp] theorem ah9(a i):gL σ (.extract a i)=pT (IB (a.get σ) i):=jv (Ow ..)
@[simp] theorem aia(a i):iO σ (.extract a i)=((IB (a.get σ) i).isSome=true):=jw (Ow ..)
def P2(E:Env)(r:Option T)(rest:nC)(outs:List (Option Nat))(k:List Fr)(σ:St)(Q:Out→Prop):Prop:=
 dm r fun t=>O E rest outs k ⟨snoc σ.rs t,σ.vars,σ.boxes⟩ Q
@[simp] theorem aph(t:T):P2 E (some t) rest outs k ⟨rs,vars,bx⟩ Q=O E rest outs k ⟨snoc rs t,vars,bx⟩ Q:=bg _ _
def MH(bx:List (Option (List T)))(len sz:Nat)(a:T)(lo hi:Option Nat):Option T:=
 match a with
 | .ref s off=>hi.bind fun h=>lo.bind fun l=>(aj bx s).bind fun cs=>if l≤h∧h≤len∧off+len*sz≤cs.length then some (.av s (off+l*sz) (h-l) (if h=l then 1 else(h-l)*sz))else none
 |_=>none
@[simp] theorem alp(len sz s off lo hi):MH bx len sz (.ref s off) lo hi=hi.bind fun h=>lo.bind fun l=>(aj bx s).bind fun cs=>if l≤h∧h≤len∧off+len*sz≤cs.length then some (.av s (off+l*sz) (h-l) (if h=l then 1 else(h-l)*sz))else none:=rfl
@[simp] theorem am7(len sz a lo hi):O E ((none,.sliceA len sz a lo hi)::rest) outs k ⟨rs,vars,bx⟩ Q=P2 E (MH bx len sz (a.get ⟨rs,vars,bx⟩) (aw (ag.get ⟨rs,vars,bx⟩) 0 lo) (aw (ag.get ⟨rs,vars,bx⟩) len hi)) rest outs k ⟨rs,vars,bx⟩ Q:=by
 have hrun:ae C0 ⟨rs,vars,bx⟩ (.sliceA len sz a lo hi)=(MH bx len sz (a.get ⟨rs,vars,bx⟩) (aw (ag.get ⟨rs,vars,bx⟩) 0 lo) (aw (ag.get ⟨rs,vars,bx⟩) len hi)).map (·,⟨rs,vars,bx⟩):=by
  simp only[ae,MH]
  generalize ag.get ⟨rs,vars,bx⟩ a=t
  cases t<;>try rfl
  rename_i s off
  simp only[Option.bind_eq_bind]
  cases aw (ag.get ⟨rs,vars,bx⟩) len hi with
  |none=>rfl
  |some h=>cases aw (ag.get ⟨rs,vars,bx⟩) 0 lo with
   |none=>rfl
   |some l=>
    simp only[Option.bind_some]
    unfold aj
    cases bx[s]? with
    |none=>rfl
    |some o=>cases o with
     |none=>rfl
     |some cs=>simp only[Option.join_some,Option.bind_some];split<;>rfl
 rw[bH rfl,hrun]
 exact lB _ _ _
def uw(sz:Nat)(a:T)(lo hi mx:Option Nat)(Sf:Bool):Option T:=
 match a with
 | .sl g n cs=>hi.bind fun h=>lo.bind fun l=>mx.bind fun m=>if l≤h∧h≤m∧m≤n then some (.sl (if g= .nil then .nil else if Sf=true∧h=m then .clip else .any) (h-l) ((cs.drop (l*sz)).take ((h-l)*sz)))else none
 | .av s o n c=>hi.bind fun h=>lo.bind fun l=>mx.bind fun m=>if l≤h∧h≤m∧m≤n∧(n=0∨n*sz=c)then some (.av s (o+l*sz) (h-l) (if h=l then(if n=0 then c else 1+sz)else(h-l)*sz))else none
 |_=>none
@[simp] theorem am8(sz g n cs lo hi mx Sf):uw sz (.sl g n cs) lo hi mx Sf=hi.bind fun h=>lo.bind fun l=>mx.bind fun m=>if l≤h∧h≤m∧m≤n then some (.sl (if g= .nil then .nil else if Sf=true∧h=m then .clip else .any) (h-l) ((cs.drop (l*sz)).take ((h-l)*sz)))else none:=rfl
@[simp] theorem alq(sz s o n c lo hi mx Sf):uw sz (.av s o n c) lo hi mx Sf=hi.bind fun h=>lo.bind fun l=>mx.bind fun m=>if l≤h∧h≤m∧m≤n∧(n=0∨n*sz=c)then some (.av s (o+l*sz) (h-l) (if h=l then(if n=0 then c else 1+sz)else(h-l)*sz))else none:=rfl
def o6:T→Nat
 | .sl _ n _=>n
 | .av _ _ n _=>n
 |_=>0
@[simp] theorem api(g n cs):o6 (.sl g n cs)=n:=rfl
@[simp] theorem am9(s o n c):o6 (.av s o n c)=n:=rfl
@[simp] theorem ana(sz a lo hi mx):O E ((none,.sliceT sz a lo hi mx)::rest) outs k ⟨rs,vars,bx⟩ Q=P2 E (uw sz (a.get ⟨rs,vars,bx⟩) (aw (ag.get ⟨rs,vars,bx⟩) 0 lo) (aw (ag.get ⟨rs,vars,bx⟩) (o6 (a.get ⟨rs,vars,bx⟩)) hi) (aw (ag.get ⟨rs,vars,bx⟩) (o6 (a.get ⟨rs,vars,bx⟩)) mx) mx.isSome) rest outs k ⟨rs,vars,bx⟩ Q:=by
 have hrun:ae C0 ⟨rs,vars,bx⟩ (.sliceT sz a lo hi mx)=(uw sz (a.get ⟨rs,vars,bx⟩) (aw (ag.get ⟨rs,vars,bx⟩) 0 lo) (aw (ag.get ⟨rs,vars,bx⟩) (o6 (a.get ⟨rs,vars,bx⟩)) hi) (aw (ag.get ⟨rs,vars,bx⟩) (o6 (a.get ⟨rs,vars,bx⟩)) mx) mx.isSome).map (·,⟨rs,vars,bx⟩):=by
  simp only[ae,uw]
  generalize ag.get ⟨rs,vars,bx⟩ a=t
  cases t<;>try rfl
  all_goals
   simp only[Option.bind_eq_bind,o6]
   rename_i n _
   try simp only[o6]
   generalize aw (ag.get ⟨rs,vars,bx⟩) n hi=oh
   generalize aw (ag.get ⟨rs,vars,bx⟩) 0 lo=ol
   generalize aw (ag.get ⟨rs,vars,bx⟩) n mx=om
   cases oh<;>try rfl
   cases ol<;>try rfl
   cases om<;>try rfl
   simp only[Option.bind_some]
   split<;>rfl
 rw[bH rfl,hrun]
 exact lB _ _ _
def anb(bx:List (Option (List T)))(sz:Nat)(zero:List T)(a:T):Option (List (Option (List T))):=
 match a with
 | .av s o n c=>(aj bx s).bind fun cs=>if s%2=0∧(n=0∨c=n*sz)∧zero.length=sz∧o+n*sz≤cs.length∧rk zero=true then some (bx.set s (some (setCells cs o (List.replicate n zero).flatten)))else none
 |_=>none
@[simp] theorem anc(sz zero s o n c):anb bx sz zero (.av s o n c)=(aj bx s).bind fun cs=>if s%2=0∧(n=0∨c=n*sz)∧zero.length=sz∧o+n*sz≤cs.length∧rk zero=true then some (bx.set s (some (setCells cs o (List.replicate n zero).flatten)))else none:=rfl
def P3(E:Env)(r:Option (List (Option (List T))))(rest:nC)(outs:List (Option Nat))(k:List Fr)(σ:St)(Q:Out→Prop):Prop:=
 dm r fun bx=>O E rest outs k ⟨snoc σ.rs .undef,σ.vars,bx⟩ Q
def ux(neg:Bool):T→Option T
 | .sl .nil _ _=>some (T.bool (!neg))
 | .sl .lP _ _=>some (T.bool neg)
 | .sl _ n _=>if 0< n then some (T.bool neg)else none
 | .av _ _ n _=>if 0< n then some (T.bool neg)else none
 |_=>none
@[simp] theorem ajB(neg n cs):ux neg (.sl .any n cs)=if 0< n then some (.v (.bool neg))else none:=rfl
@[simp] theorem ajC(neg n cs):ux neg (.sl .nil n cs)=some (.v (.bool !neg)):=rfl
@[simp] theorem ajD(neg j e n cs):ux neg (.sl (.own j e) n cs)=if 0< n then some (.v (.bool neg))else none:=rfl
@[simp] theorem ajE(neg s o n c):ux neg (.av s o n c)=if 0< n then some (.v (.bool neg))else none:=rfl
theorem Lr(neg a):ae C0 σ (.eqnil neg a)=(ux neg (a.get σ)).map (·,σ):=by
 simp only[ae]
 generalize ag.get σ a=t
 cases t<;>try rfl
 ·rename_i g n cs
  cases g<;>try rfl
  all_goals
   simp only[ux]
   split<;>rfl
 ·simp only[ux]
  split<;>rfl
@[simp] theorem alr(neg a):gL σ (.eqnil neg a)=pT (ux neg (a.get σ)):=jv (Lr ..)
@[simp] theorem als(neg a):iO σ (.eqnil neg a)=((ux neg (a.get σ)).isSome=true):=jw (Lr ..)
def Uy(σ:St)(s:Nat)(sz bytes:Nat)(a:T)(src:Option (Nat×List T))(cl:Bool):Option (T×St):=
 match a,src with
 | .sl .clip n _,some (m,ys)=>if n=0∧ys.length=m*sz∧m*bytes≤room∧m≤room∧cl=true∧fQ σ.boxes s=true∧s%2=0 then some (.av s 0 m (m*sz),{σ with boxes:=σ.boxes.set s (some ys)})else none
 |_,_=>none
@[simp] theorem ajF(s sz bytes n cs m ys cl):Uy ⟨rs,vars,bx⟩ s sz bytes (.sl .clip n cs) (some (m,ys)) cl=if n=0∧ys.length=m*sz∧m*bytes≤room∧m≤room∧cl=true∧fQ bx s=true∧s%2=0 then some (.av s 0 m (m*sz),⟨rs,vars,bx.set s (some ys)⟩)else none:=rfl
theorem Xx(s e sz bytes zero kind a b)(h:P1 E (Uy ⟨rs,vars,bx⟩ s sz bytes (a.get ⟨rs,vars,bx⟩) (iH bx kind sz zero (b.get ⟨rs,vars,bx⟩)) (match iH bx kind sz zero (b.get ⟨rs,vars,bx⟩)with|some (_,ys)=>dE (b.get ⟨rs,vars,bx⟩) ys|none=>false)) rest outs k Q):
  O E ((none,.appendB s e sz bytes zero kind a b)::rest) outs k ⟨rs,vars,bx⟩ Q:=by
 rw[bH rfl]
 obtain⟨p,h1,h2⟩:=h
 refine⟨p, ?_,h2⟩
 simp only[ae]
 unfold Uy at h1
 generalize ag.get ⟨rs,vars,bx⟩ a=t at h1⊢
 generalize ag.get ⟨rs,vars,bx⟩ b=u at h1⊢
 split at h1<;>try(cases h1;done)
 rename_i n cs m ys cI
 rw[cI]at h1⊢
 simp only[Option.ite_none_right_eq_some]at h1
 obtain⟨⟨c1,c2,c3,c4,c5,c6,c7⟩,h1⟩:=h1
 have c6':bx[s]? =some none:=by rw[pR];exact c6
 simp only[c6']
 rw[if_pos ⟨c1,c2,c3,c4,c5,c7⟩]
 exact h1
noncomputable def CR(E:Env):kM:=fun f as=>dC E f as
theorem Lt{d:Nat}{ad:List Nat}{f:FuncId}{as:List T}{p:T×St}(h:ae.eo (CR E) σ d ad f as=some p):∃n,ae.eo (aW E n) σ d ad f as=some p:=by
 unfold ae.eo at h
 simp only at h
 split at h<;>try(cases h;done)
 rename_i r os hc
 obtain⟨n,hn⟩:=Ce hc
 refine⟨n, ?_⟩
 unfold ae.eo
 simp only[hn]
 exact h
theorem Uz{d:Nat}{ad:List Nat}{f:FuncId}{as:List T}{p:T×St}(h:ae.dG (CR E) σ d ad f as=some p):∃n,ae.dG (aW E n) σ d ad f as=some p:=by
 unfold ae.dG at h
 split at h
 ·cases h
 ·rename_i hr
  split at h<;>try(cases h;done)
  rename_i r os hc
  obtain⟨n,hn⟩:=Ce hc
  refine⟨n, ?_⟩
  unfold ae.dG
  rw[if_neg hr]
  simp only[hn]
  exact h
theorem Cf{d ad f as}(h:P1 E (ae.eo (CR E) ⟨rs,vars,bx⟩ d ad f (as.map (ag.get ⟨rs,vars,bx⟩))) rest outs k Q):O E ((none,.callio d ad f as)::rest) outs k ⟨rs,vars,bx⟩ Q:=by
 unfold O
 rw[eg]
 obtain⟨p,h1,h2⟩:=h
 obtain⟨n,hn⟩:=Lt h1
 exact⟨n,p,hn,h2⟩
theorem zC{d ad f as}(h:P1 E (ae.dG (CR E) ⟨rs,vars,bx⟩ d ad f (as.map (ag.get ⟨rs,vars,bx⟩))) rest outs k Q):O E ((none,.callnew d ad f as)::rest) outs k ⟨rs,vars,bx⟩ Q:=by
 unfold O
 rw[eg]
 obtain⟨p,h1,h2⟩:=h
 obtain⟨n,hn⟩:=Uz h1
 exact⟨n,p,hn,h2⟩
theorem xE{d:Nat}{ad:List Nat}{f:FuncId}{as:List T}{r:T}{os:List T}(h0:bc as=false)(h:dC E (aq+f) [.an (as.map fun t=>t.fx.al (iL []) fun _=>none),.an []]=some (.an [r,.an os]))
  (h1:os.length=2*ad.length∧ad.all (fun s=>s%2==0&&dF σ.boxes s&&dF σ.boxes (s+1)&&σ.ay s&&σ.ay (s+1))∧ad.Nodup):
  ae.dG (CR E) σ d ad f as=some (r.al (dw [] ad) (fy d),{σ.strip (2*d)with boxes:=ey (dw [] ad) (fy d) (os.map er) 0 (σ.strip (2*d)).boxes}):=by
 unfold ae.dG
 rw[h0]
 simp only[Bool.false_eq_true,if_false]
 have:CR E (aq+f) [.an (as.map fun t=>t.fx.al (iL []) fun _=>none),.an []]=some (.an [r,.an os]):=h
 rw[this]
 simp only
 rw[if_pos h1]
theorem wo{d:Nat}{ad:List Nat}{f:FuncId}{as:List T}{r:T}{os:List T}{ss fs:List Nat}{A7 ins:List T}(RQ:reach σ.boxes 10000 [] (eh as)=ss)(RP:(ss.flatMap fun s=>gQ ((aj σ.boxes s).getD []))=fs)
  (has:(as.map fun t=>t.fx.al (iL ss) fun _=>none)=A7) (aaY:((List.range (2*ss.length)).map fun l=>zQ (((fw ss l).bind (aj σ.boxes)).map (ai (iL ss) (rv fs))))=ins)
  (h:dC E (aq+f) [.an A7,.an ins]=some (.an [r,.an os]))
  (h1:os.length=2*(ss.length+ad.length)∧ad.all (fun s=>s%2==0&&dF σ.boxes s&&dF σ.boxes (s+1)&& !ss.contains s&& !ss.contains (s+1))∧ad.Nodup∧ss.Nodup∧ss.all (fun s=>(aj σ.boxes s).isSome)):
  ae.eo (CR E) σ d ad f as=some (r.al (dw ss ad) (fy d),⟨ai (iR ss os) (gg d fs) σ.rs,ai (iR ss os) (gg d fs) σ.vars,
     ey (dw ss ad) (fy d) (os.map er) 0 (σ.boxes.map (Option.map (ai (iR ss os) (gg d fs))))⟩):=by
 subst RQ RP has aaY
 unfold ae.eo
 simp only
 have:CR E (aq+f) _=_:=h
 rw[this]
 simp only
 rw[if_pos h1]
end
def MI(res:List zP)(canon:List CM)(nb n:Nat)(r:T):Out→Prop
 | .norm σ=>(c9 σ res canon).map (fJ nb n σ.boxes)=some r
 | .exit _ _=>False
 | .ret σ=>(c9 σ res canon).map (fJ nb n σ.boxes)=some r
@[simp] theorem ajG(res canon nb n r)(σ:St):MI res canon nb n r (.norm σ)=((c9 σ res canon).map (fJ nb n σ.boxes)=some r):=rfl
@[simp] theorem alu(res canon nb n r)(σ:St):MI res canon nb n r (.ret σ)=((c9 σ res canon).map (fJ nb n σ.boxes)=some r):=rfl
@[simp] theorem alv(bx:List (Option (List T)))(n:Nat)(seen:List Nat):reach bx (n+1) seen []=seen:=rfl
@[simp] theorem ajH(bx:List (Option (List T)))(n:Nat)(seen:List Nat)(s:Nat)(todo:List Nat):reach bx (n+1) seen (s::todo)=if seen.contains s then reach bx n seen todo else reach bx n (seen++[s]) (eh ((aj bx s).getD [])++todo):=rfl
@[simp] theorem ajI:eh []=[]:=by simp only[eh]
@[simp] theorem aib(t:T)(ts:List T):eh (t::ts)=t.refs++eh ts:=by simp only[eh]
@[simp] theorem apL(x:Value):(T.v x).refs=[]:=by simp only[T.refs]
@[simp] theorem ajJ:(T.undef).refs=[]:=by simp only[T.refs]
@[simp] theorem apj(g n cs):(T.sl g n cs).refs=[]:=by simp only[T.refs]
@[simp] theorem ane(s o):(T.ref s o).refs=[s]:=by simp only[T.refs]
@[simp] theorem anf(s o n c):(T.av s o n c).refs=[s]:=by simp only[T.refs]
@[simp] theorem alw(s):(T.aQ s).refs=[s]:=by simp only[T.refs]
@[simp] theorem ang(cs):(T.an cs).refs=eh cs:=by simp only[T.refs]
@[simp] theorem alx(cs:List T):zQ (some cs)= .agg cs:=rfl
@[simp] theorem aly:zQ none= .undef:=rfl
@[simp] theorem anh(cs:List T):er (.agg cs)=some cs:=rfl
@[simp] theorem ajK:er .undef=none:=rfl
theorem Fu{E:Env}{f:FuncId}{args ins:List T}{r:T}{fn:aD}(hp:E.kJ (aq+f)=none)(pL:E.fn f=some fn)(hs:fn.split=false)(hl:args.length=fn.nparams)(hi:ins.length%2=0)
  (h:M E fn.body [] ⟨[],(args.map (T.al (fun l=>some (l+2*fn.ez)) some))++List.replicate (fn.jZ-fn.nparams) .undef,List.replicate (2*fn.ez) none++(ins.map er).map (Option.map (ai (fun l=>some (l+2*fn.ez)) some))⟩ (MI fn.results fn.canon (2*fn.ez) (ins.length / 2) r)):
  Ev E (aq+f) [.an args,.an ins] r:=by
 obtain⟨n,o,h1,h2⟩:=h
 refine⟨n+1, ?_⟩
 have hlt:¬aq+f< aq:=Nat.not_lt.2 (Nat.le_add_right _ _)
 simp only[aW,hp,if_neg hlt,Nat.add_sub_cancel_left,pL,iT,hs,Bool.false_eq_true,if_false,na,List.length_map,hl,hi,true_and,if_true]
 have ua:exec (aW E n) n fn.body {rs:=[],vars:=(args.map (T.al (fun l=>some (l+2*fn.ez)) some))++List.replicate (fn.jZ-fn.nparams) .undef,boxes:=List.replicate (2*fn.ez) none++(ins.map er).map (Option.map (ai (fun l=>some (l+2*fn.ez)) some))}=some o:=h1
 rw[ua]
 cases o with
 |norm σ=>exact h2
 |exit=>exact h2.elim
 |ret σ=>exact h2
theorem abF{E:Env}{args:List T}{ins:List (Option (List T))}{r:T}{fn:aD}(hl:args.length=fn.nparams)(hi:ins.length%2=0)
  (h:M E fn.body [] ⟨[],(args.map (T.al (fun l=>some (l+2*fn.ez)) some))++List.replicate (fn.jZ-fn.nparams) .undef,List.replicate (2*fn.ez) none++ins.map (Option.map (ai (fun l=>some (l+2*fn.ez)) some))⟩ (MI fn.results fn.canon (2*fn.ez) (ins.length / 2) r)):
  ∃n,na (aW E n) n fn args ins=some r:=by
 obtain⟨n,o,h1,h2⟩:=h
 refine⟨n, ?_⟩
 simp only[na,hl,hi,true_and,if_true]
 rw[h1]
 cases o with
 |norm σ=>exact h2
 |exit=>exact h2.elim
 |ret σ=>exact h2
theorem UA{E:Env}{f:FuncId}{args ins:List T}{r:T}{fn:aD}(hp:E.kJ (aq+f)=none)(pL:E.fn f=some fn)(hs:fn.split=true)(hr:(splits args).length≤1∨T.same r r=true)(hne:splits args≠[])
  (h:∀as∈splits args,∃n,na (aW E n) n fn as (ins.map er)=some r):Ev E (aq+f) [.an args,.an ins] r:=by
 have hlt:¬aq+f< aq:=Nat.not_lt.2 (Nat.le_add_right _ _)
 have mono:∀{n m:Nat} {as:List T},n≤m→na (aW E n) n fn as (ins.map er)=some r→na (aW E m) m fn as (ins.map er)=some r:=fun hm e=>by
  unfold na at e⊢
  simp only at e⊢
  split at e<;>try(cases e;done)
  rename_i hp
  rw[if_pos hp]
  split at e
  ·rename_i he;rw[cC (dY hm) hm he];exact e
  ·rename_i he;rw[cC (dY hm) hm he];exact e
  ·cases e
 obtain⟨n,hn⟩:∃n,∀as∈splits args,na (aW E n) n fn as (ins.map er)=some r:=by
  revert h
  generalize splits args=l
  intro h
  clear hne
  induction l with
  |nil=>exact⟨0,fun _ h=>by cases h⟩
  |cons a l ih=>
   obtain⟨n,hn⟩:=ih fun as has=>h as (List.mem_cons_of_mem _ has)
   obtain⟨m,hm⟩:=h a (List.mem_cons_self ..)
   refine⟨max n m,fun as has=> ?_⟩
   rcases List.mem_cons.1 has with rfl|has
   ·exact mono (Nat.le_max_right ..) hm
   ·exact mono (Nat.le_max_left ..) (hn as has)
 refine⟨n+1, ?_⟩
 simp only[aW,hp,if_neg hlt,Nat.add_sub_cancel_left,pL,iT,hs,if_true]
 have gZ:∀l:List (List T),(∀as∈l,na (aW E n) n fn as (ins.map er)=some r)→l.mapM (fun as=>na (aW E n) n fn as (ins.map er))=some (List.replicate l.length r):=fun l=>by
  induction l with
  |nil=>intro _;rfl
  |cons a l ih=>
   intro h
   simp only[List.mapM_cons,h a (List.mem_cons_self ..),Option.bind_eq_bind,Option.bind_some,ih fun as has=>h as (List.mem_cons_of_mem _ has),Option.pure_def,List.length_cons,List.replicate_succ]
 rw[gZ _ hn]
 cases ft:splits args with
 |nil=>exact absurd ft hne
 |cons a l=>
  simp only[List.length_cons,List.replicate_succ]
  rw[if_pos]
  refine List.all_eq_true.2 fun x hx=> ?_
  obtain⟨h1,h2⟩:=List.mem_replicate.1 hx
  rw[h2]
  rcases hr with hr|hr
  ·rw[ft,List.length_cons]at hr;omega
  ·exact hr
end Go.Vi
end
section
namespace Go.Vi
open Go
def ID(J:St→Prop):Out→Prop
 | .norm σ=>J σ
 |_=>False
@[simp] theorem ajL(J σ):ID J (.norm σ)=J σ:=rfl
@[simp] theorem ajM(J id σ):ID J (.exit id σ)=False:=rfl
@[simp] theorem alz(J σ):ID J (.ret σ)=False:=rfl
def roundOf(E:Env)(n:Nat)(a b:IC)(σ:St):Option Out:=match exec (aW E n) n a σ with
 |some (.norm az)=>exec (aW E n) n b az
 |_=>none
theorem Q4{E:Env}{n:Nat}{a b:IC}{σ σ':St}(h:exec (aW E n) n (.seq a b) σ=some (.norm σ')):roundOf E n a b σ=some (.norm σ'):=by
 simp only[exec]at h
 unfold roundOf
 cases ho:exec (aW E n) n a σ with
 |none=>rw[ho]at h;cases h
 |some o=>
  rw[ho]at h
  cases o with
  |norm az=>exact h
  |exit j az=>cases h
  |ret az=>cases h
section
variable{E:Env}{k:List Fr}{σ:St}{Q:Out→Prop}
theorem Lu{K:Nat}{ps:List Nat}{a b:IC}{H0:List T}(I:Nat→List T→List (Option (List T))→Prop)
  (hstep:∀j t vars bx,H0[j]? =some t→I j vars bx→∃y,t= .an y∧y.length=ps.length∧M E (.seq a b) [] ⟨[],cV ps y (ai (fun s=>some (s+K)) (fun _=>none) vars),dS K bx⟩
   (ID fun σ'=>I (j+1) (fH (bK K σ'.boxes) vars) (bK K σ'.boxes))):
  ∀(ys:List T) (j:Nat) (vars:List T) (bx:List (Option (List T))),j≤H0.length→H0.drop j=ys→I j vars bx→∃n vars' bx',I H0.length vars' bx'∧∀m,n≤m→lY (roundOf E m a b) K ps ys vars bx=some ⟨[],vars',bx'⟩
 | [],j,vars,bx,hle,hd,hI=>by
  have hj:H0.length≤j:=by simpa using hd
  have:j=H0.length:=by omega
  subst this
  exact⟨0,vars,bx,hI,fun m _=>rfl⟩
 |t::ys,j,vars,bx,hle,hd,hI=>by
  have ht:H0[j]? =some t:=by
   have:=congrArg (·[0]?) hd
   simpa using this
  obtain⟨y,rfl,hl,n1,o,h1,h2⟩:=hstep j t vars bx ht hI
  cases o with
  |exit=>exact h2.elim
  |ret=>exact h2.elim
  |norm σ'=>
   have gK:H0.drop (j+1)=ys:=by rw[←List.drop_drop,hd];rfl
   obtain⟨n2,vars',bx',xm,h3⟩:=Lu I hstep ys (j+1) _ _ (by have:=(List.getElem?_eq_some_iff.1 ht).1;omega) gK h2
   refine⟨max n1 n2,vars',bx',xm,fun m hm=> ?_⟩
   have he:=Q4 (cC (dY (E:=E) (show n1≤m by omega)) (show n1≤m by omega) h1)
   simp only[lY]
   rw[if_pos hl,he]
   exact h3 m (by omega)
section
variable{outs:List (Option Nat)}{rest:nC}(rs vars:List T)(bx:List (Option (List T)))
end
theorem JW{K:Nat}{g:ag}{ps:List Nat}{a b:IC}{f:FuncId}{caps cs ys:List T}{ss:List Nat}(I:Nat→List T→List (Option (List T))→Prop)(hg:eC (g.get σ)=some (f,[],caps))
  (RQ:reach σ.boxes 10000 [] (eh caps)=ss) (b7:(ai (fun s=>if ss.contains s then some s else none) (fun _=>none) caps).mapM (close (iS ss σ.boxes) 8)=some cs) (hev:Ev E (aq+f) [.an cs] (.an ys))
  (h0:I 0 (ai (fun s=>if ss.contains s then none else some s) (fun _=>none) σ.vars) (xr ss σ.boxes))
  (hstep:∀j t vars bx,ys[j]? =some t→I j vars bx→∃y,t= .an y∧y.length=ps.length∧M E (.seq a b) [] ⟨[],cV ps y (ai (fun s=>some (s+K)) (fun _=>none) vars),dS K bx⟩
   (ID fun σ'=>I (j+1) (fH (bK K σ'.boxes) vars) (bK K σ'.boxes)))
  (G8:∀vars bx,I ys.length vars bx→N E k (if y8 ys&&ss.all (fun s=>dF bx s)then⟨[],vars,o8 ss (iS ss σ.boxes) bx⟩else⟨[],vars,bx⟩) Q):M E (.range K g ps a b) k σ Q:=by
 obtain⟨n1,h1⟩:=hev
 obtain⟨n2,vars',bx',hI,h2⟩:=Lu I hstep ys 0 _ _ (Nat.zero_le _) rfl h0
 refine⟨max n1 n2,_, ?_,G8 vars' bx' hI⟩
 have hc:=dY (E:=E) (show n1≤max n1 n2 by omega) _ _ _ h1
 have hr:=h2 (max n1 n2) (by omega)
 simp only[exec,hg,RQ,b7,Option.bind_some,hc]
 exact(congrArg (Option.map _) hr).trans rfl
theorem Q5{f:FuncId}{args:List T}{r:T}{fn:aD}(hp:E.kJ f=none)(hf:f< aq)(pL:E.fn f=some fn)(hs:splits args=[args])(hl:args.length=fn.nparams)
  (h:M E fn.body [] ⟨[],args++List.replicate (fn.jZ-fn.nparams) .undef,List.replicate (2*fn.ez) none⟩ (Ov fn.results fn.canon r)):Ev E f args r:=by
 obtain⟨n,o,h1,h2⟩:=h
 have key:sm (aW E n) n fn args=some r:=by
  simp only[sm,if_pos hl,h1]
  cases o with
  |norm σ=>exact h2
  |exit j σ=>exact h2.elim
  |ret σ=>exact h2
 refine⟨n+1, ?_⟩
 simp only[aW,hp,if_pos hf,pL,iT]
 split
 ·simp[hs,key]
 ·exact key
end
end Go.Vi
end
section
namespace Go.Vi
open Go
abbrev Ys:=List (List T)
def Ew(E:Env)(o:IOp)(σ:St)(K:T→St→Ys→Prop):Prop:=∃n p,ry (aW E n) 0 σ o=some p∧K p.1 p.2.1 p.2.2
def kx(E:Env):nC→St→Ys→(St→Ys→Prop)→Prop
 | [],σ,zs,K=>K σ zs
 |(none,o)::rest,σ,zs,K=>Ew E o σ fun t σ' ws=>kx E rest {σ' with rs:=snoc σ'.rs t} (zs++ws) K
 |(some (j,w),o)::rest,σ,zs,K=>yO (cr σ.rs j) w (Ew E o σ fun t σ' ws=>kx E rest {σ' with rs:=snoc σ'.rs t} (zs++ws) K) (kx E rest {σ with rs:=snoc σ.rs T.bD} zs K)
theorem qO{E:Env}:∀{ops:nC} {σ:St} {zs:Ys} {K:St→Ys→Prop},kx E ops σ zs K→∃n σ' ws,mO (aW E n) 0 σ ops=some (σ',ws)∧K σ' (zs++ws)
 | [],σ,zs,K,h=>⟨0,σ,[],rfl,by rw[List.append_nil];exact h⟩
 |(none,o)::rest,σ,zs,K,h=>by
  obtain⟨n,⟨t,az,ws⟩,h1,h2⟩:=h
  obtain⟨m,σ',Ox,h3,h4⟩:=qO h2
  refine⟨max n m,σ',ws++Ox, ?_,by rw[←List.append_assoc];exact h4⟩
  simp only[mO,bR,Option.bind_some,if_true]
  rw[GX (le_max E n m).1 h1,Option.bind_some,vh]
  rw[vR (le_max E n m).2 h3]
  rfl
 |(some (j,w),o)::rest,σ,zs,K,h=>by
  unfold kx at h
  rw[←mQ]at h
  unfold yO at h
  split at h
  ·rename_i b hb
   split at h
   ·rename_i hw
    obtain⟨n,⟨t,az,ws⟩,h1,h2⟩:=h
    obtain⟨m,σ',Ox,h3,h4⟩:=qO h2
    refine⟨max n m,σ',ws++Ox, ?_,by rw[←List.append_assoc];exact h4⟩
    have GB:bR σ.rs (some (j,w))=some true:=by simp only[bR,hb];rw[hw]
    simp only[mO,GB,Option.bind_some,if_true]
    rw[GX (le_max E n m).1 h1,Option.bind_some,vh]
    rw[vR (le_max E n m).2 h3]
    rfl
   ·rename_i hw
    obtain⟨m,σ',Ox,h3,h4⟩:=qO h
    refine⟨m,σ',Ox, ?_,h4⟩
    have GB:bR σ.rs (some (j,w))=some false:=by simp only[bR,hb];simpa using hw
    simp only[mO,GB,Option.bind_some,Bool.false_eq_true,if_false,vh]
    exact h3
  ·rename_i hb
   obtain⟨m,σ',Ox,h3,h4⟩:=qO h
   refine⟨m,σ',Ox, ?_,h4⟩
   have GB:bR σ.rs (some (j,w))=some false:=by simp only[bR,hb]
   simp only[mO,GB,Option.bind_some,Bool.false_eq_true,if_false,vh]
   exact h3
  ·exact h.elim
section
variable{E:Env}{K:T→St→Ys→Prop}(rs vars:List T)(bx:List (Option (List T)))
def du(σ:St)(o:IOp):Bool:=o.reads.all fun x=> !fc (x.get σ)
def JX:IOp→Bool
 | .mv _=>true
 |_=>false
theorem Lv{o:IOp}(h:o.zA=true)(hm:JX o=false)(C:kM)(l:Nat)(σ:St):ry C l σ o=mf C σ o:=by
 cases o<;>first|rfl|(simp[JX]at hm;done)|(simp[IOp.zA]at h;done)
theorem Oy{o:IOp}(h:o.zA=true)(hm:JX o=false):Ew E o ⟨rs,vars,bx⟩ K=(du ⟨rs,vars,bx⟩ o=true∧dm (ae C0 ⟨rs,vars,bx⟩ o) fun p=>fc p.1=false∧K p.1 p.2 []):=by
 refine propext ⟨fun⟨n,p,h1,h2⟩=> ?_,fun⟨hr,p,h1,h2,h3⟩=>⟨0,(p.1,p.2,[]), ?_,h3⟩⟩
 ·rw[Lv h hm]at h1
  unfold mf at h1
  split at h1
  ·rename_i hr
   refine⟨hr, ?_⟩
   obtain⟨q,h3,h4⟩:=Option.bind_eq_some_iff.1 h1
   split at h4
   ·cases h4
   ·rename_i hy
    simp only[Option.some.injEq]at h4
    subst h4
    exact⟨q,by rw[xD h C0 (aW E n)];exact h3,by simpa using hy,h2⟩
  ·cases h1
 ·rw[Lv h hm]
  unfold mf
  unfold du at hr
  rw[if_pos hr,xD h _ C0,h1,Option.bind_some,h2]
  rfl
theorem agr{o:IOp}(h:JV o=true)(hm:JX o=false):Ew E o ⟨rs,vars,bx⟩ K=(du ⟨rs,vars,bx⟩ o=true∧iO ⟨rs,vars,bx⟩ o∧fc (gL ⟨rs,vars,bx⟩ o)=false∧K (gL ⟨rs,vars,bx⟩ o) ⟨rs,vars,bx⟩ []):=by
 rw[Oy rs vars bx (R9 h) hm]
 unfold iO gL
 cases hr:ae C0 ⟨rs,vars,bx⟩ o with
 |none=>simp[aX]
 |some p=>
  have:=acO h hr
  rw[bg,this];simp
theorem ags(i:Nat):Ew E (.mv (.x i)) ⟨rs,vars,bx⟩ K=K (ag.get ⟨rs,vars,bx⟩ (.x i)) ⟨rs,vars,bx⟩ []:=
 propext ⟨fun⟨n,p,h,hk⟩=>by simp only[ry,Option.some.injEq]at h;subst h;exact hk,fun h=>⟨0,_,rfl,h⟩⟩
theorem aek(i:Nat):Ew E (.mv (.r i)) ⟨rs,vars,bx⟩ K=K (ag.get ⟨rs,vars,bx⟩ (.r i)) ⟨rs,vars,bx⟩ []:=
 propext ⟨fun⟨n,p,h,hk⟩=>by simp only[ry,Option.some.injEq]at h;subst h;exact hk,fun h=>⟨0,_,rfl,h⟩⟩
theorem ael(t:T):Ew E (.mv (.c t)) ⟨rs,vars,bx⟩ K=(fc t=false∧K t ⟨rs,vars,bx⟩ []):=by
 refine propext ⟨fun⟨n,p,h,hk⟩=> ?_,fun⟨h,hk⟩=>⟨0,(t,⟨rs,vars,bx⟩,[]),by simp only[ry,h];rfl,hk⟩⟩
 simp only[ry]at h
 split at h
 ·cases h
 ·rename_i hy;simp only[Option.some.injEq]at h;subst h;exact⟨by simpa using hy,hk⟩
theorem Xy(d i:Nat)(as:List ag)(hg:ag.get ⟨rs,vars,bx⟩ (.r i)=yT 0)(h1:(as.map (ag.get ⟨rs,vars,bx⟩)).all scal=true)(h2:(as.map (ag.get ⟨rs,vars,bx⟩)).all (fun t=> !fc t)=true)(h:K (T.bool true) ⟨rs,vars,bx⟩ [as.map (ag.get ⟨rs,vars,bx⟩)]):Ew E (.callv d (.r i) as) ⟨rs,vars,bx⟩ K:=by
 refine⟨0,(T.bool true,⟨rs,vars,bx⟩,[as.map (ag.get ⟨rs,vars,bx⟩)]), ?_,h⟩
 simp only[ry,hg]
 rw[if_pos (show fc (yT 0)=true from rfl)]
 simp only[yT,AE,h1,h2]
 rfl
theorem abG(d:Nat)(f:FuncId)(as:List ag)(cs:List T)(r:T)(hc:(as.map (ag.get ⟨rs,vars,bx⟩)).mapM (close bx 6)=some cs)(hf:f< aq)(hE:dC E f cs=some r)(hr:du ⟨rs,vars,bx⟩ (.call d f as)=true)(hn:(bc (as.map (ag.get ⟨rs,vars,bx⟩))&& !r.fresh)=false)(hy:fc (r.import d)=false)
  (h:K (r.import d) ⟨stripL (2*d) rs,stripL (2*d) vars,bx.map (Option.map (stripL (2*d)))⟩ []):Ew E (.call d f as) ⟨rs,vars,bx⟩ K:=by
 obtain⟨n,nv⟩:=Ce hE
 refine⟨n,(r.import d,St.strip (2*d) ⟨rs,vars,bx⟩,[]), ?_,h⟩
 show mf (aW E n) ⟨rs,vars,bx⟩ (.call d f as)=_
 unfold mf
 unfold du at hr
 rw[if_pos hr]
 have:ae (aW E n) ⟨rs,vars,bx⟩ (.call d f as)=some (r.import d,St.strip (2*d) ⟨rs,vars,bx⟩):=by
  simp only[ae,ae.cU,hc,tH,if_pos hf,nv,Option.bind_eq_bind,Option.bind_some,hn,Bool.false_eq_true,if_false]
 rw[this,Option.bind_some,hy]
 rfl
theorem Xz(d:Nat)(f:FuncId)(as:List ag)(h:dm ((as.map (ag.get ⟨rs,vars,bx⟩)).mapM (close bx 6)) fun cs=>dm (dC E f cs) fun r=>f< aq∧du ⟨rs,vars,bx⟩ (.call d f as)=true∧(bc (as.map (ag.get ⟨rs,vars,bx⟩))&& !r.fresh)=false∧fc (r.import d)=false∧K (r.import d) ⟨stripL (2*d) rs,stripL (2*d) vars,bx.map (Option.map (stripL (2*d)))⟩ []):Ew E (.call d f as) ⟨rs,vars,bx⟩ K:=by
 obtain⟨cs,h1,r,h2,h3,h4,h5,h6,h7⟩:=h
 exact abG rs vars bx d f as cs r h1 h3 h2 h4 h5 h6 h7
end
def lT(E:Env)(o:IOp)(rest:nC)(σ:St)(zs:Ys)(K:St→Ys→Prop):Prop:=Ew E o σ fun t σ' ws=>kx E rest {σ' with rs:=snoc σ'.rs t} (zs++ws) K
def Sg(E:Env)(g:Option T)(w:Bool)(o:IOp)(rest:nC)(σ:St)(zs:Ys)(K:St→Ys→Prop):Prop:=yO g w (lT E o rest σ zs K) (kx E rest {σ with rs:=snoc σ.rs T.bD} zs K)
def op2(E:Env)(r:Option (T×St))(rest:nC)(zs:Ys)(K:St→Ys→Prop):Prop:=dm r fun p=>fc p.1=false∧kx E rest ⟨snoc p.2.rs p.1,p.2.vars,p.2.boxes⟩ zs K
section
variable{E:Env}{rest:nC}{zs:Ys}{K:St→Ys→Prop}(rs vars:List T)(bx:List (Option (List T)))
@[simp] theorem abH(σ):kx E [] σ zs K=K σ zs:=rfl
@[simp] theorem alA(o σ):kx E ((none,o)::rest) σ zs K=lT E o rest σ zs K:=rfl
@[simp] theorem alB(j w o σ):kx E ((some (j,w),o)::rest) σ zs K=Sg E (cr σ.rs j) w o rest σ zs K:=rfl
@[simp] theorem ani(o σ):Sg E (some (.v (.bool true))) true o rest σ zs K=lT E o rest σ zs K:=rfl
@[simp] theorem alC(o σ):Sg E (some (.v (.bool false))) false o rest σ zs K=lT E o rest σ zs K:=rfl
@[simp] theorem alD(o):Sg E (some (.v (.bool false))) true o rest ⟨rs,vars,bx⟩ zs K=kx E rest ⟨snoc rs T.bD,vars,bx⟩ zs K:=rfl
@[simp] theorem ajN(o):Sg E (some (.v (.bool true))) false o rest ⟨rs,vars,bx⟩ zs K=kx E rest ⟨snoc rs T.bD,vars,bx⟩ zs K:=rfl
@[simp] theorem anj(w o):Sg E (some T.bD) w o rest ⟨rs,vars,bx⟩ zs K=kx E rest ⟨snoc rs T.bD,vars,bx⟩ zs K:=rfl
@[simp] theorem abI(t:T):op2 E (some (t,⟨rs,vars,bx⟩)) rest zs K=(fc t=false∧kx E rest ⟨snoc rs t,vars,bx⟩ zs K):=bg _ _
theorem yP{o:IOp}(h:JV o=true)(hm:JX o=false):lT E o rest ⟨rs,vars,bx⟩ zs K=(du ⟨rs,vars,bx⟩ o=true∧iO ⟨rs,vars,bx⟩ o∧fc (gL ⟨rs,vars,bx⟩ o)=false∧kx E rest ⟨snoc rs (gL ⟨rs,vars,bx⟩ o),vars,bx⟩ zs K):=by
 unfold lT
 rw[agr rs vars bx h hm]
 show(_∧_∧_∧kx E rest ⟨_,vars,bx⟩ (zs++[]) K)=_
 rw[List.append_nil]
theorem vi{o:IOp}(h:o.zA=true)(hm:JX o=false):lT E o rest ⟨rs,vars,bx⟩ zs K=(du ⟨rs,vars,bx⟩ o=true∧op2 E (ae C0 ⟨rs,vars,bx⟩ o) rest zs K):=by
 unfold lT
 rw[Oy rs vars bx h hm]
 simp only[List.append_nil]
 rfl
abbrev qZ(E:Env)(o:IOp)(rest:nC)(rs vars:List T)(bx:List (Option (List T)))(zs:Ys)(K:St→Ys→Prop):Prop:=du ⟨rs,vars,bx⟩ o=true∧iO ⟨rs,vars,bx⟩ o∧fc (gL ⟨rs,vars,bx⟩ o)=false∧kx E rest ⟨snoc rs (gL ⟨rs,vars,bx⟩ o),vars,bx⟩ zs K
abbrev IE(E:Env)(o:IOp)(rest:nC)(rs vars:List T)(bx:List (Option (List T)))(zs:Ys)(K:St→Ys→Prop):Prop:=du ⟨rs,vars,bx⟩ o=true∧op2 E (ae C0 ⟨rs,vars,bx⟩ o) rest zs K
@[simp] theorem apk(a b c d):lT E (.bin a b c d) rest ⟨rs,vars,bx⟩ zs K=qZ E (.bin a b c d) rest rs vars bx zs K:=yP rs vars bx rfl rfl
@[simp] theorem apM(a b):lT E (.un a b) rest ⟨rs,vars,bx⟩ zs K=qZ E (.un a b) rest rs vars bx zs K:=yP rs vars bx rfl rfl
@[simp] theorem ank(a b c):lT E (.load a b c) rest ⟨rs,vars,bx⟩ zs K=qZ E (.load a b c) rest rs vars bx zs K:=yP rs vars bx rfl rfl
@[simp] theorem apl(a b):lT E (.len a b) rest ⟨rs,vars,bx⟩ zs K=qZ E (.len a b) rest rs vars bx zs K:=yP rs vars bx rfl rfl
@[simp] theorem ajO(a b c):lT E (.iaddrS a b c) rest ⟨rs,vars,bx⟩ zs K=qZ E (.iaddrS a b c) rest rs vars bx zs K:=yP rs vars bx rfl rfl
@[simp] theorem alE(a b):lT E (.faddr a b) rest ⟨rs,vars,bx⟩ zs K=qZ E (.faddr a b) rest rs vars bx zs K:=yP rs vars bx rfl rfl
@[simp] theorem anl(a b c):lT E (.pick a b c) rest ⟨rs,vars,bx⟩ zs K=qZ E (.pick a b c) rest rs vars bx zs K:=yP rs vars bx rfl rfl
@[simp] theorem alF(a b):lT E (.alloc a b) rest ⟨rs,vars,bx⟩ zs K=IE E (.alloc a b) rest rs vars bx zs K:=vi rs vars bx rfl rfl
@[simp] theorem alG(a b c):lT E (.store a b c) rest ⟨rs,vars,bx⟩ zs K=IE E (.store a b c) rest rs vars bx zs K:=vi rs vars bx rfl rfl
@[simp] theorem alH(a b):lT E (.build a b) rest ⟨rs,vars,bx⟩ zs K=IE E (.build a b) rest rs vars bx zs K:=vi rs vars bx rfl rfl
@[simp] theorem ajP(a b c d e):lT E (.sliceA a b c d e) rest ⟨rs,vars,bx⟩ zs K=IE E (.sliceA a b c d e) rest rs vars bx zs K:=vi rs vars bx rfl rfl
@[simp] theorem ajQ(a b c d e f):lT E (.bslice a b c d e f) rest ⟨rs,vars,bx⟩ zs K=IE E (.bslice a b c d e f) rest rs vars bx zs K:=vi rs vars bx rfl rfl
@[simp] theorem ajR(d e sz bytes zero kind a b):lT E (.append d e sz bytes zero kind a b) rest ⟨rs,vars,bx⟩ zs K=(du ⟨rs,vars,bx⟩ (.append d e sz bytes zero kind a b)=true∧op2 E (Al ⟨rs,vars,bx⟩ d e sz bytes (a.get ⟨rs,vars,bx⟩) (iH bx kind sz zero (b.get ⟨rs,vars,bx⟩)) (match iH bx kind sz zero (b.get ⟨rs,vars,bx⟩)with|some (_,ys)=>dE (b.get ⟨rs,vars,bx⟩) ys|none=>false)) rest zs K):=by
 rw[vi rs vars bx rfl rfl,Se]<;>rfl
@[simp] theorem apN(i:Nat):lT E (.mv (.x i)) rest ⟨rs,vars,bx⟩ zs K=kx E rest ⟨snoc rs (ag.get ⟨rs,vars,bx⟩ (.x i)),vars,bx⟩ zs K:=by unfold lT;rw[ags,List.append_nil]
@[simp] theorem apm(i:Nat):lT E (.mv (.r i)) rest ⟨rs,vars,bx⟩ zs K=kx E rest ⟨snoc rs (ag.get ⟨rs,vars,bx⟩ (.r i)),vars,bx⟩ zs K:=by unfold lT;rw[aek,List.append_nil]
@[simp] theorem apn(t:T):lT E (.mv (.c t)) rest ⟨rs,vars,bx⟩ zs K=(fc t=false∧kx E rest ⟨snoc rs t,vars,bx⟩ zs K):=by unfold lT;rw[ael,List.append_nil]
theorem XA(d i:Nat)(as:List ag)(hg:ag.get ⟨rs,vars,bx⟩ (.r i)=yT 0)(h1:(as.map (ag.get ⟨rs,vars,bx⟩)).all scal=true)(h2:(as.map (ag.get ⟨rs,vars,bx⟩)).all (fun t=> !fc t)=true)(h:kx E rest ⟨snoc rs (T.bool true),vars,bx⟩ (zs++[as.map (ag.get ⟨rs,vars,bx⟩)]) K):lT E (.callv d (.r i) as) rest ⟨rs,vars,bx⟩ zs K:=
 Xy rs vars bx d i as hg h1 h2 h
theorem abJ(d:Nat)(f:FuncId)(as:List ag)(h:dm ((as.map (ag.get ⟨rs,vars,bx⟩)).mapM (close bx 6)) fun cs=>dm (dC E f cs) fun r=>f< aq∧du ⟨rs,vars,bx⟩ (.call d f as)=true∧(bc (as.map (ag.get ⟨rs,vars,bx⟩))&& !r.fresh)=false∧fc (r.import d)=false∧kx E rest ⟨snoc (stripL (2*d) rs) (r.import d),stripL (2*d) vars,bx.map (Option.map (stripL (2*d)))⟩ zs K):lT E (.call d f as) rest ⟨rs,vars,bx⟩ zs K:=by
 unfold lT
 refine Xz rs vars bx d f as ?_
 simp only[List.append_nil]
 exact h
end
def pU(E:Env):List Fr→(Out→Ys→Prop)→Out→Ys→Prop
 | [],Q=>Q
 | .seq b::k,Q=>fun o ys=>match o with
  | .norm σ=>∃n o' zs,aS (aW E n) 0 n b σ=some (o',zs)∧pU E k Q o' (ys++zs)
  | .exit j σ=>pU E k Q (.exit j σ) ys
  | .ret σ=>pU E k Q (.ret σ) ys
 | .xo id::k,Q=>fun o ys=>match o with
  | .norm σ=>pU E k Q (.norm σ) ys
  | .exit j σ=>if j=id then pU E k Q (.norm σ) ys else pU E k Q (.exit j σ) ys
  | .ret σ=>pU E k Q (.ret σ) ys
 | .nj::k,Q=>fun o ys=>match o with
  | .norm σ=>pU E k Q (.norm σ) ys
  | .exit j σ=>j< cD∧pU E k Q (.exit j σ) ys
  | .ret σ=>pU E k Q (.ret σ) ys
def MY(E:Env)(c:IC)(k:List Fr)(σ:St)(ys:Ys)(Q:Out→Ys→Prop):Prop:=∃n o zs,aS (aW E n) 0 n c σ=some (o,zs)∧pU E k Q o (ys++zs)
def NY(E:Env)(k:List Fr)(σ:St)(ys:Ys)(Q:Out→Ys→Prop):Prop:=pU E k Q (.norm σ) ys
def XY(E:Env)(id:Nat)(k:List Fr)(σ:St)(ys:Ys)(Q:Out→Ys→Prop):Prop:=pU E k Q (.exit id σ) ys
section
variable{E:Env}{k:List Fr}{σ:St}{ys:Ys}{Q:Out→Ys→Prop}
theorem IF:NY E [] σ ys Q=Q (.norm σ) ys:=rfl
theorem iB(b):NY E (.seq b::k) σ ys Q=MY E b k σ ys Q:=rfl
theorem Oz(id):NY E (.xo id::k) σ ys Q=NY E k σ ys Q:=rfl
theorem ajS:NY E (.nj::k) σ ys Q=NY E k σ ys Q:=rfl
theorem XB(id):XY E id [] σ ys Q=Q (.exit id σ) ys:=rfl
theorem XC(id b):XY E id (.seq b::k) σ ys Q=XY E id k σ ys Q:=rfl
theorem XD(id j):XY E id (.xo j::k) σ ys Q=if id=j then NY E k σ ys Q else XY E id k σ ys Q:=rfl
theorem Bo(h:NY E k σ ys Q):MY E .skip k σ ys Q:=⟨0,_,_,rfl,by rw[List.append_nil];exact h⟩
theorem Sh(id)(h:XY E id k σ ys Q):MY E (.exit id) k σ ys Q:=⟨0,_,_,rfl,by rw[List.append_nil];exact h⟩
theorem Si(vs)(h:NY E k {σ with vars:=ef vs σ.vars} ys Q):MY E (.kill vs) k σ ys Q:=⟨0,_,_,rfl,by rw[List.append_nil];exact h⟩
theorem Sj(ss){σ':St}(hf:cB ss σ=some σ')(h:NY E k σ' ys Q):MY E (.free ss) k σ ys Q:=⟨0,_,[],by simp only[aS,hf];rfl,by rw[List.append_nil];exact h⟩
theorem jn(a b)(h:MY E a (.seq b::k) σ ys Q):MY E (.seq a b) k σ ys Q:=by
 obtain⟨n,o,zs,h1,h2⟩:=h
 cases o with
 |norm σ'=>
  obtain⟨m,o',ws,h3,h4⟩:=h2
  refine⟨max n m,o',zs++ws, ?_,by rw[←List.append_assoc];exact h4⟩
  simp only[aS]
  rw[fZ (le_max E n m).1 (Nat.le_max_left ..) h1]
  simp only
  rw[fZ (le_max E n m).2 (Nat.le_max_right ..) h3]
  rfl
 |exit j σ'=>exact⟨n,_,zs,by simp only[aS,h1],h2⟩
 |ret σ'=>exact⟨n,_,zs,by simp only[aS,h1],h2⟩
theorem Cg(id a)(h:MY E a (.xo id::k) σ ys Q):MY E (.block id a) k σ ys Q:=by
 obtain⟨n,o,zs,h1,h2⟩:=h
 cases o with
 |norm σ'=>exact⟨n,_,zs,by simp only[aS,h1],h2⟩
 |exit j σ'=>
  by_cases hj:j=id
  ·refine⟨n,.norm σ',zs,by simp only[aS,h1];rw[if_pos hj], ?_⟩
   simp only[pU,if_pos hj]at h2
   exact h2
  ·refine⟨n,.exit j σ',zs,by simp only[aS,h1];rw[if_neg hj], ?_⟩
   simp only[pU,if_neg hj]at h2
   exact h2
 |ret σ'=>exact⟨n,_,zs,by simp only[aS,h1],h2⟩
theorem XE(a)(h:MY E a (.nj::k) σ ys Q):MY E (.kz a) k σ ys Q:=by
 obtain⟨n,o,zs,h1,h2⟩:=h
 cases o with
 |norm σ'=>exact⟨n,_,zs,by simp only[aS,h1],h2⟩
 |exit j σ'=>exact⟨n,_,zs,by simp only[aS,h1];rw[if_pos h2.1],h2.2⟩
 |ret σ'=>exact⟨n,_,zs,by simp only[aS,h1],h2⟩
theorem uz(r:Ro)(hd:r.draw=false)(h:kx E r.ops {σ with rs:=[]} [] fun σ' zs=>NY E k ⟨[],fz σ'.rs σ'.vars r.outs,σ'.boxes⟩ (ys++zs) Q):MY E (.Az r) k σ ys Q:=by
 obtain⟨n,σ',ws,h1,h2⟩:=qO h
 refine⟨n,_,ws, ?_,h2⟩
 simp only[aS,h1,Option.bind_some,hd,Bool.false_eq_true,false_and,if_false]
theorem aem(r:Ro)(h:kx E r.ops {σ with rs:=[]} [] fun σ' zs=>zs=[]∧NY E k ⟨[],fz σ'.rs σ'.vars r.outs,σ'.boxes⟩ ys Q):MY E (.Az r) k σ ys Q:=by
 obtain⟨n,σ',ws,h1,h2,h3⟩:=qO h
 rw[List.nil_append]at h2
 subst h2
 refine⟨n,_,[], ?_,by rw[List.append_nil];exact h3⟩
 simp only[aS,h1,Option.bind_some,List.isEmpty_nil,Bool.true_eq_false,and_false,if_false]
theorem xV(c:ag)(a b:IC)(t:Bool)(hc:c.get σ= .v (.bool t))(h:if t then MY E a k σ ys Q else MY E b k σ ys Q):MY E (.cond c a b) k σ ys Q:=by
 cases t
 ·obtain⟨n,o,zs,h1,h2⟩:=h
  exact⟨n,o,zs,by simp only[aS,hc];exact h1,h2⟩
 ·obtain⟨n,o,zs,h1,h2⟩:=h
  exact⟨n,o,zs,by simp only[aS,hc];exact h1,h2⟩
def OA(E:Env)(k:List Fr)(Q:Out→Ys→Prop)(S:St→Ys→Prop):Out→Ys→Prop
 | .norm σ,ys=>S σ ys
 | .exit id σ,ys=>XY E id k σ ys Q
 | .ret σ,ys=>pU E k Q (.ret σ) ys
theorem Sk{a:IC}(n:Nat)(I:Nat→St→Ys→Prop)(h0:I 0 σ ys)(hstep:∀j σ ys,j≤n→I j σ ys→MY E a [] σ ys (OA E k Q fun σ' KY=>j< n∧I (j+1) σ' KY)):MY E (.loop a) k σ ys Q:=by
 have key:∀d j σ ys,j≤n→n-j=d→I j σ ys→∃f o zs,(∀m,f≤m→j3 (aS (aW E m) 0 m a) (d+1) σ=some (o,zs))∧pU E k Q o (ys++zs):=by
  intro d
  induction d with
  |zero=>
   intro j σ ys hj hd hI
   obtain⟨f,o,zs,h1,h2⟩:=hstep j σ ys hj hI
   have hm:=fun m (hm:f≤m)=>fZ (dY (E:=E) hm) hm h1
   cases o with
   |norm σ'=>exact absurd h2.1 (by omega)
   |exit id σ'=>exact⟨f,_,zs,fun m h=>by simp only[j3,hm m h],h2⟩
   |ret σ'=>exact⟨f,_,zs,fun m h=>by simp only[j3,hm m h],h2⟩
  |succ d ih=>
   intro j σ ys hj hd hI
   obtain⟨f,o,zs,h1,h2⟩:=hstep j σ ys hj hI
   have hm:=fun m (hm:f≤m)=>fZ (dY (E:=E) hm) hm h1
   cases o with
   |norm σ'=>
    obtain⟨f2,o2,Xa,h3,h4⟩:=ih (j+1) σ' (ys++zs) (by omega) (by omega) h2.2
    refine⟨max f f2,o2,zs++Xa,fun m h=> ?_,by rw[←List.append_assoc];exact h4⟩
    rw[j3,hm m (by omega)]
    simp only
    rw[h3 m (by omega)]
    rfl
   |exit id σ'=>exact⟨f,_,zs,fun m h=>by rw[j3,hm m h],h2⟩
   |ret σ'=>exact⟨f,_,zs,fun m h=>by rw[j3,hm m h],h2⟩
 obtain⟨f,o,zs,h1,h2⟩:=key (n-0) 0 σ ys (Nat.zero_le _) rfl h0
 refine⟨max f (n-0+1),o,zs, ?_,h2⟩
 show j3 (aS (aW E _) 0 _ a) _ σ=_
 exact BP (fun _ _ h=>h) (Nat.le_max_right ..) (h1 _ (Nat.le_max_left ..))
end
def acP(R:Ys→Prop):Out→Ys→Prop
 | .norm _,ys=>R ys
 | .exit _ _,_=>False
 | .ret _,ys=>R ys
theorem agt{E:Env}{f:FuncId}{caps:List T}{zs:Ys}{fn:aD}(hp:E.kJ (aq+f)=none)(pL:E.fn f=some fn)(hl:caps.length+1=fn.nparams)(hy:caps.all (fun t=> !fc t)=true)(hr:fn.results.isEmpty=true)(hnt:∀as ins,[T.an caps]≠[T.an as,T.an ins])
  (h:MY E fn.body [] ⟨[],yT 0::caps++List.replicate (fn.jZ-fn.nparams) .undef,List.replicate (2*fn.ez) none⟩ [] (acP fun ys=>ys=zs)):Ev E (aq+f) [.an caps] (.an (zs.map .an)):=by
 obtain⟨n,o,ws,h1,h2⟩:=h
 refine⟨n+1, ?_⟩
 have hb:¬aq+f< aq:=by omega
 simp only[aW,hp,if_neg hb,Nat.add_sub_cancel_left,pL]
 have:rz (aW E n) n 0 fn caps=some zs:=by
  unfold rz
  rw[if_pos ⟨hl,hy,hr⟩,h1]
  cases o with
  |norm σ=>rw[List.nil_append]at h2;exact congrArg some h2
  |exit j σ=>exact h2.elim
  |ret σ=>rw[List.nil_append]at h2;exact congrArg some h2
 rw[this]
 rfl
end Go.Vi
end
