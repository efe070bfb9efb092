/-
  A claim's own text, joined by a small program out of: VjK3.
-/
import Derived.Test.YtodollbkpkpklaaGreatX1
set_option linter.unusedVariables false
set_option linter.unusedSimpArgs false
section
namespace Go.Vi
open Go
def fN{α:Type}(m:Nat)(k:Nat→α):α:=match m with|0=>k 0|n+1=>k (n+1)
theorem UW{α:Type}(m:Nat)(k:Nat→α):fN m k=k m:=by cases m<;>rfl
def fI{α:Type}(n:Int)(k:Int→α):α:=match n with| .ofNat m=>fN m fun m=>k (.ofNat m)| .negSucc m=>fN m fun m=>k (.negSucc m)
theorem UX{α:Type}(n:Int)(k:Int→α):fI n k=k n:=by cases n<;>simp[fI,UW]
def abX{α:Type}(g:Tag)(k:Tag→α):α:=match g with| .nil=>k .nil| .any=>k .any| .lP=>k .lP| .clip=>k .clip| .own i e=>fN i fun i=>k (.own i e)
theorem aew{α:Type}(g:Tag)(k:Tag→α):abX g k=k g:=by cases g<;>simp[abX,UW]
noncomputable def MP{α:Type}(l:List T)(t:T):(List T→α)→α:=List.rec (fun k=>k [t]) (fun x _ ih k=>ih fun l=>k (x::l)) l
theorem Hq{α:Type}:∀(l:List T) (t:T) (k:List T→α),MP l t k=k (l++[t])
 | [],t,k=>rfl
 |x::xs,t,k=>Hq xs t _
theorem SD(n:Int)(h1: -9223372036854775808≤n)(h2:n≤9223372036854775807):n=IntKind.i64.wrap n:=by
 rw[IntKind.wrap_i64]
 omega
theorem agH(n:Int)(h1:0≤n)(h2:n≤255):n=IntKind.u8.wrap n:=by
 have h8:(2^IntKind.u8.bits:Int)=256:=by decide
 unfold IntKind.wrap
 simp only[h8,show IntKind.u8.signed=false from rfl,Bool.false_and,Bool.false_eq_true,if_false]
 omega
theorem J5(m b:Nat)(h:Nat.ble m b=true):(m:Int)≤b:=by
 have:=Nat.le_of_ble_eq_true h
 omega
theorem aex(m:Nat)(h:(m:Int)≤9223372036854775807): -9223372036854775808≤Int.negSucc m∧Int.negSucc m≤9223372036854775807:=by
 rw[Int.negSucc_eq];omega
def J6(m:Nat):Int:=bif Nat.ble m 9223372036854775807 then .ofNat m else IntKind.i64.wrap (.ofNat m)
theorem UY(m:Nat):J6 m=IntKind.i64.wrap (.ofNat m):=by
 unfold J6
 generalize hb:Nat.ble m 9223372036854775807=b
 cases b with
 |false=>exact cond_false _ _
 |true=>exact(cond_true _ _).trans (SD _ (by simp only[Int.ofNat_eq_natCast];omega) (J5 m 9223372036854775807 hb))
def J7(m:Nat):Int:=bif Nat.ble m 9223372036854775807 then .negSucc m else IntKind.i64.wrap (.negSucc m)
theorem UZ(m:Nat):J7 m=IntKind.i64.wrap (.negSucc m):=by
 unfold J7
 generalize hb:Nat.ble m 9223372036854775807=b
 cases b with
 |false=>exact cond_false _ _
 |true=>
  have:=aex m (J5 m 9223372036854775807 hb)
  exact(cond_true _ _).trans (SD _ this.1 this.2)
def O4(m:Nat):Int:=bif Nat.ble m 255 then .ofNat m else IntKind.u8.wrap (.ofNat m)
theorem Yw(m:Nat):O4 m=IntKind.u8.wrap (.ofNat m):=by
 unfold O4
 generalize hb:Nat.ble m 255=b
 cases b with
 |false=>exact cond_false _ _
 |true=>exact(cond_true _ _).trans (agH _ (by simp only[Int.ofNat_eq_natCast];omega) (J5 m 255 hb))
def xK(k:IntKind)(n:Int):Int:=match k with
 | .i64=>(match n with| .ofNat m=>J6 m| .negSucc m=>J7 m)
 | .u8=>(match n with| .ofNat m=>O4 m| .negSucc m=>IntKind.u8.wrap (.negSucc m))
 |k=>k.wrap n
theorem s7(k:IntKind)(n:Int):xK k n=k.wrap n:=by
 unfold xK
 split
 ·split
  ·exact UY _
  ·exact UZ _
 ·split
  ·exact Yw _
  ·exact Eq.refl _
 ·exact Eq.refl _
def Dm(x y:Int):Bool:=match x with
 | .ofNat a=>(match y with| .ofNat b=>Nat.blt a b| .negSucc _=>false)
 | .negSucc a=>(match y with| .ofNat _=>true| .negSucc b=>Nat.blt b a)
theorem Bt(x y:Int):Dm x y=decide (x< y):=by
 cases x<;>cases y<;>simp only[Dm]
 ·rw[Bool.eq_iff_iff];simp[Nat.blt];omega
 ·rw[Bool.eq_iff_iff];simp;omega
 ·rw[Bool.eq_iff_iff];simp;omega
 ·rw[Bool.eq_iff_iff];simp[Nat.blt];omega
def O5(x y:Int):Bool:=match x with
 | .ofNat a=>(match y with| .ofNat b=>Nat.beq a b| .negSucc _=>false)
 | .negSucc a=>(match y with| .ofNat _=>false| .negSucc b=>Nat.beq a b)
theorem EN(x y:Int):O5 x y=(x==y):=by
 cases x<;>cases y<;>simp only[O5]
 ·rw[Bool.eq_iff_iff];simp only[Nat.beq_eq,beq_iff_eq,Int.ofNat_eq_natCast];omega
 ·rw[Bool.eq_iff_iff];simp
 ·rw[Bool.eq_iff_iff];simp
 ·rw[Bool.eq_iff_iff];simp
def abY(t:TypeId)(x y:Int):Option T:=match x with
 | .ofNat a=>(match y with
  | .ofNat b=>(match b with
   |b+1=>some (.v (.int .i64 (.ofNat (a%(b+1)))))
   |0=>bO .rem t (.v (.int .i64 x)) (.v (.int .i64 y)))
  |y=>bO .rem t (.v (.int .i64 x)) (.v (.int .i64 y)))
 |x=>bO .rem t (.v (.int .i64 x)) (.v (.int .i64 y))
theorem aey(t:TypeId)(x y:Int):abY t x y=bO .rem t (.v (.int .i64 x)) (.v (.int .i64 y)):=by
 unfold abY
 split
 ·split
  ·split
   ·rfl
   ·rfl
  ·rfl
 ·rfl
def ib(f:Int→Int→T)(d:T→T→Option T)(a b:T):Option T:=match a with
 | .v (.int .i64 x)=>(match b with
  | .v (.int .i64 y)=>some (f x y)
  |b=>d (.v (.int .i64 x)) b)
 |a=>d a b
theorem xL{f:Int→Int→T}{d:T→T→Option T}(h:∀x y,d (.v (.int .i64 x)) (.v (.int .i64 y))=some (f x y))(a b:T):ib f d a b=d a b:=by
 unfold ib
 split
 ·split
  ·exact(h _ _).symm
  ·rfl
 ·rfl
def abZ(op:BinOp)(t:TypeId)(a b:T):Option T:=match a with
 | .v (.int .i64 x)=>(match b with
  | .v (.int .i64 y)=>(match op with
   | .add=>some (.v (.int .i64 (xK .i64 (x+y))))
   | .sub=>some (.v (.int .i64 (xK .i64 (x-y))))
   | .mul=>some (.v (.int .i64 (xK .i64 (x*y))))
   | .lss=>some (.v (.bool (Dm x y)))
   | .gtr=>some (.v (.bool (Dm y x)))
   | .leq=>some (.v (.bool (!(Dm y x))))
   | .geq=>some (.v (.bool (!(Dm x y))))
   | .eql=>some (.v (.bool (O5 x y)))
   | .neq=>some (.v (.bool (!(O5 x y))))
   | .rem=>abY t x y
   |op=>bO op t (.v (.int .i64 x)) (.v (.int .i64 y)))
  |b=>bO op t (.v (.int .i64 x)) b)
 |a=>bO op t a b
theorem Yx(t:TypeId)(x y:Int):some (T.v (.bool (!(Dm y x))))=bO .leq t (.v (.int .i64 x)) (.v (.int .i64 y)):=by
 rw[Bt]
 have:bO .leq t (.v (.int .i64 x)) (.v (.int .i64 y))=some (T.v (.bool (decide (x≤y)))):=rfl
 rw[this]
 congr 3
 rw[Bool.eq_iff_iff];simp
theorem Yy(t:TypeId)(x y:Int):some (T.v (.bool (!(Dm x y))))=bO .geq t (.v (.int .i64 x)) (.v (.int .i64 y)):=by
 rw[Bt]
 have:bO .geq t (.v (.int .i64 x)) (.v (.int .i64 y))=some (T.v (.bool (decide (y≤x)))):=rfl
 rw[this]
 congr 3
 rw[Bool.eq_iff_iff];simp
theorem aez(op:BinOp)(t:TypeId)(a b:T):abZ op t a b=bO op t a b:=by
 unfold abZ
 split
 ·split
  ·rename_i x y
   split
   ·rw[s7];rfl
   ·rw[s7];rfl
   ·rw[s7];rfl
   ·rw[Bt];rfl
   ·rw[Bt];rfl
   ·exact Yx t _ _
   ·exact Yy t _ _
   ·rw[EN];rfl
   ·rw[EN];rfl
   ·exact aey ..
   ·rfl
  ·rfl
 ·rfl
noncomputable def J8(l:List T):Nat→T:=List.rec (fun _=> .undef) (fun t _ ih n=>Nat.rec t (fun m _=>ih m) n) l
theorem J9:∀(l:List T) (n:Nat),J8 l n=l.getD n .undef
 | [],n=>by simp[J8]
 |t::ts,0=>rfl
 |t::ts,n+1=>(J9 ts n).trans (by simp)
noncomputable def bC(σ:St)(o:ag):T:=match o with
 | .r i=>J8 σ.rs i
 | .x i=>J8 σ.vars i
 | .c t=>t
theorem Ka(σ:St):bC σ=ag.get σ:=by
 funext o
 cases o<;>simp[bC,ag.get,J9]
noncomputable def fSp{α:Type}(l:List T):(List T→α)→α:=List.rec (fun k=>k []) (fun t _ ih k=>ih fun ts=>k (t::ts)) l
theorem O6{α:Type}:∀(l:List T) (k:List T→α),fSp l k=k l
 | [],k=>rfl
 |t::ts,k=>O6 ts fun ts=>k (t::ts)
noncomputable def fM{α:Type}(t:T)(k:T→α):α:=match t with
 | .sl g n cs=>abX g fun g=>fN n fun n=>fSp cs fun cs=>k (.sl g n cs)
 | .agg cs=>fSp cs fun cs=>k (.agg cs)
 | .v x=>k (.v x)
 |t=>k t
theorem acX{α:Type}(t:T)(k:T→α):fM t k=k t:=by cases t<;>simp[fM,aew,UW,O6]
noncomputable def fML{α:Type}(l:List T):(List T→α)→α:=List.rec (fun k=>k []) (fun t _ ih k=>fM t fun t=>ih fun ts=>k (t::ts)) l
theorem O7{α:Type}:∀(l:List T) (k:List T→α),fML l k=k l
 | [],k=>rfl
 |t::ts,k=>(acX t (fun t=>fML ts fun ts=>k (t::ts))).trans (O7 ts fun ts=>k (t::ts))
noncomputable def fMR{α:Type}(t:T)(k:T→α):α:=match t with
 | .an cs=>fML cs fun cs=>k (.an cs)
 |t=>fM t k
theorem agI{α:Type}(t:T)(k:T→α):fMR t k=k t:=by cases t<;>simp[fMR,acX,O7]
def Kb(t:T):Bool:=match t with
 | .v _=>true
 | .ref ..=>false
 | .av ..=>false
 | .sl g _ _=>(match g with| .own _ _=>false|_=>true)
 |t=>t.closed
theorem IY:Kb=T.closed:=by
 funext t
 cases t<;>try rfl
 rename_i g n cs
 cases g<;>rfl
noncomputable def U0(f:T→Bool)(l:List T):Bool:=List.rec true (fun t _ ih=>match f t with|true=>ih|false=>false) l
theorem Kc(f:T→Bool):∀l,U0 f l=l.all f
 | []=>rfl
 |t::ts=>by
  show(match f t with|true=>U0 f ts|false=>false)=_
  rw[List.all_cons,Kc f ts]
  cases f t<;>rfl
noncomputable def Hr(l:List T):Bool:=U0 Kb l
theorem Rc(l:List T):Hr l=bn l:=by
 unfold Hr
 rw[Kc,IY]
 induction l with
 |nil=>rfl
 |cons t ts ih=>simp only[List.all_cons,bn,ih]
def IZ(d:Nat)(t:T):T:=match t with
 | .v x=> .v x
 | .sl g n cs=>(match g with| .own k e=> .sl (bif hit d k then .any else .own k e) n cs|g=> .sl g n cs)
 | .av s o n c=> .av s o n c
 | .ref s o=> .ref s o
 |t=>t.strip d
theorem Yz(d:Nat)(t:T):IZ d t=t.strip d:=by
 cases t<;>try rfl
 rename_i g n cs
 cases g<;>try rfl
 simp only[IZ,T.strip]
 rename_i k e
 cases hit d k<;>rfl
noncomputable def xX(d:Nat)(l:List T):List T:=List.rec [] (fun t _ ih=>IZ d t::ih) l
theorem I0(d:Nat):∀l,xX d l=stripL d l
 | []=>rfl
 |t::ts=>by
  show IZ d t::xX d ts=_
  rw[Yz,I0 d ts]
  rfl
noncomputable def lE(d:Nat)(σ:St):St:=⟨xX d σ.rs,xX d σ.vars,σ.boxes.map (Option.map (xX d))⟩
theorem LQ(d:Nat)(σ:St):lE d σ=σ.strip d:=by
 have:xX d=stripL d:=funext (I0 d)
 simp only[lE,St.strip,this]
def Kd(d:Nat)(t:T):T:=match t with
 | .v x=> .v x
 | .sl g n cs=>(match g with| .own k e=> .sl (if k< 8 then .own (8*d+k) e else .any) n cs|g=> .sl g n cs)
 |t=>t.import d
theorem U1(d:Nat)(t:T):Kd d t=t.import d:=by
 cases t<;>try rfl
 rename_i g n cs
 cases g<;>rfl
def YA(bx:List (Option (List T)))(t:T)(ih:Option (List T)):Option (List T):=match t with
 | .v x=>(match ih with|some l=>some (.v x::l)|none=>none)
 | .sl _ n cs=>(match ih with|some l=>some (.sl .any n cs::l)|none=>none)
 |t=>(match close bx 6 t with|some u=>(match ih with|some l=>some (u::l)|none=>none)|none=>none)
theorem YB(bx:List (Option (List T)))(t:T)(ih:Option (List T)):YA bx t ih=(close bx 6 t).bind fun u=>ih.bind fun l=>some (u::l):=by
 have gen:∀o:Option T,(match o with|some u=>(match ih with|some l=>some (u::l)|none=>none)|none=>none)=o.bind fun u=>ih.bind fun l=>some (u::l):=fun o=>by
  cases o with
  |none=>rfl
  |some u=>cases ih<;>rfl
 cases t with
 |v x=>cases ih<;>rfl
 |sl g n cs=>cases ih<;>rfl
 |undef=>exact gen (close bx 6 .undef)
 |ptr a b=>exact gen (close bx 6 (.ptr a b))
 |ref a b=>exact gen (close bx 6 (.ref a b))
 |av a b c d=>exact gen (close bx 6 (.av a b c d))
 |aQ a=>exact gen (close bx 6 (.aQ a))
 |agg a=>exact gen (close bx 6 (.agg a))
 |an a=>exact gen (close bx 6 (.an a))
 |bB a b c=>exact gen (close bx 6 (.bB a b c))
noncomputable def Ke(bx:List (Option (List T)))(l:List T):Option (List T):=List.rec (some []) (fun t _ ih=>YA bx t ih) l
theorem I1(bx:List (Option (List T))):∀l,Ke bx l=l.mapM (close bx 6)
 | []=>rfl
 |t::ts=>by
  rw[List.mapM_cons,←I1 bx ts]
  exact YB bx t (Ke bx ts)
def Kf(t:T):Bool:=match t with
 | .v _=>false
 | .sl ..=>false
 |t=>t.aV
theorem U2(t:T):Kf t=t.aV:=by cases t<;>rfl
noncomputable def Hs(l:List T):Bool:=List.rec false (fun t _ ih=>match Kf t with|true=>true|false=>ih) l
theorem GK:∀l,Hs l=bc l
 | []=>rfl
 |t::ts=>by
  show(match Kf t with|true=>true|false=>Hs ts)=_
  rw[U2,GK ts]
  simp only[bc]
  cases t.aV<;>rfl
noncomputable def I2(C:FuncId→List T→Option T)(σ:St)(d:Nat)(f:FuncId)(as:List T):Option (T×St):=
 match Ke σ.boxes as with
 |some cs=>(match tH C f cs with
  |some r=>(match Hs as with
   |true=>if !r.fresh then none else some (Kd d r,lE (2*d) σ)
   |false=>some (Kd d r,lE (2*d) σ))
  |none=>none)
 |none=>none
theorem YC(C:FuncId→List T→Option T)(σ:St)(d:Nat)(f:FuncId)(as:List T):I2 C σ d f as=ae.cU C σ d f as:=by
 unfold I2 ae.cU
 rw[I1,GK]
 cases as.mapM (close σ.boxes 6)with
 |none=>rfl
 |some cs=>
  simp only[Option.bind_eq_bind,Option.bind_some]
  cases tH C f cs with
  |none=>rfl
  |some r=>
   simp only[Option.bind_some,U1,LQ]
   cases bc as with
   |false=>rfl
   |true=>simp only[Bool.true_and]
noncomputable def Fx(bx:List (Option (List T)))(t:T):Option T:=match t with
 | .v x=>some (.v x)
 | .sl g n cs=>(match g with| .own _ e=>some (.sl (.own 0 e) n cs)|g=>some (.sl g n cs))
 |t=>j2 bx t
theorem U3(bx:List (Option (List T)))(t:T):Fx bx t=j2 bx t:=by
 cases t<;>try rfl
 rename_i g n cs
 cases g with
 |own k e=>
  have:List.idxOf? k [k]=some 0:=by simp[List.idxOf?,List.findIdx?_cons]
  simp[Fx,j2,T.aV,T.fa,T.al,this]
 |_=>rfl
abbrev qT:=FuncId→List T→Option T
abbrev dj:=qT→St→Option (T×St)
abbrev xc:=qT→St→Option St
abbrev q8:=qT→Nat→St→Option Out
noncomputable def agJ(a:ag):dj:=fun C σ=>
 let get:=bC σ
 some (get a,σ)
noncomputable def YD(c:ag)(a:ag)(b:ag):dj:=fun C σ=>
 let get:=bC σ
 match get c with| .v (.bool t)=>some (if t then get a else get b,σ)|_=>none
noncomputable def acY(op:BinOp)(t:TypeId)(a:ag)(b:ag):dj:=fun C σ=>
 let get:=bC σ
 (bO op t (get a) (get b)).map (·,σ)
noncomputable def acZ(neg:Bool)(a:ag)(b:ag):dj:=fun C σ=>
 let get:=bC σ
 match get a,get b with| .v (.bool x),.v (.bool y)=>some (T.bool ((x==y) !=neg),σ)|_,_=>none
noncomputable def ac0(neg:Bool)(ks:List LK)(a:ag)(b:ag):dj:=fun C σ=>
 let get:=bC σ
 match get a,get b with
  | .agg xs,.agg ys=>(cd ks xs ys).map fun e=>(T.bool (e !=neg),σ)
  |_,_=>none
noncomputable def SE(neg:Bool)(a:ag):dj:=fun C σ=>
 let get:=bC σ
 match get a with
  | .sl .nil _ _=>some (T.bool (!neg),σ)
  | .sl .lP _ _=>some (T.bool neg,σ)
  | .sl _ n _=>if 0< n then some (T.bool neg,σ)else none
  | .av _ _ n _=>if 0< n then some (T.bool neg,σ)else none
  |_=>none
noncomputable def agK(op:UnOp)(a:ag):dj:=fun C σ=>
 let get:=bC σ
 match get a with| .v x=>(gy (Op.unary op x)).map fun y=>(.v y,σ)|_=>none
noncomputable def SG(k:IntKind)(a:ag):dj:=fun C σ=>
 let get:=bC σ
 match get a with
  | .v (.int _ n)=>some (.v (.int k (xK k n)),σ)
  | .v (.float s b)=>(gy (Conv.floatToInt s b k)).map fun y=>(.v y,σ)
  |_=>none
noncomputable def LR(k:FloatKind)(a:ag):dj:=fun C σ=>
 let get:=bC σ
 match get a with| .v (.int _ n)=>some (.v (.float k (k.nearest n)),σ)|_=>none
noncomputable def SH(a:ag):dj:=fun C σ=>
 let get:=bC σ
 match get a with
  | .sl _ n cs=>if n=cs.length then(bytesOf cs).map fun b=>(.str ⟨b.toArray⟩,σ)else none
  |_=>none
noncomputable def SI(zero:List T)(parts:List (Nat×Nat×ag)):dj:=fun C σ=>
 let get:=bC σ
 (df get zero parts).map fun cs=>(.agg cs,σ)
noncomputable def SJ(isAgg:Bool)(off:Nat)(n:Nat)(a:ag):dj:=fun C σ=>
 let get:=bC σ
 match get a with| .agg cs=>(one? isAgg n cs off).map (·,σ)|_=>none
noncomputable def O8(len:Nat)(sz:Nat)(isAgg:Bool)(a:ag)(i:ag):dj:=fun C σ=>
 let get:=bC σ
 match get a,asNat (get i)with
  | .agg cs,some i=>if i< len then(one? isAgg sz cs (i*sz)).map (·,σ)else none
  |_,_=>none
noncomputable def O9(a:ag)(i:ag):dj:=fun C σ=>
 let get:=bC σ
 match get a,asNat (get i)with
  | .v (.string s),some i=>(s.data[i]?).map fun b=>(.u8 b.toNat,σ)
  |_,_=>none
noncomputable def LS(a:ag)(i:Nat):dj:=fun C σ=>
 let get:=bC σ
 match get a with| .an ts=>(ts[i]?).map (·,σ)|_=>none
noncomputable def SK(s:Nat)(zero:List T):dj:=fun C σ=>
 let get:=bC σ
 match σ.boxes[s]? with
  |some none=>if s%2=0 then some (T.ref s 0,{σ with boxes:=σ.boxes.set s (some zero)})else none
  |_=>none
noncomputable def ac1(s:Nat)(a:ag):dj:=fun C σ=>
 let get:=bC σ
 match σ.boxes[s]?,cellsOf (get a)with
  |some none,some cs=>if cs.all T.one∧s%2=0 then some (T.ref s 0,{σ with boxes:=σ.boxes.set s (some cs)})else none
  |_,_=>none
noncomputable def YE(isAgg:Bool)(n:Nat)(a:ag):dj:=fun C σ=>
 let get:=bC σ
 match get a with
  | .ref s off=>match σ.boxes[s]? with
   |some (some cs)=>(one? isAgg n cs off).map (·,σ)
   |_=>none
  | .ptr cs off=>((one? isAgg n cs off).filter Kb).map (·,σ)
  |_=>none
noncomputable def SM(n:Nat)(a:ag)(b:ag):dj:=fun C σ=>
 let get:=bC σ
 match get a,cellsOf (get b)with
  | .ref s off,some ns=>match σ.boxes[s]? with
   |some (some cs)=>if ns.length=n∧off+n≤cs.length∧U0 T.one ns then some (.undef,{σ with boxes:=σ.boxes.set s (some (setCells cs off ns))})else none
   |_=>none
  |_,_=>none
noncomputable def SO(off:Nat)(a:ag):dj:=fun C σ=>
 let get:=bC σ
 match get a with
  | .ref s o=>some (.ref s (o+off),σ)
  | .ptr cs o=>some (.ptr cs (o+off),σ)
  |_=>none
noncomputable def Pa(len:Nat)(sz:Nat)(a:ag)(i:ag):dj:=fun C σ=>
 let get:=bC σ
 match get a,asNat (get i)with
  | .ref s o,some i=>if i< len then some (.ref s (o+i*sz),σ)else none
  | .ptr cs o,some i=>if i< len then some (.ptr cs (o+i*sz),σ)else none
  |_,_=>none
noncomputable def Pb(sz:Nat)(a:ag)(i:ag):dj:=fun C σ=>
 let get:=bC σ
 match get a,asNat (get i)with
  | .sl _ n cs,some i=>if i< n then some (.ptr cs (i*sz),σ)else none
  | .av s o n _,some i=>if i< n then some (.ref s (o+i*sz),σ)else none
  |_,_=>none
noncomputable def Pc(a:ag)(lo:Option ag)(hi:Option ag):dj:=fun C σ=>
 let get:=bC σ
 match get a with
  | .v (.string s)=>do
   let h←aw get s.size hi
   let l←aw get 0 lo
   if l≤h∧h≤s.size then some (.str (s.extract l h),σ)else none
  |_=>none
noncomputable def Pd(sz:Nat)(a:ag)(lo:Option ag)(hi:Option ag)(mx:Option ag):dj:=fun C σ=>
 let get:=bC σ
 match get a with
  | .sl g n cs=>do
   let h←aw get n hi
   let l←aw get 0 lo
   let m←aw get n mx
   if l≤h∧h≤m∧m≤n then some (.sl (if g= .nil then .nil else if mx.isSome∧h=m then .clip else .any) (h-l) ((cs.drop (l*sz)).take ((h-l)*sz)),σ)
   else none
  | .av s o n c=>do
   let h←aw get n hi
   let l←aw get 0 lo
   let m←aw get n mx
   if l≤h∧h≤m∧m≤n∧(n=0∨n*sz=c)then some (.av s (o+l*sz) (h-l) (if h=l then(if n=0 then c else 1+sz)else(h-l)*sz),σ)else none
  |_=>none
noncomputable def Pe(len:Nat)(sz:Nat)(a:ag)(lo:Option ag)(hi:Option ag):dj:=fun C σ=>
 let get:=bC σ
 match get a with
  | .ref s o=>do
   let h←aw get len hi
   let l←aw get 0 lo
   match σ.boxes[s]? with
   |some (some cs)=>if l≤h∧h≤len∧o+len*sz≤cs.length then some (.av s (o+l*sz) (h-l) (if h=l then 1 else(h-l)*sz),σ)else none
   |_=>none
  |_=>none
noncomputable def SP(len:Nat)(a:ag):dj:=fun C σ=>
 let get:=bC σ
 match get a with
  | .av s o n _=>if len≤n∧0< n then some (.ref s o,σ)else none
  | .sl _ n cs=>if len≤n∧0< n then some (.ptr cs 0,σ)else none
  |_=>none
noncomputable def LU(d:Nat)(e:TypeId)(sz:Nat)(bytes:Nat)(zero:List T)(n:ag):dj:=fun C σ=>
 let get:=bC σ
 match asNat (get n)with
  |some n=>if n*bytes≤room∧n≤room then some (.sl (.own (8*d) e) n (List.replicate n zero).flatten,lE (2*d) σ)else none
  |none=>none
noncomputable def SQ(d:Nat)(e:TypeId)(bytes:Nat)(n:ag):dj:=fun C σ=>
 let get:=bC σ
 match asNat (get n)with
  |some n=>if n*bytes≤room∧n≤room then some (.sl (.own (8*d) e) 0 [],lE (2*d) σ)else none
  |none=>none
noncomputable def SS(s:Nat)(sz:Nat)(bytes:Nat)(zero:List T)(n:ag):dj:=fun C σ=>
 let get:=bC σ
 match asNat (get n),σ.boxes[s]? with
  |some n,some none=>if n*bytes≤room∧n≤room∧s%2=0 then some (.av s 0 n (n*sz),{σ with boxes:=σ.boxes.set s (some (List.replicate n zero).flatten)})else none
  |_,_=>none
noncomputable def Pf(d:Nat)(e:TypeId)(sz:Nat)(len:Nat)(zero:List T)(parts:List (Nat×Nat×ag)):dj:=fun C σ=>
 let get:=bC σ
 do
  let cs←df (fun a=>(get a).cH) (List.replicate len zero).flatten parts
  if len≤65536∧len*sz≤16777216∧Hr cs then some (.sl (if len=0 then .clip else .own (8*d) e) len cs,lE (2*d) σ)else none
noncomputable def LV(s:Nat)(sz:Nat)(len:Nat)(zero:List T)(parts:List (Nat×Nat×ag)):dj:=fun C σ=>
 let get:=bC σ
 match σ.boxes[s]? with
  |some none=>(df get (List.replicate len zero).flatten parts).bind fun cs=>
   if len≤65536∧len*sz≤16777216∧s%2=0 then some (.av s 0 len (len*sz),{σ with boxes:=σ.boxes.set s (some cs)})else none
  |_=>none
noncomputable def Pg(d:Nat)(e:TypeId)(sz:Nat)(bytes:Nat)(zero:List T)(kind:Nat)(a:ag)(b:ag):dj:=fun C σ=>
 let get:=bC σ
  match get a,iH σ.boxes kind sz zero (get b)with
  | .sl g n xs,some (m,ys)=>
   if xs.length=n*sz∧ys.length=m*sz∧(n+m)*bytes≤room∧n+m≤room∧dE (get b) ys=true then
    match g with
    | .own k e'=>if e'=e then some (.sl (.own (8*d) e) (n+m) (xs++ys),lE (2*d) (lE (2*k+1) σ))else none
    | .nil=>if n=0 then some (.sl (.own (8*d) e) m ys,lE (2*d) σ)else none
    | .clip=>if m=0 then(if n=0 then some (.sl (.own (8*d) e) 0 [],lE (2*d) σ)else none)else some (.sl (.own (8*d) e) (n+m) (xs++ys),lE (2*d) σ)
    | .lP=>if m=0 then some (.sl .any n xs,σ)else none
    | .any=>if m=0 then some (.sl .any n xs,σ)else none
   else none
  |_,_=>none
noncomputable def LW(s:Nat)(e:TypeId)(sz:Nat)(bytes:Nat)(zero:List T)(kind:Nat)(a:ag)(b:ag):dj:=fun C σ=>
 let get:=bC σ
  match get a,iH σ.boxes kind sz zero (get b),σ.boxes[s]? with
  | .sl g n _,some (m,ys),some none=>
   if n=0∧ys.length=m*sz∧m*bytes≤room∧m≤room∧dE (get b) ys=true∧s%2=0 then
    match g with
    | .own k e'=>if e'=e∧0< m then some (.av s 0 m (m*sz),{(lE (2*k+1) σ)with boxes:=(lE (2*k+1) σ).boxes.set s (some ys)})else none
    | .nil=>some (.av s 0 m (m*sz),{σ with boxes:=σ.boxes.set s (some ys)})
    | .clip=>some (.av s 0 m (m*sz),{σ with boxes:=σ.boxes.set s (some ys)})
    |_=>none
   else none
  | .av s' o n c,some (m,ys),some old=>
   if o=0∧(s=s'∨old.isNone=true)∧s%2=0∧(0< n∧c=n*sz∨n=0∧(c=0∨c=1+sz))∧n*sz≤((aj σ.boxes s').getD []).length∧ys.length=m*sz∧(n+m)*bytes≤room∧n+m≤room∧dE (get b) ys=true then
    some (.av s 0 (n+m) (if n+m=0 then c else(n+m)*sz),{σ.drop s' with boxes:=(σ.drop s').boxes.set s (some (ai (fun x=>if x=s' then none else some x) some (((aj σ.boxes s').getD []).take (n*sz))++ys))})
   else none
  |_,_,_=>none
noncomputable def Ph(sz:Nat)(zero:List T)(a:ag):dj:=fun C σ=>
 let get:=bC σ
 match get a with
  | .av s o n c=>match σ.boxes[s]? with
   |some (some cs)=>if s%2=0∧(n=0∨c=n*sz)∧zero.length=sz∧o+n*sz≤cs.length∧zero.all T.one then some (.undef,{σ with boxes:=σ.boxes.set s (some (setCells cs o (List.replicate n zero).flatten))})else none
   |_=>none
  |_=>none
noncomputable def SU(s:Nat):dj:=fun C σ=>
 let get:=bC σ
 match σ.boxes[s]? with
  |some none=>if s%2=1 then some (T.aQ s,{σ with boxes:=σ.boxes.set s (some [])})else none
  |_=>none
noncomputable def Pj(k:LK)(zero:T)(ok:Bool)(a:ag)(i:ag):dj:=fun C σ=>
 let get:=bC σ
 match get a with
  | .aQ s=>match σ.boxes[s]? with
   |some (some cs)=>(mc k (get i) cs).bind fun r=>match r with
    |some v=>some (if ok then .an [v,T.bool true]else v,σ)
    |none=>some (if ok then .an [zero,T.bool false]else zero,σ)
   |_=>none
  |_=>none
noncomputable def GL(k:LK)(a:ag)(i:ag)(x:ag):dj:=fun C σ=>
 let get:=bC σ
 match get a with
  | .aQ s=>match σ.boxes[s]? with
   |some (some cs)=>(sS k (get i) (get x) cs).map fun bW=>(.undef,{σ with boxes:=σ.boxes.set s (some bW)})
   |_=>none
  |_=>none
noncomputable def YF(a:ag):dj:=fun C σ=>
 let get:=bC σ
 match get a with
  | .aQ s=>match σ.boxes[s]? with
   |some (some cs)=>some (T.int (cs.length / 2:Nat),σ)
   |_=>none
  |_=>none
noncomputable def ac2(str:Bool)(a:ag):dj:=fun C σ=>
 let get:=bC σ
 (jo str (get a)).map (·,σ)
noncomputable def YG(d:Nat)(e:TypeId)(sz:Nat)(a:ag):dj:=fun C σ=>
 let get:=bC σ
 match get a with
  | .av s o n c=>
   if o=0∧(0< n∧c=n*sz∨n=0∧(c=0∨c=1+sz))∧n*sz≤((aj σ.boxes s).getD []).length∧bn (((aj σ.boxes s).getD []).take (n*sz))=true then
    some (.sl (.own (8*d) e) n (((aj σ.boxes s).getD []).take (n*sz)),lE (2*d) (σ.drop s))
   else none
  |t=>some (t,σ)
noncomputable def YH(a:ag):dj:=fun C σ=>
 let get:=bC σ
 match get a with
  | .sl .nil _ _=>some (T.int 0,σ)
  | .sl .clip n _=>some (T.int n,σ)
  | .av _ _ 0 0=>some (T.int 0,σ)
  |_=>none
noncomputable def Pk(mx:Bool)(as:List ag):dj:=fun C σ=>
 let get:=bC σ
 match as.map get with
  | .v (.int k x)::rest=>(ng mx x rest).map fun r=>(.v (.int k r),σ)
  |_=>none
noncomputable def YI(k:Nat)(a:ag):dj:=fun C σ=>
 let get:=bC σ
 match get a with
  | .v (.complex f re im)=>some (.v (.float f (if k=0 then re else im)),σ)
  |_=>none
noncomputable def YJ(a:ag)(b:ag):dj:=fun C σ=>
 let get:=bC σ
 match get a,get b with
  | .v (.float k re),.v (.float k' im)=>if k=k' then some (.v (.complex k re im),σ)else none
  |_,_=>none
noncomputable def YK(sz:Nat)(a:ag)(b:ag):dj:=fun C σ=>
 let get:=bC σ
  let src:Option (Nat×List T):=match get b with
   | .sl _ m ys=>some (m,ys)
   | .v (.string s)=>if sz=1 then some (s.size,s.data.toList.map fun(b:UInt8)=>T.u8 b.toNat)else none
   |_=>none
  match get a,src with
  | .av s o n _,some (m,ys)=>match σ.boxes[s]? with
   |some (some cs)=>
    if ys.length=m*sz∧o+n*sz≤cs.length∧0< n then some (T.int (min m n:Nat),{σ with boxes:=σ.boxes.set s (some (setCells cs o (ys.take (min m n*sz))))})else none
   |_=>none
  |_,_=>none
noncomputable def YL(d:Nat)(f:FuncId)(as:List ag):dj:=fun C σ=>
 let get:=bC σ
 I2 C σ d f (as.map get)
noncomputable def SV(d:Nat)(f:ag)(as:List ag):dj:=fun C σ=>
 let get:=bC σ
 match eC (get f)with
  |some (f,first,cap)=>I2 C σ d f (first++as.map get++cap)
  |none=>none
noncomputable def LX(d:Nat)(ad:List Nat)(f:FuncId)(as:List ag):dj:=fun C σ=>
 let get:=bC σ
 ae.dG C σ d ad f (as.map get)
noncomputable def Pm(d:Nat)(ad:List Nat)(f:FuncId)(as:List ag):dj:=fun C σ=>
 let get:=bC σ
 ae.eo C σ d ad f (as.map get)
noncomputable def LY(d:Nat)(ad:List Nat)(f:ag)(as:List ag):dj:=fun C σ=>
 let get:=bC σ
 match eC (get f)with
  |some (f,first,cap)=>ae.eo C σ d ad f (first++as.map get++cap)
  |none=>none
noncomputable def Pn(fn:Fn)(first:List ag)(cap:List ag):dj:=fun C σ=>
 let get:=bC σ
 some (.bB fn (first.map get) (cap.map get),σ)
noncomputable def I3(a:ag):dj:=fun C σ=>
 let get:=bC σ
 match get a with
  | .ref s o=>some (.ref s o,σ)
  | .ptr cs o=>some (.ptr cs o,σ)
  | .bB (.func f) a b=>some (.bB (.func f) a b,σ)
  | .v (.func (.func f) a b)=>some (.v (.func (.func f) a b),σ)
  |_=>none
noncomputable def ac3(t:TypeId)(a b:ag):dj:=fun _ σ=>(ib (fun x y=>fI (xK .i64 (x+y)) fun n=> .v (.int .i64 n)) (bO .add t) (bC σ a) (bC σ b)).map (·,σ)
noncomputable def ac4(t:TypeId)(a b:ag):dj:=fun _ σ=>(ib (fun x y=>fI (xK .i64 (x-y)) fun n=> .v (.int .i64 n)) (bO .sub t) (bC σ a) (bC σ b)).map (·,σ)
noncomputable def ac5(t:TypeId)(a b:ag):dj:=fun _ σ=>(ib (fun x y=>fI (xK .i64 (x*y)) fun n=> .v (.int .i64 n)) (bO .mul t) (bC σ a) (bC σ b)).map (·,σ)
noncomputable def ac6(t:TypeId)(a b:ag):dj:=fun _ σ=>(ib (fun x y=> .v (.bool (Dm x y))) (bO .lss t) (bC σ a) (bC σ b)).map (·,σ)
noncomputable def ac7(t:TypeId)(a b:ag):dj:=fun _ σ=>(ib (fun x y=> .v (.bool (Dm y x))) (bO .gtr t) (bC σ a) (bC σ b)).map (·,σ)
noncomputable def ac8(t:TypeId)(a b:ag):dj:=fun _ σ=>(ib (fun x y=> .v (.bool (!(Dm y x)))) (bO .leq t) (bC σ a) (bC σ b)).map (·,σ)
noncomputable def ac9(t:TypeId)(a b:ag):dj:=fun _ σ=>(ib (fun x y=> .v (.bool (!(Dm x y)))) (bO .geq t) (bC σ a) (bC σ b)).map (·,σ)
noncomputable def ada(t:TypeId)(a b:ag):dj:=fun _ σ=>(ib (fun x y=> .v (.bool (O5 x y))) (bO .eql t) (bC σ a) (bC σ b)).map (·,σ)
noncomputable def adb(t:TypeId)(a b:ag):dj:=fun _ σ=>(ib (fun x y=> .v (.bool (!(O5 x y)))) (bO .neq t) (bC σ a) (bC σ b)).map (·,σ)
noncomputable def ade(t:TypeId)(a b:ag):dj:=fun _ σ=>(abZ .rem t (bC σ a) (bC σ b)).map (·,σ)
noncomputable def Kg(op:BinOp)(t:TypeId)(a b:ag):dj:=match op with
 | .add=>ac3 t a b| .sub=>ac4 t a b| .mul=>ac5 t a b| .lss=>ac6 t a b| .gtr=>ac7 t a b| .leq=>ac8 t a b| .geq=>ac9 t a b
 | .eql=>ada t a b| .neq=>adb t a b| .rem=>ade t a b|op=>acY op t a b
theorem U4(op:BinOp)(t:TypeId)(a b:ag)(C:qT)(σ:St):Kg op t a b C σ=(bO op t (a.get σ) (b.get σ)).map (·,σ):=by
 unfold Kg
 split<;>simp only[ac3,ac4,ac5,ac6,ac7,ac8,ac9,ada,adb,ade,acY,Ka,aez]
 ·rw[xL fun x y=>by rw[UX,s7];rfl]
 ·rw[xL fun x y=>by rw[UX,s7];rfl]
 ·rw[xL fun x y=>by rw[UX,s7];rfl]
 ·rw[xL fun x y=>by rw[Bt];rfl]
 ·rw[xL fun x y=>by rw[Bt];rfl]
 ·rw[xL fun x y=>(Yx t x y).symm]
 ·rw[xL fun x y=>(Yy t x y).symm]
 ·rw[xL fun x y=>by rw[EN];rfl]
 ·rw[xL fun x y=>by rw[EN];rfl]
noncomputable def I5(o:IOp):dj:=
 match o with
 | .bin op t a b=>Kg op t a b
 | .mv a=>agJ a
 | .pick c a b=>YD c a b
 | .eqb neg a b=>acZ neg a b
 | .eqa neg ks a b=>ac0 neg ks a b
 | .eqnil neg a=>SE neg a
 | .un op a=>agK op a
 | .toInt k a=>SG k a
 | .toFloat k a=>LR k a
 | .toStr a=>SH a
 | .build zero parts=>SI zero parts
 | .field isAgg off n a=>SJ isAgg off n a
 | .indexA len sz isAgg a i=>O8 len sz isAgg a i
 | .indexS a i=>O9 a i
 | .extract a i=>LS a i
 | .alloc s zero=>SK s zero
 | .box s a=>ac1 s a
 | .load isAgg n a=>YE isAgg n a
 | .store n a b=>SM n a b
 | .faddr off a=>SO off a
 | .iaddrA len sz a i=>Pa len sz a i
 | .iaddrS sz a i=>Pb sz a i
 | .sliceS a lo hi=>Pc a lo hi
 | .sliceT sz a lo hi mx=>Pd sz a lo hi mx
 | .sliceA len sz a lo hi=>Pe len sz a lo hi
 | .arrOf len a=>SP len a
 | .mkSlice d e sz bytes zero n=>LU d e sz bytes zero n
 | .mkCap d e bytes n=>SQ d e bytes n
 | .mkBox s sz bytes zero n=>SS s sz bytes zero n
 | .bslice d e sz len zero parts=>Pf d e sz len zero parts
 | .bsliceB s sz len zero parts=>LV s sz len zero parts
 | .append d e sz bytes zero kind a b=>Pg d e sz bytes zero kind a b
 | .appendB s e sz bytes zero kind a b=>LW s e sz bytes zero kind a b
 | .clearS sz zero a=>Ph sz zero a
 | .mkMap s=>SU s
 | .lookup k zero ok a i=>Pj k zero ok a i
 | .mapUpdate k a i x=>GL k a i x
 | .lenM a=>YF a
 | .len str a=>ac2 str a
 | .thaw d e sz a=>YG d e sz a
 | .capS a=>YH a
 | .minMax mx as=>Pk mx as
 | .part k a=>YI k a
 | .cplx a b=>YJ a b
 | .copy sz a b=>YK sz a b
 | .call d f as=>YL d f as
 | .callv d f as=>SV d f as
 | .callnew d ad f as=>LX d ad f as
 | .callio d ad f as=>Pm d ad f as
 | .callvio d ad f as=>LY d ad f as
 | .mkFunc fn first cap=>Pn fn first cap
 | .nilCheck a=>I3 a
theorem YM(o:IOp)(C:qT)(σ:St):I5 o C σ=ae C σ o:=by
 cases o<;>simp only[I5,U4,agJ,YD,acZ,ac0,SE,agK,SG,LR,SH,SI,SJ,O8,O9,LS,SK,ac1,YE,SM,SO,Pa,Pb,Pc,Pd,Pe,SP,LU,SQ,SS,Pf,LV,Pg,LW,Ph,SU,Pj,GL,YF,ac2,YG,YH,Pk,YI,YJ,YK,YL,SV,LX,Pm,LY,Pn,I3,Ka,s7,LQ,IY,Rc,Kc,YC,ae]
 all_goals rfl
def IOp.adf:IOp→Bool
 | .append ..=>true
 | .bslice ..=>true
 | .mkSlice ..=>true
 | .sliceT ..=>true
 | .build ..=>true
 | .thaw ..=>true
 | .call ..=>true
 | .callv ..=>true
 | .callnew ..=>true
 | .callio ..=>true
 | .callvio ..=>true
 | .copy ..=>true
 |_=>false
noncomputable def s_q(op:dj)(rest:xc):xc:=fun C σ=>match op C σ with
 |some (t,az)=>MP az.rs t fun rs=>rest C ⟨rs,az.vars,az.boxes⟩
 |none=>none
noncomputable def agL(op:dj)(rest:xc):xc:=fun C σ=>match op C σ with
 |some (t,az)=>fMR t fun t=>MP az.rs t fun rs=>rest C ⟨rs,az.vars,az.boxes⟩
 |none=>none
noncomputable def Fy(o:IOp)(rest:xc):xc:=match o.adf with
 |false=>s_q (I5 o) rest
 |true=>agL (I5 o) rest
noncomputable def Kh(g:Nat×Bool)(one rest:xc):xc:=fun C σ=>match bR σ.rs (some g)with
 |some true=>one C σ
 |some false=>MP σ.rs T.bD fun rs=>rest C ⟨rs,σ.vars,σ.boxes⟩
 |none=>none
noncomputable def aj1:xc:=fun _ σ=>some σ
noncomputable def xY(l:List (Option (Nat×Bool)×IOp)):xc:=
 List.rec aj1 (fun x _ ih=>match x.1 with|none=>Fy x.2 ih|some g=>Kh g (Fy x.2 ih) ih) l
theorem Po(o:IOp)(rest:xc)(C:qT)(σ:St):Fy o rest C σ=(ae C σ o).bind fun p=>rest C {p.2 with rs:=p.2.rs++[p.1]}:=by
 unfold Fy
 cases o.adf<;>simp only[s_q,agL,YM,agI,Hq]<;>cases ae C σ o<;>rfl
theorem xM(C:qT):∀(l:List (Option (Nat×Bool)×IOp)) (σ:St),xY l C σ=eQ C σ l
 | [],σ=>rfl
 |(none,o)::rest,σ=>by
  show Fy o (xY rest) C σ=_
  rw[Po]
  simp only[eQ,bR,Option.bind_some,if_true]
  congr 1
  funext p
  exact xM C rest _
 |(some g,o)::rest,σ=>by
  show Kh g (Fy o (xY rest)) (xY rest) C σ=_
  unfold Kh
  simp only[eQ,Po,Hq]
  cases bR σ.rs (some g)with
  |none=>rfl
  |some b=>
   cases b with
   |false=>exact xM C rest _
   |true=>
    simp only[Option.bind_some,if_true]
    congr 1
    funext p
    exact xM C rest _
noncomputable def MQ{α:Type}(rs:List T)(vars:List T):List (Option Nat)→(List T→α)→α:=
 List.rec (fun _ k=>k []) (fun t _ ih os k=>match os with
  | []=>k []
  |o::os=>match o with
   |none=>ih os fun l=>k (t::l)
   |some j=>ih os fun l=>k (J8 rs j::l)) vars
theorem Ht{α:Type}(rs:List T):∀(vars:List T) (os:List (Option Nat)) (k:List T→α),MQ rs vars os k=k (fz rs vars os)
 | [],_,k=>by simp[MQ,fz]
 |t::ts,[],k=>by simp[MQ,fz]
 |t::ts,none::os,k=>(Ht rs ts os _).trans rfl
 |t::ts,some j::os,k=>by
  refine(Ht rs ts os fun l=>k (J8 rs j::l)).trans ?_
  rw[J9]
  rfl
noncomputable def agM:q8:=fun _ _ σ=>some (.norm σ)
noncomputable def s_reg(ops:xc)(outs:List (Option Nat)):q8:=fun C _ σ=>match ops C ⟨[],σ.vars,σ.boxes⟩with
 |some σ'=>MQ σ'.rs σ'.vars outs fun vars=>some (.norm ⟨[],vars,σ'.boxes⟩)
 |none=>none
noncomputable def U5(a b:q8):q8:=fun C N σ=>match a C N σ with
 |some o=>(match o with
  | .norm σ'=>b C N σ'
  | .exit j σ'=>some (.exit j σ')
  | .ret σ'=>some (.ret σ'))
 |none=>none
noncomputable def s_cond(c:ag)(a b:q8):q8:=fun C N σ=>match bC σ c with
 | .v (.bool t)=>(match t with|true=>a C N σ|false=>b C N σ)
 |_=>none
noncomputable def Ki(id:Nat)(a:q8):q8:=fun C N σ=>match a C N σ with
 |some o=>(match o with
  | .norm σ'=>some (.norm σ')
  | .exit j σ'=>bif Nat.beq j id then some (.norm σ')else some (.exit j σ')
  | .ret σ'=>some (.ret σ'))
 |none=>none
noncomputable def MR(f:St→Option Out)(N:Nat):St→Option Out:=Nat.rec (fun _=>none) (fun _ ih σ=>match f σ with
 |some o=>(match o with
  | .norm σ'=>ih σ'
  | .exit j σ'=>some (.exit j σ')
  | .ret σ'=>some (.ret σ'))
 |none=>none) N
noncomputable def agN(a:q8):q8:=fun C N σ=>MR (a C N) N σ
noncomputable def Hu(a:q8):q8:=fun C N σ=>match a C N σ with
 |some o=>(match o with
  | .norm σ'=>some (.norm σ')
  | .exit j σ'=>bif Nat.blt j cD then some (.exit j σ')else none
  | .ret σ'=>some (.ret σ'))
 |none=>none
noncomputable def Kj(id:Nat)(a b:q8):q8:=fun C N σ=>match a C N σ with
  |some (.exit j σ')=>if j=id then sk (b C N) id N σ' else if j< cD then some (.exit j σ')else none
  |o=>o
noncomputable def Kk(K:Nat)(g:ag)(ps:List Nat)(a b:q8):q8:=fun C N σ=>match eC (g.get σ)with
  |some (f,[],caps)=>
   let ss:=reach σ.boxes 10000 [] (eh caps)
   ((ai (fun s=>if ss.contains s then some s else none) (fun _=>none) caps).mapM (close (iS ss σ.boxes) 8)).bind fun cs=>
   match C (aq+f) [.an cs]with
   |some (.an ys)=>
    (lY (fun σ=>match a C N σ with
     |some (.norm az)=>b C N az
     |_=>none) K ps ys (ai (fun s=>if ss.contains s then none else some s) (fun _=>none) σ.vars) (xr ss σ.boxes)).map fun σ'=>
     .norm (if y8 ys&&ss.all (fun s=>dF σ'.boxes s)then {σ' with boxes:=o8 ss (iS ss σ.boxes) σ'.boxes}else σ')
   |_=>none
  |_=>none
noncomputable def s_exit(id:Nat):q8:=fun _ _ σ=>some (.exit id σ)
noncomputable def aj2:q8:=fun _ _ σ=>some (.ret σ)
noncomputable def Pp(vs:List Nat):q8:=fun _ _ σ=>fSp (ef vs σ.vars) fun vars=>some (.norm ⟨σ.rs,vars,σ.boxes⟩)
noncomputable def Pq(ss:List Nat):q8:=fun _ _ σ=>match cB ss σ with
  |some σ=>some (.norm σ)
  |none=>none
noncomputable def mL(c:IC):q8:=
 IC.rec (motive:=fun _=>q8) agM (fun r=>s_reg (xY r.ops) r.outs) (fun _ _ a b=>U5 a b) (fun c _ _ a b=>s_cond c a b) (fun id _ a=>Ki id a) (fun _ a=>agN a)
  (fun id _ _ a b=>Kj id a b) (fun _ a=>Hu a) (fun K g ps _ _ a b=>Kk K g ps a b) (fun id=>s_exit id) aj2 (fun vs=>Pp vs) (fun ss=>Pq ss) c
theorem Pr(f:St→Option Out):∀(N:Nat) (σ:St),MR f N σ=o7 f N σ
 |0,σ=>rfl
 |n+1,σ=>by
  show(match f σ with
   |some o=>(match o with
    | .norm σ'=>MR f n σ'
    | .exit j σ'=>some (.exit j σ')
    | .ret σ'=>some (.ret σ'))
   |none=>none)=_
  simp only[o7,Pr f n]
  cases f σ with
  |none=>rfl
  |some o=>cases o<;>rfl
theorem aeA(j id:Nat){α:Type}(x y:α):(bif Nat.beq j id then x else y)=if j=id then x else y:=by
 by_cases h:j=id
 ·rw[if_pos h,h];simp
 ·rw[if_neg h]
  have:Nat.beq j id=false:=by
   cases hb:Nat.beq j id with
   |false=>rfl
   |true=>exact absurd (Nat.eq_of_beq_eq_true hb) h
  rw[this];rfl
theorem aeB(j id:Nat){α:Type}(x y:α):(bif Nat.blt j id then x else y)=if j< id then x else y:=by
 by_cases h:j< id
 ·rw[if_pos h,show Nat.blt j id=true from by simp[Nat.blt];omega];rfl
 ·rw[if_neg h]
  have:Nat.blt j id=false:=by
   cases hb:Nat.blt j id with
   |false=>rfl
   |true=>exact absurd (by simp[Nat.blt]at hb;omega) h
  rw[this];rfl
theorem iF(C:qT)(N:Nat):∀(c:IC),mL c C N=exec C N c
 | .skip=>rfl
 | .Az r=>by
  funext σ
  show s_reg (xY r.ops) r.outs C N σ=_
  simp only[s_reg,exec,vK,xM,Ht]
  cases eQ C {σ with rs:=[]} r.ops<;>rfl
 | .seq a b=>by
  funext σ
  show U5 (mL a) (mL b) C N σ=_
  simp only[U5,exec,iF C N a,iF C N b]
  cases exec C N a σ with
  |none=>rfl
  |some o=>cases o<;>rfl
 | .cond c a b=>by
  funext σ
  show s_cond c (mL a) (mL b) C N σ=_
  simp only[s_cond,exec,iF C N a,iF C N b,Ka]
  generalize c.get σ=t
  cases t with
  |v x=>cases x with
   |bool b=>cases b<;>rfl
   |_=>rfl
  |_=>rfl
 | .block id a=>by
  funext σ
  show Ki id (mL a) C N σ=_
  simp only[Ki,exec,iF C N a,aeA]
  cases exec C N a σ with
  |none=>rfl
  |some o=>cases o<;>rfl
 | .loop a=>by
  funext σ
  show MR (mL a C N) N σ=_
  rw[Pr,iF C N a]
  rfl
 | .kz a=>by
  funext σ
  show Hu (mL a) C N σ=_
  simp only[Hu,exec,iF C N a,aeB]
  cases exec C N a σ with
  |none=>rfl
  |some o=>cases o<;>rfl
 | .jumps id a b=>by
  funext σ
  show Kj id (mL a) (mL b) C N σ=_
  simp only[Kj,exec,iF C N a,iF C N b]
  rfl
 | .range K g ps a b=>by
  funext σ
  show Kk K g ps (mL a) (mL b) C N σ=_
  simp only[Kk,exec,iF C N a,iF C N b]
  rfl
 | .exit id=>rfl
 | .ret=>rfl
 | .kill vs=>by
  funext σ
  show Pp vs C N σ=_
  simp only[Pp,exec,O6]
 | .free ss=>by
  funext σ
  show Pq ss C N σ=_
  simp only[Pq,exec]
  cases cB ss σ<;>rfl
noncomputable def I6(C:qT)(N:Nat)(fn:aD)(args:List T):Option T:=
 if args.length=fn.nparams then
  match mL fn.body C N ⟨[],args++List.replicate (fn.jZ-fn.nparams) .undef,List.replicate (2*fn.ez) none⟩with
  |some (.norm σ)|some (.ret σ)=>(c9 σ fn.results fn.canon).bind (Fx σ.boxes)
  |_=>none
 else none
theorem LZ:I6=sm:=by
 funext C N fn args
 have:Fx=j2:=funext fun bx=>funext (U3 bx)
 simp only[I6,sm,iF,this]
 rfl
noncomputable def Ps(C:qT)(N:Nat)(fn:aD)(args:List T)(ins:List (Option (List T))):Option T:=
 let nb:=2*fn.ez
 if args.length=fn.nparams∧ins.length%2=0 then
  match mL fn.body C N ⟨[],(args.map (T.al (fun l=>some (l+nb)) some))++List.replicate (fn.jZ-fn.nparams) .undef,
    List.replicate nb none++ins.map (Option.map (ai (fun l=>some (l+nb)) some))⟩with
  |some (.norm σ)|some (.ret σ)=>(c9 σ fn.results fn.canon).map (fJ nb (ins.length / 2) σ.boxes)
  |_=>none
 else none
theorem YN:Ps=na:=by
 funext C N fn args ins
 simp only[Ps,na,iF]
 rfl
noncomputable def Fz(E:Env):Nat→FuncId→List T→Option T
 |0,_,_=>none
 |n+1,f,args=>fML args fun args=>match E.kJ f with
  |some g=>g args
  |none=>if f< aq then(match E.fn f with
    |some fn=>iT fn.split args (I6 (Fz E n) n fn)
    |none=>none)
   else(match E.fn (f-aq),args with
    |some fn,[.an as,.an ins]=>iT fn.split as fun as=>Ps (Fz E n) n fn as (ins.map er)
    |some fn,[.an caps]=>(rz (Fz E n) n 0 fn caps).map fun ys=> .an (ys.map .an)
    |_,_=>none)
theorem Pt(E:Env):∀n,Fz E n=aW E n
 |0=>rfl
 |n+1=>by
  funext f args
  simp only[Fz,aW,Pt E n,O7,LZ,YN]
  cases E.kJ f<;>rfl
end Go.Vi
end
