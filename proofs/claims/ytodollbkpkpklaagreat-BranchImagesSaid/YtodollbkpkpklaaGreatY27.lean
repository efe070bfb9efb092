/-
  A claim's own text, joined by a small program out of: VjK3.
-/
import Derived.Test.YtodollbkpkpklaaGreatY1
set_option linter.unusedVariables false
set_option linter.unusedSimpArgs false
section
namespace Go.Vi
open Go
def fN{α:Type}(m:Nat)(k:Nat→α):α:=match m with|0=>k 0|n+1=>k (n+1)
theorem Vc{α:Type}(m:Nat)(k:Nat→α):fN m k=k m:=by cases m<;>rfl
def fI{α:Type}(n:Int)(k:Int→α):α:=match n with| .ofNat m=>fN m fun m=>k (.ofNat m)| .negSucc m=>fN m fun m=>k (.negSucc m)
theorem Vd{α:Type}(n:Int)(k:Int→α):fI n k=k n:=by cases n<;>simp[fI,Vc]
def acj{α:Type}(g:Tag)(k:Tag→α):α:=match g with| .nil=>k .nil| .any=>k .any| .l9=>k .l9| .clip=>k .clip| .own i e=>fN i fun i=>k (.own i e)
theorem ae2{α:Type}(g:Tag)(k:Tag→α):acj g k=k g:=by cases g<;>simp[acj,Vc]
noncomputable def Ni{α:Type}(l:List T)(t:T):(List T→α)→α:=List.rec (fun k=>k [t]) (fun x _ ih k=>ih fun l=>k (x::l)) l
theorem HP{α:Type}:∀(l:List T) (t:T) (k:List T→α),Ni l t k=k (l++[t])
 | [],t,k=>rfl
 |x::xs,t,k=>HP xs t _
theorem SW(n:Int)(h1: -9223372036854775808≤n)(h2:n≤9223372036854775807):n=IntKind.i64.wrap n:=by
 rw[IntKind.wrap_i64]
 omega
theorem ahh(n:Int)(h1:0≤n)(h2:n≤255):n=IntKind.u8.wrap n:=by
 have h8:(2^IntKind.u8.bits:Int)=256:=by decide
 unfold IntKind.wrap
 simp only[h8,show IntKind.u8.signed=false from rfl,Bool.false_and,Bool.false_eq_true,if_false]
 omega
theorem Kt(m b:Nat)(h:Nat.ble m b=true):(m:Int)≤b:=by
 have:=Nat.le_of_ble_eq_true h
 omega
theorem ae3(m:Nat)(h:(m:Int)≤9223372036854775807): -9223372036854775808≤Int.negSucc m∧Int.negSucc m≤9223372036854775807:=by
 rw[Int.negSucc_eq];omega
def Ku(m:Nat):Int:=bif Nat.ble m 9223372036854775807 then .ofNat m else IntKind.i64.wrap (.ofNat m)
theorem Ve(m:Nat):Ku m=IntKind.i64.wrap (.ofNat m):=by
 unfold Ku
 generalize hb:Nat.ble m 9223372036854775807=b
 cases b with
 |false=>exact cond_false _ _
 |true=>exact(cond_true _ _).trans (SW _ (by simp only[Int.ofNat_eq_natCast];omega) (Kt m 9223372036854775807 hb))
def Kv(m:Nat):Int:=bif Nat.ble m 9223372036854775807 then .negSucc m else IntKind.i64.wrap (.negSucc m)
theorem Vf(m:Nat):Kv m=IntKind.i64.wrap (.negSucc m):=by
 unfold Kv
 generalize hb:Nat.ble m 9223372036854775807=b
 cases b with
 |false=>exact cond_false _ _
 |true=>
  have:=ae3 m (Kt m 9223372036854775807 hb)
  exact(cond_true _ _).trans (SW _ this.1 this.2)
def Pp(m:Nat):Int:=bif Nat.ble m 255 then .ofNat m else IntKind.u8.wrap (.ofNat m)
theorem YM(m:Nat):Pp m=IntKind.u8.wrap (.ofNat m):=by
 unfold Pp
 generalize hb:Nat.ble m 255=b
 cases b with
 |false=>exact cond_false _ _
 |true=>exact(cond_true _ _).trans (ahh _ (by simp only[Int.ofNat_eq_natCast];omega) (Kt m 255 hb))
def yh(k:IntKind)(n:Int):Int:=match k with
 | .i64=>(match n with| .ofNat m=>Ku m| .negSucc m=>Kv m)
 | .u8=>(match n with| .ofNat m=>Pp m| .negSucc m=>IntKind.u8.wrap (.negSucc m))
 |k=>k.wrap n
theorem tC(k:IntKind)(n:Int):yh k n=k.wrap n:=by
 unfold yh
 split
 ·split
  ·exact Ve _
  ·exact Vf _
 ·split
  ·exact YM _
  ·exact Eq.refl _
 ·exact Eq.refl _
def DR(x y:Int):Bool:=match x with
 | .ofNat a=>(match y with| .ofNat b=>Nat.blt a b| .negSucc _=>false)
 | .negSucc a=>(match y with| .ofNat _=>true| .negSucc b=>Nat.blt b a)
theorem BX(x y:Int):DR x y=decide (x< y):=by
 cases x<;>cases y<;>simp only[DR]
 ·rw[Bool.eq_iff_iff];simp[Nat.blt];omega
 ·rw[Bool.eq_iff_iff];simp;omega
 ·rw[Bool.eq_iff_iff];simp;omega
 ·rw[Bool.eq_iff_iff];simp[Nat.blt];omega
def Pq(x y:Int):Bool:=match x with
 | .ofNat a=>(match y with| .ofNat b=>Nat.beq a b| .negSucc _=>false)
 | .negSucc a=>(match y with| .ofNat _=>false| .negSucc b=>Nat.beq a b)
theorem Fk(x y:Int):Pq x y=(x==y):=by
 cases x<;>cases y<;>simp only[Pq]
 ·rw[Bool.eq_iff_iff];simp only[Nat.beq_eq,beq_iff_eq,Int.ofNat_eq_natCast];omega
 ·rw[Bool.eq_iff_iff];simp
 ·rw[Bool.eq_iff_iff];simp
 ·rw[Bool.eq_iff_iff];simp
def ack(t:TypeId)(x y:Int):Option T:=match x with
 | .ofNat a=>(match y with
  | .ofNat b=>(match b with
   |b+1=>some (.v (.int .i64 (.ofNat (a%(b+1)))))
   |0=>bM .rem t (.v (.int .i64 x)) (.v (.int .i64 y)))
  |y=>bM .rem t (.v (.int .i64 x)) (.v (.int .i64 y)))
 |x=>bM .rem t (.v (.int .i64 x)) (.v (.int .i64 y))
theorem ae4(t:TypeId)(x y:Int):ack t x y=bM .rem t (.v (.int .i64 x)) (.v (.int .i64 y)):=by
 unfold ack
 split
 ·split
  ·split
   ·rfl
   ·rfl
  ·rfl
 ·rfl
def ib(f:Int→Int→T)(d:T→T→Option T)(a b:T):Option T:=match a with
 | .v (.int .i64 x)=>(match b with
  | .v (.int .i64 y)=>some (f x y)
  |b=>d (.v (.int .i64 x)) b)
 |a=>d a b
theorem yi{f:Int→Int→T}{d:T→T→Option T}(h:∀x y,d (.v (.int .i64 x)) (.v (.int .i64 y))=some (f x y))(a b:T):ib f d a b=d a b:=by
 unfold ib
 split
 ·split
  ·exact(h _ _).symm
  ·rfl
 ·rfl
def acm(op:BinOp)(t:TypeId)(a b:T):Option T:=match a with
 | .v (.int .i64 x)=>(match b with
  | .v (.int .i64 y)=>(match op with
   | .add=>some (.v (.int .i64 (yh .i64 (x+y))))
   | .sub=>some (.v (.int .i64 (yh .i64 (x-y))))
   | .mul=>some (.v (.int .i64 (yh .i64 (x*y))))
   | .lss=>some (.v (.bool (DR x y)))
   | .gtr=>some (.v (.bool (DR y x)))
   | .leq=>some (.v (.bool (!(DR y x))))
   | .geq=>some (.v (.bool (!(DR x y))))
   | .eql=>some (.v (.bool (Pq x y)))
   | .neq=>some (.v (.bool (!(Pq x y))))
   | .rem=>ack t x y
   |op=>bM op t (.v (.int .i64 x)) (.v (.int .i64 y)))
  |b=>bM op t (.v (.int .i64 x)) b)
 |a=>bM op t a b
theorem YN(t:TypeId)(x y:Int):some (T.v (.bool (!(DR y x))))=bM .leq t (.v (.int .i64 x)) (.v (.int .i64 y)):=by
 rw[BX]
 have:bM .leq t (.v (.int .i64 x)) (.v (.int .i64 y))=some (T.v (.bool (decide (x≤y)))):=rfl
 rw[this]
 congr 3
 rw[Bool.eq_iff_iff];simp
theorem YO(t:TypeId)(x y:Int):some (T.v (.bool (!(DR x y))))=bM .geq t (.v (.int .i64 x)) (.v (.int .i64 y)):=by
 rw[BX]
 have:bM .geq t (.v (.int .i64 x)) (.v (.int .i64 y))=some (T.v (.bool (decide (y≤x)))):=rfl
 rw[this]
 congr 3
 rw[Bool.eq_iff_iff];simp
theorem ae5(op:BinOp)(t:TypeId)(a b:T):acm op t a b=bM op t a b:=by
 unfold acm
 split
 ·split
  ·rename_i x y
   split
   ·rw[tC];rfl
   ·rw[tC];rfl
   ·rw[tC];rfl
   ·rw[BX];rfl
   ·rw[BX];rfl
   ·exact YN t _ _
   ·exact YO t _ _
   ·rw[Fk];rfl
   ·rw[Fk];rfl
   ·exact ae4 ..
   ·rfl
  ·rfl
 ·rfl
noncomputable def Kw(l:List T):Nat→T:=List.rec (fun _=> .undef) (fun t _ ih n=>Nat.rec t (fun m _=>ih m) n) l
theorem Kx:∀(l:List T) (n:Nat),Kw l n=l.getD n .undef
 | [],n=>by simp[Kw]
 |t::ts,0=>rfl
 |t::ts,n+1=>(Kx ts n).trans (by simp)
noncomputable def bH(σ:St)(o:ag):T:=match o with
 | .r i=>Kw σ.rs i
 | .x i=>Kw σ.vars i
 | .c t=>t
theorem Ky(σ:St):bH σ=ag.get σ:=by
 funext o
 cases o<;>simp[bH,ag.get,Kx]
noncomputable def fSp{α:Type}(l:List T):(List T→α)→α:=List.rec (fun k=>k []) (fun t _ ih k=>ih fun ts=>k (t::ts)) l
theorem Pr{α:Type}:∀(l:List T) (k:List T→α),fSp l k=k l
 | [],k=>rfl
 |t::ts,k=>Pr ts fun ts=>k (t::ts)
noncomputable def fM{α:Type}(t:T)(k:T→α):α:=match t with
 | .sl g n cs=>acj g fun g=>fN n fun n=>fSp cs fun cs=>k (.sl g n cs)
 | .agg cs=>fSp cs fun cs=>k (.agg cs)
 | .v x=>k (.v x)
 |t=>k t
theorem adr{α:Type}(t:T)(k:T→α):fM t k=k t:=by cases t<;>simp[fM,ae2,Vc,Pr]
noncomputable def fML{α:Type}(l:List T):(List T→α)→α:=List.rec (fun k=>k []) (fun t _ ih k=>fM t fun t=>ih fun ts=>k (t::ts)) l
theorem Ps{α:Type}:∀(l:List T) (k:List T→α),fML l k=k l
 | [],k=>rfl
 |t::ts,k=>(adr t (fun t=>fML ts fun ts=>k (t::ts))).trans (Ps ts fun ts=>k (t::ts))
noncomputable def fMR{α:Type}(t:T)(k:T→α):α:=match t with
 | .al cs=>fML cs fun cs=>k (.al cs)
 |t=>fM t k
theorem ahi{α:Type}(t:T)(k:T→α):fMR t k=k t:=by cases t<;>simp[fMR,adr,Ps]
def Kz(t:T):Bool:=match t with
 | .v _=>true
 | .ref ..=>false
 | .au ..=>false
 | .sl g _ _=>(match g with| .own _ _=>false|_=>true)
 |t=>t.closed
theorem Jn:Kz=T.closed:=by
 funext t
 cases t<;>try rfl
 rename_i g n cs
 cases g<;>rfl
noncomputable def Vg(f:T→Bool)(l:List T):Bool:=List.rec true (fun t _ ih=>match f t with|true=>ih|false=>false) l
theorem KA(f:T→Bool):∀l,Vg f l=l.all f
 | []=>rfl
 |t::ts=>by
  show(match f t with|true=>Vg f ts|false=>false)=_
  rw[List.all_cons,KA f ts]
  cases f t<;>rfl
noncomputable def HQ(l:List T):Bool:=Vg Kz l
theorem Ru(l:List T):HQ l=bj l:=by
 unfold HQ
 rw[KA,Jn]
 induction l with
 |nil=>rfl
 |cons t ts ih=>simp only[List.all_cons,bj,ih]
def Jo(d:Nat)(t:T):T:=match t with
 | .v x=> .v x
 | .sl g n cs=>(match g with| .own k e=> .sl (bif hit d k then .any else .own k e) n cs|g=> .sl g n cs)
 | .au s o n c=> .au s o n c
 | .ref s o=> .ref s o
 |t=>t.strip d
theorem YP(d:Nat)(t:T):Jo d t=t.strip d:=by
 cases t<;>try rfl
 rename_i g n cs
 cases g<;>try rfl
 simp only[Jo,T.strip]
 rename_i k e
 cases hit d k<;>rfl
noncomputable def yA(d:Nat)(l:List T):List T:=List.rec [] (fun t _ ih=>Jo d t::ih) l
theorem Jp(d:Nat):∀l,yA d l=stripL d l
 | []=>rfl
 |t::ts=>by
  show Jo d t::yA d ts=_
  rw[YP,Jp d ts]
  rfl
noncomputable def l4(d:Nat)(σ:St):St:=⟨yA d σ.rs,yA d σ.vars,σ.boxes.map (Option.map (yA d))⟩
theorem Mh(d:Nat)(σ:St):l4 d σ=σ.strip d:=by
 have:yA d=stripL d:=funext (Jp d)
 simp only[l4,St.strip,this]
def KB(d:Nat)(t:T):T:=match t with
 | .v x=> .v x
 | .sl g n cs=>(match g with| .own k e=> .sl (if k< 8 then .own (8*d+k) e else .any) n cs|g=> .sl g n cs)
 |t=>t.import d
theorem Vh(d:Nat)(t:T):KB d t=t.import d:=by
 cases t<;>try rfl
 rename_i g n cs
 cases g<;>rfl
def YQ(bx:List (Option (List T)))(t:T)(ih:Option (List T)):Option (List T):=match t with
 | .v x=>(match ih with|some l=>some (.v x::l)|none=>none)
 | .sl _ n cs=>(match ih with|some l=>some (.sl .any n cs::l)|none=>none)
 |t=>(match close bx 6 t with|some u=>(match ih with|some l=>some (u::l)|none=>none)|none=>none)
theorem YS(bx:List (Option (List T)))(t:T)(ih:Option (List T)):YQ bx t ih=(close bx 6 t).bind fun u=>ih.bind fun l=>some (u::l):=by
 have gen:∀o:Option T,(match o with|some u=>(match ih with|some l=>some (u::l)|none=>none)|none=>none)=o.bind fun u=>ih.bind fun l=>some (u::l):=fun o=>by
  cases o with
  |none=>rfl
  |some u=>cases ih<;>rfl
 cases t with
 |v x=>cases ih<;>rfl
 |sl g n cs=>cases ih<;>rfl
 |undef=>exact gen (close bx 6 .undef)
 |ptr a b=>exact gen (close bx 6 (.ptr a b))
 |ref a b=>exact gen (close bx 6 (.ref a b))
 |au a b c d=>exact gen (close bx 6 (.au a b c d))
 |aQ a=>exact gen (close bx 6 (.aQ a))
 |agg a=>exact gen (close bx 6 (.agg a))
 |al a=>exact gen (close bx 6 (.al a))
 |bq a b c=>exact gen (close bx 6 (.bq a b c))
noncomputable def KC(bx:List (Option (List T)))(l:List T):Option (List T):=List.rec (some []) (fun t _ ih=>YQ bx t ih) l
theorem Jq(bx:List (Option (List T))):∀l,KC bx l=l.mapM (close bx 6)
 | []=>rfl
 |t::ts=>by
  rw[List.mapM_cons,←Jq bx ts]
  exact YS bx t (KC bx ts)
def KD(t:T):Bool:=match t with
 | .v _=>false
 | .sl ..=>false
 |t=>t.aU
theorem Vj(t:T):KD t=t.aU:=by cases t<;>rfl
noncomputable def HR(l:List T):Bool:=List.rec false (fun t _ ih=>match KD t with|true=>true|false=>ih) l
theorem G9:∀l,HR l=aZ l
 | []=>rfl
 |t::ts=>by
  show(match KD t with|true=>true|false=>HR ts)=_
  rw[Vj,G9 ts]
  simp only[aZ]
  cases t.aU<;>rfl
noncomputable def Jr(C:FuncId→List T→Option T)(σ:St)(d:Nat)(f:FuncId)(as:List T):Option (T×St):=
 match KC σ.boxes as with
 |some cs=>(match ue C f cs with
  |some r=>(match HR as with
   |true=>if !r.fresh then none else some (KB d r,l4 (2*d) σ)
   |false=>some (KB d r,l4 (2*d) σ))
  |none=>none)
 |none=>none
theorem YT(C:FuncId→List T→Option T)(σ:St)(d:Nat)(f:FuncId)(as:List T):Jr C σ d f as=ae.cW C σ d f as:=by
 unfold Jr ae.cW
 rw[Jq,G9]
 cases as.mapM (close σ.boxes 6)with
 |none=>rfl
 |some cs=>
  simp only[Option.bind_eq_bind,Option.bind_some]
  cases ue C f cs with
  |none=>rfl
  |some r=>
   simp only[Option.bind_some,Vh,Mh]
   cases aZ as with
   |false=>rfl
   |true=>simp only[Bool.true_and]
noncomputable def F4(bx:List (Option (List T)))(t:T):Option T:=match t with
 | .v x=>some (.v x)
 | .sl g n cs=>(match g with| .own _ e=>some (.sl (.own 0 e) n cs)|g=>some (.sl g n cs))
 |t=>kp bx t
theorem Vk(bx:List (Option (List T)))(t:T):F4 bx t=kp bx t:=by
 cases t<;>try rfl
 rename_i g n cs
 cases g with
 |own k e=>
  have:List.idxOf? k [k]=some 0:=by simp[List.idxOf?,List.findIdx?_cons]
  simp[F4,kp,T.aU,T.eO,T.aj,this]
 |_=>rfl
abbrev rh:=FuncId→List T→Option T
abbrev dn:=rh→St→Option (T×St)
abbrev xM:=rh→St→Option St
abbrev ry:=rh→Nat→St→Option Out
noncomputable def ahj(a:ag):dn:=fun C σ=>
 let get:=bH σ
 some (get a,σ)
noncomputable def YU(c:ag)(a:ag)(b:ag):dn:=fun C σ=>
 let get:=bH σ
 match get c with| .v (.bool t)=>some (if t then get a else get b,σ)|_=>none
noncomputable def ads(op:BinOp)(t:TypeId)(a:ag)(b:ag):dn:=fun C σ=>
 let get:=bH σ
 (bM op t (get a) (get b)).map (·,σ)
noncomputable def adt(neg:Bool)(a:ag)(b:ag):dn:=fun C σ=>
 let get:=bH σ
 match get a,get b with| .v (.bool x),.v (.bool y)=>some (T.bool ((x==y) !=neg),σ)|_,_=>none
noncomputable def adu(neg:Bool)(ks:List LK)(a:ag)(b:ag):dn:=fun C σ=>
 let get:=bH σ
 match get a,get b with
  | .agg xs,.agg ys=>(cw ks xs ys).map fun e=>(T.bool (e !=neg),σ)
  |_,_=>none
noncomputable def SX(neg:Bool)(a:ag):dn:=fun C σ=>
 let get:=bH σ
 match get a with
  | .sl .nil _ _=>some (T.bool (!neg),σ)
  | .sl .l9 _ _=>some (T.bool neg,σ)
  | .sl _ n _=>if 0< n then some (T.bool neg,σ)else none
  | .au _ _ n _=>if 0< n then some (T.bool neg,σ)else none
  |_=>none
noncomputable def ahk(op:UnOp)(a:ag):dn:=fun C σ=>
 let get:=bH σ
 match get a with| .v x=>(gn (Op.unary op x)).map fun y=>(.v y,σ)|_=>none
noncomputable def SY(k:IntKind)(a:ag):dn:=fun C σ=>
 let get:=bH σ
 match get a with
  | .v (.int _ n)=>some (.v (.int k (yh k n)),σ)
  | .v (.float s b)=>(gn (Conv.floatToInt s b k)).map fun y=>(.v y,σ)
  |_=>none
noncomputable def Mi(k:FloatKind)(a:ag):dn:=fun C σ=>
 let get:=bH σ
 match get a with| .v (.int _ n)=>some (.v (.float k (k.nearest n)),σ)|_=>none
noncomputable def SZ(a:ag):dn:=fun C σ=>
 let get:=bH σ
 match get a with
  | .sl _ n cs=>if n=cs.length then(bytesOf cs).map fun b=>(.str ⟨b.toArray⟩,σ)else none
  |_=>none
noncomputable def S1(zero:List T)(parts:List (Nat×Nat×ag)):dn:=fun C σ=>
 let get:=bH σ
 (df get zero parts).map fun cs=>(.agg cs,σ)
noncomputable def S4(isAgg:Bool)(off:Nat)(n:Nat)(a:ag):dn:=fun C σ=>
 let get:=bH σ
 match get a with| .agg cs=>(one? isAgg n cs off).map (·,σ)|_=>none
noncomputable def Pt(len:Nat)(sz:Nat)(isAgg:Bool)(a:ag)(i:ag):dn:=fun C σ=>
 let get:=bH σ
 match get a,asNat (get i)with
  | .agg cs,some i=>if i< len then(one? isAgg sz cs (i*sz)).map (·,σ)else none
  |_,_=>none
noncomputable def Pu(a:ag)(i:ag):dn:=fun C σ=>
 let get:=bH σ
 match get a,asNat (get i)with
  | .v (.string s),some i=>(s.data[i]?).map fun b=>(.u8 b.toNat,σ)
  |_,_=>none
noncomputable def Mj(a:ag)(i:Nat):dn:=fun C σ=>
 let get:=bH σ
 match get a with| .al ts=>(ts[i]?).map (·,σ)|_=>none
noncomputable def S6(s:Nat)(zero:List T):dn:=fun C σ=>
 let get:=bH σ
 match σ.boxes[s]? with
  |some none=>if s%2=0 then some (T.ref s 0,{σ with boxes:=σ.boxes.set s (some zero)})else none
  |_=>none
noncomputable def adv(s:Nat)(a:ag):dn:=fun C σ=>
 let get:=bH σ
 match σ.boxes[s]?,cellsOf (get a)with
  |some none,some cs=>if cs.all T.one∧s%2=0 then some (T.ref s 0,{σ with boxes:=σ.boxes.set s (some cs)})else none
  |_,_=>none
noncomputable def YV(isAgg:Bool)(n:Nat)(a:ag):dn:=fun C σ=>
 let get:=bH σ
 match get a with
  | .ref s off=>match σ.boxes[s]? with
   |some (some cs)=>(one? isAgg n cs off).map (·,σ)
   |_=>none
  | .ptr cs off=>((one? isAgg n cs off).filter Kz).map (·,σ)
  |_=>none
noncomputable def S7(n:Nat)(a:ag)(b:ag):dn:=fun C σ=>
 let get:=bH σ
 match get a,cellsOf (get b)with
  | .ref s off,some ns=>match σ.boxes[s]? with
   |some (some cs)=>if ns.length=n∧off+n≤cs.length∧Vg T.one ns then some (.undef,{σ with boxes:=σ.boxes.set s (some (setCells cs off ns))})else none
   |_=>none
  |_,_=>none
noncomputable def S8(off:Nat)(a:ag):dn:=fun C σ=>
 let get:=bH σ
 match get a with
  | .ref s o=>some (.ref s (o+off),σ)
  | .ptr cs o=>some (.ptr cs (o+off),σ)
  |_=>none
noncomputable def Pv(len:Nat)(sz:Nat)(a:ag)(i:ag):dn:=fun C σ=>
 let get:=bH σ
 match get a,asNat (get i)with
  | .ref s o,some i=>if i< len then some (.ref s (o+i*sz),σ)else none
  | .ptr cs o,some i=>if i< len then some (.ptr cs (o+i*sz),σ)else none
  |_,_=>none
noncomputable def Pw(sz:Nat)(a:ag)(i:ag):dn:=fun C σ=>
 let get:=bH σ
 match get a,asNat (get i)with
  | .sl _ n cs,some i=>if i< n then some (.ptr cs (i*sz),σ)else none
  | .au s o n _,some i=>if i< n then some (.ref s (o+i*sz),σ)else none
  |_,_=>none
noncomputable def Px(a:ag)(lo:Option ag)(hi:Option ag):dn:=fun C σ=>
 let get:=bH σ
 match get a with
  | .v (.string s)=>do
   let h←av get s.size hi
   let l←av get 0 lo
   if l≤h∧h≤s.size then some (.str (s.extract l h),σ)else none
  |_=>none
noncomputable def Py(sz:Nat)(a:ag)(lo:Option ag)(hi:Option ag)(mx:Option ag):dn:=fun C σ=>
 let get:=bH σ
 match get a with
  | .sl g n cs=>do
   let h←av get n hi
   let l←av get 0 lo
   let m←av get n mx
   if l≤h∧h≤m∧m≤n then some (.sl (if g= .nil then .nil else if mx.isSome∧h=m then .clip else .any) (h-l) ((cs.drop (l*sz)).take ((h-l)*sz)),σ)
   else none
  | .au s o n c=>do
   let h←av get n hi
   let l←av get 0 lo
   let m←av get n mx
   if l≤h∧h≤m∧m≤n∧(n=0∨n*sz=c)then some (.au s (o+l*sz) (h-l) (if h=l then(if n=0 then c else 1+sz)else(h-l)*sz),σ)else none
  |_=>none
noncomputable def Pz(len:Nat)(sz:Nat)(a:ag)(lo:Option ag)(hi:Option ag):dn:=fun C σ=>
 let get:=bH σ
 match get a with
  | .ref s o=>do
   let h←av get len hi
   let l←av get 0 lo
   match σ.boxes[s]? with
   |some (some cs)=>if l≤h∧h≤len∧o+len*sz≤cs.length then some (.au s (o+l*sz) (h-l) (if h=l then 1 else(h-l)*sz),σ)else none
   |_=>none
  |_=>none
noncomputable def S9(len:Nat)(a:ag):dn:=fun C σ=>
 let get:=bH σ
 match get a with
  | .au s o n _=>if len≤n∧0< n then some (.ref s o,σ)else none
  | .sl _ n cs=>if len≤n∧0< n then some (.ptr cs 0,σ)else none
  |_=>none
noncomputable def Mk(d:Nat)(e:TypeId)(sz:Nat)(bytes:Nat)(zero:List T)(n:ag):dn:=fun C σ=>
 let get:=bH σ
 match asNat (get n)with
  |some n=>if n*bytes≤room∧n≤room then some (.sl (.own (8*d) e) n (List.replicate n zero).flatten,l4 (2*d) σ)else none
  |none=>none
noncomputable def Ta(d:Nat)(e:TypeId)(bytes:Nat)(n:ag):dn:=fun C σ=>
 let get:=bH σ
 match asNat (get n)with
  |some n=>if n*bytes≤room∧n≤room then some (.sl (.own (8*d) e) 0 [],l4 (2*d) σ)else none
  |none=>none
noncomputable def Tb(s:Nat)(sz:Nat)(bytes:Nat)(zero:List T)(n:ag):dn:=fun C σ=>
 let get:=bH σ
 match asNat (get n),σ.boxes[s]? with
  |some n,some none=>if n*bytes≤room∧n≤room∧s%2=0 then some (.au s 0 n (n*sz),{σ with boxes:=σ.boxes.set s (some (List.replicate n zero).flatten)})else none
  |_,_=>none
noncomputable def PA(d:Nat)(e:TypeId)(sz:Nat)(len:Nat)(zero:List T)(parts:List (Nat×Nat×ag)):dn:=fun C σ=>
 let get:=bH σ
 do
  let cs←df (fun a=>(get a).cL) (List.replicate len zero).flatten parts
  if len≤65536∧len*sz≤16777216∧HQ cs then some (.sl (if len=0 then .clip else .own (8*d) e) len cs,l4 (2*d) σ)else none
noncomputable def Ml(s:Nat)(sz:Nat)(len:Nat)(zero:List T)(parts:List (Nat×Nat×ag)):dn:=fun C σ=>
 let get:=bH σ
 match σ.boxes[s]? with
  |some none=>(df get (List.replicate len zero).flatten parts).bind fun cs=>
   if len≤65536∧len*sz≤16777216∧s%2=0 then some (.au s 0 len (len*sz),{σ with boxes:=σ.boxes.set s (some cs)})else none
  |_=>none
noncomputable def PB(d:Nat)(e:TypeId)(sz:Nat)(bytes:Nat)(zero:List T)(kind:Nat)(a:ag)(b:ag):dn:=fun C σ=>
 let get:=bH σ
  match get a,iP σ.boxes kind sz zero (get b)with
  | .sl g n xs,some (m,ys)=>
   if xs.length=n*sz∧ys.length=m*sz∧(n+m)*bytes≤room∧n+m≤room∧dJ (get b) ys=true then
    match g with
    | .own k e'=>if e'=e then some (.sl (.own (8*d) e) (n+m) (xs++ys),l4 (2*d) (l4 (2*k+1) σ))else none
    | .nil=>if n=0 then some (.sl (.own (8*d) e) m ys,l4 (2*d) σ)else none
    | .clip=>if m=0 then(if n=0 then some (.sl (.own (8*d) e) 0 [],l4 (2*d) σ)else none)else some (.sl (.own (8*d) e) (n+m) (xs++ys),l4 (2*d) σ)
    | .l9=>if m=0 then some (.sl .any n xs,σ)else none
    | .any=>if m=0 then some (.sl .any n xs,σ)else none
   else none
  |_,_=>none
noncomputable def Mm(s:Nat)(e:TypeId)(sz:Nat)(bytes:Nat)(zero:List T)(kind:Nat)(a:ag)(b:ag):dn:=fun C σ=>
 let get:=bH σ
  match get a,iP σ.boxes kind sz zero (get b),σ.boxes[s]? with
  | .sl g n _,some (m,ys),some none=>
   if n=0∧ys.length=m*sz∧m*bytes≤room∧m≤room∧dJ (get b) ys=true∧s%2=0 then
    match g with
    | .own k e'=>if e'=e∧0< m then some (.au s 0 m (m*sz),{(l4 (2*k+1) σ)with boxes:=(l4 (2*k+1) σ).boxes.set s (some ys)})else none
    | .nil=>some (.au s 0 m (m*sz),{σ with boxes:=σ.boxes.set s (some ys)})
    | .clip=>some (.au s 0 m (m*sz),{σ with boxes:=σ.boxes.set s (some ys)})
    |_=>none
   else none
  | .au s' o n c,some (m,ys),some old=>
   if o=0∧(s=s'∨old.isNone=true)∧s%2=0∧(0< n∧c=n*sz∨n=0∧(c=0∨c=1+sz))∧n*sz≤((ai σ.boxes s').getD []).length∧ys.length=m*sz∧(n+m)*bytes≤room∧n+m≤room∧dJ (get b) ys=true then
    some (.au s 0 (n+m) (if n+m=0 then c else(n+m)*sz),{σ.drop s' with boxes:=(σ.drop s').boxes.set s (some (ah (fun x=>if x=s' then none else some x) some (((ai σ.boxes s').getD []).take (n*sz))++ys))})
   else none
  |_,_,_=>none
noncomputable def PC(sz:Nat)(zero:List T)(a:ag):dn:=fun C σ=>
 let get:=bH σ
 match get a with
  | .au s o n c=>match σ.boxes[s]? with
   |some (some cs)=>if s%2=0∧(n=0∨c=n*sz)∧zero.length=sz∧o+n*sz≤cs.length∧zero.all T.one then some (.undef,{σ with boxes:=σ.boxes.set s (some (setCells cs o (List.replicate n zero).flatten))})else none
   |_=>none
  |_=>none
noncomputable def Tc(s:Nat):dn:=fun C σ=>
 let get:=bH σ
 match σ.boxes[s]? with
  |some none=>if s%2=1 then some (T.aQ s,{σ with boxes:=σ.boxes.set s (some [])})else none
  |_=>none
noncomputable def PD(k:LK)(zero:T)(ok:Bool)(a:ag)(i:ag):dn:=fun C σ=>
 let get:=bH σ
 match get a with
  | .aQ s=>match σ.boxes[s]? with
   |some (some cs)=>(mB k (get i) cs).bind fun r=>match r with
    |some v=>some (if ok then .al [v,T.bool true]else v,σ)
    |none=>some (if ok then .al [zero,T.bool false]else zero,σ)
   |_=>none
  |_=>none
noncomputable def Ha(k:LK)(a:ag)(i:ag)(x:ag):dn:=fun C σ=>
 let get:=bH σ
 match get a with
  | .aQ s=>match σ.boxes[s]? with
   |some (some cs)=>(tn k (get i) (get x) cs).map fun b9=>(.undef,{σ with boxes:=σ.boxes.set s (some b9)})
   |_=>none
  |_=>none
noncomputable def YW(a:ag):dn:=fun C σ=>
 let get:=bH σ
 match get a with
  | .aQ s=>match σ.boxes[s]? with
   |some (some cs)=>some (T.int (cs.length / 2:Nat),σ)
   |_=>none
  |_=>none
noncomputable def adw(str:Bool)(a:ag):dn:=fun C σ=>
 let get:=bH σ
 (jE str (get a)).map (·,σ)
noncomputable def YX(d:Nat)(e:TypeId)(sz:Nat)(a:ag):dn:=fun C σ=>
 let get:=bH σ
 match get a with
  | .au s o n c=>
   if o=0∧(0< n∧c=n*sz∨n=0∧(c=0∨c=1+sz))∧n*sz≤((ai σ.boxes s).getD []).length∧bj (((ai σ.boxes s).getD []).take (n*sz))=true then
    some (.sl (.own (8*d) e) n (((ai σ.boxes s).getD []).take (n*sz)),l4 (2*d) (σ.drop s))
   else none
  |t=>some (t,σ)
noncomputable def YY(a:ag):dn:=fun C σ=>
 let get:=bH σ
 match get a with
  | .sl .nil _ _=>some (T.int 0,σ)
  | .sl .clip n _=>some (T.int n,σ)
  | .au _ _ 0 0=>some (T.int 0,σ)
  |_=>none
noncomputable def PE(mx:Bool)(as:List ag):dn:=fun C σ=>
 let get:=bH σ
 match as.map get with
  | .v (.int k x)::rest=>(nD mx x rest).map fun r=>(.v (.int k r),σ)
  |_=>none
noncomputable def YZ(k:Nat)(a:ag):dn:=fun C σ=>
 let get:=bH σ
 match get a with
  | .v (.complex f re im)=>some (.v (.float f (if k=0 then re else im)),σ)
  |_=>none
noncomputable def Y0(a:ag)(b:ag):dn:=fun C σ=>
 let get:=bH σ
 match get a,get b with
  | .v (.float k re),.v (.float k' im)=>if k=k' then some (.v (.complex k re im),σ)else none
  |_,_=>none
noncomputable def Y1(sz:Nat)(a:ag)(b:ag):dn:=fun C σ=>
 let get:=bH σ
  let src:Option (Nat×List T):=match get b with
   | .sl _ m ys=>some (m,ys)
   | .v (.string s)=>if sz=1 then some (s.size,s.data.toList.map fun(b:UInt8)=>T.u8 b.toNat)else none
   |_=>none
  match get a,src with
  | .au s o n _,some (m,ys)=>match σ.boxes[s]? with
   |some (some cs)=>
    if ys.length=m*sz∧o+n*sz≤cs.length∧0< n then some (T.int (min m n:Nat),{σ with boxes:=σ.boxes.set s (some (setCells cs o (ys.take (min m n*sz))))})else none
   |_=>none
  |_,_=>none
noncomputable def Y2(d:Nat)(f:FuncId)(as:List ag):dn:=fun C σ=>
 let get:=bH σ
 Jr C σ d f (as.map get)
noncomputable def Td(d:Nat)(f:ag)(as:List ag):dn:=fun C σ=>
 let get:=bH σ
 match eQ (get f)with
  |some (f,first,cap)=>Jr C σ d f (first++as.map get++cap)
  |none=>none
noncomputable def Mn(d:Nat)(ad:List Nat)(f:FuncId)(as:List ag):dn:=fun C σ=>
 let get:=bH σ
 ae.dL C σ d ad f (as.map get)
noncomputable def PF(d:Nat)(ad:List Nat)(f:FuncId)(as:List ag):dn:=fun C σ=>
 let get:=bH σ
 ae.ez C σ d ad f (as.map get)
noncomputable def Mo(d:Nat)(ad:List Nat)(f:ag)(as:List ag):dn:=fun C σ=>
 let get:=bH σ
 match eQ (get f)with
  |some (f,first,cap)=>ae.ez C σ d ad f (first++as.map get++cap)
  |none=>none
noncomputable def PG(fn:Fn)(first:List ag)(cap:List ag):dn:=fun C σ=>
 let get:=bH σ
 some (.bq fn (first.map get) (cap.map get),σ)
noncomputable def Js(a:ag):dn:=fun C σ=>
 let get:=bH σ
 match get a with
  | .ref s o=>some (.ref s o,σ)
  | .ptr cs o=>some (.ptr cs o,σ)
  | .bq (.func f) a b=>some (.bq (.func f) a b,σ)
  | .v (.func (.func f) a b)=>some (.v (.func (.func f) a b),σ)
  |_=>none
noncomputable def adx(t:TypeId)(a b:ag):dn:=fun _ σ=>(ib (fun x y=>fI (yh .i64 (x+y)) fun n=> .v (.int .i64 n)) (bM .add t) (bH σ a) (bH σ b)).map (·,σ)
noncomputable def ady(t:TypeId)(a b:ag):dn:=fun _ σ=>(ib (fun x y=>fI (yh .i64 (x-y)) fun n=> .v (.int .i64 n)) (bM .sub t) (bH σ a) (bH σ b)).map (·,σ)
noncomputable def adz(t:TypeId)(a b:ag):dn:=fun _ σ=>(ib (fun x y=>fI (yh .i64 (x*y)) fun n=> .v (.int .i64 n)) (bM .mul t) (bH σ a) (bH σ b)).map (·,σ)
noncomputable def adA(t:TypeId)(a b:ag):dn:=fun _ σ=>(ib (fun x y=> .v (.bool (DR x y))) (bM .lss t) (bH σ a) (bH σ b)).map (·,σ)
noncomputable def adB(t:TypeId)(a b:ag):dn:=fun _ σ=>(ib (fun x y=> .v (.bool (DR y x))) (bM .gtr t) (bH σ a) (bH σ b)).map (·,σ)
noncomputable def adC(t:TypeId)(a b:ag):dn:=fun _ σ=>(ib (fun x y=> .v (.bool (!(DR y x)))) (bM .leq t) (bH σ a) (bH σ b)).map (·,σ)
noncomputable def adD(t:TypeId)(a b:ag):dn:=fun _ σ=>(ib (fun x y=> .v (.bool (!(DR x y)))) (bM .geq t) (bH σ a) (bH σ b)).map (·,σ)
noncomputable def adE(t:TypeId)(a b:ag):dn:=fun _ σ=>(ib (fun x y=> .v (.bool (Pq x y))) (bM .eql t) (bH σ a) (bH σ b)).map (·,σ)
noncomputable def adF(t:TypeId)(a b:ag):dn:=fun _ σ=>(ib (fun x y=> .v (.bool (!(Pq x y)))) (bM .neq t) (bH σ a) (bH σ b)).map (·,σ)
noncomputable def adG(t:TypeId)(a b:ag):dn:=fun _ σ=>(acm .rem t (bH σ a) (bH σ b)).map (·,σ)
noncomputable def KE(op:BinOp)(t:TypeId)(a b:ag):dn:=match op with
 | .add=>adx t a b| .sub=>ady t a b| .mul=>adz t a b| .lss=>adA t a b| .gtr=>adB t a b| .leq=>adC t a b| .geq=>adD t a b
 | .eql=>adE t a b| .neq=>adF t a b| .rem=>adG t a b|op=>ads op t a b
theorem Vl(op:BinOp)(t:TypeId)(a b:ag)(C:rh)(σ:St):KE op t a b C σ=(bM op t (a.get σ) (b.get σ)).map (·,σ):=by
 unfold KE
 split<;>simp only[adx,ady,adz,adA,adB,adC,adD,adE,adF,adG,ads,Ky,ae5]
 ·rw[yi fun x y=>by rw[Vd,tC];rfl]
 ·rw[yi fun x y=>by rw[Vd,tC];rfl]
 ·rw[yi fun x y=>by rw[Vd,tC];rfl]
 ·rw[yi fun x y=>by rw[BX];rfl]
 ·rw[yi fun x y=>by rw[BX];rfl]
 ·rw[yi fun x y=>(YN t x y).symm]
 ·rw[yi fun x y=>(YO t x y).symm]
 ·rw[yi fun x y=>by rw[Fk];rfl]
 ·rw[yi fun x y=>by rw[Fk];rfl]
noncomputable def Jt(o:IOp):dn:=
 match o with
 | .bin op t a b=>KE op t a b
 | .mv a=>ahj a
 | .pick c a b=>YU c a b
 | .eqb neg a b=>adt neg a b
 | .eqa neg ks a b=>adu neg ks a b
 | .eqnil neg a=>SX neg a
 | .un op a=>ahk op a
 | .toInt k a=>SY k a
 | .toFloat k a=>Mi k a
 | .toStr a=>SZ a
 | .build zero parts=>S1 zero parts
 | .field isAgg off n a=>S4 isAgg off n a
 | .indexA len sz isAgg a i=>Pt len sz isAgg a i
 | .indexS a i=>Pu a i
 | .extract a i=>Mj a i
 | .alloc s zero=>S6 s zero
 | .box s a=>adv s a
 | .load isAgg n a=>YV isAgg n a
 | .store n a b=>S7 n a b
 | .faddr off a=>S8 off a
 | .iaddrA len sz a i=>Pv len sz a i
 | .iaddrS sz a i=>Pw sz a i
 | .sliceS a lo hi=>Px a lo hi
 | .sliceT sz a lo hi mx=>Py sz a lo hi mx
 | .sliceA len sz a lo hi=>Pz len sz a lo hi
 | .arrOf len a=>S9 len a
 | .mkSlice d e sz bytes zero n=>Mk d e sz bytes zero n
 | .mkCap d e bytes n=>Ta d e bytes n
 | .mkBox s sz bytes zero n=>Tb s sz bytes zero n
 | .bslice d e sz len zero parts=>PA d e sz len zero parts
 | .bsliceB s sz len zero parts=>Ml s sz len zero parts
 | .append d e sz bytes zero kind a b=>PB d e sz bytes zero kind a b
 | .appendB s e sz bytes zero kind a b=>Mm s e sz bytes zero kind a b
 | .clearS sz zero a=>PC sz zero a
 | .mkMap s=>Tc s
 | .lookup k zero ok a i=>PD k zero ok a i
 | .mapUpdate k a i x=>Ha k a i x
 | .lenM a=>YW a
 | .len str a=>adw str a
 | .thaw d e sz a=>YX d e sz a
 | .capS a=>YY a
 | .minMax mx as=>PE mx as
 | .part k a=>YZ k a
 | .cplx a b=>Y0 a b
 | .copy sz a b=>Y1 sz a b
 | .call d f as=>Y2 d f as
 | .callv d f as=>Td d f as
 | .callnew d ad f as=>Mn d ad f as
 | .callio d ad f as=>PF d ad f as
 | .callvio d ad f as=>Mo d ad f as
 | .mkFunc fn first cap=>PG fn first cap
 | .nilCheck a=>Js a
theorem Y3(o:IOp)(C:rh)(σ:St):Jt o C σ=ae C σ o:=by
 cases o<;>simp only[Jt,Vl,ahj,YU,adt,adu,SX,ahk,SY,Mi,SZ,S1,S4,Pt,Pu,Mj,S6,adv,YV,S7,S8,Pv,Pw,Px,Py,Pz,S9,Mk,Ta,Tb,PA,Ml,PB,Mm,PC,Tc,PD,Ha,YW,adw,YX,YY,PE,YZ,Y0,Y1,Y2,Td,Mn,PF,Mo,PG,Js,Ky,tC,Mh,Jn,Ru,KA,YT,ae]
 all_goals rfl
def IOp.adH:IOp→Bool
 | .append ..=>true
 | .bslice ..=>true
 | .mkSlice ..=>true
 | .sliceT ..=>true
 | .build ..=>true
 | .thaw ..=>true
 | .call ..=>true
 | .callv ..=>true
 | .callnew ..=>true
 | .callio ..=>true
 | .callvio ..=>true
 | .copy ..=>true
 |_=>false
noncomputable def s_q(op:dn)(rest:xM):xM:=fun C σ=>match op C σ with
 |some (t,az)=>Ni az.rs t fun rs=>rest C ⟨rs,az.vars,az.boxes⟩
 |none=>none
noncomputable def ahl(op:dn)(rest:xM):xM:=fun C σ=>match op C σ with
 |some (t,az)=>fMR t fun t=>Ni az.rs t fun rs=>rest C ⟨rs,az.vars,az.boxes⟩
 |none=>none
noncomputable def F5(o:IOp)(rest:xM):xM:=match o.adH with
 |false=>s_q (Jt o) rest
 |true=>ahl (Jt o) rest
noncomputable def KF(g:Nat×Bool)(one rest:xM):xM:=fun C σ=>match bU σ.rs (some g)with
 |some true=>one C σ
 |some false=>Ni σ.rs T.bJ fun rs=>rest C ⟨rs,σ.vars,σ.boxes⟩
 |none=>none
noncomputable def akB:xM:=fun _ σ=>some σ
noncomputable def yB(l:List (Option (Nat×Bool)×IOp)):xM:=
 List.rec akB (fun x _ ih=>match x.1 with|none=>F5 x.2 ih|some g=>KF g (F5 x.2 ih) ih) l
theorem PH(o:IOp)(rest:xM)(C:rh)(σ:St):F5 o rest C σ=(ae C σ o).bind fun p=>rest C {p.2 with rs:=p.2.rs++[p.1]}:=by
 unfold F5
 cases o.adH<;>simp only[s_q,ahl,Y3,ahi,HP]<;>cases ae C σ o<;>rfl
theorem yj(C:rh):∀(l:List (Option (Nat×Bool)×IOp)) (σ:St),yB l C σ=eZ C σ l
 | [],σ=>rfl
 |(none,o)::rest,σ=>by
  show F5 o (yB rest) C σ=_
  rw[PH]
  simp only[eZ,bU,Option.bind_some,if_true]
  congr 1
  funext p
  exact yj C rest _
 |(some g,o)::rest,σ=>by
  show KF g (F5 o (yB rest)) (yB rest) C σ=_
  unfold KF
  simp only[eZ,PH,HP]
  cases bU σ.rs (some g)with
  |none=>rfl
  |some b=>
   cases b with
   |false=>exact yj C rest _
   |true=>
    simp only[Option.bind_some,if_true]
    congr 1
    funext p
    exact yj C rest _
noncomputable def Nj{α:Type}(rs:List T)(vars:List T):List (Option Nat)→(List T→α)→α:=
 List.rec (fun _ k=>k []) (fun t _ ih os k=>match os with
  | []=>k []
  |o::os=>match o with
   |none=>ih os fun l=>k (t::l)
   |some j=>ih os fun l=>k (Kw rs j::l)) vars
theorem HS{α:Type}(rs:List T):∀(vars:List T) (os:List (Option Nat)) (k:List T→α),Nj rs vars os k=k (fJ rs vars os)
 | [],_,k=>by simp[Nj,fJ]
 |t::ts,[],k=>by simp[Nj,fJ]
 |t::ts,none::os,k=>(HS rs ts os _).trans rfl
 |t::ts,some j::os,k=>by
  refine(HS rs ts os fun l=>k (Kw rs j::l)).trans ?_
  rw[Kx]
  rfl
noncomputable def ahm:ry:=fun _ _ σ=>some (.norm σ)
noncomputable def s_reg(ops:xM)(outs:List (Option Nat)):ry:=fun C _ σ=>match ops C ⟨[],σ.vars,σ.boxes⟩with
 |some σ'=>Nj σ'.rs σ'.vars outs fun vars=>some (.norm ⟨[],vars,σ'.boxes⟩)
 |none=>none
noncomputable def Vm(a b:ry):ry:=fun C N σ=>match a C N σ with
 |some o=>(match o with
  | .norm σ'=>b C N σ'
  | .exit j σ'=>some (.exit j σ')
  | .ret σ'=>some (.ret σ'))
 |none=>none
noncomputable def s_cond(c:ag)(a b:ry):ry:=fun C N σ=>match bH σ c with
 | .v (.bool t)=>(match t with|true=>a C N σ|false=>b C N σ)
 |_=>none
noncomputable def KG(id:Nat)(a:ry):ry:=fun C N σ=>match a C N σ with
 |some o=>(match o with
  | .norm σ'=>some (.norm σ')
  | .exit j σ'=>bif Nat.beq j id then some (.norm σ')else some (.exit j σ')
  | .ret σ'=>some (.ret σ'))
 |none=>none
noncomputable def Nk(f:St→Option Out)(N:Nat):St→Option Out:=Nat.rec (fun _=>none) (fun _ ih σ=>match f σ with
 |some o=>(match o with
  | .norm σ'=>ih σ'
  | .exit j σ'=>some (.exit j σ')
  | .ret σ'=>some (.ret σ'))
 |none=>none) N
noncomputable def ahn(a:ry):ry:=fun C N σ=>Nk (a C N) N σ
noncomputable def HT(a:ry):ry:=fun C N σ=>match a C N σ with
 |some o=>(match o with
  | .norm σ'=>some (.norm σ')
  | .exit j σ'=>bif Nat.blt j cE then some (.exit j σ')else none
  | .ret σ'=>some (.ret σ'))
 |none=>none
noncomputable def KH(id:Nat)(a b:ry):ry:=fun C N σ=>match a C N σ with
  |some (.exit j σ')=>if j=id then sJ (b C N) id N σ' else if j< cE then some (.exit j σ')else none
  |o=>o
noncomputable def KI(K:Nat)(g:ag)(ps:List Nat)(a b:ry):ry:=fun C N σ=>match eQ (g.get σ)with
  |some (f,[],caps)=>
   let ss:=reach σ.boxes 10000 [] (dZ caps)
   ((ah (fun s=>if ss.contains s then some s else none) (fun _=>none) caps).mapM (close (jc ss σ.boxes) 8)).bind fun cs=>
   match C (an+f) [.al cs]with
   |some (.al ys)=>
    (ml (fun σ=>match a C N σ with
     |some (.norm az)=>b C N az
     |_=>none) K ps ys (ah (fun s=>if ss.contains s then none else some s) (fun _=>none) σ.vars) (vQ ss σ.boxes)).map fun σ'=>
     .norm (if vR ys&&ss.all (fun s=>dK σ'.boxes s)then {σ' with boxes:=pw ss (jc ss σ.boxes) σ'.boxes}else σ')
   |_=>none
  |_=>none
noncomputable def s_exit(id:Nat):ry:=fun _ _ σ=>some (.exit id σ)
noncomputable def akC:ry:=fun _ _ σ=>some (.ret σ)
noncomputable def PI(vs:List Nat):ry:=fun _ _ σ=>fSp (er vs σ.vars) fun vars=>some (.norm ⟨σ.rs,vars,σ.boxes⟩)
noncomputable def PK(ss:List Nat):ry:=fun _ _ σ=>match cB ss σ with
  |some σ=>some (.norm σ)
  |none=>none
noncomputable def nh(c:IC):ry:=
 IC.rec (motive:=fun _=>ry) ahm (fun r=>s_reg (yB r.ops) r.outs) (fun _ _ a b=>Vm a b) (fun c _ _ a b=>s_cond c a b) (fun id _ a=>KG id a) (fun _ a=>ahn a)
  (fun id _ _ a b=>KH id a b) (fun _ a=>HT a) (fun K g ps _ _ a b=>KI K g ps a b) (fun id=>s_exit id) akC (fun vs=>PI vs) (fun ss=>PK ss) c
theorem PL(f:St→Option Out):∀(N:Nat) (σ:St),Nk f N σ=pv f N σ
 |0,σ=>rfl
 |n+1,σ=>by
  show(match f σ with
   |some o=>(match o with
    | .norm σ'=>Nk f n σ'
    | .exit j σ'=>some (.exit j σ')
    | .ret σ'=>some (.ret σ'))
   |none=>none)=_
  simp only[pv,PL f n]
  cases f σ with
  |none=>rfl
  |some o=>cases o<;>rfl
theorem ae6(j id:Nat){α:Type}(x y:α):(bif Nat.beq j id then x else y)=if j=id then x else y:=by
 by_cases h:j=id
 ·rw[if_pos h,h];simp
 ·rw[if_neg h]
  have:Nat.beq j id=false:=by
   cases hb:Nat.beq j id with
   |false=>rfl
   |true=>exact absurd (Nat.eq_of_beq_eq_true hb) h
  rw[this];rfl
theorem ae7(j id:Nat){α:Type}(x y:α):(bif Nat.blt j id then x else y)=if j< id then x else y:=by
 by_cases h:j< id
 ·rw[if_pos h,show Nat.blt j id=true from by simp[Nat.blt];omega];rfl
 ·rw[if_neg h]
  have:Nat.blt j id=false:=by
   cases hb:Nat.blt j id with
   |false=>rfl
   |true=>exact absurd (by simp[Nat.blt]at hb;omega) h
  rw[this];rfl
theorem iN(C:rh)(N:Nat):∀(c:IC),nh c C N=exec C N c
 | .skip=>rfl
 | .A5 r=>by
  funext σ
  show s_reg (yB r.ops) r.outs C N σ=_
  simp only[s_reg,exec,wA,yj,HS]
  cases eZ C {σ with rs:=[]} r.ops<;>rfl
 | .seq a b=>by
  funext σ
  show Vm (nh a) (nh b) C N σ=_
  simp only[Vm,exec,iN C N a,iN C N b]
  cases exec C N a σ with
  |none=>rfl
  |some o=>cases o<;>rfl
 | .cond c a b=>by
  funext σ
  show s_cond c (nh a) (nh b) C N σ=_
  simp only[s_cond,exec,iN C N a,iN C N b,Ky]
  generalize c.get σ=t
  cases t with
  |v x=>cases x with
   |bool b=>cases b<;>rfl
   |_=>rfl
  |_=>rfl
 | .block id a=>by
  funext σ
  show KG id (nh a) C N σ=_
  simp only[KG,exec,iN C N a,ae6]
  cases exec C N a σ with
  |none=>rfl
  |some o=>cases o<;>rfl
 | .loop a=>by
  funext σ
  show Nk (nh a C N) N σ=_
  rw[PL,iN C N a]
  rfl
 | .kT a=>by
  funext σ
  show HT (nh a) C N σ=_
  simp only[HT,exec,iN C N a,ae7]
  cases exec C N a σ with
  |none=>rfl
  |some o=>cases o<;>rfl
 | .jumps id a b=>by
  funext σ
  show KH id (nh a) (nh b) C N σ=_
  simp only[KH,exec,iN C N a,iN C N b]
  rfl
 | .range K g ps a b=>by
  funext σ
  show KI K g ps (nh a) (nh b) C N σ=_
  simp only[KI,exec,iN C N a,iN C N b]
  rfl
 | .exit id=>rfl
 | .ret=>rfl
 | .kill vs=>by
  funext σ
  show PI vs C N σ=_
  simp only[PI,exec,Pr]
 | .free ss=>by
  funext σ
  show PK ss C N σ=_
  simp only[PK,exec]
  cases cB ss σ<;>rfl
noncomputable def Ju(C:rh)(N:Nat)(fn:aC)(args:List T):Option T:=
 if args.length=fn.nparams then
  match nh fn.body C N ⟨[],args++List.replicate (fn.kj-fn.nparams) .undef,List.replicate (2*fn.eK) none⟩with
  |some (.norm σ)|some (.ret σ)=>(c9 σ fn.results fn.canon).bind (F4 σ.boxes)
  |_=>none
 else none
theorem Mq:Ju=sK:=by
 funext C N fn args
 have:F4=kp:=funext fun bx=>funext (Vk bx)
 simp only[Ju,sK,iN,this]
 rfl
noncomputable def PM(C:rh)(N:Nat)(fn:aC)(args:List T)(ins:List (Option (List T))):Option T:=
 let nb:=2*fn.eK
 if args.length=fn.nparams∧ins.length%2=0 then
  match nh fn.body C N ⟨[],(args.map (T.aj (fun l=>some (l+nb)) some))++List.replicate (fn.kj-fn.nparams) .undef,
    List.replicate nb none++ins.map (Option.map (ah (fun l=>some (l+nb)) some))⟩with
  |some (.norm σ)|some (.ret σ)=>(c9 σ fn.results fn.canon).map (fV nb (ins.length / 2) σ.boxes)
  |_=>none
 else none
theorem Y4:PM=nA:=by
 funext C N fn args ins
 simp only[PM,nA,iN]
 rfl
noncomputable def F6(E:Env):Nat→FuncId→List T→Option T
 |0,_,_=>none
 |n+1,f,args=>fML args fun args=>match E.kF f with
  |some g=>g args
  |none=>if f< an then(match E.fn f with
    |some fn=>jd fn.split args (Ju (F6 E n) n fn)
    |none=>none)
   else(match E.fn (f-an),args with
    |some fn,[.al as,.al ins]=>jd fn.split as fun as=>PM (F6 E n) n fn as (ins.map eD)
    |some fn,[.al caps]=>(rO (F6 E n) n 0 fn caps).map fun ys=> .al (ys.map .al)
    |_,_=>none)
theorem PN(E:Env):∀n,F6 E n=aV E n
 |0=>rfl
 |n+1=>by
  funext f args
  simp only[F6,aV,PN E n,Ps,Mq,Y4]
  cases E.kF f<;>rfl
end Go.Vi
end
