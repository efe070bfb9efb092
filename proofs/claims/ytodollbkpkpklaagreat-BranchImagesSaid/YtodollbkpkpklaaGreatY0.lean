/-
  A claim's own text, joined by a small program out of: Vj0, ZzCode.
-/
import Derived.Calls
import Derived.Below
set_option linter.unusedVariables false
set_option linter.unusedSimpArgs false
section
namespace Go.Vi
open Go
inductive Tag where
 |nil|any|l9|clip|own (k:Nat) (e:TypeId)
 deriving DecidableEq,Repr,Inhabited
inductive T where
 |undef
 |v (x:Value)
 |sl (g:Tag) (n:Nat) (cs:List T)
 |ptr (cs:List T) (off:Nat)
 |ref (s off:Nat)
 |au (s off n c:Nat)
 |aQ (s:Nat)
 |agg (cs:List T)
 |al (cs:List T)
 |bq (fn:Fn) (first cap:List T)
 deriving Inhabited
abbrev T.int(n:Int):T:= .v (.int .i64 n)
abbrev T.u8(n:Int):T:= .v (.int .u8 n)
abbrev T.bool(b:Bool):T:= .v (.bool b)
abbrev T.str(s:ByteArray):T:= .v (.string s)
def T.one:T→Bool
 | .v x=>x.oneCell'
 | .sl ..| .ptr ..| .ref ..| .au ..| .aQ ..| .bq ..=>true
 |_=>false
def T.A4:T→Bool
 | .v x=>x.oneCell'
 |_=>false
inductive ag where
 |r (i:Nat)|x (i:Nat)|c (t:T)
 deriving Inhabited
inductive LK where
 |int|bool|str
 deriving DecidableEq,Inhabited
inductive IOp where
 |mv (a:ag)
 |pick (c a b:ag)
 |bin (op:BinOp) (t:TypeId) (a b:ag)
 |eqb (neg:Bool) (a b:ag)
 |eqa (neg:Bool) (ks:List LK) (a b:ag)
 |eqnil (neg:Bool) (a:ag)
 |un (op:UnOp) (a:ag)
 |toInt (k:IntKind) (a:ag)
 |toFloat (k:FloatKind) (a:ag)
 |toStr (a:ag)
 |build (zero:List T) (parts:List (Nat×Nat×ag))
 |field (isAgg:Bool) (off n:Nat) (a:ag)
 |indexA (len sz:Nat) (isAgg:Bool) (a i:ag)
 |indexS (a i:ag)
 |extract (a:ag) (i:Nat)
 |alloc (s:Nat) (zero:List T)
 |box (s:Nat) (a:ag)
 |load (isAgg:Bool) (n:Nat) (a:ag)
 |store (n:Nat) (a b:ag)
 |faddr (off:Nat) (a:ag)
 |iaddrA (len sz:Nat) (a i:ag)
 |iaddrS (sz:Nat) (a i:ag)
 |sliceS (a:ag) (lo hi:Option ag)
 |sliceT (sz:Nat) (a:ag) (lo hi mx:Option ag)
 |sliceA (len sz:Nat) (a:ag) (lo hi:Option ag)
 |arrOf (len:Nat) (a:ag)
 |mkSlice (d:Nat) (e:TypeId) (sz bytes:Nat) (zero:List T) (n:ag)
 |mkBox (s sz bytes:Nat) (zero:List T) (n:ag)
 |mkCap (d:Nat) (e:TypeId) (bytes:Nat) (n:ag)
 |bslice (d:Nat) (e:TypeId) (sz len:Nat) (zero:List T) (parts:List (Nat×Nat×ag))
 |bsliceB (s sz len:Nat) (zero:List T) (parts:List (Nat×Nat×ag))
 |append (d:Nat) (e:TypeId) (sz bytes:Nat) (zero:List T) (src:Nat) (a b:ag)
 |len (str:Bool) (a:ag)
 |minMax (max:Bool) (as:List ag)
 |part (k:Nat) (a:ag)
 |cplx (a b:ag)
 |copy (sz:Nat) (a b:ag)
 |clearS (sz:Nat) (zero:List T) (a:ag)
 |appendB (s:Nat) (e:TypeId) (sz bytes:Nat) (zero:List T) (src:Nat) (a b:ag)
 |mkMap (s:Nat)
 |lookup (k:LK) (zero:T) (ok:Bool) (a i:ag)
 |mapUpdate (k:LK) (a i x:ag)
 |lenM (a:ag)
 |capS (a:ag)
 |thaw (d:Nat) (e:TypeId) (sz:Nat) (a:ag)
 |call (d:Nat) (f:FuncId) (as:List ag)
 |callv (d:Nat) (f:ag) (as:List ag)
 |callnew (d:Nat) (ad:List Nat) (f:FuncId) (as:List ag)
 |callio (d:Nat) (ad:List Nat) (f:FuncId) (as:List ag)
 |callvio (d:Nat) (ad:List Nat) (f:ag) (as:List ag)
 |mkFunc (fn:Fn) (first cap:List ag)
 |nilCheck (a:ag)
 deriving Inhabited
def IOp.reads:IOp→List ag
 | .mv a| .eqnil _ a| .un _ a| .toInt _ a| .toFloat _ a| .toStr a| .field _ _ _ a| .extract a _| .box _ a| .load _ _ a| .faddr _ a| .arrOf _ a| .mkSlice _ _ _ _ _ a| .mkBox _ _ _ _ a| .mkCap _ _ _ a| .len _ a| .part _ a| .nilCheck a| .lenM a| .capS a| .thaw _ _ _ a| .clearS _ _ a=>[a]
 | .pick c a b| .mapUpdate _ c a b=>[c,a,b]
 | .bin _ _ a b| .eqb _ a b| .eqa _ _ a b| .indexA _ _ _ a b| .indexS a b| .store _ a b| .iaddrA _ _ a b| .iaddrS _ a b| .append _ _ _ _ _ _ a b| .cplx a b| .copy _ a b| .appendB _ _ _ _ _ _ a b| .lookup _ _ _ a b=>[a,b]
 | .build _ ps| .bslice _ _ _ _ _ ps| .bsliceB _ _ _ _ ps=>ps.map fun p=>p.2.2
 | .alloc ..| .mkMap ..=>[]
 | .sliceS a lo hi| .sliceA _ _ a lo hi=>a::(lo.toList++hi.toList)
 | .sliceT _ a lo hi mx=>a::(lo.toList++(hi.toList++mx.toList))
 | .minMax _ as| .call _ _ as| .callnew _ _ _ as| .callio _ _ _ as=>as
 | .callv _ f as| .callvio _ _ f as=>f::as
 | .mkFunc _ a b=>a++b
structure RF where
 ops:List (Option (Nat×Bool)×IOp)
 outs:List (Option Nat)
 draw:Bool
 deriving Inhabited
inductive IC where
 |skip
 |A5 (r:RF)
 |seq (a b:IC)
 |cond (c:ag) (a b:IC)
 |block (id:Nat) (a:IC)
 |loop (a:IC)
 |jumps (id:Nat) (first rest:IC)
 |kT (a:IC)
 |range (K:Nat) (g:ag) (ps:List Nat) (a b:IC)
 |exit (id:Nat)
 |ret
 |kill (vs:List Nat)
 |free (ss:List Nat)
 deriving Inhabited
inductive Ar where
 |var (i:Nat)
 |cell (i:Nat) (isAgg:Bool) (n:Nat)
 deriving Inhabited
inductive CM where
 |raw|any|own (e:TypeId)|box (s:Nat)
 deriving DecidableEq,Repr,Inhabited
structure aC where
 nparams:Nat
 kj:Nat
 eK:Nat
 results:List Ar
 canon:List CM
 split:Bool
 body:IC
 deriving Inhabited
structure St where
 rs:List T
 vars:List T
 boxes:List (Option (List T))
 deriving Inhabited
def gn{α:Type}:Sem α→Option α
 | .pure a=>some a
 |_=>none
mutual
def T.ay(s:Nat):T→Bool
 | .ref s' _=>s' !=s
 | .au s' _ _ _=>s' !=s
 | .aQ s'=>s' !=s
 | .agg ts=>aR s ts
 | .al ts=>aR s ts
 | .bq _ a b=>aR s a&&aR s b
 |_=>true
def aR(s:Nat):List T→Bool
 | []=>true
 |t::ts=>t.ay s&&aR s ts
end
def hit(d k:Nat):Bool:=if d%2=0 then k / 8==d / 2 else k==d / 2
mutual
def T.strip(d:Nat):T→T
 | .sl (.own k e) n cs=> .sl (if hit d k then .any else .own k e) n cs
 | .agg ts=> .agg (stripL d ts)
 | .al ts=> .al (stripL d ts)
 | .bq f a b=> .bq f (stripL d a) (stripL d b)
 |t=>t
def stripL(d:Nat):List T→List T
 | []=>[]
 |t::ts=>t.strip d::stripL d ts
end
mutual
def T.import(d:Nat):T→T
 | .sl (.own k e) n cs=> .sl (if k< 8 then .own (8*d+k) e else .any) n cs
 | .agg ts=> .agg (dz d ts)
 | .al ts=> .al (dz d ts)
 | .bq f a b=> .bq f (dz d a) (dz d b)
 |t=>t
def dz(d:Nat):List T→List T
 | []=>[]
 |t::ts=>t.import d::dz d ts
end
mutual
def T.aj(ρ η:Nat→Option Nat):T→T
 | .sl (.own k e) n cs=> .sl (match η k with|some k'=> .own k' e|none=> .any) n cs
 | .ref s o=>match ρ s with|some s'=> .ref s' o|none=> .undef
 | .au s o n c=>match ρ s with|some s'=> .au s' o n c|none=> .undef
 | .aQ s=>match ρ s with|some s'=> .aQ s'|none=> .undef
 | .agg ts=> .agg (ah ρ η ts)
 | .al ts=> .al (ah ρ η ts)
 | .bq f a b=> .bq f (ah ρ η a) (ah ρ η b)
 |t=>t
def ah(ρ η:Nat→Option Nat):List T→List T
 | []=>[]
 |t::ts=>t.aj ρ η::ah ρ η ts
end
mutual
def T.refs:T→List Nat
 | .ref s _=>[s]
 | .au s _ _ _=>[s]
 | .aQ s=>[s]
 | .agg ts=>dZ ts
 | .al ts=>dZ ts
 | .bq _ a b=>dZ a++dZ b
 |_=>[]
def dZ:List T→List Nat
 | []=>[]
 |t::ts=>t.refs++dZ ts
end
mutual
def T.eO:T→List Nat
 | .sl (.own k _) _ _=>[k]
 | .agg ts=>gX ts
 | .al ts=>gX ts
 | .bq _ a b=>gX a++gX b
 |_=>[]
def gX:List T→List Nat
 | []=>[]
 |t::ts=>t.eO++gX ts
end
def ai(bx:List (Option (List T)))(s:Nat):Option (List T):=(bx[s]?).join
def reach(bx:List (Option (List T))):Nat→List Nat→List Nat→List Nat
 |0,seen,_=>seen
 |_+1,seen,[]=>seen
 |n+1,seen,s::todo=>if seen.contains s then reach bx n seen todo else reach bx n (seen++[s]) (dZ ((ai bx s).getD [])++todo)
def iU(ss:List Nat)(s:Nat):Option Nat:=(ss.idxOf? s).map (2*· +s%2)
def fF(ss:List Nat)(l:Nat):Option Nat:=(ss[l / 2]?).bind fun s=>if s%2=l%2 then some s else none
def ko:Nat:=1048576
def rM(fs:List Nat)(k:Nat):Option Nat:=(fs.idxOf? k).map fun i=>8*(ko+i)
def an:Nat:=1048576
def As:Option (List T)→T
 |some cs=> .agg cs
 |none=> .undef
def eD:T→Option (List T)
 | .agg cs=>some cs
 |_=>none
mutual
def T.closed:T→Bool
 | .ref ..| .au ..| .aQ ..=>false
 | .sl (.own _ _) _ _=>false
 | .agg ts=>bj ts
 | .al ts=>bj ts
 | .bq _ a b=>bj a&&bj b
 |_=>true
def bj:List T→Bool
 | []=>true
 |t::ts=>t.closed&&bj ts
end
def St.strip(d:Nat)(σ:St):St:=⟨stripL d σ.rs,stripL d σ.vars,σ.boxes.map (Option.map (stripL d))⟩
def St.drop(s:Nat)(σ:St):St:=
 ⟨ah (fun x=>if x=s then none else some x) some σ.rs,ah (fun x=>if x=s then none else some x) some σ.vars,(σ.boxes.map (Option.map (ah (fun x=>if x=s then none else some x) some))).set s none⟩
def St.ay(s:Nat)(σ:St):Bool:=
 aR s σ.rs&&aR s σ.vars&&σ.boxes.all fun o=>match o with|some cs=>aR s cs|none=>true
def close(bx:List (Option (List T))):Nat→T→Option T
 |0,_=>none
 |k+1,t=>
  match t with
  | .sl _ n cs=>some (.sl .any n cs)
  | .aQ _=>some .undef
  | .ref s off=>
   match bx[s]? with
   |some (some cs)=>(cs.mapM (close bx k)).map (T.ptr · off)
   |_=>none
  | .au s off n c=>
   if n=0 then some (.sl .any 0 [])else
   match bx[s]? with
   |some (some cs)=>(((cs.drop off).take c).mapM (close bx k)).map (T.sl .any n ·)
   |_=>none
  | .agg ts=>(ts.mapM (close bx k)).map T.agg
  | .al ts=>(ts.mapM (close bx k)).map T.al
  | .bq f a b=>do let a←a.mapM (close bx k);let b←b.mapM (close bx k);pure (.bq f a b)
  |t=>some t
def T.fresh1:T→Bool
 | .v _=>true
 | .undef=>true
 | .sl (.own _ _) _ cs=>cs.all T.A4
 | .sl .nil _ _=>true
 | .sl _ _ []=>true
 |_=>false
def T.fresh2:T→Bool
 | .agg cs=>cs.all T.fresh1
 |t=>t.fresh1
def T.fresh:T→Bool
 | .al ts=>ts.all T.fresh2
 |t=>t.fresh2
mutual
def T.aU:T→Bool
 | .ref ..| .au ..| .aQ ..=>true
 | .agg ts=>aZ ts
 | .al ts=>aZ ts
 | .bq _ a b=>aZ a||aZ b
 |_=>false
def aZ:List T→Bool
 | []=>false
 |t::ts=>t.aU||aZ ts
end
def ag.get(σ:St):ag→T
 | .r i=>σ.rs.getD i .undef
 | .x i=>σ.vars.getD i .undef
 | .c t=>t
mutual
def T.cL:T→T
 | .sl _ n cs=> .sl .any n cs
 | .agg ts=> .agg (jx ts)
 | .al ts=> .al (jx ts)
 | .bq f a b=> .bq f (jx a) (jx b)
 |t=>t
def jx:List T→List T
 | []=>[]
 |t::ts=>t.cL::jx ts
end
def T.fG:T→T
 | .sl .nil n cs=> .sl .nil n cs
 |t=>t.cL
def A6:Value→Bool
 | .int ..| .bool ..| .string ..| .float ..| .complex ..=>true
 |_=>false
def bM(op:BinOp)(t:TypeId):T→T→Option T
 | .v a,.v b=>if A6 a&&A6 b then(gn (binOp op t a b)).map T.v else none
 |_,_=>none
def asNat:T→Option Nat
 | .v (.int _ n)=>if 0≤n then some n.toNat else none
 |_=>none
def one?(isAgg:Bool)(n:Nat)(cs:List T)(off:Nat):Option T:=
 if isAgg then(if off+n≤cs.length then some (.agg ((cs.drop off).take n))else none)
 else cs[off]?
def cellsOf:T→Option (List T)
 | .agg cs=>some cs
 | .al _=>none
 | .undef=>none
 |t=>some [t]
def setCells(cs:List T)(off:Nat)(ns:List T):List T:=cs.take off++ns++cs.drop (off+ns.length)
def df(get:ag→T)(cells:List T):List (Nat×Nat×ag)→Option (List T)
 | []=>some cells
 |(off,n,a)::rest=>do
  let cs←cellsOf (get a)
  if cs.length=n∧off+n≤cells.length∧cs.all T.one then df get (setCells cells off cs) rest else none
def iA:LK→T→T→Option Bool
 | .int,.v (.int k a),.v (.int k' b)=>if k=k' then some (a==b)else none
 | .bool,.v (.bool a),.v (.bool b)=>some (a==b)
 | .str,.v (.string a),.v (.string b)=>some (a.toList==b.toList)
 |_,_,_=>none
def cw:List LK→List T→List T→Option Bool
 | [],[],[]=>some true
 |k::ks,a::as,b::bs=>do let x←iA k a b;let y←cw ks as bs;pure (x&&y)
 |_,_,_=>none
def bytesOf:List T→Option (List UInt8)
 | []=>some []
 | .v (.int .u8 n)::cs=>(bytesOf cs).map (UInt8.ofNat n.toNat::·)
 |_=>none
def room:Nat:=4294967296
def nD(mx:Bool)(acc:Int):List T→Option Int
 | []=>some acc
 | .v (.int _ y)::ts=>nD mx (if mx then(if y>acc then y else acc)else(if y< acc then y else acc)) ts
 |_=>none
def iP(bx:List (Option (List T)))(kind sz:Nat)(zero:List T)(b:T):Option (Nat×List T):=
 match kind with
 |0=>(match b with
  | .sl _ m ys=>some (m,ys)
  | .au s o m c=>(match bx[s]? with|some (some cs)=>if s%2=0 then some (m,(cs.drop o).take (if m=0 then 0 else c))else none|_=>none)
  |_=>none)
 |1=>(match b with
  | .v (.string s)=>if sz=1 then some (s.size,s.data.toList.map fun(b:UInt8)=>T.u8 b.toNat)else none
  |_=>none)
 |_=>(asNat b).map fun m=>(m,(List.replicate m zero).flatten)
def mB(k:LK)(key:T):List T→Option (Option T)
 |a::v::cs=>(iA k key a).bind fun e=>if e then some (some v)else mB k key cs
 | []=>some none
 |_=>none
def tn(k:LK)(key x:T):List T→Option (List T)
 |a::v::cs=>(iA k key a).bind fun e=>if e then some (key::x::cs)else(tn k key x cs).map fun cs=>a::v::cs
 | []=>some [key,x]
 |_=>none
def dJ:T→List T→Bool
 | .au ..,ys=>ys.all T.closed
 |_,_=>true
def jE(str:Bool):T→Option T
 | .sl _ n _=>if str then none else some (.int n)
 | .au _ _ n _=>if str then none else some (.int n)
 | .v (.string s)=>if str then some (.int s.size)else none
 |_=>none
def eQ:T→Option (FuncId×List T×List T)
 | .v (.func (.func f) a b)=>if a.size=0∧b.size=0 then some (f,[],[])else none
 | .bq (.func f) first cap=>some (f,first,cap)
 |_=>none
def av(get:ag→T)(d:Nat):Option ag→Option Nat
 |none=>some d
 |some a=>asNat (get a)
def dC(ss ad:List Nat)(l:Nat):Option Nat:=if l / 2< ss.length then fF ss l else(ad[l / 2-ss.length]?).map (· +l%2)
def fH(d k:Nat):Option Nat:=if k< 8 then some (8*d+k)else none
def jb(ss:List Nat)(outs:List T)(s:Nat):Option Nat:=
 match iU ss s with
 |some l=>if(eD (outs.getD l .undef)).isSome then some s else none
 |none=>some s
def gu(d:Nat)(fs:List Nat)(k:Nat):Option Nat:=if fs.contains k||hit (2*d) k then none else some k
def ue(C:FuncId→List T→Option T)(f:FuncId)(cs:List T):Option T:=if f< an then C f cs else none
def dK(bx:List (Option (List T)))(s:Nat):Bool:=match bx[s]? with|some none=>true|_=>false
def eJ(back ζ:Nat→Option Nat):List (Option (List T))→Nat→List (Option (List T))→List (Option (List T))
 | [],_,bx=>bx
 |o::os,l,bx=>eJ back ζ os (l+1) (match back l with|some s=>bx.set s (o.map (ah back ζ))|none=>bx)
def ae(C:FuncId→List T→Option T)(σ:St)(o:IOp):Option (T×St):=
 let get:=ag.get σ
 match o with
 | .mv a=>some (get a,σ)
 | .pick c a b=>match get c with| .v (.bool t)=>some (if t then get a else get b,σ)|_=>none
 | .bin op t a b=>(bM op t (get a) (get b)).map (·,σ)
 | .eqb neg a b=>match get a,get b with| .v (.bool x),.v (.bool y)=>some (T.bool ((x==y) !=neg),σ)|_,_=>none
 | .eqa neg ks a b=>match get a,get b with
  | .agg xs,.agg ys=>(cw ks xs ys).map fun e=>(T.bool (e !=neg),σ)
  |_,_=>none
 | .eqnil neg a=>match get a with
  | .sl .nil _ _=>some (T.bool (!neg),σ)
  | .sl .l9 _ _=>some (T.bool neg,σ)
  | .sl _ n _=>if 0< n then some (T.bool neg,σ)else none
  | .au _ _ n _=>if 0< n then some (T.bool neg,σ)else none
  |_=>none
 | .un op a=>match get a with| .v x=>(gn (Op.unary op x)).map fun y=>(.v y,σ)|_=>none
 | .toInt k a=>match get a with
  | .v (.int _ n)=>some (.v (.int k (k.wrap n)),σ)
  | .v (.float s b)=>(gn (Conv.floatToInt s b k)).map fun y=>(.v y,σ)
  |_=>none
 | .toFloat k a=>match get a with| .v (.int _ n)=>some (.v (.float k (k.nearest n)),σ)|_=>none
 | .toStr a=>match get a with
  | .sl _ n cs=>if n=cs.length then(bytesOf cs).map fun b=>(.str ⟨b.toArray⟩,σ)else none
  |_=>none
 | .build zero parts=>(df get zero parts).map fun cs=>(.agg cs,σ)
 | .field isAgg off n a=>match get a with| .agg cs=>(one? isAgg n cs off).map (·,σ)|_=>none
 | .indexA len sz isAgg a i=>match get a,asNat (get i)with
  | .agg cs,some i=>if i< len then(one? isAgg sz cs (i*sz)).map (·,σ)else none
  |_,_=>none
 | .indexS a i=>match get a,asNat (get i)with
  | .v (.string s),some i=>(s.data[i]?).map fun b=>(.u8 b.toNat,σ)
  |_,_=>none
 | .extract a i=>match get a with| .al ts=>(ts[i]?).map (·,σ)|_=>none
 | .alloc s zero=>match σ.boxes[s]? with
  |some none=>if s%2=0 then some (T.ref s 0,{σ with boxes:=σ.boxes.set s (some zero)})else none
  |_=>none
 | .box s a=>match σ.boxes[s]?,cellsOf (get a)with
  |some none,some cs=>if cs.all T.one∧s%2=0 then some (T.ref s 0,{σ with boxes:=σ.boxes.set s (some cs)})else none
  |_,_=>none
 | .load isAgg n a=>match get a with
  | .ref s off=>match σ.boxes[s]? with
   |some (some cs)=>(one? isAgg n cs off).map (·,σ)
   |_=>none
  | .ptr cs off=>((one? isAgg n cs off).filter T.closed).map (·,σ)
  |_=>none
 | .store n a b=>match get a,cellsOf (get b)with
  | .ref s off,some ns=>match σ.boxes[s]? with
   |some (some cs)=>if ns.length=n∧off+n≤cs.length∧ns.all T.one then some (.undef,{σ with boxes:=σ.boxes.set s (some (setCells cs off ns))})else none
   |_=>none
  |_,_=>none
 | .faddr off a=>match get a with
  | .ref s o=>some (.ref s (o+off),σ)
  | .ptr cs o=>some (.ptr cs (o+off),σ)
  |_=>none
 | .iaddrA len sz a i=>match get a,asNat (get i)with
  | .ref s o,some i=>if i< len then some (.ref s (o+i*sz),σ)else none
  | .ptr cs o,some i=>if i< len then some (.ptr cs (o+i*sz),σ)else none
  |_,_=>none
 | .iaddrS sz a i=>match get a,asNat (get i)with
  | .sl _ n cs,some i=>if i< n then some (.ptr cs (i*sz),σ)else none
  | .au s o n _,some i=>if i< n then some (.ref s (o+i*sz),σ)else none
  |_,_=>none
 | .sliceS a lo hi=>match get a with
  | .v (.string s)=>do
   let h←av get s.size hi
   let l←av get 0 lo
   if l≤h∧h≤s.size then some (.str (s.extract l h),σ)else none
  |_=>none
 | .sliceT sz a lo hi mx=>match get a with
  | .sl g n cs=>do
   let h←av get n hi
   let l←av get 0 lo
   let m←av get n mx
   if l≤h∧h≤m∧m≤n then some (.sl (if g= .nil then .nil else if mx.isSome∧h=m then .clip else .any) (h-l) ((cs.drop (l*sz)).take ((h-l)*sz)),σ)
   else none
  | .au s o n c=>do
   let h←av get n hi
   let l←av get 0 lo
   let m←av get n mx
   if l≤h∧h≤m∧m≤n∧(n=0∨n*sz=c)then some (.au s (o+l*sz) (h-l) (if h=l then(if n=0 then c else 1+sz)else(h-l)*sz),σ)else none
  |_=>none
 | .sliceA len sz a lo hi=>match get a with
  | .ref s o=>do
   let h←av get len hi
   let l←av get 0 lo
   match σ.boxes[s]? with
   |some (some cs)=>if l≤h∧h≤len∧o+len*sz≤cs.length then some (.au s (o+l*sz) (h-l) (if h=l then 1 else(h-l)*sz),σ)else none
   |_=>none
  |_=>none
 | .arrOf len a=>match get a with
  | .au s o n _=>if len≤n∧0< n then some (.ref s o,σ)else none
  | .sl _ n cs=>if len≤n∧0< n then some (.ptr cs 0,σ)else none
  |_=>none
 | .mkSlice d e sz bytes zero n=>match asNat (get n)with
  |some n=>if n*bytes≤room∧n≤room then some (.sl (.own (8*d) e) n (List.replicate n zero).flatten,σ.strip (2*d))else none
  |none=>none
 | .mkCap d e bytes n=>match asNat (get n)with
  |some n=>if n*bytes≤room∧n≤room then some (.sl (.own (8*d) e) 0 [],σ.strip (2*d))else none
  |none=>none
 | .mkBox s sz bytes zero n=>match asNat (get n),σ.boxes[s]? with
  |some n,some none=>if n*bytes≤room∧n≤room∧s%2=0 then some (.au s 0 n (n*sz),{σ with boxes:=σ.boxes.set s (some (List.replicate n zero).flatten)})else none
  |_,_=>none
 | .bslice d e sz len zero parts=>do
  let cs←df (fun a=>(get a).cL) (List.replicate len zero).flatten parts
  if len≤65536∧len*sz≤16777216∧bj cs then some (.sl (if len=0 then .clip else .own (8*d) e) len cs,σ.strip (2*d))else none
 | .bsliceB s sz len zero parts=>match σ.boxes[s]? with
  |some none=>(df get (List.replicate len zero).flatten parts).bind fun cs=>
   if len≤65536∧len*sz≤16777216∧s%2=0 then some (.au s 0 len (len*sz),{σ with boxes:=σ.boxes.set s (some cs)})else none
  |_=>none
 | .append d e sz bytes zero kind a b=>
  match get a,iP σ.boxes kind sz zero (get b)with
  | .sl g n xs,some (m,ys)=>
   if xs.length=n*sz∧ys.length=m*sz∧(n+m)*bytes≤room∧n+m≤room∧dJ (get b) ys=true then
    match g with
    | .own k e'=>if e'=e then some (.sl (.own (8*d) e) (n+m) (xs++ys),(σ.strip (2*k+1)).strip (2*d))else none
    | .nil=>if n=0 then some (.sl (.own (8*d) e) m ys,σ.strip (2*d))else none
    | .clip=>if m=0 then(if n=0 then some (.sl (.own (8*d) e) 0 [],σ.strip (2*d))else none)else some (.sl (.own (8*d) e) (n+m) (xs++ys),σ.strip (2*d))
    | .l9=>if m=0 then some (.sl .any n xs,σ)else none
    | .any=>if m=0 then some (.sl .any n xs,σ)else none
   else none
  |_,_=>none
 | .appendB s e sz bytes zero kind a b=>
  match get a,iP σ.boxes kind sz zero (get b),σ.boxes[s]? with
  | .sl g n _,some (m,ys),some none=>
   if n=0∧ys.length=m*sz∧m*bytes≤room∧m≤room∧dJ (get b) ys=true∧s%2=0 then
    match g with
    | .own k e'=>if e'=e∧0< m then some (.au s 0 m (m*sz),{σ.strip (2*k+1)with boxes:=(σ.strip (2*k+1)).boxes.set s (some ys)})else none
    | .nil=>some (.au s 0 m (m*sz),{σ with boxes:=σ.boxes.set s (some ys)})
    | .clip=>some (.au s 0 m (m*sz),{σ with boxes:=σ.boxes.set s (some ys)})
    |_=>none
   else none
  | .au s' o n c,some (m,ys),some old=>
   if o=0∧(s=s'∨old.isNone=true)∧s%2=0∧(0< n∧c=n*sz∨n=0∧(c=0∨c=1+sz))∧n*sz≤((ai σ.boxes s').getD []).length∧ys.length=m*sz∧(n+m)*bytes≤room∧n+m≤room∧dJ (get b) ys=true then
    some (.au s 0 (n+m) (if n+m=0 then c else(n+m)*sz),{σ.drop s' with boxes:=(σ.drop s').boxes.set s (some (ah (fun x=>if x=s' then none else some x) some (((ai σ.boxes s').getD []).take (n*sz))++ys))})
   else none
  |_,_,_=>none
 | .clearS sz zero a=>match get a with
  | .au s o n c=>match σ.boxes[s]? with
   |some (some cs)=>if s%2=0∧(n=0∨c=n*sz)∧zero.length=sz∧o+n*sz≤cs.length∧zero.all T.one then some (.undef,{σ with boxes:=σ.boxes.set s (some (setCells cs o (List.replicate n zero).flatten))})else none
   |_=>none
  |_=>none
 | .mkMap s=>match σ.boxes[s]? with
  |some none=>if s%2=1 then some (T.aQ s,{σ with boxes:=σ.boxes.set s (some [])})else none
  |_=>none
 | .lookup k zero ok a i=>match get a with
  | .aQ s=>match σ.boxes[s]? with
   |some (some cs)=>(mB k (get i) cs).bind fun r=>match r with
    |some v=>some (if ok then .al [v,T.bool true]else v,σ)
    |none=>some (if ok then .al [zero,T.bool false]else zero,σ)
   |_=>none
  |_=>none
 | .mapUpdate k a i x=>match get a with
  | .aQ s=>match σ.boxes[s]? with
   |some (some cs)=>(tn k (get i) (get x) cs).map fun b9=>(.undef,{σ with boxes:=σ.boxes.set s (some b9)})
   |_=>none
  |_=>none
 | .lenM a=>match get a with
  | .aQ s=>match σ.boxes[s]? with
   |some (some cs)=>some (T.int (cs.length / 2:Nat),σ)
   |_=>none
  |_=>none
 | .len str a=>(jE str (get a)).map (·,σ)
 | .thaw d e sz a=>match get a with
  | .au s o n c=>
   if o=0∧(0< n∧c=n*sz∨n=0∧(c=0∨c=1+sz))∧n*sz≤((ai σ.boxes s).getD []).length∧bj (((ai σ.boxes s).getD []).take (n*sz))=true then
    some (.sl (.own (8*d) e) n (((ai σ.boxes s).getD []).take (n*sz)),(σ.drop s).strip (2*d))
   else none
  |t=>some (t,σ)
 | .capS a=>match get a with
  | .sl .nil _ _=>some (T.int 0,σ)
  | .sl .clip n _=>some (T.int n,σ)
  | .au _ _ 0 0=>some (T.int 0,σ)
  |_=>none
 | .minMax mx as=>match as.map get with
  | .v (.int k x)::rest=>(nD mx x rest).map fun r=>(.v (.int k r),σ)
  |_=>none
 | .part k a=>match get a with
  | .v (.complex f re im)=>some (.v (.float f (if k=0 then re else im)),σ)
  |_=>none
 | .cplx a b=>match get a,get b with
  | .v (.float k re),.v (.float k' im)=>if k=k' then some (.v (.complex k re im),σ)else none
  |_,_=>none
 | .copy sz a b=>
  let src:Option (Nat×List T):=match get b with
   | .sl _ m ys=>some (m,ys)
   | .v (.string s)=>if sz=1 then some (s.size,s.data.toList.map fun(b:UInt8)=>T.u8 b.toNat)else none
   |_=>none
  match get a,src with
  | .au s o n _,some (m,ys)=>match σ.boxes[s]? with
   |some (some cs)=>
    if ys.length=m*sz∧o+n*sz≤cs.length∧0< n then some (T.int (min m n:Nat),{σ with boxes:=σ.boxes.set s (some (setCells cs o (ys.take (min m n*sz))))})else none
   |_=>none
  |_,_=>none
 | .call d f as=>cW C σ d f (as.map get)
 | .callv d f as=>match eQ (get f)with
  |some (f,first,cap)=>cW C σ d f (first++as.map get++cap)
  |none=>none
 | .callnew d ad f as=>dL C σ d ad f (as.map get)
 | .callio d ad f as=>ez C σ d ad f (as.map get)
 | .callvio d ad f as=>match eQ (get f)with
  |some (f,first,cap)=>ez C σ d ad f (first++as.map get++cap)
  |none=>none
 | .mkFunc fn first cap=>some (.bq fn (first.map get) (cap.map get),σ)
 | .nilCheck a=>match get a with
  | .ref s o=>some (.ref s o,σ)
  | .ptr cs o=>some (.ptr cs o,σ)
  | .bq (.func f) a b=>some (.bq (.func f) a b,σ)
  | .v (.func (.func f) a b)=>some (.v (.func (.func f) a b),σ)
  |_=>none
 where
 cW (C:FuncId→List T→Option T) (σ:St) (d:Nat) (f:FuncId) (as:List T):Option (T×St):=do
  let cs←as.mapM (close σ.boxes 6)
  let r←ue C f cs
  if aZ as&& !r.fresh then none else some (r.import d,σ.strip (2*d))
 dL (C:FuncId→List T→Option T) (σ:St) (d:Nat) (ad:List Nat) (f:FuncId) (as:List T):Option (T×St):=
  if aZ as then none else
  match C (an+f) [.al (as.map fun t=>t.fG.aj (iU []) fun _=>none),.al []]with
  |some (.al [r,.al outs])=>
   if outs.length=2*ad.length∧ad.all (fun s=>s%2==0&&dK σ.boxes s&&dK σ.boxes (s+1)&&σ.ay s&&σ.ay (s+1))∧ad.Nodup then
    some (r.aj (dC [] ad) (fH d),{σ.strip (2*d)with boxes:=eJ (dC [] ad) (fH d) (outs.map eD) 0 (σ.strip (2*d)).boxes})
   else none
  |_=>none
 ez (C:FuncId→List T→Option T) (σ:St) (d:Nat) (ad:List Nat) (f:FuncId) (as:List T):Option (T×St):=
  let ss:=reach σ.boxes 10000 [] (dZ as)
  let fs:=ss.flatMap fun s=>gX ((ai σ.boxes s).getD [])
  match C (an+f) [.al (as.map fun t=>t.fG.aj (iU ss) fun _=>none),
    .al ((List.range (2*ss.length)).map fun l=>As (((fF ss l).bind (ai σ.boxes)).map (ah (iU ss) (rM fs))))]with
  |some (.al [r,.al outs])=>
   if outs.length=2*(ss.length+ad.length)∧ad.all (fun s=>s%2==0&&dK σ.boxes s&&dK σ.boxes (s+1)&& !ss.contains s&& !ss.contains (s+1))∧ad.Nodup∧ss.Nodup∧ss.all (fun s=>(ai σ.boxes s).isSome)then
    some (r.aj (dC ss ad) (fH d),⟨ah (jb ss outs) (gu d fs) σ.rs,ah (jb ss outs) (gu d fs) σ.vars,
     eJ (dC ss ad) (fH d) (outs.map eD) 0 (σ.boxes.map (Option.map (ah (jb ss outs) (gu d fs))))⟩)
   else none
  |_=>none
def T.bJ:T:= .v Go.undef
def bU(rs:List T):Option (Nat×Bool)→Option Bool
 |none=>some true
 |some (j,want)=>match rs[j]? with
  |some (.v (.bool b))=>some (b==want)
  |some (.v (.tuple _))=>some false
  |_=>none
def eZ(C:FuncId→List T→Option T):St→List (Option (Nat×Bool)×IOp)→Option St
 |σ,[]=>some σ
 |σ,(g,o)::rest=>(bU σ.rs g).bind fun go=>
  if go then(ae C σ o).bind fun p=>eZ C {p.2 with rs:=p.2.rs++[p.1]} rest
  else eZ C {σ with rs:=σ.rs++[T.bJ]} rest
def fJ(rs:List T)(vars:List T)(outs:List (Option Nat)):List T:=
 List.zipWith (fun t o=>match o with|some j=>rs.getD j .undef|none=>t) vars outs
def wA(C:FuncId→List T→Option T)(σ:St)(r:RF):Option St:=do
 let σ'←eZ C {σ with rs:=[]} r.ops
 some ⟨[],fJ σ'.rs σ'.vars r.outs,σ'.boxes⟩
inductive Out where
 |norm (σ:St)|exit (id:Nat) (σ:St)|ret (σ:St)
 deriving Inhabited
def pv(f:St→Option Out):Nat→St→Option Out
 |0,_=>none
 |n+1,σ=>match f σ with
  |some (.norm σ')=>pv f n σ'
  |o=>o
def cE:Nat:=1000000
def sJ(f:St→Option Out)(id:Nat):Nat→St→Option Out
 |0,_=>none
 |n+1,σ=>match f σ with
  |some (.exit j σ')=>if j=id then sJ f id n σ' else if j< cE then some (.exit j σ')else none
  |o=>o
def er:List Nat→List T→List T
 | [],vars=>vars
 |v::vs,vars=>er vs (vars.set v .undef)
def cB:List Nat→St→Option St
 | [],σ=>some σ
 |s::ss,σ=>if σ.ay s then cB ss {σ with boxes:=σ.boxes.set s none}else none
def jc(ss:List Nat)(bx:List (Option (List T))):List (Option (List T)):=
 (List.range bx.length).map fun s=>if ss.contains s then(ai bx s).map (ah (fun s=>if ss.contains s then some s else none) fun _=>none)else none
def vQ(ss:List Nat)(bx:List (Option (List T))):List (Option (List T)):=
 (List.range bx.length).map fun s=>if ss.contains s then none else(ai bx s).map (ah (fun s=>if ss.contains s then none else some s) some)
def pw(ss:List Nat)(TF bx:List (Option (List T))):List (Option (List T)):=
 (List.range bx.length).map fun s=>if ss.contains s then ai TF s else ai bx s
def scal:T→Bool
 | .v _=>true
 | .agg ts=>ts.all T.A4
 |_=>false
def vR(ys:List T):Bool:=ys.all fun y=>match y with
 | .al ts=>ts.all scal
 |_=>false
def cM:List Nat→List T→List T→List T
 |p::ps,t::ts,vars=>cM ps ts (vars.set p t)
 |_,_,vars=>vars
def dD(K:Nat)(bx:List (Option (List T))):List (Option (List T)):=List.replicate K none++bx.map (Option.map (ah (fun s=>some (s+K)) some))
def bD(K:Nat)(bx:List (Option (List T))):List (Option (List T)):=(bx.drop K).map (Option.map (ah (fun s=>if K≤s then some (s-K)else none) some))
def fv(bx:List (Option (List T)))(vars:List T):List T:=ah (fun s=>if(ai bx s).isSome then some s else none) (fun _=>none) vars
def ml(run:St→Option Out)(K:Nat)(ps:List Nat):List T→List T→List (Option (List T))→Option St
 | [],vars,bx=>some ⟨[],vars,bx⟩
 | .al y::ys,vars,bx=>if y.length=ps.length then
   match run ⟨[],cM ps y (ah (fun s=>some (s+K)) (fun _=>none) vars),dD K bx⟩with
   |some (.norm σ)=>ml run K ps ys (fv (bD K σ.boxes) vars) (bD K σ.boxes)
   |_=>none
  else none
 |_::_,_,_=>none
def exec(C:FuncId→List T→Option T)(N:Nat):IC→St→Option Out
 | .skip,σ=>some (.norm σ)
 | .A5 r,σ=>(wA C σ r).map .norm
 | .seq a b,σ=>match exec C N a σ with
  |some (.norm σ')=>exec C N b σ'
  |o=>o
 | .cond c a b,σ=>match c.get σ with
  | .v (.bool t)=>if t then exec C N a σ else exec C N b σ
  |_=>none
 | .block id a,σ=>match exec C N a σ with
  |some (.exit j σ')=>if j=id then some (.norm σ')else some (.exit j σ')
  |o=>o
 | .loop a,σ=>pv (exec C N a) N σ
 | .kT a,σ=>match exec C N a σ with
  |some (.exit j σ')=>if j< cE then some (.exit j σ')else none
  |o=>o
 | .jumps id a b,σ=>match exec C N a σ with
  |some (.exit j σ')=>if j=id then sJ (exec C N b) id N σ' else if j< cE then some (.exit j σ')else none
  |o=>o
 | .range K g ps a b,σ=>match eQ (g.get σ)with
  |some (f,[],caps)=>
   let ss:=reach σ.boxes 10000 [] (dZ caps)
   ((ah (fun s=>if ss.contains s then some s else none) (fun _=>none) caps).mapM (close (jc ss σ.boxes) 8)).bind fun cs=>
   match C (an+f) [.al cs]with
   |some (.al ys)=>
    (ml (fun σ=>match exec C N a σ with
     |some (.norm az)=>exec C N b az
     |_=>none) K ps ys (ah (fun s=>if ss.contains s then none else some s) (fun _=>none) σ.vars) (vQ ss σ.boxes)).map fun σ'=>
     .norm (if vR ys&&ss.all (fun s=>dK σ'.boxes s)then {σ' with boxes:=pw ss (jc ss σ.boxes) σ'.boxes}else σ')
   |_=>none
  |_=>none
 | .exit id,σ=>some (.exit id σ)
 | .ret,σ=>some (.ret σ)
 | .kill vs,σ=>some (.norm {σ with vars:=er vs σ.vars})
 | .free ss,σ=>(cB ss σ).map .norm
def vS(σ:St):Ar→Option T
 | .var i=>σ.vars[i]?
 | .cell i isAgg n=>match σ.vars[i]? with
  |some (.ref s off)=>match σ.boxes[s]? with
   |some (some cs)=>one? isAgg n cs off
   |_=>none
  |_=>none
def A7(i:Nat):CM→T→T
 | .raw,t=>t
 | .any,t=>t.cL
 | .own e,.sl .nil 0 []=> .sl (.own (8*(ko+ko+i)) e) 0 []
 | .own _,t=>t
 | .box s,.sl .nil 0 []=> .au s 0 0 0
 | .box _,t=>t
def fU:Nat→List CM→List T→List T
 |i,c::cs,t::ts=>A7 i c t::fU (i+1) cs ts
 |_,_,ts=>ts
def c9(σ:St)(rs:List Ar)(canon:List CM):Option T:=do
 let ts←rs.mapM (vS σ)
 match fU 0 canon ts with
 | [t]=>some t
 |ts=>some (.al ts)
def kp(bx:List (Option (List T)))(t:T):Option T:=
 if t.aU then close bx 8 t else if t.eO.Nodup then some (t.aj (fun _=>none) (t.eO.idxOf? ·))else none
def sK(C:FuncId→List T→Option T)(N:Nat)(fn:aC)(args:List T):Option T:=
 if args.length=fn.nparams then
  match exec C N fn.body ⟨[],args++List.replicate (fn.kj-fn.nparams) .undef,List.replicate (2*fn.eK) none⟩with
  |some (.norm σ)|some (.ret σ)=>(c9 σ fn.results fn.canon).bind (kp σ.boxes)
  |_=>none
 else none
def fh(nb K:Nat)(own:List Nat)(s:Nat):Option Nat:=if s< nb then(own.idxOf? s).map (fun i=>2*(K+i)+s%2)else if s< nb+2*K then some (s-nb)else none
def mC(nb K:Nat)(own:List Nat)(l:Nat):Option Nat:=
 (if l< 2*K then some (l+nb)else fF own (l-2*K)).bind fun s=>if fh nb K own s=some l then some s else none
def ou(nb K:Nat)(own fs:List Nat)(bx:List (Option (List T)))(t:T):T:=
 .al [t.aj (fh nb K own) (fs.idxOf? ·),.al ((List.range (2*(K+own.length))).map fun l=>
  As ((mC nb K own l).bind fun s=>if s< nb then some (ah (fh nb K own) (fs.idxOf? ·) ((ai bx s).getD []))else(ai bx s).map (ah (fh nb K own) (fs.idxOf? ·))))]
def vT(nb K:Nat):List Nat:=(List.range (2*K)).map (· +nb)
def uf(nb K:Nat)(bx:List (Option (List T)))(t:T):List Nat:=
 (reach bx 10000 [] (t.refs++(vT nb K).flatMap fun s=>dZ ((ai bx s).getD []))).filter (· < nb)
def fV(nb K:Nat)(bx:List (Option (List T)))(t:T):T:=
 ou nb K (uf nb K bx t) (t.eO++(vT nb K++uf nb K bx t).flatMap fun s=>gX ((ai bx s).getD [])) bx t
def nA(C:FuncId→List T→Option T)(N:Nat)(fn:aC)(args:List T)(ins:List (Option (List T))):Option T:=
 let nb:=2*fn.eK
 if args.length=fn.nparams∧ins.length%2=0 then
  match exec C N fn.body ⟨[],(args.map (T.aj (fun l=>some (l+nb)) some))++List.replicate (fn.kj-fn.nparams) .undef,
    List.replicate nb none++ins.map (Option.map (ah (fun l=>some (l+nb)) some))⟩with
  |some (.norm σ)|some (.ret σ)=>(c9 σ fn.results fn.canon).map (fV nb (ins.length / 2) σ.boxes)
  |_=>none
 else none
mutual
def T.same:T→T→Bool
 | .undef,.undef=>true
 | .sl g n [],.sl g' n' []=>decide (g=g')&&n==n'
 | .ref s o,.ref s' o'=>s==s'&&o==o'
 | .au s o n c,.au s' o' n' c'=>s==s'&&o==o'&&n==n'&&c==c'
 | .aQ s,.aQ s'=>s==s'
 | .agg ts,.agg us=>Ch ts us
 | .al ts,.al us=>Ch ts us
 |_,_=>false
def Ch:List T→List T→Bool
 | [],[]=>true
 |t::ts,u::us=>t.same u&&Ch ts us
 |_,_=>false
end
def splits:List T→List (List T)
 | []=>[[]]
 | .sl .any 0 []::ts=>(splits ts).map (.sl .nil 0 []::·)++(splits ts).map (.sl .l9 0 []::·)
 |t::ts=>(splits ts).map (t::·)
def jd(split:Bool)(args:List T)(f:List T→Option T):Option T:=
 if split then match(splits args).mapM f with
  |some (r::rs)=>if rs.all (T.same r)then some r else none
  |_=>none
 else f args
def fi:T→Bool
 | .v (.func (.yield _) _ _)=>true
 |_=>false
def yT(l:Nat):T:= .v (.func (.yield l) #[] #[])
def mD(C:FuncId→List T→Option T)(σ:St)(o:IOp):Option (T×St×List (List T)):=
 if o.reads.all fun x=> !fi (x.get σ)then(ae C σ o).bind fun p=>if fi p.1 then none else some (p.1,p.2,[])else none
def A8(l:Nat)(σ:St)(t:T)(ts:List T):Option (T×St×List (List T)):=
 match t with
 | .v (.func (.yield l') a b)=>if l'=l∧a.size=0∧b.size=0∧ts.all scal=true∧ts.all (fun t=> !fi t)=true then some (T.bool true,σ,[ts])else none
 |_=>none
def rN(C:FuncId→List T→Option T)(l:Nat)(σ:St):IOp→Option (T×St×List (List T))
 | .callv d f as=>if fi (f.get σ)then(match f with| .c _=>none|_=>A8 l σ (f.get σ) (as.map (ag.get σ)))else mD C σ (.callv d f as)
 | .mv (.c t)=>if fi t then none else some (t,σ,[])
 | .mv a=>some (a.get σ,σ,[])
 |o=>mD C σ o
def nm(C:FuncId→List T→Option T)(l:Nat):St→List (Option (Nat×Bool)×IOp)→Option (St×List (List T))
 |σ,[]=>some (σ,[])
 |σ,(g,o)::rest=>(bU σ.rs g).bind fun go=>
  if go then(rN C l σ o).bind fun p=>(nm C l {p.2.1 with rs:=p.2.1.rs++[p.1]} rest).map fun q=>(q.1,p.2.2++q.2)
  else nm C l {σ with rs:=σ.rs++[T.bJ]} rest
def kr(f:St→Option (Out×List (List T))):Nat→St→Option (Out×List (List T))
 |0,_=>none
 |n+1,σ=>match f σ with
  |some (.norm σ',ys)=>(kr f n σ').map fun q=>(q.1,ys++q.2)
  |o=>o
def aS(C:FuncId→List T→Option T)(l N:Nat):IC→St→Option (Out×List (List T))
 | .skip,σ=>some (.norm σ,[])
 | .A5 r,σ=>(nm C l {σ with rs:=[]} r.ops).bind fun q=>if r.draw=true∧q.2.isEmpty=false then none else some (.norm ⟨[],fJ q.1.rs q.1.vars r.outs,q.1.boxes⟩,q.2)
 | .seq a b,σ=>match aS C l N a σ with
  |some (.norm σ',ys)=>(aS C l N b σ').map fun q=>(q.1,ys++q.2)
  |o=>o
 | .cond c a b,σ=>match c.get σ with
  | .v (.bool t)=>if t then aS C l N a σ else aS C l N b σ
  |_=>none
 | .block id a,σ=>match aS C l N a σ with
  |some (.exit j σ',ys)=>if j=id then some (.norm σ',ys)else some (.exit j σ',ys)
  |o=>o
 | .loop a,σ=>kr (aS C l N a) N σ
 | .kT a,σ=>match aS C l N a σ with
  |some (.exit j σ',ys)=>if j< cE then some (.exit j σ',ys)else none
  |o=>o
 | .exit id,σ=>some (.exit id σ,[])
 | .ret,σ=>some (.ret σ,[])
 | .kill vs,σ=>some (.norm {σ with vars:=er vs σ.vars},[])
 | .free ss,σ=>(cB ss σ).map fun σ'=>(.norm σ',[])
 |_,_=>none
def rO(C:FuncId→List T→Option T)(N l:Nat)(fn:aC)(caps:List T):Option (List (List T)):=
 if caps.length+1=fn.nparams∧caps.all (fun t=> !fi t)=true∧fn.results.isEmpty=true then
  match aS C l N fn.body ⟨[],yT l::caps++List.replicate (fn.kj-fn.nparams) .undef,List.replicate (2*fn.eK) none⟩with
  |some (.norm _,ys)|some (.ret _,ys)=>some ys
  |_=>none
 else none
structure Env where
 fn:FuncId→Option aC
 kF:FuncId→Option (List T→Option T)
def aV(E:Env):Nat→FuncId→List T→Option T
 |0,_,_=>none
 |n+1,f,args=>match E.kF f with
  |some g=>g args
  |none=>if f< an then(match E.fn f with
    |some fn=>jd fn.split args (sK (aV E n) n fn)
    |none=>none)
   else(match E.fn (f-an),args with
    |some fn,[.al as,.al ins]=>jd fn.split as fun as=>nA (aV E n) n fn as (ins.map eD)
    |some fn,[.al caps]=>(rO (aV E n) n 0 fn caps).map fun ys=> .al (ys.map .al)
    |_,_=>none)
end Go.Vi
end
section
set_option maxRecDepth 100000
namespace Go.Vi.Zz
open Go Go.Vi
abbrev mx(i:Nat):Option (Nat×Bool)×IOp:=(none,.mv (.x i))
abbrev mr(i:Nat):Option (Nat×Bool)×IOp:=(none,.mv (.r i))
abbrev mi(i:Int):Option (Nat×Bool)×IOp:=(none,.mv (.c (T.v (.int .i64 i))))
abbrev ci(i:Int):ag:= .c (T.v (.int .i64 i))
abbrev nn:Option Nat:=none
@[simp] def ov:Nat→Nat→List Nat→List (Option Nat)
 |0,_,_=>[]
 |n+1,i,j::v::l=>if i=j then some v::ov n (i+1) l else none::ov n (i+1) (j::v::l)
 |n+1,i,l=>none::ov n (i+1) l
abbrev rg(l:List (Option (Nat×Bool)×IOp))(n:Nat)(o:List Nat):IC:= .A5 ⟨l,ov n 0 o,false⟩
abbrev rd(l:List (Option (Nat×Bool)×IOp))(n:Nat)(o:List Nat):IC:= .A5 ⟨l,ov n 0 o,true⟩
def ug:Nat:=5
def QS:Nat:=6
def gh:Nat:=7
def gH:Nat:=8
def qP:Nat:=9
def Ci:Nat:=10
def DX:Nat:=11
def cf:Nat:=12
def sL:Nat:=13
def uh:Nat:=14
def je:Nat:=15
def qQ:Nat:=16
def lF:Nat:=17
def jP:Nat:=18
def jf:Nat:=19
def lG:Nat:=20
def vU:Nat:=21
def xr:Nat:=22
def vV:Nat:=23
def wB:Nat:=24
def MM:Nat:=25
def yE:Nat:=26
def xt:Nat:=27
def fQ:Nat:=28
def jQ:Nat:=29
def mm:Nat:=30
def Au:Nat:=31
def aP:Nat:=32
def oN:Nat:=33
def kU:Nat:=34
def rP:Nat:=35
def bP:Nat:=36
def gv:Nat:=37
def gw:Nat:=38
def yF:Nat:=39
def ku:Nat:=40
def Av:Nat:=41
def tp:Nat:=42
def yG:Nat:=43
def Aw:Nat:=44
def jz:Nat:=45
def jA:Nat:=46
def xu:Nat:=47
def sM:Nat:=48
def kG:Nat:=49
def kI:Nat:=50
def fj:Nat:=51
def mn:Nat:=52
def yH:Nat:=53
def vW:Nat:=54
def xw:Nat:=55
def rQ:Nat:=56
def fk:Nat:=57
def gi:Nat:=58
def gO:Nat:=59
def sO:Nat:=60
def cY:Nat:=61
def ab:Nat:=62
def sP:Nat:=63
def vy:Nat:=64
def jF:Nat:=65
def Cj:Nat:=66
def oO:Nat:=67
def ow:Nat:=68
def gE:Nat:=69
def tG:Nat:=70
def Ax:Nat:=71
def ui:Nat:=72
def mE:Nat:=73
def yI:Nat:=74
def pM:Nat:=75
def ox:Nat:=76
def bg:Nat:=77
def bR:Nat:=78
def MN:Nat:=79
def mF:Nat:=80
def MO:Nat:=81
def lH:Nat:=82
def mG:Nat:=83
def pN:Nat:=84
def xx:Nat:=85
def j2:Nat:=86
def jg:Nat:=87
def sQ:Nat:=88
def gY:Nat:=89
def dX:Nat:=90
def oP:Nat:=91
def fW:Nat:=92
def cx:Nat:=93
def Ck:Nat:=94
def gP:Nat:=95
def j3:Nat:=96
def dr:Nat:=97
def sR:Nat:=100
def sS:Nat:=101
def Ay:Nat:=102
def uj:Nat:=103
def j4:Nat:=104
def Az:Nat:=105
def ea:Nat:=106
def Df:Nat:=107
def MP:Nat:=108
def kJ:Nat:=109
def QT:Nat:=110
def AA:Nat:=111
def AD:Nat:=112
def AE:Nat:=113
def K1:Nat:=114
def pO:Nat:=115
def yJ:Nat:=116
def xy:Nat:=117
def lr:Nat:=118
def lJ:Nat:=119
def gj:Nat:=131
def iZ:Nat:=132
def vz:Nat:=133
def oQ:Nat:=134
def xz:Nat:=135
def cU:Nat:=136
def No:Nat:=137
def MQ:Nat:=138
def vX:Nat:=139
def Cm:Nat:=140
def gZ:Nat:=141
def AF:Nat:=142
def pP:Nat:=143
def vY:Nat:=144
def xA:Nat:=145
def uk:Nat:=152
def sT:Nat:=153
def MR:Nat:=154
def xZ:Nat:=155
def pk:Nat:=156
def iB:Nat:=157
def xB:Nat:=158
def vA:Nat:=160
def jB:Nat:=161
@[simp] theorem A9:ug< an:=by decide
@[simp] theorem adO:gh< an:=by decide
@[simp] theorem aaR:gH< an:=by decide
@[simp] theorem acZ:qP< an:=by decide
@[simp] theorem adP:cf< an:=by decide
@[simp] theorem afz:uh< an:=by decide
@[simp] theorem aaS:je< an:=by decide
@[simp] theorem ac0:qQ< an:=by decide
@[simp] theorem afA:lF< an:=by decide
@[simp] theorem QQ:jP< an:=by decide
@[simp] theorem M0:jf< an:=by decide
@[simp] theorem afB:lG< an:=by decide
@[simp] theorem afT:vU< an:=by decide
@[simp] theorem adQ:xr< an:=by decide
@[simp] theorem afU:vV< an:=by decide
@[simp] theorem QU:fQ< an:=by decide
@[simp] theorem afV:jQ< an:=by decide
@[simp] theorem adR:mm< an:=by decide
@[simp] theorem afW:Au< an:=by decide
@[simp] theorem RG:aP< an:=by decide
@[simp] theorem adS:oN< an:=by decide
@[simp] theorem afX:rP< an:=by decide
@[simp] theorem QV:bP< an:=by decide
@[simp] theorem Np:gv< an:=by decide
@[simp] theorem Nq:gw< an:=by decide
@[simp] theorem afC:yF< an:=by decide
@[simp] theorem aaT:ku< an:=by decide
@[simp] theorem afY:Av< an:=by decide
@[simp] theorem aaO:tp< an:=by decide
@[simp] theorem afD:yG< an:=by decide
@[simp] theorem afZ:Aw< an:=by decide
@[simp] theorem TG:jz< an:=by decide
@[simp] theorem TH:jA< an:=by decide
@[simp] theorem adT:xu< an:=by decide
@[simp] theorem adU:sM< an:=by decide
@[simp] theorem adV:kG< an:=by decide
@[simp] theorem adW:kI< an:=by decide
@[simp] theorem afE:fj< an:=by decide
@[simp] theorem adX:mn< an:=by decide
@[simp] theorem af0:rQ< an:=by decide
@[simp] theorem afF:fk< an:=by decide
@[simp] theorem af1:gi< an:=by decide
@[simp] theorem af2:gO< an:=by decide
@[simp] theorem adY:sO< an:=by decide
@[simp] theorem adZ:cY< an:=by decide
@[simp] theorem QW:ab< an:=by decide
@[simp] theorem ad0:sP< an:=by decide
@[simp] theorem aaP:jF< an:=by decide
@[simp] theorem ah9:Cj< an:=by decide
@[simp] theorem ad1:oO< an:=by decide
@[simp] theorem RH:ow< an:=by decide
@[simp] theorem af3:Ax< an:=by decide
@[simp] theorem aaU:ui< an:=by decide
@[simp] theorem aaV:mE< an:=by decide
@[simp] theorem afG:yI< an:=by decide
@[simp] theorem VT:pM< an:=by decide
@[simp] theorem aaQ:ox< an:=by decide
@[simp] theorem afH:bR< an:=by decide
@[simp] theorem afI:lH< an:=by decide
@[simp] theorem aaW:mG< an:=by decide
@[simp] theorem aiP:pN< an:=by decide
@[simp] theorem ad2:xx< an:=by decide
@[simp] theorem aiQ:j2< an:=by decide
@[simp] theorem aia:jg< an:=by decide
@[simp] theorem ad3:sQ< an:=by decide
@[simp] theorem ad4:gY< an:=by decide
@[simp] theorem ad5:dX< an:=by decide
@[simp] theorem ad6:oP< an:=by decide
@[simp] theorem VU:fW< an:=by decide
@[simp] theorem aib:Ck< an:=by decide
@[simp] theorem af4:gP< an:=by decide
@[simp] theorem J0:j3< an:=by decide
@[simp] theorem QR:dr< an:=by decide
@[simp] theorem ad7:sR< an:=by decide
@[simp] theorem ad8:sS< an:=by decide
@[simp] theorem af5:Ay< an:=by decide
@[simp] theorem afJ:uj< an:=by decide
@[simp] theorem VV:j4< an:=by decide
@[simp] theorem af6:Az< an:=by decide
@[simp] theorem aic:ea< an:=by decide
@[simp] theorem af7:AA< an:=by decide
@[simp] theorem af8:AD< an:=by decide
@[simp] theorem af9:AE< an:=by decide
@[simp] theorem akY:pO< an:=by decide
@[simp] theorem afK:yJ< an:=by decide
@[simp] theorem ad9:xy< an:=by decide
@[simp] theorem aga:lr< an:=by decide
@[simp] theorem M1:lJ< an:=by decide
@[simp] theorem aea:gj< an:=by decide
@[simp] theorem agb:iZ< an:=by decide
@[simp] theorem ac1:vz< an:=by decide
@[simp] theorem aeb:oQ< an:=by decide
@[simp] theorem aec:xz< an:=by decide
@[simp] theorem afL:cU< an:=by decide
@[simp] theorem agc:vX< an:=by decide
@[simp] theorem aid:Cm< an:=by decide
@[simp] theorem aed:gZ< an:=by decide
@[simp] theorem agd:AF< an:=by decide
@[simp] theorem afM:pP< an:=by decide
@[simp] theorem age:vY< an:=by decide
@[simp] theorem aee:xA< an:=by decide
@[simp] theorem afN:uk< an:=by decide
@[simp] theorem aef:sT< an:=by decide
@[simp] theorem aie:xZ< an:=by decide
@[simp] theorem TI:pk< an:=by decide
@[simp] theorem aeg:xB< an:=by decide
@[simp] theorem ac2:vA< an:=by decide
@[simp] theorem TJ:jB< an:=by decide
abbrev qa:T:=T.v (.int .i64 0)
abbrev qb:Option (Nat×Bool)×IOp:=(none,.mv (.c (T.v (.bool false))))
abbrev qc(n0:Nat)(n1:Nat):IOp:= .load false n0 (.r n1)
abbrev qd(n0:Nat)(n1:Nat):Option (Nat×Bool)×IOp:=(none,.pick (.r n0) (.c (T.v (.bool true))) (.r n1))
abbrev qe(n0:Nat)(n1:Nat):Option (Nat×Bool)×IOp:=(none,.faddr n0 (.x n1))
abbrev qf(n0:Nat)(n1:Nat):Option (Nat×Bool)×IOp:=(none,.pick (.r n0) (.r n1) (.c (T.v (.bool false))))
abbrev qg:Option (Nat×Bool)×IOp:=(none,.mv (.c (T.sl .nil 0 [])))
abbrev qh(n0:Nat)(n1:Nat):Option (Nat×Bool)×IOp:=(none,.load true n0 (.x n1))
abbrev qi(n0:Nat)(n1:Nat):Option (Nat×Bool)×IOp:=(none,.extract (.r n0) n1)
abbrev qj(n0:Nat)(n1:Nat)(n2:Nat)(n3:Nat):IC:= .cond (.x n0) (.seq (rg [qb] n1 [n2,n3]) .ret) .skip
abbrev qk(n0:Nat)(n1:Nat):Option (Nat×Bool)×IOp:=(some (n0,false),.mv (.x n1))
abbrev ql(n0:Nat)(n1:Nat)(n2:Nat):Option (Nat×Bool)×IOp:=(none,.store n0 (.r n1) (.r n2))
abbrev qm(n0:Nat)(n1:Nat):IC:= .cond (.x n0) .skip (.exit n1)
abbrev qn(n0:Nat):Option (Nat×Bool)×IOp:=(none,.len false (.r n0))
abbrev qo:T:=T.sl .nil 0 []
abbrev qp:T:=T.v (.string ⟨#[]⟩)
abbrev qq:Option (Nat×Bool)×IOp:=(none,.mv (.c (T.v (.bool true))))
abbrev qr:Option (Nat×Bool)×IOp:=(none,.bin .add 3 (.r 0) (ci 1))
abbrev qs(n0:Nat)(n1:Nat)(n2:Nat):Option (Nat×Bool)×IOp:=(some (n0,false),.faddr n1 (.x n2))
abbrev qt:T:=T.v (.int .u8 0)
abbrev qu(n0:Nat)(n1:Nat):Option (Nat×Bool)×IOp:=(some (n0,true),.mv (.x n1))
abbrev qv(n0:Nat)(n1:Nat):Option (Nat×Bool)×IOp:=(none,qc n0 n1)
abbrev qw(n0:Nat)(n1:Nat)(n2:Nat):Option (Nat×Bool)×IOp:=(none,.call n0 n1 [.r n2])
abbrev qx:Option (Nat×Bool)×IOp:=(none,.box 0 (.x 0))
abbrev qy(n0:Nat)(n1:Nat)(n2:Nat):Option (Nat×Bool)×IOp:=(none,.iaddrS n0 (.r n1) (.r n2))
abbrev qz(n0:Nat)(n1:Nat)(n2:Nat):Option (Nat×Bool)×IOp:=(some (n0,true),.faddr n1 (.x n2))
abbrev VW(n0:Nat):IOp:= .un .not (.r n0)
abbrev dM(n0:Nat)(n1:Nat)(n2:Nat):Option (Nat×Bool)×IOp:=(some (n0,false),qc n1 n2)
abbrev pz(n0:Nat)(n1:Nat)(n2:Int)(n3:Nat)(n4:Nat)(n5:Nat)(n6:Nat):IC:=rg [(none,.bin .add n0 (.x n1) (ci n2)),mr n3] n4 [n5,n6]
abbrev kx(n0:Nat)(n1:Nat)(n2:Nat)(n3:Nat)(n4:Nat)(n5:Nat)(n6:Nat):Option (Nat×Bool)×IOp:=(none,.append n0 n1 n2 n3 [qt] n4 (.r n5) (.r n6))
abbrev iV(n0:Nat)(n1:Nat)(n2:Nat):Option (Nat×Bool)×IOp:=(none,.store n0 (.x n1) (.r n2))
abbrev iW(n0:Nat)(n1:Nat):Option (Nat×Bool)×IOp:=(none,.load true n0 (.r n1))
abbrev vi(n0:Nat)(n1:Nat)(n2:Int):IOp:= .bin .lss n0 (.r n1) (ci n2)
abbrev um(n0:Nat)(n1:Nat)(n2:Int):IOp:= .bin .eql n0 (.r n1) (ci n2)
abbrev xN(n0:Nat)(n1:Nat)(n2:Nat):Option (Nat×Bool)×IOp:=(none,.bin .lss n0 (.r n1) (.r n2))
abbrev ma(n0:Nat)(n1:Nat)(n2:Int):Option (Nat×Bool)×IOp:=(none,.bin .neq n0 (.r n1) (ci n2))
abbrev iu(n0:Nat)(n1:Nat)(n2:Nat)(n3:Nat)(n4:Nat):IC:=rg [mx n0,qr,mr n1] n2 [n3,n4]
abbrev jr(n0:Nat)(n1:Nat)(n2:Nat)(n3:Nat):Option (Nat×Bool)×IOp:=(none,.call n0 n1 [.r n2,.r n3])
abbrev uo(n0:Nat)(n1:Nat)(n2:Nat)(n3:Nat)(n4:Nat)(n5:Nat):IC:=rg [(none,.bin .lss n0 (.x n1) (.x n2))] n3 [n4,n5]
abbrev nV(n0:Nat)(n1:Nat)(n2:Nat):Option (Nat×Bool)×IOp:=(none,.bin .add n0 (.r n1) (.r n2))
abbrev gQ(n0:Nat)(n1:Nat)(n2:Nat):Option (Nat×Bool)×IOp:=(some (n0,true),qc n1 n2)
abbrev mH(n0:Nat)(n1:Nat):Option (Nat×Bool)×IOp:=(none,.load false n0 (.x n1))
abbrev kV(n0:Nat)(n1:Nat):Option (Nat×Bool)×IOp:=(some (n0,false),VW n1)
abbrev eb(n0:Int)(n1:Nat)(n2:Nat)(n3:Nat):IC:=rg [mi n0] n1 [n2,n3]
abbrev tH(n0:Nat)(n1:Int)(n2:Nat):Option (Nat×Bool)×IOp:=(none,.bin .mul n0 (ci n1) (.r n2))
abbrev eR:IC:= .free []
abbrev xO(n0:Nat)(n1:Nat)(n2:Nat):Option (Nat×Bool)×IOp:=(some (n0,false),.load true n1 (.x n2))
abbrev rR(n0:Nat):Option (Nat×Bool)×IOp:=(none,.toInt .i64 (.r n0))
abbrev rS(n0:Nat)(n1:Nat)(n2:Nat)(n3:Int):IOp:= .call n0 n1 [.r n2,ci n3]
abbrev qax:IC:= .seq (rg [qb] 3 [2,0]) (.seq (rg [mx 0,(none,.bin .geq 3 (.r 0) (ci 0)),mr 1,qu 2 0,qu 2 1,(some (2,true),.bin .leq 3 (.r 3) (.r 4)),qf 2 5,mr 6] 3 [2,7]) .ret)
abbrev Ba(n0:Nat)(n1:Nat)(n2:Nat)(n3:Int):Option (Nat×Bool)×IOp:=(some (n0,false),.bin .gtr n1 (.r n2) (ci n3))
abbrev cN:Option (Nat×Bool)×IOp:=qv 1 0
abbrev uq(n0:Nat)(n1:Nat)(n2:Nat):IC:= .seq (rg [qq] n0 [n1,n2]) .ret
abbrev Gl(n0:Nat)(n1:Nat)(n2:Nat)(n3:Nat):IC:= .cond (.x n0) (.seq (rg [qg] n1 [n2,n3]) .ret) .skip
abbrev RK:Option (Nat×Bool)×IOp:=(none,.build [qa,qa,qa,qa,qo,qo,qa,qa,qp,qa,qa,qa,qa] [])
abbrev yK(n0:Nat)(n1:Nat)(n2:Nat)(n3:Nat)(n4:Nat):IC:= .seq (rg [mx n0,mr n1] n2 [n3,n4]) .ret
abbrev zG(n0:Nat)(n1:Nat):Option (Nat×Bool)×IOp:=(some (n0,true),.len false (.r n1))
abbrev wC(n0:Nat)(n1:Nat)(n2:Nat)(n3:Int)(n4:Nat)(n5:Nat)(n6:Nat):IC:=rg [mx n0,(none,vi n1 n2 n3)] n4 [n5,n6]
abbrev Bb(n0:Nat)(n1:Nat):Option (Nat×Bool)×IOp:=(some (n0,false),.len false (.r n1))
abbrev eY(n0:Nat):Option (Nat×Bool)×IOp:=(none,VW n0)
abbrev RL(n0:Nat):Option (Nat×Bool)×IOp:=(none,.alloc n0 [qa,qa,qa,qa,qo,qo,qa,qa,qp,qa,qa,qa,qa])
abbrev ur(n0:Nat)(n1:Nat)(n2:Int):IOp:= .bin .sub n0 (.r n1) (ci n2)
abbrev pQ(n0:Nat)(n1:Nat):Option (Nat×Bool)×IOp:=(none,.faddr n0 (.r n1))
abbrev vj(n0:Nat):Option (Nat×Bool)×IOp:=(none,.toInt .u8 (.r n0))
abbrev rT(n0:Nat)(n1:Nat)(n2:Int):IOp:= .iaddrS n0 (.r n1) (ci n2)
abbrev qbn(n0:Nat)(n1:Nat)(n2:Nat)(n3:Nat)(n4:Nat)(n5:Nat)(n6:Nat):IC:= .cond (.x n0) (.seq (rg [(none,.build [qa,qa,qp,qa,qa,qa,qa] []),iV n1 n2 n3,qb] n4 [n5,n6]) .ret) .skip
abbrev qbo(n0:Int):T:=T.v (.int .u8 n0)
abbrev Gm(n0:Nat)(n1:Nat)(n2:Nat)(n3:Nat):Option (Nat×Bool)×IOp:=(some (n0,false),.bin .gtr n1 (.r n2) (.r n3))
abbrev Bc(n0:Nat)(n1:Nat)(n2:Int):Option (Nat×Bool)×IOp:=(none,.bin .add n0 (.r n1) (ci n2))
abbrev VX(n0:Nat)(n1:Nat)(n2:Nat)(n3:Nat)(n4:Nat)(n5:Nat):IC:= .cond (.x n0) (.seq (rg [(none,.mv (.c qp)),qb] n1 [n2,n3,n4,n5]) .ret) .skip
abbrev zH(n0:Nat)(n1:Nat)(n2:Nat)(n3:Int):Option (Nat×Bool)×IOp:=(none,.iaddrA n0 n1 (.x n2) (ci n3))
abbrev VY(n0:Nat)(n1:Nat)(n2:Nat):IC:= .seq (rg [(none,.mv (.c (T.v (.int .i64 (-1)))))] n0 [n1,n2]) .ret
abbrev Be(n0:Nat)(n1:Nat)(n2:Nat):IOp:= .bin .neq n0 (.r n1) (.r n2)
abbrev Dg(n0:Nat)(n1:Int)(n2:Nat):Option (Nat×Bool)×IOp:=(none,.bin .add n0 (ci n1) (.r n2))
abbrev DY(n0:Nat)(n1:Nat)(n2:Nat)(n3:Nat)(n4:Nat):Option (Nat×Bool)×IOp:=(some (n0,false),.call n1 n2 [.r n3,.r n4])
abbrev Bf(n0:Nat)(n1:Nat)(n2:Nat):Option (Nat×Bool)×IOp:=(none,.iaddrS n0 (.x n1) (.x n2))
abbrev Bg(n0:Nat)(n1:Nat)(n2:Nat)(n3:Int)(n4:Int):Option (Nat×Bool)×IOp:=(none,.call n0 n1 [.r n2,ci n3,ci n4])
abbrev gI:Option (Nat×Bool)×IOp:=qv 1 1
abbrev nw(n0:Nat)(n1:Nat)(n2:Nat):IC:=rg [qb] n0 [n1,n2]
abbrev Bh(n0:Nat)(n1:Nat)(n2:Nat):IOp:= .bin .eql n0 (.r n1) (.r n2)
abbrev Nr(n0:Nat)(n1:Nat)(n2:Nat)(n3:Nat)(n4:Nat)(n5:Nat)(n6:Nat):Option (Nat×Bool)×IOp:=(none,.append n0 n1 n2 n3 [qa,qa,qa,qa] n4 (.r n5) (.r n6))
abbrev qcd:IC:= .seq (nw 2 1 0) (.seq (rg [mx 0,(none,um 3 0 1),mr 1,qk 2 0,(some (2,false),um 3 3 2),qd 2 4,mr 5,qk 6 0,(some (6,false),um 3 7 4),qd 6 8,mr 9] 2 [1,10]) .ret)
abbrev Dh(n0:Nat)(n1:Nat)(n2:Nat)(n3:Nat)(n4:Nat)(n5:Nat):IOp:= .call n0 n1 [.r n2,.r n3,.r n4,.r n5]
abbrev K3(n0:Nat)(n1:Nat)(n2:Nat)(n3:Int):Option (Nat×Bool)×IOp:=(some (n0,true),.bin .neq n1 (.r n2) (ci n3))
abbrev VZ(n0:Nat)(n1:Nat)(n2:Nat):Option (Nat×Bool)×IOp:=(some (n0,false),.pick (.r n1) (.r n2) (.c (T.v (.bool false))))
abbrev yL(n0:Nat)(n1:Nat)(n2:Nat)(n3:Nat)(n4:Nat):IC:=rg [qx,qb] n0 [n1,n2,n3,n4]
abbrev Di(n0:Nat)(n1:Nat)(n2:Int):IOp:= .bin .geq n0 (.r n1) (ci n2)
abbrev qcj:IOp:= .eqa false [.int,.int,.int,.int,.int,.int,.int,.int,.int,.int] (.r 0) (.r 1)
abbrev DZ(n0:Nat)(n1:Nat)(n2:Nat)(n3:Nat)(n4:Nat):Option (Nat×Bool)×IOp:=(none,.call n0 n1 [.r n2,.r n3,.r n4])
abbrev RM(n0:Nat):Option (Nat×Bool)×IOp:=(none,.alloc n0 [qa,qa,qp,qa,qa,qa,qa])
abbrev yM(n0:Nat)(n1:Nat)(n2:Nat)(n3:Nat)(n4:Int):Option (Nat×Bool)×IOp:=(some (n0,false),rS n1 n2 n3 n4)
abbrev zI(n0:Nat):Option (Nat×Bool)×IOp:=(none,.alloc n0 [qo])
abbrev Gn(n0:Nat)(n1:Nat)(n2:Nat)(n3:Nat):Option (Nat×Bool)×IOp:=(some (n0,false),.call n1 n2 [.r n3])
abbrev K4:IC:= .kT (.exit 1000000)
abbrev H4(n0:Nat)(n1:Nat)(n2:Nat):Option (Nat×Bool)×IOp:=(some (n0,false),.faddr n1 (.r n2))
abbrev qcr:IC:= .seq (rg [mx 0,qn 0,mx 1,qn 2,(none,Be 3 1 3)] 9 [4,4]) (qj 4 9 2 0)
abbrev V0(n0:Nat)(n1:Nat)(n2:Int)(n3:Nat):Option (Nat×Bool)×IOp:=(none,.sliceT n0 (.r n1) (some (ci n2)) (some (.r n3)) none)
abbrev Gp(n0:Nat)(n1:Nat)(n2:Nat)(n3:Nat)(n4:Int):Option (Nat×Bool)×IOp:=(none,.call n0 n1 [.r n2,.r n3,ci n4])
abbrev K5(n0:Nat)(n1:Nat)(n2:Nat)(n3:Nat)(n4:Nat)(n5:Nat)(n6:Nat):Option (Nat×Bool)×IOp:=(none,.bslice n0 n1 n2 n3 [qt] [(n4,(n5,.r n6))])
abbrev rp(n0:Nat)(n1:Nat)(n2:Nat):IC:=rg [qg] n0 [n1,n2]
abbrev zJ(n0:Nat):IOp:= .len true (.r n0)
abbrev lu:Option (Nat×Bool)×IOp:=qe 0 1
abbrev aI:Option (Nat×Bool)×IOp:=mx 0
abbrev K6(n0:Nat):Option (Nat×Bool)×IOp:=(none,.alloc n0 [qa,qa,qp])
abbrev Ns(n0:Nat)(n1:Nat)(n2:Nat):Option (Nat×Bool)×IOp:=(some (n0,true),.load true n1 (.r n2))
abbrev H5(n0:Nat)(n1:Nat)(n2:Nat):IOp:= .bin .leq n0 (.r n1) (.r n2)
abbrev Nt(n0:Nat)(n1:Nat)(n2:Nat)(n3:Nat)(n4:Nat)(n5:Nat)(n6:Nat):Option (Nat×Bool)×IOp:=(none,.bslice n0 n1 n2 n3 [qa] [(n4,(n5,.r n6))])
abbrev D1(n0:Int)(n1:Nat)(n2:Nat)(n3:Nat)(n4:Nat)(n5:Nat):IC:=rg [qx,mi n0] n1 [n2,n3,n4,n5]
abbrev qde(n0:Nat)(n1:Int)(n2:Nat)(n3:Nat)(n4:Nat)(n5:Nat)(n6:Nat):IC:= .cond (.x n0) (.seq (rg [qg,mi n1] n2 [n3,n4,n5,n6]) .ret) .skip
abbrev V1(n0:Nat)(n1:Int)(n2:Nat)(n3:Nat)(n4:Nat):IC:= .cond (.x n0) (.seq (eb n1 n2 n3 n4) .ret) .skip
abbrev RN:Option (Nat×Bool)×IOp:=(none,.build [qa,qa,qp] [])
abbrev V2(n0:Nat)(n1:Nat)(n2:Nat)(n3:Nat)(n4:Nat)(n5:Nat)(n6:Nat):Option (Nat×Bool)×IOp:=(none,.bslice n0 n1 n2 n3 [qa,qa,qa,qa] [(n4,(n5,.r n6))])
abbrev V3(n0:Nat)(n1:Nat)(n2:Int)(n3:Nat)(n4:Nat)(n5:Nat):IC:=rg [(none,.bin .lss n0 (.x n1) (ci n2))] n3 [n4,n5]
abbrev qdj(n0:Nat)(n1:Nat):IOp:= .eqa false [.int,.int,.str,.int,.int,.int,.int] (.r n0) (.r n1)
abbrev Nu(n0:Nat)(n1:Nat)(n2:Nat)(n3:Nat)(n4:Nat)(n5:Nat)(n6:Nat):Option (Nat×Bool)×IOp:=(none,.append n0 n1 n2 n3 [qa] n4 (.r n5) (.r n6))
abbrev H6(n0:Nat)(n1:Nat)(n2:Nat)(n3:Nat):Option (Nat×Bool)×IOp:=(none,.bslice n0 n1 n2 n3 [qt] [])
abbrev RO(n0:Nat):Option (Nat×Bool)×IOp:=(none,.alloc n0 [qa,qa,qa,qa])
abbrev K7(n0:Nat)(n1:Nat)(n2:Int):IOp:= .bin .leq n0 (.r n1) (ci n2)
abbrev Dj(n0:Nat)(n1:Nat):Option (Nat×Bool)×IOp:=(none,.box n0 (.x n1))
abbrev qdp(n0:Nat)(n1:Nat)(n2:Nat)(n3:Nat):IOp:= .sliceT n0 (.r n1) (some (.r n2)) (some (.r n3)) none
abbrev Gq(n0:Nat)(n1:Nat)(n2:Nat)(n3:Int):Option (Nat×Bool)×IOp:=(some (n0,false),vi n1 n2 n3)
abbrev nW:Option (Nat×Bool)×IOp:=qv 1 3
abbrev oR:Option (Nat×Bool)×IOp:=qv 1 2
abbrev Bi:Option (Nat×Bool)×IOp:=xN 3 0 2
abbrev RP(n0:Nat)(n1:Nat)(n2:Nat):Option (Nat×Bool)×IOp:=(none,.sliceA n0 n1 (.x n2) none none)
abbrev H7(n0:Nat)(n1:Nat)(n2:Nat)(n3:Nat)(n4:Nat):IC:=rg [qx,qg] n0 [n1,n2,n3,n4]
abbrev rU(n0:Nat)(n1:Nat)(n2:Int):Option (Nat×Bool)×IOp:=(none,um n0 n1 n2)
abbrev qdx(n0:Nat)(n1:Nat)(n2:Nat)(n3:Nat)(n4:Nat)(n5:Nat):IOp:= .build [qa,qa] [(n0,(n1,.r n2)),(n3,(n4,.r n5))]
abbrev qdy(n0:Nat)(n1:Nat)(n2:Nat)(n3:Nat)(n4:Nat)(n5:Nat):IC:= .seq (rg [(none,.call n0 n1 []),mr n2] n3 [n4,n5]) .ret
abbrev qdz(n0:Nat)(n1:Nat)(n2:Nat)(n3:Nat)(n4:Nat)(n5:Nat)(n6:Nat):IC:= .seq (rg [mx n0,aI,qn n1,Bi] n2 [n3,n4]) (qm n5 n6)
abbrev bw:ag:= .r 0
abbrev cP:ag:= .r 1
abbrev dQ:ag:= .r 2
abbrev fe:ag:= .r 3
abbrev pA(n0:Int):ag:= .c (qbo n0)
abbrev j5:ag:= .r 4
abbrev j6:ag:= .r 5
abbrev Nv(n0:Int):ag:= .c (T.v (.int .i32 n0))
def vk:aC:=⟨5,17,3,[.var 6],[.raw],false,.seq (yL 17 5 0 6 1) (.seq (.seq (rg [mx 1,qw 20 QS 0,eY 1] 17 [15,2]) (.cond (.x 15) (qdy 22 gh 0 17 6 1) .skip)) (.seq (rg [qh 4 5,mx 1,jr 26 gH 0 1,mr 2,qi 3 0,qi 3 1,mr 4,mr 5] 17 [7,6,8,7]) (.seq (rg [qh 4 5,mx 1,jr 32 qP 0 1,mr 2,qi 3 0,qi 3 1,mr 4,mr 5] 17 [9,6,10,7]) (.seq (.seq (rd [mx 7,mx 9,jr 37 Ci 0 1,eY 2,mr 3,qk 4 8,qk 4 10,DY 4 42 DX 5 6,kV 4 7,qd 4 8,mr 9,qk 10 1,xO 10 4 5,qk 10 9,qk 10 4,(some (10,false),Dh 50 sL 11 12 13 14),qk 10 1,xO 10 4 5,qk 10 9,qk 10 4,(some (10,false),Dh 55 uh 16 17 18 19),DY 10 56 cf 15 20,kV 10 21,qd 10 22] 17 [16,23]) (qj 16 17 6 0)) (.seq (rg [qh 4 5,mx 1,mx 2,mx 3,(none,Dh 64 je 0 1 2 3),mr 4,qi 5 0,qi 5 1,zI 2,ql 1 8 6,mr 7] 17 [11,8,12,10]) (.seq (rg [qh 4 5,mx 1,mx 2,mx 3,(none,Dh 72 qQ 0 1 2 3),mr 4,qi 5 0,qi 5 1,zI 4,ql 1 8 6,mr 7] 17 [13,8,14,10]) (.seq (rg [qh 1 11,qh 1 13,jr 77 lF 0 1,mr 2,qu 3 12,qu 3 14,(some (3,true),.call 81 jP [j5,j6]),qf 3 6,mr 7,(some (8,true),.call 84 gh []),qf 8 9,mr 10] 17 [6,11]) .ret)))))))⟩
def wD:aC:=⟨3,6,1,[.var 4],[.raw],false,.seq (yL 6 3 0 4 1) (.seq (.seq (rg [mx 1,qn 0,(none,.bin .gtr 3 cP (ci 12800))] 6 [5,2]) (.cond (.x 5) (qdy 10 gh 0 6 4 1) .skip)) (.seq (rd [qh 4 3,mx 1,mx 2,DZ 14 lG 0 1 2,qh 4 3,mx 1,mx 2,DZ 18 vU 4 5 6,(none,.call 19 jf [fe,.r 7,.c (T.v (.func (.func cf) #[] #[]))]),mr 8,(some (9,true),.call 21 gh []),qf 9 10,mr 11] 6 [4,12]) .ret))⟩
def jh:aC:=⟨2,13,3,[.var 2],[.raw],false,.seq (nw 13 2 0) (.seq (.seq (rg [aI,(none,rS 14 xr 0 24),eY 1] 13 [10,2]) (.cond (.x 10) (qdy 16 gh 0 13 2 1) .skip)) (.seq (rg [aI,qw 19 vV 0,mr 1,qi 2 0,qi 2 1,RO 0,ql 4 5 3,mr 4] 13 [3,5]) (.seq (.seq (eb 0 13 4 0) (.block 0 (.loop (.seq (.kill [2,5,6,7,8,9,10,11,12]) (.seq (.free [2,3,4,5]) (.seq (.seq (rg [mx 4,(none,K7 3 0 3)] 13 [11,1]) (qm 11 0)) (.seq (.block 1 (.seq (rg [qh 4 3,aI,mx 4,DZ 29 lG 0 1 2,mr 3] 13 [5,4]) (.seq (rg [qh 4 3,mx 5,mx 1,(none,.bin .rem 5 dQ (pA 5)),rR 3,mx 4,(none,Dh 37 je 0 1 4 5),mr 6,qi 7 0,qi 7 1,zI 2,ql 1 10 8,mr 9] 13 [6,10,7,12]) (.seq (rg [qh 4 3,mx 5,mx 1,(none,.bin .rem 5 dQ (pA 5)),rR 3,mx 4,(none,Dh 47 qQ 0 1 4 5),mr 6,qi 7 0,qi 7 1,zI 4,ql 1 10 8,mr 9] 13 [8,10,9,12]) (.seq (rg [mx 5,qh 4 3,aI,mx 4,DZ 54 vU 1 2 3,(none,.call 55 jf [bw,j5,.c (T.v (.func (.func cf) #[] #[]))]),eY 5,mr 6,xO 7 1 6,xO 7 1 8,DY 7 60 lF 8 9,kV 7 10,qd 7 11,mr 12,qk 13 7,qk 13 9,DY 13 66 jP 14 15,kV 13 16,qd 13 17] 13 [12,18]) (qj 12 13 2 0)))))) (iu 4 1 13 4 2)))))))) (qdy 69 gh 0 13 2 1))))⟩
def Gr:aC:=⟨1,2,0,[.var 1],[.raw],false,.seq (nw 2 1 0) (.seq (rg [aI,qn 0,(none,K7 3 1 60),mr 2,qu 3 0,(some (3,true),.call 8 wB [j5,.c (T.v (.func (.func MM) #[] #[]))]),(some (3,true),VW 5),qf 3 6,mr 7] 2 [1,8]) .ret)⟩
def xC:aC:=⟨0,8,2,[.var 0],[.raw],false,.seq (nw 8 0 0) (.seq (rg [(none,.call 8 yE []),(none,.alloc 0 [qa,qa,qa,qa,qo,qo]),ql 6 1 0] 8 [1,1]) (.seq (rg [qh 6 1,qw 10 xt 0,mr 1] 8 [2,2]) (.seq (rg [lu,iW 4 0,mx 2,Gp 14 lG 1 2 1,mr 3] 8 [3,4]) (.seq (rg [lu,iW 4 0,mx 3,(none,.call 19 je [cP,dQ,ci 1,ci 1]),mr 3,qi 4 0,qi 4 1,zI 2,ql 1 7 5,mr 6] 8 [4,7,5,9]) (.seq (rg [lu,iW 4 0,mx 3,jr 26 gH 1 2,mr 3,qi 4 0,qi 4 1,mr 5,mr 6] 8 [6,7,7,8]) (.seq (rd [mx 3,qn 0,rU 3 1 12,mr 2,(some (3,true),.load true 1 (.x 4)),qz 3 5 1,gQ 3 1 5,(some (3,true),rT 1 6 0),Ns 3 1 7,(some (3,true),.call 38 lF [j5,.r 8]),qf 3 9,mr 10,qu 11 5,zG 11 12,(some (11,true),um 3 13 0),qf 11 14,mr 15,qu 16 6,zG 16 17,(some (16,true),um 3 18 5),qf 16 19,mr 20,qu 21 7,zG 21 22,(some (21,true),um 3 23 0),qf 21 24,mr 25,qu 26 3,qz 26 0 1,Ns 26 4 28,qu 26 6,(some (26,true),.call 60 sL [.r 27,.r 29,.r 30,ci 2]),(some (26,true),.bslice 61 5 1 1 [qt] [(0,(1,pA 120))]),(some (26,true),.call 62 cf [.r 31,.r 32]),qf 26 33,mr 34] 8 [0,35]) .ret))))))⟩
def ky:aC:=⟨2,17,2,[.var 3,.var 4],[.raw,.raw],false,.seq (rg [qx,qg,qg] 17 [2,0,3,1,4,2]) (.seq (.seq (rg [qh 4 2,mx 1,(none,.build [qa,qa,qa,qa,qo,qo] [(0,(4,bw)),(4,(1,cP))]),qw 15 fQ 2,eY 3] 17 [11,4]) (.cond (.x 11) (.seq (rg [qg,qg] 17 [3,0,4,1]) .ret) .skip)) (.seq (rp 17 5 0) (.seq (rp 17 6 0) (.seq (.seq (rg [mx 1,qe 1 2,gI,Dg 3 1 2,V0 1 0 1 3,qn 4,mi 0] 17 [12,4,13,5,14,6]) (.block 0 (.loop (.seq (.kill [0,1,2,3,4,7,8,9,10,11,15,16]) (.seq (.free [2,3]) (.seq (uo 3 14 13 17 15 0) (.seq (qm 15 0) (.seq (.block 1 (.seq (rg [mx 14,Bf 1 12 14,gI,mr 0,mr 2] 17 [7,3,8,4]) (.seq (rg [mx 8,qw 30 jQ 0,mr 1,qi 2 0,qi 2 1,(none,.alloc 2 (List.replicate 10 (T.v (.int .i64 0)))),ql 10 5 3,mr 4] 17 [9,5,10,7]) (.seq (.seq (rg [mx 10,eY 0] 17 [16,1]) (.cond (.x 16) (rg [mx 6,mx 7,Bc 3 1 1,Nt 38 3 1 1 0 1 2,Nu 39 3 1 8 0 0 3,mr 4] 17 [6,5]) .skip)) (rg [mx 5,qh 10 9,(none,.bslice 42 34 10 1 (List.replicate 10 (T.v (.int .i64 0))) [(0,(10,cP))]),(none,.append 43 34 10 80 (List.replicate 10 (T.v (.int .i64 0))) 0 bw dQ),mr 3] 17 [5,4]))))) (pz 3 14 1 0 17 14 1))))))))) (.seq (rg [mx 5,mx 6,mr 0,mr 1] 17 [3,2,4,3]) .ret)))))⟩
def nE:aC:=⟨2,13,2,[.var 3,.var 4],[.raw,.raw],false,.seq (rg [qx,qg,qg] 13 [2,0,3,1,4,2]) (.seq (.seq (rg [qh 4 2,mx 1,jr 13 mm 0 1,eY 2] 13 [10,3]) (.cond (.x 10) (.seq (rg [qg,qg] 13 [3,0,4,1]) .ret) .skip)) (.seq (rg [(none,.bslice 15 34 10 0 (List.replicate 10 (T.v (.int .i64 0))) []),(none,.bslice 16 3 1 0 [qa] []),mr 0,mr 1] 13 [5,2,6,3]) (.seq (.seq (eb 1 13 7 0) (.block 0 (.loop (.seq (.kill [0,3,4,8,9,10,11,12]) (.seq (.free [2,3]) (.seq (.seq (rg [mx 7,qe 1 2,gI,(none,H5 3 0 2)] 13 [11,3]) (qm 11 0)) (.seq (.block 1 (.seq (rg [mx 1,mx 7,qy 1 0 1,oR,qw 28 Au 3,mr 4,qi 5 0,qi 5 1,(none,.alloc 2 (List.replicate 10 (T.v (.int .i64 0)))),ql 10 8 6,mr 7] 13 [8,8,9,10]) (.seq (.seq (rg [mx 9,eY 0] 13 [12,1]) (.cond (.x 12) (rg [mx 6,mx 7,Nt 35 3 1 1 0 1 1,Nu 36 3 1 8 0 0 2,mr 3] 13 [6,4]) .skip)) (rg [mx 5,qh 10 8,(none,.bslice 39 34 10 1 (List.replicate 10 (T.v (.int .i64 0))) [(0,(10,cP))]),(none,.append 40 34 10 80 (List.replicate 10 (T.v (.int .i64 0))) 0 bw dQ),mr 3] 13 [5,4])))) (iu 7 1 13 7 2)))))))) (.seq (rg [mx 5,mx 6,mr 0,mr 1] 13 [3,2,4,3]) .ret))))⟩
def uv:aC:=⟨2,9,0,[.var 2],[.raw],false,.seq (nw 9 2 0) (.seq qcr (.seq (.seq (rg [aI,qn 0,mi 0] 9 [5,1,6,2]) (.block 0 (.loop (.seq (.kill [2,3,4,7,8]) (.seq eR (.seq (uo 3 6 5 9 7 0) (.seq (qm 7 0) (.seq (.block 1 (.seq (rg [mx 6,mr 0] 9 [3,1]) (.seq (rd [aI,mx 3,qy 10 0 1,iW 10 2,mx 1,mx 3,qy 10 4 5,iW 10 6,(none,.eqa true [.int,.int,.int,.int,.int,.int,.int,.int,.int,.int] fe (.r 7))] 9 [8,8]) (qj 8 9 2 0)))) (pz 3 6 1 0 9 6 1))))))))) (uq 9 2 0)))⟩
def wE:aC:=⟨2,9,0,[.var 2],[.raw],false,.seq (nw 9 2 0) (.seq qcr (.seq (.seq (rg [aI,qn 0,mi 0] 9 [5,1,6,2]) (.block 0 (.loop (.seq (.kill [2,3,4,7,8]) (.seq eR (.seq (uo 3 6 5 9 7 0) (.seq (qm 7 0) (.seq (.block 1 (.seq (rg [mx 6,mr 0] 9 [3,1]) (.seq (rd [aI,mx 3,qy 1 0 1,oR,mx 1,mx 3,qy 1 4 5,qv 1 6,(none,Be 3 3 7)] 9 [8,8]) (qj 8 9 2 0)))) (pz 3 6 1 0 9 6 1))))))))) (uq 9 2 0)))⟩
def mo:aC:=⟨2,3,0,[.var 2],[.raw],false,.seq (nw 3 2 0) (.seq (rg [aI,(none,.toStr bw),mx 1,(none,.toStr dQ),(none,Bh 9 1 3),mr 4] 3 [2,5]) .ret)⟩
def xD:aC:=⟨4,6,1,[.var 5],[.raw],false,.seq (rg [Dj 0 1,qg] 6 [4,0,5,1]) (.seq (rg [qh 4 4,aI,mx 2,(none,.build [qa,qa,qa,qa,qo,qo] [(0,(4,bw)),(4,(1,cP)),(5,(1,dQ))]),mx 3,jr 14 aP 3 4,mr 5] 6 [5,6]) .ret)⟩
def j7:aC:=⟨4,17,2,[.var 5],[.raw],false,.seq (rg [Dj 0 1,qg] 17 [4,0,5,1]) (.seq (.seq (rg [qh 4 4,aI,jr 17 mm 0 1,eY 2,mr 3,qk 4 3,Gq 4 3 5 1,qd 4 6,mr 7,qk 8 3,qk 8 2,Bb 8 10,Gm 8 3 9 11,qd 8 12] 17 [12,13]) (Gl 12 17 5 0)) (.seq (rg [mx 2,mx 3,(none,ur 3 1 1),qy 10 0 2,iW 10 3,(none,.alloc 2 (List.replicate 10 (T.v (.int .i64 0)))),ql 10 5 4] 17 [6,5]) (.seq (.seq (rg [qe 0 6,cN,ma 3 1 2,mr 2,qz 3 0 6,gQ 3 1 4,K3 3 3 5 3,qf 3 6] 17 [13,7]) (Gl 13 17 5 0)) (.seq (rg [H6 42 5 1 0,mr 0] 17 [7,1]) (.seq (.seq (eb 0 17 8 0) (.block 0 (.loop (.seq (.kill [1,5,9,10,11,12,13,14,15,16]) (.seq eR (.seq (.seq (wC 8 3 0 4 17 14 1) (qm 14 0)) (.seq (.block 1 (.seq (rg [aI,qh 4 4,mx 2,mx 3,mx 8,(none,.call 53 oN [bw,cP,dQ,fe,j5]),mr 5,qi 6 0,qi 6 1,mr 7,mr 8] 17 [9,9,10,10]) (.seq (eb 0 17 11 0) (.block 2 (.loop (.seq (.kill [1,5,12,13,14,15,16]) (.seq eR (.seq (.seq (wC 11 3 0 64 17 15 1) (qm 15 2)) (.seq (.block 3 (.seq (rg [mx 10,mr 0,qu 1 11,qu 1 9,zG 1 3,(some (1,true),.bin .lss 3 dQ j5),qf 1 5] 17 [16,6]) (.cond (.x 16) (rg [mx 7,mx 9,mx 11,qy 1 1 2,nW,K5 72 5 1 1 0 1 4,kx 73 5 1 1 0 0 5,mr 6] 17 [7,7]) (rg [mx 7,(none,.bslice 75 5 1 1 [qt] [(0,(1,.c qt))]),kx 76 5 1 1 0 0 1,mr 2] 17 [7,3])))) (iu 11 1 17 11 2)))))))))) (iu 8 1 17 8 2)))))))) (.seq (rg [mx 7,qe 4 6,gI,(none,.minMax false [dQ,ci 256]),(none,.minMax true [fe,ci 0]),(none,.sliceT 1 bw none (some j5) none),mr 5] 17 [5,6]) .ret))))))⟩
def ec:aC:=⟨4,40,14,[.cell 6 true 1,.var 7],[.raw,.raw],false,.seq (rg [qx,Dj 2 3,zI 4,qg] 40 [4,0,5,1,6,2,7,3]) (.seq (rg [qh 4 4,mx 1,(none,.build [qa,qa,qa,qa,qo,qo] [(0,(4,bw)),(4,(1,cP))]),(none,.alloc 6 [qa,qa,qa,qa,qo,qo]),ql 6 3 2] 40 [8,3]) (.seq (.seq (rg [qh 6 8,qw 30 fQ 0,eY 1] 40 [21,2]) (.cond (.x 21) (.seq (rg [(none,.build [qo] []),iV 1 6 0,qg] 40 [7,2]) .ret) .skip)) (.seq (rp 40 9 0) (.seq (rg [qh 4 4,mx 1,jr 36 gH 0 1,mr 2,qi 3 0,qi 3 1,qe 5 8,ql 1 6 4,mr 5] 40 [9,8]) (.seq (rg [(none,.mkMap 19),(none,.alloc 8 [T.v (.map none)]),ql 1 1 0] 40 [10,1]) (.seq (rg [(none,.mkFunc (.func kU) [] [.x 10,.x 5]),mr 0] 40 [11,1]) (.seq (.seq (rg [qe 5 8,cN,qe 2 4,oR,jr 46 rP 1 3,qn 4,mi 0] 40 [22,4,23,5,24,6]) (.block 0 (.loop (.seq (.kill [0,1,3,4,5,7,12,13,14,15,16,17,18,19,20,21,25,26,27,28,29,30,31,32,33,34,35,36,37,38,39]) (.seq (.free [10,11]) (.seq (uo 3 24 23 40 25 0) (.seq (qm 25 0) (.seq (.block 1 (.seq (rg [Bf 2 22 24,iW 2 0,(none,.alloc 10 [qa,qa]),ql 2 2 1] 40 [12,2]) (rg [mx 11,zH 2 1 12 0,gI,zH 2 1 12 1,nW,(none,.callvio 57 [] bw [ci 1,dQ,j5])] 40 []))) (pz 3 24 1 0 40 24 1))))))))) (.seq (.seq (rg [mx 9,qn 0,mi 0] 40 [26,0,27,1,28,2]) (.block 2 (.loop (.seq (.kill [0,1,3,4,5,7,9,12,13,14,15,16,17,18,19,20,21,22,23,24,25,29,30,31,32,33,34,35,36,37,38,39]) (.seq eR (.seq (uo 3 28 27 40 29 0) (.seq (qm 29 2) (.seq (.block 3 (.seq (rg [Bf 1 26 28,cN,mr 1] 40 [13,2]) (rg [mx 11,mx 13,(none,.callvio 67 [] bw [ci 4,cP,.c (T.v (.int .i64 (-1)))])] 40 []))) (pz 3 28 1 0 40 28 1))))))))) (.seq (rg [zI 12] 40 [14,0]) (.seq (.seq (rg [qe 5 8,cN,qn 1,mi 0] 40 [30,1,31,2,32,3]) (.block 4 (.loop (.seq (.kill [0,1,3,4,5,7,9,12,13,15,16,17,18,19,20,21,22,23,24,25,26,27,28,29,33,34,35,36,37,38,39]) (.seq (.free [14,15,16,17]) (.seq (uo 3 32 31 40 33 0) (.seq (qm 33 4) (.seq (.block 5 (.seq (rg [mx 32,Bf 10 30 32,iW 10 1,(none,.alloc 14 (List.replicate 10 (T.v (.int .i64 0)))),mr 0,ql 10 3 2] 40 [15,4,16,3]) (.seq (rd [qe 0 16,cN,qe 1 16,oR,qe 2 16,qv 1 4,qe 3 16,qv 1 6,qh 6 8,mx 15,Bc 3 9 1,jr 88 aP 8 10,(none,.build [qa,qa,qa,qa,qo,qo,qa,qa,qp,qa,qa,qa,qa] [(0,(1,cP)),(1,(1,fe)),(2,(1,j6)),(3,(1,.r 7)),(4,(1,.r 11))]),RL 16,ql 13 13 12] 40 [17,13]) (.seq (rg [qq] 40 [18,0]) (.seq (.seq (rg [qh 6 8,mx 15,Bc 3 1 1,jr 94 bP 0 2,mr 3,qi 4 0,qi 4 1,qe 6 17,ql 7 7 5,mr 6] 40 [18,9]) (.seq (rg [mx 18,eY 0] 40 [34,1]) (.cond (.x 34) (rg [mx 11,mx 15,Bc 3 1 1,(none,.callvio 103 [] bw [ci 2,dQ,.c (T.v (.int .i64 (-1)))])] 40 []) .skip))) (.seq (.seq (rg [qe 0 16,cN,rU 3 1 1] 40 [35,2]) (.cond (.x 35) (.seq (rp 40 19 0) (.seq (rg [qh 6 8,mx 15,Bc 3 1 1,mx 2,DZ 112 gv 0 2 3,mr 4,qi 5 0,qi 5 1,qe 5 17,ql 1 8 6,mr 7] 40 [19,10]) (.seq (rg [mx 19,qn 0,mi 0] 40 [36,0,37,1,38,2]) (.block 6 (.loop (.seq (.kill [0,1,3,4,5,7,9,12,13,16,18,19,20,21,22,23,24,25,26,27,28,29,33,34,35,39]) (.seq eR (.seq (uo 3 38 37 40 39 0) (.seq (qm 39 6) (.seq (.block 7 (.seq (rg [Bf 1 36 38,cN,mr 1] 40 [20,2]) (rg [mx 11,mx 15,Bc 3 1 1,mx 20,(none,.callvio 126 [] bw [ci 5,dQ,fe])] 40 []))) (pz 3 38 1 0 40 38 1))))))))))) .skip)) (rg [qe 0 14,cN,qh 13 17,(none,.bslice 131 84 13 1 [qa,qa,qa,qa,qo,qo,qa,qa,qp,qa,qa,qa,qa] [(0,(13,dQ))]),(none,.append 132 84 13 144 [qa,qa,qa,qa,qo,qo,qa,qa,qp,qa,qa,qa,qa] 0 cP fe),qe 0 14,ql 1 5 4] 40 []))))))) (pz 3 32 1 0 40 32 1))))))))) (.seq (rd [qh 1 14,mH 1 10,(none,.lookup .int qo false cP (ci 1)),mH 1 10,(none,.lookup .int qo false fe (ci 2)),mH 1 10,(none,.lookup .int qo false j6 (ci 4)),mH 1 10,(none,.lookup .int qo false (.r 7) (ci 5)),(none,.bslice 144 42 1 4 [qo] [(0,(1,dQ)),(1,(1,j5)),(2,(1,.r 6)),(3,(1,.r 8))]),qw 145 gw 9,iV 1 6 0,mr 10] 40 [7,12]) .ret)))))))))))⟩
def nF:aC:=⟨4,27,4,[.cell 5 true 1,.var 6],[.raw,.raw],false,.seq (rg [qx,zI 2,qg] 27 [4,0,5,1,6,2]) (.seq (.seq (rg [qh 4 4,mx 1,jr 26 mm 0 1,eY 2] 27 [21,3]) (.cond (.x 21) (.seq (rg [(none,.build [qo] []),iV 1 5 0,qg] 27 [6,2]) .ret) .skip)) (.seq (rg [qh 4 4,mx 1,jr 32 qP 0 1,mr 2,qi 3 0,qi 3 1,mr 4,mr 5] 27 [7,6,8,7]) (.seq (rg [zI 4] 27 [9,0]) (.seq (rg [qg,qg,qg] 27 [10,0,11,1,12,2]) (.seq (.seq (eb 1 27 13 0) (.block 0 (.loop (.seq (.kill [0,6,14,15,16,17,18,19,20,21,22,23,24,25,26]) (.seq (.free [6,7]) (.seq (.seq (rg [mx 13,qe 1 4,gI,(none,H5 3 0 2)] 27 [22,3]) (qm 22 0)) (.seq (.block 1 (.seq (rg [qh 4 4,mx 1,mx 7,mx 13,mx 2,(none,.call 47 yF [bw,cP,dQ,fe,j5]),mr 5,qi 6 0,qi 6 1,qi 6 2,RL 6,ql 13 10 7,mr 8,mr 9] 27 [14,10,15,12,16,13]) (.seq (rg [qe 0 9,cN,qh 13 14,(none,.bslice 54 84 13 1 [qa,qa,qa,qa,qo,qo,qa,qa,qp,qa,qa,qa,qa] [(0,(13,dQ))]),(none,.append 55 84 13 144 [qa,qa,qa,qa,qo,qo,qa,qa,qp,qa,qa,qa,qa] 0 cP fe),qe 0 9,ql 1 5 4] 27 []) (.seq (.seq (rg [mx 15,eY 0] 27 [23,1]) (.cond (.x 23) (rg [mx 10,mx 3,mx 13,(none,.call 62 ku [ci 2,cP,dQ,.c (T.v (.int .i64 (-1)))]),V2 63 48 4 1 0 4 3,Nr 64 48 4 32 0 0 4,mr 5] 27 [10,6]) .skip)) (.seq (eb 0 27 17 0) (.block 2 (.loop (.seq (.kill [0,6,14,15,18,19,20,21,22,23,24,25,26]) (.seq eR (.seq (.seq (rg [mx 17,mx 16,qn 1,Bi] 27 [24,3]) (qm 24 2)) (.seq (.block 3 (rg [mx 11,mx 3,mx 13,mx 16,mx 17,qy 1 3 4,qv 1 5,(none,.call 78 ku [ci 5,cP,dQ,.r 6]),V2 79 48 4 1 0 4 7,Nr 80 48 4 32 0 0 8,mr 9] 27 [11,10])) (iu 17 1 27 17 2)))))))))))) (iu 13 1 27 13 2)))))))) (.seq (rg [mx 7,qe 2 4,gI,jr 84 Av 0 2,mr 3] 27 [18,4]) (.seq (.seq (eb 0 27 19 0) (.block 4 (.loop (.seq (.kill [0,1,2,4,6,7,13,14,15,16,17,20,21,22,23,24,25,26]) (.seq eR (.seq (.seq (rg [mx 19,mx 18,qn 1,Bi] 27 [25,3]) (qm 25 4)) (.seq (.block 5 (rd [mx 12,mx 3,mx 18,mx 19,qy 2 2 3,(none,.iaddrA 2 1 j5 (ci 0)),qv 1 5,mx 18,mx 19,qy 2 7 8,(none,.iaddrA 2 1 (.r 9) (ci 1)),qv 1 10,(none,.call 103 ku [ci 1,cP,.r 6,.r 11]),V2 104 48 4 1 0 4 12,Nr 105 48 4 32 0 0 13,mr 14] 27 [12,15])) (iu 19 1 27 19 2)))))))) (.seq (rg [mx 12,mx 10,Nr 108 48 4 32 0 0 1,mr 2] 27 [12,3]) (.seq (.seq (eb 0 27 20 0) (.block 6 (.loop (.seq (.kill [0,1,2,4,6,7,10,13,14,15,16,17,18,19,21,22,23,24,25,26]) (.seq eR (.seq (.seq (rg [mx 20,mx 8,qn 1,Bi] 27 [26,3]) (qm 26 6)) (.seq (.block 7 (rg [mx 12,mx 3,mx 8,mx 20,qy 1 2 3,qv 1 4,(none,.call 121 ku [ci 4,cP,j6,.c (T.v (.int .i64 (-1)))]),V2 122 48 4 1 0 4 6,Nr 123 48 4 32 0 0 7,mr 8] 27 [12,9])) (iu 20 1 27 20 2)))))))) (.seq (rd [qh 1 9,mx 12,mx 11,Nr 127 48 4 32 0 1 2,iV 1 5 0,mr 3] 27 [6,5]) .ret))))))))))⟩
def pR:aC:=⟨2,9,2,[.var 4],[.raw],false,.seq (rg [qx,Dj 2 1,qb] 9 [2,0,3,1,4,2]) (.seq (.seq (rg [qe 0 2,cN,qn 1,qe 0 3,nW,qn 4,(none,Be 3 2 5)] 9 [6,6]) (qj 6 9 4 0)) (.seq (.seq (eb 0 9 5 0) (.block 0 (.loop (.seq (.kill [0,1,4,6,7,8]) (.seq eR (.seq (.seq (rg [mx 5,qe 0 2,gI,qn 2,xN 3 0 3] 9 [7,4]) (qm 7 0)) (.seq (.block 1 (.seq (rd [qe 0 2,cN,mx 5,qy 13 1 2,iW 13 3,qe 0 3,qv 1 5,mx 5,qy 13 6 7,iW 13 8,jr 30 tp 4 9,eY 10] 9 [8,11]) (qj 8 9 4 0))) (iu 5 1 9 5 2)))))))) (uq 9 4 0)))⟩
def jR:aC:=⟨2,9,0,[.var 2],[.raw],false,.seq (nw 9 2 0) (.seq qcr (.seq (.seq (rg [aI,qn 0,mi 0] 9 [5,1,6,2]) (.block 0 (.loop (.seq (.kill [2,3,4,7,8]) (.seq eR (.seq (uo 3 6 5 9 7 0) (.seq (qm 7 0) (.seq (.block 1 (.seq (rg [mx 6,mr 0] 9 [3,1]) (.seq (rd [aI,mx 3,qy 4 0 1,iW 4 2,mx 1,mx 3,qy 4 4 5,iW 4 6,(none,.eqa true [.int,.int,.int,.int] fe (.r 7))] 9 [8,8]) (qj 8 9 2 0)))) (pz 3 6 1 0 9 6 1))))))))) (uq 9 2 0)))⟩
def ji:aC:=⟨3,13,0,[.var 3],[.raw],false,.seq (nw 13 3 0) (.seq (.seq (rg [aI,qn 0,mx 1,qn 2,(none,Be 3 1 3)] 13 [7,4]) (qj 7 13 3 0)) (.seq (.seq (rg [aI,qn 0,mi 0] 13 [8,0,9,1,10,2]) (.block 0 (.loop (.seq (.kill [0,3,4,5,6,7,11,12]) (.seq eR (.seq (uo 3 10 9 13 11 0) (.seq (qm 11 0) (.seq (.block 1 (.seq (rg [mx 10,Bf 1 8 10,gI,mr 0,mr 2] 13 [4,3,5,4]) (.seq (rg [mx 1,mx 4,qy 1 0 1,oR,mr 3] 13 [6,4]) (.seq (rg [mx 2,mx 5,mx 6,(none,.callv 29 bw [cP,dQ]),eY 3] 13 [12,4]) (qj 12 13 3 0))))) (pz 3 10 1 0 13 10 1))))))))) (uq 13 3 0)))⟩
def lM:aC:=⟨3,12,2,[.var 4],[.raw],false,.seq (H7 12 3 0 4 1) (.seq (rg [qh 4 3,mx 2,jr 13 yG 0 1,mr 2] 12 [5,3]) (.seq (.seq (rg [mx 5,(none,vi 3 0 0),mr 1,qk 2 1,Bb 2 3,xO 2 4 3,Gn 2 20 Aw 5,(some (2,false),.bin .mul 3 (ci 64) (.r 6)),(some (2,false),Be 3 4 7),qd 2 8] 12 [9,9]) (Gl 9 12 4 0)) (.seq (rg [qe 1 3,cN,Dg 3 1 1,qe 2 3,nW,nV 3 2 4,mr 5] 12 [6,6]) (.seq (rg [mx 6,(none,.mkCap 31 37 24 bw),zI 2,ql 1 2 1] 12 [7,2]) (.seq (.seq (rg [mx 1,mx 5,tH 3 64 1,mx 5,mx 6,nV 3 3 4,tH 3 64 5,(none,qdp 1 0 2 6),(none,rS 40 jz 7 64)] 12 [10,8]) (.block 0 (.range 4 (.x 10) [11] (rg [mx 11] 12 [8,0]) (.block 1 (rd [mH 1 7,mx 8,qw 44 jA 1,(none,.bslice 45 37 1 1 [qo] [(0,(1,dQ))]),(none,.append 46 37 1 24 [qo] 0 bw fe),iV 1 7 4] 12 []))))) (.seq (rg [mH 1 7,mr 0] 12 [4,1]) .ret))))))⟩
def o9:aC:=⟨3,10,1,[.var 4],[.raw],false,.seq (H7 10 3 0 4 1) (.seq (rg [qh 4 3,mx 2,jr 12 xu 0 1,mr 2] 10 [5,3]) (.seq (.seq (rg [mx 5,(none,vi 3 0 0),mr 1,qk 2 1,Bb 2 3,xO 2 4 3,Gn 2 19 sM 5,(some (2,false),.bin .mul 3 (ci 64) (.r 6)),(some (2,false),Be 3 4 7),qd 2 8] 10 [8,9]) (Gl 8 10 4 0)) (.seq (rg [(none,.bslice 23 37 1 0 [qo] []),mr 0] 10 [6,1]) (.seq (.seq (eb 0 10 7 0) (.block 0 (.loop (.seq (.kill [0,2,4,8,9]) (.seq eR (.seq (.seq (rg [mx 7,qh 4 3,qw 26 kG 1,Bi] 10 [9,3]) (qm 9 0)) (.seq (.block 1 (rg [mx 6,mx 1,mx 5,mx 7,nV 3 2 3,tH 3 64 4,mx 5,mx 7,nV 3 6 7,tH 3 64 8,Bc 3 9 64,(none,qdp 1 1 5 10),(none,.bslice 42 37 1 1 [qo] [(0,(1,.r 11))]),(none,.append 43 37 1 24 [qo] 0 bw (.r 12)),mr 13] 10 [6,14])) (iu 7 1 10 7 2)))))))) (yK 6 0 10 4 1)))))⟩
def hY:aC:=⟨2,5,1,[.var 2],[.raw],false,.seq (nw 5 2 0) (.seq (rg [aI,qw 9 vV 0,mr 1,qi 2 0,qi 2 1,RO 0,ql 4 5 3,mr 4] 5 [3,5,4,7]) (.seq (rg [aI,qn 0,(none,K7 3 1 12800),mr 2,qu 3 0,zG 3 4,(some (3,true),.bin .rem 3 j6 (ci 64)),(some (3,true),um 3 6 0),qf 3 7,mr 8,qu 9 4,K3 9 54 10 0,(some (9,true),.mv (.r 11)),qs 12 1 3,dM 12 1 13,qk 12 1,(some (12,false),H5 3 14 15),(some (12,false),.mv (.r 16)),qz 17 2 3,gQ 17 1 18,(some (17,true),K7 3 19 30),VZ 12 17 20,(some (12,false),.mv (.r 21)),qz 22 0 3,gQ 22 1 23,(some (22,true),K7 3 24 2),VZ 12 22 25,(some (9,true),.pick (.r 12) (.c (T.v (.bool true))) (.r 26)),qf 9 27,mr 28] 5 [2,29]) .ret))⟩
def pa:aC:=⟨1,6,2,[.cell 1 true 4,.var 2],[.raw,.raw],false,.seq (rg [RO 0,mi 0] 6 [1,0,2,1]) (.seq (.seq (rg [aI,qn 0,(none,vi 3 1 64)] 6 [4,2]) (.cond (.x 4) (.seq (rg [(none,.build [qa,qa,qa,qa] []),iV 4 1 0,mi 2] 6 [2,2]) .ret) .skip)) (.seq (rd [aI,(none,rT 1 0 5),gI,rR 2,aI,(none,rT 1 4 6),qv 1 5,rR 6,aI,(none,rT 1 8 7),qv 1 9,rR 10,aI,(none,rT 1 12 8),qv 1 13,rR 14,(none,.build [qa,qa,qa,qa] [(0,(1,fe)),(1,(1,.r 7)),(2,(1,.r 11)),(3,(1,.r 15))]),RO 2,ql 4 17 16] 6 [3,17]) (.seq (.seq (rd [qh 4 3,qw 27 kI 0,ma 54 1 0,mr 2,qk 3 0,(some (3,false),.sliceT 1 j5 none (some (ci 64)) none),xO 3 4 3,Gn 3 33 mn 6,DY 3 34 fj 5 7,kV 3 8,qd 3 9,mr 10,qk 11 0,Bb 11 12,xO 11 4 3,Gn 11 41 sM 14,(some (11,false),.bin .mul 3 (ci 64) (.r 15)),(some (11,false),Be 3 13 16),qd 11 17] 6 [5,18]) (.cond (.x 5) (.seq (rg [(none,.build [qa,qa,qa,qa] []),iV 4 1 0,mi 2] 6 [2,2]) .ret) .skip)) (.seq (rg [qh 4 3,iV 4 1 0,mi 0] 6 [2,2]) .ret))))⟩
def nX:aC:=⟨2,3,0,[.var 2],[.raw],false,.seq (nw 3 2 0) (.seq (rg [aI,mx 1,jr 7 yH 0 1,(none,Di 3 2 0),mr 3] 3 [2,4]) .ret)⟩
def Dk:aC:=⟨1,2,0,[.var 1],[.raw],false,.seq (nw 2 1 0) (.seq (rg [aI,qn 0,ma 3 1 64,mr 2] 2 [1,3]) .ret)⟩
def yN:aC:=⟨0,2,2,[.cell 0 true 6],[.raw],false,.seq (rg [(none,.alloc 0 [qa,qa,qa,qa,qo,qo])] 2 [0,0]) (.seq (rg [(none,.build [qa,qa,qa,qa] [(0,(1,ci 1)),(1,(1,ci 5)),(2,(1,ci 6)),(3,(1,ci 5))]),(none,.build [qa,qa,qa,qa,qo,qo] [(0,(4,bw))]),(none,.alloc 2 [qa,qa,qa,qa,qo,qo]),ql 6 2 1] 2 [1,2]) (.seq (rg [(none,.build [qa,qa,qp] [(1,(1,ci 2)),(2,(1,.c (T.v (.string ⟨#[97]⟩))))]),(none,.bslice 5 105 3 1 [qa,qa,qp] [(0,(3,bw))]),qw 6 vW 1,(none,.bslice 7 5 1 1 [qt] [(0,(1,pA 120))]),(none,.build [qa,qa,qa,qa,qo,qo,qa,qa,qp,qa,qa,qa,qa] [(0,(1,ci 2)),(2,(1,ci 1)),(3,(1,ci 3)),(4,(1,fe))]),RK,RK,RK,(none,.bslice 12 84 13 5 [qa,qa,qa,qa,qo,qo,qa,qa,qp,qa,qa,qa,qa] [(0,(13,dQ)),(13,(13,j5)),(26,(13,j6)),(39,(13,.r 6)),(52,(13,.r 7))]),(none,.build [qo] [(0,(1,.r 8))]),(none,.bslice 14 41 1 1 [qo] [(0,(1,.r 9))]),qe 5 1,ql 1 11 10] 2 []) (.seq (rg [(none,.call 16 vW [.c qo]),(none,.call 17 vW [.c qo]),(none,.call 18 vW [.c qo]),RK,RK,(none,.bslice 21 84 13 5 [qa,qa,qa,qa,qo,qo,qa,qa,qp,qa,qa,qa,qa] [(0,(13,bw)),(13,(13,cP)),(26,(13,dQ)),(39,(13,fe)),(52,(13,j5))]),(none,.build [qo] [(0,(1,j6))]),qe 4 1,ql 1 7 6] 2 []) (.seq (rg [qh 6 1,iV 6 0 0] 2 []) .ret))))⟩
def xE:aC:=⟨1,4,1,[.var 2],[.raw],false,.seq (H7 4 1 0 2 1) (.seq (rg [qh 6 1,qw 7 xw 0,mr 1,qi 2 0,qi 2 1,mr 3,mr 4] 4 [3,5]) (yK 3 0 4 2 1))⟩
def iC:aC:=⟨1,3,1,[.var 2],[.raw],false,.seq (yL 3 1 0 2 1) (.seq (rg [lu,iW 4 0,qw 5 rQ 1,rU 54 2 0,mr 3,qz 4 4 1,gQ 4 1 5,zG 4 6,qz 4 0 1,(some (4,true),.faddr 1 (.r 8)),gQ 4 1 9,(some (4,true),.bin .add 3 (ci 1) (.r 10)),qz 4 0 1,(some (4,true),.faddr 2 (.r 12)),gQ 4 1 13,(some (4,true),.bin .add 3 (.r 11) (.r 14)),(some (4,true),Bh 3 7 15),qf 4 16,mr 17] 3 [2,18]) .ret)⟩
def jS:aC:=⟨1,7,2,[.cell 1 true 10,.var 2],[.raw,.raw],false,.seq (rg [(none,.alloc 0 (List.replicate 10 (T.v (.int .i64 0)))),qb] 7 [1,0,2,1]) (.seq (rg [aI,qw 8 fk 0,(none,.alloc 2 (List.replicate 10 (T.v (.int .i64 0)))),ql 10 2 1] 7 [3,2]) (.seq (rg [qh 10 3,qw 11 gi 0,mr 1,qi 2 0,qi 2 1,mr 3,mr 4] 7 [4,5,5,6]) (.seq (.seq (rg [mx 5,ma 54 0 0,mr 1,qk 2 0,qk 2 4,DY 2 19 cf 3 4,kV 2 5,qd 2 6] 7 [6,7]) (.cond (.x 6) (.seq (rg [(none,.build (List.replicate 10 (T.v (.int .i64 0))) []),iV 10 1 0,qb] 7 [2,2]) .ret) .skip)) (.seq (rg [qh 10 3,iV 10 1 0,qq] 7 [2,2]) .ret))))⟩
def oS:aC:=⟨2,4,1,[.var 3],[.raw],false,.seq (yL 4 2 0 3 1) (.seq (rg [qh 4 2,qw 6 kI 0,rU 54 1 0,mr 2,qu 3 1,zG 3 4,(some (3,true),.load true 4 (.x 2)),(some (3,true),.call 12 kG [.r 6]),(some (3,true),Bh 3 5 7),qf 3 8,mr 9] 4 [3,10]) .ret)⟩
def rV:aC:=⟨1,9,2,[.cell 1 true 10,.var 2],[.raw,.raw],false,.seq (rg [(none,.alloc 0 (List.replicate 10 (T.v (.int .i64 0)))),qb] 9 [1,0,2,1]) (.seq (.seq (rg [aI,qn 0,ma 3 1 64] 9 [5,2]) (.cond (.x 5) (.seq (rg [(none,.build (List.replicate 10 (T.v (.int .i64 0))) []),iV 10 1 0,qb] 9 [2,2]) .ret) .skip)) (.seq (.seq (rg [aI,(none,.mkSlice 11 5 1 1 [qt] (ci 64)),jr 12 fj 0 1] 9 [6,2]) (.cond (.x 6) (.seq (rg [(none,.build (List.replicate 10 (T.v (.int .i64 0))) []),iV 10 1 0,qq] 9 [2,2]) .ret) .skip)) (.seq (rd [aI,(none,rT 1 0 0),gI,rR 2,aI,(none,rT 1 4 1),qv 1 5,rR 6,(none,.build (List.replicate 10 (T.v (.int .i64 0))) [(0,(1,fe)),(1,(1,.r 7))]),(none,.alloc 2 (List.replicate 10 (T.v (.int .i64 0)))),ql 10 9 8] 9 [3,9]) (.seq (rg [aI,Bg 25 gO 0 2 2,mr 1,qi 2 0,qi 2 1,qe 2 3,ql 1 5 3] 9 []) (.seq (rg [aI,Bg 31 gO 0 4 4,mr 1,qi 2 0,qi 2 1,qe 3 3,ql 1 5 3] 9 []) (.seq (rg [aI,Bg 37 gO 0 8 2,mr 1,qi 2 0,qi 2 1,qe 4 3,ql 1 5 3] 9 []) (.seq (.seq (eb 0 9 4 0) (.block 0 (.loop (.seq (.kill [2,5,6,7,8]) (.seq eR (.seq (.seq (wC 4 3 0 4 9 7 1) (qm 7 0)) (.seq (.block 1 (rg [mx 4,aI,mx 4,tH 3 2 2,Dg 3 10 3,Gp 51 gO 1 4 2,mr 5,qi 6 0,qi 6 1,qe 5 3,(none,.iaddrA 4 1 (.r 9) bw),ql 1 10 7] 9 [])) (iu 4 1 9 4 2)))))))) (.seq (rg [aI,Bg 58 gO 0 18 2,mr 1,qi 2 0,qi 2 1,qe 9 3,ql 1 5 3] 9 []) (.seq (.seq (rg [qe 0 3,cN,rU 3 1 0,mr 2,xO 3 10 3,Gn 3 67 sO 4,kV 3 5,qd 3 6,mr 7,qk 8 0,xO 8 10 3,Gn 8 73 cY 10,DY 8 74 fj 9 11,kV 8 12,qd 8 13] 9 [8,14]) (.cond (.x 8) (.seq (rg [(none,.build (List.replicate 10 (T.v (.int .i64 0))) []),iV 10 1 0,qb] 9 [2,2]) .ret) .skip)) (.seq (rg [qh 10 3,iV 10 1 0,qq] 9 [2,2]) .ret))))))))))⟩
def bX:aC:=⟨2,14,3,[.var 3],[.raw],false,.seq (H7 14 2 0 3 1) (.seq (.seq (rg [qh 6 2,qw 11 fQ 0,eY 1,mr 2,qk 3 1,Gq 3 3 4 1,qd 3 5,mr 6,qk 7 1,qs 7 5 2,dM 7 1 9,Bb 7 10,Gm 7 3 8 11,qd 7 12] 14 [9,13]) (Gl 9 14 3 0)) (.seq (rg [qe 5 2,cN,mx 1,(none,ur 3 2 1),qy 10 1 3,iW 10 4,(none,.alloc 2 (List.replicate 10 (T.v (.int .i64 0)))),ql 10 6 5] 14 [4,6]) (.seq (.seq (rg [qe 0 4,cN,ma 3 1 2,mr 2,qz 3 0 4,gQ 3 1 4,K3 3 3 5 3,qf 3 6] 14 [10,7]) (Gl 10 14 3 0)) (.seq (rg [(none,.alloc 4 (List.replicate 256 (T.v (.int .u8 0))))] 14 [5,0]) (.seq (.seq (eb 0 14 11 0) (.block 0 (.loop (.seq (.kill [0,3,6,7,8,9,10,12,13]) (.seq eR (.seq (V3 3 11 4 14 12 0) (.seq (qm 12 0) (.seq (.block 1 (.seq (rg [mx 11,mr 0] 14 [6,1]) (.seq (rg [qh 6 2,mx 1,mx 6,DZ 45 ab 0 1 2,mr 3,qi 4 0,qi 4 1,mr 5,mr 6] 14 [7,7,8,8]) (.seq (rg [mx 8] 14 [13,0]) (.cond (.x 13) (rg [mx 6,tH 3 64 0,mx 6,Bc 3 2 1,tH 3 64 3,(none,.sliceA 256 1 (.x 5) (some cP) (some j5)),mx 7,(none,.copy 1 j6 (.r 6))] 14 []) .skip))))) (pz 3 11 1 0 14 11 1))))))))) (.seq (rg [qe 4 4,cN,(none,.minMax false [cP,ci 256]),(none,.minMax true [dQ,ci 0]),(none,.sliceA 256 1 (.x 5) none (some fe)),mr 4] 14 [3,5]) .ret))))))⟩
def kK:aC:=⟨5,11,1,[.var 6,.var 7],[.raw,.raw],false,.seq (rg [Dj 0 1,qg,qb] 11 [5,0,6,1,7,2]) (.seq (.seq (rg [qh 4 5,aI,jr 15 mm 0 1,eY 2,mr 3,qk 4 2,qs 4 2 5,dM 4 1 6,qk 4 3,qk 4 4,(some (4,false),Dh 23 sP 5 7 8 9),kV 4 10,qd 4 11] 11 [9,12]) (.cond (.x 9) (.seq (rg [qg,qb] 11 [6,0,7,1]) .ret) .skip)) (.seq (rg [mx 2,mx 3,(none,ur 3 1 1),qy 10 0 2,pQ 9 3,qv 1 4,mr 5] 11 [8,6]) (.seq (.seq (wC 4 3 0 4 11 10 1) (.cond (.x 10) (rg [mx 2,mx 3,(none,ur 3 1 1),mx 4,qy 10 0 2,pQ 5 4,(none,.iaddrA 4 1 j6 fe),qv 1 6,mr 7] 11 [8,8]) .skip)) (.seq (rg [aI,qe 1 5,gI,mx 8,nV 3 2 3,qy 1 0 4,qv 1 5,mr 6,qq] 11 [6,7,7,8]) .ret))))⟩
def nB:aC:=⟨5,5,0,[],[],false,rd [mH 1 3,aI,mH 1 3,aI,(none,.lookup .int qo false dQ fe),aI,mH 1 4,mx 1,mx 2,(none,.build [qa,qa,qa,qa] [(0,(1,j6)),(1,(1,.r 6)),(2,(1,.r 7)),(3,(1,.r 8))]),V2 18 48 4 1 0 4 9,Nr 19 48 4 32 0 4 10,(none,.mapUpdate .int bw cP (.r 11))] 5 []⟩
def rW:aC:=⟨2,13,5,[.var 2],[.raw],false,.seq (rp 13 2 0) (.seq (rg [aI,mx 1,(none,.callnew 13 [8] vy [bw,cP]),(none,.alloc 0 [T.v (.map none)]),ql 1 3 2] 13 [3,3]) (.seq (rg [zI 2] 13 [4,0]) (.seq (.seq (rg [aI,qw 15 jF 0] 13 [9,1]) (.block 0 (.range 10 (.x 9) [10,11] (.seq (rg [(none,.alloc 4 [qa,qa]),(none,.store 2 bw (.x 10))] 13 [5,0]) (rg [mx 11] 13 [6,0])) (.block 1 (.seq (rg [mH 1 3,mx 6,(none,.lookup .int (T.agg [qa,qa]) true bw cP),mr 2,qi 3 0,qi 3 1,(none,.alloc 6 [qa,qa]),ql 2 6 4,mr 5] 13 [7,6,8,8]) (.seq (rg [mx 8,eY 0,mr 1,xO 2 2 7,xO 2 2 5,(some (2,false),.eqa true [.int,.int] fe j5),qd 2 5] 13 [12,6]) (.cond (.x 12) (rg [mH 1 4,qe 0 5,gI,qe 1 5,nW,(none,qdx 0 1 2 1 1 4),(none,.bslice 37 77 2 1 [qa,qa] [(0,(2,j6))]),(none,.append 38 77 2 16 [qa,qa] 0 bw (.r 6)),iV 1 4 7] 13 []) .skip))))))) (.seq (rg [mH 1 4,mr 0] 13 [2,1]) .ret))))⟩
def cy:aC:=⟨2,8,2,[.cell 3 true 7,.var 4],[.raw,.raw],false,.seq (rg [qx,RM 2,qb] 8 [2,0,3,1,4,2]) (.seq (rg [qh 6 2,mx 1,Gp 11 ab 0 1 4,mr 2,qi 3 0,qi 3 1,mr 4,mr 5] 8 [5,6,6,7]) (.seq (.seq (rg [mx 6,eY 0] 8 [7,1]) (.cond (.x 7) (.seq (rg [(none,.build [qa,qa,qp,qa,qa,qa,qa] []),iV 7 3 0,qq] 8 [4,2]) .ret) .skip)) (.seq (rg [mx 5,qw 18 Cj 0,qi 1 0,qi 1 1,iV 7 3 2,mr 3] 8 [4,5]) .ret)))⟩
def gx:aC:=⟨3,22,5,[.var 4,.var 5],[.raw,.raw],false,.seq (rg [qx,qg,(none,.thaw 7 3 1 (.c qo))] 22 [3,0,4,1,5,2]) (.kT (.seq (rp 22 6 0) (.seq (rp 22 7 0) (.seq .skip (.seq (.seq (eb 0 22 14 0) (.block 0 (.loop (.seq (.kill [0,4,5,8,9,10,11,12,13,15,16,17,18,19,20,21]) (.seq eR (.seq (V3 3 14 4 22 15 0) (.seq (qm 15 0) (.seq (.block 1 (.seq (rg [mx 14,mr 0] 22 [8,1]) (.seq (rg [qh 6 3,mx 1,mx 8,DZ 24 ab 0 1 2,mr 3,qi 4 0,qi 4 1,mr 5,mr 6] 22 [9,7,10,8]) (.seq (.seq (rg [mx 10,eY 0] 22 [16,1]) (.cond (.x 16) (.exit 1) .skip)) (.seq (rg [mx 9,mx 8,jr 32 oO 0 1,mr 2,qi 3 0,qi 3 1,mr 4,mr 5] 22 [11,6,12,7]) (.seq (rg [mx 7,mx 12,(none,.appendB 4 3 1 8 [qa] 0 bw cP),mr 2] 22 [7,3]) (.seq (rg [mx 11,qn 0,mi 0] 22 [17,0,18,1,19,2]) (.block 2 (.loop (.seq (.kill [0,4,5,8,9,10,11,12,13,15,16,20,21]) (.seq (.free [2,3]) (.seq (uo 3 19 18 22 20 0) (.seq (qm 20 2) (.seq (.block 3 (.seq (rg [Bf 3 17 19,iW 3 0,K6 2,ql 3 2 1] 22 [13,2]) (.seq (rg [qh 6 3,qh 3 13,mx 2,mx 6,(none,Dh 48 ow 0 1 2 3)] 22 [21,4]) (.cond (.x 21) (rg [mx 6,qh 3 13,(none,.bslice 51 105 3 1 [qa,qa,qp] [(0,(3,cP))]),(none,.append 52 105 3 32 [qa,qa,qp] 0 bw dQ),mr 3] 22 [6,4]) (rg [mx 7,qe 0 13,gI,Nt 56 3 1 1 0 1 2,(none,.appendB 6 3 1 8 [qa] 0 bw fe),mr 4] 22 [7,5]))))) (pz 3 19 1 0 22 19 1))))))))))))))) (pz 3 14 1 0 22 14 1))))))))) (.seq (rg [mx 7,(none,.callio 61 [] gE [bw])] 22 []) (.seq (rg [mx 6,mx 7,mr 0,(none,.thaw 7 3 1 cP)] 22 [4,2,5,3]) .ret)))))))⟩
def gy:aC:=⟨1,15,2,[.var 1],[.raw],false,.seq (rp 15 1 0) (.seq (eb 0 15 2 0) (.seq (.seq (rg [aI,qn 0,mi 0] 15 [6,0,7,1,8,2]) (.block 0 (.loop (.seq (.kill [1,3,4,5,9,10,11,12,13,14]) (.seq eR (.seq (uo 3 8 7 15 9 0) (.seq (qm 9 0) (.seq (.block 1 (.seq (rg [Bf 1 6 8,cN,mr 1] 15 [3,2]) (.seq (rg [mx 2,mx 3,qn 1,nV 3 0 2,mr 3] 15 [2,4]) (.seq (wC 2 3 0 0 15 10 1) (.cond (.x 10) K4 .skip))))) (pz 3 8 1 0 15 8 1))))))))) (.seq (rg [mx 2,(none,.callnew 24 [0] tG [.c qo,bw]),mr 1] 15 [4,2]) (.seq (.seq (rg [aI,qn 0,mi 0] 15 [11,0,12,1,13,2]) (.block 2 (.loop (.seq (.kill [0,1,2,3,5,6,7,8,9,10,14]) (.seq eR (.seq (uo 3 13 12 15 14 0) (.seq (qm 14 2) (.seq (.block 3 (.seq (rg [Bf 1 11 13,cN,mr 1] 15 [5,2]) (rg [mx 4,mx 5,(none,.appendB 2 48 4 32 [qa,qa,qa,qa] 0 bw cP),mr 2] 15 [4,3]))) (pz 3 13 1 0 15 13 1))))))))) (yK 4 0 15 1 1)))))⟩
def pS:aC:=⟨5,18,4,[.cell 6 true 13,.var 7,.var 8],[.raw,.raw,.raw],false,.seq (rg [qx,RL 2,qb,qg] 18 [5,0,6,1,7,2,8,3]) (.seq (rg [mx 2,mx 3,(none,ur 3 1 1),qy 10 0 2,iW 10 3,(none,.alloc 4 (List.replicate 10 (T.v (.int .i64 0)))),ql 10 5 4] 18 [9,5]) (.seq (.seq (rg [qe 0 9,cN,rU 3 1 0] 18 [15,2]) (.cond (.x 15) (.seq (rg [RK,iV 13 6 0,qq,qg] 18 [7,2,8,3]) .ret) .skip)) (.seq (rd [qe 0 9,cN,qe 1 9,oR,qe 2 9,qv 1 4,qe 3 9,qv 1 6,mx 1,qh 4 5,mx 2,mx 3,(none,Dh 40 uh 8 9 10 11),(none,.build [qa,qa,qa,qa,qo,qo,qa,qa,qp,qa,qa,qa,qa] [(0,(1,cP)),(1,(1,fe)),(2,(1,j6)),(3,(1,.r 7)),(4,(1,.r 12))]),RL 6,ql 13 14 13] 18 [10,14]) (.seq (rg [qq] 18 [11,0]) (.seq (.seq (rg [mx 1,qh 4 5,mx 2,mx 3,(none,.call 47 oN [bw,cP,dQ,fe,ci 4]),mr 4,qi 5 0,qi 5 1,mr 6,mr 7] 18 [12,8,13,9]) (.seq (rg [mx 13] 18 [16,0]) (.cond (.x 16) (rg [mx 12,qw 53 Ax 0,mr 1,qi 2 0,qi 2 1,qe 6 10,ql 7 5 3,mr 4] 18 [11,7]) .skip))) (.seq (rp 18 14 0) (.seq (.seq (rg [qe 0 9,cN,rU 3 1 1] 18 [17,2]) (.cond (.x 17) (rg [qh 4 5,mx 1,mx 2,mx 3,mx 4,(none,.call 66 ui [bw,cP,dQ,fe,j5]),mr 5,qi 6 0,qi 6 1,qe 5 10,ql 1 9 7,mr 8] 18 [14,11]) .skip)) (.seq (rg [qh 13 10,mx 11,mx 14,iV 13 6 0,mr 1,mr 2] 18 [7,4,8,5]) .ret))))))))⟩
def pB:aC:=⟨4,5,1,[.cell 4 true 4],[.raw],false,.seq (rg [RO 0] 5 [4,0]) (.seq (rg [aI,mx 1,mx 2,mx 3,(none,.build [qa,qa,qa,qa] [(0,(1,bw)),(1,(1,cP)),(2,(1,dQ)),(3,(1,fe))]),iV 4 4 4] 5 []) .ret)⟩
def vZ:aC:=⟨2,9,0,[.var 2],[.raw],false,.seq (rp 9 2 0) (.seq (rg [(none,.bslice 8 77 2 0 [qa,qa] []),mr 0] 9 [3,1]) (.seq (.seq (eb 0 9 4 0) (.block 0 (.loop (.seq (.kill [2,5,6,7,8]) (.seq eR (.seq (qdz 4 1 9 6 3 6 0) (.seq (.block 1 (.seq (eb 0 9 5 0) (.block 2 (.loop (.seq (.kill [2,6,7,8]) (.seq eR (.seq (.seq (wC 5 3 0 5 9 7 1) (qm 7 2)) (.seq (.block 3 (.seq (rg [aI,mx 4,qy 10 0 1,iW 10 2,mx 5,jr 24 mE 3 4,ma 3 5 0,mr 6,qu 7 0,qu 7 1,qu 7 4,(some (7,true),.bin .add 3 (.r 10) (ci 1)),qu 7 5,(some (7,true),Dh 32 sP 8 9 11 12),(some (7,true),VW 13),qf 7 14] 9 [8,15]) (.cond (.x 8) (rg [mx 3,mx 4,Bc 3 1 1,mx 5,(none,qdx 0 1 2 1 1 3),(none,.bslice 40 77 2 1 [qa,qa] [(0,(2,j5))]),(none,.append 41 77 2 16 [qa,qa] 0 bw j6),mr 6] 9 [3,7]) .skip))) (iu 5 1 9 5 2))))))))) (iu 4 1 9 4 2)))))))) (yK 3 0 9 2 1)))⟩
def oy:aC:=⟨2,5,2,[.var 4],[.raw],false,.seq (rg [qx,Dj 2 1,qb] 5 [2,0,3,1,4,2]) (.seq (rg [qe 0 2,cN,qe 0 3,oR,(none,Bh 3 1 3),mr 4,qz 5 1 2,gQ 5 1 6,qz 5 1 3,gQ 5 1 8,(some (5,true),Bh 3 7 9),qf 5 10,mr 11,qz 12 2 2,gQ 12 1 13,qz 12 2 3,gQ 12 1 15,(some (12,true),Bh 3 14 16),qf 12 17,mr 18,qz 19 3 2,gQ 19 1 20,qz 19 3 3,gQ 19 1 22,(some (19,true),Bh 3 21 23),qf 19 24,mr 25,qz 26 6 2,Ns 26 7 27,qz 26 6 3,Ns 26 7 29,(some (26,true),qdj 28 30),qf 26 31,mr 32,qz 33 4 2,gQ 33 1 34,qz 33 4 3,gQ 33 1 36,(some (33,true),.call 43 fj [.r 35,.r 37]),qf 33 38,mr 39,qz 40 5 2,gQ 40 1 41,qz 40 5 3,gQ 40 1 43,(some (40,true),.call 50 yI [.r 42,.r 44]),qf 40 45,mr 46] 5 [4,47]) .ret)⟩
def uw:aC:=⟨2,4,1,[.var 3],[.raw],false,.seq (D1 0 4 2 0 3 1) (.seq (rg [qh 4 2,(none,.build [qa,qa,qa,qa] [(0,(4,bw))]),mx 1,jr 8 pM 1 2,mr 3] 4 [3,4]) .ret)⟩
def rX:aC:=⟨1,4,1,[.var 2],[.raw],false,.seq (D1 0 4 1 0 2 1) (.seq (.seq (rg [qh 4 1,qw 4 rQ 0,ma 54 1 0] 4 [3,2]) (V1 3 0 4 2 0)) (.seq (rd [qh 4 1,(none,.build [qa,qa,qa,qa] [(0,(4,bw))]),qw 8 ox 1,qe 3 1,nW,nV 3 2 4,mr 5] 4 [2,6]) .ret))⟩
def gM:aC:=⟨2,6,2,[.var 4],[.raw],false,.seq (rg [qx,Dj 2 1,(none,.mv (.c (T.v .nilFunc)))] 6 [2,0,3,1,4,2]) (.seq (.seq (rg [mH 1 3,(none,vi 3 0 1)] 6 [5,1]) (.cond (.x 5) K4 .skip)) (.seq (rg [(none,.mkFunc (.func bg) [] [.x 2,.x 3]),mr 0] 6 [4,1]) .ret))⟩
def gN:aC:=⟨1,3,1,[.var 1],[.box 0],true,.seq (rp 3 1 0) (.seq (.seq (rg [aI,(none,.eqnil false bw)] 3 [2,1]) (Gl 2 3 1 0)) (.seq (rg [H6 5 5 1 0,aI,(none,.appendB 0 5 1 1 [qt] 0 bw cP),mr 2] 3 [1,3]) .ret))⟩
def js:aC:=⟨2,6,1,[.var 3],[.raw],false,.seq (D1 0 6 2 0 3 1) (.seq (.seq (rg [qh 4 2,qw 6 kI 0,ma 54 1 0,mr 2,qk 3 1,Gq 3 3 4 0,qd 3 5,mr 6,qk 7 1,qs 7 0 2,dM 7 1 9,Gm 7 3 8 10,qd 7 11] 6 [4,12]) (.cond (.x 4) (VY 6 3 0) .skip)) (.seq (.seq (rg [mx 1,rU 3 0 0] 6 [5,1]) (.cond (.x 5) (.seq (rd [qe 0 2,cN,qh 4 2,qw 23 kG 2,(none,.bin .mul 3 cP fe),Dg 3 1 4,mr 5] 6 [3,6]) .ret) .skip)) (.seq (rg [mx 1,(none,ur 3 0 1),qh 4 2,qw 29 kG 2,(none,.bin .mul 3 cP fe),Dg 3 1 4,mr 5] 6 [3,6]) .ret)))⟩
def oT:aC:=⟨1,4,1,[.var 2],[.raw],false,.seq (D1 0 4 1 0 2 1) (.seq (.seq (rg [qh 4 1,qw 4 kI 0,ma 54 1 0] 4 [3,2]) (V1 3 0 4 2 0)) (.seq (rd [lu,cN,Bc 3 1 1,qh 4 1,qw 10 kG 3,(none,.bin .mul 3 dQ j5),Dg 3 1 5,qe 3 1,qv 1 7,nV 3 6 8,mr 9] 4 [2,10]) .ret))⟩
def sU:aC:=⟨1,3,1,[.var 2],[.raw],false,.seq (D1 0 3 1 0 2 1) (.seq (rg [qe 1 1,cN,Dg 3 1 1,qe 2 1,nW,nV 3 2 4,mr 5] 3 [2,6]) .ret)⟩
def sV:aC:=⟨1,5,1,[.var 2],[.raw],false,.seq (D1 0 5 1 0 2 1) (.seq (.seq (rg [lu,cN,(none,vi 3 1 1),mr 2,qs 3 0 1,dM 3 1 4,Ba 3 3 5 3,qd 3 6,mr 7,qs 8 1 1,dM 8 1 9,Gq 8 3 10 4,qd 8 11,mr 12,qs 13 1 1,dM 13 1 14,Ba 13 3 15 24,qd 13 16] 5 [3,17]) (V1 3 1 5 2 0)) (.seq (.seq (rg [qe 2 1,cN,(none,vi 3 1 1),mr 2,qs 3 2 1,dM 3 1 4,Ba 3 3 5 60,qd 3 6,mr 7,qs 8 3 1,dM 8 1 9,Gq 8 3 10 1,qd 8 11,mr 12,qs 13 3 1,dM 13 1 14,Ba 13 3 15 64,qd 13 16] 5 [4,17]) (V1 4 1 5 2 0)) (.seq (eb 0 5 2 0) .ret)))⟩
def pT:aC:=⟨2,7,0,[.var 2],[.raw],false,.seq (nw 7 2 0) (.seq (.seq (rg [aI,qn 0,mx 1,qn 2,(none,Be 3 1 3)] 7 [4,4]) (qj 4 7 2 0)) (.seq (.seq (eb 0 7 3 0) (.block 0 (.loop (.seq (.kill [2,4,5,6]) (.seq eR (.seq (qdz 3 1 7 5 3 5 0) (.seq (.block 1 (.seq (rd [aI,mx 3,qy 1 0 1,oR,mx 1,mx 3,qy 1 4 5,qv 1 6,(none,Be 5 3 7)] 7 [6,8]) (qj 6 7 2 0))) (iu 3 1 7 3 2)))))))) (uq 7 2 0)))⟩
def oU:aC:=⟨1,3,1,[.var 2],[.raw],false,.seq (H7 3 1 0 2 1) (.seq (rg [lu,cN,vj 1,qe 1 1,nW,vj 4,qe 2 1,qv 1 6,vj 7,qe 3 1,qv 1 9,vj 10,(none,.bslice 15 5 1 9 [qt] [(0,(1,pA 82)),(1,(1,pA 84)),(2,(1,pA 66)),(3,(1,pA 76)),(4,(1,pA 1)),(5,(1,dQ)),(6,(1,j6)),(7,(1,.r 8)),(8,(1,.r 11))]),qw 16 bR 12,mr 13] 3 [2,14]) .ret)⟩
def pU:aC:=⟨2,8,0,[.var 2],[.raw],false,.seq (eb 0 8 2 0) (.seq (.seq (rg [aI,qn 0,mi 0] 8 [4,1,5,2]) (.block 0 (.loop (.seq (.kill [2,3,6,7]) (.seq eR (.seq (uo 3 5 4 8 6 0) (.seq (qm 6 0) (.seq (.block 1 (.seq (rg [mx 5,mr 0] 8 [3,1]) (.seq (rg [mx 1,aI,mx 3,qy 1 1 2,nW,(none,.callv 16 bw [j5])] 8 [7,5]) (.cond (.x 7) (yK 3 0 8 2 1) .skip)))) (pz 3 5 1 0 8 5 1))))))))) (VY 8 2 0))⟩
def Gs:aC:=⟨1,2,1,[.cell 1 true 13],[.raw],false,.seq (rg [RL 0] 2 [1,0]) (.seq (rg [aI,(none,.build [qa,qa,qa,qa,qo,qo,qa,qa,qp,qa,qa,qa,qa] [(0,(1,ci 1)),(2,(1,ci 2)),(5,(1,bw))]),iV 13 1 1] 2 []) .ret)⟩
def xF:aC:=⟨1,13,2,[.var 2,.var 3],[.raw,.raw],false,.seq (rg [qx,qg,mi 0] 13 [1,0,2,1,3,2]) (.seq (.seq (rg [qh 6 1,qw 10 MN 0,eY 1] 13 [9,2]) (qde 9 1 13 2 0 3 1)) (.seq (rg [lu,iW 4 0,qw 14 mn 1,mr 2] 13 [4,3]) (.seq (.seq (eb 0 13 5 0) (.block 0 (.loop (.seq (.kill [0,2,3,6,7,8,9,10,11,12]) (.seq (.free [2,3]) (.seq (.seq (rg [mx 5,qe 5 1,gI,qn 2,(none,H5 3 0 3)] 13 [10,4]) (qm 10 0)) (.seq (.block 1 (.seq (rg [qe 4 1,iW 1 0,zI 2,ql 1 2 1] 13 [6,2]) (.seq (.seq (rg [mx 5,qe 5 1,gI,qn 2,xN 3 0 3] 13 [11,4]) (.cond (.x 11) (rg [qe 5 1,cN,mx 5,qy 1 1 2,iW 1 3,iV 1 6 4] 13 []) .skip)) (.seq (rg [lu,iW 4 0,qh 1 6,jr 38 mF 1 2,mr 3,qi 4 0,qi 4 1,mr 5,mr 6] 13 [7,7,8,8]) (.seq (.seq (rg [mx 8,eY 0] 13 [12,1]) (qde 12 5 13 2 0 3 1)) (rg [mx 4,mx 7,kx 45 5 1 1 0 0 1,mr 2] 13 [4,3])))))) (iu 5 1 13 5 2)))))))) (.seq (rg [mx 4,(none,.call 47 MO []),kx 48 5 1 1 0 0 1,mr 2] 13 [4,3]) (.seq (rg [mx 4,lu,pQ 3 1,oR,(none,ur 3 3 1),tH 3 64 4,kx 55 5 1 1 2 0 5,mr 6,mi 0] 13 [2,7,3,8]) .ret)))))⟩
def wa:aC:=⟨1,4,1,[.var 2],[.raw],false,.seq (D1 0 4 1 0 2 1) (.seq (.seq (rg [lu,cN,Bg 5 lH 1 1 3,mr 2,qz 3 1 1,gQ 3 1 4,(some (3,true),.call 9 lH [j6,ci 4,ci 24]),qf 3 6,mr 7,qz 8 2 1,gQ 8 1 9,(some (8,true),.call 14 lH [.r 10,ci 1,ci 60]),qf 8 11,mr 12,qz 13 3 1,gQ 13 1 14,(some (13,true),.call 19 lH [.r 15,ci 1,ci 64]),qf 13 16] 4 [3,17]) (V1 3 0 4 2 0)) (.seq (eb 1 4 2 0) .ret))⟩
def lN:aC:=⟨1,9,3,[.cell 1 true 10],[.raw],false,.seq (rg [(none,.alloc 0 (List.replicate 10 (T.v (.int .i64 0))))] 9 [1,0]) (.seq (rg [(none,.alloc 2 (List.replicate 10 (T.v (.int .i64 0))))] 9 [2,0]) (.seq (eb 0 9 3 0) (.seq (.seq (rg [(none,.build (List.replicate 10 (T.v (.int .i64 0))) []),qw 8 mG 0,mi 0] 9 [6,1,7,2]) (.block 0 (.loop (.seq (.kill [4,5,8]) (.seq (.free [4,5]) (.seq (V3 3 7 10 9 8 0) (.seq (qm 8 0) (.seq (.block 1 (.seq (rg [mx 7,(none,.indexA 10 3 true (.x 6) (.x 7)),(none,.alloc 4 [qa,qa,qa]),mr 0,ql 3 2 1] 9 [4,3,5,2]) (.seq (rg [mx 4,aI,mx 3,zH 3 1 5 1,nW,DZ 19 pN 1 2 4,mr 5,qi 6 0,qi 6 1,(none,.iaddrA 10 1 (.x 2) bw),ql 1 9 7] 9 []) (rg [mx 3,zH 3 1 5 1,gI,nV 3 0 2,mr 3] 9 [3,4])))) (pz 3 7 1 0 9 7 1))))))))) (.seq (rd [zH 10 1 2 0,cN,zH 10 1 2 1,oR,zH 10 1 2 2,qv 1 4,zH 10 1 2 3,qv 1 6,zH 10 1 2 4,qv 1 8,(none,.sliceA 10 1 (.x 2) (some (ci 5)) (some (ci 9))),(none,.arrOf 4 (.r 10)),iW 4 11,zH 10 1 2 9,qv 1 13,(none,.build (List.replicate 10 (T.v (.int .i64 0))) [(0,(1,cP)),(1,(1,fe)),(2,(1,j6)),(3,(1,.r 7)),(4,(1,.r 9)),(5,(4,.r 12)),(9,(1,.r 14))]),iV 10 1 15] 9 []) .ret))))⟩
def jT:aC:=⟨1,11,2,[.var 2,.var 3],[.raw,.raw],false,.seq (rg [qx,qg,mi 0] 11 [1,0,2,1,3,2]) (.seq (.block 0 (.seq (rg [qh 10 1,qw 9 xx 0,eY 1,mr 2] 11 [6,3]) (.cond (.x 6) (.seq (rg [qg,mi 1] 11 [2,0,3,1]) .ret) (.seq (rg [lu,cN,rU 3 1 0,mr 2] 11 [7,3]) (.cond (.x 7) (.seq (rg [(none,.mkSlice 15 5 1 1 [qt] (ci 64)),mr 0,mi 0] 11 [2,1,3,2]) .ret) .skip))))) (.seq (rp 11 4 0) (.seq (.seq (rg [qh 10 1,qw 17 mG 0,mi 0] 11 [8,1,9,2]) (.block 1 (.loop (.seq (.kill [0,1,2,3,5,6,7,10]) (.seq (.free [2,3]) (.seq (V3 3 9 10 11 10 0) (.seq (qm 10 1) (.seq (.block 2 (.seq (rg [(none,.indexA 10 3 true (.x 8) (.x 9)),(none,.alloc 2 [qa,qa,qa]),ql 3 1 0] 11 [5,1]) (rg [mx 4,zH 3 1 5 0,gI,zH 3 1 5 1,nW,DZ 26 j2 0 2 4,mr 5] 11 [4,6]))) (pz 3 9 1 0 11 9 1))))))))) (.seq (rg [mx 4,qw 29 jg 0,mr 1,mi 0] 11 [2,2,3,3]) .ret))))⟩
def lx:aC:=⟨3,9,0,[.var 3,.var 4],[.raw,.raw],false,.seq (rg [mi 0,qb] 9 [3,0,4,1]) (.seq (.seq (rg [mx 2,qw 11 sQ 0,eY 1,mr 2,qk 3 1,Gq 3 3 4 0,qd 3 5,mr 6,qk 7 1,qk 7 0,Bb 7 9,Gm 7 3 8 10,qd 7 11,mr 12,qk 13 0,Bb 13 14,qk 13 1,(some (13,false),.bin .sub 3 (.r 15) (.r 16)),qk 13 2,(some (13,false),.bin .lss 3 (.r 17) (.r 18)),qd 13 19] 9 [7,20]) (.cond (.x 7) (.seq (rg [mi 0,qb] 9 [3,0,4,1]) .ret) .skip)) (.seq (eb 0 9 5 0) (.seq (.seq (rg [mx 2,(none,ur 3 0 1),mr 1] 9 [6,2]) (.block 0 (.loop (.seq (.kill [2,3,4,7,8]) (.seq eR (.seq (.seq (rg [mx 6,(none,Di 3 0 0)] 9 [8,1]) (qm 8 0)) (.seq (.block 1 (rg [mx 5,(none,.bin .mul 3 bw (ci 256)),aI,mx 1,mx 6,nV 3 3 4,qy 1 2 5,qv 1 6,rR 7,nV 3 1 8,mr 9] 9 [5,10])) (rg [mx 6,(none,ur 3 0 1),mr 1] 9 [6,2])))))))) (.seq (rg [mx 5,mr 0,qq] 9 [3,1,4,2]) .ret))))⟩
def dB:aC:=⟨1,9,1,[.var 2],[.raw],false,.seq (yL 9 1 0 2 1) (.seq (.seq (rg [qh 10 1,(none,.build (List.replicate 10 (T.v (.int .i64 0))) []),(none,qcj)] 9 [4,2]) (.cond (.x 4) (uq 9 2 0) .skip)) (.seq (.seq (rg [lu,cN,(none,vi 3 1 1),mr 2,qs 3 0 1,dM 3 1 4,Ba 3 3 5 4,qd 3 6,mr 7,qs 8 1 1,dM 8 1 9,yM 8 18 gY 10 255,kV 8 11,qd 8 12,mr 13,qs 14 2 1,dM 14 1 15,yM 14 24 gY 16 65535,kV 14 17,qd 14 18,mr 19,qs 20 9 1,dM 20 1 21,yM 20 30 gY 22 65535,kV 20 23,qd 20 24,mr 25,qs 26 3 1,dM 26 1 27,yM 26 36 gY 28 268435455,kV 26 29,qd 26 30,mr 31,qs 32 4 1,dM 32 1 33,yM 32 42 gY 34 256,kV 32 35,qd 32 36] 9 [5,37]) (qj 5 9 2 0)) (.seq (.seq (rg [lu,cN,rU 3 1 1,mr 2,qs 3 0 1,dM 3 1 4,(some (3,false),um 3 5 4),qd 3 6,mr 7,qz 8 4 1,gQ 8 1 9,K3 8 3 10 0,qf 8 11] 9 [6,12]) (qj 6 9 2 0)) (.seq (.seq (eb 0 9 3 0) (.block 0 (.loop (.seq (.kill [0,2,4,5,6,7,8]) (.seq eR (.seq (.seq (wC 3 3 0 4 9 7 1) (qm 7 0)) (.seq (.block 1 (.seq (rg [mx 3,qe 5 1,(none,.iaddrA 4 1 cP bw),oR,(none,rS 66 gY 3 65535),eY 4,mr 5,qs 6 0 1,dM 6 1 7,(some (6,false),um 3 8 4),(some (6,false),.mv (.r 9)),qu 10 3,qz 10 5 1,(some (10,true),.iaddrA 4 1 (.r 12) (.r 11)),gQ 10 1 13,K3 10 3 14 0,VZ 6 10 15,qd 6 16] 9 [8,17]) (qj 8 9 2 0))) (iu 3 1 9 3 2)))))))) (uq 9 2 0)))))⟩
def ig:aC:=⟨1,7,1,[.var 2],[.raw],false,.seq (H7 7 1 0 2 1) (.seq (.seq (rg [qh 10 1,(none,.build (List.replicate 10 (T.v (.int .i64 0))) []),(none,qcj)] 7 [5,2]) (.cond (.x 5) (.seq (rg [(none,.mkSlice 8 5 1 1 [qt] (ci 64)),mr 0] 7 [2,1]) .ret) .skip)) (.seq (rd [lu,cN,vj 1,qe 1 1,nW,vj 4,(none,.bslice 15 5 1 2 [qt] [(0,(1,dQ)),(1,(1,j6))]),qe 2 1,qv 1 7,(none,rS 18 dX 8 2),kx 19 5 1 1 0 6 9,mr 10] 7 [3,11]) (.seq (rg [mx 3,qe 3 1,gI,(none,rS 23 dX 2 4),kx 24 5 1 1 0 0 3,mr 4] 7 [3,5]) (.seq (rg [mx 3,qe 4 1,gI,(none,rS 28 dX 2 2),kx 29 5 1 1 0 0 3,mr 4] 7 [3,5]) (.seq (.seq (eb 0 7 4 0) (.block 0 (.loop (.seq (.kill [0,2,5,6]) (.seq eR (.seq (.seq (wC 4 3 0 4 7 6 1) (qm 6 0)) (.seq (.block 1 (rg [mx 3,mx 4,qe 5 1,(none,.iaddrA 4 1 dQ cP),nW,(none,rS 39 dX 4 2),kx 40 5 1 1 0 0 5,mr 6] 7 [3,7])) (iu 4 1 7 4 2)))))))) (.seq (rg [mx 3,qe 9 1,gI,(none,rS 44 dX 2 2),kx 45 5 1 1 0 0 3,qw 46 bR 4,mr 5] 7 [2,6]) .ret))))))⟩
def aM:aC:=⟨3,9,2,[.var 4,.var 5],[.raw,.raw],false,.seq (rg [qx,qg,qb] 9 [3,0,4,1,5,2]) (.seq (.seq (rg [qh 6 3,qw 11 fQ 0,eY 1,mr 2,qs 3 5 3,dM 3 1 4,qs 3 0 3,H4 3 2 6,dM 3 1 7,qk 3 1,qk 3 2,(some (3,false),Dh 21 oP 5 8 9 10),kV 3 11,qd 3 12] 9 [8,13]) (.cond (.x 8) (.seq (rg [qg,qb] 9 [4,0,5,1]) .ret) .skip)) (.seq (rg [qe 5 3,cN,mx 1,(none,ur 3 2 1),qy 10 1 3,iW 10 4,(none,.alloc 2 (List.replicate 10 (T.v (.int .i64 0)))),ql 10 6 5] 9 [6,6]) (.seq (rd [qe 5 6,(none,.sliceA 4 1 bw none none),qw 32 fW 1,qe 9 6,nW,Nt 35 3 1 1 0 1 4,Nu 36 3 1 8 0 2 5,mx 2,qy 1 6 7,qv 1 8,mr 9] 9 [7,10]) (.seq (rg [qe 4 3,cN,qe 0 3,pQ 1 2,nW,mx 7,nV 3 4 5,qy 1 1 6,qv 1 7,mr 8,qq] 9 [4,9,5,10]) .ret))))⟩
def gl:aC:=⟨4,13,0,[.var 4],[.raw],false,.seq (nw 13 4 0) (.seq (.seq (rg [mx 2,(none,vi 3 0 1),mr 1,qk 2 2,qk 2 0,Bb 2 4,Gm 2 3 3 5,qd 2 6,mr 7,qk 8 3,Gq 8 3 9 0,qd 8 10,mr 11,qk 12 3,Ba 12 3 13 4,qd 12 14] 13 [8,15]) (qj 8 13 4 0)) (.seq (rg [aI,mx 2,(none,ur 3 1 1),qy 10 0 2,iW 10 3,mx 3,jr 34 mE 4 5,mr 6] 13 [5,7]) (.seq (.seq (rg [mx 5,(none,vi 3 0 1),mr 1,qk 2 5,qk 2 1,Gm 2 3 3 4,qd 2 5] 13 [9,6]) (qj 9 13 4 0)) (.seq (.seq (eb 0 13 6 0) (.block 0 (.loop (.seq (.kill [1,4,7,8,9,10,11,12]) (.seq eR (.seq (.seq (rg [mx 6,mx 2,xN 3 0 1] 13 [10,2]) (qm 10 0)) (.seq (.block 1 (.seq (eb 0 13 7 0) (.block 2 (.loop (.seq (.kill [1,4,8,9,10,11,12]) (.seq eR (.seq (.seq (wC 7 3 0 5 13 11 1) (qm 11 2)) (.seq (.block 3 (.seq (rg [mx 6,mx 2,(none,ur 3 1 1),Bi,mr 3,qk 4 7,qk 4 3,(some (4,false),.bin .lss 3 j6 (.r 6)),qd 4 7,mr 8,qu 9 0,qu 9 6,(some (9,true),.iaddrS 10 (.r 10) (.r 11)),Ns 9 10 12,qu 9 7,(some (9,true),.call 66 mE [.r 13,.r 14]),qu 9 5,(some (9,true),Bh 3 15 16),qf 9 17] 13 [12,18]) (qj 12 13 4 0))) (iu 7 1 13 7 2))))))))) (iu 6 1 13 6 2)))))))) (uq 13 4 0)))))⟩
def qR:aC:=⟨2,12,5,[.var 3],[.raw],false,.seq (rg [Dj 0 1,(none,.mv (.c (T.v (.map none))))] 12 [2,0,3,1]) (.seq (rg [(none,.mkMap 9),(none,.alloc 2 [T.v (.map none)]),ql 1 1 0] 12 [4,1]) (.seq (.seq (rg [aI,qw 12 jF 0] 12 [8,1]) (.block 0 (.range 10 (.x 8) [9,10] (.seq (rg [(none,.alloc 4 [qa,qa]),(none,.store 2 bw (.x 9))] 12 [5,0]) (rg [mx 10] 12 [6,0])) (.block 1 (.seq (rg [mH 1 4,mx 6,(none,.lookup .int (T.agg [qa,qa]) true bw cP),mr 2,qi 3 0,qi 3 1,(none,.alloc 6 [qa,qa]),ql 2 6 4,mr 5] 12 [7,8]) (.seq (rg [mx 7,eY 0,mr 1,qu 2 6,(some (2,true),Di 3 3 0),qf 2 4,mr 5,qu 6 6,(some (6,true),.load false 1 (.x 2)),(some (6,true),.bin .lss 3 (.r 7) (.r 8)),qf 6 9] 12 [11,10]) (.cond (.x 11) (rg [mH 1 4,mx 6,qh 2 5,(none,.mapUpdate .int bw cP dQ)] 12 []) .skip))))))) (.seq (rg [mH 1 4,mr 0] 12 [3,1]) .ret)))⟩
def oz:aC:=⟨1,3,1,[.var 2],[.raw],false,.seq (rg [qx,(none,.mv (.c (T.v .nilFunc)))] 3 [1,0,2,1]) (.seq (rg [(none,.mkFunc (.func cx) [] [.x 1]),mr 0] 3 [2,1]) .ret)⟩
def ux:aC:=⟨1,8,2,[.cell 1 true 7,.var 2],[.raw,.raw],false,.seq (rg [RM 0,qb] 8 [1,0,2,1]) (.seq (.seq (rg [aI,qn 0,ma 3 1 64,mr 2,qk 3 0,(some (3,false),rT 1 4 2),dM 3 1 5,(some (3,false),.bin .gtr 5 (.r 6) (pA 24)),qd 3 7] 8 [6,8]) (qbn 6 7 1 0 8 2 2)) (.seq (rd [aI,(none,rT 1 0 0),gI,rR 2,aI,(none,rT 1 4 1),qv 1 5,rR 6,aI,aI,(none,rT 1 9 2),qv 1 10,(none,.bin .add 5 (pA 3) (.r 11)),V0 1 8 3 12,(none,.toStr (.r 13)),(none,.build [qa,qa,qp,qa,qa,qa,qa] [(0,(1,fe)),(1,(1,.r 7)),(2,(1,.r 14))]),RM 2,ql 7 16 15] 8 [3,16]) (.seq (rg [aI,(none,rT 1 0 27),gI,rR 2,qe 3 3,pQ 0 4,ql 1 5 3] 8 []) (.seq (rg [aI,Bg 41 pN 0 28 2,mr 1,qi 2 0,qi 2 1,qe 3 3,pQ 1 5,ql 1 6 3] 8 []) (.seq (rg [aI,Bg 48 pN 0 30 4,mr 1,qi 2 0,qi 2 1,qe 3 3,pQ 2 5,ql 1 6 3] 8 []) (.seq (rg [aI,Bg 55 pN 0 34 2,mr 1,qi 2 0,qi 2 1,qe 6 3,ql 1 5 3] 8 []) (.seq (.seq (rg [qh 7 3,qw 61 Ck 0,mr 1,qi 2 0,qi 2 1,mr 3,mr 4] 8 [4,5,5,6]) (.seq (rg [mx 5,ma 54 0 0,mr 1,qk 2 0,qk 2 4,DY 2 69 cf 3 4,kV 2 5,qd 2 6] 8 [7,7]) (qbn 7 7 1 0 8 2 2))) (.seq (rg [qh 7 3,iV 7 1 0,qq] 8 [2,2]) .ret))))))))⟩
def oV:aC:=⟨2,16,4,[.var 2,.var 3],[.raw,.raw],false,.seq (rg [qg,qg] 16 [2,0,3,1]) (.seq (.seq (rg [aI,qn 0,ma 3 1 64,mr 2,qk 3 1,Gq 3 3 4 0,qd 3 5,mr 6,qk 7 1,(some (7,false),Di 3 8 4),qd 7 9] 16 [11,10]) (.cond (.x 11) (.seq (rg [qg,qg] 16 [2,0,3,1]) .ret) .skip)) (.seq (rg [zI 0] 16 [4,0]) (.seq (rg [zI 2] 16 [5,0]) (.seq (rg [mx 1,tH 3 4 0,(none,.alloc 4 [qa]),ql 1 2 1] 16 [6,2]) (.seq (.seq (rg [aI,(none,rS 27 jz 0 16)] 16 [12,1]) (.block 0 (.range 8 (.x 12) [13] (rg [mx 13] 16 [7,0]) (.block 1 (.seq (rg [mx 7,mH 1 6,jr 32 gP 0 1,mr 2,qi 3 0,qi 3 1,qi 3 2,K6 6,ql 3 7 4,mr 5,mr 6] 16 [8,7,9,9,10,10]) (.seq (.block 2 (.seq (rg [mx 9,mr 0] 16 [14,1]) (.cond (.x 14) (rg [mH 1 4,qh 3 8,(none,.bslice 40 105 3 1 [qa,qa,qp] [(0,(3,cP))]),(none,.append 41 105 3 32 [qa,qa,qp] 0 bw dQ),iV 1 4 3] 16 []) (.seq (rg [mx 10,eY 0,mr 1] 16 [15,2]) (.cond (.x 15) (rg [mH 1 5,mH 1 6,Nt 47 3 1 1 0 1 1,Nu 48 3 1 8 0 0 2,iV 1 5 3] 16 []) .skip))))) (rg [mH 1 6,qr,iV 1 6 1] 16 []))))))) (.seq (rd [mH 1 4,mH 1 5,mr 0,mr 1] 16 [2,2,3,3]) .ret))))))⟩
def ed:aC:=⟨4,8,2,[.var 6],[.raw],false,.seq (rg [qx,Dj 2 1,qb] 8 [4,0,5,1,6,2]) (.seq (.seq (rg [qe 1 5,cN,mx 2,(none,H5 3 1 2),mr 3,qs 4 1 5,dM 4 1 5,qs 4 5 4,dM 4 1 7,Bb 4 8,Gm 4 3 6 9,qd 4 10,mr 11,qs 12 5 4,dM 12 1 13,qs 12 1 5,dM 12 1 15,(some (12,false),ur 3 16 1),(some (12,false),.iaddrS 10 (.r 14) (.r 17)),H4 12 0 18,dM 12 1 19,(some (12,false),um 3 20 0),qd 12 21] 8 [7,22]) (qj 7 8 6 0)) (.seq (rg [mx 3,(none,.mkFunc (.func dr) [] [.x 5]),jr 34 j3 0 1,eY 2,mr 3] 8 [6,4]) .ret))⟩
def iD:aC:=⟨2,5,1,[.var 2],[.box 0],false,.seq (rp 5 2 0) (.seq (.seq (wC 1 3 0 0 5 3 1) (.cond (.x 3) K4 .skip)) (.seq (.seq (rg [mx 1,aI,(none,.capS cP),aI,qn 3,(none,.bin .sub 3 dQ j5),(none,.bin .sub 3 bw j6),mr 6] 5 [1,7]) (.seq (rg [mx 1,(none,.bin .gtr 3 bw (ci 0))] 5 [4,1]) (.cond (.x 4) (rg [aI,aI,(none,.capS cP),(none,.sliceT 4 bw none (some dQ) none),mx 1,(none,.appendB 0 48 4 32 [qa,qa,qa,qa] 2 fe j5),aI,qn 6,(none,.sliceT 4 j6 none (some (.r 7)) none),mr 8] 5 [0,9]) .skip))) (yK 0 0 5 2 1)))⟩
def rY:aC:=⟨1,6,2,[.cell 1 true 7,.var 2],[.raw,.raw],false,.seq (rg [RM 0,qb] 6 [1,0,2,1]) (.seq (.seq (rg [aI,qn 0,ma 3 1 64,mr 2,qk 3 0,(some (3,false),rT 1 4 2),dM 3 1 5,(some (3,false),.toInt .i64 (.r 6)),Ba 3 3 7 24,qd 3 8] 6 [4,9]) (qbn 4 7 1 0 6 2 2)) (.seq (rd [aI,(none,rT 1 0 0),gI,rR 2,aI,(none,rT 1 4 1),qv 1 5,rR 6,aI,aI,(none,rT 1 9 2),qv 1 10,rR 11,Dg 3 3 12,V0 1 8 3 13,(none,.toStr (.r 14)),(none,.build [qa,qa,qp,qa,qa,qa,qa] [(0,(1,fe)),(1,(1,.r 7)),(2,(1,.r 15))]),RM 2,ql 7 17 16] 6 [3,17]) (.seq (rg [aI,(none,rT 1 0 27),gI,rR 2,qe 3 3,pQ 0 4,ql 1 5 3] 6 []) (.seq (rg [aI,Bg 41 gO 0 28 2,mr 1,qi 2 0,qi 2 1,qe 3 3,pQ 1 5,ql 1 6 3] 6 []) (.seq (rg [aI,Bg 48 gO 0 30 4,mr 1,qi 2 0,qi 2 1,qe 3 3,pQ 2 5,ql 1 6 3] 6 []) (.seq (rg [aI,Bg 55 gO 0 34 2,mr 1,qi 2 0,qi 2 1,qe 6 3,ql 1 5 3] 6 []) (.seq (.seq (rg [qh 7 3,qw 60 sR 0,eY 1,mr 2,qk 3 0,xO 3 7 3,Gn 3 65 sS 5,DY 3 66 fj 4 6,kV 3 7,qd 3 8] 6 [5,9]) (qbn 5 7 1 0 6 2 2)) (.seq (rg [qh 7 3,iV 7 1 0,qq] 6 [2,2]) .ret))))))))⟩
def pC:aC:=⟨5,22,2,[.var 6,.var 7],[.raw,.raw],false,.seq (rg [qx,qg,qg] 22 [5,0,6,1,7,2]) (.seq (rg [(none,.bslice 21 105 3 0 [qa,qa,qp] []),(none,.bslice 22 3 1 0 [qa] []),mr 0,mr 1] 22 [8,2,9,3]) (.seq (.seq (eb 0 22 10 0) (.block 0 (.loop (.seq (.kill [0,6,7,11,12,13,14,15,16,17,18,19,20,21]) (.seq eR (.seq (.seq (wC 10 3 0 4 22 17 1) (qm 17 0)) (.seq (.block 1 (.seq (rg [mx 1,qh 4 5,mx 2,mx 3,mx 10,(none,.call 33 oN [bw,cP,dQ,fe,j5]),mr 5,qi 6 0,qi 6 1,mr 7,mr 8] 22 [11,9,12,10]) (.seq (.seq (rg [mx 12,eY 0] 22 [18,1]) (.cond (.x 18) (.exit 1) .skip)) (.seq (eb 0 22 13 0) (.block 2 (.loop (.seq (.kill [0,6,7,12,14,15,16,17,18,19,20,21]) (.seq (.free [2,3]) (.seq (.seq (rg [mx 13,(none,vi 3 0 4),mr 1,qu 2 11,zG 2 3,(some (2,true),um 3 4 64),qf 2 5] 22 [19,6]) (qm 19 2)) (.seq (.block 3 (.seq (rg [mx 11,mx 13,tH 3 16 1,mx 13,tH 3 16 3,Bc 3 4 16,(none,qdp 1 0 2 5),mx 10,tH 3 4 7,mx 13,nV 3 8 9,jr 59 Ay 6 10,mr 11,qi 12 0,qi 12 1,qi 12 2,K6 2,ql 3 16 13,mr 14,mr 15] 22 [14,16,15,18,16,19]) (.seq (rg [mx 15,mr 0,(some (1,true),.load true 3 (.x 14)),qu 1 2,qu 1 4,qu 1 8,(some (1,true),Dh 69 uj 2 3 4 5),qf 1 6] 22 [20,7]) (.cond (.x 20) (rg [mx 8,qh 3 14,(none,.bslice 73 105 3 1 [qa,qa,qp] [(0,(3,cP))]),(none,.append 74 105 3 32 [qa,qa,qp] 0 bw dQ),mr 3] 22 [8,4]) (.seq (rg [mx 15,mr 0,qk 1 16,kV 1 2,qd 1 3] 22 [21,4]) (.cond (.x 21) (rg [mx 9,mx 10,tH 3 4 1,mx 13,nV 3 2 3,Nt 85 3 1 1 0 1 4,Nu 86 3 1 8 0 0 5,mr 6] 22 [9,7]) .skip)))))) (iu 13 1 22 13 2))))))))))) (iu 10 1 22 10 2)))))))) (.seq (rg [mx 8,mx 9,mr 0,mr 1] 22 [6,2,7,3]) .ret)))⟩
def pD:aC:=⟨2,5,1,[.var 3],[.raw],false,.seq (D1 0 5 2 0 3 1) (.seq (.seq (rg [mx 1,rU 3 0 4] 5 [4,1]) (.cond (.x 4) (.seq (rg [qe 9 2,cN,mr 1] 5 [3,2]) .ret) .skip)) (.seq (rg [mx 1,qe 5 2,(none,.iaddrA 4 1 cP bw),oR,mr 3] 5 [3,4]) .ret))⟩
def uz:aC:=⟨2,7,0,[.var 2],[.raw],false,.seq (nw 7 2 0) (.seq (.seq (rg [aI,qn 0,mx 1,qn 2,(none,Be 3 1 3)] 7 [4,4]) (qj 4 7 2 0)) (.seq (.seq (eb 0 7 3 0) (.block 0 (.loop (.seq (.kill [2,4,5,6]) (.seq eR (.seq (qdz 3 1 7 5 3 5 0) (.seq (.block 1 (.seq (rd [aI,mx 3,qy 3 0 1,iW 3 2,mx 1,mx 3,qy 3 4 5,iW 3 6,(none,.eqa true [.int,.int,.str] fe (.r 7))] 7 [6,8]) (qj 6 7 2 0))) (iu 3 1 7 3 2)))))))) (uq 7 2 0)))⟩
def fX:aC:=⟨2,6,1,[.var 3],[.raw],false,.seq (D1 0 6 2 0 3 1) (.seq (.block 0 (.seq (rg [qe 0 2,iW 4 0,qw 8 rQ 1,ma 54 2 0,mr 3,qk 4 1,qs 4 0 2,H4 4 0 6,dM 4 1 7,(some (4,false),.call 15 lH [j6,ci 0,.r 8]),kV 4 9,qd 4 10,mr 11] 6 [4,12]) (.cond (.x 4) (VY 6 3 0) (.seq (rg [mx 1,rU 3 0 0,mr 1] 6 [5,2]) (.cond (.x 5) (.seq (rd [qh 4 2,qw 22 ox 0,qh 4 2,qw 24 j4 2,(none,.bin .sub 3 cP fe),mr 4] 6 [3,5]) .ret) .skip))))) (.seq (rg [mx 1,(none,ur 3 0 1),qh 4 2,qw 29 j4 2,(none,.bin .mul 3 cP fe),Dg 3 1 4,mr 5] 6 [3,6]) .ret))⟩
def oA:aC:=⟨1,3,1,[.var 2],[.raw],false,.seq (D1 0 3 1 0 2 1) (.seq (rd [lu,pQ 0 0,gI,Bc 3 2 1,qh 4 1,qw 8 j4 4,(none,.bin .mul 3 fe j6),Dg 3 1 6,mr 7] 3 [2,8]) .ret)⟩
def tI:aC:=⟨3,7,0,[],[],false,.seq (eb 0 7 3 0) (.block 0 (.loop (.seq (.kill [4,5,6]) (.seq eR (.seq (.seq (rg [mx 3,mH 1 1,qn 1,Bi] 7 [5,3]) (qm 5 0)) (.seq (.block 1 (.seq (rd [mH 1 2,mH 1 1,mx 3,(none,.sliceT 1 cP (some dQ) none none),qn 3,(none,.minMax false [bw,j5]),mr 5] 7 [4,6]) (.seq (rg [aI,mH 1 1,mx 3,mx 3,mx 4,nV 3 3 4,mx 3,mx 4,nV 3 6 7,(none,.sliceT 1 cP (some dQ) (some j6) (some (.r 8))),(none,.callv 29 bw [.r 9]),eY 10] 7 [6,11]) (.cond (.x 6) .ret .skip)))) (rg [mx 3,mH 1 2,nV 3 0 1,mr 2] 7 [3,3])))))))⟩
def j8:aC:=⟨1,6,0,[.var 1],[.raw],false,.seq (rp 6 1 0) (.seq (rg [H6 5 5 1 0,mr 0] 6 [2,1]) (.seq (.seq (eb 0 6 3 0) (.block 0 (.loop (.seq (.kill [1,4,5]) (.seq eR (.seq (.seq (wC 3 3 0 60 6 4 1) (qm 4 0)) (.seq (.block 1 (.seq (rg [mx 3,aI,qn 1,Bi] 6 [5,3]) (.cond (.x 5) (rg [mx 2,aI,mx 3,qy 1 1 2,nW,K5 19 5 1 1 0 1 4,kx 20 5 1 1 0 0 5,mr 6] 6 [2,7]) (rg [mx 2,(none,.bslice 22 5 1 1 [qt] [(0,(1,.c qt))]),kx 23 5 1 1 0 0 1,mr 2] 6 [2,3])))) (iu 3 1 6 3 2)))))))) (.seq (rg [mx 2,mx 2,qw 26 ea 1,Gp 27 Az 0 2 4,mr 3] 6 [1,4]) .ret)))⟩
def Dl:aC:=⟨1,7,1,[.var 2],[.raw],false,.seq (yL 7 1 0 2 1) (.seq (.seq (rg [lu,iW 4 0,qw 6 kI 1,ma 54 2 0,mr 3,qs 4 5 1,dM 4 1 5,Bb 4 6,qs 4 0 1,H4 4 0 8,dM 4 1 9,(some (4,false),Be 3 7 10),qd 4 11,mr 12,qs 13 0 1,(some (13,false),.load true 4 (.r 14)),qs 13 4 1,(some (13,false),.load true 1 (.r 16)),(some (13,false),.call 22 Df [.r 15,.r 17,ci 3]),kV 13 18,qd 13 19] 7 [4,20]) (qj 4 7 2 0)) (.seq (.seq (eb 0 7 3 0) (.block 0 (.loop (.seq (.kill [0,2,4,5,6]) (.seq eR (.seq (.seq (rg [mx 3,qe 5 1,gI,qn 2,xN 3 0 3] 7 [5,4]) (qm 5 0)) (.seq (.block 1 (.seq (rd [lu,iW 4 0,qe 5 1,oR,mx 3,qy 1 3 4,iW 1 5,Gp 39 Df 1 6 1,eY 7] 7 [6,8]) (qj 6 7 2 0))) (iu 3 1 7 3 2)))))))) (uq 7 2 0)))⟩
def pE:aC:=⟨2,19,4,[.var 4,.var 5],[.raw,.raw],false,.seq (rg [qx,Dj 2 1,qg,qb] 19 [2,0,3,1,4,2,5,3]) (.seq (rg [H6 14 5 1 0,H6 15 5 1 0,mr 0,mr 1] 19 [6,2,7,3]) (.seq (rg [(none,.bslice 16 4 1 0 [T.v (.bool false)] []),mr 0] 19 [8,1]) (.seq (.seq (eb 0 19 9 0) (.block 0 (.loop (.seq (.kill [0,1,4,5,10,11,12,13,14,15,16,17,18]) (.seq (.free [4,5,6,7]) (.seq (.seq (rg [mx 9,qe 0 3,gI,qn 2,xN 3 0 3] 19 [14,4]) (qm 14 0)) (.seq (.block 1 (.seq (rg [qe 0 3,cN,mx 9,qy 13 1 2,iW 13 3,RL 4,ql 13 5 4] 19 [10,5]) (.seq (rg [qe 0 10,cN,qe 1 10,oR,qe 2 10,qv 1 4,qe 3 10,qv 1 6,qe 4 10,qv 1 8,qn 9,(none,.build (List.replicate 10 (T.v (.int .i64 0))) [(0,(1,cP)),(1,(1,fe)),(2,(1,j6)),(3,(1,.r 7)),(4,(1,.r 10))]),(none,.alloc 6 (List.replicate 10 (T.v (.int .i64 0)))),ql 10 12 11] 19 [11,12]) (.seq (.seq (eb 0 19 12 0) (.block 2 (.loop (.seq (.kill [0,1,4,5,13,14,15,16,17,18]) (.seq eR (.seq (.seq (wC 12 3 0 5 19 15 1) (qm 15 2)) (.seq (.block 3 (.seq (.seq (rg [qh 13 10,mx 12,jr 47 MP 0 1,eY 2] 19 [16,3]) (.cond (.x 16) (.exit 3) .skip)) (.seq (rg [mx 8,(none,.bslice 50 4 1 1 [T.v (.bool false)] [(0,(1,.c (T.v (.bool true))))]),(none,.append 51 4 1 1 [T.v (.bool false)] 0 bw cP),mr 2] 19 [8,3]) (.seq (rg [mx 7,qh 13 10,mx 12,jr 55 kJ 1 2,kx 56 5 1 1 0 0 3,mr 4] 19 [7,5]) (.seq (rg [mx 12,rU 3 0 4] 19 [17,1]) (.cond (.x 17) (rg [mx 8,qn 0,qe 9 11,ql 1 2 1] 19 []) (rg [mx 12,mx 8,qn 1,qe 5 11,(none,.iaddrA 4 1 fe bw),ql 1 4 2] 19 []))))))) (iu 12 1 19 12 2)))))))) (rg [mx 6,qh 10 11,qw 69 cY 1,kx 70 5 1 1 0 0 2,mr 3] 19 [6,4]))))) (iu 9 1 19 9 2)))))))) (.seq (.seq (rg [mx 8,qn 0,qe 2 2,oR,(none,.bin .gtr 3 cP fe)] 19 [18,4]) (.cond (.x 18) (.seq (rg [qg,qb] 19 [4,0,5,1]) .ret) .skip)) (.seq (rg [mx 8,qw 77 QT 0,mx 6,kx 79 5 1 1 0 1 2,mr 3] 19 [13,4]) (.seq (rd [mx 13,mx 7,kx 82 5 1 1 0 0 1,qe 2 2,nW,mx 8,qn 5,(none,.bin .sub 3 j5 (.r 6)),tH 3 64 7,kx 89 5 1 1 2 2 8,mr 9,qq] 19 [4,10,5,11]) .ret))))))⟩
def Dm:aC:=⟨0,1,0,[.var 0],[.raw],false,.seq (rp 1 0 0) (.seq (rg [(none,.bslice 1 5 1 5 [qt] [(0,(1,pA 74)),(1,(1,pA 82)),(2,(1,pA 78)),(3,(1,pA 76)),(4,(1,.c qt))]),qw 2 bR 0,mr 1] 1 [0,2]) .ret)⟩
def uA:aC:=⟨3,4,0,[.var 3],[.raw],false,.seq (nw 4 3 0) (.seq (rg [aI,mx 1,(none,.bin .geq 3 bw cP),mr 2,qu 3 0,qu 3 2,(some (3,true),H5 3 4 5),qf 3 6,mr 7] 4 [3,8]) .ret)⟩
def pF:aC:=⟨1,3,2,[.cell 2 true 30],[.raw],false,.seq (rg [qx,(none,.alloc 2 (List.replicate 30 (T.v (.int .i64 0))))] 3 [1,0,2,1]) (.seq (rg [lu,cN,(none,.build [qa,qa,qa] [(0,(1,cP)),(1,(1,ci 1)),(2,(1,ci 4))]),qe 1 1,nW,(none,.build [qa,qa,qa] [(0,(1,j5)),(1,(1,ci 1)),(2,(1,ci 255))]),qe 2 1,qv 1 6,(none,.build [qa,qa,qa] [(0,(1,.r 7)),(1,(1,ci 2)),(2,(1,ci 65535))]),qe 3 1,qv 1 9,(none,.build [qa,qa,qa] [(0,(1,.r 10)),(1,(1,ci 4)),(2,(1,ci 268435455))]),qe 4 1,qv 1 12,(none,.build [qa,qa,qa] [(0,(1,.r 13)),(1,(1,ci 2)),(2,(1,ci 256))]),qe 5 1,(none,.iaddrA 4 1 (.r 15) (ci 0)),qv 1 16,(none,.build [qa,qa,qa] [(0,(1,.r 17)),(1,(1,ci 2)),(2,(1,ci 65535))]),qe 5 1,(none,.iaddrA 4 1 (.r 19) (ci 1)),qv 1 20,(none,.build [qa,qa,qa] [(0,(1,.r 21)),(1,(1,ci 2)),(2,(1,ci 65535))]),qe 5 1,(none,.iaddrA 4 1 (.r 23) (ci 2)),qv 1 24,(none,.build [qa,qa,qa] [(0,(1,.r 25)),(1,(1,ci 2)),(2,(1,ci 65535))]),qe 5 1,(none,.iaddrA 4 1 (.r 27) (ci 3)),qv 1 28,(none,.build [qa,qa,qa] [(0,(1,.r 29)),(1,(1,ci 2)),(2,(1,ci 65535))]),qe 9 1,qv 1 31,(none,.build [qa,qa,qa] [(0,(1,.r 32)),(1,(1,ci 2)),(2,(1,ci 65535))]),(none,.build (List.replicate 30 (T.v (.int .i64 0))) [(0,(3,dQ)),(3,(3,j6)),(6,(3,.r 8)),(9,(3,.r 11)),(12,(3,.r 14)),(15,(3,.r 18)),(18,(3,.r 22)),(21,(3,.r 26)),(24,(3,.r 30)),(27,(3,.r 33))]),iV 30 2 34] 3 []) .ret)⟩
def wF:aC:=⟨3,13,0,[.var 3,.var 4],[.raw,.raw],false,.seq (rg [mi 0,qb] 13 [3,0,4,1]) (.seq (.seq (rg [aI,mx 1,mx 2,DZ 14 AA 0 1 2,eY 3] 13 [8,4]) (.cond (.x 8) (.seq (rg [mi 0,qb] 13 [3,0,4,1]) .ret) .skip)) (.seq (eb 0 13 5 0) (.seq (.seq (rg [aI,mx 1,mx 1,mx 2,nV 3 2 3,(none,qdp 1 0 1 4),qn 5,mi 0] 13 [9,5,10,6,11,7]) (.block 0 (.loop (.seq (.kill [0,1,2,3,4,6,7,8,12]) (.seq eR (.seq (uo 3 11 10 13 12 0) (.seq (qm 12 0) (.seq (.block 1 (.seq (rg [mx 11,Bf 1 9 11,gI,mr 0,mr 2] 13 [6,3,7,4]) (rg [mx 5,mx 7,rR 1,mx 6,tH 3 8 3,(none,.bin .shl 3 dQ j5),(none,.bin .or 3 bw j6),mr 6] 13 [5,7]))) (pz 3 11 1 0 13 11 1))))))))) (.seq (rg [mx 5,mr 0,qq] 13 [3,1,4,2]) .ret))))⟩
def oW:aC:=⟨1,9,2,[.var 2],[.raw],false,.seq (yL 9 1 0 2 1) (.seq (.seq (rg [qh 10 1,(none,.build (List.replicate 10 (T.v (.int .i64 0))) []),(none,qcj)] 9 [4,2]) (.cond (.x 4) (uq 9 2 0) .skip)) (.seq (.seq (rg [qh 10 1,qw 9 mG 0,mi 0] 9 [5,1,6,2]) (.block 0 (.loop (.seq (.kill [0,2,3,4,7,8]) (.seq (.free [2,3]) (.seq (V3 3 6 10 9 7 0) (.seq (qm 7 0) (.seq (.block 1 (.seq (rg [(none,.indexA 10 3 true (.x 5) (.x 6)),(none,.alloc 2 [qa,qa,qa]),ql 3 1 0] 9 [3,1]) (.seq (rg [zH 3 1 3 0,cN,(none,vi 3 1 0),mr 2,(some (3,false),.iaddrA 3 1 (.x 3) (ci 0)),dM 3 1 4,(some (3,false),.iaddrA 3 1 (.x 3) (ci 2)),dM 3 1 6,Gm 3 3 5 7,qd 3 8] 9 [8,9]) (qj 8 9 2 0)))) (pz 3 6 1 0 9 6 1))))))))) (.seq (rg [qh 10 1,qw 25 AD 0,eY 1,mr 2] 9 [2,3]) .ret)))⟩
def wG:aC:=⟨3,6,3,[.var 3],[.raw],false,.seq (rg [(none,.thaw 6 5 1 (.c qo))] 6 [3,0]) (.seq (rg [aI,(none,.callnew 9 [0] jA [bw]),mr 1] 6 [4,2]) (.seq (.seq (rg [mx 1,mx 2,jr 12 AE 0 1,eY 2] 6 [5,3]) (.cond (.x 5) (.seq (rg [mx 4,(none,.thaw 6 5 1 bw)] 6 [3,1]) .ret) .skip)) (.seq (rg [mx 4,mx 2,(none,.appendB 2 5 1 1 [qt] 2 bw cP),mr 2] 6 [4,3]) (.seq (rg [mx 4,aI,qn 1,(none,.sliceT 1 bw (some dQ) none none),mx 1,(none,.callio 23 [] K1 [fe,j5])] 6 []) (.seq (rg [mx 4,(none,.thaw 6 5 1 bw)] 6 [3,1]) .ret)))))⟩
def qS:aC:=⟨1,3,1,[.var 1],[.raw],false,.seq (rp 3 1 0) (.seq (rg [(none,.alloc 0 (List.replicate 60 (T.v (.int .u8 0))))] 3 [2,0]) (.seq (rg [RP 60 1 2,aI,(none,.copy 1 bw cP)] 3 []) (.seq (rd [RP 60 1 2,RP 60 1 2,qw 9 pO 1,Gp 10 j2 0 2 4,mr 3] 3 [1,4]) .ret)))⟩
def sW:aC:=⟨1,2,0,[.var 1],[.raw],false,qcd⟩
def sX:aC:=⟨2,3,0,[.var 2],[.raw],false,qax⟩
def sY:aC:=⟨2,6,0,[.var 2],[.raw],false,.seq (rp 6 2 0) (.seq (rg [H6 7 5 1 0,mr 0] 6 [3,1]) (.seq (.seq (eb 0 6 4 0) (.block 0 (.loop (.seq (.kill [2,5]) (.seq eR (.seq (.seq (rg [mx 4,mx 1,xN 3 0 1] 6 [5,2]) (qm 5 0)) (.seq (.block 1 (.seq (rg [mx 3,aI,(none,.bin .rem 3 cP (ci 256)),vj 2,K5 17 5 1 1 0 1 3,kx 18 5 1 1 0 0 4,mr 5] 6 [3,6]) (rg [aI,(none,.bin .quo 3 bw (ci 256)),mr 1] 6 [0,2]))) (iu 4 1 6 4 2)))))))) (yK 3 0 6 2 1)))⟩
def Dn:aC:=⟨4,9,1,[.var 4],[.raw],false,.seq (nw 9 4 0) (.seq (.seq K4 (.block 0 (.loop (.seq (.kill [0,1,4,5,7,8]) (.seq (.free [0,1]) (.seq K4 (.seq (qm 7 0) (.block 1 (.seq K4 (.seq (rg [qh 2 5,mx 2,mx 3,(none,qdx 0 1 1 1 1 2),(none,.eqa false [.int,.int] bw fe)] 9 [8,4]) (.cond (.x 8) (uq 9 4 0) .skip))))))))))) (.seq (nw 9 4 0) .ret))⟩
def mI:aC:=⟨1,3,0,[.var 1],[.raw],true,.seq (rp 3 1 0) (.seq (.seq (rg [aI,(none,.eqnil false bw)] 3 [2,1]) (Gl 2 3 1 0)) (.seq (rg [(none,.bslice 5 3 1 0 [qa] []),aI,Nu 7 3 1 8 0 0 1,mr 2] 3 [1,3]) .ret))⟩
def mJ:aC:=⟨2,15,1,[],[],false,.kT (.seq .skip (.seq (rg [mH 1 1,qn 0,mi 0] 15 [6,0,7,1,8,2]) (.block 0 (.loop (.seq (.kill [1,2,3,4,5,9,10,11,12,13,14]) (.seq (.free [0,1]) (.seq (uo 3 8 7 15 9 0) (.seq (qm 9 0) (.seq (.block 1 (.seq (rg [mx 8,Bf 10 6 8,iW 10 1,(none,.alloc 0 (List.replicate 10 (T.v (.int .i64 0)))),mr 0,ql 10 3 2] 15 [2,4,3,3]) (.seq (rd [qe 5 3,(none,.sliceA 4 1 bw none none),qw 16 fW 1,qe 9 3,nW,Nt 19 3 1 1 0 1 4,Nu 20 3 1 8 0 2 5,qn 6,mi 0] 15 [10,6,11,7,12,8]) (.block 2 (.loop (.seq (.kill [1,3,4,5,9,13,14]) (.seq eR (.seq (uo 3 12 11 15 13 0) (.seq (qm 13 2) (.seq (.block 3 (.seq (rg [mx 12,Bf 1 10 12,gI,mr 0,mr 2] 15 [4,3,5,4]) (.seq (rg [mx 5,ma 3 0 0,mr 1,qu 2 0,qu 2 2,(some (2,true),.bin .add 3 j5 (ci 1)),qu 2 4,(some (2,true),qdx 0 1 5 1 1 6),qu 2 5,(some (2,true),ur 3 8 1),(some (2,true),.callv 37 fe [.r 7,.r 9]),(some (2,true),VW 10),qf 2 11] 15 [14,12]) (.cond (.x 14) (.exit 0) .skip)))) (pz 3 12 1 0 15 12 1))))))))))) (pz 3 8 1 0 15 8 1))))))))))⟩
def uB:aC:=⟨1,7,2,[.var 2,.var 3],[.raw,.raw],false,.seq (rg [qx,qg,mi 0] 7 [1,0,2,1,3,2]) (.seq (.seq (rg [qh 7 1,qw 7 yJ 0,eY 1] 7 [6,2]) (qde 6 1 7 2 0 3 1)) (.seq (rg [(none,.alloc 2 (List.replicate 24 (T.v (.int .u8 0))))] 7 [4,0]) (.seq (rd [RP 24 1 4,qe 2 1,gI,(none,.copy 1 bw dQ)] 7 []) (.seq (rd [lu,cN,vj 1,qe 1 1,nW,vj 4,qe 2 1,qv 1 6,(none,zJ 7),vj 8,(none,.bslice 23 5 1 3 [qt] [(0,(1,dQ)),(1,(1,j6)),(2,(1,.r 9))]),RP 24 1 4,kx 25 5 1 1 0 10 11,mr 12] 7 [5,13]) (.seq (rd [mx 5,qe 3 1,pQ 0 1,oR,Gp 30 j2 0 3 1,qe 3 1,pQ 1 5,qv 1 6,Gp 34 j2 4 7 2,qe 3 1,pQ 2 9,qv 1 10,Gp 38 j2 8 11 4,mr 12] 7 [5,13]) (.seq (rg [mx 5,qe 6 1,gI,Gp 42 j2 0 2 2,qw 43 jg 3,mr 4,mi 0] 7 [2,5,3,6]) .ret))))))⟩
def jU:aC:=⟨2,11,2,[.cell 2 true 3,.var 3,.var 4],[.raw,.raw,.raw],false,.seq (rg [K6 0,qb,qb] 11 [2,0,3,1,4,2]) (.seq (.seq (rg [aI,qn 0,ma 3 1 16] 11 [8,2]) (.cond (.x 8) (.seq (rg [RN,iV 3 2 0,qb,qb] 11 [3,2,4,3]) .ret) .skip)) (.seq (.seq (rg [aI,(none,.arrOf 16 bw),iW 16 1,(none,.build (List.replicate 16 (T.v (.int .u8 0))) []),(none,.eqa false [.int,.int,.int,.int,.int,.int,.int,.int,.int,.int,.int,.int,.int,.int,.int,.int] dQ fe)] 11 [9,4]) (.cond (.x 9) (.seq (rg [RN,iV 3 2 0,qb,qq] 11 [3,2,4,3]) .ret) .skip)) (.seq (rg [mx 1,(none,.build [qa,qa,qp] [(0,(1,bw))]),K6 2,ql 3 2 1] 11 [5,2]) (.seq (rg [aI,Bg 24 pN 0 0 2,mr 1,qi 2 0,qi 2 1,qe 1 5,ql 1 5 3] 11 []) (.seq (rg [aI,(none,.sliceT 1 bw (some (ci 2)) none none),qw 31 xy 1,mr 2,qi 3 0,qi 3 1,qe 2 5,ql 1 6 4] 11 []) (.seq (rg [qh 3 5,qw 37 lr 0,mr 1,qi 2 0,qi 2 1,mr 3,mr 4] 11 [6,5,7,6]) (.seq (.seq (rg [mx 7,ma 54 0 0,mr 1,qk 2 0,qk 2 6,DY 2 45 cf 3 4,kV 2 5,qd 2 6] 11 [10,7]) (.cond (.x 10) (.seq (rg [RN,iV 3 2 0,qb,qb] 11 [3,2,4,3]) .ret) .skip)) (.seq (rg [qh 3 5,iV 3 2 0,qq,qq] 11 [3,2,4,3]) .ret))))))))⟩
def gJ:aC:=⟨2,3,0,[.var 2],[.raw],false,.seq (nw 3 2 0) (.seq (rg [aI,mx 1,jr 7 lJ 0 1,(none,Di 3 2 0),mr 3] 3 [2,4]) .ret)⟩
def jV:aC:=⟨2,4,1,[.var 3],[.raw],false,.seq (yL 4 2 0 3 1) (.seq (rg [qe 2 2,cN,qe 2 1,oR,(none,Bh 9 1 3),mr 4] 4 [3,5]) .ret)⟩
def fm:aC:=⟨1,7,2,[.var 2],[.raw],false,.seq (yL 7 1 0 2 1) (.seq (.seq (rg [lu,cN,(none,rS 6 gj 1 31),eY 2,mr 3,qs 4 1 1,dM 4 1 5,yM 4 11 gj 6 255,kV 4 7,qd 4 8,mr 9,qs 10 6 1,dM 10 1 11,yM 10 17 gj 12 65535,kV 10 13,qd 10 14,mr 15,qs 16 2 1,dM 16 1 17,(some (16,false),zJ 18),yM 16 24 gj 19 24,kV 16 20,qd 16 21] 7 [4,22]) (qj 4 7 2 0)) (.seq (rg [qe 3 1,iW 3 0,(none,.alloc 2 [qa,qa,qa]),ql 3 2 1] 7 [3,2]) (.seq (.seq (rg [qe 0 3,cN,(none,rS 31 gj 1 255),eY 2,mr 3,qs 4 1 3,dM 4 1 5,yM 4 36 gj 6 65535,kV 4 7,qd 4 8,mr 9,qs 10 2 3,dM 10 1 11,yM 10 42 gj 12 268435455,kV 10 13,qd 10 14] 7 [5,15]) (qj 5 7 2 0)) (.seq (.seq (rd [lu,cN,(none,rS 47 iZ 1 1),eY 2,mr 3,qz 4 1 1,gQ 4 1 5,K3 4 3 6 0,qf 4 7,mr 8,qs 9 0 1,dM 9 1 10,yM 9 57 iZ 11 2,qs 9 2 1,dM 9 1 13,(some (9,false),zJ 14),Ba 9 3 15 0,(some (9,false),.eqb true (.r 12) (.r 16)),qd 9 17] 7 [6,18]) (qj 6 7 2 0)) (.seq (rg [lu,cN,(none,rS 66 iZ 1 4),mr 2,xO 3 3 3,(some (3,false),.build [qa,qa,qa] []),(some (3,false),.eqa false [.int,.int,.int] j5 j6),qd 3 6,mr 7,qz 8 0 1,gQ 8 1 9,(some (8,true),rS 75 iZ 10 8),(some (8,true),.mv (.r 11)),qs 12 6 1,dM 12 1 13,(some (12,false),um 3 14 0),(some (8,true),.pick (.r 12) (.c (T.v (.bool true))) (.r 15)),qf 8 16,mr 17] 7 [2,18]) .ret)))))⟩
def sZ:aC:=⟨1,7,1,[.var 2],[.raw],false,.seq (H7 7 1 0 2 1) (.seq (rg [lu,cN,vj 1,qe 1 1,nW,vj 4,qe 2 1,qv 1 6,(none,zJ 7),vj 8,(none,.bslice 15 5 1 3 [qt] [(0,(1,dQ)),(1,(1,j6)),(2,(1,.r 9))]),mr 10] 7 [3,11]) (.seq (.seq (eb 0 7 4 0) (.block 0 (.loop (.seq (.kill [0,2,5,6]) (.seq eR (.seq (.seq (wC 4 3 0 24 7 5 1) (qm 5 0)) (.seq (.block 1 (.seq (rg [mx 4,qe 2 1,gI,(none,zJ 2),xN 3 0 3] 7 [6,4]) (.cond (.x 6) (rg [mx 3,qe 2 1,gI,mx 4,(none,.indexS dQ fe),K5 30 5 1 1 0 1 4,kx 31 5 1 1 0 0 5,mr 6] 7 [3,7]) (rg [mx 3,(none,.bslice 33 5 1 1 [qt] [(0,(1,.c qt))]),kx 34 5 1 1 0 0 1,mr 2] 7 [3,3])))) (iu 4 1 7 4 2)))))))) (.seq (rg [mx 3,qe 3 1,pQ 0 1,oR,vj 3,K5 40 5 1 1 0 1 4,kx 41 5 1 1 0 0 5,mr 6] 7 [3,7]) (.seq (rg [mx 3,qe 3 1,pQ 1 1,oR,(none,rS 46 dX 3 2),kx 47 5 1 1 0 0 4,mr 5] 7 [3,6]) (.seq (rg [mx 3,qe 3 1,pQ 2 1,oR,(none,rS 52 dX 3 4),kx 53 5 1 1 0 0 4,mr 5] 7 [3,6]) (.seq (rg [mx 3,qe 6 1,gI,(none,rS 57 dX 2 2),kx 58 5 1 1 0 0 3,qw 59 bR 4,mr 5] 7 [2,6]) .ret))))))⟩
def rZ:aC:=⟨2,12,2,[.cell 2 true 3,.var 3,.var 4],[.raw,.raw,.raw],false,.seq (rg [K6 0,qb,qb] 12 [2,0,3,1,4,2]) (.seq (.seq (rg [aI,(none,.mkSlice 13 5 1 1 [qt] (ci 16)),jr 14 fj 0 1] 12 [9,2]) (.cond (.x 9) (.seq (rg [RN,iV 3 2 0,qb,qq] 12 [3,2,4,3]) .ret) .skip)) (.seq (.seq (rg [aI,qn 0,ma 3 1 16] 12 [10,2]) (.cond (.x 10) (.seq (rg [RN,iV 3 2 0,qb,qb] 12 [3,2,4,3]) .ret) .skip)) (.seq (rg [aI,Bg 22 gO 0 0 2,mr 1,qi 2 0,qi 2 1,mr 3,mr 4] 12 [5,5]) (.seq (rg [aI,(none,.sliceT 1 bw (some (ci 2)) none none),qw 28 vz 1,mr 2,qi 3 0,qi 3 1,mr 4,mr 5] 12 [6,6,7,7]) (.seq (rg [mx 1,mx 5,mx 6,(none,.build [qa,qa,qp] [(0,(1,bw)),(1,(1,cP)),(2,(1,dQ))]),K6 2,ql 3 4 3] 12 [8,4]) (.seq (.seq (rg [mx 7,eY 0,mr 1,xO 2 3 8,Gn 2 39 oQ 3,kV 2 4,qd 2 5] 12 [11,6]) (.cond (.x 11) (.seq (rg [RN,iV 3 2 0,qb,qb] 12 [3,2,4,3]) .ret) .skip)) (.seq (rg [qh 3 8,iV 3 2 0,qq,qq] 12 [3,2,4,3]) .ret)))))))⟩
def lO:aC:=⟨4,10,1,[.var 5],[.raw],false,.seq (yL 10 4 0 5 1) (.seq (.seq (rg [qe 1 4,cN,mx 2,(none,H5 3 1 2),mr 3,qs 4 1 4,dM 4 1 5,Gq 4 3 6 1,qd 4 7,mr 8,qs 9 1 4,dM 9 1 10,qk 9 1,Bb 9 12,Gm 9 3 11 13,qd 9 14,mr 15,qk 16 1,qs 16 1 4,dM 16 1 18,(some (16,false),ur 3 19 1),(some (16,false),.iaddrS 10 (.r 17) (.r 20)),H4 16 0 21,dM 16 1 22,(some (16,false),um 3 23 0),qd 16 24] 10 [7,25]) (qj 7 10 5 0)) (.seq (.seq (eb 0 10 6 0) (.block 0 (.loop (.seq (.kill [0,1,2,5,7,8,9]) (.seq eR (.seq (.seq (rg [mx 6,mx 3,qn 1,Bi] 10 [8,3]) (qm 8 0)) (.seq (.block 1 (.seq (rd [mx 3,mx 6,qy 3 0 1,pQ 2 2,nW,qe 2 4,qv 1 5,(none,Bh 9 4 6)] 10 [9,7]) (qj 9 10 5 0))) (iu 6 1 10 6 2)))))))) (uq 10 5 0)))⟩
def mK:aC:=⟨1,3,1,[.var 2],[.raw],false,.seq (D1 0 3 1 0 2 1) (.seq (rg [lu,pQ 1 0,gI,Dg 3 1 2,lu,pQ 2 4,qv 1 5,nV 3 3 6,mr 7] 3 [2,8]) .ret)⟩
def r9:aC:=⟨3,6,0,[.var 3],[.raw],false,.seq (rp 6 3 0) (.seq (rg [H6 8 5 1 0,aI,kx 10 5 1 1 0 0 1,mr 2] 6 [4,3]) (.seq (.seq (rg [mx 1,mx 2,jr 13 xz 0 1] 6 [5,2]) (.cond (.x 5) (rg [mx 4,mx 1,mx 2,jr 17 dX 1 2,kx 18 5 1 1 0 0 3,mr 4] 6 [4,5]) .skip)) (yK 4 0 6 3 1)))⟩
def mL:aC:=⟨1,4,0,[.var 1],[.raw],false,.seq (eb 0 4 1 0) (.seq (rg [aI,qw 7 cU 0,mr 1,qi 2 0,qi 2 1,mr 3,mr 4] 4 [2,5,3,6]) (.seq (rg [mx 2,mx 3,tH 3 65536 1,nV 3 0 2,mr 3] 4 [1,4]) .ret))⟩
def Dp:aC:=⟨3,10,2,[.var 5],[.raw],false,.seq (rg [qx,Dj 2 1,qb] 10 [3,0,4,1,5,2]) (.seq (.seq (rg [qe 0 4,cN,qn 1,qe 1 3,nW,(none,Be 3 2 4)] 10 [7,5]) (qj 7 10 5 0)) (.seq (.seq (eb 0 10 6 0) (.block 0 (.loop (.seq (.kill [0,1,3,5,7,8,9]) (.seq eR (.seq (.seq (rg [mx 6,qe 0 4,gI,qn 2,xN 3 0 3] 10 [8,4]) (qm 8 0)) (.seq (.block 1 (.seq (rd [qh 1 4,qe 0 4,gI,mx 6,qy 13 2 3,iW 13 4,mx 2,DZ 28 No 0 5 6,eY 7] 10 [9,8]) (qj 9 10 5 0))) (iu 6 1 10 6 2)))))))) (uq 10 5 0)))⟩
def Dq:aC:=⟨2,8,1,[.var 3],[.raw],false,.seq (yL 8 2 0 3 1) (.seq (.seq (rg [mx 1,rU 3 0 4] 8 [5,1]) (.cond (.x 5) (.seq (rg [qe 6 2,iW 7 0,(none,.build [qa,qa,qp,qa,qa,qa,qa] []),(none,.eqa true [.int,.int,.str,.int,.int,.int,.int] cP dQ),mr 3] 8 [3,4]) .ret) .skip)) (.seq (.seq (eb 0 8 4 0) (.block 0 (.loop (.seq (.kill [0,3,5,6,7]) (.seq eR (.seq (.seq (rg [mx 4,qe 5 2,gI,qn 2,xN 3 0 3] 8 [6,4]) (qm 6 0)) (.seq (.block 1 (.seq (rg [qe 5 2,cN,mx 4,qy 3 1 2,pQ 0 3,qv 1 4,(none,.bin .quo 3 j6 (ci 4)),mx 1,(none,Bh 3 6 7)] 8 [7,8]) (.cond (.x 7) (uq 8 3 0) .skip))) (iu 4 1 8 4 2)))))))) (.seq (rg [qe 4 2,cN,qn 1,mx 1,tH 3 64 3,(none,.bin .gtr 3 dQ j5),mr 5] 8 [3,6]) .ret)))⟩
def s6:aC:=⟨2,10,1,[.var 3],[.raw],false,.seq (H7 10 2 0 3 1) (.seq (.seq (rg [mx 1,rU 3 0 4] 10 [6,1]) (.cond (.x 6) (.seq (rg [qe 6 2,iW 7 0,qw 11 sS 1,mr 2] 10 [3,3]) .ret) .skip)) (.seq (.seq (rg [qe 0 2,cN,rU 3 1 1] 10 [7,2]) (.cond (.x 7) (.seq (rg [qe 5 2,cN,mx 1,jr 18 MQ 1 2,mr 3] 10 [3,4]) .ret) .skip)) (.seq (rg [H6 19 5 1 0,mr 0] 10 [4,1]) (.seq (.seq (rg [mx 1,tH 3 64 0,mr 1] 10 [5,2]) (.block 0 (.loop (.seq (.kill [0,3,6,7,8,9]) (.seq eR (.seq (.seq (rg [mx 5,mx 1,tH 3 64 1,Bc 3 2 64,xN 3 0 3] 10 [8,4]) (qm 8 0)) (.seq (.block 1 (.seq (rg [mx 5,qe 4 2,gI,qn 2,xN 3 0 3] 10 [9,4]) (.cond (.x 9) (rg [mx 4,qe 4 2,gI,mx 5,qy 1 2 3,qv 1 4,K5 40 5 1 1 0 1 5,kx 41 5 1 1 0 0 6,mr 7] 10 [4,8]) (rg [mx 4,(none,.bslice 43 5 1 1 [qt] [(0,(1,.c qt))]),kx 44 5 1 1 0 0 1,mr 2] 10 [4,3])))) (iu 5 1 10 5 2)))))))) (yK 4 0 10 3 1)))))⟩
def Gt:aC:=⟨1,9,2,[.var 1],[.raw],false,.seq (rg [(none,.thaw 2 5 1 (.c qo))] 9 [1,0]) (.seq (rg [(none,.mkBox 0 1 1 [qt] (ci 64)),mr 0] 9 [2,1]) (.seq (.seq (eb 0 9 3 0) (.block 0 (.loop (.seq (.kill [1,4,5,6,7,8]) (.seq eR (.seq (.seq (rg [mx 3,aI,qn 1,Bi,mr 3,qu 4 3,(some (4,true),vi 3 5 512),qf 4 6] 9 [6,7]) (qm 6 0)) (.seq (.block 1 (.seq (rg [aI,mx 3,qy 1 0 1,oR] 9 [7,3]) (.cond (.x 7) (.seq (eb 1 9 4 0) (.seq (.seq (eb 0 9 5 0) (.block 2 (.loop (.seq (.kill [1,6,7,8]) (.seq eR (.seq (.seq (rg [mx 5,mx 3,(none,.bin .rem 3 cP (ci 8)),Bi] 9 [8,3]) (qm 8 2)) (.seq (.block 3 (rg [mx 4,(none,.bin .mul 3 bw (ci 2)),mr 1] 9 [4,2])) (iu 5 1 9 5 2)))))))) (rg [mx 2,mx 3,(none,.bin .quo 3 cP (ci 8)),mx 2,mx 3,(none,.bin .quo 3 j5 (ci 8)),qy 1 3 5,qv 1 6,mx 4,vj 8,nV 5 7 9,qy 1 0 2,ql 1 11 10] 9 []))) .skip))) (iu 3 1 9 3 2)))))))) (.seq (rg [mx 2,(none,.thaw 2 5 1 bw)] 9 [1,1]) .ret)))⟩
def sa:aC:=⟨3,4,0,[.var 3],[.raw],false,.seq (nw 4 3 0) (.seq (rg [mx 2,qw 8 vX 0,mr 1,qu 2 1,(some (2,true),Di 3 3 0),qf 2 4,mr 5,qu 6 1,qu 6 0,zG 6 8,(some (6,true),H5 3 7 9),qf 6 10,mr 11,qu 12 0,zG 12 13,qu 12 1,(some (12,true),.bin .sub 3 (.r 14) (.r 15)),qu 12 2,(some (12,true),.bin .geq 3 (.r 16) (.r 17)),qf 12 18,mr 19] 4 [3,20]) .ret)⟩
def pb:aC:=⟨1,7,2,[.var 2],[.raw],false,.seq (yL 7 1 0 2 1) (.seq (rg [(none,.build [qa,qa,qa,qa] []),RO 2,ql 4 1 0] 7 [3,1]) (.seq (.seq (rg [lu,cN] 7 [4,1]) (.block 0 (.seq (rg [(none,.bin .eql 3 (.x 4) (ci 1)),mr 0] 7 [5,1]) (.cond (.x 5) (.seq (rg [qe 4 1,cN,ma 3 1 0,mr 2] 7 [2,3]) .ret) (.seq (rg [(none,.bin .eql 3 (.x 4) (ci 4)),mr 0] 7 [6,1]) (.cond (.x 6) (.seq (rg [qe 4 1,cN,ma 3 1 0,mr 2,qs 3 5 1,(some (3,false),.load true 4 j5),xO 3 4 3,(some (3,false),.eqa true [.int,.int,.int,.int] j6 (.r 6)),qd 3 7,mr 8] 7 [2,9]) .ret) .skip)))))) (.seq (rg [lu,cN,rU 3 1 0,mr 2] 7 [2,3]) .ret)))⟩
def pc:aC:=⟨2,3,0,[.var 2],[.raw],false,.seq (nw 3 2 0) (.seq (rg [mx 1,qw 6 vX 0,mr 1,qu 2 0,(some (2,true),Di 3 3 0),qf 2 4,mr 5,qu 6 0,qu 6 1,(some (6,true),.bin .mul 3 (ci 8) (.r 8)),(some (6,true),.bin .shr 3 (.r 7) (.r 9)),(some (6,true),um 3 10 0),qf 6 11,mr 12] 3 [2,13]) .ret)⟩
def zK:aC:=⟨2,6,0,[],[],false,.seq (rg [aI,qn 0,mi 0] 6 [3,1,4,2]) (.block 0 (.loop (.seq (.kill [2,5]) (.seq eR (.seq (uo 3 4 3 6 5 0) (.seq (qm 5 0) (.seq (.block 1 (.seq (rg [mx 4,mr 0] 6 [2,1]) (rg [aI,mx 2,mx 1,mx 2,tH 3 8 3,(none,.bin .shr 3 dQ j5),vj 5,qy 1 0 1,ql 1 7 6] 6 []))) (pz 3 4 1 0 6 4 1))))))))⟩
def vB:aC:=⟨1,3,0,[.var 1],[.raw],false,.seq (eb 0 3 1 0) (.seq (rg [aI,qw 5 Cm 0,mr 1] 3 [2,2]) (.seq (rg [mx 2,(none,.part 0 bw),rR 1,mx 2,(none,.part 1 fe),rR 4,(none,.bin .shl 3 j6 (.c (T.v (.int .u64 16)))),(none,.bin .or 3 dQ (.r 6)),mr 7] 3 [1,8]) .ret))⟩
def fY:aC:=⟨1,5,1,[.var 2],[.raw],false,.seq (yL 5 1 0 2 1) (.seq (.seq (rg [lu,cN,(none,rS 5 gZ 1 31),eY 2,mr 3,qs 4 1 1,dM 4 1 5,yM 4 10 gZ 6 255,kV 4 7,qd 4 8,mr 9,qs 10 6 1,dM 10 1 11,yM 10 16 gZ 12 65535,kV 10 13,qd 10 14,mr 15,qs 16 2 1,dM 16 1 17,(some (16,false),zJ 18),Ba 16 3 19 24,qd 16 20] 5 [3,21]) (qj 3 5 2 0)) (.seq (.seq (rg [qe 3 1,pQ 0 0,gI,(none,rS 28 gZ 2 255),eY 3,mr 4,qs 5 3 1,H4 5 1 6,dM 5 1 7,yM 5 34 gZ 8 65535,kV 5 9,qd 5 10,mr 11,qs 12 3 1,H4 12 2 13,dM 12 1 14,yM 12 41 gZ 15 268435455,kV 12 16,qd 12 17] 5 [4,18]) (qj 4 5 2 0)) (.seq (rd [qh 7 1,lu,gI,(none,.bin .andNot 3 (ci 31) dQ),jr 48 AF 0 3,qh 7 1,(none,qdj 4 5),mr 6,qz 7 0 1,gQ 7 1 8,(some (7,true),.bin .and 3 (.r 9) (ci 2)),K3 7 3 10 0,qz 7 2 1,gQ 7 1 12,(some (7,true),.bin .neq 9 (.r 13) (.c qp)),(some (7,true),.eqb false (.r 11) (.r 14)),qf 7 15,mr 16] 5 [2,17]) .ret)))⟩
def oX:aC:=⟨1,6,0,[.var 1,.var 2],[.raw,.raw],false,.seq (rg [(none,.mv (.c qp)),qb] 6 [1,0,2,1]) (.seq (.seq (rg [aI,qn 0,ma 3 1 14,mr 2,qk 3 0,(some (3,false),rT 1 4 0),dM 3 1 5,(some (3,false),.bin .gtr 5 (.r 6) (pA 12)),qd 3 7] 6 [4,8]) (VX 4 6 1 0 2 1)) (.seq (rg [aI,aI,(none,rT 1 1 0),oR,(none,.bin .add 5 (pA 1) fe),V0 1 0 1 4,(none,.toStr j6),mr 6] 6 [3,7]) (.seq (.seq (rg [mx 3,qw 22 pP 0,eY 1,mr 2,qk 3 3,Gn 3 26 vY 4,qk 3 0,DY 3 28 cf 5 6,kV 3 7,qd 3 8] 6 [5,9]) (VX 5 6 1 0 2 1)) (.seq (rg [mx 3,mr 0,qq] 6 [1,1,2,2]) .ret))))⟩
def pd:aC:=⟨1,5,1,[.var 2,.var 3],[.raw,.raw],false,.seq (rg [qx,qg,mi 0] 5 [1,0,2,1,3,2]) (.seq (.seq (rg [qh 3 1,qw 5 xA 0,eY 1] 5 [4,2]) (qde 4 1 5 2 0 3 1)) (.seq (rd [qe 1 1,cN,(none,.call 9 j2 [.c qo,cP,ci 2]),qe 2 1,nW,qw 12 vY 4,kx 13 5 1 1 0 2 5,mr 6,mi 0] 5 [2,7,3,8]) .ret))⟩
def jj:aC:=⟨2,8,0,[.var 2],[.raw],false,.seq (eb 0 8 2 0) (.seq (.seq (rg [aI,qn 0,mi 0] 8 [4,1,5,2]) (.block 0 (.loop (.seq (.kill [2,3,6,7]) (.seq eR (.seq (uo 3 5 4 8 6 0) (.seq (qm 6 0) (.seq (.block 1 (.seq (rg [mx 5,mr 0] 8 [3,1]) (.seq (rg [mx 1,aI,mx 3,qy 3 1 2,iW 3 3,(none,.callv 16 bw [j5])] 8 [7,5]) (.cond (.x 7) (yK 3 0 8 2 1) .skip)))) (pz 3 5 1 0 8 5 1))))))))) (VY 8 2 0))⟩
def s7:aC:=⟨2,3,0,[.var 2],[.raw],false,qax⟩
def wb:aC:=⟨2,3,0,[.var 2],[.raw],false,.seq (nw 3 2 0) (.seq (rg [aI,mx 1,(none,.bin .quo 3 bw cP),(none,.bin .rem 3 dQ (ci 2)),rU 3 3 1,mr 4] 3 [2,5]) .ret)⟩
def nG:aC:=⟨1,10,0,[.var 1,.var 2],[.raw,.raw],false,.seq (rg [(none,.mv (.c qp)),qb] 10 [1,0,2,1]) (.seq (.seq (rg [aI,qn 0,ma 3 1 14,mr 2,qk 3 0,(some (3,false),rT 1 4 0),dM 3 1 5,(some (3,false),.toInt .i64 (.r 6)),Ba 3 3 7 12,qd 3 8] 10 [6,9]) (VX 6 10 1 0 2 1)) (.seq (rg [aI,aI,(none,rT 1 1 0),oR,rR 3,Dg 3 1 4,V0 1 0 1 5,(none,.toStr (.r 6)),mr 7] 10 [3,8]) (.seq (rg [mx 3,qw 26 uk 0,mr 1] 10 [4,2]) (.seq (.seq (rg [mx 4,qn 0,ma 3 1 14] 10 [7,2]) (VX 7 10 1 0 2 1)) (.seq (.seq (eb 0 10 5 0) (.block 0 (.loop (.seq (.kill [1,2,6,7,8,9]) (.seq eR (.seq (.seq (wC 5 3 0 14 10 8 1) (qm 8 0)) (.seq (.block 1 (.seq (rd [mx 4,mx 5,qy 1 0 1,oR,aI,mx 5,qy 1 4 5,qv 1 6,(none,Be 5 3 7)] 10 [9,8]) (VX 9 10 1 0 2 1))) (iu 5 1 10 5 2)))))))) (.seq (rg [mx 3,mr 0,qq] 10 [1,1,2,2]) .ret))))))⟩
def s8:aC:=⟨1,3,1,[.var 2],[.raw],false,.seq (yL 3 1 0 2 1) (.seq (rg [lu,cN,(none,Di 3 1 0),mr 2,qz 3 0 1,gQ 3 1 4,(some (3,true),vi 3 5 16),qf 3 6,mr 7,qz 8 1 1,gQ 8 1 9,(some (8,true),Di 3 10 1),qf 8 11,mr 12,qz 13 1 1,gQ 13 1 14,(some (13,true),K7 3 15 65535),qf 13 16,mr 17,qz 18 2 1,gQ 18 1 19,(some (18,true),.call 24 sT [.r 20]),qf 18 21,mr 22] 3 [2,23]) .ret)⟩
def mq:aC:=⟨2,7,0,[.var 2],[.raw],false,.seq (nw 7 2 0) (.seq (.seq (rg [mx 1,qw 8 sQ 0,eY 1,mr 2,qk 3 0,Gq 3 3 4 0,qd 3 5] 7 [5,6]) (qj 5 7 2 0)) (.seq (eb 1 7 3 0) (.seq (.seq (eb 0 7 4 0) (.block 0 (.loop (.seq (.kill [2,5,6]) (.seq eR (.seq (.seq (rg [mx 4,mx 1,xN 3 0 1] 7 [6,2]) (qm 6 0)) (.seq (.block 1 (rg [mx 3,(none,.bin .mul 3 bw (ci 256)),mr 1] 7 [3,2])) (iu 4 1 7 4 2)))))))) (.seq (rg [aI,mx 3,xN 3 0 1,mr 2] 7 [2,3]) .ret))))⟩
def j9:aC:=⟨1,7,0,[.var 1,.var 2],[.raw,.raw],false,.seq (rg [mi 0,mi 0] 7 [1,0,2,1]) (.seq (rg [mi 1,mi 0] 7 [3,0,4,1]) (.seq (.seq (eb 0 7 5 0) (.block 0 (.loop (.seq (.kill [1,2,6]) (.seq eR (.seq (qdz 5 1 7 6 3 6 0) (.seq (.block 1 (.seq (rg [mx 3,aI,mx 5,qy 1 1 2,nW,rR 4,nV 3 0 5,(none,.bin .rem 3 (.r 6) (ci 65521)),mr 7] 7 [3,8]) (rg [mx 4,mx 3,nV 3 0 1,(none,.bin .rem 3 dQ (ci 65521)),mr 3] 7 [4,4]))) (iu 5 1 7 5 2)))))))) (.seq (rg [mx 3,mx 4,mr 0,mr 1] 7 [1,2,2,3]) .ret)))⟩
def D2:aC:=⟨3,16,3,[.var 5],[.raw],false,.seq (rg [qx,Dj 2 1,qb] 16 [3,0,4,1,5,2]) (.seq (.seq (rg [qe 0 4,cN,rU 3 1 0] 16 [9,2]) (.cond (.x 9) (.seq (rg [qe 1 4,cN,rU 3 1 0,mr 2,qz 3 2 4,gQ 3 1 4,(some (3,true),um 3 5 0),qf 3 6,mr 7,qz 8 3 4,gQ 8 1 9,(some (8,true),um 3 10 0),qf 8 11,mr 12,qz 13 4 4,gQ 13 1 14,zG 13 15,qz 13 5 4,gQ 13 1 17,zG 13 18,(some (13,true),.bin .add 3 (.r 16) (.r 19)),(some (13,true),um 3 20 0),qf 13 21,mr 22,qz 23 6 4,Ns 23 7 24,(some (23,true),.build [qa,qa,qp,qa,qa,qa,qa] []),(some (23,true),qdj 25 26),qf 23 27,mr 28] 16 [5,29]) .ret) .skip)) (.seq (.seq (rg [qe 0 4,cN,qe 1 4,oR,qe 2 4,qv 1 4,qe 3 4,qv 1 6,(none,.build (List.replicate 10 (T.v (.int .i64 0))) [(0,(1,cP)),(1,(1,fe)),(2,(1,j6)),(3,(1,.r 7))]),qw 51 sO 8,eY 9,mr 10,qs 11 6 4,(some (11,false),.load true 7 (.r 12)),Gn 11 56 sR 13,kV 11 14,qd 11 15,mr 16,qs 17 4 4,dM 17 1 18,Bb 17 19,Ba 17 3 20 256,qd 17 21] 16 [10,22]) (qj 10 16 5 0)) (.seq (.seq (rg [qe 0 4,cN,ma 3 1 2,mr 2,qz 3 0 4,gQ 3 1 4,K3 3 3 5 3,qf 3 6,mr 7,qz 8 4 4,gQ 8 1 9,zG 8 10,(some (8,true),.bin .gtr 3 (.r 11) (ci 0)),qf 8 12,mr 13,qs 14 0 4,dM 14 1 15,(some (14,false),.bin .neq 3 (.r 16) (ci 1)),(some (14,false),.mv (.r 17)),qz 18 5 4,gQ 18 1 19,zG 18 20,(some (18,true),.bin .gtr 3 (.r 21) (ci 0)),VZ 14 18 22,qd 14 23] 16 [11,24]) (qj 11 16 5 0)) (.seq (.seq (eb 0 16 6 0) (.block 0 (.loop (.seq (.kill [0,1,5,7,8,9,10,11,12,13,14,15]) (.seq (.free [4,5]) (.seq (.seq (rg [mx 6,qe 5 4,gI,qn 2,xN 3 0 3] 16 [12,4]) (qm 12 0)) (.seq (.block 1 (.seq (rg [qe 5 4,cN,mx 6,qy 3 1 2,iW 3 3,K6 4,ql 3 5 4] 16 [7,5]) (.seq (.seq (rg [qh 3 7,qw 103 oQ 0,eY 1,mr 2,qs 3 1 7,dM 3 1 4,qk 3 2,(some (3,false),H5 3 5 6),qd 3 7,mr 8,qs 9 1 7,dM 9 1 10,qs 9 0 3,dM 9 1 12,Bb 9 13,Gm 9 3 11 14,qd 9 15,mr 16,qs 17 0 3,dM 17 1 18,qs 17 1 7,dM 17 1 20,(some (17,false),ur 3 21 1),(some (17,false),.iaddrS 13 (.r 19) (.r 22)),H4 17 0 23,dM 17 1 24,(some (17,false),um 3 25 0),qd 17 26] 16 [13,27]) (qj 13 16 5 0)) (.seq (eb 0 16 8 0) (.block 2 (.loop (.seq (.kill [0,1,5,9,10,11,12,13,14,15]) (.seq eR (.seq (.seq (rg [mx 8,mx 6,xN 3 0 1] 16 [14,2]) (qm 14 2)) (.seq (.block 3 (.seq (rd [qe 5 4,cN,mx 8,qy 3 1 2,pQ 2 3,qv 1 4,qe 2 7,qv 1 6,(none,Bh 9 5 7),mr 8,qs 9 5 4,dM 9 1 10,qk 9 8,(some (9,false),.iaddrS 3 (.r 11) (.r 12)),H4 9 0 13,dM 9 1 14,qs 9 0 7,dM 9 1 16,(some (9,false),.bin .geq 3 (.r 15) (.r 17)),qd 9 18] 16 [15,19]) (qj 15 16 5 0))) (iu 8 1 16 8 2))))))))))) (iu 6 1 16 6 2)))))))) (uq 16 5 0)))))⟩
def Dr:aC:=⟨2,10,0,[.var 2],[.raw],false,.seq (rp 10 2 0) (.seq (rg [H6 9 5 1 0,mr 0] 10 [3,1]) (.seq (.seq (eb 0 10 4 0) (.block 0 (.loop (.seq (.kill [2,5,6,7,8,9]) (.seq eR (.seq (.seq (wC 4 3 0 4 10 7 1) (qm 7 0)) (.seq (.block 1 (.seq (rg [(none,.mkSlice 14 5 1 1 [qt] (ci 16)),mr 0] 10 [5,1]) (.seq (.seq (rg [aI,qn 0,(none,ur 3 1 1),mr 2] 10 [6,3]) (.block 2 (.loop (.seq (.kill [2,7,8,9]) (.seq eR (.seq (.seq (rg [mx 6,(none,Di 3 0 0)] 10 [8,1]) (qm 8 2)) (.seq (.block 3 (.seq (rg [mx 1,(none,Di 3 0 0),mr 1,qu 2 1,(some (2,true),K7 3 3 3),qf 2 4,mr 5,qu 6 0,qu 6 6,(some (6,true),.iaddrS 3 (.r 7) (.r 8)),Ns 6 3 9,(some (6,true),.call 33 oQ [.r 10]),qf 6 11,mr 12,qu 13 0,qu 13 6,(some (13,true),.iaddrS 3 (.r 14) (.r 15)),(some (13,true),.faddr 0 (.r 16)),gQ 13 1 17,qu 13 1,(some (13,true),.bin .mul 3 (ci 4) (.r 19)),qu 13 4,(some (13,true),.bin .add 3 (.r 20) (.r 21)),(some (13,true),Bh 3 18 22),qf 13 23] 10 [9,24]) (.cond (.x 9) (rg [aI,mx 6,qy 3 0 1,iW 3 2,qw 51 MR 3,mr 4] 10 [5,5]) .skip))) (rg [mx 6,(none,ur 3 0 1),mr 1] 10 [6,2])))))))) (rg [mx 3,mx 5,kx 54 5 1 1 0 0 1,mr 2] 10 [3,3])))) (iu 4 1 10 4 2)))))))) (yK 3 0 10 2 1)))⟩
def we:aC:=⟨1,2,0,[.var 1],[.raw],false,qcd⟩
def x4:aC:=⟨1,9,0,[.var 1],[.raw],false,.seq (rg [(none,.mv (.c (T.v (.complex .f64 0 0))))] 9 [1,0]) (.seq (rg [(none,.mv (.c (T.v (.complex .f64 4607182418800017408 0))))] 9 [2,0]) (.seq (.seq (rg [aI,qn 0,mi 0] 9 [5,0,6,1,7,2]) (.block 0 (.loop (.seq (.kill [0,1,3,4,8]) (.seq eR (.seq (uo 3 7 6 9 8 0) (.seq (qm 8 0) (.seq (.block 1 (.seq (rg [Bf 1 5 7,cN,mr 1] 9 [3,2]) (.seq (rg [mx 2,(none,.part 0 bw),mx 3,(none,.toFloat .f64 dQ),nV 195 1 3,qw 18 xZ 4,mr 5] 9 [4,6]) (rg [mx 4,mx 2,(none,.part 1 cP),mx 4,nV 195 2 3,qw 24 xZ 4,(none,.cplx bw j6),mr 6] 9 [2,7])))) (pz 3 7 1 0 9 7 1))))))))) (yK 2 0 9 1 1)))⟩
def s9:aC:=⟨2,3,0,[.var 2],[.raw],false,qax⟩
def wg:aC:=⟨2,8,2,[.cell 3 true 7],[.raw],false,.seq (rg [qx,RM 2] 8 [2,0,3,1]) (.seq (.seq (rg [mx 1,(none,.bin .and 3 bw (ci 1)),ma 3 1 0] 8 [4,2]) (.cond (.x 4) (rg [qe 1 2,(none,.store 1 bw (ci 0))] 8 []) .skip)) (.seq (.seq (rg [mx 1,(none,.bin .and 3 bw (ci 2)),ma 3 1 0] 8 [5,2]) (.cond (.x 5) (rg [qe 2 2,(none,.store 1 bw (.c qp))] 8 []) .skip)) (.seq (.seq (rg [mx 1,(none,.bin .and 3 bw (ci 4)),ma 3 1 0] 8 [6,2]) (.cond (.x 6) (rg [(none,.build [qa,qa,qa] []),qe 3 2,ql 3 1 0] 8 []) .skip)) (.seq (.seq (rg [mx 1,(none,.bin .and 3 bw (ci 8)),ma 3 1 0] 8 [7,2]) (.cond (.x 7) (rg [qe 6 2,(none,.store 1 bw (ci 0))] 8 []) .skip)) (.seq (rg [qe 0 2,cN,mx 1,(none,.bin .andNot 3 cP dQ),qe 0 2,ql 1 4 3] 8 []) (.seq (rg [qh 7 2,iV 7 3 0] 8 []) .ret))))))⟩
def ka:aC:=⟨1,3,0,[.var 1],[.raw],false,.seq (nw 3 1 0) (.seq (.seq (rg [aI,(none,zJ 0),rU 3 1 0,mr 2,qk 3 0,(some (3,false),zJ 4),Ba 3 3 5 12,qd 3 6,mr 7,qk 8 0,(some (8,false),.bin .eql 9 (.r 9) (.c (T.v (.string ⟨#[46]⟩)))),qd 8 10,mr 11,qk 12 0,(some (12,false),.bin .eql 9 (.r 13) (.c (T.v (.string ⟨#[46,46]⟩)))),qd 12 14] 3 [2,15]) (qj 2 3 1 0)) (.seq (rg [aI,(none,.call 20 pk [bw,.c (T.v (.func (.func iB) #[] #[]))]),(none,vi 3 1 0),mr 2] 3 [1,3]) .ret))⟩
def sc:aC:=⟨1,4,1,[.var 1],[.raw],false,.seq (rp 4 1 0) (.seq (.seq (rg [aI,qw 5 pP 0,eY 1] 4 [3,2]) (Gl 3 4 1 0)) (.seq (rg [(none,.alloc 0 (List.replicate 14 (T.v (.int .u8 0))))] 4 [2,0]) (.seq (rg [aI,(none,zJ 0),vj 1,zH 14 1 2 0,ql 1 3 2] 4 []) (.seq (rg [(none,.sliceA 14 1 (.x 2) (some (ci 1)) none),aI,(none,.copy 1 bw cP)] 4 []) (.seq (rg [RP 14 1 2,mr 0] 4 [1,1]) .ret)))))⟩
def ta:aC:=⟨1,3,1,[.var 2],[.raw],false,.seq (yL 3 1 0 2 1) (.seq (rg [lu,cN,(none,Di 3 1 0),mr 2,qz 3 0 1,gQ 3 1 4,(some (3,true),vi 3 5 16),qf 3 6,mr 7,qz 8 1 1,gQ 8 1 9,(some (8,true),.bin .gtr 3 (.r 10) (ci 0)),qf 8 11,mr 12,qz 13 1 1,gQ 13 1 14,(some (13,true),K7 3 15 65535),qf 13 16,mr 17,qz 18 2 1,gQ 18 1 19,(some (18,true),.call 24 pP [.r 20]),qf 18 21,mr 22] 3 [2,23]) .ret)⟩
def pV:aC:=⟨1,7,0,[.var 1],[.raw],false,.seq (rp 7 1 0) (.seq (.seq (rg [aI,qw 6 sT 0,eY 1] 7 [4,2]) (Gl 4 7 1 0)) (.seq (rg [aI,(none,zJ 0),vj 1,K5 11 5 1 1 0 1 2,mr 3] 7 [2,4]) (.seq (.seq (eb 0 7 3 0) (.block 0 (.loop (.seq (.kill [1,4,5,6]) (.seq eR (.seq (.seq (wC 3 3 0 13 7 5 1) (qm 5 0)) (.seq (.block 1 (.seq (rg [mx 3,aI,(none,zJ 1),Bi] 7 [6,3]) (.cond (.x 6) (rg [mx 2,aI,mx 3,(none,.indexS cP dQ),K5 24 5 1 1 0 1 3,kx 25 5 1 1 0 0 4,mr 5] 7 [2,6]) (rg [mx 2,(none,.bslice 27 5 1 1 [qt] [(0,(1,.c qt))]),kx 28 5 1 1 0 0 1,mr 2] 7 [2,3])))) (iu 3 1 7 3 2)))))))) (yK 2 0 7 1 1))))⟩
def jt:aC:=⟨1,6,0,[.var 1],[.raw],false,.seq (nw 6 1 0) (.seq (.seq (rg [aI,(none,zJ 0),(none,vi 3 1 1),mr 2,qk 3 0,(some (3,false),zJ 4),Ba 3 3 5 12,qd 3 6,mr 7,qk 8 0,(some (8,false),.bin .eql 9 (.r 9) (.c (T.v (.string ⟨#[46]⟩)))),qd 8 10,mr 11,qk 12 0,(some (12,false),.bin .eql 9 (.r 13) (.c (T.v (.string ⟨#[46,46]⟩)))),qd 12 14] 6 [3,15]) (qj 3 6 1 0)) (.seq (.seq (eb 0 6 2 0) (.block 0 (.loop (.seq (.kill [1,3,4,5]) (.seq eR (.seq (.seq (rg [mx 2,aI,(none,zJ 1),Bi] 6 [4,3]) (qm 4 0)) (.seq (.block 1 (.seq (rg [aI,mx 2,(none,.indexS bw cP),qw 29 vA 2,eY 3] 6 [5,4]) (qj 5 6 1 0))) (iu 2 1 6 2 2)))))))) (uq 6 1 0)))⟩
def Dt:aC:=⟨1,3,1,[.var 2],[.raw],false,.seq (H7 3 1 0 2 1) (.seq (rd [qe 1 1,cN,(none,rS 5 dX 1 2),qe 2 1,nW,qw 8 uk 4,kx 9 5 1 1 0 2 5,mr 6] 3 [2,7]) .ret)⟩
def uC:aC:=⟨1,3,0,[.var 1],[.raw],false,.seq (rg [(none,.mv (.c (T.v (.float .f64 0))))] 3 [1,0]) (.seq (.seq (rg [aI,(none,.bin .geq 195 bw (.c (T.v (.float .f64 4679237951253643264))))] 3 [2,1]) (.cond (.x 2) (.seq (rg [aI,(none,.bin .sub 195 bw (.c (T.v (.float .f64 4679237951253643264)))),mr 1] 3 [1,2]) .ret) .skip)) (yK 0 0 3 1 1))⟩
def l5:aC:=⟨2,3,0,[.var 2],[.raw],false,.seq (eb 0 3 2 0) (.seq (rg [aI,mx 1,(none,.call 7 jB [bw,cP,.c (T.v (.bool true))]),mr 2] 3 [2,3]) .ret)⟩
def qT:aC:=⟨1,2,0,[.var 1],[.raw],false,.seq (nw 2 1 0) (.seq (rg [aI,qw 4 xB 0,eY 1,mr 2] 2 [1,3]) .ret)⟩
def td:aC:=⟨1,3,0,[.var 1],[.raw],false,.seq (nw 3 1 0) (.seq (.block 0 (.seq (.seq (rg [aI,(none,.bin .geq 21 bw (Nv 97)),mr 1,qu 2 0,(some (2,true),.bin .leq 21 fe (Nv 122)),qf 2 4,mr 5] 3 [2,6]) (.cond (.x 2) .skip (rg [aI,(none,.bin .geq 21 bw (Nv 48)),mr 1,qu 2 0,(some (2,true),.bin .leq 21 fe (Nv 57)),qf 2 4,mr 5] 3 [2,6]))) (.cond (.x 2) (uq 3 1 0) .skip))) (.seq (rg [aI,(none,.bin .eql 21 bw (Nv 46)),mr 1,qk 2 0,(some (2,false),.bin .eql 21 fe (Nv 95)),qd 2 4,mr 5,qk 6 0,(some (6,false),.bin .eql 21 (.r 7) (Nv 45)),qd 6 8,mr 9] 3 [1,10]) .ret))⟩
def qU:aC:=⟨1,2,0,[.var 1],[.raw],false,.seq (nw 2 1 0) (.seq (rg [aI,(none,.bin .geq 5 bw (pA 97)),mr 1,qu 2 0,(some (2,true),.bin .leq 5 fe (pA 122)),qf 2 4,mr 5,qk 6 0,(some (6,false),.bin .geq 5 (.r 7) (pA 48)),(some (6,false),.mv (.r 8)),qu 9 0,(some (9,true),.bin .leq 5 (.r 10) (pA 57)),VZ 6 9 11,qd 6 12,mr 13,qk 14 0,(some (14,false),.bin .eql 5 (.r 15) (pA 46)),qd 14 16,mr 17,qk 18 0,(some (18,false),.bin .eql 5 (.r 19) (pA 95)),qd 18 20,mr 21,qk 22 0,(some (22,false),.bin .eql 5 (.r 23) (pA 45)),qd 22 24,mr 25] 2 [1,26]) .ret)⟩
def vn:aC:=⟨3,10,0,[.var 3],[.raw],false,.seq (eb 0 10 3 0) (.seq (.seq K4 (.block 0 (.loop (.seq (.kill [0,3,4,5,7,8,9]) (.seq eR (.seq K4 (.seq (qm 8 0) (.block 1 (.seq (rg [(none,.extract (.x 7) 1),(none,.extract (.x 7) 2),mr 0,mr 1] 10 [4,2,5,3]) (.seq (rg [mx 1,mx 5,(none,.callv 17 bw [cP]),mx 2,(none,.eqb false dQ fe)] 10 [9,4]) (.cond (.x 9) (yK 4 0 10 3 1) .skip))))))))))) (VY 10 3 0))⟩
def code:FuncId→Option aC
 |3=>some vk
 |4=>some wD
 |5=>some jh
 |6=>some Gr
 |7=>some xC
 |8=>some ky
 |9=>some nE
 |10=>some uv
 |11=>some wE
 |12=>some mo
 |13=>some xD
 |14=>some j7
 |15=>some ec
 |16=>some nF
 |17=>some pR
 |18=>some jR
 |19=>some ji
 |20=>some lM
 |21=>some o9
 |22=>some hY
 |23=>some pa
 |24=>some nX
 |25=>some Dk
 |26=>some yN
 |27=>some xE
 |28=>some iC
 |29=>some jS
 |30=>some oS
 |31=>some rV
 |32=>some bX
 |33=>some kK
 |34=>some nB
 |35=>some rW
 |36=>some cy
 |37=>some gx
 |38=>some gy
 |39=>some pS
 |40=>some pB
 |41=>some vZ
 |42=>some oy
 |43=>some uw
 |44=>some rX
 |45=>some gM
 |46=>some gN
 |47=>some js
 |48=>some oT
 |49=>some sU
 |50=>some sV
 |51=>some pT
 |52=>some oU
 |53=>some pU
 |54=>some Gs
 |55=>some xF
 |56=>some wa
 |57=>some lN
 |58=>some jT
 |59=>some lx
 |60=>some dB
 |61=>some ig
 |62=>some aM
 |63=>some gl
 |64=>some qR
 |65=>some oz
 |66=>some ux
 |67=>some oV
 |68=>some ed
 |70=>some iD
 |71=>some rY
 |72=>some pC
 |73=>some pD
 |74=>some uz
 |75=>some fX
 |76=>some oA
 |77=>some tI
 |78=>some j8
 |79=>some Dl
 |80=>some pE
 |81=>some Dm
 |82=>some uA
 |83=>some pF
 |84=>some wF
 |85=>some oW
 |86=>some wG
 |87=>some qS
 |88=>some sW
 |89=>some sX
 |90=>some sY
 |91=>some Dn
 |92=>some mI
 |93=>some mJ
 |94=>some uB
 |95=>some jU
 |96=>some gJ
 |97=>some jV
 |100=>some fm
 |101=>some sZ
 |102=>some rZ
 |103=>some lO
 |104=>some mK
 |105=>some r9
 |106=>some mL
 |107=>some Dp
 |108=>some Dq
 |109=>some s6
 |110=>some Gt
 |111=>some sa
 |112=>some pb
 |113=>some pc
 |114=>some zK
 |115=>some vB
 |116=>some fY
 |117=>some oX
 |118=>some pd
 |119=>some jj
 |131=>some s7
 |132=>some wb
 |133=>some nG
 |134=>some s8
 |135=>some mq
 |136=>some j9
 |137=>some D2
 |138=>some Dr
 |139=>some we
 |140=>some x4
 |141=>some s9
 |142=>some wg
 |143=>some ka
 |144=>some sc
 |145=>some ta
 |152=>some pV
 |153=>some jt
 |154=>some Dt
 |155=>some uC
 |156=>some l5
 |157=>some qT
 |158=>some td
 |160=>some qU
 |161=>some vn
 |_=>none
end Go.Vi.Zz
end
