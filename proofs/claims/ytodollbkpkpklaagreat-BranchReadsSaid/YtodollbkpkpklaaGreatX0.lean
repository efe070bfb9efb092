/-
  A claim's own text, joined by a small program out of: Vj0, ZzCode.
-/
import Derived.Calls
import Derived.Below
set_option linter.unusedVariables false
set_option linter.unusedSimpArgs false
section
namespace Go.Vi
open Go
inductive Tag where
 |nil|any|lP|clip|own (k:Nat) (e:TypeId)
 deriving DecidableEq,Repr,Inhabited
inductive T where
 |undef
 |v (x:Value)
 |sl (g:Tag) (n:Nat) (cs:List T)
 |ptr (cs:List T) (off:Nat)
 |ref (s off:Nat)
 |av (s off n c:Nat)
 |aQ (s:Nat)
 |agg (cs:List T)
 |an (cs:List T)
 |bB (fn:Fn) (first cap:List T)
 deriving Inhabited
abbrev T.int(n:Int):T:= .v (.int .i64 n)
abbrev T.u8(n:Int):T:= .v (.int .u8 n)
abbrev T.bool(b:Bool):T:= .v (.bool b)
abbrev T.str(s:ByteArray):T:= .v (.string s)
def T.one:T→Bool
 | .v x=>x.oneCell'
 | .sl ..| .ptr ..| .ref ..| .av ..| .aQ ..| .bB ..=>true
 |_=>false
def T.Ay:T→Bool
 | .v x=>x.oneCell'
 |_=>false
inductive ag where
 |r (i:Nat)|x (i:Nat)|c (t:T)
 deriving Inhabited
inductive LK where
 |int|bool|str
 deriving DecidableEq,Inhabited
inductive IOp where
 |mv (a:ag)
 |pick (c a b:ag)
 |bin (op:BinOp) (t:TypeId) (a b:ag)
 |eqb (neg:Bool) (a b:ag)
 |eqa (neg:Bool) (ks:List LK) (a b:ag)
 |eqnil (neg:Bool) (a:ag)
 |un (op:UnOp) (a:ag)
 |toInt (k:IntKind) (a:ag)
 |toFloat (k:FloatKind) (a:ag)
 |toStr (a:ag)
 |build (zero:List T) (parts:List (Nat×Nat×ag))
 |field (isAgg:Bool) (off n:Nat) (a:ag)
 |indexA (len sz:Nat) (isAgg:Bool) (a i:ag)
 |indexS (a i:ag)
 |extract (a:ag) (i:Nat)
 |alloc (s:Nat) (zero:List T)
 |box (s:Nat) (a:ag)
 |load (isAgg:Bool) (n:Nat) (a:ag)
 |store (n:Nat) (a b:ag)
 |faddr (off:Nat) (a:ag)
 |iaddrA (len sz:Nat) (a i:ag)
 |iaddrS (sz:Nat) (a i:ag)
 |sliceS (a:ag) (lo hi:Option ag)
 |sliceT (sz:Nat) (a:ag) (lo hi mx:Option ag)
 |sliceA (len sz:Nat) (a:ag) (lo hi:Option ag)
 |arrOf (len:Nat) (a:ag)
 |mkSlice (d:Nat) (e:TypeId) (sz bytes:Nat) (zero:List T) (n:ag)
 |mkBox (s sz bytes:Nat) (zero:List T) (n:ag)
 |mkCap (d:Nat) (e:TypeId) (bytes:Nat) (n:ag)
 |bslice (d:Nat) (e:TypeId) (sz len:Nat) (zero:List T) (parts:List (Nat×Nat×ag))
 |bsliceB (s sz len:Nat) (zero:List T) (parts:List (Nat×Nat×ag))
 |append (d:Nat) (e:TypeId) (sz bytes:Nat) (zero:List T) (src:Nat) (a b:ag)
 |len (str:Bool) (a:ag)
 |minMax (max:Bool) (as:List ag)
 |part (k:Nat) (a:ag)
 |cplx (a b:ag)
 |copy (sz:Nat) (a b:ag)
 |clearS (sz:Nat) (zero:List T) (a:ag)
 |appendB (s:Nat) (e:TypeId) (sz bytes:Nat) (zero:List T) (src:Nat) (a b:ag)
 |mkMap (s:Nat)
 |lookup (k:LK) (zero:T) (ok:Bool) (a i:ag)
 |mapUpdate (k:LK) (a i x:ag)
 |lenM (a:ag)
 |capS (a:ag)
 |thaw (d:Nat) (e:TypeId) (sz:Nat) (a:ag)
 |call (d:Nat) (f:FuncId) (as:List ag)
 |callv (d:Nat) (f:ag) (as:List ag)
 |callnew (d:Nat) (ad:List Nat) (f:FuncId) (as:List ag)
 |callio (d:Nat) (ad:List Nat) (f:FuncId) (as:List ag)
 |callvio (d:Nat) (ad:List Nat) (f:ag) (as:List ag)
 |mkFunc (fn:Fn) (first cap:List ag)
 |nilCheck (a:ag)
 deriving Inhabited
def IOp.reads:IOp→List ag
 | .mv a| .eqnil _ a| .un _ a| .toInt _ a| .toFloat _ a| .toStr a| .field _ _ _ a| .extract a _| .box _ a| .load _ _ a| .faddr _ a| .arrOf _ a| .mkSlice _ _ _ _ _ a| .mkBox _ _ _ _ a| .mkCap _ _ _ a| .len _ a| .part _ a| .nilCheck a| .lenM a| .capS a| .thaw _ _ _ a| .clearS _ _ a=>[a]
 | .pick c a b| .mapUpdate _ c a b=>[c,a,b]
 | .bin _ _ a b| .eqb _ a b| .eqa _ _ a b| .indexA _ _ _ a b| .indexS a b| .store _ a b| .iaddrA _ _ a b| .iaddrS _ a b| .append _ _ _ _ _ _ a b| .cplx a b| .copy _ a b| .appendB _ _ _ _ _ _ a b| .lookup _ _ _ a b=>[a,b]
 | .build _ ps| .bslice _ _ _ _ _ ps| .bsliceB _ _ _ _ ps=>ps.map fun p=>p.2.2
 | .alloc ..| .mkMap ..=>[]
 | .sliceS a lo hi| .sliceA _ _ a lo hi=>a::(lo.toList++hi.toList)
 | .sliceT _ a lo hi mx=>a::(lo.toList++(hi.toList++mx.toList))
 | .minMax _ as| .call _ _ as| .callnew _ _ _ as| .callio _ _ _ as=>as
 | .callv _ f as| .callvio _ _ f as=>f::as
 | .mkFunc _ a b=>a++b
structure Ro where
 ops:List (Option (Nat×Bool)×IOp)
 outs:List (Option Nat)
 draw:Bool
 deriving Inhabited
inductive IC where
 |skip
 |Az (r:Ro)
 |seq (a b:IC)
 |cond (c:ag) (a b:IC)
 |block (id:Nat) (a:IC)
 |loop (a:IC)
 |jumps (id:Nat) (first rest:IC)
 |kz (a:IC)
 |range (K:Nat) (g:ag) (ps:List Nat) (a b:IC)
 |exit (id:Nat)
 |ret
 |kill (vs:List Nat)
 |free (ss:List Nat)
 deriving Inhabited
inductive zP where
 |var (i:Nat)
 |cell (i:Nat) (isAgg:Bool) (n:Nat)
 deriving Inhabited
inductive CM where
 |raw|any|own (e:TypeId)|box (s:Nat)
 deriving DecidableEq,Repr,Inhabited
structure aD where
 nparams:Nat
 jZ:Nat
 ez:Nat
 results:List zP
 canon:List CM
 split:Bool
 body:IC
 deriving Inhabited
structure St where
 rs:List T
 vars:List T
 boxes:List (Option (List T))
 deriving Inhabited
def gy{α:Type}:Sem α→Option α
 | .pure a=>some a
 |_=>none
mutual
def T.ay(s:Nat):T→Bool
 | .ref s' _=>s' !=s
 | .av s' _ _ _=>s' !=s
 | .aQ s'=>s' !=s
 | .agg ts=>aR s ts
 | .an ts=>aR s ts
 | .bB _ a b=>aR s a&&aR s b
 |_=>true
def aR(s:Nat):List T→Bool
 | []=>true
 |t::ts=>t.ay s&&aR s ts
end
def hit(d k:Nat):Bool:=if d%2=0 then k / 8==d / 2 else k==d / 2
mutual
def T.strip(d:Nat):T→T
 | .sl (.own k e) n cs=> .sl (if hit d k then .any else .own k e) n cs
 | .agg ts=> .agg (stripL d ts)
 | .an ts=> .an (stripL d ts)
 | .bB f a b=> .bB f (stripL d a) (stripL d b)
 |t=>t
def stripL(d:Nat):List T→List T
 | []=>[]
 |t::ts=>t.strip d::stripL d ts
end
mutual
def T.import(d:Nat):T→T
 | .sl (.own k e) n cs=> .sl (if k< 8 then .own (8*d+k) e else .any) n cs
 | .agg ts=> .agg (dD d ts)
 | .an ts=> .an (dD d ts)
 | .bB f a b=> .bB f (dD d a) (dD d b)
 |t=>t
def dD(d:Nat):List T→List T
 | []=>[]
 |t::ts=>t.import d::dD d ts
end
mutual
def T.al(ρ η:Nat→Option Nat):T→T
 | .sl (.own k e) n cs=> .sl (match η k with|some k'=> .own k' e|none=> .any) n cs
 | .ref s o=>match ρ s with|some s'=> .ref s' o|none=> .undef
 | .av s o n c=>match ρ s with|some s'=> .av s' o n c|none=> .undef
 | .aQ s=>match ρ s with|some s'=> .aQ s'|none=> .undef
 | .agg ts=> .agg (ai ρ η ts)
 | .an ts=> .an (ai ρ η ts)
 | .bB f a b=> .bB f (ai ρ η a) (ai ρ η b)
 |t=>t
def ai(ρ η:Nat→Option Nat):List T→List T
 | []=>[]
 |t::ts=>t.al ρ η::ai ρ η ts
end
mutual
def T.refs:T→List Nat
 | .ref s _=>[s]
 | .av s _ _ _=>[s]
 | .aQ s=>[s]
 | .agg ts=>eh ts
 | .an ts=>eh ts
 | .bB _ a b=>eh a++eh b
 |_=>[]
def eh:List T→List Nat
 | []=>[]
 |t::ts=>t.refs++eh ts
end
mutual
def T.fa:T→List Nat
 | .sl (.own k _) _ _=>[k]
 | .agg ts=>gQ ts
 | .an ts=>gQ ts
 | .bB _ a b=>gQ a++gQ b
 |_=>[]
def gQ:List T→List Nat
 | []=>[]
 |t::ts=>t.fa++gQ ts
end
def aj(bx:List (Option (List T)))(s:Nat):Option (List T):=(bx[s]?).join
def reach(bx:List (Option (List T))):Nat→List Nat→List Nat→List Nat
 |0,seen,_=>seen
 |_+1,seen,[]=>seen
 |n+1,seen,s::todo=>if seen.contains s then reach bx n seen todo else reach bx n (seen++[s]) (eh ((aj bx s).getD [])++todo)
def iL(ss:List Nat)(s:Nat):Option Nat:=(ss.idxOf? s).map (2*· +s%2)
def fw(ss:List Nat)(l:Nat):Option Nat:=(ss[l / 2]?).bind fun s=>if s%2=l%2 then some s else none
def j1:Nat:=1048576
def rv(fs:List Nat)(k:Nat):Option Nat:=(fs.idxOf? k).map fun i=>8*(j1+i)
def aq:Nat:=1048576
def zQ:Option (List T)→T
 |some cs=> .agg cs
 |none=> .undef
def er:T→Option (List T)
 | .agg cs=>some cs
 |_=>none
mutual
def T.closed:T→Bool
 | .ref ..| .av ..| .aQ ..=>false
 | .sl (.own _ _) _ _=>false
 | .agg ts=>bn ts
 | .an ts=>bn ts
 | .bB _ a b=>bn a&&bn b
 |_=>true
def bn:List T→Bool
 | []=>true
 |t::ts=>t.closed&&bn ts
end
def St.strip(d:Nat)(σ:St):St:=⟨stripL d σ.rs,stripL d σ.vars,σ.boxes.map (Option.map (stripL d))⟩
def St.drop(s:Nat)(σ:St):St:=
 ⟨ai (fun x=>if x=s then none else some x) some σ.rs,ai (fun x=>if x=s then none else some x) some σ.vars,(σ.boxes.map (Option.map (ai (fun x=>if x=s then none else some x) some))).set s none⟩
def St.ay(s:Nat)(σ:St):Bool:=
 aR s σ.rs&&aR s σ.vars&&σ.boxes.all fun o=>match o with|some cs=>aR s cs|none=>true
def close(bx:List (Option (List T))):Nat→T→Option T
 |0,_=>none
 |k+1,t=>
  match t with
  | .sl _ n cs=>some (.sl .any n cs)
  | .aQ _=>some .undef
  | .ref s off=>
   match bx[s]? with
   |some (some cs)=>(cs.mapM (close bx k)).map (T.ptr · off)
   |_=>none
  | .av s off n c=>
   if n=0 then some (.sl .any 0 [])else
   match bx[s]? with
   |some (some cs)=>(((cs.drop off).take c).mapM (close bx k)).map (T.sl .any n ·)
   |_=>none
  | .agg ts=>(ts.mapM (close bx k)).map T.agg
  | .an ts=>(ts.mapM (close bx k)).map T.an
  | .bB f a b=>do let a←a.mapM (close bx k);let b←b.mapM (close bx k);pure (.bB f a b)
  |t=>some t
def T.fresh1:T→Bool
 | .v _=>true
 | .undef=>true
 | .sl (.own _ _) _ cs=>cs.all T.Ay
 | .sl .nil _ _=>true
 | .sl _ _ []=>true
 |_=>false
def T.fresh2:T→Bool
 | .agg cs=>cs.all T.fresh1
 |t=>t.fresh1
def T.fresh:T→Bool
 | .an ts=>ts.all T.fresh2
 |t=>t.fresh2
mutual
def T.aV:T→Bool
 | .ref ..| .av ..| .aQ ..=>true
 | .agg ts=>bc ts
 | .an ts=>bc ts
 | .bB _ a b=>bc a||bc b
 |_=>false
def bc:List T→Bool
 | []=>false
 |t::ts=>t.aV||bc ts
end
def ag.get(σ:St):ag→T
 | .r i=>σ.rs.getD i .undef
 | .x i=>σ.vars.getD i .undef
 | .c t=>t
mutual
def T.cH:T→T
 | .sl _ n cs=> .sl .any n cs
 | .agg ts=> .agg (jk ts)
 | .an ts=> .an (jk ts)
 | .bB f a b=> .bB f (jk a) (jk b)
 |t=>t
def jk:List T→List T
 | []=>[]
 |t::ts=>t.cH::jk ts
end
def T.fx:T→T
 | .sl .nil n cs=> .sl .nil n cs
 |t=>t.cH
def AA:Value→Bool
 | .int ..| .bool ..| .string ..| .float ..| .complex ..=>true
 |_=>false
def bO(op:BinOp)(t:TypeId):T→T→Option T
 | .v a,.v b=>if AA a&&AA b then(gy (binOp op t a b)).map T.v else none
 |_,_=>none
def asNat:T→Option Nat
 | .v (.int _ n)=>if 0≤n then some n.toNat else none
 |_=>none
def one?(isAgg:Bool)(n:Nat)(cs:List T)(off:Nat):Option T:=
 if isAgg then(if off+n≤cs.length then some (.agg ((cs.drop off).take n))else none)
 else cs[off]?
def cellsOf:T→Option (List T)
 | .agg cs=>some cs
 | .an _=>none
 | .undef=>none
 |t=>some [t]
def setCells(cs:List T)(off:Nat)(ns:List T):List T:=cs.take off++ns++cs.drop (off+ns.length)
def df(get:ag→T)(cells:List T):List (Nat×Nat×ag)→Option (List T)
 | []=>some cells
 |(off,n,a)::rest=>do
  let cs←cellsOf (get a)
  if cs.length=n∧off+n≤cells.length∧cs.all T.one then df get (setCells cells off cs) rest else none
def ig:LK→T→T→Option Bool
 | .int,.v (.int k a),.v (.int k' b)=>if k=k' then some (a==b)else none
 | .bool,.v (.bool a),.v (.bool b)=>some (a==b)
 | .str,.v (.string a),.v (.string b)=>some (a.toList==b.toList)
 |_,_,_=>none
def cd:List LK→List T→List T→Option Bool
 | [],[],[]=>some true
 |k::ks,a::as,b::bs=>do let x←ig k a b;let y←cd ks as bs;pure (x&&y)
 |_,_,_=>none
def bytesOf:List T→Option (List UInt8)
 | []=>some []
 | .v (.int .u8 n)::cs=>(bytesOf cs).map (UInt8.ofNat n.toNat::·)
 |_=>none
def room:Nat:=4294967296
def ng(mx:Bool)(acc:Int):List T→Option Int
 | []=>some acc
 | .v (.int _ y)::ts=>ng mx (if mx then(if y>acc then y else acc)else(if y< acc then y else acc)) ts
 |_=>none
def iH(bx:List (Option (List T)))(kind sz:Nat)(zero:List T)(b:T):Option (Nat×List T):=
 match kind with
 |0=>(match b with
  | .sl _ m ys=>some (m,ys)
  | .av s o m c=>(match bx[s]? with|some (some cs)=>if s%2=0 then some (m,(cs.drop o).take (if m=0 then 0 else c))else none|_=>none)
  |_=>none)
 |1=>(match b with
  | .v (.string s)=>if sz=1 then some (s.size,s.data.toList.map fun(b:UInt8)=>T.u8 b.toNat)else none
  |_=>none)
 |_=>(asNat b).map fun m=>(m,(List.replicate m zero).flatten)
def mc(k:LK)(key:T):List T→Option (Option T)
 |a::v::cs=>(ig k key a).bind fun e=>if e then some (some v)else mc k key cs
 | []=>some none
 |_=>none
def sS(k:LK)(key x:T):List T→Option (List T)
 |a::v::cs=>(ig k key a).bind fun e=>if e then some (key::x::cs)else(sS k key x cs).map fun cs=>a::v::cs
 | []=>some [key,x]
 |_=>none
def dE:T→List T→Bool
 | .av ..,ys=>ys.all T.closed
 |_,_=>true
def jo(str:Bool):T→Option T
 | .sl _ n _=>if str then none else some (.int n)
 | .av _ _ n _=>if str then none else some (.int n)
 | .v (.string s)=>if str then some (.int s.size)else none
 |_=>none
def eC:T→Option (FuncId×List T×List T)
 | .v (.func (.func f) a b)=>if a.size=0∧b.size=0 then some (f,[],[])else none
 | .bB (.func f) first cap=>some (f,first,cap)
 |_=>none
def aw(get:ag→T)(d:Nat):Option ag→Option Nat
 |none=>some d
 |some a=>asNat (get a)
def dw(ss ad:List Nat)(l:Nat):Option Nat:=if l / 2< ss.length then fw ss l else(ad[l / 2-ss.length]?).map (· +l%2)
def fy(d k:Nat):Option Nat:=if k< 8 then some (8*d+k)else none
def iR(ss:List Nat)(outs:List T)(s:Nat):Option Nat:=
 match iL ss s with
 |some l=>if(er (outs.getD l .undef)).isSome then some s else none
 |none=>some s
def gg(d:Nat)(fs:List Nat)(k:Nat):Option Nat:=if fs.contains k||hit (2*d) k then none else some k
def tH(C:FuncId→List T→Option T)(f:FuncId)(cs:List T):Option T:=if f< aq then C f cs else none
def dF(bx:List (Option (List T)))(s:Nat):Bool:=match bx[s]? with|some none=>true|_=>false
def ey(back ζ:Nat→Option Nat):List (Option (List T))→Nat→List (Option (List T))→List (Option (List T))
 | [],_,bx=>bx
 |o::os,l,bx=>ey back ζ os (l+1) (match back l with|some s=>bx.set s (o.map (ai back ζ))|none=>bx)
def ae(C:FuncId→List T→Option T)(σ:St)(o:IOp):Option (T×St):=
 let get:=ag.get σ
 match o with
 | .mv a=>some (get a,σ)
 | .pick c a b=>match get c with| .v (.bool t)=>some (if t then get a else get b,σ)|_=>none
 | .bin op t a b=>(bO op t (get a) (get b)).map (·,σ)
 | .eqb neg a b=>match get a,get b with| .v (.bool x),.v (.bool y)=>some (T.bool ((x==y) !=neg),σ)|_,_=>none
 | .eqa neg ks a b=>match get a,get b with
  | .agg xs,.agg ys=>(cd ks xs ys).map fun e=>(T.bool (e !=neg),σ)
  |_,_=>none
 | .eqnil neg a=>match get a with
  | .sl .nil _ _=>some (T.bool (!neg),σ)
  | .sl .lP _ _=>some (T.bool neg,σ)
  | .sl _ n _=>if 0< n then some (T.bool neg,σ)else none
  | .av _ _ n _=>if 0< n then some (T.bool neg,σ)else none
  |_=>none
 | .un op a=>match get a with| .v x=>(gy (Op.unary op x)).map fun y=>(.v y,σ)|_=>none
 | .toInt k a=>match get a with
  | .v (.int _ n)=>some (.v (.int k (k.wrap n)),σ)
  | .v (.float s b)=>(gy (Conv.floatToInt s b k)).map fun y=>(.v y,σ)
  |_=>none
 | .toFloat k a=>match get a with| .v (.int _ n)=>some (.v (.float k (k.nearest n)),σ)|_=>none
 | .toStr a=>match get a with
  | .sl _ n cs=>if n=cs.length then(bytesOf cs).map fun b=>(.str ⟨b.toArray⟩,σ)else none
  |_=>none
 | .build zero parts=>(df get zero parts).map fun cs=>(.agg cs,σ)
 | .field isAgg off n a=>match get a with| .agg cs=>(one? isAgg n cs off).map (·,σ)|_=>none
 | .indexA len sz isAgg a i=>match get a,asNat (get i)with
  | .agg cs,some i=>if i< len then(one? isAgg sz cs (i*sz)).map (·,σ)else none
  |_,_=>none
 | .indexS a i=>match get a,asNat (get i)with
  | .v (.string s),some i=>(s.data[i]?).map fun b=>(.u8 b.toNat,σ)
  |_,_=>none
 | .extract a i=>match get a with| .an ts=>(ts[i]?).map (·,σ)|_=>none
 | .alloc s zero=>match σ.boxes[s]? with
  |some none=>if s%2=0 then some (T.ref s 0,{σ with boxes:=σ.boxes.set s (some zero)})else none
  |_=>none
 | .box s a=>match σ.boxes[s]?,cellsOf (get a)with
  |some none,some cs=>if cs.all T.one∧s%2=0 then some (T.ref s 0,{σ with boxes:=σ.boxes.set s (some cs)})else none
  |_,_=>none
 | .load isAgg n a=>match get a with
  | .ref s off=>match σ.boxes[s]? with
   |some (some cs)=>(one? isAgg n cs off).map (·,σ)
   |_=>none
  | .ptr cs off=>((one? isAgg n cs off).filter T.closed).map (·,σ)
  |_=>none
 | .store n a b=>match get a,cellsOf (get b)with
  | .ref s off,some ns=>match σ.boxes[s]? with
   |some (some cs)=>if ns.length=n∧off+n≤cs.length∧ns.all T.one then some (.undef,{σ with boxes:=σ.boxes.set s (some (setCells cs off ns))})else none
   |_=>none
  |_,_=>none
 | .faddr off a=>match get a with
  | .ref s o=>some (.ref s (o+off),σ)
  | .ptr cs o=>some (.ptr cs (o+off),σ)
  |_=>none
 | .iaddrA len sz a i=>match get a,asNat (get i)with
  | .ref s o,some i=>if i< len then some (.ref s (o+i*sz),σ)else none
  | .ptr cs o,some i=>if i< len then some (.ptr cs (o+i*sz),σ)else none
  |_,_=>none
 | .iaddrS sz a i=>match get a,asNat (get i)with
  | .sl _ n cs,some i=>if i< n then some (.ptr cs (i*sz),σ)else none
  | .av s o n _,some i=>if i< n then some (.ref s (o+i*sz),σ)else none
  |_,_=>none
 | .sliceS a lo hi=>match get a with
  | .v (.string s)=>do
   let h←aw get s.size hi
   let l←aw get 0 lo
   if l≤h∧h≤s.size then some (.str (s.extract l h),σ)else none
  |_=>none
 | .sliceT sz a lo hi mx=>match get a with
  | .sl g n cs=>do
   let h←aw get n hi
   let l←aw get 0 lo
   let m←aw get n mx
   if l≤h∧h≤m∧m≤n then some (.sl (if g= .nil then .nil else if mx.isSome∧h=m then .clip else .any) (h-l) ((cs.drop (l*sz)).take ((h-l)*sz)),σ)
   else none
  | .av s o n c=>do
   let h←aw get n hi
   let l←aw get 0 lo
   let m←aw get n mx
   if l≤h∧h≤m∧m≤n∧(n=0∨n*sz=c)then some (.av s (o+l*sz) (h-l) (if h=l then(if n=0 then c else 1+sz)else(h-l)*sz),σ)else none
  |_=>none
 | .sliceA len sz a lo hi=>match get a with
  | .ref s o=>do
   let h←aw get len hi
   let l←aw get 0 lo
   match σ.boxes[s]? with
   |some (some cs)=>if l≤h∧h≤len∧o+len*sz≤cs.length then some (.av s (o+l*sz) (h-l) (if h=l then 1 else(h-l)*sz),σ)else none
   |_=>none
  |_=>none
 | .arrOf len a=>match get a with
  | .av s o n _=>if len≤n∧0< n then some (.ref s o,σ)else none
  | .sl _ n cs=>if len≤n∧0< n then some (.ptr cs 0,σ)else none
  |_=>none
 | .mkSlice d e sz bytes zero n=>match asNat (get n)with
  |some n=>if n*bytes≤room∧n≤room then some (.sl (.own (8*d) e) n (List.replicate n zero).flatten,σ.strip (2*d))else none
  |none=>none
 | .mkCap d e bytes n=>match asNat (get n)with
  |some n=>if n*bytes≤room∧n≤room then some (.sl (.own (8*d) e) 0 [],σ.strip (2*d))else none
  |none=>none
 | .mkBox s sz bytes zero n=>match asNat (get n),σ.boxes[s]? with
  |some n,some none=>if n*bytes≤room∧n≤room∧s%2=0 then some (.av s 0 n (n*sz),{σ with boxes:=σ.boxes.set s (some (List.replicate n zero).flatten)})else none
  |_,_=>none
 | .bslice d e sz len zero parts=>do
  let cs←df (fun a=>(get a).cH) (List.replicate len zero).flatten parts
  if len≤65536∧len*sz≤16777216∧bn cs then some (.sl (if len=0 then .clip else .own (8*d) e) len cs,σ.strip (2*d))else none
 | .bsliceB s sz len zero parts=>match σ.boxes[s]? with
  |some none=>(df get (List.replicate len zero).flatten parts).bind fun cs=>
   if len≤65536∧len*sz≤16777216∧s%2=0 then some (.av s 0 len (len*sz),{σ with boxes:=σ.boxes.set s (some cs)})else none
  |_=>none
 | .append d e sz bytes zero kind a b=>
  match get a,iH σ.boxes kind sz zero (get b)with
  | .sl g n xs,some (m,ys)=>
   if xs.length=n*sz∧ys.length=m*sz∧(n+m)*bytes≤room∧n+m≤room∧dE (get b) ys=true then
    match g with
    | .own k e'=>if e'=e then some (.sl (.own (8*d) e) (n+m) (xs++ys),(σ.strip (2*k+1)).strip (2*d))else none
    | .nil=>if n=0 then some (.sl (.own (8*d) e) m ys,σ.strip (2*d))else none
    | .clip=>if m=0 then(if n=0 then some (.sl (.own (8*d) e) 0 [],σ.strip (2*d))else none)else some (.sl (.own (8*d) e) (n+m) (xs++ys),σ.strip (2*d))
    | .lP=>if m=0 then some (.sl .any n xs,σ)else none
    | .any=>if m=0 then some (.sl .any n xs,σ)else none
   else none
  |_,_=>none
 | .appendB s e sz bytes zero kind a b=>
  match get a,iH σ.boxes kind sz zero (get b),σ.boxes[s]? with
  | .sl g n _,some (m,ys),some none=>
   if n=0∧ys.length=m*sz∧m*bytes≤room∧m≤room∧dE (get b) ys=true∧s%2=0 then
    match g with
    | .own k e'=>if e'=e∧0< m then some (.av s 0 m (m*sz),{σ.strip (2*k+1)with boxes:=(σ.strip (2*k+1)).boxes.set s (some ys)})else none
    | .nil=>some (.av s 0 m (m*sz),{σ with boxes:=σ.boxes.set s (some ys)})
    | .clip=>some (.av s 0 m (m*sz),{σ with boxes:=σ.boxes.set s (some ys)})
    |_=>none
   else none
  | .av s' o n c,some (m,ys),some old=>
   if o=0∧(s=s'∨old.isNone=true)∧s%2=0∧(0< n∧c=n*sz∨n=0∧(c=0∨c=1+sz))∧n*sz≤((aj σ.boxes s').getD []).length∧ys.length=m*sz∧(n+m)*bytes≤room∧n+m≤room∧dE (get b) ys=true then
    some (.av s 0 (n+m) (if n+m=0 then c else(n+m)*sz),{σ.drop s' with boxes:=(σ.drop s').boxes.set s (some (ai (fun x=>if x=s' then none else some x) some (((aj σ.boxes s').getD []).take (n*sz))++ys))})
   else none
  |_,_,_=>none
 | .clearS sz zero a=>match get a with
  | .av s o n c=>match σ.boxes[s]? with
   |some (some cs)=>if s%2=0∧(n=0∨c=n*sz)∧zero.length=sz∧o+n*sz≤cs.length∧zero.all T.one then some (.undef,{σ with boxes:=σ.boxes.set s (some (setCells cs o (List.replicate n zero).flatten))})else none
   |_=>none
  |_=>none
 | .mkMap s=>match σ.boxes[s]? with
  |some none=>if s%2=1 then some (T.aQ s,{σ with boxes:=σ.boxes.set s (some [])})else none
  |_=>none
 | .lookup k zero ok a i=>match get a with
  | .aQ s=>match σ.boxes[s]? with
   |some (some cs)=>(mc k (get i) cs).bind fun r=>match r with
    |some v=>some (if ok then .an [v,T.bool true]else v,σ)
    |none=>some (if ok then .an [zero,T.bool false]else zero,σ)
   |_=>none
  |_=>none
 | .mapUpdate k a i x=>match get a with
  | .aQ s=>match σ.boxes[s]? with
   |some (some cs)=>(sS k (get i) (get x) cs).map fun bW=>(.undef,{σ with boxes:=σ.boxes.set s (some bW)})
   |_=>none
  |_=>none
 | .lenM a=>match get a with
  | .aQ s=>match σ.boxes[s]? with
   |some (some cs)=>some (T.int (cs.length / 2:Nat),σ)
   |_=>none
  |_=>none
 | .len str a=>(jo str (get a)).map (·,σ)
 | .thaw d e sz a=>match get a with
  | .av s o n c=>
   if o=0∧(0< n∧c=n*sz∨n=0∧(c=0∨c=1+sz))∧n*sz≤((aj σ.boxes s).getD []).length∧bn (((aj σ.boxes s).getD []).take (n*sz))=true then
    some (.sl (.own (8*d) e) n (((aj σ.boxes s).getD []).take (n*sz)),(σ.drop s).strip (2*d))
   else none
  |t=>some (t,σ)
 | .capS a=>match get a with
  | .sl .nil _ _=>some (T.int 0,σ)
  | .sl .clip n _=>some (T.int n,σ)
  | .av _ _ 0 0=>some (T.int 0,σ)
  |_=>none
 | .minMax mx as=>match as.map get with
  | .v (.int k x)::rest=>(ng mx x rest).map fun r=>(.v (.int k r),σ)
  |_=>none
 | .part k a=>match get a with
  | .v (.complex f re im)=>some (.v (.float f (if k=0 then re else im)),σ)
  |_=>none
 | .cplx a b=>match get a,get b with
  | .v (.float k re),.v (.float k' im)=>if k=k' then some (.v (.complex k re im),σ)else none
  |_,_=>none
 | .copy sz a b=>
  let src:Option (Nat×List T):=match get b with
   | .sl _ m ys=>some (m,ys)
   | .v (.string s)=>if sz=1 then some (s.size,s.data.toList.map fun(b:UInt8)=>T.u8 b.toNat)else none
   |_=>none
  match get a,src with
  | .av s o n _,some (m,ys)=>match σ.boxes[s]? with
   |some (some cs)=>
    if ys.length=m*sz∧o+n*sz≤cs.length∧0< n then some (T.int (min m n:Nat),{σ with boxes:=σ.boxes.set s (some (setCells cs o (ys.take (min m n*sz))))})else none
   |_=>none
  |_,_=>none
 | .call d f as=>cU C σ d f (as.map get)
 | .callv d f as=>match eC (get f)with
  |some (f,first,cap)=>cU C σ d f (first++as.map get++cap)
  |none=>none
 | .callnew d ad f as=>dG C σ d ad f (as.map get)
 | .callio d ad f as=>eo C σ d ad f (as.map get)
 | .callvio d ad f as=>match eC (get f)with
  |some (f,first,cap)=>eo C σ d ad f (first++as.map get++cap)
  |none=>none
 | .mkFunc fn first cap=>some (.bB fn (first.map get) (cap.map get),σ)
 | .nilCheck a=>match get a with
  | .ref s o=>some (.ref s o,σ)
  | .ptr cs o=>some (.ptr cs o,σ)
  | .bB (.func f) a b=>some (.bB (.func f) a b,σ)
  | .v (.func (.func f) a b)=>some (.v (.func (.func f) a b),σ)
  |_=>none
 where
 cU (C:FuncId→List T→Option T) (σ:St) (d:Nat) (f:FuncId) (as:List T):Option (T×St):=do
  let cs←as.mapM (close σ.boxes 6)
  let r←tH C f cs
  if bc as&& !r.fresh then none else some (r.import d,σ.strip (2*d))
 dG (C:FuncId→List T→Option T) (σ:St) (d:Nat) (ad:List Nat) (f:FuncId) (as:List T):Option (T×St):=
  if bc as then none else
  match C (aq+f) [.an (as.map fun t=>t.fx.al (iL []) fun _=>none),.an []]with
  |some (.an [r,.an outs])=>
   if outs.length=2*ad.length∧ad.all (fun s=>s%2==0&&dF σ.boxes s&&dF σ.boxes (s+1)&&σ.ay s&&σ.ay (s+1))∧ad.Nodup then
    some (r.al (dw [] ad) (fy d),{σ.strip (2*d)with boxes:=ey (dw [] ad) (fy d) (outs.map er) 0 (σ.strip (2*d)).boxes})
   else none
  |_=>none
 eo (C:FuncId→List T→Option T) (σ:St) (d:Nat) (ad:List Nat) (f:FuncId) (as:List T):Option (T×St):=
  let ss:=reach σ.boxes 10000 [] (eh as)
  let fs:=ss.flatMap fun s=>gQ ((aj σ.boxes s).getD [])
  match C (aq+f) [.an (as.map fun t=>t.fx.al (iL ss) fun _=>none),
    .an ((List.range (2*ss.length)).map fun l=>zQ (((fw ss l).bind (aj σ.boxes)).map (ai (iL ss) (rv fs))))]with
  |some (.an [r,.an outs])=>
   if outs.length=2*(ss.length+ad.length)∧ad.all (fun s=>s%2==0&&dF σ.boxes s&&dF σ.boxes (s+1)&& !ss.contains s&& !ss.contains (s+1))∧ad.Nodup∧ss.Nodup∧ss.all (fun s=>(aj σ.boxes s).isSome)then
    some (r.al (dw ss ad) (fy d),⟨ai (iR ss outs) (gg d fs) σ.rs,ai (iR ss outs) (gg d fs) σ.vars,
     ey (dw ss ad) (fy d) (outs.map er) 0 (σ.boxes.map (Option.map (ai (iR ss outs) (gg d fs))))⟩)
   else none
  |_=>none
def T.bD:T:= .v Go.undef
def bR(rs:List T):Option (Nat×Bool)→Option Bool
 |none=>some true
 |some (j,want)=>match rs[j]? with
  |some (.v (.bool b))=>some (b==want)
  |some (.v (.tuple _))=>some false
  |_=>none
def eQ(C:FuncId→List T→Option T):St→List (Option (Nat×Bool)×IOp)→Option St
 |σ,[]=>some σ
 |σ,(g,o)::rest=>(bR σ.rs g).bind fun go=>
  if go then(ae C σ o).bind fun p=>eQ C {p.2 with rs:=p.2.rs++[p.1]} rest
  else eQ C {σ with rs:=σ.rs++[T.bD]} rest
def fz(rs:List T)(vars:List T)(outs:List (Option Nat)):List T:=
 List.zipWith (fun t o=>match o with|some j=>rs.getD j .undef|none=>t) vars outs
def vK(C:FuncId→List T→Option T)(σ:St)(r:Ro):Option St:=do
 let σ'←eQ C {σ with rs:=[]} r.ops
 some ⟨[],fz σ'.rs σ'.vars r.outs,σ'.boxes⟩
inductive Out where
 |norm (σ:St)|exit (id:Nat) (σ:St)|ret (σ:St)
 deriving Inhabited
def o7(f:St→Option Out):Nat→St→Option Out
 |0,_=>none
 |n+1,σ=>match f σ with
  |some (.norm σ')=>o7 f n σ'
  |o=>o
def cD:Nat:=1000000
def sk(f:St→Option Out)(id:Nat):Nat→St→Option Out
 |0,_=>none
 |n+1,σ=>match f σ with
  |some (.exit j σ')=>if j=id then sk f id n σ' else if j< cD then some (.exit j σ')else none
  |o=>o
def ef:List Nat→List T→List T
 | [],vars=>vars
 |v::vs,vars=>ef vs (vars.set v .undef)
def cB:List Nat→St→Option St
 | [],σ=>some σ
 |s::ss,σ=>if σ.ay s then cB ss {σ with boxes:=σ.boxes.set s none}else none
def iS(ss:List Nat)(bx:List (Option (List T))):List (Option (List T)):=
 (List.range bx.length).map fun s=>if ss.contains s then(aj bx s).map (ai (fun s=>if ss.contains s then some s else none) fun _=>none)else none
def xr(ss:List Nat)(bx:List (Option (List T))):List (Option (List T)):=
 (List.range bx.length).map fun s=>if ss.contains s then none else(aj bx s).map (ai (fun s=>if ss.contains s then none else some s) some)
def o8(ss:List Nat)(Tq bx:List (Option (List T))):List (Option (List T)):=
 (List.range bx.length).map fun s=>if ss.contains s then aj Tq s else aj bx s
def scal:T→Bool
 | .v _=>true
 | .agg ts=>ts.all T.Ay
 |_=>false
def y8(ys:List T):Bool:=ys.all fun y=>match y with
 | .an ts=>ts.all scal
 |_=>false
def cV:List Nat→List T→List T→List T
 |p::ps,t::ts,vars=>cV ps ts (vars.set p t)
 |_,_,vars=>vars
def dS(K:Nat)(bx:List (Option (List T))):List (Option (List T)):=List.replicate K none++bx.map (Option.map (ai (fun s=>some (s+K)) some))
def bK(K:Nat)(bx:List (Option (List T))):List (Option (List T)):=(bx.drop K).map (Option.map (ai (fun s=>if K≤s then some (s-K)else none) some))
def fH(bx:List (Option (List T)))(vars:List T):List T:=ai (fun s=>if(aj bx s).isSome then some s else none) (fun _=>none) vars
def lY(run:St→Option Out)(K:Nat)(ps:List Nat):List T→List T→List (Option (List T))→Option St
 | [],vars,bx=>some ⟨[],vars,bx⟩
 | .an y::ys,vars,bx=>if y.length=ps.length then
   match run ⟨[],cV ps y (ai (fun s=>some (s+K)) (fun _=>none) vars),dS K bx⟩with
   |some (.norm σ)=>lY run K ps ys (fH (bK K σ.boxes) vars) (bK K σ.boxes)
   |_=>none
  else none
 |_::_,_,_=>none
def exec(C:FuncId→List T→Option T)(N:Nat):IC→St→Option Out
 | .skip,σ=>some (.norm σ)
 | .Az r,σ=>(vK C σ r).map .norm
 | .seq a b,σ=>match exec C N a σ with
  |some (.norm σ')=>exec C N b σ'
  |o=>o
 | .cond c a b,σ=>match c.get σ with
  | .v (.bool t)=>if t then exec C N a σ else exec C N b σ
  |_=>none
 | .block id a,σ=>match exec C N a σ with
  |some (.exit j σ')=>if j=id then some (.norm σ')else some (.exit j σ')
  |o=>o
 | .loop a,σ=>o7 (exec C N a) N σ
 | .kz a,σ=>match exec C N a σ with
  |some (.exit j σ')=>if j< cD then some (.exit j σ')else none
  |o=>o
 | .jumps id a b,σ=>match exec C N a σ with
  |some (.exit j σ')=>if j=id then sk (exec C N b) id N σ' else if j< cD then some (.exit j σ')else none
  |o=>o
 | .range K g ps a b,σ=>match eC (g.get σ)with
  |some (f,[],caps)=>
   let ss:=reach σ.boxes 10000 [] (eh caps)
   ((ai (fun s=>if ss.contains s then some s else none) (fun _=>none) caps).mapM (close (iS ss σ.boxes) 8)).bind fun cs=>
   match C (aq+f) [.an cs]with
   |some (.an ys)=>
    (lY (fun σ=>match exec C N a σ with
     |some (.norm az)=>exec C N b az
     |_=>none) K ps ys (ai (fun s=>if ss.contains s then none else some s) (fun _=>none) σ.vars) (xr ss σ.boxes)).map fun σ'=>
     .norm (if y8 ys&&ss.all (fun s=>dF σ'.boxes s)then {σ' with boxes:=o8 ss (iS ss σ.boxes) σ'.boxes}else σ')
   |_=>none
  |_=>none
 | .exit id,σ=>some (.exit id σ)
 | .ret,σ=>some (.ret σ)
 | .kill vs,σ=>some (.norm {σ with vars:=ef vs σ.vars})
 | .free ss,σ=>(cB ss σ).map .norm
def vq(σ:St):zP→Option T
 | .var i=>σ.vars[i]?
 | .cell i isAgg n=>match σ.vars[i]? with
  |some (.ref s off)=>match σ.boxes[s]? with
   |some (some cs)=>one? isAgg n cs off
   |_=>none
  |_=>none
def AD(i:Nat):CM→T→T
 | .raw,t=>t
 | .any,t=>t.cH
 | .own e,.sl .nil 0 []=> .sl (.own (8*(j1+j1+i)) e) 0 []
 | .own _,t=>t
 | .box s,.sl .nil 0 []=> .av s 0 0 0
 | .box _,t=>t
def gh:Nat→List CM→List T→List T
 |i,c::cs,t::ts=>AD i c t::gh (i+1) cs ts
 |_,_,ts=>ts
def c9(σ:St)(rs:List zP)(canon:List CM):Option T:=do
 let ts←rs.mapM (vq σ)
 match gh 0 canon ts with
 | [t]=>some t
 |ts=>some (.an ts)
def j2(bx:List (Option (List T)))(t:T):Option T:=
 if t.aV then close bx 8 t else if t.fa.Nodup then some (t.al (fun _=>none) (t.fa.idxOf? ·))else none
def sm(C:FuncId→List T→Option T)(N:Nat)(fn:aD)(args:List T):Option T:=
 if args.length=fn.nparams then
  match exec C N fn.body ⟨[],args++List.replicate (fn.jZ-fn.nparams) .undef,List.replicate (2*fn.ez) none⟩with
  |some (.norm σ)|some (.ret σ)=>(c9 σ fn.results fn.canon).bind (j2 σ.boxes)
  |_=>none
 else none
def fb(nb K:Nat)(own:List Nat)(s:Nat):Option Nat:=if s< nb then(own.idxOf? s).map (fun i=>2*(K+i)+s%2)else if s< nb+2*K then some (s-nb)else none
def me(nb K:Nat)(own:List Nat)(l:Nat):Option Nat:=
 (if l< 2*K then some (l+nb)else fw own (l-2*K)).bind fun s=>if fb nb K own s=some l then some s else none
def nT(nb K:Nat)(own fs:List Nat)(bx:List (Option (List T)))(t:T):T:=
 .an [t.al (fb nb K own) (fs.idxOf? ·),.an ((List.range (2*(K+own.length))).map fun l=>
  zQ ((me nb K own l).bind fun s=>if s< nb then some (ai (fb nb K own) (fs.idxOf? ·) ((aj bx s).getD []))else(aj bx s).map (ai (fb nb K own) (fs.idxOf? ·))))]
def vr(nb K:Nat):List Nat:=(List.range (2*K)).map (· +nb)
def tJ(nb K:Nat)(bx:List (Option (List T)))(t:T):List Nat:=
 (reach bx 10000 [] (t.refs++(vr nb K).flatMap fun s=>eh ((aj bx s).getD []))).filter (· < nb)
def fJ(nb K:Nat)(bx:List (Option (List T)))(t:T):T:=
 nT nb K (tJ nb K bx t) (t.fa++(vr nb K++tJ nb K bx t).flatMap fun s=>gQ ((aj bx s).getD [])) bx t
def na(C:FuncId→List T→Option T)(N:Nat)(fn:aD)(args:List T)(ins:List (Option (List T))):Option T:=
 let nb:=2*fn.ez
 if args.length=fn.nparams∧ins.length%2=0 then
  match exec C N fn.body ⟨[],(args.map (T.al (fun l=>some (l+nb)) some))++List.replicate (fn.jZ-fn.nparams) .undef,
    List.replicate nb none++ins.map (Option.map (ai (fun l=>some (l+nb)) some))⟩with
  |some (.norm σ)|some (.ret σ)=>(c9 σ fn.results fn.canon).map (fJ nb (ins.length / 2) σ.boxes)
  |_=>none
 else none
mutual
def T.same:T→T→Bool
 | .undef,.undef=>true
 | .sl g n [],.sl g' n' []=>decide (g=g')&&n==n'
 | .ref s o,.ref s' o'=>s==s'&&o==o'
 | .av s o n c,.av s' o' n' c'=>s==s'&&o==o'&&n==n'&&c==c'
 | .aQ s,.aQ s'=>s==s'
 | .agg ts,.agg us=>BH ts us
 | .an ts,.an us=>BH ts us
 |_,_=>false
def BH:List T→List T→Bool
 | [],[]=>true
 |t::ts,u::us=>t.same u&&BH ts us
 |_,_=>false
end
def splits:List T→List (List T)
 | []=>[[]]
 | .sl .any 0 []::ts=>(splits ts).map (.sl .nil 0 []::·)++(splits ts).map (.sl .lP 0 []::·)
 |t::ts=>(splits ts).map (t::·)
def iT(split:Bool)(args:List T)(f:List T→Option T):Option T:=
 if split then match(splits args).mapM f with
  |some (r::rs)=>if rs.all (T.same r)then some r else none
  |_=>none
 else f args
def fc:T→Bool
 | .v (.func (.yield _) _ _)=>true
 |_=>false
def yT(l:Nat):T:= .v (.func (.yield l) #[] #[])
def mf(C:FuncId→List T→Option T)(σ:St)(o:IOp):Option (T×St×List (List T)):=
 if o.reads.all fun x=> !fc (x.get σ)then(ae C σ o).bind fun p=>if fc p.1 then none else some (p.1,p.2,[])else none
def AE(l:Nat)(σ:St)(t:T)(ts:List T):Option (T×St×List (List T)):=
 match t with
 | .v (.func (.yield l') a b)=>if l'=l∧a.size=0∧b.size=0∧ts.all scal=true∧ts.all (fun t=> !fc t)=true then some (T.bool true,σ,[ts])else none
 |_=>none
def ry(C:FuncId→List T→Option T)(l:Nat)(σ:St):IOp→Option (T×St×List (List T))
 | .callv d f as=>if fc (f.get σ)then(match f with| .c _=>none|_=>AE l σ (f.get σ) (as.map (ag.get σ)))else mf C σ (.callv d f as)
 | .mv (.c t)=>if fc t then none else some (t,σ,[])
 | .mv a=>some (a.get σ,σ,[])
 |o=>mf C σ o
def mO(C:FuncId→List T→Option T)(l:Nat):St→List (Option (Nat×Bool)×IOp)→Option (St×List (List T))
 |σ,[]=>some (σ,[])
 |σ,(g,o)::rest=>(bR σ.rs g).bind fun go=>
  if go then(ry C l σ o).bind fun p=>(mO C l {p.2.1 with rs:=p.2.1.rs++[p.1]} rest).map fun q=>(q.1,p.2.2++q.2)
  else mO C l {σ with rs:=σ.rs++[T.bD]} rest
def j3(f:St→Option (Out×List (List T))):Nat→St→Option (Out×List (List T))
 |0,_=>none
 |n+1,σ=>match f σ with
  |some (.norm σ',ys)=>(j3 f n σ').map fun q=>(q.1,ys++q.2)
  |o=>o
def aS(C:FuncId→List T→Option T)(l N:Nat):IC→St→Option (Out×List (List T))
 | .skip,σ=>some (.norm σ,[])
 | .Az r,σ=>(mO C l {σ with rs:=[]} r.ops).bind fun q=>if r.draw=true∧q.2.isEmpty=false then none else some (.norm ⟨[],fz q.1.rs q.1.vars r.outs,q.1.boxes⟩,q.2)
 | .seq a b,σ=>match aS C l N a σ with
  |some (.norm σ',ys)=>(aS C l N b σ').map fun q=>(q.1,ys++q.2)
  |o=>o
 | .cond c a b,σ=>match c.get σ with
  | .v (.bool t)=>if t then aS C l N a σ else aS C l N b σ
  |_=>none
 | .block id a,σ=>match aS C l N a σ with
  |some (.exit j σ',ys)=>if j=id then some (.norm σ',ys)else some (.exit j σ',ys)
  |o=>o
 | .loop a,σ=>j3 (aS C l N a) N σ
 | .kz a,σ=>match aS C l N a σ with
  |some (.exit j σ',ys)=>if j< cD then some (.exit j σ',ys)else none
  |o=>o
 | .exit id,σ=>some (.exit id σ,[])
 | .ret,σ=>some (.ret σ,[])
 | .kill vs,σ=>some (.norm {σ with vars:=ef vs σ.vars},[])
 | .free ss,σ=>(cB ss σ).map fun σ'=>(.norm σ',[])
 |_,_=>none
def rz(C:FuncId→List T→Option T)(N l:Nat)(fn:aD)(caps:List T):Option (List (List T)):=
 if caps.length+1=fn.nparams∧caps.all (fun t=> !fc t)=true∧fn.results.isEmpty=true then
  match aS C l N fn.body ⟨[],yT l::caps++List.replicate (fn.jZ-fn.nparams) .undef,List.replicate (2*fn.ez) none⟩with
  |some (.norm _,ys)|some (.ret _,ys)=>some ys
  |_=>none
 else none
structure Env where
 fn:FuncId→Option aD
 kJ:FuncId→Option (List T→Option T)
def aW(E:Env):Nat→FuncId→List T→Option T
 |0,_,_=>none
 |n+1,f,args=>match E.kJ f with
  |some g=>g args
  |none=>if f< aq then(match E.fn f with
    |some fn=>iT fn.split args (sm (aW E n) n fn)
    |none=>none)
   else(match E.fn (f-aq),args with
    |some fn,[.an as,.an ins]=>iT fn.split as fun as=>na (aW E n) n fn as (ins.map er)
    |some fn,[.an caps]=>(rz (aW E n) n 0 fn caps).map fun ys=> .an (ys.map .an)
    |_,_=>none)
end Go.Vi
end
section
set_option maxRecDepth 100000
namespace Go.Vi.Zz
open Go Go.Vi
abbrev mx(i:Nat):Option (Nat×Bool)×IOp:=(none,.mv (.x i))
abbrev mr(i:Nat):Option (Nat×Bool)×IOp:=(none,.mv (.r i))
abbrev mi(i:Int):Option (Nat×Bool)×IOp:=(none,.mv (.c (T.v (.int .i64 i))))
abbrev ci(i:Int):ag:= .c (T.v (.int .i64 i))
abbrev nn:Option Nat:=none
@[simp] def ov:Nat→Nat→List Nat→List (Option Nat)
 |0,_,_=>[]
 |n+1,i,j::v::l=>if i=j then some v::ov n (i+1) l else none::ov n (i+1) (j::v::l)
 |n+1,i,l=>none::ov n (i+1) l
abbrev rg(l:List (Option (Nat×Bool)×IOp))(n:Nat)(o:List Nat):IC:= .Az ⟨l,ov n 0 o,false⟩
abbrev rd(l:List (Option (Nat×Bool)×IOp))(n:Nat)(o:List Nat):IC:= .Az ⟨l,ov n 0 o,true⟩
def uS:Nat:=3
def zR:Nat:=6
def fT:Nat:=7
def gz:Nat:=8
def qD:Nat:=9
def nU:Nat:=10
def pq:Nat:=11
def cY:Nat:=12
def lZ:Nat:=13
def tK:Nat:=14
def iU:Nat:=15
def qE:Nat:=16
def lh:Nat:=17
def jz:Nat:=18
def pr:Nat:=19
def pv:Nat:=20
def FR:Nat:=21
def Ml:Nat:=22
def FT:Nat:=23
def jL:Nat:=24
def je:Nat:=25
def x8:Nat:=26
def wG:Nat:=27
def fE:Nat:=28
def jA:Nat:=29
def l3:Nat:=30
def zS:Nat:=31
def aP:Nat:=32
def ox:Nat:=33
def kA:Nat:=34
def rA:Nat:=35
def bM:Nat:=36
def gi:Nat:=37
def gj:Nat:=38
def x9:Nat:=39
def j4:Nat:=40
def zT:Nat:=41
def sT:Nat:=42
def MU:Nat:=43
def Qz:Nat:=44
def lF:Nat:=45
def oY:Nat:=46
def Mm:Nat:=47
def CE:Nat:=48
def kg:Nat:=49
def ki:Nat:=50
def fe:Nat:=51
def sn:Nat:=52
def lj:Nat:=53
def vu:Nat:=54
def wJ:Nat:=55
def rB:Nat:=56
def ff:Nat:=57
def fU:Nat:=58
def gH:Nat:=59
def so:Nat:=60
def cZ:Nat:=61
def ab:Nat:=62
def sq:Nat:=63
def u7:Nat:=64
def jq:Nat:=65
def BI:Nat:=66
def oy:Nat:=67
def nV:Nat:=68
def gv:Nat:=69
def ta:Nat:=70
def zU:Nat:=71
def tL:Nat:=72
def mg:Nat:=73
def ya:Nat:=74
def Du:Nat:=75
def yb:Nat:=76
def cW:Nat:=77
def bP:Nat:=78
def Mn:Nat:=79
def mh:Nat:=80
def Mo:Nat:=81
def lk:Nat:=82
def mj:Nat:=83
def pw:Nat:=84
def wM:Nat:=85
def jM:Nat:=86
def iV:Nat:=87
def sr:Nat:=88
def gR:Nat:=89
def dQ:Nat:=90
def oz:Nat:=91
def fK:Nat:=92
def cu:Nat:=93
def BJ:Nat:=94
def gI:Nat:=95
def jN:Nat:=96
def dn:Nat:=97
def su:Nat:=100
def sw:Nat:=101
def zV:Nat:=102
def tM:Nat:=103
def pz:Nat:=104
def zW:Nat:=105
def dU:Nat:=106
def CF:Nat:=107
def Mq:Nat:=108
def kj:Nat:=109
def QA:Nat:=110
def zX:Nat:=111
def zY:Nat:=112
def zZ:Nat:=113
def KD:Nat:=114
def pA:Nat:=115
def yc:Nat:=116
def wN:Nat:=117
def kW:Nat:=118
def ll:Nat:=119
def fV:Nat:=131
def iP:Nat:=132
def u9:Nat:=133
def oA:Nat:=134
def wO:Nat:=135
def cR:Nat:=136
def MV:Nat:=137
def Mr:Nat:=138
def vv:Nat:=139
def BK:Nat:=140
def gS:Nat:=141
def z6:Nat:=142
def pB:Nat:=143
def vw:Nat:=144
def wP:Nat:=145
def tN:Nat:=152
def sx:Nat:=153
def Ms:Nat:=154
def xt:Nat:=155
def oZ:Nat:=156
def ij:Nat:=157
def wS:Nat:=158
def va:Nat:=160
def jm:Nat:=161
@[simp] theorem BL:uS< aq:=by decide
@[simp] theorem afl:zR< aq:=by decide
@[simp] theorem adm:fT< aq:=by decide
@[simp] theorem aaz:gz< aq:=by decide
@[simp] theorem acy:qD< aq:=by decide
@[simp] theorem Rp:nU< aq:=by decide
@[simp] theorem VC:pq< aq:=by decide
@[simp] theorem adn:cY< aq:=by decide
@[simp] theorem ado:lZ< aq:=by decide
@[simp] theorem ae3:tK< aq:=by decide
@[simp] theorem aaA:iU< aq:=by decide
@[simp] theorem acz:qE< aq:=by decide
@[simp] theorem ae4:lh< aq:=by decide
@[simp] theorem Qx:jz< aq:=by decide
@[simp] theorem JB:jL< aq:=by decide
@[simp] theorem adp:je< aq:=by decide
@[simp] theorem QB:fE< aq:=by decide
@[simp] theorem afm:jA< aq:=by decide
@[simp] theorem adq:l3< aq:=by decide
@[simp] theorem afn:zS< aq:=by decide
@[simp] theorem Rq:aP< aq:=by decide
@[simp] theorem adr:ox< aq:=by decide
@[simp] theorem afo:rA< aq:=by decide
@[simp] theorem QC:bM< aq:=by decide
@[simp] theorem MW:gi< aq:=by decide
@[simp] theorem MX:gj< aq:=by decide
@[simp] theorem ae5:x9< aq:=by decide
@[simp] theorem aaB:j4< aq:=by decide
@[simp] theorem afp:zT< aq:=by decide
@[simp] theorem aax:sT< aq:=by decide
@[simp] theorem Tr:lF< aq:=by decide
@[simp] theorem ads:kg< aq:=by decide
@[simp] theorem adt:ki< aq:=by decide
@[simp] theorem ae6:fe< aq:=by decide
@[simp] theorem Mz:lj< aq:=by decide
@[simp] theorem afq:rB< aq:=by decide
@[simp] theorem ae7:ff< aq:=by decide
@[simp] theorem afr:fU< aq:=by decide
@[simp] theorem afs:gH< aq:=by decide
@[simp] theorem adu:so< aq:=by decide
@[simp] theorem adv:cZ< aq:=by decide
@[simp] theorem QD:ab< aq:=by decide
@[simp] theorem adw:sq< aq:=by decide
@[simp] theorem aay:jq< aq:=by decide
@[simp] theorem ahz:BI< aq:=by decide
@[simp] theorem adx:oy< aq:=by decide
@[simp] theorem Rr:nV< aq:=by decide
@[simp] theorem aft:zU< aq:=by decide
@[simp] theorem aaC:tL< aq:=by decide
@[simp] theorem aaD:mg< aq:=by decide
@[simp] theorem ae8:ya< aq:=by decide
@[simp] theorem ae9:bP< aq:=by decide
@[simp] theorem afa:lk< aq:=by decide
@[simp] theorem aaE:mj< aq:=by decide
@[simp] theorem aie:pw< aq:=by decide
@[simp] theorem ady:wM< aq:=by decide
@[simp] theorem aif:jM< aq:=by decide
@[simp] theorem ahA:iV< aq:=by decide
@[simp] theorem adz:sr< aq:=by decide
@[simp] theorem adA:gR< aq:=by decide
@[simp] theorem adB:dQ< aq:=by decide
@[simp] theorem adC:oz< aq:=by decide
@[simp] theorem VD:fK< aq:=by decide
@[simp] theorem ahB:BJ< aq:=by decide
@[simp] theorem afu:gI< aq:=by decide
@[simp] theorem JC:jN< aq:=by decide
@[simp] theorem Qy:dn< aq:=by decide
@[simp] theorem adD:su< aq:=by decide
@[simp] theorem adE:sw< aq:=by decide
@[simp] theorem afv:zV< aq:=by decide
@[simp] theorem afb:tM< aq:=by decide
@[simp] theorem afw:zW< aq:=by decide
@[simp] theorem ahC:dU< aq:=by decide
@[simp] theorem afx:zX< aq:=by decide
@[simp] theorem afy:zY< aq:=by decide
@[simp] theorem afz:zZ< aq:=by decide
@[simp] theorem akn:pA< aq:=by decide
@[simp] theorem afc:yc< aq:=by decide
@[simp] theorem adF:wN< aq:=by decide
@[simp] theorem afA:kW< aq:=by decide
@[simp] theorem MA:ll< aq:=by decide
@[simp] theorem adG:fV< aq:=by decide
@[simp] theorem afB:iP< aq:=by decide
@[simp] theorem acA:u9< aq:=by decide
@[simp] theorem adH:oA< aq:=by decide
@[simp] theorem adI:wO< aq:=by decide
@[simp] theorem afd:cR< aq:=by decide
@[simp] theorem afC:vv< aq:=by decide
@[simp] theorem ahD:BK< aq:=by decide
@[simp] theorem adJ:gS< aq:=by decide
@[simp] theorem afD:z6< aq:=by decide
@[simp] theorem afe:pB< aq:=by decide
@[simp] theorem afE:vw< aq:=by decide
@[simp] theorem adK:wP< aq:=by decide
@[simp] theorem aff:tN< aq:=by decide
@[simp] theorem adL:sx< aq:=by decide
@[simp] theorem ahE:xt< aq:=by decide
@[simp] theorem Ts:oZ< aq:=by decide
@[simp] theorem adM:wS< aq:=by decide
@[simp] theorem acB:va< aq:=by decide
@[simp] theorem Tt:jm< aq:=by decide
abbrev qa:T:=T.v (.int .i64 0)
abbrev qb:Option (Nat×Bool)×IOp:=(none,.mv (.c (T.v (.bool false))))
abbrev qc(n0:Nat)(n1:Nat):IOp:= .load false n0 (.r n1)
abbrev qd(n0:Nat)(n1:Nat):Option (Nat×Bool)×IOp:=(none,.pick (.r n0) (.c (T.v (.bool true))) (.r n1))
abbrev qe(n0:Nat)(n1:Nat):Option (Nat×Bool)×IOp:=(none,.faddr n0 (.x n1))
abbrev qf(n0:Nat)(n1:Nat):Option (Nat×Bool)×IOp:=(none,.pick (.r n0) (.r n1) (.c (T.v (.bool false))))
abbrev qg:Option (Nat×Bool)×IOp:=(none,.mv (.c (T.sl .nil 0 [])))
abbrev qh(n0:Nat)(n1:Nat):Option (Nat×Bool)×IOp:=(none,.load true n0 (.x n1))
abbrev qi(n0:Nat)(n1:Nat):Option (Nat×Bool)×IOp:=(none,.extract (.r n0) n1)
abbrev qj(n0:Nat)(n1:Nat)(n2:Nat)(n3:Nat):IC:= .cond (.x n0) (.seq (rg [qb] n1 [n2,n3]) .ret) .skip
abbrev qk(n0:Nat)(n1:Nat):Option (Nat×Bool)×IOp:=(some (n0,false),.mv (.x n1))
abbrev ql(n0:Nat)(n1:Nat)(n2:Nat):Option (Nat×Bool)×IOp:=(none,.store n0 (.r n1) (.r n2))
abbrev qm(n0:Nat)(n1:Nat):IC:= .cond (.x n0) .skip (.exit n1)
abbrev qn(n0:Nat):Option (Nat×Bool)×IOp:=(none,.len false (.r n0))
abbrev qo:T:=T.sl .nil 0 []
abbrev qp:T:=T.v (.string ⟨#[]⟩)
abbrev qq:Option (Nat×Bool)×IOp:=(none,.mv (.c (T.v (.bool true))))
abbrev qr:Option (Nat×Bool)×IOp:=(none,.bin .add 3 (.r 0) (ci 1))
abbrev qs(n0:Nat)(n1:Nat)(n2:Nat):Option (Nat×Bool)×IOp:=(some (n0,false),.faddr n1 (.x n2))
abbrev qt:T:=T.v (.int .u8 0)
abbrev qu(n0:Nat)(n1:Nat):Option (Nat×Bool)×IOp:=(some (n0,true),.mv (.x n1))
abbrev qv(n0:Nat)(n1:Nat):Option (Nat×Bool)×IOp:=(none,qc n0 n1)
abbrev qw(n0:Nat)(n1:Nat)(n2:Nat):Option (Nat×Bool)×IOp:=(none,.call n0 n1 [.r n2])
abbrev qx:Option (Nat×Bool)×IOp:=(none,.box 0 (.x 0))
abbrev qy(n0:Nat)(n1:Nat)(n2:Nat):Option (Nat×Bool)×IOp:=(none,.iaddrS n0 (.r n1) (.r n2))
abbrev qz(n0:Nat)(n1:Nat)(n2:Nat):Option (Nat×Bool)×IOp:=(some (n0,true),.faddr n1 (.x n2))
abbrev VE(n0:Nat):IOp:= .un .not (.r n0)
abbrev dH(n0:Nat)(n1:Nat)(n2:Nat):Option (Nat×Bool)×IOp:=(some (n0,false),qc n1 n2)
abbrev o9(n0:Nat)(n1:Nat)(n2:Int)(n3:Nat)(n4:Nat)(n5:Nat)(n6:Nat):IC:=rg [(none,.bin .add n0 (.x n1) (ci n2)),mr n3] n4 [n5,n6]
abbrev j5(n0:Nat)(n1:Nat)(n2:Nat)(n3:Nat)(n4:Nat)(n5:Nat)(n6:Nat):Option (Nat×Bool)×IOp:=(none,.append n0 n1 n2 n3 [qt] n4 (.r n5) (.r n6))
abbrev iM(n0:Nat)(n1:Nat)(n2:Nat):Option (Nat×Bool)×IOp:=(none,.store n0 (.x n1) (.r n2))
abbrev iN(n0:Nat)(n1:Nat):Option (Nat×Bool)×IOp:=(none,.load true n0 (.r n1))
abbrev uT(n0:Nat)(n1:Nat)(n2:Int):IOp:= .bin .lss n0 (.r n1) (ci n2)
abbrev tO(n0:Nat)(n1:Nat)(n2:Int):IOp:= .bin .eql n0 (.r n1) (ci n2)
abbrev xd(n0:Nat)(n1:Nat)(n2:Nat):Option (Nat×Bool)×IOp:=(none,.bin .lss n0 (.r n1) (.r n2))
abbrev lQ(n0:Nat)(n1:Nat)(n2:Int):Option (Nat×Bool)×IOp:=(none,.bin .neq n0 (.r n1) (ci n2))
abbrev gW(n0:Nat)(n1:Nat)(n2:Nat)(n3:Nat)(n4:Nat):IC:=rg [mx n0,qr,mr n1] n2 [n3,n4]
abbrev jf(n0:Nat)(n1:Nat)(n2:Nat)(n3:Nat):Option (Nat×Bool)×IOp:=(none,.call n0 n1 [.r n2,.r n3])
abbrev tP(n0:Nat)(n1:Nat)(n2:Nat)(n3:Nat)(n4:Nat)(n5:Nat):IC:=rg [(none,.bin .lss n0 (.x n1) (.x n2))] n3 [n4,n5]
abbrev nH(n0:Nat)(n1:Nat)(n2:Nat):Option (Nat×Bool)×IOp:=(none,.bin .add n0 (.r n1) (.r n2))
abbrev gJ(n0:Nat)(n1:Nat)(n2:Nat):Option (Nat×Bool)×IOp:=(some (n0,true),qc n1 n2)
abbrev ml(n0:Nat)(n1:Nat):Option (Nat×Bool)×IOp:=(none,.load false n0 (.x n1))
abbrev kB(n0:Nat)(n1:Nat):Option (Nat×Bool)×IOp:=(some (n0,false),VE n1)
abbrev dV(n0:Int)(n1:Nat)(n2:Nat)(n3:Nat):IC:=rg [mi n0] n1 [n2,n3]
abbrev td(n0:Nat)(n1:Int)(n2:Nat):Option (Nat×Bool)×IOp:=(none,.bin .mul n0 (ci n1) (.r n2))
abbrev eD:IC:= .free []
abbrev xe(n0:Nat)(n1:Nat)(n2:Nat):Option (Nat×Bool)×IOp:=(some (n0,false),.load true n1 (.x n2))
abbrev rC(n0:Nat):Option (Nat×Bool)×IOp:=(none,.toInt .i64 (.r n0))
abbrev rD(n0:Nat)(n1:Nat)(n2:Nat)(n3:Int):IOp:= .call n0 n1 [.r n2,ci n3]
abbrev qax:IC:= .seq (rg [qb] 3 [2,0]) (.seq (rg [mx 0,(none,.bin .geq 3 (.r 0) (ci 0)),mr 1,qu 2 0,qu 2 1,(some (2,true),.bin .leq 3 (.r 3) (.r 4)),qf 2 5,mr 6] 3 [2,7]) .ret)
abbrev AF(n0:Nat)(n1:Nat)(n2:Nat)(n3:Int):Option (Nat×Bool)×IOp:=(some (n0,false),.bin .gtr n1 (.r n2) (ci n3))
abbrev cK:Option (Nat×Bool)×IOp:=qv 1 0
abbrev tQ(n0:Nat)(n1:Nat)(n2:Nat):IC:= .seq (rg [qq] n0 [n1,n2]) .ret
abbrev FU(n0:Nat)(n1:Nat)(n2:Nat)(n3:Nat):IC:= .cond (.x n0) (.seq (rg [qg] n1 [n2,n3]) .ret) .skip
abbrev Rs:Option (Nat×Bool)×IOp:=(none,.build [qa,qa,qa,qa,qo,qo,qa,qa,qp,qa,qa,qa,qa] [])
abbrev yd(n0:Nat)(n1:Nat)(n2:Nat)(n3:Nat)(n4:Nat):IC:= .seq (rg [mx n0,mr n1] n2 [n3,n4]) .ret
abbrev y9(n0:Nat)(n1:Nat):Option (Nat×Bool)×IOp:=(some (n0,true),.len false (.r n1))
abbrev vL(n0:Nat)(n1:Nat)(n2:Nat)(n3:Int)(n4:Nat)(n5:Nat)(n6:Nat):IC:=rg [mx n0,(none,uT n1 n2 n3)] n4 [n5,n6]
abbrev AG(n0:Nat)(n1:Nat):Option (Nat×Bool)×IOp:=(some (n0,false),.len false (.r n1))
abbrev eO(n0:Nat):Option (Nat×Bool)×IOp:=(none,VE n0)
abbrev Rt(n0:Nat):Option (Nat×Bool)×IOp:=(none,.alloc n0 [qa,qa,qa,qa,qo,qo,qa,qa,qp,qa,qa,qa,qa])
abbrev tR(n0:Nat)(n1:Nat)(n2:Int):IOp:= .bin .sub n0 (.r n1) (ci n2)
abbrev pC(n0:Nat)(n1:Nat):Option (Nat×Bool)×IOp:=(none,.faddr n0 (.r n1))
abbrev uU(n0:Nat):Option (Nat×Bool)×IOp:=(none,.toInt .u8 (.r n0))
abbrev rE(n0:Nat)(n1:Nat)(n2:Int):IOp:= .iaddrS n0 (.r n1) (ci n2)
abbrev qbn(n0:Nat)(n1:Nat)(n2:Nat)(n3:Nat)(n4:Nat)(n5:Nat)(n6:Nat):IC:= .cond (.x n0) (.seq (rg [(none,.build [qa,qa,qp,qa,qa,qa,qa] []),iM n1 n2 n3,qb] n4 [n5,n6]) .ret) .skip
abbrev qbo(n0:Int):T:=T.v (.int .u8 n0)
abbrev FV(n0:Nat)(n1:Nat)(n2:Nat)(n3:Nat):Option (Nat×Bool)×IOp:=(some (n0,false),.bin .gtr n1 (.r n2) (.r n3))
abbrev AH(n0:Nat)(n1:Nat)(n2:Int):Option (Nat×Bool)×IOp:=(none,.bin .add n0 (.r n1) (ci n2))
abbrev VF(n0:Nat)(n1:Nat)(n2:Nat)(n3:Nat)(n4:Nat)(n5:Nat):IC:= .cond (.x n0) (.seq (rg [(none,.mv (.c qp)),qb] n1 [n2,n3,n4,n5]) .ret) .skip
abbrev za(n0:Nat)(n1:Nat)(n2:Nat)(n3:Int):Option (Nat×Bool)×IOp:=(none,.iaddrA n0 n1 (.x n2) (ci n3))
abbrev VG(n0:Nat)(n1:Nat)(n2:Nat):IC:= .seq (rg [(none,.mv (.c (T.v (.int .i64 (-1)))))] n0 [n1,n2]) .ret
abbrev AI(n0:Nat)(n1:Nat)(n2:Nat):IOp:= .bin .neq n0 (.r n1) (.r n2)
abbrev CG(n0:Nat)(n1:Int)(n2:Nat):Option (Nat×Bool)×IOp:=(none,.bin .add n0 (ci n1) (.r n2))
abbrev Dv(n0:Nat)(n1:Nat)(n2:Nat)(n3:Nat)(n4:Nat):Option (Nat×Bool)×IOp:=(some (n0,false),.call n1 n2 [.r n3,.r n4])
abbrev AJ(n0:Nat)(n1:Nat)(n2:Nat):Option (Nat×Bool)×IOp:=(none,.iaddrS n0 (.x n1) (.x n2))
abbrev AK(n0:Nat)(n1:Nat)(n2:Nat)(n3:Int)(n4:Int):Option (Nat×Bool)×IOp:=(none,.call n0 n1 [.r n2,ci n3,ci n4])
abbrev gA:Option (Nat×Bool)×IOp:=qv 1 1
abbrev mW(n0:Nat)(n1:Nat)(n2:Nat):IC:=rg [qb] n0 [n1,n2]
abbrev AL(n0:Nat)(n1:Nat)(n2:Nat):IOp:= .bin .eql n0 (.r n1) (.r n2)
abbrev MZ(n0:Nat)(n1:Nat)(n2:Nat)(n3:Nat)(n4:Nat)(n5:Nat)(n6:Nat):Option (Nat×Bool)×IOp:=(none,.append n0 n1 n2 n3 [qa,qa,qa,qa] n4 (.r n5) (.r n6))
abbrev qcd:IC:= .seq (mW 2 1 0) (.seq (rg [mx 0,(none,tO 3 0 1),mr 1,qk 2 0,(some (2,false),tO 3 3 2),qd 2 4,mr 5,qk 6 0,(some (6,false),tO 3 7 4),qd 6 8,mr 9] 2 [1,10]) .ret)
abbrev CH(n0:Nat)(n1:Nat)(n2:Nat)(n3:Nat)(n4:Nat)(n5:Nat):IOp:= .call n0 n1 [.r n2,.r n3,.r n4,.r n5]
abbrev KE(n0:Nat)(n1:Nat)(n2:Nat)(n3:Int):Option (Nat×Bool)×IOp:=(some (n0,true),.bin .neq n1 (.r n2) (ci n3))
abbrev VH(n0:Nat)(n1:Nat)(n2:Nat):Option (Nat×Bool)×IOp:=(some (n0,false),.pick (.r n1) (.r n2) (.c (T.v (.bool false))))
abbrev ye(n0:Nat)(n1:Nat)(n2:Nat)(n3:Nat)(n4:Nat):IC:=rg [qx,qb] n0 [n1,n2,n3,n4]
abbrev CI(n0:Nat)(n1:Nat)(n2:Int):IOp:= .bin .geq n0 (.r n1) (ci n2)
abbrev qcj:IOp:= .eqa false [.int,.int,.int,.int,.int,.int,.int,.int,.int,.int] (.r 0) (.r 1)
abbrev Dw(n0:Nat)(n1:Nat)(n2:Nat)(n3:Nat)(n4:Nat):Option (Nat×Bool)×IOp:=(none,.call n0 n1 [.r n2,.r n3,.r n4])
abbrev Ru(n0:Nat):Option (Nat×Bool)×IOp:=(none,.alloc n0 [qa,qa,qp,qa,qa,qa,qa])
abbrev yf(n0:Nat)(n1:Nat)(n2:Nat)(n3:Nat)(n4:Int):Option (Nat×Bool)×IOp:=(some (n0,false),rD n1 n2 n3 n4)
abbrev zb(n0:Nat):Option (Nat×Bool)×IOp:=(none,.alloc n0 [qo])
abbrev FW(n0:Nat)(n1:Nat)(n2:Nat)(n3:Nat):Option (Nat×Bool)×IOp:=(some (n0,false),.call n1 n2 [.r n3])
abbrev KF:IC:= .kz (.exit 1000000)
abbrev HD(n0:Nat)(n1:Nat)(n2:Nat):Option (Nat×Bool)×IOp:=(some (n0,false),.faddr n1 (.r n2))
abbrev qcr:IC:= .seq (rg [mx 0,qn 0,mx 1,qn 2,(none,AI 3 1 3)] 9 [4,4]) (qj 4 9 2 0)
abbrev VI(n0:Nat)(n1:Nat)(n2:Int)(n3:Nat):Option (Nat×Bool)×IOp:=(none,.sliceT n0 (.r n1) (some (ci n2)) (some (.r n3)) none)
abbrev FX(n0:Nat)(n1:Nat)(n2:Nat)(n3:Nat)(n4:Int):Option (Nat×Bool)×IOp:=(none,.call n0 n1 [.r n2,.r n3,ci n4])
abbrev KG(n0:Nat)(n1:Nat)(n2:Nat)(n3:Nat)(n4:Nat)(n5:Nat)(n6:Nat):Option (Nat×Bool)×IOp:=(none,.bslice n0 n1 n2 n3 [qt] [(n4,(n5,.r n6))])
abbrev qW(n0:Nat)(n1:Nat)(n2:Nat):IC:=rg [qg] n0 [n1,n2]
abbrev zd(n0:Nat):IOp:= .len true (.r n0)
abbrev kX:Option (Nat×Bool)×IOp:=qe 0 1
abbrev aJ:Option (Nat×Bool)×IOp:=mx 0
abbrev KH(n0:Nat):Option (Nat×Bool)×IOp:=(none,.alloc n0 [qa,qa,qp])
abbrev M0(n0:Nat)(n1:Nat)(n2:Nat):Option (Nat×Bool)×IOp:=(some (n0,true),.load true n1 (.r n2))
abbrev HE(n0:Nat)(n1:Nat)(n2:Nat):IOp:= .bin .leq n0 (.r n1) (.r n2)
abbrev M1(n0:Nat)(n1:Nat)(n2:Nat)(n3:Nat)(n4:Nat)(n5:Nat)(n6:Nat):Option (Nat×Bool)×IOp:=(none,.bslice n0 n1 n2 n3 [qa] [(n4,(n5,.r n6))])
abbrev Dx(n0:Int)(n1:Nat)(n2:Nat)(n3:Nat)(n4:Nat)(n5:Nat):IC:=rg [qx,mi n0] n1 [n2,n3,n4,n5]
abbrev qde(n0:Nat)(n1:Int)(n2:Nat)(n3:Nat)(n4:Nat)(n5:Nat)(n6:Nat):IC:= .cond (.x n0) (.seq (rg [qg,mi n1] n2 [n3,n4,n5,n6]) .ret) .skip
abbrev VJ(n0:Nat)(n1:Int)(n2:Nat)(n3:Nat)(n4:Nat):IC:= .cond (.x n0) (.seq (dV n1 n2 n3 n4) .ret) .skip
abbrev Rv:Option (Nat×Bool)×IOp:=(none,.build [qa,qa,qp] [])
abbrev VK(n0:Nat)(n1:Nat)(n2:Nat)(n3:Nat)(n4:Nat)(n5:Nat)(n6:Nat):Option (Nat×Bool)×IOp:=(none,.bslice n0 n1 n2 n3 [qa,qa,qa,qa] [(n4,(n5,.r n6))])
abbrev VL(n0:Nat)(n1:Nat)(n2:Int)(n3:Nat)(n4:Nat)(n5:Nat):IC:=rg [(none,.bin .lss n0 (.x n1) (ci n2))] n3 [n4,n5]
abbrev qdj(n0:Nat)(n1:Nat):IOp:= .eqa false [.int,.int,.str,.int,.int,.int,.int] (.r n0) (.r n1)
abbrev M3(n0:Nat)(n1:Nat)(n2:Nat)(n3:Nat)(n4:Nat)(n5:Nat)(n6:Nat):Option (Nat×Bool)×IOp:=(none,.append n0 n1 n2 n3 [qa] n4 (.r n5) (.r n6))
abbrev HF(n0:Nat)(n1:Nat)(n2:Nat)(n3:Nat):Option (Nat×Bool)×IOp:=(none,.bslice n0 n1 n2 n3 [qt] [])
abbrev Rw(n0:Nat):Option (Nat×Bool)×IOp:=(none,.alloc n0 [qa,qa,qa,qa])
abbrev KI(n0:Nat)(n1:Nat)(n2:Int):IOp:= .bin .leq n0 (.r n1) (ci n2)
abbrev CJ(n0:Nat)(n1:Nat):Option (Nat×Bool)×IOp:=(none,.box n0 (.x n1))
abbrev qdp(n0:Nat)(n1:Nat)(n2:Nat)(n3:Nat):IOp:= .sliceT n0 (.r n1) (some (.r n2)) (some (.r n3)) none
abbrev FY(n0:Nat)(n1:Nat)(n2:Nat)(n3:Int):Option (Nat×Bool)×IOp:=(some (n0,false),uT n1 n2 n3)
abbrev nI:Option (Nat×Bool)×IOp:=qv 1 3
abbrev oB:Option (Nat×Bool)×IOp:=qv 1 2
abbrev AM:Option (Nat×Bool)×IOp:=xd 3 0 2
abbrev Rx(n0:Nat)(n1:Nat)(n2:Nat):Option (Nat×Bool)×IOp:=(none,.sliceA n0 n1 (.x n2) none none)
abbrev HG(n0:Nat)(n1:Nat)(n2:Nat)(n3:Nat)(n4:Nat):IC:=rg [qx,qg] n0 [n1,n2,n3,n4]
abbrev rF(n0:Nat)(n1:Nat)(n2:Int):Option (Nat×Bool)×IOp:=(none,tO n0 n1 n2)
abbrev qdx(n0:Nat)(n1:Nat)(n2:Nat)(n3:Nat)(n4:Nat)(n5:Nat):IOp:= .build [qa,qa] [(n0,(n1,.r n2)),(n3,(n4,.r n5))]
abbrev qdy(n0:Nat)(n1:Nat)(n2:Nat)(n3:Nat)(n4:Nat)(n5:Nat):IC:= .seq (rg [(none,.call n0 n1 []),mr n2] n3 [n4,n5]) .ret
abbrev qdz(n0:Nat)(n1:Nat)(n2:Nat)(n3:Nat)(n4:Nat)(n5:Nat)(n6:Nat):IC:= .seq (rg [mx n0,aJ,qn n1,AM] n2 [n3,n4]) (qm n5 n6)
abbrev bt:ag:= .r 0
abbrev cL:ag:= .r 1
abbrev dJ:ag:= .r 2
abbrev eY:ag:= .r 3
abbrev pa(n0:Int):ag:= .c (qbo n0)
abbrev jO:ag:= .r 4
abbrev jP:ag:= .r 5
abbrev M4(n0:Int):ag:= .c (T.v (.int .i32 n0))
def gG:aD:=⟨5,17,3,[.var 6],[.raw],false,.seq (ye 17 5 0 6 1) (.seq (.seq (rg [mx 1,qw 20 zR 0,eO 1] 17 [15,2]) (.cond (.x 15) (qdy 22 fT 0 17 6 1) .skip)) (.seq (rg [qh 4 5,mx 1,jf 26 gz 0 1,mr 2,qi 3 0,qi 3 1,mr 4,mr 5] 17 [7,6,8,7]) (.seq (rg [qh 4 5,mx 1,jf 32 qD 0 1,mr 2,qi 3 0,qi 3 1,mr 4,mr 5] 17 [9,6,10,7]) (.seq (.seq (rd [mx 7,mx 9,jf 37 nU 0 1,eO 2,mr 3,qk 4 8,qk 4 10,Dv 4 42 pq 5 6,kB 4 7,qd 4 8,mr 9,qk 10 1,xe 10 4 5,qk 10 9,qk 10 4,(some (10,false),CH 50 lZ 11 12 13 14),qk 10 1,xe 10 4 5,qk 10 9,qk 10 4,(some (10,false),CH 55 tK 16 17 18 19),Dv 10 56 cY 15 20,kB 10 21,qd 10 22] 17 [16,23]) (qj 16 17 6 0)) (.seq (rg [qh 4 5,mx 1,mx 2,mx 3,(none,CH 64 iU 0 1 2 3),mr 4,qi 5 0,qi 5 1,zb 2,ql 1 8 6,mr 7] 17 [11,8,12,10]) (.seq (rg [qh 4 5,mx 1,mx 2,mx 3,(none,CH 72 qE 0 1 2 3),mr 4,qi 5 0,qi 5 1,zb 4,ql 1 8 6,mr 7] 17 [13,8,14,10]) (.seq (rg [qh 1 11,qh 1 13,jf 77 lh 0 1,mr 2,qu 3 12,qu 3 14,(some (3,true),.call 81 jz [jO,jP]),qf 3 6,mr 7,(some (8,true),.call 84 fT []),qf 8 9,mr 10] 17 [6,11]) .ret)))))))⟩
def vM:aD:=⟨3,6,1,[.var 4],[.raw],false,.seq (ye 6 3 0 4 1) (.seq (.seq (rg [mx 1,qn 0,(none,.bin .gtr 3 cL (ci 12800))] 6 [5,2]) (.cond (.x 5) (qdy 10 fT 0 6 4 1) .skip)) (.seq (rd [qh 4 3,mx 1,mx 2,Dw 14 pv 0 1 2,qh 4 3,mx 1,mx 2,Dw 18 FR 4 5 6,(none,.call 19 pr [eY,.r 7,.c (T.v (.func (.func cY) #[] #[]))]),mr 8,(some (9,true),.call 21 fT []),qf 9 10,mr 11] 6 [4,12]) .ret))⟩
def tS:aD:=⟨2,13,3,[.var 2],[.raw],false,.seq (mW 13 2 0) (.seq (.seq (rg [aJ,(none,rD 14 Ml 0 24),eO 1] 13 [10,2]) (.cond (.x 10) (qdy 16 fT 0 13 2 1) .skip)) (.seq (rg [aJ,qw 19 FT 0,mr 1,qi 2 0,qi 2 1,Rw 0,ql 4 5 3,mr 4] 13 [3,5]) (.seq (.seq (dV 0 13 4 0) (.block 0 (.loop (.seq (.kill [2,5,6,7,8,9,10,11,12]) (.seq (.free [2,3,4,5]) (.seq (.seq (rg [mx 4,(none,KI 3 0 3)] 13 [11,1]) (qm 11 0)) (.seq (.block 1 (.seq (rg [qh 4 3,aJ,mx 4,Dw 29 pv 0 1 2,mr 3] 13 [5,4]) (.seq (rg [qh 4 3,mx 5,mx 1,(none,.bin .rem 5 dJ (pa 5)),rC 3,mx 4,(none,CH 37 iU 0 1 4 5),mr 6,qi 7 0,qi 7 1,zb 2,ql 1 10 8,mr 9] 13 [6,10,7,12]) (.seq (rg [qh 4 3,mx 5,mx 1,(none,.bin .rem 5 dJ (pa 5)),rC 3,mx 4,(none,CH 47 qE 0 1 4 5),mr 6,qi 7 0,qi 7 1,zb 4,ql 1 10 8,mr 9] 13 [8,10,9,12]) (.seq (rg [mx 5,qh 4 3,aJ,mx 4,Dw 54 FR 1 2 3,(none,.call 55 pr [bt,jO,.c (T.v (.func (.func cY) #[] #[]))]),eO 5,mr 6,xe 7 1 6,xe 7 1 8,Dv 7 60 lh 8 9,kB 7 10,qd 7 11,mr 12,qk 13 7,qk 13 9,Dv 13 66 jz 14 15,kB 13 16,qd 13 17] 13 [12,18]) (qj 12 13 2 0)))))) (gW 4 1 13 4 2)))))))) (qdy 69 fT 0 13 2 1))))⟩
def rG:aD:=⟨1,2,0,[.var 1],[.raw],false,.seq (mW 2 1 0) (.seq (rg [aJ,qn 0,(none,KI 3 1 60),mr 2,qu 3 0,(some (3,true),.call 8 jL [jO,.c (T.v (.func (.func je) #[] #[]))]),(some (3,true),VE 5),qf 3 6,mr 7] 2 [1,8]) .ret)⟩
def wU:aD:=⟨0,8,2,[.var 0],[.raw],false,.seq (mW 8 0 0) (.seq (rg [(none,.call 8 x8 []),(none,.alloc 0 [qa,qa,qa,qa,qo,qo]),ql 6 1 0] 8 [1,1]) (.seq (rg [qh 6 1,qw 10 wG 0,mr 1] 8 [2,2]) (.seq (rg [kX,iN 4 0,mx 2,FX 14 pv 1 2 1,mr 3] 8 [3,4]) (.seq (rg [kX,iN 4 0,mx 3,(none,.call 19 iU [cL,dJ,ci 1,ci 1]),mr 3,qi 4 0,qi 4 1,zb 2,ql 1 7 5,mr 6] 8 [4,7,5,9]) (.seq (rg [kX,iN 4 0,mx 3,jf 26 gz 1 2,mr 3,qi 4 0,qi 4 1,mr 5,mr 6] 8 [6,7,7,8]) (.seq (rd [mx 3,qn 0,rF 3 1 12,mr 2,(some (3,true),.load true 1 (.x 4)),qz 3 5 1,gJ 3 1 5,(some (3,true),rE 1 6 0),M0 3 1 7,(some (3,true),.call 38 lh [jO,.r 8]),qf 3 9,mr 10,qu 11 5,y9 11 12,(some (11,true),tO 3 13 0),qf 11 14,mr 15,qu 16 6,y9 16 17,(some (16,true),tO 3 18 5),qf 16 19,mr 20,qu 21 7,y9 21 22,(some (21,true),tO 3 23 0),qf 21 24,mr 25,qu 26 3,qz 26 0 1,M0 26 4 28,qu 26 6,(some (26,true),.call 60 lZ [.r 27,.r 29,.r 30,ci 2]),(some (26,true),.bslice 61 5 1 1 [qt] [(0,(1,pa 120))]),(some (26,true),.call 62 cY [.r 31,.r 32]),qf 26 33,mr 34] 8 [0,35]) .ret))))))⟩
def j6:aD:=⟨2,17,2,[.var 3,.var 4],[.raw,.raw],false,.seq (rg [qx,qg,qg] 17 [2,0,3,1,4,2]) (.seq (.seq (rg [qh 4 2,mx 1,(none,.build [qa,qa,qa,qa,qo,qo] [(0,(4,bt)),(4,(1,cL))]),qw 15 fE 2,eO 3] 17 [11,4]) (.cond (.x 11) (.seq (rg [qg,qg] 17 [3,0,4,1]) .ret) .skip)) (.seq (qW 17 5 0) (.seq (qW 17 6 0) (.seq (.seq (rg [mx 1,qe 1 2,gA,CG 3 1 2,VI 1 0 1 3,qn 4,mi 0] 17 [12,4,13,5,14,6]) (.block 0 (.loop (.seq (.kill [0,1,2,3,4,7,8,9,10,11,15,16]) (.seq (.free [2,3]) (.seq (tP 3 14 13 17 15 0) (.seq (qm 15 0) (.seq (.block 1 (.seq (rg [mx 14,AJ 1 12 14,gA,mr 0,mr 2] 17 [7,3,8,4]) (.seq (rg [mx 8,qw 30 jA 0,mr 1,qi 2 0,qi 2 1,(none,.alloc 2 (List.replicate 10 (T.v (.int .i64 0)))),ql 10 5 3,mr 4] 17 [9,5,10,7]) (.seq (.seq (rg [mx 10,eO 0] 17 [16,1]) (.cond (.x 16) (rg [mx 6,mx 7,AH 3 1 1,M1 38 3 1 1 0 1 2,M3 39 3 1 8 0 0 3,mr 4] 17 [6,5]) .skip)) (rg [mx 5,qh 10 9,(none,.bslice 42 34 10 1 (List.replicate 10 (T.v (.int .i64 0))) [(0,(10,cL))]),(none,.append 43 34 10 80 (List.replicate 10 (T.v (.int .i64 0))) 0 bt dJ),mr 3] 17 [5,4]))))) (o9 3 14 1 0 17 14 1))))))))) (.seq (rg [mx 5,mx 6,mr 0,mr 1] 17 [3,2,4,3]) .ret)))))⟩
def nh:aD:=⟨2,13,2,[.var 3,.var 4],[.raw,.raw],false,.seq (rg [qx,qg,qg] 13 [2,0,3,1,4,2]) (.seq (.seq (rg [qh 4 2,mx 1,jf 13 l3 0 1,eO 2] 13 [10,3]) (.cond (.x 10) (.seq (rg [qg,qg] 13 [3,0,4,1]) .ret) .skip)) (.seq (rg [(none,.bslice 15 34 10 0 (List.replicate 10 (T.v (.int .i64 0))) []),(none,.bslice 16 3 1 0 [qa] []),mr 0,mr 1] 13 [5,2,6,3]) (.seq (.seq (dV 1 13 7 0) (.block 0 (.loop (.seq (.kill [0,3,4,8,9,10,11,12]) (.seq (.free [2,3]) (.seq (.seq (rg [mx 7,qe 1 2,gA,(none,HE 3 0 2)] 13 [11,3]) (qm 11 0)) (.seq (.block 1 (.seq (rg [mx 1,mx 7,qy 1 0 1,oB,qw 28 zS 3,mr 4,qi 5 0,qi 5 1,(none,.alloc 2 (List.replicate 10 (T.v (.int .i64 0)))),ql 10 8 6,mr 7] 13 [8,8,9,10]) (.seq (.seq (rg [mx 9,eO 0] 13 [12,1]) (.cond (.x 12) (rg [mx 6,mx 7,M1 35 3 1 1 0 1 1,M3 36 3 1 8 0 0 2,mr 3] 13 [6,4]) .skip)) (rg [mx 5,qh 10 8,(none,.bslice 39 34 10 1 (List.replicate 10 (T.v (.int .i64 0))) [(0,(10,cL))]),(none,.append 40 34 10 80 (List.replicate 10 (T.v (.int .i64 0))) 0 bt dJ),mr 3] 13 [5,4])))) (gW 7 1 13 7 2)))))))) (.seq (rg [mx 5,mx 6,mr 0,mr 1] 13 [3,2,4,3]) .ret))))⟩
def kK:aD:=⟨2,9,0,[.var 2],[.raw],false,.seq (mW 9 2 0) (.seq qcr (.seq (.seq (rg [aJ,qn 0,mi 0] 9 [5,1,6,2]) (.block 0 (.loop (.seq (.kill [2,3,4,7,8]) (.seq eD (.seq (tP 3 6 5 9 7 0) (.seq (qm 7 0) (.seq (.block 1 (.seq (rg [mx 6,mr 0] 9 [3,1]) (.seq (rd [aJ,mx 3,qy 10 0 1,iN 10 2,mx 1,mx 3,qy 10 4 5,iN 10 6,(none,.eqa true [.int,.int,.int,.int,.int,.int,.int,.int,.int,.int] eY (.r 7))] 9 [8,8]) (qj 8 9 2 0)))) (o9 3 6 1 0 9 6 1))))))))) (tQ 9 2 0)))⟩
def mm:aD:=⟨2,9,0,[.var 2],[.raw],false,.seq (mW 9 2 0) (.seq qcr (.seq (.seq (rg [aJ,qn 0,mi 0] 9 [5,1,6,2]) (.block 0 (.loop (.seq (.kill [2,3,4,7,8]) (.seq eD (.seq (tP 3 6 5 9 7 0) (.seq (qm 7 0) (.seq (.block 1 (.seq (rg [mx 6,mr 0] 9 [3,1]) (.seq (rd [aJ,mx 3,qy 1 0 1,oB,mx 1,mx 3,qy 1 4 5,qv 1 6,(none,AI 3 3 7)] 9 [8,8]) (qj 8 9 2 0)))) (o9 3 6 1 0 9 6 1))))))))) (tQ 9 2 0)))⟩
def l4:aD:=⟨2,3,0,[.var 2],[.raw],false,.seq (mW 3 2 0) (.seq (rg [aJ,(none,.toStr bt),mx 1,(none,.toStr dJ),(none,AL 9 1 3),mr 4] 3 [2,5]) .ret)⟩
def l5:aD:=⟨4,6,1,[.var 5],[.raw],false,.seq (rg [CJ 0 1,qg] 6 [4,0,5,1]) (.seq (rg [qh 4 4,aJ,mx 2,(none,.build [qa,qa,qa,qa,qo,qo] [(0,(4,bt)),(4,(1,cL)),(5,(1,dJ))]),mx 3,jf 14 aP 3 4,mr 5] 6 [5,6]) .ret)⟩
def jQ:aD:=⟨4,17,2,[.var 5],[.raw],false,.seq (rg [CJ 0 1,qg] 17 [4,0,5,1]) (.seq (.seq (rg [qh 4 4,aJ,jf 17 l3 0 1,eO 2,mr 3,qk 4 3,FY 4 3 5 1,qd 4 6,mr 7,qk 8 3,qk 8 2,AG 8 10,FV 8 3 9 11,qd 8 12] 17 [12,13]) (FU 12 17 5 0)) (.seq (rg [mx 2,mx 3,(none,tR 3 1 1),qy 10 0 2,iN 10 3,(none,.alloc 2 (List.replicate 10 (T.v (.int .i64 0)))),ql 10 5 4] 17 [6,5]) (.seq (.seq (rg [qe 0 6,cK,lQ 3 1 2,mr 2,qz 3 0 6,gJ 3 1 4,KE 3 3 5 3,qf 3 6] 17 [13,7]) (FU 13 17 5 0)) (.seq (rg [HF 42 5 1 0,mr 0] 17 [7,1]) (.seq (.seq (dV 0 17 8 0) (.block 0 (.loop (.seq (.kill [1,5,9,10,11,12,13,14,15,16]) (.seq eD (.seq (.seq (vL 8 3 0 4 17 14 1) (qm 14 0)) (.seq (.block 1 (.seq (rg [aJ,qh 4 4,mx 2,mx 3,mx 8,(none,.call 53 ox [bt,cL,dJ,eY,jO]),mr 5,qi 6 0,qi 6 1,mr 7,mr 8] 17 [9,9,10,10]) (.seq (dV 0 17 11 0) (.block 2 (.loop (.seq (.kill [1,5,12,13,14,15,16]) (.seq eD (.seq (.seq (vL 11 3 0 64 17 15 1) (qm 15 2)) (.seq (.block 3 (.seq (rg [mx 10,mr 0,qu 1 11,qu 1 9,y9 1 3,(some (1,true),.bin .lss 3 dJ jO),qf 1 5] 17 [16,6]) (.cond (.x 16) (rg [mx 7,mx 9,mx 11,qy 1 1 2,nI,KG 72 5 1 1 0 1 4,j5 73 5 1 1 0 0 5,mr 6] 17 [7,7]) (rg [mx 7,(none,.bslice 75 5 1 1 [qt] [(0,(1,.c qt))]),j5 76 5 1 1 0 0 1,mr 2] 17 [7,3])))) (gW 11 1 17 11 2)))))))))) (gW 8 1 17 8 2)))))))) (.seq (rg [mx 7,qe 4 6,gA,(none,.minMax false [dJ,ci 256]),(none,.minMax true [eY,ci 0]),(none,.sliceT 1 bt none (some jO) none),mr 5] 17 [5,6]) .ret))))))⟩
def dW:aD:=⟨4,40,14,[.cell 6 true 1,.var 7],[.raw,.raw],false,.seq (rg [qx,CJ 2 3,zb 4,qg] 40 [4,0,5,1,6,2,7,3]) (.seq (rg [qh 4 4,mx 1,(none,.build [qa,qa,qa,qa,qo,qo] [(0,(4,bt)),(4,(1,cL))]),(none,.alloc 6 [qa,qa,qa,qa,qo,qo]),ql 6 3 2] 40 [8,3]) (.seq (.seq (rg [qh 6 8,qw 30 fE 0,eO 1] 40 [21,2]) (.cond (.x 21) (.seq (rg [(none,.build [qo] []),iM 1 6 0,qg] 40 [7,2]) .ret) .skip)) (.seq (qW 40 9 0) (.seq (rg [qh 4 4,mx 1,jf 36 gz 0 1,mr 2,qi 3 0,qi 3 1,qe 5 8,ql 1 6 4,mr 5] 40 [9,8]) (.seq (rg [(none,.mkMap 19),(none,.alloc 8 [T.v (.map none)]),ql 1 1 0] 40 [10,1]) (.seq (rg [(none,.mkFunc (.func kA) [] [.x 10,.x 5]),mr 0] 40 [11,1]) (.seq (.seq (rg [qe 5 8,cK,qe 2 4,oB,jf 46 rA 1 3,qn 4,mi 0] 40 [22,4,23,5,24,6]) (.block 0 (.loop (.seq (.kill [0,1,3,4,5,7,12,13,14,15,16,17,18,19,20,21,25,26,27,28,29,30,31,32,33,34,35,36,37,38,39]) (.seq (.free [10,11]) (.seq (tP 3 24 23 40 25 0) (.seq (qm 25 0) (.seq (.block 1 (.seq (rg [AJ 2 22 24,iN 2 0,(none,.alloc 10 [qa,qa]),ql 2 2 1] 40 [12,2]) (rg [mx 11,za 2 1 12 0,gA,za 2 1 12 1,nI,(none,.callvio 57 [] bt [ci 1,dJ,jO])] 40 []))) (o9 3 24 1 0 40 24 1))))))))) (.seq (.seq (rg [mx 9,qn 0,mi 0] 40 [26,0,27,1,28,2]) (.block 2 (.loop (.seq (.kill [0,1,3,4,5,7,9,12,13,14,15,16,17,18,19,20,21,22,23,24,25,29,30,31,32,33,34,35,36,37,38,39]) (.seq eD (.seq (tP 3 28 27 40 29 0) (.seq (qm 29 2) (.seq (.block 3 (.seq (rg [AJ 1 26 28,cK,mr 1] 40 [13,2]) (rg [mx 11,mx 13,(none,.callvio 67 [] bt [ci 4,cL,.c (T.v (.int .i64 (-1)))])] 40 []))) (o9 3 28 1 0 40 28 1))))))))) (.seq (rg [zb 12] 40 [14,0]) (.seq (.seq (rg [qe 5 8,cK,qn 1,mi 0] 40 [30,1,31,2,32,3]) (.block 4 (.loop (.seq (.kill [0,1,3,4,5,7,9,12,13,15,16,17,18,19,20,21,22,23,24,25,26,27,28,29,33,34,35,36,37,38,39]) (.seq (.free [14,15,16,17]) (.seq (tP 3 32 31 40 33 0) (.seq (qm 33 4) (.seq (.block 5 (.seq (rg [mx 32,AJ 10 30 32,iN 10 1,(none,.alloc 14 (List.replicate 10 (T.v (.int .i64 0)))),mr 0,ql 10 3 2] 40 [15,4,16,3]) (.seq (rd [qe 0 16,cK,qe 1 16,oB,qe 2 16,qv 1 4,qe 3 16,qv 1 6,qh 6 8,mx 15,AH 3 9 1,jf 88 aP 8 10,(none,.build [qa,qa,qa,qa,qo,qo,qa,qa,qp,qa,qa,qa,qa] [(0,(1,cL)),(1,(1,eY)),(2,(1,jP)),(3,(1,.r 7)),(4,(1,.r 11))]),Rt 16,ql 13 13 12] 40 [17,13]) (.seq (rg [qq] 40 [18,0]) (.seq (.seq (rg [qh 6 8,mx 15,AH 3 1 1,jf 94 bM 0 2,mr 3,qi 4 0,qi 4 1,qe 6 17,ql 7 7 5,mr 6] 40 [18,9]) (.seq (rg [mx 18,eO 0] 40 [34,1]) (.cond (.x 34) (rg [mx 11,mx 15,AH 3 1 1,(none,.callvio 103 [] bt [ci 2,dJ,.c (T.v (.int .i64 (-1)))])] 40 []) .skip))) (.seq (.seq (rg [qe 0 16,cK,rF 3 1 1] 40 [35,2]) (.cond (.x 35) (.seq (qW 40 19 0) (.seq (rg [qh 6 8,mx 15,AH 3 1 1,mx 2,Dw 112 gi 0 2 3,mr 4,qi 5 0,qi 5 1,qe 5 17,ql 1 8 6,mr 7] 40 [19,10]) (.seq (rg [mx 19,qn 0,mi 0] 40 [36,0,37,1,38,2]) (.block 6 (.loop (.seq (.kill [0,1,3,4,5,7,9,12,13,16,18,19,20,21,22,23,24,25,26,27,28,29,33,34,35,39]) (.seq eD (.seq (tP 3 38 37 40 39 0) (.seq (qm 39 6) (.seq (.block 7 (.seq (rg [AJ 1 36 38,cK,mr 1] 40 [20,2]) (rg [mx 11,mx 15,AH 3 1 1,mx 20,(none,.callvio 126 [] bt [ci 5,dJ,eY])] 40 []))) (o9 3 38 1 0 40 38 1))))))))))) .skip)) (rg [qe 0 14,cK,qh 13 17,(none,.bslice 131 84 13 1 [qa,qa,qa,qa,qo,qo,qa,qa,qp,qa,qa,qa,qa] [(0,(13,dJ))]),(none,.append 132 84 13 144 [qa,qa,qa,qa,qo,qo,qa,qa,qp,qa,qa,qa,qa] 0 cL eY),qe 0 14,ql 1 5 4] 40 []))))))) (o9 3 32 1 0 40 32 1))))))))) (.seq (rd [qh 1 14,ml 1 10,(none,.lookup .int qo false cL (ci 1)),ml 1 10,(none,.lookup .int qo false eY (ci 2)),ml 1 10,(none,.lookup .int qo false jP (ci 4)),ml 1 10,(none,.lookup .int qo false (.r 7) (ci 5)),(none,.bslice 144 42 1 4 [qo] [(0,(1,dJ)),(1,(1,jO)),(2,(1,.r 6)),(3,(1,.r 8))]),qw 145 gj 9,iM 1 6 0,mr 10] 40 [7,12]) .ret)))))))))))⟩
def ni:aD:=⟨4,27,4,[.cell 5 true 1,.var 6],[.raw,.raw],false,.seq (rg [qx,zb 2,qg] 27 [4,0,5,1,6,2]) (.seq (.seq (rg [qh 4 4,mx 1,jf 26 l3 0 1,eO 2] 27 [21,3]) (.cond (.x 21) (.seq (rg [(none,.build [qo] []),iM 1 5 0,qg] 27 [6,2]) .ret) .skip)) (.seq (rg [qh 4 4,mx 1,jf 32 qD 0 1,mr 2,qi 3 0,qi 3 1,mr 4,mr 5] 27 [7,6,8,7]) (.seq (rg [zb 4] 27 [9,0]) (.seq (rg [qg,qg,qg] 27 [10,0,11,1,12,2]) (.seq (.seq (dV 1 27 13 0) (.block 0 (.loop (.seq (.kill [0,6,14,15,16,17,18,19,20,21,22,23,24,25,26]) (.seq (.free [6,7]) (.seq (.seq (rg [mx 13,qe 1 4,gA,(none,HE 3 0 2)] 27 [22,3]) (qm 22 0)) (.seq (.block 1 (.seq (rg [qh 4 4,mx 1,mx 7,mx 13,mx 2,(none,.call 47 x9 [bt,cL,dJ,eY,jO]),mr 5,qi 6 0,qi 6 1,qi 6 2,Rt 6,ql 13 10 7,mr 8,mr 9] 27 [14,10,15,12,16,13]) (.seq (rg [qe 0 9,cK,qh 13 14,(none,.bslice 54 84 13 1 [qa,qa,qa,qa,qo,qo,qa,qa,qp,qa,qa,qa,qa] [(0,(13,dJ))]),(none,.append 55 84 13 144 [qa,qa,qa,qa,qo,qo,qa,qa,qp,qa,qa,qa,qa] 0 cL eY),qe 0 9,ql 1 5 4] 27 []) (.seq (.seq (rg [mx 15,eO 0] 27 [23,1]) (.cond (.x 23) (rg [mx 10,mx 3,mx 13,(none,.call 62 j4 [ci 2,cL,dJ,.c (T.v (.int .i64 (-1)))]),VK 63 48 4 1 0 4 3,MZ 64 48 4 32 0 0 4,mr 5] 27 [10,6]) .skip)) (.seq (dV 0 27 17 0) (.block 2 (.loop (.seq (.kill [0,6,14,15,18,19,20,21,22,23,24,25,26]) (.seq eD (.seq (.seq (rg [mx 17,mx 16,qn 1,AM] 27 [24,3]) (qm 24 2)) (.seq (.block 3 (rg [mx 11,mx 3,mx 13,mx 16,mx 17,qy 1 3 4,qv 1 5,(none,.call 78 j4 [ci 5,cL,dJ,.r 6]),VK 79 48 4 1 0 4 7,MZ 80 48 4 32 0 0 8,mr 9] 27 [11,10])) (gW 17 1 27 17 2)))))))))))) (gW 13 1 27 13 2)))))))) (.seq (rg [mx 7,qe 2 4,gA,jf 84 zT 0 2,mr 3] 27 [18,4]) (.seq (.seq (dV 0 27 19 0) (.block 4 (.loop (.seq (.kill [0,1,2,4,6,7,13,14,15,16,17,20,21,22,23,24,25,26]) (.seq eD (.seq (.seq (rg [mx 19,mx 18,qn 1,AM] 27 [25,3]) (qm 25 4)) (.seq (.block 5 (rd [mx 12,mx 3,mx 18,mx 19,qy 2 2 3,(none,.iaddrA 2 1 jO (ci 0)),qv 1 5,mx 18,mx 19,qy 2 7 8,(none,.iaddrA 2 1 (.r 9) (ci 1)),qv 1 10,(none,.call 103 j4 [ci 1,cL,.r 6,.r 11]),VK 104 48 4 1 0 4 12,MZ 105 48 4 32 0 0 13,mr 14] 27 [12,15])) (gW 19 1 27 19 2)))))))) (.seq (rg [mx 12,mx 10,MZ 108 48 4 32 0 0 1,mr 2] 27 [12,3]) (.seq (.seq (dV 0 27 20 0) (.block 6 (.loop (.seq (.kill [0,1,2,4,6,7,10,13,14,15,16,17,18,19,21,22,23,24,25,26]) (.seq eD (.seq (.seq (rg [mx 20,mx 8,qn 1,AM] 27 [26,3]) (qm 26 6)) (.seq (.block 7 (rg [mx 12,mx 3,mx 8,mx 20,qy 1 2 3,qv 1 4,(none,.call 121 j4 [ci 4,cL,jP,.c (T.v (.int .i64 (-1)))]),VK 122 48 4 1 0 4 6,MZ 123 48 4 32 0 0 7,mr 8] 27 [12,9])) (gW 20 1 27 20 2)))))))) (.seq (rd [qh 1 9,mx 12,mx 11,MZ 127 48 4 32 0 1 2,iM 1 5 0,mr 3] 27 [6,5]) .ret))))))))))⟩
def pD:aD:=⟨2,9,2,[.var 4],[.raw],false,.seq (rg [qx,CJ 2 1,qb] 9 [2,0,3,1,4,2]) (.seq (.seq (rg [qe 0 2,cK,qn 1,qe 0 3,nI,qn 4,(none,AI 3 2 5)] 9 [6,6]) (qj 6 9 4 0)) (.seq (.seq (dV 0 9 5 0) (.block 0 (.loop (.seq (.kill [0,1,4,6,7,8]) (.seq eD (.seq (.seq (rg [mx 5,qe 0 2,gA,qn 2,xd 3 0 3] 9 [7,4]) (qm 7 0)) (.seq (.block 1 (.seq (rd [qe 0 2,cK,mx 5,qy 13 1 2,iN 13 3,qe 0 3,qv 1 5,mx 5,qy 13 6 7,iN 13 8,jf 30 sT 4 9,eO 10] 9 [8,11]) (qj 8 9 4 0))) (gW 5 1 9 5 2)))))))) (tQ 9 4 0)))⟩
def jB:aD:=⟨2,9,0,[.var 2],[.raw],false,.seq (mW 9 2 0) (.seq qcr (.seq (.seq (rg [aJ,qn 0,mi 0] 9 [5,1,6,2]) (.block 0 (.loop (.seq (.kill [2,3,4,7,8]) (.seq eD (.seq (tP 3 6 5 9 7 0) (.seq (qm 7 0) (.seq (.block 1 (.seq (rg [mx 6,mr 0] 9 [3,1]) (.seq (rd [aJ,mx 3,qy 4 0 1,iN 4 2,mx 1,mx 3,qy 4 4 5,iN 4 6,(none,.eqa true [.int,.int,.int,.int] eY (.r 7))] 9 [8,8]) (qj 8 9 2 0)))) (o9 3 6 1 0 9 6 1))))))))) (tQ 9 2 0)))⟩
def pE:aD:=⟨3,13,0,[.var 3],[.raw],false,.seq (mW 13 3 0) (.seq (.seq (rg [aJ,qn 0,mx 1,qn 2,(none,AI 3 1 3)] 13 [7,4]) (qj 7 13 3 0)) (.seq (.seq (rg [aJ,qn 0,mi 0] 13 [8,0,9,1,10,2]) (.block 0 (.loop (.seq (.kill [0,3,4,5,6,7,11,12]) (.seq eD (.seq (tP 3 10 9 13 11 0) (.seq (qm 11 0) (.seq (.block 1 (.seq (rg [mx 10,AJ 1 8 10,gA,mr 0,mr 2] 13 [4,3,5,4]) (.seq (rg [mx 1,mx 4,qy 1 0 1,oB,mr 3] 13 [6,4]) (.seq (rg [mx 2,mx 5,mx 6,(none,.callv 29 bt [cL,dJ]),eO 3] 13 [12,4]) (qj 12 13 3 0))))) (o9 3 10 1 0 13 10 1))))))))) (tQ 13 3 0)))⟩
def yg:aD:=⟨3,12,2,[.var 4],[.raw],false,.seq (HG 12 3 0 4 1) (.seq (rg [qh 4 3,mx 2,jf 13 MU 0 1,mr 2] 12 [5,3]) (.seq (.seq (rg [mx 5,(none,uT 3 0 0),mr 1,qk 2 1,AG 2 3,xe 2 4 3,FW 2 20 Qz 5,(some (2,false),.bin .mul 3 (ci 64) (.r 6)),(some (2,false),AI 3 4 7),qd 2 8] 12 [9,9]) (FU 9 12 4 0)) (.seq (rg [qe 1 3,cK,CG 3 1 1,qe 2 3,nI,nH 3 2 4,mr 5] 12 [6,6]) (.seq (rg [mx 6,(none,.mkCap 31 37 24 bt),zb 2,ql 1 2 1] 12 [7,2]) (.seq (.seq (rg [mx 1,mx 5,td 3 64 1,mx 5,mx 6,nH 3 3 4,td 3 64 5,(none,qdp 1 0 2 6),(none,rD 40 lF 7 64)] 12 [10,8]) (.block 0 (.range 4 (.x 10) [11] (rg [mx 11] 12 [8,0]) (.block 1 (rd [ml 1 7,mx 8,qw 44 oY 1,(none,.bslice 45 37 1 1 [qo] [(0,(1,dJ))]),(none,.append 46 37 1 24 [qo] 0 bt eY),iM 1 7 4] 12 []))))) (.seq (rg [ml 1 7,mr 0] 12 [4,1]) .ret))))))⟩
def FZ:aD:=⟨3,10,1,[.var 4],[.raw],false,.seq (HG 10 3 0 4 1) (.seq (rg [qh 4 3,mx 2,jf 12 Mm 0 1,mr 2] 10 [5,3]) (.seq (.seq (rg [mx 5,(none,uT 3 0 0),mr 1,qk 2 1,AG 2 3,xe 2 4 3,FW 2 19 CE 5,(some (2,false),.bin .mul 3 (ci 64) (.r 6)),(some (2,false),AI 3 4 7),qd 2 8] 10 [8,9]) (FU 8 10 4 0)) (.seq (rg [(none,.bslice 23 37 1 0 [qo] []),mr 0] 10 [6,1]) (.seq (.seq (dV 0 10 7 0) (.block 0 (.loop (.seq (.kill [0,2,4,8,9]) (.seq eD (.seq (.seq (rg [mx 7,qh 4 3,qw 26 kg 1,AM] 10 [9,3]) (qm 9 0)) (.seq (.block 1 (rg [mx 6,mx 1,mx 5,mx 7,nH 3 2 3,td 3 64 4,mx 5,mx 7,nH 3 6 7,td 3 64 8,AH 3 9 64,(none,qdp 1 1 5 10),(none,.bslice 42 37 1 1 [qo] [(0,(1,.r 11))]),(none,.append 43 37 1 24 [qo] 0 bt (.r 12)),mr 13] 10 [6,14])) (gW 7 1 10 7 2)))))))) (yd 6 0 10 4 1)))))⟩
def CK:aD:=⟨2,5,1,[.var 2],[.raw],false,.seq (mW 5 2 0) (.seq (rg [aJ,qw 9 FT 0,mr 1,qi 2 0,qi 2 1,Rw 0,ql 4 5 3,mr 4] 5 [3,5,4,7]) (.seq (rg [aJ,qn 0,(none,KI 3 1 12800),mr 2,qu 3 0,y9 3 4,(some (3,true),.bin .rem 3 jP (ci 64)),(some (3,true),tO 3 6 0),qf 3 7,mr 8,qu 9 4,KE 9 54 10 0,(some (9,true),.mv (.r 11)),qs 12 1 3,dH 12 1 13,qk 12 1,(some (12,false),HE 3 14 15),(some (12,false),.mv (.r 16)),qz 17 2 3,gJ 17 1 18,(some (17,true),KI 3 19 30),VH 12 17 20,(some (12,false),.mv (.r 21)),qz 22 0 3,gJ 22 1 23,(some (22,true),KI 3 24 2),VH 12 22 25,(some (9,true),.pick (.r 12) (.c (T.v (.bool true))) (.r 26)),qf 9 27,mr 28] 5 [2,29]) .ret))⟩
def F0:aD:=⟨1,6,2,[.cell 1 true 4,.var 2],[.raw,.raw],false,.seq (rg [Rw 0,mi 0] 6 [1,0,2,1]) (.seq (.seq (rg [aJ,qn 0,(none,uT 3 1 64)] 6 [4,2]) (.cond (.x 4) (.seq (rg [(none,.build [qa,qa,qa,qa] []),iM 4 1 0,mi 2] 6 [2,2]) .ret) .skip)) (.seq (rd [aJ,(none,rE 1 0 5),gA,rC 2,aJ,(none,rE 1 4 6),qv 1 5,rC 6,aJ,(none,rE 1 8 7),qv 1 9,rC 10,aJ,(none,rE 1 12 8),qv 1 13,rC 14,(none,.build [qa,qa,qa,qa] [(0,(1,eY)),(1,(1,.r 7)),(2,(1,.r 11)),(3,(1,.r 15))]),Rw 2,ql 4 17 16] 6 [3,17]) (.seq (.seq (rd [qh 4 3,qw 27 ki 0,lQ 54 1 0,mr 2,qk 3 0,(some (3,false),.sliceT 1 jO none (some (ci 64)) none),xe 3 4 3,FW 3 33 sn 6,Dv 3 34 fe 5 7,kB 3 8,qd 3 9,mr 10,qk 11 0,AG 11 12,xe 11 4 3,FW 11 41 CE 14,(some (11,false),.bin .mul 3 (ci 64) (.r 15)),(some (11,false),AI 3 13 16),qd 11 17] 6 [5,18]) (.cond (.x 5) (.seq (rg [(none,.build [qa,qa,qa,qa] []),iM 4 1 0,mi 2] 6 [2,2]) .ret) .skip)) (.seq (rg [qh 4 3,iM 4 1 0,mi 0] 6 [2,2]) .ret))))⟩
def gB:aD:=⟨2,3,0,[.var 2],[.raw],false,.seq (mW 3 2 0) (.seq (rg [aJ,mx 1,jf 7 lj 0 1,(none,CI 3 2 0),mr 3] 3 [2,4]) .ret)⟩
def sy:aD:=⟨1,2,0,[.var 1],[.raw],false,.seq (mW 2 1 0) (.seq (rg [aJ,qn 0,lQ 3 1 64,mr 2] 2 [1,3]) .ret)⟩
def yh:aD:=⟨0,2,2,[.cell 0 true 6],[.raw],false,.seq (rg [(none,.alloc 0 [qa,qa,qa,qa,qo,qo])] 2 [0,0]) (.seq (rg [(none,.build [qa,qa,qa,qa] [(0,(1,ci 1)),(1,(1,ci 5)),(2,(1,ci 6)),(3,(1,ci 5))]),(none,.build [qa,qa,qa,qa,qo,qo] [(0,(4,bt))]),(none,.alloc 2 [qa,qa,qa,qa,qo,qo]),ql 6 2 1] 2 [1,2]) (.seq (rg [(none,.build [qa,qa,qp] [(1,(1,ci 2)),(2,(1,.c (T.v (.string ⟨#[97]⟩))))]),(none,.bslice 5 105 3 1 [qa,qa,qp] [(0,(3,bt))]),qw 6 vu 1,(none,.bslice 7 5 1 1 [qt] [(0,(1,pa 120))]),(none,.build [qa,qa,qa,qa,qo,qo,qa,qa,qp,qa,qa,qa,qa] [(0,(1,ci 2)),(2,(1,ci 1)),(3,(1,ci 3)),(4,(1,eY))]),Rs,Rs,Rs,(none,.bslice 12 84 13 5 [qa,qa,qa,qa,qo,qo,qa,qa,qp,qa,qa,qa,qa] [(0,(13,dJ)),(13,(13,jO)),(26,(13,jP)),(39,(13,.r 6)),(52,(13,.r 7))]),(none,.build [qo] [(0,(1,.r 8))]),(none,.bslice 14 41 1 1 [qo] [(0,(1,.r 9))]),qe 5 1,ql 1 11 10] 2 []) (.seq (rg [(none,.call 16 vu [.c qo]),(none,.call 17 vu [.c qo]),(none,.call 18 vu [.c qo]),Rs,Rs,(none,.bslice 21 84 13 5 [qa,qa,qa,qa,qo,qo,qa,qa,qp,qa,qa,qa,qa] [(0,(13,bt)),(13,(13,cL)),(26,(13,dJ)),(39,(13,eY)),(52,(13,jO))]),(none,.build [qo] [(0,(1,jP))]),qe 4 1,ql 1 7 6] 2 []) (.seq (rg [qh 6 1,iM 6 0 0] 2 []) .ret))))⟩
def wV:aD:=⟨1,4,1,[.var 2],[.raw],false,.seq (HG 4 1 0 2 1) (.seq (rg [qh 6 1,qw 7 wJ 0,mr 1,qi 2 0,qi 2 1,mr 3,mr 4] 4 [3,5]) (yd 3 0 4 2 1))⟩
def iq:aD:=⟨1,3,1,[.var 2],[.raw],false,.seq (ye 3 1 0 2 1) (.seq (rg [kX,iN 4 0,qw 5 rB 1,rF 54 2 0,mr 3,qz 4 4 1,gJ 4 1 5,y9 4 6,qz 4 0 1,(some (4,true),.faddr 1 (.r 8)),gJ 4 1 9,(some (4,true),.bin .add 3 (ci 1) (.r 10)),qz 4 0 1,(some (4,true),.faddr 2 (.r 12)),gJ 4 1 13,(some (4,true),.bin .add 3 (.r 11) (.r 14)),(some (4,true),AL 3 7 15),qf 4 16,mr 17] 3 [2,18]) .ret)⟩
def jC:aD:=⟨1,7,2,[.cell 1 true 10,.var 2],[.raw,.raw],false,.seq (rg [(none,.alloc 0 (List.replicate 10 (T.v (.int .i64 0)))),qb] 7 [1,0,2,1]) (.seq (rg [aJ,qw 8 ff 0,(none,.alloc 2 (List.replicate 10 (T.v (.int .i64 0)))),ql 10 2 1] 7 [3,2]) (.seq (rg [qh 10 3,qw 11 fU 0,mr 1,qi 2 0,qi 2 1,mr 3,mr 4] 7 [4,5,5,6]) (.seq (.seq (rg [mx 5,lQ 54 0 0,mr 1,qk 2 0,qk 2 4,Dv 2 19 cY 3 4,kB 2 5,qd 2 6] 7 [6,7]) (.cond (.x 6) (.seq (rg [(none,.build (List.replicate 10 (T.v (.int .i64 0))) []),iM 10 1 0,qb] 7 [2,2]) .ret) .skip)) (.seq (rg [qh 10 3,iM 10 1 0,qq] 7 [2,2]) .ret))))⟩
def oC:aD:=⟨2,4,1,[.var 3],[.raw],false,.seq (ye 4 2 0 3 1) (.seq (rg [qh 4 2,qw 6 ki 0,rF 54 1 0,mr 2,qu 3 1,y9 3 4,(some (3,true),.load true 4 (.x 2)),(some (3,true),.call 12 kg [.r 6]),(some (3,true),AL 3 5 7),qf 3 8,mr 9] 4 [3,10]) .ret)⟩
def rH:aD:=⟨1,9,2,[.cell 1 true 10,.var 2],[.raw,.raw],false,.seq (rg [(none,.alloc 0 (List.replicate 10 (T.v (.int .i64 0)))),qb] 9 [1,0,2,1]) (.seq (.seq (rg [aJ,qn 0,lQ 3 1 64] 9 [5,2]) (.cond (.x 5) (.seq (rg [(none,.build (List.replicate 10 (T.v (.int .i64 0))) []),iM 10 1 0,qb] 9 [2,2]) .ret) .skip)) (.seq (.seq (rg [aJ,(none,.mkSlice 11 5 1 1 [qt] (ci 64)),jf 12 fe 0 1] 9 [6,2]) (.cond (.x 6) (.seq (rg [(none,.build (List.replicate 10 (T.v (.int .i64 0))) []),iM 10 1 0,qq] 9 [2,2]) .ret) .skip)) (.seq (rd [aJ,(none,rE 1 0 0),gA,rC 2,aJ,(none,rE 1 4 1),qv 1 5,rC 6,(none,.build (List.replicate 10 (T.v (.int .i64 0))) [(0,(1,eY)),(1,(1,.r 7))]),(none,.alloc 2 (List.replicate 10 (T.v (.int .i64 0)))),ql 10 9 8] 9 [3,9]) (.seq (rg [aJ,AK 25 gH 0 2 2,mr 1,qi 2 0,qi 2 1,qe 2 3,ql 1 5 3] 9 []) (.seq (rg [aJ,AK 31 gH 0 4 4,mr 1,qi 2 0,qi 2 1,qe 3 3,ql 1 5 3] 9 []) (.seq (rg [aJ,AK 37 gH 0 8 2,mr 1,qi 2 0,qi 2 1,qe 4 3,ql 1 5 3] 9 []) (.seq (.seq (dV 0 9 4 0) (.block 0 (.loop (.seq (.kill [2,5,6,7,8]) (.seq eD (.seq (.seq (vL 4 3 0 4 9 7 1) (qm 7 0)) (.seq (.block 1 (rg [mx 4,aJ,mx 4,td 3 2 2,CG 3 10 3,FX 51 gH 1 4 2,mr 5,qi 6 0,qi 6 1,qe 5 3,(none,.iaddrA 4 1 (.r 9) bt),ql 1 10 7] 9 [])) (gW 4 1 9 4 2)))))))) (.seq (rg [aJ,AK 58 gH 0 18 2,mr 1,qi 2 0,qi 2 1,qe 9 3,ql 1 5 3] 9 []) (.seq (.seq (rg [qe 0 3,cK,rF 3 1 0,mr 2,xe 3 10 3,FW 3 67 so 4,kB 3 5,qd 3 6,mr 7,qk 8 0,xe 8 10 3,FW 8 73 cZ 10,Dv 8 74 fe 9 11,kB 8 12,qd 8 13] 9 [8,14]) (.cond (.x 8) (.seq (rg [(none,.build (List.replicate 10 (T.v (.int .i64 0))) []),iM 10 1 0,qb] 9 [2,2]) .ret) .skip)) (.seq (rg [qh 10 3,iM 10 1 0,qq] 9 [2,2]) .ret))))))))))⟩
def bU:aD:=⟨2,14,3,[.var 3],[.raw],false,.seq (HG 14 2 0 3 1) (.seq (.seq (rg [qh 6 2,qw 11 fE 0,eO 1,mr 2,qk 3 1,FY 3 3 4 1,qd 3 5,mr 6,qk 7 1,qs 7 5 2,dH 7 1 9,AG 7 10,FV 7 3 8 11,qd 7 12] 14 [9,13]) (FU 9 14 3 0)) (.seq (rg [qe 5 2,cK,mx 1,(none,tR 3 2 1),qy 10 1 3,iN 10 4,(none,.alloc 2 (List.replicate 10 (T.v (.int .i64 0)))),ql 10 6 5] 14 [4,6]) (.seq (.seq (rg [qe 0 4,cK,lQ 3 1 2,mr 2,qz 3 0 4,gJ 3 1 4,KE 3 3 5 3,qf 3 6] 14 [10,7]) (FU 10 14 3 0)) (.seq (rg [(none,.alloc 4 (List.replicate 256 (T.v (.int .u8 0))))] 14 [5,0]) (.seq (.seq (dV 0 14 11 0) (.block 0 (.loop (.seq (.kill [0,3,6,7,8,9,10,12,13]) (.seq eD (.seq (VL 3 11 4 14 12 0) (.seq (qm 12 0) (.seq (.block 1 (.seq (rg [mx 11,mr 0] 14 [6,1]) (.seq (rg [qh 6 2,mx 1,mx 6,Dw 45 ab 0 1 2,mr 3,qi 4 0,qi 4 1,mr 5,mr 6] 14 [7,7,8,8]) (.seq (rg [mx 8] 14 [13,0]) (.cond (.x 13) (rg [mx 6,td 3 64 0,mx 6,AH 3 2 1,td 3 64 3,(none,.sliceA 256 1 (.x 5) (some cL) (some jO)),mx 7,(none,.copy 1 jP (.r 6))] 14 []) .skip))))) (o9 3 11 1 0 14 11 1))))))))) (.seq (rg [qe 4 4,cK,(none,.minMax false [cL,ci 256]),(none,.minMax true [dJ,ci 0]),(none,.sliceA 256 1 (.x 5) none (some eY)),mr 4] 14 [3,5]) .ret))))))⟩
def ko:aD:=⟨5,11,1,[.var 6,.var 7],[.raw,.raw],false,.seq (rg [CJ 0 1,qg,qb] 11 [5,0,6,1,7,2]) (.seq (.seq (rg [qh 4 5,aJ,jf 15 l3 0 1,eO 2,mr 3,qk 4 2,qs 4 2 5,dH 4 1 6,qk 4 3,qk 4 4,(some (4,false),CH 23 sq 5 7 8 9),kB 4 10,qd 4 11] 11 [9,12]) (.cond (.x 9) (.seq (rg [qg,qb] 11 [6,0,7,1]) .ret) .skip)) (.seq (rg [mx 2,mx 3,(none,tR 3 1 1),qy 10 0 2,pC 9 3,qv 1 4,mr 5] 11 [8,6]) (.seq (.seq (vL 4 3 0 4 11 10 1) (.cond (.x 10) (rg [mx 2,mx 3,(none,tR 3 1 1),mx 4,qy 10 0 2,pC 5 4,(none,.iaddrA 4 1 jP eY),qv 1 6,mr 7] 11 [8,8]) .skip)) (.seq (rg [aJ,qe 1 5,gA,mx 8,nH 3 2 3,qy 1 0 4,qv 1 5,mr 6,qq] 11 [6,7,7,8]) .ret))))⟩
def nc:aD:=⟨5,5,0,[],[],false,rd [ml 1 3,aJ,ml 1 3,aJ,(none,.lookup .int qo false dJ eY),aJ,ml 1 4,mx 1,mx 2,(none,.build [qa,qa,qa,qa] [(0,(1,jP)),(1,(1,.r 6)),(2,(1,.r 7)),(3,(1,.r 8))]),VK 18 48 4 1 0 4 9,MZ 19 48 4 32 0 4 10,(none,.mapUpdate .int bt cL (.r 11))] 5 []⟩
def rI:aD:=⟨2,13,5,[.var 2],[.raw],false,.seq (qW 13 2 0) (.seq (rg [aJ,mx 1,(none,.callnew 13 [8] u7 [bt,cL]),(none,.alloc 0 [T.v (.map none)]),ql 1 3 2] 13 [3,3]) (.seq (rg [zb 2] 13 [4,0]) (.seq (.seq (rg [aJ,qw 15 jq 0] 13 [9,1]) (.block 0 (.range 10 (.x 9) [10,11] (.seq (rg [(none,.alloc 4 [qa,qa]),(none,.store 2 bt (.x 10))] 13 [5,0]) (rg [mx 11] 13 [6,0])) (.block 1 (.seq (rg [ml 1 3,mx 6,(none,.lookup .int (T.agg [qa,qa]) true bt cL),mr 2,qi 3 0,qi 3 1,(none,.alloc 6 [qa,qa]),ql 2 6 4,mr 5] 13 [7,6,8,8]) (.seq (rg [mx 8,eO 0,mr 1,xe 2 2 7,xe 2 2 5,(some (2,false),.eqa true [.int,.int] eY jO),qd 2 5] 13 [12,6]) (.cond (.x 12) (rg [ml 1 4,qe 0 5,gA,qe 1 5,nI,(none,qdx 0 1 2 1 1 4),(none,.bslice 37 77 2 1 [qa,qa] [(0,(2,jP))]),(none,.append 38 77 2 16 [qa,qa] 0 bt (.r 6)),iM 1 4 7] 13 []) .skip))))))) (.seq (rg [ml 1 4,mr 0] 13 [2,1]) .ret))))⟩
def cw:aD:=⟨2,8,2,[.cell 3 true 7,.var 4],[.raw,.raw],false,.seq (rg [qx,Ru 2,qb] 8 [2,0,3,1,4,2]) (.seq (rg [qh 6 2,mx 1,FX 11 ab 0 1 4,mr 2,qi 3 0,qi 3 1,mr 4,mr 5] 8 [5,6,6,7]) (.seq (.seq (rg [mx 6,eO 0] 8 [7,1]) (.cond (.x 7) (.seq (rg [(none,.build [qa,qa,qp,qa,qa,qa,qa] []),iM 7 3 0,qq] 8 [4,2]) .ret) .skip)) (.seq (rg [mx 5,qw 18 BI 0,qi 1 0,qi 1 1,iM 7 3 2,mr 3] 8 [4,5]) .ret)))⟩
def gl:aD:=⟨3,22,5,[.var 4,.var 5],[.raw,.raw],false,.seq (rg [qx,qg,(none,.thaw 7 3 1 (.c qo))] 22 [3,0,4,1,5,2]) (.kz (.seq (qW 22 6 0) (.seq (qW 22 7 0) (.seq .skip (.seq (.seq (dV 0 22 14 0) (.block 0 (.loop (.seq (.kill [0,4,5,8,9,10,11,12,13,15,16,17,18,19,20,21]) (.seq eD (.seq (VL 3 14 4 22 15 0) (.seq (qm 15 0) (.seq (.block 1 (.seq (rg [mx 14,mr 0] 22 [8,1]) (.seq (rg [qh 6 3,mx 1,mx 8,Dw 24 ab 0 1 2,mr 3,qi 4 0,qi 4 1,mr 5,mr 6] 22 [9,7,10,8]) (.seq (.seq (rg [mx 10,eO 0] 22 [16,1]) (.cond (.x 16) (.exit 1) .skip)) (.seq (rg [mx 9,mx 8,jf 32 oy 0 1,mr 2,qi 3 0,qi 3 1,mr 4,mr 5] 22 [11,6,12,7]) (.seq (rg [mx 7,mx 12,(none,.appendB 4 3 1 8 [qa] 0 bt cL),mr 2] 22 [7,3]) (.seq (rg [mx 11,qn 0,mi 0] 22 [17,0,18,1,19,2]) (.block 2 (.loop (.seq (.kill [0,4,5,8,9,10,11,12,13,15,16,20,21]) (.seq (.free [2,3]) (.seq (tP 3 19 18 22 20 0) (.seq (qm 20 2) (.seq (.block 3 (.seq (rg [AJ 3 17 19,iN 3 0,KH 2,ql 3 2 1] 22 [13,2]) (.seq (rg [qh 6 3,qh 3 13,mx 2,mx 6,(none,CH 48 nV 0 1 2 3)] 22 [21,4]) (.cond (.x 21) (rg [mx 6,qh 3 13,(none,.bslice 51 105 3 1 [qa,qa,qp] [(0,(3,cL))]),(none,.append 52 105 3 32 [qa,qa,qp] 0 bt dJ),mr 3] 22 [6,4]) (rg [mx 7,qe 0 13,gA,M1 56 3 1 1 0 1 2,(none,.appendB 6 3 1 8 [qa] 0 bt eY),mr 4] 22 [7,5]))))) (o9 3 19 1 0 22 19 1))))))))))))))) (o9 3 14 1 0 22 14 1))))))))) (.seq (rg [mx 7,(none,.callio 61 [] gv [bt])] 22 []) (.seq (rg [mx 6,mx 7,mr 0,(none,.thaw 7 3 1 cL)] 22 [4,2,5,3]) .ret)))))))⟩
def gm:aD:=⟨1,15,2,[.var 1],[.raw],false,.seq (qW 15 1 0) (.seq (dV 0 15 2 0) (.seq (.seq (rg [aJ,qn 0,mi 0] 15 [6,0,7,1,8,2]) (.block 0 (.loop (.seq (.kill [1,3,4,5,9,10,11,12,13,14]) (.seq eD (.seq (tP 3 8 7 15 9 0) (.seq (qm 9 0) (.seq (.block 1 (.seq (rg [AJ 1 6 8,cK,mr 1] 15 [3,2]) (.seq (rg [mx 2,mx 3,qn 1,nH 3 0 2,mr 3] 15 [2,4]) (.seq (vL 2 3 0 0 15 10 1) (.cond (.x 10) KF .skip))))) (o9 3 8 1 0 15 8 1))))))))) (.seq (rg [mx 2,(none,.callnew 24 [0] ta [.c qo,bt]),mr 1] 15 [4,2]) (.seq (.seq (rg [aJ,qn 0,mi 0] 15 [11,0,12,1,13,2]) (.block 2 (.loop (.seq (.kill [0,1,2,3,5,6,7,8,9,10,14]) (.seq eD (.seq (tP 3 13 12 15 14 0) (.seq (qm 14 2) (.seq (.block 3 (.seq (rg [AJ 1 11 13,cK,mr 1] 15 [5,2]) (rg [mx 4,mx 5,(none,.appendB 2 48 4 32 [qa,qa,qa,qa] 0 bt cL),mr 2] 15 [4,3]))) (o9 3 13 1 0 15 13 1))))))))) (yd 4 0 15 1 1)))))⟩
def pF:aD:=⟨5,18,4,[.cell 6 true 13,.var 7,.var 8],[.raw,.raw,.raw],false,.seq (rg [qx,Rt 2,qb,qg] 18 [5,0,6,1,7,2,8,3]) (.seq (rg [mx 2,mx 3,(none,tR 3 1 1),qy 10 0 2,iN 10 3,(none,.alloc 4 (List.replicate 10 (T.v (.int .i64 0)))),ql 10 5 4] 18 [9,5]) (.seq (.seq (rg [qe 0 9,cK,rF 3 1 0] 18 [15,2]) (.cond (.x 15) (.seq (rg [Rs,iM 13 6 0,qq,qg] 18 [7,2,8,3]) .ret) .skip)) (.seq (rd [qe 0 9,cK,qe 1 9,oB,qe 2 9,qv 1 4,qe 3 9,qv 1 6,mx 1,qh 4 5,mx 2,mx 3,(none,CH 40 tK 8 9 10 11),(none,.build [qa,qa,qa,qa,qo,qo,qa,qa,qp,qa,qa,qa,qa] [(0,(1,cL)),(1,(1,eY)),(2,(1,jP)),(3,(1,.r 7)),(4,(1,.r 12))]),Rt 6,ql 13 14 13] 18 [10,14]) (.seq (rg [qq] 18 [11,0]) (.seq (.seq (rg [mx 1,qh 4 5,mx 2,mx 3,(none,.call 47 ox [bt,cL,dJ,eY,ci 4]),mr 4,qi 5 0,qi 5 1,mr 6,mr 7] 18 [12,8,13,9]) (.seq (rg [mx 13] 18 [16,0]) (.cond (.x 16) (rg [mx 12,qw 53 zU 0,mr 1,qi 2 0,qi 2 1,qe 6 10,ql 7 5 3,mr 4] 18 [11,7]) .skip))) (.seq (qW 18 14 0) (.seq (.seq (rg [qe 0 9,cK,rF 3 1 1] 18 [17,2]) (.cond (.x 17) (rg [qh 4 5,mx 1,mx 2,mx 3,mx 4,(none,.call 66 tL [bt,cL,dJ,eY,jO]),mr 5,qi 6 0,qi 6 1,qe 5 10,ql 1 9 7,mr 8] 18 [14,11]) .skip)) (.seq (rg [qh 13 10,mx 11,mx 14,iM 13 6 0,mr 1,mr 2] 18 [7,4,8,5]) .ret))))))))⟩
def pb:aD:=⟨4,5,1,[.cell 4 true 4],[.raw],false,.seq (rg [Rw 0] 5 [4,0]) (.seq (rg [aJ,mx 1,mx 2,mx 3,(none,.build [qa,qa,qa,qa] [(0,(1,bt)),(1,(1,cL)),(2,(1,dJ)),(3,(1,eY))]),iM 4 4 4] 5 []) .ret)⟩
def vx:aD:=⟨2,9,0,[.var 2],[.raw],false,.seq (qW 9 2 0) (.seq (rg [(none,.bslice 8 77 2 0 [qa,qa] []),mr 0] 9 [3,1]) (.seq (.seq (dV 0 9 4 0) (.block 0 (.loop (.seq (.kill [2,5,6,7,8]) (.seq eD (.seq (qdz 4 1 9 6 3 6 0) (.seq (.block 1 (.seq (dV 0 9 5 0) (.block 2 (.loop (.seq (.kill [2,6,7,8]) (.seq eD (.seq (.seq (vL 5 3 0 5 9 7 1) (qm 7 2)) (.seq (.block 3 (.seq (rg [aJ,mx 4,qy 10 0 1,iN 10 2,mx 5,jf 24 mg 3 4,lQ 3 5 0,mr 6,qu 7 0,qu 7 1,qu 7 4,(some (7,true),.bin .add 3 (.r 10) (ci 1)),qu 7 5,(some (7,true),CH 32 sq 8 9 11 12),(some (7,true),VE 13),qf 7 14] 9 [8,15]) (.cond (.x 8) (rg [mx 3,mx 4,AH 3 1 1,mx 5,(none,qdx 0 1 2 1 1 3),(none,.bslice 40 77 2 1 [qa,qa] [(0,(2,jO))]),(none,.append 41 77 2 16 [qa,qa] 0 bt jP),mr 6] 9 [3,7]) .skip))) (gW 5 1 9 5 2))))))))) (gW 4 1 9 4 2)))))))) (yd 3 0 9 2 1)))⟩
def nW:aD:=⟨2,5,2,[.var 4],[.raw],false,.seq (rg [qx,CJ 2 1,qb] 5 [2,0,3,1,4,2]) (.seq (rg [qe 0 2,cK,qe 0 3,oB,(none,AL 3 1 3),mr 4,qz 5 1 2,gJ 5 1 6,qz 5 1 3,gJ 5 1 8,(some (5,true),AL 3 7 9),qf 5 10,mr 11,qz 12 2 2,gJ 12 1 13,qz 12 2 3,gJ 12 1 15,(some (12,true),AL 3 14 16),qf 12 17,mr 18,qz 19 3 2,gJ 19 1 20,qz 19 3 3,gJ 19 1 22,(some (19,true),AL 3 21 23),qf 19 24,mr 25,qz 26 6 2,M0 26 7 27,qz 26 6 3,M0 26 7 29,(some (26,true),qdj 28 30),qf 26 31,mr 32,qz 33 4 2,gJ 33 1 34,qz 33 4 3,gJ 33 1 36,(some (33,true),.call 43 fe [.r 35,.r 37]),qf 33 38,mr 39,qz 40 5 2,gJ 40 1 41,qz 40 5 3,gJ 40 1 43,(some (40,true),.call 50 ya [.r 42,.r 44]),qf 40 45,mr 46] 5 [4,47]) .ret)⟩
def Dy:aD:=⟨2,4,1,[.var 3],[.raw],false,.seq (Dx 0 4 2 0 3 1) (.seq (rg [qh 4 2,(none,.build [qa,qa,qa,qa] [(0,(4,bt))]),mx 1,jf 8 Du 1 2,mr 3] 4 [3,4]) .ret)⟩
def F1:aD:=⟨1,4,1,[.var 2],[.raw],false,.seq (Dx 0 4 1 0 2 1) (.seq (.seq (rg [qh 4 1,qw 4 rB 0,lQ 54 1 0] 4 [3,2]) (VJ 3 0 4 2 0)) (.seq (rd [qh 4 1,(none,.build [qa,qa,qa,qa] [(0,(4,bt))]),qw 8 yb 1,qe 3 1,nI,nH 3 2 4,mr 5] 4 [2,6]) .ret))⟩
def lG:aD:=⟨2,6,2,[.var 4],[.raw],false,.seq (rg [qx,CJ 2 1,(none,.mv (.c (T.v .nilFunc)))] 6 [2,0,3,1,4,2]) (.seq (.seq (rg [ml 1 3,(none,uT 3 0 1)] 6 [5,1]) (.cond (.x 5) KF .skip)) (.seq (rg [(none,.mkFunc (.func cW) [] [.x 2,.x 3]),mr 0] 6 [4,1]) .ret))⟩
def lH:aD:=⟨1,3,1,[.var 1],[.box 0],true,.seq (qW 3 1 0) (.seq (.seq (rg [aJ,(none,.eqnil false bt)] 3 [2,1]) (FU 2 3 1 0)) (.seq (rg [HF 5 5 1 0,aJ,(none,.appendB 0 5 1 1 [qt] 0 bt cL),mr 2] 3 [1,3]) .ret))⟩
def CL:aD:=⟨2,6,1,[.var 3],[.raw],false,.seq (Dx 0 6 2 0 3 1) (.seq (.seq (rg [qh 4 2,qw 6 ki 0,lQ 54 1 0,mr 2,qk 3 1,FY 3 3 4 0,qd 3 5,mr 6,qk 7 1,qs 7 0 2,dH 7 1 9,FV 7 3 8 10,qd 7 11] 6 [4,12]) (.cond (.x 4) (VG 6 3 0) .skip)) (.seq (.seq (rg [mx 1,rF 3 0 0] 6 [5,1]) (.cond (.x 5) (.seq (rd [qe 0 2,cK,qh 4 2,qw 23 kg 2,(none,.bin .mul 3 cL eY),CG 3 1 4,mr 5] 6 [3,6]) .ret) .skip)) (.seq (rg [mx 1,(none,tR 3 0 1),qh 4 2,qw 29 kg 2,(none,.bin .mul 3 cL eY),CG 3 1 4,mr 5] 6 [3,6]) .ret)))⟩
def CN:aD:=⟨1,4,1,[.var 2],[.raw],false,.seq (Dx 0 4 1 0 2 1) (.seq (.seq (rg [qh 4 1,qw 4 ki 0,lQ 54 1 0] 4 [3,2]) (VJ 3 0 4 2 0)) (.seq (rd [kX,cK,AH 3 1 1,qh 4 1,qw 10 kg 3,(none,.bin .mul 3 dJ jO),CG 3 1 5,qe 3 1,qv 1 7,nH 3 6 8,mr 9] 4 [2,10]) .ret))⟩
def sA:aD:=⟨1,3,1,[.var 2],[.raw],false,.seq (Dx 0 3 1 0 2 1) (.seq (rg [qe 1 1,cK,CG 3 1 1,qe 2 1,nI,nH 3 2 4,mr 5] 3 [2,6]) .ret)⟩
def sB:aD:=⟨1,5,1,[.var 2],[.raw],false,.seq (Dx 0 5 1 0 2 1) (.seq (.seq (rg [kX,cK,(none,uT 3 1 1),mr 2,qs 3 0 1,dH 3 1 4,AF 3 3 5 3,qd 3 6,mr 7,qs 8 1 1,dH 8 1 9,FY 8 3 10 4,qd 8 11,mr 12,qs 13 1 1,dH 13 1 14,AF 13 3 15 24,qd 13 16] 5 [3,17]) (VJ 3 1 5 2 0)) (.seq (.seq (rg [qe 2 1,cK,(none,uT 3 1 1),mr 2,qs 3 2 1,dH 3 1 4,AF 3 3 5 60,qd 3 6,mr 7,qs 8 3 1,dH 8 1 9,FY 8 3 10 1,qd 8 11,mr 12,qs 13 3 1,dH 13 1 14,AF 13 3 15 64,qd 13 16] 5 [4,17]) (VJ 4 1 5 2 0)) (.seq (dV 0 5 2 0) .ret)))⟩
def pG:aD:=⟨2,7,0,[.var 2],[.raw],false,.seq (mW 7 2 0) (.seq (.seq (rg [aJ,qn 0,mx 1,qn 2,(none,AI 3 1 3)] 7 [4,4]) (qj 4 7 2 0)) (.seq (.seq (dV 0 7 3 0) (.block 0 (.loop (.seq (.kill [2,4,5,6]) (.seq eD (.seq (qdz 3 1 7 5 3 5 0) (.seq (.block 1 (.seq (rd [aJ,mx 3,qy 1 0 1,oB,mx 1,mx 3,qy 1 4 5,qv 1 6,(none,AI 5 3 7)] 7 [6,8]) (qj 6 7 2 0))) (gW 3 1 7 3 2)))))))) (tQ 7 2 0)))⟩
def wW:aD:=⟨1,3,1,[.var 2],[.raw],false,.seq (HG 3 1 0 2 1) (.seq (rg [kX,cK,uU 1,qe 1 1,nI,uU 4,qe 2 1,qv 1 6,uU 7,qe 3 1,qv 1 9,uU 10,(none,.bslice 15 5 1 9 [qt] [(0,(1,pa 82)),(1,(1,pa 84)),(2,(1,pa 66)),(3,(1,pa 76)),(4,(1,pa 1)),(5,(1,dJ)),(6,(1,jP)),(7,(1,.r 8)),(8,(1,.r 11))]),qw 16 bP 12,mr 13] 3 [2,14]) .ret)⟩
def iW:aD:=⟨2,8,0,[.var 2],[.raw],false,.seq (dV 0 8 2 0) (.seq (.seq (rg [aJ,qn 0,mi 0] 8 [4,1,5,2]) (.block 0 (.loop (.seq (.kill [2,3,6,7]) (.seq eD (.seq (tP 3 5 4 8 6 0) (.seq (qm 6 0) (.seq (.block 1 (.seq (rg [mx 5,mr 0] 8 [3,1]) (.seq (rg [mx 1,aJ,mx 3,qy 1 1 2,nI,(none,.callv 16 bt [jO])] 8 [7,5]) (.cond (.x 7) (yd 3 0 8 2 1) .skip)))) (o9 3 5 1 0 8 5 1))))))))) (VG 8 2 0))⟩
def F2:aD:=⟨1,2,1,[.cell 1 true 13],[.raw],false,.seq (rg [Rt 0] 2 [1,0]) (.seq (rg [aJ,(none,.build [qa,qa,qa,qa,qo,qo,qa,qa,qp,qa,qa,qa,qa] [(0,(1,ci 1)),(2,(1,ci 2)),(5,(1,bt))]),iM 13 1 1] 2 []) .ret)⟩
def wX:aD:=⟨1,13,2,[.var 2,.var 3],[.raw,.raw],false,.seq (rg [qx,qg,mi 0] 13 [1,0,2,1,3,2]) (.seq (.seq (rg [qh 6 1,qw 10 Mn 0,eO 1] 13 [9,2]) (qde 9 1 13 2 0 3 1)) (.seq (rg [kX,iN 4 0,qw 14 sn 1,mr 2] 13 [4,3]) (.seq (.seq (dV 0 13 5 0) (.block 0 (.loop (.seq (.kill [0,2,3,6,7,8,9,10,11,12]) (.seq (.free [2,3]) (.seq (.seq (rg [mx 5,qe 5 1,gA,qn 2,(none,HE 3 0 3)] 13 [10,4]) (qm 10 0)) (.seq (.block 1 (.seq (rg [qe 4 1,iN 1 0,zb 2,ql 1 2 1] 13 [6,2]) (.seq (.seq (rg [mx 5,qe 5 1,gA,qn 2,xd 3 0 3] 13 [11,4]) (.cond (.x 11) (rg [qe 5 1,cK,mx 5,qy 1 1 2,iN 1 3,iM 1 6 4] 13 []) .skip)) (.seq (rg [kX,iN 4 0,qh 1 6,jf 38 mh 1 2,mr 3,qi 4 0,qi 4 1,mr 5,mr 6] 13 [7,7,8,8]) (.seq (.seq (rg [mx 8,eO 0] 13 [12,1]) (qde 12 5 13 2 0 3 1)) (rg [mx 4,mx 7,j5 45 5 1 1 0 0 1,mr 2] 13 [4,3])))))) (gW 5 1 13 5 2)))))))) (.seq (rg [mx 4,(none,.call 47 Mo []),j5 48 5 1 1 0 0 1,mr 2] 13 [4,3]) (.seq (rg [mx 4,kX,pC 3 1,oB,(none,tR 3 3 1),td 3 64 4,j5 55 5 1 1 2 0 5,mr 6,mi 0] 13 [2,7,3,8]) .ret)))))⟩
def vy:aD:=⟨1,4,1,[.var 2],[.raw],false,.seq (Dx 0 4 1 0 2 1) (.seq (.seq (rg [kX,cK,AK 5 lk 1 1 3,mr 2,qz 3 1 1,gJ 3 1 4,(some (3,true),.call 9 lk [jP,ci 4,ci 24]),qf 3 6,mr 7,qz 8 2 1,gJ 8 1 9,(some (8,true),.call 14 lk [.r 10,ci 1,ci 60]),qf 8 11,mr 12,qz 13 3 1,gJ 13 1 14,(some (13,true),.call 19 lk [.r 15,ci 1,ci 64]),qf 13 16] 4 [3,17]) (VJ 3 0 4 2 0)) (.seq (dV 1 4 2 0) .ret))⟩
def ln:aD:=⟨1,9,3,[.cell 1 true 10],[.raw],false,.seq (rg [(none,.alloc 0 (List.replicate 10 (T.v (.int .i64 0))))] 9 [1,0]) (.seq (rg [(none,.alloc 2 (List.replicate 10 (T.v (.int .i64 0))))] 9 [2,0]) (.seq (dV 0 9 3 0) (.seq (.seq (rg [(none,.build (List.replicate 10 (T.v (.int .i64 0))) []),qw 8 mj 0,mi 0] 9 [6,1,7,2]) (.block 0 (.loop (.seq (.kill [4,5,8]) (.seq (.free [4,5]) (.seq (VL 3 7 10 9 8 0) (.seq (qm 8 0) (.seq (.block 1 (.seq (rg [mx 7,(none,.indexA 10 3 true (.x 6) (.x 7)),(none,.alloc 4 [qa,qa,qa]),mr 0,ql 3 2 1] 9 [4,3,5,2]) (.seq (rg [mx 4,aJ,mx 3,za 3 1 5 1,nI,Dw 19 pw 1 2 4,mr 5,qi 6 0,qi 6 1,(none,.iaddrA 10 1 (.x 2) bt),ql 1 9 7] 9 []) (rg [mx 3,za 3 1 5 1,gA,nH 3 0 2,mr 3] 9 [3,4])))) (o9 3 7 1 0 9 7 1))))))))) (.seq (rd [za 10 1 2 0,cK,za 10 1 2 1,oB,za 10 1 2 2,qv 1 4,za 10 1 2 3,qv 1 6,za 10 1 2 4,qv 1 8,(none,.sliceA 10 1 (.x 2) (some (ci 5)) (some (ci 9))),(none,.arrOf 4 (.r 10)),iN 4 11,za 10 1 2 9,qv 1 13,(none,.build (List.replicate 10 (T.v (.int .i64 0))) [(0,(1,cL)),(1,(1,eY)),(2,(1,jP)),(3,(1,.r 7)),(4,(1,.r 9)),(5,(4,.r 12)),(9,(1,.r 14))]),iM 10 1 15] 9 []) .ret))))⟩
def jD:aD:=⟨1,11,2,[.var 2,.var 3],[.raw,.raw],false,.seq (rg [qx,qg,mi 0] 11 [1,0,2,1,3,2]) (.seq (.block 0 (.seq (rg [qh 10 1,qw 9 wM 0,eO 1,mr 2] 11 [6,3]) (.cond (.x 6) (.seq (rg [qg,mi 1] 11 [2,0,3,1]) .ret) (.seq (rg [kX,cK,rF 3 1 0,mr 2] 11 [7,3]) (.cond (.x 7) (.seq (rg [(none,.mkSlice 15 5 1 1 [qt] (ci 64)),mr 0,mi 0] 11 [2,1,3,2]) .ret) .skip))))) (.seq (qW 11 4 0) (.seq (.seq (rg [qh 10 1,qw 17 mj 0,mi 0] 11 [8,1,9,2]) (.block 1 (.loop (.seq (.kill [0,1,2,3,5,6,7,10]) (.seq (.free [2,3]) (.seq (VL 3 9 10 11 10 0) (.seq (qm 10 1) (.seq (.block 2 (.seq (rg [(none,.indexA 10 3 true (.x 8) (.x 9)),(none,.alloc 2 [qa,qa,qa]),ql 3 1 0] 11 [5,1]) (rg [mx 4,za 3 1 5 0,gA,za 3 1 5 1,nI,Dw 26 jM 0 2 4,mr 5] 11 [4,6]))) (o9 3 9 1 0 11 9 1))))))))) (.seq (rg [mx 4,qw 29 iV 0,mr 1,mi 0] 11 [2,2,3,3]) .ret))))⟩
def kY:aD:=⟨3,9,0,[.var 3,.var 4],[.raw,.raw],false,.seq (rg [mi 0,qb] 9 [3,0,4,1]) (.seq (.seq (rg [mx 2,qw 11 sr 0,eO 1,mr 2,qk 3 1,FY 3 3 4 0,qd 3 5,mr 6,qk 7 1,qk 7 0,AG 7 9,FV 7 3 8 10,qd 7 11,mr 12,qk 13 0,AG 13 14,qk 13 1,(some (13,false),.bin .sub 3 (.r 15) (.r 16)),qk 13 2,(some (13,false),.bin .lss 3 (.r 17) (.r 18)),qd 13 19] 9 [7,20]) (.cond (.x 7) (.seq (rg [mi 0,qb] 9 [3,0,4,1]) .ret) .skip)) (.seq (dV 0 9 5 0) (.seq (.seq (rg [mx 2,(none,tR 3 0 1),mr 1] 9 [6,2]) (.block 0 (.loop (.seq (.kill [2,3,4,7,8]) (.seq eD (.seq (.seq (rg [mx 6,(none,CI 3 0 0)] 9 [8,1]) (qm 8 0)) (.seq (.block 1 (rg [mx 5,(none,.bin .mul 3 bt (ci 256)),aJ,mx 1,mx 6,nH 3 3 4,qy 1 2 5,qv 1 6,rC 7,nH 3 1 8,mr 9] 9 [5,10])) (rg [mx 6,(none,tR 3 0 1),mr 1] 9 [6,2])))))))) (.seq (rg [mx 5,mr 0,qq] 9 [3,1,4,2]) .ret))))⟩
def dv:aD:=⟨1,9,1,[.var 2],[.raw],false,.seq (ye 9 1 0 2 1) (.seq (.seq (rg [qh 10 1,(none,.build (List.replicate 10 (T.v (.int .i64 0))) []),(none,qcj)] 9 [4,2]) (.cond (.x 4) (tQ 9 2 0) .skip)) (.seq (.seq (rg [kX,cK,(none,uT 3 1 1),mr 2,qs 3 0 1,dH 3 1 4,AF 3 3 5 4,qd 3 6,mr 7,qs 8 1 1,dH 8 1 9,yf 8 18 gR 10 255,kB 8 11,qd 8 12,mr 13,qs 14 2 1,dH 14 1 15,yf 14 24 gR 16 65535,kB 14 17,qd 14 18,mr 19,qs 20 9 1,dH 20 1 21,yf 20 30 gR 22 65535,kB 20 23,qd 20 24,mr 25,qs 26 3 1,dH 26 1 27,yf 26 36 gR 28 268435455,kB 26 29,qd 26 30,mr 31,qs 32 4 1,dH 32 1 33,yf 32 42 gR 34 256,kB 32 35,qd 32 36] 9 [5,37]) (qj 5 9 2 0)) (.seq (.seq (rg [kX,cK,rF 3 1 1,mr 2,qs 3 0 1,dH 3 1 4,(some (3,false),tO 3 5 4),qd 3 6,mr 7,qz 8 4 1,gJ 8 1 9,KE 8 3 10 0,qf 8 11] 9 [6,12]) (qj 6 9 2 0)) (.seq (.seq (dV 0 9 3 0) (.block 0 (.loop (.seq (.kill [0,2,4,5,6,7,8]) (.seq eD (.seq (.seq (vL 3 3 0 4 9 7 1) (qm 7 0)) (.seq (.block 1 (.seq (rg [mx 3,qe 5 1,(none,.iaddrA 4 1 cL bt),oB,(none,rD 66 gR 3 65535),eO 4,mr 5,qs 6 0 1,dH 6 1 7,(some (6,false),tO 3 8 4),(some (6,false),.mv (.r 9)),qu 10 3,qz 10 5 1,(some (10,true),.iaddrA 4 1 (.r 12) (.r 11)),gJ 10 1 13,KE 10 3 14 0,VH 6 10 15,qd 6 16] 9 [8,17]) (qj 8 9 2 0))) (gW 3 1 9 3 2)))))))) (tQ 9 2 0)))))⟩
def gT:aD:=⟨1,7,1,[.var 2],[.raw],false,.seq (HG 7 1 0 2 1) (.seq (.seq (rg [qh 10 1,(none,.build (List.replicate 10 (T.v (.int .i64 0))) []),(none,qcj)] 7 [5,2]) (.cond (.x 5) (.seq (rg [(none,.mkSlice 8 5 1 1 [qt] (ci 64)),mr 0] 7 [2,1]) .ret) .skip)) (.seq (rd [kX,cK,uU 1,qe 1 1,nI,uU 4,(none,.bslice 15 5 1 2 [qt] [(0,(1,dJ)),(1,(1,jP))]),qe 2 1,qv 1 7,(none,rD 18 dQ 8 2),j5 19 5 1 1 0 6 9,mr 10] 7 [3,11]) (.seq (rg [mx 3,qe 3 1,gA,(none,rD 23 dQ 2 4),j5 24 5 1 1 0 0 3,mr 4] 7 [3,5]) (.seq (rg [mx 3,qe 4 1,gA,(none,rD 28 dQ 2 2),j5 29 5 1 1 0 0 3,mr 4] 7 [3,5]) (.seq (.seq (dV 0 7 4 0) (.block 0 (.loop (.seq (.kill [0,2,5,6]) (.seq eD (.seq (.seq (vL 4 3 0 4 7 6 1) (qm 6 0)) (.seq (.block 1 (rg [mx 3,mx 4,qe 5 1,(none,.iaddrA 4 1 dJ cL),nI,(none,rD 39 dQ 4 2),j5 40 5 1 1 0 0 5,mr 6] 7 [3,7])) (gW 4 1 7 4 2)))))))) (.seq (rg [mx 3,qe 9 1,gA,(none,rD 44 dQ 2 2),j5 45 5 1 1 0 0 3,qw 46 bP 4,mr 5] 7 [2,6]) .ret))))))⟩
def aM:aD:=⟨3,9,2,[.var 4,.var 5],[.raw,.raw],false,.seq (rg [qx,qg,qb] 9 [3,0,4,1,5,2]) (.seq (.seq (rg [qh 6 3,qw 11 fE 0,eO 1,mr 2,qs 3 5 3,dH 3 1 4,qs 3 0 3,HD 3 2 6,dH 3 1 7,qk 3 1,qk 3 2,(some (3,false),CH 21 oz 5 8 9 10),kB 3 11,qd 3 12] 9 [8,13]) (.cond (.x 8) (.seq (rg [qg,qb] 9 [4,0,5,1]) .ret) .skip)) (.seq (rg [qe 5 3,cK,mx 1,(none,tR 3 2 1),qy 10 1 3,iN 10 4,(none,.alloc 2 (List.replicate 10 (T.v (.int .i64 0)))),ql 10 6 5] 9 [6,6]) (.seq (rd [qe 5 6,(none,.sliceA 4 1 bt none none),qw 32 fK 1,qe 9 6,nI,M1 35 3 1 1 0 1 4,M3 36 3 1 8 0 2 5,mx 2,qy 1 6 7,qv 1 8,mr 9] 9 [7,10]) (.seq (rg [qe 4 3,cK,qe 0 3,pC 1 2,nI,mx 7,nH 3 4 5,qy 1 1 6,qv 1 7,mr 8,qq] 9 [4,9,5,10]) .ret))))⟩
def fW:aD:=⟨4,13,0,[.var 4],[.raw],false,.seq (mW 13 4 0) (.seq (.seq (rg [mx 2,(none,uT 3 0 1),mr 1,qk 2 2,qk 2 0,AG 2 4,FV 2 3 3 5,qd 2 6,mr 7,qk 8 3,FY 8 3 9 0,qd 8 10,mr 11,qk 12 3,AF 12 3 13 4,qd 12 14] 13 [8,15]) (qj 8 13 4 0)) (.seq (rg [aJ,mx 2,(none,tR 3 1 1),qy 10 0 2,iN 10 3,mx 3,jf 34 mg 4 5,mr 6] 13 [5,7]) (.seq (.seq (rg [mx 5,(none,uT 3 0 1),mr 1,qk 2 5,qk 2 1,FV 2 3 3 4,qd 2 5] 13 [9,6]) (qj 9 13 4 0)) (.seq (.seq (dV 0 13 6 0) (.block 0 (.loop (.seq (.kill [1,4,7,8,9,10,11,12]) (.seq eD (.seq (.seq (rg [mx 6,mx 2,xd 3 0 1] 13 [10,2]) (qm 10 0)) (.seq (.block 1 (.seq (dV 0 13 7 0) (.block 2 (.loop (.seq (.kill [1,4,8,9,10,11,12]) (.seq eD (.seq (.seq (vL 7 3 0 5 13 11 1) (qm 11 2)) (.seq (.block 3 (.seq (rg [mx 6,mx 2,(none,tR 3 1 1),AM,mr 3,qk 4 7,qk 4 3,(some (4,false),.bin .lss 3 jP (.r 6)),qd 4 7,mr 8,qu 9 0,qu 9 6,(some (9,true),.iaddrS 10 (.r 10) (.r 11)),M0 9 10 12,qu 9 7,(some (9,true),.call 66 mg [.r 13,.r 14]),qu 9 5,(some (9,true),AL 3 15 16),qf 9 17] 13 [12,18]) (qj 12 13 4 0))) (gW 7 1 13 7 2))))))))) (gW 6 1 13 6 2)))))))) (tQ 13 4 0)))))⟩
def qF:aD:=⟨2,12,5,[.var 3],[.raw],false,.seq (rg [CJ 0 1,(none,.mv (.c (T.v (.map none))))] 12 [2,0,3,1]) (.seq (rg [(none,.mkMap 9),(none,.alloc 2 [T.v (.map none)]),ql 1 1 0] 12 [4,1]) (.seq (.seq (rg [aJ,qw 12 jq 0] 12 [8,1]) (.block 0 (.range 10 (.x 8) [9,10] (.seq (rg [(none,.alloc 4 [qa,qa]),(none,.store 2 bt (.x 9))] 12 [5,0]) (rg [mx 10] 12 [6,0])) (.block 1 (.seq (rg [ml 1 4,mx 6,(none,.lookup .int (T.agg [qa,qa]) true bt cL),mr 2,qi 3 0,qi 3 1,(none,.alloc 6 [qa,qa]),ql 2 6 4,mr 5] 12 [7,8]) (.seq (rg [mx 7,eO 0,mr 1,qu 2 6,(some (2,true),CI 3 3 0),qf 2 4,mr 5,qu 6 6,(some (6,true),.load false 1 (.x 2)),(some (6,true),.bin .lss 3 (.r 7) (.r 8)),qf 6 9] 12 [11,10]) (.cond (.x 11) (rg [ml 1 4,mx 6,qh 2 5,(none,.mapUpdate .int bt cL dJ)] 12 []) .skip))))))) (.seq (rg [ml 1 4,mr 0] 12 [3,1]) .ret)))⟩
def nX:aD:=⟨1,3,1,[.var 2],[.raw],false,.seq (rg [qx,(none,.mv (.c (T.v .nilFunc)))] 3 [1,0,2,1]) (.seq (rg [(none,.mkFunc (.func cu) [] [.x 1]),mr 0] 3 [2,1]) .ret)⟩
def tT:aD:=⟨1,8,2,[.cell 1 true 7,.var 2],[.raw,.raw],false,.seq (rg [Ru 0,qb] 8 [1,0,2,1]) (.seq (.seq (rg [aJ,qn 0,lQ 3 1 64,mr 2,qk 3 0,(some (3,false),rE 1 4 2),dH 3 1 5,(some (3,false),.bin .gtr 5 (.r 6) (pa 24)),qd 3 7] 8 [6,8]) (qbn 6 7 1 0 8 2 2)) (.seq (rd [aJ,(none,rE 1 0 0),gA,rC 2,aJ,(none,rE 1 4 1),qv 1 5,rC 6,aJ,aJ,(none,rE 1 9 2),qv 1 10,(none,.bin .add 5 (pa 3) (.r 11)),VI 1 8 3 12,(none,.toStr (.r 13)),(none,.build [qa,qa,qp,qa,qa,qa,qa] [(0,(1,eY)),(1,(1,.r 7)),(2,(1,.r 14))]),Ru 2,ql 7 16 15] 8 [3,16]) (.seq (rg [aJ,(none,rE 1 0 27),gA,rC 2,qe 3 3,pC 0 4,ql 1 5 3] 8 []) (.seq (rg [aJ,AK 41 pw 0 28 2,mr 1,qi 2 0,qi 2 1,qe 3 3,pC 1 5,ql 1 6 3] 8 []) (.seq (rg [aJ,AK 48 pw 0 30 4,mr 1,qi 2 0,qi 2 1,qe 3 3,pC 2 5,ql 1 6 3] 8 []) (.seq (rg [aJ,AK 55 pw 0 34 2,mr 1,qi 2 0,qi 2 1,qe 6 3,ql 1 5 3] 8 []) (.seq (.seq (rg [qh 7 3,qw 61 BJ 0,mr 1,qi 2 0,qi 2 1,mr 3,mr 4] 8 [4,5,5,6]) (.seq (rg [mx 5,lQ 54 0 0,mr 1,qk 2 0,qk 2 4,Dv 2 69 cY 3 4,kB 2 5,qd 2 6] 8 [7,7]) (qbn 7 7 1 0 8 2 2))) (.seq (rg [qh 7 3,iM 7 1 0,qq] 8 [2,2]) .ret))))))))⟩
def oD:aD:=⟨2,16,4,[.var 2,.var 3],[.raw,.raw],false,.seq (rg [qg,qg] 16 [2,0,3,1]) (.seq (.seq (rg [aJ,qn 0,lQ 3 1 64,mr 2,qk 3 1,FY 3 3 4 0,qd 3 5,mr 6,qk 7 1,(some (7,false),CI 3 8 4),qd 7 9] 16 [11,10]) (.cond (.x 11) (.seq (rg [qg,qg] 16 [2,0,3,1]) .ret) .skip)) (.seq (rg [zb 0] 16 [4,0]) (.seq (rg [zb 2] 16 [5,0]) (.seq (rg [mx 1,td 3 4 0,(none,.alloc 4 [qa]),ql 1 2 1] 16 [6,2]) (.seq (.seq (rg [aJ,(none,rD 27 lF 0 16)] 16 [12,1]) (.block 0 (.range 8 (.x 12) [13] (rg [mx 13] 16 [7,0]) (.block 1 (.seq (rg [mx 7,ml 1 6,jf 32 gI 0 1,mr 2,qi 3 0,qi 3 1,qi 3 2,KH 6,ql 3 7 4,mr 5,mr 6] 16 [8,7,9,9,10,10]) (.seq (.block 2 (.seq (rg [mx 9,mr 0] 16 [14,1]) (.cond (.x 14) (rg [ml 1 4,qh 3 8,(none,.bslice 40 105 3 1 [qa,qa,qp] [(0,(3,cL))]),(none,.append 41 105 3 32 [qa,qa,qp] 0 bt dJ),iM 1 4 3] 16 []) (.seq (rg [mx 10,eO 0,mr 1] 16 [15,2]) (.cond (.x 15) (rg [ml 1 5,ml 1 6,M1 47 3 1 1 0 1 1,M3 48 3 1 8 0 0 2,iM 1 5 3] 16 []) .skip))))) (rg [ml 1 6,qr,iM 1 6 1] 16 []))))))) (.seq (rd [ml 1 4,ml 1 5,mr 0,mr 1] 16 [2,2,3,3]) .ret))))))⟩
def dX:aD:=⟨4,8,2,[.var 6],[.raw],false,.seq (rg [qx,CJ 2 1,qb] 8 [4,0,5,1,6,2]) (.seq (.seq (rg [qe 1 5,cK,mx 2,(none,HE 3 1 2),mr 3,qs 4 1 5,dH 4 1 5,qs 4 5 4,dH 4 1 7,AG 4 8,FV 4 3 6 9,qd 4 10,mr 11,qs 12 5 4,dH 12 1 13,qs 12 1 5,dH 12 1 15,(some (12,false),tR 3 16 1),(some (12,false),.iaddrS 10 (.r 14) (.r 17)),HD 12 0 18,dH 12 1 19,(some (12,false),tO 3 20 0),qd 12 21] 8 [7,22]) (qj 7 8 6 0)) (.seq (rg [mx 3,(none,.mkFunc (.func dn) [] [.x 5]),jf 34 jN 0 1,eO 2,mr 3] 8 [6,4]) .ret))⟩
def iu:aD:=⟨2,5,1,[.var 2],[.box 0],false,.seq (qW 5 2 0) (.seq (.seq (vL 1 3 0 0 5 3 1) (.cond (.x 3) KF .skip)) (.seq (.seq (rg [mx 1,aJ,(none,.capS cL),aJ,qn 3,(none,.bin .sub 3 dJ jO),(none,.bin .sub 3 bt jP),mr 6] 5 [1,7]) (.seq (rg [mx 1,(none,.bin .gtr 3 bt (ci 0))] 5 [4,1]) (.cond (.x 4) (rg [aJ,aJ,(none,.capS cL),(none,.sliceT 4 bt none (some dJ) none),mx 1,(none,.appendB 0 48 4 32 [qa,qa,qa,qa] 2 eY jO),aJ,qn 6,(none,.sliceT 4 jP none (some (.r 7)) none),mr 8] 5 [0,9]) .skip))) (yd 0 0 5 2 1)))⟩
def rJ:aD:=⟨1,6,2,[.cell 1 true 7,.var 2],[.raw,.raw],false,.seq (rg [Ru 0,qb] 6 [1,0,2,1]) (.seq (.seq (rg [aJ,qn 0,lQ 3 1 64,mr 2,qk 3 0,(some (3,false),rE 1 4 2),dH 3 1 5,(some (3,false),.toInt .i64 (.r 6)),AF 3 3 7 24,qd 3 8] 6 [4,9]) (qbn 4 7 1 0 6 2 2)) (.seq (rd [aJ,(none,rE 1 0 0),gA,rC 2,aJ,(none,rE 1 4 1),qv 1 5,rC 6,aJ,aJ,(none,rE 1 9 2),qv 1 10,rC 11,CG 3 3 12,VI 1 8 3 13,(none,.toStr (.r 14)),(none,.build [qa,qa,qp,qa,qa,qa,qa] [(0,(1,eY)),(1,(1,.r 7)),(2,(1,.r 15))]),Ru 2,ql 7 17 16] 6 [3,17]) (.seq (rg [aJ,(none,rE 1 0 27),gA,rC 2,qe 3 3,pC 0 4,ql 1 5 3] 6 []) (.seq (rg [aJ,AK 41 gH 0 28 2,mr 1,qi 2 0,qi 2 1,qe 3 3,pC 1 5,ql 1 6 3] 6 []) (.seq (rg [aJ,AK 48 gH 0 30 4,mr 1,qi 2 0,qi 2 1,qe 3 3,pC 2 5,ql 1 6 3] 6 []) (.seq (rg [aJ,AK 55 gH 0 34 2,mr 1,qi 2 0,qi 2 1,qe 6 3,ql 1 5 3] 6 []) (.seq (.seq (rg [qh 7 3,qw 60 su 0,eO 1,mr 2,qk 3 0,xe 3 7 3,FW 3 65 sw 5,Dv 3 66 fe 4 6,kB 3 7,qd 3 8] 6 [5,9]) (qbn 5 7 1 0 6 2 2)) (.seq (rg [qh 7 3,iM 7 1 0,qq] 6 [2,2]) .ret))))))))⟩
def pc:aD:=⟨5,22,2,[.var 6,.var 7],[.raw,.raw],false,.seq (rg [qx,qg,qg] 22 [5,0,6,1,7,2]) (.seq (rg [(none,.bslice 21 105 3 0 [qa,qa,qp] []),(none,.bslice 22 3 1 0 [qa] []),mr 0,mr 1] 22 [8,2,9,3]) (.seq (.seq (dV 0 22 10 0) (.block 0 (.loop (.seq (.kill [0,6,7,11,12,13,14,15,16,17,18,19,20,21]) (.seq eD (.seq (.seq (vL 10 3 0 4 22 17 1) (qm 17 0)) (.seq (.block 1 (.seq (rg [mx 1,qh 4 5,mx 2,mx 3,mx 10,(none,.call 33 ox [bt,cL,dJ,eY,jO]),mr 5,qi 6 0,qi 6 1,mr 7,mr 8] 22 [11,9,12,10]) (.seq (.seq (rg [mx 12,eO 0] 22 [18,1]) (.cond (.x 18) (.exit 1) .skip)) (.seq (dV 0 22 13 0) (.block 2 (.loop (.seq (.kill [0,6,7,12,14,15,16,17,18,19,20,21]) (.seq (.free [2,3]) (.seq (.seq (rg [mx 13,(none,uT 3 0 4),mr 1,qu 2 11,y9 2 3,(some (2,true),tO 3 4 64),qf 2 5] 22 [19,6]) (qm 19 2)) (.seq (.block 3 (.seq (rg [mx 11,mx 13,td 3 16 1,mx 13,td 3 16 3,AH 3 4 16,(none,qdp 1 0 2 5),mx 10,td 3 4 7,mx 13,nH 3 8 9,jf 59 zV 6 10,mr 11,qi 12 0,qi 12 1,qi 12 2,KH 2,ql 3 16 13,mr 14,mr 15] 22 [14,16,15,18,16,19]) (.seq (rg [mx 15,mr 0,(some (1,true),.load true 3 (.x 14)),qu 1 2,qu 1 4,qu 1 8,(some (1,true),CH 69 tM 2 3 4 5),qf 1 6] 22 [20,7]) (.cond (.x 20) (rg [mx 8,qh 3 14,(none,.bslice 73 105 3 1 [qa,qa,qp] [(0,(3,cL))]),(none,.append 74 105 3 32 [qa,qa,qp] 0 bt dJ),mr 3] 22 [8,4]) (.seq (rg [mx 15,mr 0,qk 1 16,kB 1 2,qd 1 3] 22 [21,4]) (.cond (.x 21) (rg [mx 9,mx 10,td 3 4 1,mx 13,nH 3 2 3,M1 85 3 1 1 0 1 4,M3 86 3 1 8 0 0 5,mr 6] 22 [9,7]) .skip)))))) (gW 13 1 22 13 2))))))))))) (gW 10 1 22 10 2)))))))) (.seq (rg [mx 8,mx 9,mr 0,mr 1] 22 [6,2,7,3]) .ret)))⟩
def pd:aD:=⟨2,5,1,[.var 3],[.raw],false,.seq (Dx 0 5 2 0 3 1) (.seq (.seq (rg [mx 1,rF 3 0 4] 5 [4,1]) (.cond (.x 4) (.seq (rg [qe 9 2,cK,mr 1] 5 [3,2]) .ret) .skip)) (.seq (rg [mx 1,qe 5 2,(none,.iaddrA 4 1 cL bt),oB,mr 3] 5 [3,4]) .ret))⟩
def tU:aD:=⟨2,7,0,[.var 2],[.raw],false,.seq (mW 7 2 0) (.seq (.seq (rg [aJ,qn 0,mx 1,qn 2,(none,AI 3 1 3)] 7 [4,4]) (qj 4 7 2 0)) (.seq (.seq (dV 0 7 3 0) (.block 0 (.loop (.seq (.kill [2,4,5,6]) (.seq eD (.seq (qdz 3 1 7 5 3 5 0) (.seq (.block 1 (.seq (rd [aJ,mx 3,qy 3 0 1,iN 3 2,mx 1,mx 3,qy 3 4 5,iN 3 6,(none,.eqa true [.int,.int,.str] eY (.r 7))] 7 [6,8]) (qj 6 7 2 0))) (gW 3 1 7 3 2)))))))) (tQ 7 2 0)))⟩
def vN:aD:=⟨2,6,1,[.var 3],[.raw],false,.seq (Dx 0 6 2 0 3 1) (.seq (.block 0 (.seq (rg [qe 0 2,iN 4 0,qw 8 rB 1,lQ 54 2 0,mr 3,qk 4 1,qs 4 0 2,HD 4 0 6,dH 4 1 7,(some (4,false),.call 15 lk [jP,ci 0,.r 8]),kB 4 9,qd 4 10,mr 11] 6 [4,12]) (.cond (.x 4) (VG 6 3 0) (.seq (rg [mx 1,rF 3 0 0,mr 1] 6 [5,2]) (.cond (.x 5) (.seq (rd [qh 4 2,qw 22 yb 0,qh 4 2,qw 24 pz 2,(none,.bin .sub 3 cL eY),mr 4] 6 [3,5]) .ret) .skip))))) (.seq (rg [mx 1,(none,tR 3 0 1),qh 4 2,qw 29 pz 2,(none,.bin .mul 3 cL eY),CG 3 1 4,mr 5] 6 [3,6]) .ret))⟩
def yi:aD:=⟨1,3,1,[.var 2],[.raw],false,.seq (Dx 0 3 1 0 2 1) (.seq (rd [kX,pC 0 0,gA,AH 3 2 1,qh 4 1,qw 8 pz 4,(none,.bin .mul 3 eY jP),CG 3 1 6,mr 7] 3 [2,8]) .ret)⟩
def tf:aD:=⟨3,7,0,[],[],false,.seq (dV 0 7 3 0) (.block 0 (.loop (.seq (.kill [4,5,6]) (.seq eD (.seq (.seq (rg [mx 3,ml 1 1,qn 1,AM] 7 [5,3]) (qm 5 0)) (.seq (.block 1 (.seq (rd [ml 1 2,ml 1 1,mx 3,(none,.sliceT 1 cL (some dJ) none none),qn 3,(none,.minMax false [bt,jO]),mr 5] 7 [4,6]) (.seq (rg [aJ,ml 1 1,mx 3,mx 3,mx 4,nH 3 3 4,mx 3,mx 4,nH 3 6 7,(none,.sliceT 1 cL (some dJ) (some jP) (some (.r 8))),(none,.callv 29 bt [.r 9]),eO 10] 7 [6,11]) (.cond (.x 6) .ret .skip)))) (rg [mx 3,ml 1 2,nH 3 0 1,mr 2] 7 [3,3])))))))⟩
def jR:aD:=⟨1,6,0,[.var 1],[.raw],false,.seq (qW 6 1 0) (.seq (rg [HF 5 5 1 0,mr 0] 6 [2,1]) (.seq (.seq (dV 0 6 3 0) (.block 0 (.loop (.seq (.kill [1,4,5]) (.seq eD (.seq (.seq (vL 3 3 0 60 6 4 1) (qm 4 0)) (.seq (.block 1 (.seq (rg [mx 3,aJ,qn 1,AM] 6 [5,3]) (.cond (.x 5) (rg [mx 2,aJ,mx 3,qy 1 1 2,nI,KG 19 5 1 1 0 1 4,j5 20 5 1 1 0 0 5,mr 6] 6 [2,7]) (rg [mx 2,(none,.bslice 22 5 1 1 [qt] [(0,(1,.c qt))]),j5 23 5 1 1 0 0 1,mr 2] 6 [2,3])))) (gW 3 1 6 3 2)))))))) (.seq (rg [mx 2,mx 2,qw 26 dU 1,FX 27 zW 0 2 4,mr 3] 6 [1,4]) .ret)))⟩
def CO:aD:=⟨1,7,1,[.var 2],[.raw],false,.seq (ye 7 1 0 2 1) (.seq (.seq (rg [kX,iN 4 0,qw 6 ki 1,lQ 54 2 0,mr 3,qs 4 5 1,dH 4 1 5,AG 4 6,qs 4 0 1,HD 4 0 8,dH 4 1 9,(some (4,false),AI 3 7 10),qd 4 11,mr 12,qs 13 0 1,(some (13,false),.load true 4 (.r 14)),qs 13 4 1,(some (13,false),.load true 1 (.r 16)),(some (13,false),.call 22 CF [.r 15,.r 17,ci 3]),kB 13 18,qd 13 19] 7 [4,20]) (qj 4 7 2 0)) (.seq (.seq (dV 0 7 3 0) (.block 0 (.loop (.seq (.kill [0,2,4,5,6]) (.seq eD (.seq (.seq (rg [mx 3,qe 5 1,gA,qn 2,xd 3 0 3] 7 [5,4]) (qm 5 0)) (.seq (.block 1 (.seq (rd [kX,iN 4 0,qe 5 1,oB,mx 3,qy 1 3 4,iN 1 5,FX 39 CF 1 6 1,eO 7] 7 [6,8]) (qj 6 7 2 0))) (gW 3 1 7 3 2)))))))) (tQ 7 2 0)))⟩
def pf:aD:=⟨2,19,4,[.var 4,.var 5],[.raw,.raw],false,.seq (rg [qx,CJ 2 1,qg,qb] 19 [2,0,3,1,4,2,5,3]) (.seq (rg [HF 14 5 1 0,HF 15 5 1 0,mr 0,mr 1] 19 [6,2,7,3]) (.seq (rg [(none,.bslice 16 4 1 0 [T.v (.bool false)] []),mr 0] 19 [8,1]) (.seq (.seq (dV 0 19 9 0) (.block 0 (.loop (.seq (.kill [0,1,4,5,10,11,12,13,14,15,16,17,18]) (.seq (.free [4,5,6,7]) (.seq (.seq (rg [mx 9,qe 0 3,gA,qn 2,xd 3 0 3] 19 [14,4]) (qm 14 0)) (.seq (.block 1 (.seq (rg [qe 0 3,cK,mx 9,qy 13 1 2,iN 13 3,Rt 4,ql 13 5 4] 19 [10,5]) (.seq (rg [qe 0 10,cK,qe 1 10,oB,qe 2 10,qv 1 4,qe 3 10,qv 1 6,qe 4 10,qv 1 8,qn 9,(none,.build (List.replicate 10 (T.v (.int .i64 0))) [(0,(1,cL)),(1,(1,eY)),(2,(1,jP)),(3,(1,.r 7)),(4,(1,.r 10))]),(none,.alloc 6 (List.replicate 10 (T.v (.int .i64 0)))),ql 10 12 11] 19 [11,12]) (.seq (.seq (dV 0 19 12 0) (.block 2 (.loop (.seq (.kill [0,1,4,5,13,14,15,16,17,18]) (.seq eD (.seq (.seq (vL 12 3 0 5 19 15 1) (qm 15 2)) (.seq (.block 3 (.seq (.seq (rg [qh 13 10,mx 12,jf 47 Mq 0 1,eO 2] 19 [16,3]) (.cond (.x 16) (.exit 3) .skip)) (.seq (rg [mx 8,(none,.bslice 50 4 1 1 [T.v (.bool false)] [(0,(1,.c (T.v (.bool true))))]),(none,.append 51 4 1 1 [T.v (.bool false)] 0 bt cL),mr 2] 19 [8,3]) (.seq (rg [mx 7,qh 13 10,mx 12,jf 55 kj 1 2,j5 56 5 1 1 0 0 3,mr 4] 19 [7,5]) (.seq (rg [mx 12,rF 3 0 4] 19 [17,1]) (.cond (.x 17) (rg [mx 8,qn 0,qe 9 11,ql 1 2 1] 19 []) (rg [mx 12,mx 8,qn 1,qe 5 11,(none,.iaddrA 4 1 eY bt),ql 1 4 2] 19 []))))))) (gW 12 1 19 12 2)))))))) (rg [mx 6,qh 10 11,qw 69 cZ 1,j5 70 5 1 1 0 0 2,mr 3] 19 [6,4]))))) (gW 9 1 19 9 2)))))))) (.seq (.seq (rg [mx 8,qn 0,qe 2 2,oB,(none,.bin .gtr 3 cL eY)] 19 [18,4]) (.cond (.x 18) (.seq (rg [qg,qb] 19 [4,0,5,1]) .ret) .skip)) (.seq (rg [mx 8,qw 77 QA 0,mx 6,j5 79 5 1 1 0 1 2,mr 3] 19 [13,4]) (.seq (rd [mx 13,mx 7,j5 82 5 1 1 0 0 1,qe 2 2,nI,mx 8,qn 5,(none,.bin .sub 3 jO (.r 6)),td 3 64 7,j5 89 5 1 1 2 2 8,mr 9,qq] 19 [4,10,5,11]) .ret))))))⟩
def CP:aD:=⟨0,1,0,[.var 0],[.raw],false,.seq (qW 1 0 0) (.seq (rg [(none,.bslice 1 5 1 5 [qt] [(0,(1,pa 74)),(1,(1,pa 82)),(2,(1,pa 78)),(3,(1,pa 76)),(4,(1,.c qt))]),qw 2 bP 0,mr 1] 1 [0,2]) .ret)⟩
def tV:aD:=⟨3,4,0,[.var 3],[.raw],false,.seq (mW 4 3 0) (.seq (rg [aJ,mx 1,(none,.bin .geq 3 bt cL),mr 2,qu 3 0,qu 3 2,(some (3,true),HE 3 4 5),qf 3 6,mr 7] 4 [3,8]) .ret)⟩
def pg:aD:=⟨1,3,2,[.cell 2 true 30],[.raw],false,.seq (rg [qx,(none,.alloc 2 (List.replicate 30 (T.v (.int .i64 0))))] 3 [1,0,2,1]) (.seq (rg [kX,cK,(none,.build [qa,qa,qa] [(0,(1,cL)),(1,(1,ci 1)),(2,(1,ci 4))]),qe 1 1,nI,(none,.build [qa,qa,qa] [(0,(1,jO)),(1,(1,ci 1)),(2,(1,ci 255))]),qe 2 1,qv 1 6,(none,.build [qa,qa,qa] [(0,(1,.r 7)),(1,(1,ci 2)),(2,(1,ci 65535))]),qe 3 1,qv 1 9,(none,.build [qa,qa,qa] [(0,(1,.r 10)),(1,(1,ci 4)),(2,(1,ci 268435455))]),qe 4 1,qv 1 12,(none,.build [qa,qa,qa] [(0,(1,.r 13)),(1,(1,ci 2)),(2,(1,ci 256))]),qe 5 1,(none,.iaddrA 4 1 (.r 15) (ci 0)),qv 1 16,(none,.build [qa,qa,qa] [(0,(1,.r 17)),(1,(1,ci 2)),(2,(1,ci 65535))]),qe 5 1,(none,.iaddrA 4 1 (.r 19) (ci 1)),qv 1 20,(none,.build [qa,qa,qa] [(0,(1,.r 21)),(1,(1,ci 2)),(2,(1,ci 65535))]),qe 5 1,(none,.iaddrA 4 1 (.r 23) (ci 2)),qv 1 24,(none,.build [qa,qa,qa] [(0,(1,.r 25)),(1,(1,ci 2)),(2,(1,ci 65535))]),qe 5 1,(none,.iaddrA 4 1 (.r 27) (ci 3)),qv 1 28,(none,.build [qa,qa,qa] [(0,(1,.r 29)),(1,(1,ci 2)),(2,(1,ci 65535))]),qe 9 1,qv 1 31,(none,.build [qa,qa,qa] [(0,(1,.r 32)),(1,(1,ci 2)),(2,(1,ci 65535))]),(none,.build (List.replicate 30 (T.v (.int .i64 0))) [(0,(3,dJ)),(3,(3,jP)),(6,(3,.r 8)),(9,(3,.r 11)),(12,(3,.r 14)),(15,(3,.r 18)),(18,(3,.r 22)),(21,(3,.r 26)),(24,(3,.r 30)),(27,(3,.r 33))]),iM 30 2 34] 3 []) .ret)⟩
def vO:aD:=⟨3,13,0,[.var 3,.var 4],[.raw,.raw],false,.seq (rg [mi 0,qb] 13 [3,0,4,1]) (.seq (.seq (rg [aJ,mx 1,mx 2,Dw 14 zX 0 1 2,eO 3] 13 [8,4]) (.cond (.x 8) (.seq (rg [mi 0,qb] 13 [3,0,4,1]) .ret) .skip)) (.seq (dV 0 13 5 0) (.seq (.seq (rg [aJ,mx 1,mx 1,mx 2,nH 3 2 3,(none,qdp 1 0 1 4),qn 5,mi 0] 13 [9,5,10,6,11,7]) (.block 0 (.loop (.seq (.kill [0,1,2,3,4,6,7,8,12]) (.seq eD (.seq (tP 3 11 10 13 12 0) (.seq (qm 12 0) (.seq (.block 1 (.seq (rg [mx 11,AJ 1 9 11,gA,mr 0,mr 2] 13 [6,3,7,4]) (rg [mx 5,mx 7,rC 1,mx 6,td 3 8 3,(none,.bin .shl 3 dJ jO),(none,.bin .or 3 bt jP),mr 6] 13 [5,7]))) (o9 3 11 1 0 13 11 1))))))))) (.seq (rg [mx 5,mr 0,qq] 13 [3,1,4,2]) .ret))))⟩
def oE:aD:=⟨1,9,2,[.var 2],[.raw],false,.seq (ye 9 1 0 2 1) (.seq (.seq (rg [qh 10 1,(none,.build (List.replicate 10 (T.v (.int .i64 0))) []),(none,qcj)] 9 [4,2]) (.cond (.x 4) (tQ 9 2 0) .skip)) (.seq (.seq (rg [qh 10 1,qw 9 mj 0,mi 0] 9 [5,1,6,2]) (.block 0 (.loop (.seq (.kill [0,2,3,4,7,8]) (.seq (.free [2,3]) (.seq (VL 3 6 10 9 7 0) (.seq (qm 7 0) (.seq (.block 1 (.seq (rg [(none,.indexA 10 3 true (.x 5) (.x 6)),(none,.alloc 2 [qa,qa,qa]),ql 3 1 0] 9 [3,1]) (.seq (rg [za 3 1 3 0,cK,(none,uT 3 1 0),mr 2,(some (3,false),.iaddrA 3 1 (.x 3) (ci 0)),dH 3 1 4,(some (3,false),.iaddrA 3 1 (.x 3) (ci 2)),dH 3 1 6,FV 3 3 5 7,qd 3 8] 9 [8,9]) (qj 8 9 2 0)))) (o9 3 6 1 0 9 6 1))))))))) (.seq (rg [qh 10 1,qw 25 zY 0,eO 1,mr 2] 9 [2,3]) .ret)))⟩
def vP:aD:=⟨3,6,3,[.var 3],[.raw],false,.seq (rg [(none,.thaw 6 5 1 (.c qo))] 6 [3,0]) (.seq (rg [aJ,(none,.callnew 9 [0] oY [bt]),mr 1] 6 [4,2]) (.seq (.seq (rg [mx 1,mx 2,jf 12 zZ 0 1,eO 2] 6 [5,3]) (.cond (.x 5) (.seq (rg [mx 4,(none,.thaw 6 5 1 bt)] 6 [3,1]) .ret) .skip)) (.seq (rg [mx 4,mx 2,(none,.appendB 2 5 1 1 [qt] 2 bt cL),mr 2] 6 [4,3]) (.seq (rg [mx 4,aJ,qn 1,(none,.sliceT 1 bt (some dJ) none none),mx 1,(none,.callio 23 [] KD [eY,jO])] 6 []) (.seq (rg [mx 4,(none,.thaw 6 5 1 bt)] 6 [3,1]) .ret)))))⟩
def qG:aD:=⟨1,3,1,[.var 1],[.raw],false,.seq (qW 3 1 0) (.seq (rg [(none,.alloc 0 (List.replicate 60 (T.v (.int .u8 0))))] 3 [2,0]) (.seq (rg [Rx 60 1 2,aJ,(none,.copy 1 bt cL)] 3 []) (.seq (rd [Rx 60 1 2,Rx 60 1 2,qw 9 pA 1,FX 10 jM 0 2 4,mr 3] 3 [1,4]) .ret)))⟩
def sC:aD:=⟨1,2,0,[.var 1],[.raw],false,qcd⟩
def sD:aD:=⟨2,3,0,[.var 2],[.raw],false,qax⟩
def sE:aD:=⟨2,6,0,[.var 2],[.raw],false,.seq (qW 6 2 0) (.seq (rg [HF 7 5 1 0,mr 0] 6 [3,1]) (.seq (.seq (dV 0 6 4 0) (.block 0 (.loop (.seq (.kill [2,5]) (.seq eD (.seq (.seq (rg [mx 4,mx 1,xd 3 0 1] 6 [5,2]) (qm 5 0)) (.seq (.block 1 (.seq (rg [mx 3,aJ,(none,.bin .rem 3 cL (ci 256)),uU 2,KG 17 5 1 1 0 1 3,j5 18 5 1 1 0 0 4,mr 5] 6 [3,6]) (rg [aJ,(none,.bin .quo 3 bt (ci 256)),mr 1] 6 [0,2]))) (gW 4 1 6 4 2)))))))) (yd 3 0 6 2 1)))⟩
def CQ:aD:=⟨4,9,1,[.var 4],[.raw],false,.seq (mW 9 4 0) (.seq (.seq KF (.block 0 (.loop (.seq (.kill [0,1,4,5,7,8]) (.seq (.free [0,1]) (.seq KF (.seq (qm 7 0) (.block 1 (.seq KF (.seq (rg [qh 2 5,mx 2,mx 3,(none,qdx 0 1 1 1 1 2),(none,.eqa false [.int,.int] bt eY)] 9 [8,4]) (.cond (.x 8) (tQ 9 4 0) .skip))))))))))) (.seq (mW 9 4 0) .ret))⟩
def mn:aD:=⟨1,3,0,[.var 1],[.raw],true,.seq (qW 3 1 0) (.seq (.seq (rg [aJ,(none,.eqnil false bt)] 3 [2,1]) (FU 2 3 1 0)) (.seq (rg [(none,.bslice 5 3 1 0 [qa] []),aJ,M3 7 3 1 8 0 0 1,mr 2] 3 [1,3]) .ret))⟩
def mo:aD:=⟨2,15,1,[],[],false,.kz (.seq .skip (.seq (rg [ml 1 1,qn 0,mi 0] 15 [6,0,7,1,8,2]) (.block 0 (.loop (.seq (.kill [1,2,3,4,5,9,10,11,12,13,14]) (.seq (.free [0,1]) (.seq (tP 3 8 7 15 9 0) (.seq (qm 9 0) (.seq (.block 1 (.seq (rg [mx 8,AJ 10 6 8,iN 10 1,(none,.alloc 0 (List.replicate 10 (T.v (.int .i64 0)))),mr 0,ql 10 3 2] 15 [2,4,3,3]) (.seq (rd [qe 5 3,(none,.sliceA 4 1 bt none none),qw 16 fK 1,qe 9 3,nI,M1 19 3 1 1 0 1 4,M3 20 3 1 8 0 2 5,qn 6,mi 0] 15 [10,6,11,7,12,8]) (.block 2 (.loop (.seq (.kill [1,3,4,5,9,13,14]) (.seq eD (.seq (tP 3 12 11 15 13 0) (.seq (qm 13 2) (.seq (.block 3 (.seq (rg [mx 12,AJ 1 10 12,gA,mr 0,mr 2] 15 [4,3,5,4]) (.seq (rg [mx 5,lQ 3 0 0,mr 1,qu 2 0,qu 2 2,(some (2,true),.bin .add 3 jO (ci 1)),qu 2 4,(some (2,true),qdx 0 1 5 1 1 6),qu 2 5,(some (2,true),tR 3 8 1),(some (2,true),.callv 37 eY [.r 7,.r 9]),(some (2,true),VE 10),qf 2 11] 15 [14,12]) (.cond (.x 14) (.exit 0) .skip)))) (o9 3 12 1 0 15 12 1))))))))))) (o9 3 8 1 0 15 8 1))))))))))⟩
def tW:aD:=⟨1,7,2,[.var 2,.var 3],[.raw,.raw],false,.seq (rg [qx,qg,mi 0] 7 [1,0,2,1,3,2]) (.seq (.seq (rg [qh 7 1,qw 7 yc 0,eO 1] 7 [6,2]) (qde 6 1 7 2 0 3 1)) (.seq (rg [(none,.alloc 2 (List.replicate 24 (T.v (.int .u8 0))))] 7 [4,0]) (.seq (rd [Rx 24 1 4,qe 2 1,gA,(none,.copy 1 bt dJ)] 7 []) (.seq (rd [kX,cK,uU 1,qe 1 1,nI,uU 4,qe 2 1,qv 1 6,(none,zd 7),uU 8,(none,.bslice 23 5 1 3 [qt] [(0,(1,dJ)),(1,(1,jP)),(2,(1,.r 9))]),Rx 24 1 4,j5 25 5 1 1 0 10 11,mr 12] 7 [5,13]) (.seq (rd [mx 5,qe 3 1,pC 0 1,oB,FX 30 jM 0 3 1,qe 3 1,pC 1 5,qv 1 6,FX 34 jM 4 7 2,qe 3 1,pC 2 9,qv 1 10,FX 38 jM 8 11 4,mr 12] 7 [5,13]) (.seq (rg [mx 5,qe 6 1,gA,FX 42 jM 0 2 2,qw 43 iV 3,mr 4,mi 0] 7 [2,5,3,6]) .ret))))))⟩
def jE:aD:=⟨2,11,2,[.cell 2 true 3,.var 3,.var 4],[.raw,.raw,.raw],false,.seq (rg [KH 0,qb,qb] 11 [2,0,3,1,4,2]) (.seq (.seq (rg [aJ,qn 0,lQ 3 1 16] 11 [8,2]) (.cond (.x 8) (.seq (rg [Rv,iM 3 2 0,qb,qb] 11 [3,2,4,3]) .ret) .skip)) (.seq (.seq (rg [aJ,(none,.arrOf 16 bt),iN 16 1,(none,.build (List.replicate 16 (T.v (.int .u8 0))) []),(none,.eqa false [.int,.int,.int,.int,.int,.int,.int,.int,.int,.int,.int,.int,.int,.int,.int,.int] dJ eY)] 11 [9,4]) (.cond (.x 9) (.seq (rg [Rv,iM 3 2 0,qb,qq] 11 [3,2,4,3]) .ret) .skip)) (.seq (rg [mx 1,(none,.build [qa,qa,qp] [(0,(1,bt))]),KH 2,ql 3 2 1] 11 [5,2]) (.seq (rg [aJ,AK 24 pw 0 0 2,mr 1,qi 2 0,qi 2 1,qe 1 5,ql 1 5 3] 11 []) (.seq (rg [aJ,(none,.sliceT 1 bt (some (ci 2)) none none),qw 31 wN 1,mr 2,qi 3 0,qi 3 1,qe 2 5,ql 1 6 4] 11 []) (.seq (rg [qh 3 5,qw 37 kW 0,mr 1,qi 2 0,qi 2 1,mr 3,mr 4] 11 [6,5,7,6]) (.seq (.seq (rg [mx 7,lQ 54 0 0,mr 1,qk 2 0,qk 2 6,Dv 2 45 cY 3 4,kB 2 5,qd 2 6] 11 [10,7]) (.cond (.x 10) (.seq (rg [Rv,iM 3 2 0,qb,qb] 11 [3,2,4,3]) .ret) .skip)) (.seq (rg [qh 3 5,iM 3 2 0,qq,qq] 11 [3,2,4,3]) .ret))))))))⟩
def gC:aD:=⟨2,3,0,[.var 2],[.raw],false,.seq (mW 3 2 0) (.seq (rg [aJ,mx 1,jf 7 ll 0 1,(none,CI 3 2 0),mr 3] 3 [2,4]) .ret)⟩
def jF:aD:=⟨2,4,1,[.var 3],[.raw],false,.seq (ye 4 2 0 3 1) (.seq (rg [qe 2 2,cK,qe 2 1,oB,(none,AL 9 1 3),mr 4] 4 [3,5]) .ret)⟩
def fg:aD:=⟨1,7,2,[.var 2],[.raw],false,.seq (ye 7 1 0 2 1) (.seq (.seq (rg [kX,cK,(none,rD 6 fV 1 31),eO 2,mr 3,qs 4 1 1,dH 4 1 5,yf 4 11 fV 6 255,kB 4 7,qd 4 8,mr 9,qs 10 6 1,dH 10 1 11,yf 10 17 fV 12 65535,kB 10 13,qd 10 14,mr 15,qs 16 2 1,dH 16 1 17,(some (16,false),zd 18),yf 16 24 fV 19 24,kB 16 20,qd 16 21] 7 [4,22]) (qj 4 7 2 0)) (.seq (rg [qe 3 1,iN 3 0,(none,.alloc 2 [qa,qa,qa]),ql 3 2 1] 7 [3,2]) (.seq (.seq (rg [qe 0 3,cK,(none,rD 31 fV 1 255),eO 2,mr 3,qs 4 1 3,dH 4 1 5,yf 4 36 fV 6 65535,kB 4 7,qd 4 8,mr 9,qs 10 2 3,dH 10 1 11,yf 10 42 fV 12 268435455,kB 10 13,qd 10 14] 7 [5,15]) (qj 5 7 2 0)) (.seq (.seq (rd [kX,cK,(none,rD 47 iP 1 1),eO 2,mr 3,qz 4 1 1,gJ 4 1 5,KE 4 3 6 0,qf 4 7,mr 8,qs 9 0 1,dH 9 1 10,yf 9 57 iP 11 2,qs 9 2 1,dH 9 1 13,(some (9,false),zd 14),AF 9 3 15 0,(some (9,false),.eqb true (.r 12) (.r 16)),qd 9 17] 7 [6,18]) (qj 6 7 2 0)) (.seq (rg [kX,cK,(none,rD 66 iP 1 4),mr 2,xe 3 3 3,(some (3,false),.build [qa,qa,qa] []),(some (3,false),.eqa false [.int,.int,.int] jO jP),qd 3 6,mr 7,qz 8 0 1,gJ 8 1 9,(some (8,true),rD 75 iP 10 8),(some (8,true),.mv (.r 11)),qs 12 6 1,dH 12 1 13,(some (12,false),tO 3 14 0),(some (8,true),.pick (.r 12) (.c (T.v (.bool true))) (.r 15)),qf 8 16,mr 17] 7 [2,18]) .ret)))))⟩
def sF:aD:=⟨1,7,1,[.var 2],[.raw],false,.seq (HG 7 1 0 2 1) (.seq (rg [kX,cK,uU 1,qe 1 1,nI,uU 4,qe 2 1,qv 1 6,(none,zd 7),uU 8,(none,.bslice 15 5 1 3 [qt] [(0,(1,dJ)),(1,(1,jP)),(2,(1,.r 9))]),mr 10] 7 [3,11]) (.seq (.seq (dV 0 7 4 0) (.block 0 (.loop (.seq (.kill [0,2,5,6]) (.seq eD (.seq (.seq (vL 4 3 0 24 7 5 1) (qm 5 0)) (.seq (.block 1 (.seq (rg [mx 4,qe 2 1,gA,(none,zd 2),xd 3 0 3] 7 [6,4]) (.cond (.x 6) (rg [mx 3,qe 2 1,gA,mx 4,(none,.indexS dJ eY),KG 30 5 1 1 0 1 4,j5 31 5 1 1 0 0 5,mr 6] 7 [3,7]) (rg [mx 3,(none,.bslice 33 5 1 1 [qt] [(0,(1,.c qt))]),j5 34 5 1 1 0 0 1,mr 2] 7 [3,3])))) (gW 4 1 7 4 2)))))))) (.seq (rg [mx 3,qe 3 1,pC 0 1,oB,uU 3,KG 40 5 1 1 0 1 4,j5 41 5 1 1 0 0 5,mr 6] 7 [3,7]) (.seq (rg [mx 3,qe 3 1,pC 1 1,oB,(none,rD 46 dQ 3 2),j5 47 5 1 1 0 0 4,mr 5] 7 [3,6]) (.seq (rg [mx 3,qe 3 1,pC 2 1,oB,(none,rD 52 dQ 3 4),j5 53 5 1 1 0 0 4,mr 5] 7 [3,6]) (.seq (rg [mx 3,qe 6 1,gA,(none,rD 57 dQ 2 2),j5 58 5 1 1 0 0 3,qw 59 bP 4,mr 5] 7 [2,6]) .ret))))))⟩
def rK:aD:=⟨2,12,2,[.cell 2 true 3,.var 3,.var 4],[.raw,.raw,.raw],false,.seq (rg [KH 0,qb,qb] 12 [2,0,3,1,4,2]) (.seq (.seq (rg [aJ,(none,.mkSlice 13 5 1 1 [qt] (ci 16)),jf 14 fe 0 1] 12 [9,2]) (.cond (.x 9) (.seq (rg [Rv,iM 3 2 0,qb,qq] 12 [3,2,4,3]) .ret) .skip)) (.seq (.seq (rg [aJ,qn 0,lQ 3 1 16] 12 [10,2]) (.cond (.x 10) (.seq (rg [Rv,iM 3 2 0,qb,qb] 12 [3,2,4,3]) .ret) .skip)) (.seq (rg [aJ,AK 22 gH 0 0 2,mr 1,qi 2 0,qi 2 1,mr 3,mr 4] 12 [5,5]) (.seq (rg [aJ,(none,.sliceT 1 bt (some (ci 2)) none none),qw 28 u9 1,mr 2,qi 3 0,qi 3 1,mr 4,mr 5] 12 [6,6,7,7]) (.seq (rg [mx 1,mx 5,mx 6,(none,.build [qa,qa,qp] [(0,(1,bt)),(1,(1,cL)),(2,(1,dJ))]),KH 2,ql 3 4 3] 12 [8,4]) (.seq (.seq (rg [mx 7,eO 0,mr 1,xe 2 3 8,FW 2 39 oA 3,kB 2 4,qd 2 5] 12 [11,6]) (.cond (.x 11) (.seq (rg [Rv,iM 3 2 0,qb,qb] 12 [3,2,4,3]) .ret) .skip)) (.seq (rg [qh 3 8,iM 3 2 0,qq,qq] 12 [3,2,4,3]) .ret)))))))⟩
def lp:aD:=⟨4,10,1,[.var 5],[.raw],false,.seq (ye 10 4 0 5 1) (.seq (.seq (rg [qe 1 4,cK,mx 2,(none,HE 3 1 2),mr 3,qs 4 1 4,dH 4 1 5,FY 4 3 6 1,qd 4 7,mr 8,qs 9 1 4,dH 9 1 10,qk 9 1,AG 9 12,FV 9 3 11 13,qd 9 14,mr 15,qk 16 1,qs 16 1 4,dH 16 1 18,(some (16,false),tR 3 19 1),(some (16,false),.iaddrS 10 (.r 17) (.r 20)),HD 16 0 21,dH 16 1 22,(some (16,false),tO 3 23 0),qd 16 24] 10 [7,25]) (qj 7 10 5 0)) (.seq (.seq (dV 0 10 6 0) (.block 0 (.loop (.seq (.kill [0,1,2,5,7,8,9]) (.seq eD (.seq (.seq (rg [mx 6,mx 3,qn 1,AM] 10 [8,3]) (qm 8 0)) (.seq (.block 1 (.seq (rd [mx 3,mx 6,qy 3 0 1,pC 2 2,nI,qe 2 4,qv 1 5,(none,AL 9 4 6)] 10 [9,7]) (qj 9 10 5 0))) (gW 6 1 10 6 2)))))))) (tQ 10 5 0)))⟩
def vQ:aD:=⟨1,3,1,[.var 2],[.raw],false,.seq (Dx 0 3 1 0 2 1) (.seq (rg [kX,pC 1 0,gA,CG 3 1 2,kX,pC 2 4,qv 1 5,nH 3 3 6,mr 7] 3 [2,8]) .ret)⟩
def rL:aD:=⟨3,6,0,[.var 3],[.raw],false,.seq (qW 6 3 0) (.seq (rg [HF 8 5 1 0,aJ,j5 10 5 1 1 0 0 1,mr 2] 6 [4,3]) (.seq (.seq (rg [mx 1,mx 2,jf 13 wO 0 1] 6 [5,2]) (.cond (.x 5) (rg [mx 4,mx 1,mx 2,jf 17 dQ 1 2,j5 18 5 1 1 0 0 3,mr 4] 6 [4,5]) .skip)) (yd 4 0 6 3 1)))⟩
def mq:aD:=⟨1,4,0,[.var 1],[.raw],false,.seq (dV 0 4 1 0) (.seq (rg [aJ,qw 7 cR 0,mr 1,qi 2 0,qi 2 1,mr 3,mr 4] 4 [2,5,3,6]) (.seq (rg [mx 2,mx 3,td 3 65536 1,nH 3 0 2,mr 3] 4 [1,4]) .ret))⟩
def CS:aD:=⟨3,10,2,[.var 5],[.raw],false,.seq (rg [qx,CJ 2 1,qb] 10 [3,0,4,1,5,2]) (.seq (.seq (rg [qe 0 4,cK,qn 1,qe 1 3,nI,(none,AI 3 2 4)] 10 [7,5]) (qj 7 10 5 0)) (.seq (.seq (dV 0 10 6 0) (.block 0 (.loop (.seq (.kill [0,1,3,5,7,8,9]) (.seq eD (.seq (.seq (rg [mx 6,qe 0 4,gA,qn 2,xd 3 0 3] 10 [8,4]) (qm 8 0)) (.seq (.block 1 (.seq (rd [qh 1 4,qe 0 4,gA,mx 6,qy 13 2 3,iN 13 4,mx 2,Dw 28 MV 0 5 6,eO 7] 10 [9,8]) (qj 9 10 5 0))) (gW 6 1 10 6 2)))))))) (tQ 10 5 0)))⟩
def CT:aD:=⟨2,8,1,[.var 3],[.raw],false,.seq (ye 8 2 0 3 1) (.seq (.seq (rg [mx 1,rF 3 0 4] 8 [5,1]) (.cond (.x 5) (.seq (rg [qe 6 2,iN 7 0,(none,.build [qa,qa,qp,qa,qa,qa,qa] []),(none,.eqa true [.int,.int,.str,.int,.int,.int,.int] cL dJ),mr 3] 8 [3,4]) .ret) .skip)) (.seq (.seq (dV 0 8 4 0) (.block 0 (.loop (.seq (.kill [0,3,5,6,7]) (.seq eD (.seq (.seq (rg [mx 4,qe 5 2,gA,qn 2,xd 3 0 3] 8 [6,4]) (qm 6 0)) (.seq (.block 1 (.seq (rg [qe 5 2,cK,mx 4,qy 3 1 2,pC 0 3,qv 1 4,(none,.bin .quo 3 jP (ci 4)),mx 1,(none,AL 3 6 7)] 8 [7,8]) (.cond (.x 7) (tQ 8 3 0) .skip))) (gW 4 1 8 4 2)))))))) (.seq (rg [qe 4 2,cK,qn 1,mx 1,td 3 64 3,(none,.bin .gtr 3 dJ jO),mr 5] 8 [3,6]) .ret)))⟩
def sG:aD:=⟨2,10,1,[.var 3],[.raw],false,.seq (HG 10 2 0 3 1) (.seq (.seq (rg [mx 1,rF 3 0 4] 10 [6,1]) (.cond (.x 6) (.seq (rg [qe 6 2,iN 7 0,qw 11 sw 1,mr 2] 10 [3,3]) .ret) .skip)) (.seq (.seq (rg [qe 0 2,cK,rF 3 1 1] 10 [7,2]) (.cond (.x 7) (.seq (rg [qe 5 2,cK,mx 1,jf 18 Mr 1 2,mr 3] 10 [3,4]) .ret) .skip)) (.seq (rg [HF 19 5 1 0,mr 0] 10 [4,1]) (.seq (.seq (rg [mx 1,td 3 64 0,mr 1] 10 [5,2]) (.block 0 (.loop (.seq (.kill [0,3,6,7,8,9]) (.seq eD (.seq (.seq (rg [mx 5,mx 1,td 3 64 1,AH 3 2 64,xd 3 0 3] 10 [8,4]) (qm 8 0)) (.seq (.block 1 (.seq (rg [mx 5,qe 4 2,gA,qn 2,xd 3 0 3] 10 [9,4]) (.cond (.x 9) (rg [mx 4,qe 4 2,gA,mx 5,qy 1 2 3,qv 1 4,KG 40 5 1 1 0 1 5,j5 41 5 1 1 0 0 6,mr 7] 10 [4,8]) (rg [mx 4,(none,.bslice 43 5 1 1 [qt] [(0,(1,.c qt))]),j5 44 5 1 1 0 0 1,mr 2] 10 [4,3])))) (gW 5 1 10 5 2)))))))) (yd 4 0 10 3 1)))))⟩
def F3:aD:=⟨1,9,2,[.var 1],[.raw],false,.seq (rg [(none,.thaw 2 5 1 (.c qo))] 9 [1,0]) (.seq (rg [(none,.mkBox 0 1 1 [qt] (ci 64)),mr 0] 9 [2,1]) (.seq (.seq (dV 0 9 3 0) (.block 0 (.loop (.seq (.kill [1,4,5,6,7,8]) (.seq eD (.seq (.seq (rg [mx 3,aJ,qn 1,AM,mr 3,qu 4 3,(some (4,true),uT 3 5 512),qf 4 6] 9 [6,7]) (qm 6 0)) (.seq (.block 1 (.seq (rg [aJ,mx 3,qy 1 0 1,oB] 9 [7,3]) (.cond (.x 7) (.seq (dV 1 9 4 0) (.seq (.seq (dV 0 9 5 0) (.block 2 (.loop (.seq (.kill [1,6,7,8]) (.seq eD (.seq (.seq (rg [mx 5,mx 3,(none,.bin .rem 3 cL (ci 8)),AM] 9 [8,3]) (qm 8 2)) (.seq (.block 3 (rg [mx 4,(none,.bin .mul 3 bt (ci 2)),mr 1] 9 [4,2])) (gW 5 1 9 5 2)))))))) (rg [mx 2,mx 3,(none,.bin .quo 3 cL (ci 8)),mx 2,mx 3,(none,.bin .quo 3 jO (ci 8)),qy 1 3 5,qv 1 6,mx 4,uU 8,nH 5 7 9,qy 1 0 2,ql 1 11 10] 9 []))) .skip))) (gW 3 1 9 3 2)))))))) (.seq (rg [mx 2,(none,.thaw 2 5 1 bt)] 9 [1,1]) .ret)))⟩
def rM:aD:=⟨3,4,0,[.var 3],[.raw],false,.seq (mW 4 3 0) (.seq (rg [mx 2,qw 8 vv 0,mr 1,qu 2 1,(some (2,true),CI 3 3 0),qf 2 4,mr 5,qu 6 1,qu 6 0,y9 6 8,(some (6,true),HE 3 7 9),qf 6 10,mr 11,qu 12 0,y9 12 13,qu 12 1,(some (12,true),.bin .sub 3 (.r 14) (.r 15)),qu 12 2,(some (12,true),.bin .geq 3 (.r 16) (.r 17)),qf 12 18,mr 19] 4 [3,20]) .ret)⟩
def oR:aD:=⟨1,7,2,[.var 2],[.raw],false,.seq (ye 7 1 0 2 1) (.seq (rg [(none,.build [qa,qa,qa,qa] []),Rw 2,ql 4 1 0] 7 [3,1]) (.seq (.seq (rg [kX,cK] 7 [4,1]) (.block 0 (.seq (rg [(none,.bin .eql 3 (.x 4) (ci 1)),mr 0] 7 [5,1]) (.cond (.x 5) (.seq (rg [qe 4 1,cK,lQ 3 1 0,mr 2] 7 [2,3]) .ret) (.seq (rg [(none,.bin .eql 3 (.x 4) (ci 4)),mr 0] 7 [6,1]) (.cond (.x 6) (.seq (rg [qe 4 1,cK,lQ 3 1 0,mr 2,qs 3 5 1,(some (3,false),.load true 4 jO),xe 3 4 3,(some (3,false),.eqa true [.int,.int,.int,.int] jP (.r 6)),qd 3 7,mr 8] 7 [2,9]) .ret) .skip)))))) (.seq (rg [kX,cK,rF 3 1 0,mr 2] 7 [2,3]) .ret)))⟩
def oS:aD:=⟨2,3,0,[.var 2],[.raw],false,.seq (mW 3 2 0) (.seq (rg [mx 1,qw 6 vv 0,mr 1,qu 2 0,(some (2,true),CI 3 3 0),qf 2 4,mr 5,qu 6 0,qu 6 1,(some (6,true),.bin .mul 3 (ci 8) (.r 8)),(some (6,true),.bin .shr 3 (.r 7) (.r 9)),(some (6,true),tO 3 10 0),qf 6 11,mr 12] 3 [2,13]) .ret)⟩
def ze:aD:=⟨2,6,0,[],[],false,.seq (rg [aJ,qn 0,mi 0] 6 [3,1,4,2]) (.block 0 (.loop (.seq (.kill [2,5]) (.seq eD (.seq (tP 3 4 3 6 5 0) (.seq (qm 5 0) (.seq (.block 1 (.seq (rg [mx 4,mr 0] 6 [2,1]) (rg [aJ,mx 2,mx 1,mx 2,td 3 8 3,(none,.bin .shr 3 dJ jO),uU 5,qy 1 0 1,ql 1 7 6] 6 []))) (o9 3 4 1 0 6 4 1))))))))⟩
def vb:aD:=⟨1,3,0,[.var 1],[.raw],false,.seq (dV 0 3 1 0) (.seq (rg [aJ,qw 5 BK 0,mr 1] 3 [2,2]) (.seq (rg [mx 2,(none,.part 0 bt),rC 1,mx 2,(none,.part 1 eY),rC 4,(none,.bin .shl 3 jP (.c (T.v (.int .u64 16)))),(none,.bin .or 3 dJ (.r 6)),mr 7] 3 [1,8]) .ret))⟩
def fL:aD:=⟨1,5,1,[.var 2],[.raw],false,.seq (ye 5 1 0 2 1) (.seq (.seq (rg [kX,cK,(none,rD 5 gS 1 31),eO 2,mr 3,qs 4 1 1,dH 4 1 5,yf 4 10 gS 6 255,kB 4 7,qd 4 8,mr 9,qs 10 6 1,dH 10 1 11,yf 10 16 gS 12 65535,kB 10 13,qd 10 14,mr 15,qs 16 2 1,dH 16 1 17,(some (16,false),zd 18),AF 16 3 19 24,qd 16 20] 5 [3,21]) (qj 3 5 2 0)) (.seq (.seq (rg [qe 3 1,pC 0 0,gA,(none,rD 28 gS 2 255),eO 3,mr 4,qs 5 3 1,HD 5 1 6,dH 5 1 7,yf 5 34 gS 8 65535,kB 5 9,qd 5 10,mr 11,qs 12 3 1,HD 12 2 13,dH 12 1 14,yf 12 41 gS 15 268435455,kB 12 16,qd 12 17] 5 [4,18]) (qj 4 5 2 0)) (.seq (rd [qh 7 1,kX,gA,(none,.bin .andNot 3 (ci 31) dJ),jf 48 z6 0 3,qh 7 1,(none,qdj 4 5),mr 6,qz 7 0 1,gJ 7 1 8,(some (7,true),.bin .and 3 (.r 9) (ci 2)),KE 7 3 10 0,qz 7 2 1,gJ 7 1 12,(some (7,true),.bin .neq 9 (.r 13) (.c qp)),(some (7,true),.eqb false (.r 11) (.r 14)),qf 7 15,mr 16] 5 [2,17]) .ret)))⟩
def oF:aD:=⟨1,6,0,[.var 1,.var 2],[.raw,.raw],false,.seq (rg [(none,.mv (.c qp)),qb] 6 [1,0,2,1]) (.seq (.seq (rg [aJ,qn 0,lQ 3 1 14,mr 2,qk 3 0,(some (3,false),rE 1 4 0),dH 3 1 5,(some (3,false),.bin .gtr 5 (.r 6) (pa 12)),qd 3 7] 6 [4,8]) (VF 4 6 1 0 2 1)) (.seq (rg [aJ,aJ,(none,rE 1 1 0),oB,(none,.bin .add 5 (pa 1) eY),VI 1 0 1 4,(none,.toStr jP),mr 6] 6 [3,7]) (.seq (.seq (rg [mx 3,qw 22 pB 0,eO 1,mr 2,qk 3 3,FW 3 26 vw 4,qk 3 0,Dv 3 28 cY 5 6,kB 3 7,qd 3 8] 6 [5,9]) (VF 5 6 1 0 2 1)) (.seq (rg [mx 3,mr 0,qq] 6 [1,1,2,2]) .ret))))⟩
def oT:aD:=⟨1,5,1,[.var 2,.var 3],[.raw,.raw],false,.seq (rg [qx,qg,mi 0] 5 [1,0,2,1,3,2]) (.seq (.seq (rg [qh 3 1,qw 5 wP 0,eO 1] 5 [4,2]) (qde 4 1 5 2 0 3 1)) (.seq (rd [qe 1 1,cK,(none,.call 9 jM [.c qo,cL,ci 2]),qe 2 1,nI,qw 12 vw 4,j5 13 5 1 1 0 2 5,mr 6,mi 0] 5 [2,7,3,8]) .ret))⟩
def iX:aD:=⟨2,8,0,[.var 2],[.raw],false,.seq (dV 0 8 2 0) (.seq (.seq (rg [aJ,qn 0,mi 0] 8 [4,1,5,2]) (.block 0 (.loop (.seq (.kill [2,3,6,7]) (.seq eD (.seq (tP 3 5 4 8 6 0) (.seq (qm 6 0) (.seq (.block 1 (.seq (rg [mx 5,mr 0] 8 [3,1]) (.seq (rg [mx 1,aJ,mx 3,qy 3 1 2,iN 3 3,(none,.callv 16 bt [jO])] 8 [7,5]) (.cond (.x 7) (yd 3 0 8 2 1) .skip)))) (o9 3 5 1 0 8 5 1))))))))) (VG 8 2 0))⟩
def sH:aD:=⟨2,3,0,[.var 2],[.raw],false,qax⟩
def vz:aD:=⟨2,3,0,[.var 2],[.raw],false,.seq (mW 3 2 0) (.seq (rg [aJ,mx 1,(none,.bin .quo 3 bt cL),(none,.bin .rem 3 dJ (ci 2)),rF 3 3 1,mr 4] 3 [2,5]) .ret)⟩
def nk:aD:=⟨1,10,0,[.var 1,.var 2],[.raw,.raw],false,.seq (rg [(none,.mv (.c qp)),qb] 10 [1,0,2,1]) (.seq (.seq (rg [aJ,qn 0,lQ 3 1 14,mr 2,qk 3 0,(some (3,false),rE 1 4 0),dH 3 1 5,(some (3,false),.toInt .i64 (.r 6)),AF 3 3 7 12,qd 3 8] 10 [6,9]) (VF 6 10 1 0 2 1)) (.seq (rg [aJ,aJ,(none,rE 1 1 0),oB,rC 3,CG 3 1 4,VI 1 0 1 5,(none,.toStr (.r 6)),mr 7] 10 [3,8]) (.seq (rg [mx 3,qw 26 tN 0,mr 1] 10 [4,2]) (.seq (.seq (rg [mx 4,qn 0,lQ 3 1 14] 10 [7,2]) (VF 7 10 1 0 2 1)) (.seq (.seq (dV 0 10 5 0) (.block 0 (.loop (.seq (.kill [1,2,6,7,8,9]) (.seq eD (.seq (.seq (vL 5 3 0 14 10 8 1) (qm 8 0)) (.seq (.block 1 (.seq (rd [mx 4,mx 5,qy 1 0 1,oB,aJ,mx 5,qy 1 4 5,qv 1 6,(none,AI 5 3 7)] 10 [9,8]) (VF 9 10 1 0 2 1))) (gW 5 1 10 5 2)))))))) (.seq (rg [mx 3,mr 0,qq] 10 [1,1,2,2]) .ret))))))⟩
def sI:aD:=⟨1,3,1,[.var 2],[.raw],false,.seq (ye 3 1 0 2 1) (.seq (rg [kX,cK,(none,CI 3 1 0),mr 2,qz 3 0 1,gJ 3 1 4,(some (3,true),uT 3 5 16),qf 3 6,mr 7,qz 8 1 1,gJ 8 1 9,(some (8,true),CI 3 10 1),qf 8 11,mr 12,qz 13 1 1,gJ 13 1 14,(some (13,true),KI 3 15 65535),qf 13 16,mr 17,qz 18 2 1,gJ 18 1 19,(some (18,true),.call 24 sx [.r 20]),qf 18 21,mr 22] 3 [2,23]) .ret)⟩
def l6:aD:=⟨2,7,0,[.var 2],[.raw],false,.seq (mW 7 2 0) (.seq (.seq (rg [mx 1,qw 8 sr 0,eO 1,mr 2,qk 3 0,FY 3 3 4 0,qd 3 5] 7 [5,6]) (qj 5 7 2 0)) (.seq (dV 1 7 3 0) (.seq (.seq (dV 0 7 4 0) (.block 0 (.loop (.seq (.kill [2,5,6]) (.seq eD (.seq (.seq (rg [mx 4,mx 1,xd 3 0 1] 7 [6,2]) (qm 6 0)) (.seq (.block 1 (rg [mx 3,(none,.bin .mul 3 bt (ci 256)),mr 1] 7 [3,2])) (gW 4 1 7 4 2)))))))) (.seq (rg [aJ,mx 3,xd 3 0 1,mr 2] 7 [2,3]) .ret))))⟩
def jS:aD:=⟨1,7,0,[.var 1,.var 2],[.raw,.raw],false,.seq (rg [mi 0,mi 0] 7 [1,0,2,1]) (.seq (rg [mi 1,mi 0] 7 [3,0,4,1]) (.seq (.seq (dV 0 7 5 0) (.block 0 (.loop (.seq (.kill [1,2,6]) (.seq eD (.seq (qdz 5 1 7 6 3 6 0) (.seq (.block 1 (.seq (rg [mx 3,aJ,mx 5,qy 1 1 2,nI,rC 4,nH 3 0 5,(none,.bin .rem 3 (.r 6) (ci 65521)),mr 7] 7 [3,8]) (rg [mx 4,mx 3,nH 3 0 1,(none,.bin .rem 3 dJ (ci 65521)),mr 3] 7 [4,4]))) (gW 5 1 7 5 2)))))))) (.seq (rg [mx 3,mx 4,mr 0,mr 1] 7 [1,2,2,3]) .ret)))⟩
def Dz:aD:=⟨3,16,3,[.var 5],[.raw],false,.seq (rg [qx,CJ 2 1,qb] 16 [3,0,4,1,5,2]) (.seq (.seq (rg [qe 0 4,cK,rF 3 1 0] 16 [9,2]) (.cond (.x 9) (.seq (rg [qe 1 4,cK,rF 3 1 0,mr 2,qz 3 2 4,gJ 3 1 4,(some (3,true),tO 3 5 0),qf 3 6,mr 7,qz 8 3 4,gJ 8 1 9,(some (8,true),tO 3 10 0),qf 8 11,mr 12,qz 13 4 4,gJ 13 1 14,y9 13 15,qz 13 5 4,gJ 13 1 17,y9 13 18,(some (13,true),.bin .add 3 (.r 16) (.r 19)),(some (13,true),tO 3 20 0),qf 13 21,mr 22,qz 23 6 4,M0 23 7 24,(some (23,true),.build [qa,qa,qp,qa,qa,qa,qa] []),(some (23,true),qdj 25 26),qf 23 27,mr 28] 16 [5,29]) .ret) .skip)) (.seq (.seq (rg [qe 0 4,cK,qe 1 4,oB,qe 2 4,qv 1 4,qe 3 4,qv 1 6,(none,.build (List.replicate 10 (T.v (.int .i64 0))) [(0,(1,cL)),(1,(1,eY)),(2,(1,jP)),(3,(1,.r 7))]),qw 51 so 8,eO 9,mr 10,qs 11 6 4,(some (11,false),.load true 7 (.r 12)),FW 11 56 su 13,kB 11 14,qd 11 15,mr 16,qs 17 4 4,dH 17 1 18,AG 17 19,AF 17 3 20 256,qd 17 21] 16 [10,22]) (qj 10 16 5 0)) (.seq (.seq (rg [qe 0 4,cK,lQ 3 1 2,mr 2,qz 3 0 4,gJ 3 1 4,KE 3 3 5 3,qf 3 6,mr 7,qz 8 4 4,gJ 8 1 9,y9 8 10,(some (8,true),.bin .gtr 3 (.r 11) (ci 0)),qf 8 12,mr 13,qs 14 0 4,dH 14 1 15,(some (14,false),.bin .neq 3 (.r 16) (ci 1)),(some (14,false),.mv (.r 17)),qz 18 5 4,gJ 18 1 19,y9 18 20,(some (18,true),.bin .gtr 3 (.r 21) (ci 0)),VH 14 18 22,qd 14 23] 16 [11,24]) (qj 11 16 5 0)) (.seq (.seq (dV 0 16 6 0) (.block 0 (.loop (.seq (.kill [0,1,5,7,8,9,10,11,12,13,14,15]) (.seq (.free [4,5]) (.seq (.seq (rg [mx 6,qe 5 4,gA,qn 2,xd 3 0 3] 16 [12,4]) (qm 12 0)) (.seq (.block 1 (.seq (rg [qe 5 4,cK,mx 6,qy 3 1 2,iN 3 3,KH 4,ql 3 5 4] 16 [7,5]) (.seq (.seq (rg [qh 3 7,qw 103 oA 0,eO 1,mr 2,qs 3 1 7,dH 3 1 4,qk 3 2,(some (3,false),HE 3 5 6),qd 3 7,mr 8,qs 9 1 7,dH 9 1 10,qs 9 0 3,dH 9 1 12,AG 9 13,FV 9 3 11 14,qd 9 15,mr 16,qs 17 0 3,dH 17 1 18,qs 17 1 7,dH 17 1 20,(some (17,false),tR 3 21 1),(some (17,false),.iaddrS 13 (.r 19) (.r 22)),HD 17 0 23,dH 17 1 24,(some (17,false),tO 3 25 0),qd 17 26] 16 [13,27]) (qj 13 16 5 0)) (.seq (dV 0 16 8 0) (.block 2 (.loop (.seq (.kill [0,1,5,9,10,11,12,13,14,15]) (.seq eD (.seq (.seq (rg [mx 8,mx 6,xd 3 0 1] 16 [14,2]) (qm 14 2)) (.seq (.block 3 (.seq (rd [qe 5 4,cK,mx 8,qy 3 1 2,pC 2 3,qv 1 4,qe 2 7,qv 1 6,(none,AL 9 5 7),mr 8,qs 9 5 4,dH 9 1 10,qk 9 8,(some (9,false),.iaddrS 3 (.r 11) (.r 12)),HD 9 0 13,dH 9 1 14,qs 9 0 7,dH 9 1 16,(some (9,false),.bin .geq 3 (.r 15) (.r 17)),qd 9 18] 16 [15,19]) (qj 15 16 5 0))) (gW 8 1 16 8 2))))))))))) (gW 6 1 16 6 2)))))))) (tQ 16 5 0)))))⟩
def CU:aD:=⟨2,10,0,[.var 2],[.raw],false,.seq (qW 10 2 0) (.seq (rg [HF 9 5 1 0,mr 0] 10 [3,1]) (.seq (.seq (dV 0 10 4 0) (.block 0 (.loop (.seq (.kill [2,5,6,7,8,9]) (.seq eD (.seq (.seq (vL 4 3 0 4 10 7 1) (qm 7 0)) (.seq (.block 1 (.seq (rg [(none,.mkSlice 14 5 1 1 [qt] (ci 16)),mr 0] 10 [5,1]) (.seq (.seq (rg [aJ,qn 0,(none,tR 3 1 1),mr 2] 10 [6,3]) (.block 2 (.loop (.seq (.kill [2,7,8,9]) (.seq eD (.seq (.seq (rg [mx 6,(none,CI 3 0 0)] 10 [8,1]) (qm 8 2)) (.seq (.block 3 (.seq (rg [mx 1,(none,CI 3 0 0),mr 1,qu 2 1,(some (2,true),KI 3 3 3),qf 2 4,mr 5,qu 6 0,qu 6 6,(some (6,true),.iaddrS 3 (.r 7) (.r 8)),M0 6 3 9,(some (6,true),.call 33 oA [.r 10]),qf 6 11,mr 12,qu 13 0,qu 13 6,(some (13,true),.iaddrS 3 (.r 14) (.r 15)),(some (13,true),.faddr 0 (.r 16)),gJ 13 1 17,qu 13 1,(some (13,true),.bin .mul 3 (ci 4) (.r 19)),qu 13 4,(some (13,true),.bin .add 3 (.r 20) (.r 21)),(some (13,true),AL 3 18 22),qf 13 23] 10 [9,24]) (.cond (.x 9) (rg [aJ,mx 6,qy 3 0 1,iN 3 2,qw 51 Ms 3,mr 4] 10 [5,5]) .skip))) (rg [mx 6,(none,tR 3 0 1),mr 1] 10 [6,2])))))))) (rg [mx 3,mx 5,j5 54 5 1 1 0 0 1,mr 2] 10 [3,3])))) (gW 4 1 10 4 2)))))))) (yd 3 0 10 2 1)))⟩
def vA:aD:=⟨1,2,0,[.var 1],[.raw],false,qcd⟩
def xu:aD:=⟨1,9,0,[.var 1],[.raw],false,.seq (rg [(none,.mv (.c (T.v (.complex .f64 0 0))))] 9 [1,0]) (.seq (rg [(none,.mv (.c (T.v (.complex .f64 4607182418800017408 0))))] 9 [2,0]) (.seq (.seq (rg [aJ,qn 0,mi 0] 9 [5,0,6,1,7,2]) (.block 0 (.loop (.seq (.kill [0,1,3,4,8]) (.seq eD (.seq (tP 3 7 6 9 8 0) (.seq (qm 8 0) (.seq (.block 1 (.seq (rg [AJ 1 5 7,cK,mr 1] 9 [3,2]) (.seq (rg [mx 2,(none,.part 0 bt),mx 3,(none,.toFloat .f64 dJ),nH 195 1 3,qw 18 xt 4,mr 5] 9 [4,6]) (rg [mx 4,mx 2,(none,.part 1 cL),mx 4,nH 195 2 3,qw 24 xt 4,(none,.cplx bt jP),mr 6] 9 [2,7])))) (o9 3 7 1 0 9 7 1))))))))) (yd 2 0 9 1 1)))⟩
def sJ:aD:=⟨2,3,0,[.var 2],[.raw],false,qax⟩
def vB:aD:=⟨2,8,2,[.cell 3 true 7],[.raw],false,.seq (rg [qx,Ru 2] 8 [2,0,3,1]) (.seq (.seq (rg [mx 1,(none,.bin .and 3 bt (ci 1)),lQ 3 1 0] 8 [4,2]) (.cond (.x 4) (rg [qe 1 2,(none,.store 1 bt (ci 0))] 8 []) .skip)) (.seq (.seq (rg [mx 1,(none,.bin .and 3 bt (ci 2)),lQ 3 1 0] 8 [5,2]) (.cond (.x 5) (rg [qe 2 2,(none,.store 1 bt (.c qp))] 8 []) .skip)) (.seq (.seq (rg [mx 1,(none,.bin .and 3 bt (ci 4)),lQ 3 1 0] 8 [6,2]) (.cond (.x 6) (rg [(none,.build [qa,qa,qa] []),qe 3 2,ql 3 1 0] 8 []) .skip)) (.seq (.seq (rg [mx 1,(none,.bin .and 3 bt (ci 8)),lQ 3 1 0] 8 [7,2]) (.cond (.x 7) (rg [qe 6 2,(none,.store 1 bt (ci 0))] 8 []) .skip)) (.seq (rg [qe 0 2,cK,mx 1,(none,.bin .andNot 3 cL dJ),qe 0 2,ql 1 4 3] 8 []) (.seq (rg [qh 7 2,iM 7 3 0] 8 []) .ret))))))⟩
def jT:aD:=⟨1,3,0,[.var 1],[.raw],false,.seq (mW 3 1 0) (.seq (.seq (rg [aJ,(none,zd 0),rF 3 1 0,mr 2,qk 3 0,(some (3,false),zd 4),AF 3 3 5 12,qd 3 6,mr 7,qk 8 0,(some (8,false),.bin .eql 9 (.r 9) (.c (T.v (.string ⟨#[46]⟩)))),qd 8 10,mr 11,qk 12 0,(some (12,false),.bin .eql 9 (.r 13) (.c (T.v (.string ⟨#[46,46]⟩)))),qd 12 14] 3 [2,15]) (qj 2 3 1 0)) (.seq (rg [aJ,(none,.call 20 oZ [bt,.c (T.v (.func (.func ij) #[] #[]))]),(none,uT 3 1 0),mr 2] 3 [1,3]) .ret))⟩
def rN:aD:=⟨1,4,1,[.var 1],[.raw],false,.seq (qW 4 1 0) (.seq (.seq (rg [aJ,qw 5 pB 0,eO 1] 4 [3,2]) (FU 3 4 1 0)) (.seq (rg [(none,.alloc 0 (List.replicate 14 (T.v (.int .u8 0))))] 4 [2,0]) (.seq (rg [aJ,(none,zd 0),uU 1,za 14 1 2 0,ql 1 3 2] 4 []) (.seq (rg [(none,.sliceA 14 1 (.x 2) (some (ci 1)) none),aJ,(none,.copy 1 bt cL)] 4 []) (.seq (rg [Rx 14 1 2,mr 0] 4 [1,1]) .ret)))))⟩
def sK:aD:=⟨1,3,1,[.var 2],[.raw],false,.seq (ye 3 1 0 2 1) (.seq (rg [kX,cK,(none,CI 3 1 0),mr 2,qz 3 0 1,gJ 3 1 4,(some (3,true),uT 3 5 16),qf 3 6,mr 7,qz 8 1 1,gJ 8 1 9,(some (8,true),.bin .gtr 3 (.r 10) (ci 0)),qf 8 11,mr 12,qz 13 1 1,gJ 13 1 14,(some (13,true),KI 3 15 65535),qf 13 16,mr 17,qz 18 2 1,gJ 18 1 19,(some (18,true),.call 24 pB [.r 20]),qf 18 21,mr 22] 3 [2,23]) .ret)⟩
def pH:aD:=⟨1,7,0,[.var 1],[.raw],false,.seq (qW 7 1 0) (.seq (.seq (rg [aJ,qw 6 sx 0,eO 1] 7 [4,2]) (FU 4 7 1 0)) (.seq (rg [aJ,(none,zd 0),uU 1,KG 11 5 1 1 0 1 2,mr 3] 7 [2,4]) (.seq (.seq (dV 0 7 3 0) (.block 0 (.loop (.seq (.kill [1,4,5,6]) (.seq eD (.seq (.seq (vL 3 3 0 13 7 5 1) (qm 5 0)) (.seq (.block 1 (.seq (rg [mx 3,aJ,(none,zd 1),AM] 7 [6,3]) (.cond (.x 6) (rg [mx 2,aJ,mx 3,(none,.indexS cL dJ),KG 24 5 1 1 0 1 3,j5 25 5 1 1 0 0 4,mr 5] 7 [2,6]) (rg [mx 2,(none,.bslice 27 5 1 1 [qt] [(0,(1,.c qt))]),j5 28 5 1 1 0 0 1,mr 2] 7 [2,3])))) (gW 3 1 7 3 2)))))))) (yd 2 0 7 1 1))))⟩
def jg:aD:=⟨1,6,0,[.var 1],[.raw],false,.seq (mW 6 1 0) (.seq (.seq (rg [aJ,(none,zd 0),(none,uT 3 1 1),mr 2,qk 3 0,(some (3,false),zd 4),AF 3 3 5 12,qd 3 6,mr 7,qk 8 0,(some (8,false),.bin .eql 9 (.r 9) (.c (T.v (.string ⟨#[46]⟩)))),qd 8 10,mr 11,qk 12 0,(some (12,false),.bin .eql 9 (.r 13) (.c (T.v (.string ⟨#[46,46]⟩)))),qd 12 14] 6 [3,15]) (qj 3 6 1 0)) (.seq (.seq (dV 0 6 2 0) (.block 0 (.loop (.seq (.kill [1,3,4,5]) (.seq eD (.seq (.seq (rg [mx 2,aJ,(none,zd 1),AM] 6 [4,3]) (qm 4 0)) (.seq (.block 1 (.seq (rg [aJ,mx 2,(none,.indexS bt cL),qw 29 va 2,eO 3] 6 [5,4]) (qj 5 6 1 0))) (gW 2 1 6 2 2)))))))) (tQ 6 1 0)))⟩
def CV:aD:=⟨1,3,1,[.var 2],[.raw],false,.seq (HG 3 1 0 2 1) (.seq (rd [qe 1 1,cK,(none,rD 5 dQ 1 2),qe 2 1,nI,qw 8 tN 4,j5 9 5 1 1 0 2 5,mr 6] 3 [2,7]) .ret)⟩
def tX:aD:=⟨1,3,0,[.var 1],[.raw],false,.seq (rg [(none,.mv (.c (T.v (.float .f64 0))))] 3 [1,0]) (.seq (.seq (rg [aJ,(none,.bin .geq 195 bt (.c (T.v (.float .f64 4679237951253643264))))] 3 [2,1]) (.cond (.x 2) (.seq (rg [aJ,(none,.bin .sub 195 bt (.c (T.v (.float .f64 4679237951253643264)))),mr 1] 3 [1,2]) .ret) .skip)) (yd 0 0 3 1 1))⟩
def lJ:aD:=⟨2,3,0,[.var 2],[.raw],false,.seq (dV 0 3 2 0) (.seq (rg [aJ,mx 1,(none,.call 7 jm [bt,cL,.c (T.v (.bool true))]),mr 2] 3 [2,3]) .ret)⟩
def qH:aD:=⟨1,2,0,[.var 1],[.raw],false,.seq (mW 2 1 0) (.seq (rg [aJ,qw 4 wS 0,eO 1,mr 2] 2 [1,3]) .ret)⟩
def sL:aD:=⟨1,3,0,[.var 1],[.raw],false,.seq (mW 3 1 0) (.seq (.block 0 (.seq (.seq (rg [aJ,(none,.bin .geq 21 bt (M4 97)),mr 1,qu 2 0,(some (2,true),.bin .leq 21 eY (M4 122)),qf 2 4,mr 5] 3 [2,6]) (.cond (.x 2) .skip (rg [aJ,(none,.bin .geq 21 bt (M4 48)),mr 1,qu 2 0,(some (2,true),.bin .leq 21 eY (M4 57)),qf 2 4,mr 5] 3 [2,6]))) (.cond (.x 2) (tQ 3 1 0) .skip))) (.seq (rg [aJ,(none,.bin .eql 21 bt (M4 46)),mr 1,qk 2 0,(some (2,false),.bin .eql 21 eY (M4 95)),qd 2 4,mr 5,qk 6 0,(some (6,false),.bin .eql 21 (.r 7) (M4 45)),qd 6 8,mr 9] 3 [1,10]) .ret))⟩
def qI:aD:=⟨1,2,0,[.var 1],[.raw],false,.seq (mW 2 1 0) (.seq (rg [aJ,(none,.bin .geq 5 bt (pa 97)),mr 1,qu 2 0,(some (2,true),.bin .leq 5 eY (pa 122)),qf 2 4,mr 5,qk 6 0,(some (6,false),.bin .geq 5 (.r 7) (pa 48)),(some (6,false),.mv (.r 8)),qu 9 0,(some (9,true),.bin .leq 5 (.r 10) (pa 57)),VH 6 9 11,qd 6 12,mr 13,qk 14 0,(some (14,false),.bin .eql 5 (.r 15) (pa 46)),qd 14 16,mr 17,qk 18 0,(some (18,false),.bin .eql 5 (.r 19) (pa 95)),qd 18 20,mr 21,qk 22 0,(some (22,false),.bin .eql 5 (.r 23) (pa 45)),qd 22 24,mr 25] 2 [1,26]) .ret)⟩
def uV:aD:=⟨3,10,0,[.var 3],[.raw],false,.seq (dV 0 10 3 0) (.seq (.seq KF (.block 0 (.loop (.seq (.kill [0,3,4,5,7,8,9]) (.seq eD (.seq KF (.seq (qm 8 0) (.block 1 (.seq (rg [(none,.extract (.x 7) 1),(none,.extract (.x 7) 2),mr 0,mr 1] 10 [4,2,5,3]) (.seq (rg [mx 1,mx 5,(none,.callv 17 bt [cL]),mx 2,(none,.eqb false dJ eY)] 10 [9,4]) (.cond (.x 9) (yd 4 0 10 3 1) .skip))))))))))) (VG 10 3 0))⟩
def code:FuncId→Option aD
 |3=>some gG
 |4=>some vM
 |5=>some tS
 |6=>some rG
 |7=>some wU
 |8=>some j6
 |9=>some nh
 |10=>some kK
 |11=>some mm
 |12=>some l4
 |13=>some l5
 |14=>some jQ
 |15=>some dW
 |16=>some ni
 |17=>some pD
 |18=>some jB
 |19=>some pE
 |20=>some yg
 |21=>some FZ
 |22=>some CK
 |23=>some F0
 |24=>some gB
 |25=>some sy
 |26=>some yh
 |27=>some wV
 |28=>some iq
 |29=>some jC
 |30=>some oC
 |31=>some rH
 |32=>some bU
 |33=>some ko
 |34=>some nc
 |35=>some rI
 |36=>some cw
 |37=>some gl
 |38=>some gm
 |39=>some pF
 |40=>some pb
 |41=>some vx
 |42=>some nW
 |43=>some Dy
 |44=>some F1
 |45=>some lG
 |46=>some lH
 |47=>some CL
 |48=>some CN
 |49=>some sA
 |50=>some sB
 |51=>some pG
 |52=>some wW
 |53=>some iW
 |54=>some F2
 |55=>some wX
 |56=>some vy
 |57=>some ln
 |58=>some jD
 |59=>some kY
 |60=>some dv
 |61=>some gT
 |62=>some aM
 |63=>some fW
 |64=>some qF
 |65=>some nX
 |66=>some tT
 |67=>some oD
 |68=>some dX
 |70=>some iu
 |71=>some rJ
 |72=>some pc
 |73=>some pd
 |74=>some tU
 |75=>some vN
 |76=>some yi
 |77=>some tf
 |78=>some jR
 |79=>some CO
 |80=>some pf
 |81=>some CP
 |82=>some tV
 |83=>some pg
 |84=>some vO
 |85=>some oE
 |86=>some vP
 |87=>some qG
 |88=>some sC
 |89=>some sD
 |90=>some sE
 |91=>some CQ
 |92=>some mn
 |93=>some mo
 |94=>some tW
 |95=>some jE
 |96=>some gC
 |97=>some jF
 |100=>some fg
 |101=>some sF
 |102=>some rK
 |103=>some lp
 |104=>some vQ
 |105=>some rL
 |106=>some mq
 |107=>some CS
 |108=>some CT
 |109=>some sG
 |110=>some F3
 |111=>some rM
 |112=>some oR
 |113=>some oS
 |114=>some ze
 |115=>some vb
 |116=>some fL
 |117=>some oF
 |118=>some oT
 |119=>some iX
 |131=>some sH
 |132=>some vz
 |133=>some nk
 |134=>some sI
 |135=>some l6
 |136=>some jS
 |137=>some Dz
 |138=>some CU
 |139=>some vA
 |140=>some xu
 |141=>some sJ
 |142=>some vB
 |143=>some jT
 |144=>some rN
 |145=>some sK
 |152=>some pH
 |153=>some jg
 |154=>some CV
 |155=>some tX
 |156=>some lJ
 |157=>some qH
 |158=>some sL
 |160=>some qI
 |161=>some uV
 |_=>none
end Go.Vi.Zz
end
