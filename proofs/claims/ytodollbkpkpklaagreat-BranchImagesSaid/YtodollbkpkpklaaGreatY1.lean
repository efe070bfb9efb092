/-
  A claim's own text, joined by a small program out of: Vj1, Vj28, VjF, VjB.
-/
import Derived.Test.YtodollbkpkpklaaGreatY0
set_option linter.unusedVariables false
set_option linter.unusedSimpArgs false
section
namespace Go.Vi
open Go
mutual
def ofValue:Value→T
 | .agg cs=> .agg (ofValues cs.toList)
 | .slice none 0 0=> .sl .nil 0 []
 |x=> .v x
def ofValues:List Value→List T
 | []=>[]
 |x::xs=>ofValue x::ofValues xs
end
def J1:Value→Bool
 | .agg cs=>cs.all fun x=>x.oneCell'
 |_=>true
def qV(done:List (Option Nat))(s:Nat):Option Nat:=done.idxOf? (some s)
def lP(vm:List Nat)(done:List (Option Nat)):Operand→Option ag
 | .tmp s=>match qV done s with
  |some i=>some (.r i)
  |none=>(vm.idxOf? s).map .x
 | .const v=>if J1 v then some (.c (ofValue v))else none
 | .func f=>some (.c (.v (.func (.func f) #[] #[])))
 | .global _=>none
def gK(P:Program)(t:TypeId):Option (Bool×Nat):=
 match P.underlying t,P.info? t with
 |some (.struct _),some i=>some (true,i.size)
 |some (.array _ _),some i=>some (true,i.size)
 |some _,some i=>if i.size=1 then some (false,1)else none
 |_,_=>none
def zeroOf(P:Program)(t:TypeId):Option (List T):=
 match P.info? t with
 |some i=>match i.zero with
  |some z=>if z.cells.size=i.size∧z.cells.all Value.oneCell' then some (ofValues z.cells.toList)else none
  |none=>none
 |none=>none
def leaves(P:Program):Nat→TypeId→Option (List LK)
 |0,_=>none
 |d+1,t=>match P.underlying t with
  |some .bool=>some [.bool]
  |some (.int _)=>some [.int]
  |some .string=>some [.str]
  |some (.struct fs)=>if P.stoodInHeld t then none else fs.toList.foldlM (fun acc f=>if f.name= "_" ∨f.offset≠acc.length then none else do
    let ks←leaves P d f.type
    let (_,n)←gK P f.type
    if n=ks.length then some (acc++ks)else none) []
  |some (.array n e)=>do
    let ks←leaves P d e
    let (_,m)←gK P e
    if m=ks.length then some (List.replicate n ks).flatten else none
  |_=>none
def vC(P:Program)(t:TypeId):Bool:=
 match P.underlying t with
 |some (.struct fs)=>fs.toList.all fun f=>(P.info? f.type).isSome
 |some (.array _ e)=>(P.info? e).isSome
 |some (.slice e)=>(P.info? e).isSome
 |_=>false
def nH(P:Program)(opd:Operand→Option ag)(t:TypeId):(Nat×Operand)→Option (Nat×Nat×ag)
 |(i,x)=>do
  let a←opd x
  match P.underlying t with
  |some (.struct fs)=>match fs[i]? with
   |some f=>some (f.offset,P.cellsOf f.type,a)
   |none=>none
  |some (.array _ e)=>some (i*P.cellsOf e,P.cellsOf e,a)
  |some (.slice e)=>some (i*P.cellsOf e,P.cellsOf e,a)
  |_=>none
def gz(opd:Operand→Option ag):Option Operand→Option (Option ag)
 |none=>some none
 |some x=>(opd x).map some
def H8:Operand→Bool
 | .const (.slice none 0 0)=>true
 |_=>false
def FG(P:Program)(opd:Operand→Option ag)(neg:Bool)(op:BinOp)(t:TypeId)(x y:Operand):Option IOp:=do
 match P.underlying t with
 |some (.int _)|some .string|some (.float _)|some (.complex _)=>do some (.bin op t (←opd x) (←opd y))
 |some .bool=>do some (.eqb neg (←opd x) (←opd y))
 |some (.slice _)=>if H8 y then do some (.eqnil neg (←opd x))else none
 |some (.struct _)|some (.array _ _)=>do
   let ks←leaves P 20 t
   if P.eqGuardType P.depth t=true∨gK P t≠some (true,ks.length)then none else do some (.eqa neg ks (←opd x) (←opd y))
 |_=>none
def mM(bm:List Nat)(d:Nat):Option Nat:=(bm.idxOf? d).map (2*·)
def J3(bm:List Nat)(d:Nat)(e:TypeId)(sz bytes:Nat)(zs:List T)(q:ag):IOp:=
 match mM bm d with
 |some s=> .mkBox s sz bytes zs q
 |none=> .mkSlice d e sz bytes zs q
def TK(bm:List Nat)(d:Nat)(e:TypeId)(sz len:Nat)(zs:List T)(qs:List (Nat×Nat×ag)):IOp:=
 match mM bm d with
 |some s=> .bsliceB s sz len zs qs
 |none=> .bslice d e sz len zs qs
def Cn(bm:List Nat)(d:Nat)(e:TypeId)(sz bytes:Nat)(zs:List T)(kind:Nat)(x y:ag):IOp:=
 match mM bm d with
 |some s=> .appendB s e sz bytes zs kind x y
 |none=> .append d e sz bytes zs kind x y
def AG(bm:List Nat)(d:Nat):List Nat:=(List.range 8).filterMap fun j=>mM bm (d+100000*j)
def Nw(io:FuncId→Nat)(bm:List Nat)(d:Nat)(f:FuncId)(as:List ag):IOp:=
 match io f with
 |0=> .call d f as
 |1=> .callnew d (AG bm d) f as
 |_=> .callio d (AG bm d) f as
def J5(bm:List Nat)(d:Nat)(f:ag)(as:List ag):IOp:=
 if bm.contains (d+900000)then .callvio d (AG bm d) f as else .callv d f as
def yp(P:Program)(t:TypeId):Option LK:=
 match P.underlying t with
 |some (.int _)=>some .int
 |some .bool=>some .bool
 |_=>none
def Hm(P:Program)(t:TypeId):Option T:=
 match P.info? t with
 |some i=>match i.zero with
  |some z=>if J1 z then some (ofValue z)else none
  |none=>none
 |none=>none
def agf(bm:List Nat)(d:Nat):Option Nat:=(bm.find? fun m=>decide (10000000≤m)&&m%10000000==d).map fun m=>m / 10000000-1
def Nx(P:Program)(bm:List Nat)(dst:Option Nat)(q:ag):IOp:=
 match dst with
 |some d=>match agf bm d with
  |some e=>if 0< P.cellsOf e∧(P.info? e).isSome=true then .thaw d e (P.cellsOf e) q else .mv q
  |none=> .mv q
 |none=> .mv q
def oB(P:Program)(io:FuncId→Nat)(vm bm:List Nat)(done:List (Option Nat))(o:Oper):Option IOp:=
 let opd:=lP vm done
 match o.op with
 | .move x| .assign x=>(opd x).map (Nx P bm o.dst)
 | .pick c a b=>do some (.pick (←opd c) (←opd a) (←opd b))
 | .binOp op t x y _=>match op with
  | .eql=>FG P opd false op t x y
  | .neq=>FG P opd true op t x y
  |_=>do some (.bin op t (←opd x) (←opd y))
 | .unOp op _ x=>(opd x).map (.un op)
 | .convert s t x=>match P.underlying s,P.underlying t with
  |some (.int _),some (.int k)=>(opd x).map (.toInt k)
  |some (.float _),some (.int k)=>(opd x).map (.toInt k)
  |some (.int _),some (.float k)=>(opd x).map (.toFloat k)
  |some (.slice e),some .string=>match P.underlying e with
   |some (.int .u8)=>(opd x).map .toStr
   |_=>none
  |_,_=>none
 | .build t parts=>match P.underlying t with
  |some (.struct _)|some (.array _ _)=>if vC P t then do some (.build (←zeroOf P t) (←parts.toList.mapM (nH P opd t)))else none
  |_=>none
 | .field t x f=>match P.underlying t with
  |some (.struct fs)=>match fs[f]? with
   |some f=>do let (g,n)←gK P f.type;some (.field g f.offset n (←opd x))
   |none=>none
  |_=>none
 | .index t x i=>match P.underlying t with
  |some (.array len e)=>do let (g,n)←gK P e;some (.indexA len n g (←opd x) (←opd i))
  |some .string=>do some (.indexS (←opd x) (←opd i))
  |_=>none
 | .extract x i=>do some (.extract (←opd x) i)
 | .alloc t=>match o.dst with
  |some d=>do some (.alloc (←mM bm d) (←zeroOf P t))
  |none=>none
 | .box _ x=>match o.dst with
  |some d=>do some (.box (←mM bm d) (←opd x))
  |none=>none
 | .load t x=>do let (g,n)←gK P t;some (.load g n (←opd x))
 | .store t x y=>do let (_,n)←gK P t;some (.store n (←opd x) (←opd y))
 | .fieldAddr t x f=>match P.underlying t with
  |some (.struct fs)=>match fs[f]? with
   |some f=>if P.cellsOf f.type=0 then none else do some (.faddr f.offset (←opd x))
   |none=>none
  |_=>none
 | .indexAddr t x i=>match P.underlying t with
  |some (.array len e)=>if P.cellsOf e=0 then none else do some (.iaddrA len (P.cellsOf e) (←opd x) (←opd i))
  |some (.slice e)=>if P.cellsOf e=0 then none else do some (.iaddrS (P.cellsOf e) (←opd x) (←opd i))
  |_=>none
 | .slice t x lo hi mx=>match P.underlying t with
  |some .string=>if mx.isNone then do some (.sliceS (←opd x) (←gz opd lo) (←gz opd hi))else none
  |some (.slice e)=>if P.cellsOf e=0∨(mx.isSome∧hi.isNone)then none else do some (.sliceT (P.cellsOf e) (←opd x) (←gz opd lo) (←gz opd hi) (←gz opd mx))
  |some (.array len e)=>if P.cellsOf e=0∨mx.isSome then none else do some (.sliceA len (P.cellsOf e) (←opd x) (←gz opd lo) (←gz opd hi))
  |_=>none
 | .sliceToArrayPointer t x=>match P.underlying t with
  |some (.array len _)=>(opd x).map (.arrOf len)
  |_=>none
 | .makeSlice t l c=>match P.underlying t,o.dst with
  |some (.slice e),some d=>match l,c with
   | .tmp l',.tmp c'=>if l'=c'∧0< P.cellsOf e then do some (J3 bm d e (P.cellsOf e) (P.bytesOf e) (←zeroOf P e) (←opd l))else none
   | .const (.int .i64 m),.const (.int .i64 m')=>if m=m'∧0< P.cellsOf e then do some (J3 bm d e (P.cellsOf e) (P.bytesOf e) (←zeroOf P e) (←opd l))else none
   | .const (.int .i64 0),.tmp _=>if 0< P.cellsOf e∧(zeroOf P e).isSome then(opd c).map (.mkCap d e (P.bytesOf e))else none
   |_,_=>none
  |_,_=>none
 | .buildSlice t len parts=>match P.underlying t,o.dst with
  |some (.slice e),some d=>if 0< P.cellsOf e∧vC P t then do some (TK bm d e (P.cellsOf e) len (←zeroOf P e) (←parts.toList.mapM (nH P opd t)))else none
  |_,_=>none
 | .makeMap _ none=>match o.dst with
  |some d=>(mM bm d).map fun s=> .mkMap (s+1)
  |none=>none
 | .lookup t x i ok=>match P.underlying t with
  |some (.map k e)=>do some (.lookup (←yp P k) (←Hm P e) ok (←opd x) (←opd i))
  |_=>none
 | .mapUpdate t x i v=>match P.underlying t with
  |some (.map k _)=>do some (.mapUpdate (←yp P k) (←opd x) (←opd i) (←opd v))
  |_=>none
 | .makeFunc fn first cap=>do some (.mkFunc fn (←first.toList.mapM opd) (←cap.toList.mapM opd))
 | .nilCheck x=>(opd x).map .nilCheck
 | .call c=>match c.callee,o.dst with
  | .builtin .append,some d=>match c.args.toList,c.argTypes.toList with
   | [x,y],[t,u]=>match P.underlying t,P.underlying u with
    |some (.slice e),some (.slice _)=>if 0< P.cellsOf e then do some (Cn bm d e (P.cellsOf e) (P.bytesOf e) (←zeroOf P e) 0 (←opd x) (←opd y))else none
    |some (.slice e),some .string=>if P.cellsOf e=1 then do some (Cn bm d e 1 (P.bytesOf e) (←zeroOf P e) 1 (←opd x) (←opd y))else none
    |some (.slice e),some (.int _)=>if 0< P.cellsOf e then do some (Cn bm d e (P.cellsOf e) (P.bytesOf e) (←zeroOf P e) 2 (←opd x) (←opd y))else none
    |_,_=>none
   |_,_=>none
  | .builtin .len,_=>match c.args.toList,c.argTypes.toList with
   | [x],[t]=>match P.underlying t with
    |some (.slice _)=>(opd x).map (.len false)
    |some .string=>(opd x).map (.len true)
    |some (.array n _)=>some (.mv (.c (.int n)))
    |some (.map _ _)=>(opd x).map .lenM
    |_=>none
   |_,_=>none
  | .builtin .cap,_=>match c.args.toList,c.argTypes.toList with
   | [x],[t]=>match P.underlying t with
    |some (.slice _)=>(opd x).map .capS
    |_=>none
   |_,_=>none
  | .builtin .max,_=>do some (.minMax true (←c.args.toList.mapM opd))
  | .builtin .min,_=>do some (.minMax false (←c.args.toList.mapM opd))
  | .builtin .real,_=>match c.args.toList with| [x]=>(opd x).map (.part 0)|_=>none
  | .builtin .imag,_=>match c.args.toList with| [x]=>(opd x).map (.part 1)|_=>none
  | .builtin .complex,_=>match c.args.toList with| [x,y]=>do some (.cplx (←opd x) (←opd y))|_=>none
  | .builtin .copy,_=>match c.args.toList,c.argTypes.toList with
   | [x,y],[t,_]=>match P.underlying t with
    |some (.slice e)=>if 0< P.cellsOf e then do some (.copy (P.cellsOf e) (←opd x) (←opd y))else none
    |_=>none
   |_,_=>none
  | .builtin .clear,_=>match c.args.toList,c.argTypes.toList with
   | [x],[t]=>match P.underlying t with
    |some (.slice e)=>if 0< P.cellsOf e then do some (.clearS (P.cellsOf e) (←zeroOf P e) (←opd x))else none
    |_=>none
   |_,_=>none
  | .value (.func f),some d=>do some (Nw io bm d f (←c.args.toList.mapM opd))
  | .value (.tmp s),some d=>do some (J5 bm d (←opd (.tmp s)) (←c.args.toList.mapM opd))
  |_,_=>none
 |_=>none
def tJ(nt:Nat)(done:List (Option Nat))(o:Oper):Bool:=
 (match o.dst with|some s=>done.contains (some s)|| !(decide (s< nt))|none=>false)||(match o.guard with|some (j,_)=> !((done[j]?).join).isSome|none=>false)
def kc(P:Program)(io:FuncId→Nat)(nt:Nat)(vm bm:List Nat):List (Option Nat)→List Oper→Option (List (Option (Nat×Bool)×IOp))
 |_,[]=>some []
 |done,o::rest=>
  if tJ nt done o then none else do
   let i←oB P io vm bm done o
   let r←kc P io nt vm bm (done++[o.dst]) rest
   some ((o.guard,i)::r)
abbrev Hints:=List (List Nat×List Nat)
def uD:Code→Option Nat
 | .goto l=>some l
 | .seq a b=>(uD a).or (uD b)
 | .cond _ a b=>(uD a).or (uD b)
 | .block _ a=>uD a
 | .loop a=>uD a
 | .scope a=>uD a
 |_=>none
def ew:Code→Bool
 | .skip| .region ..| .exit _| .ret| .label _| .goto _=>true
 | .seq a b| .cond _ a b=>ew a&&ew b
 | .block _ a| .loop a=>ew a
 | .scope a=>(uD a).isNone&&ew a
 |_=>false
def bC(P:Program)(io:FuncId→Nat)(nt:Nat)(vm bm:List Nat)(bN:List Nat→Array Oper→List (Option (Nat×Bool)×IOp)→Bool):Nat→Code→Hints→Option (IC×Hints)
 |0,_,_=>none
 |n+1,c,h=>match c with
  | .skip=>some (.skip,h)
  | .region _ ops draw=>if(kc P io nt vm bm [] ops.toList).isNone then some (.kT (.exit cE),h)else(kc P io nt vm bm [] ops.toList).bind fun l=>
   if draw&& !bN vm ops l then none else some (.A5 ⟨l,vm.map (qV (ops.toList.map (·.dst))),draw⟩,h)
  | .seq a b=>do
   let (a,h)←bC P io nt vm bm bN n a h
   let (b,h)←bC P io nt vm bm bN n b h
   some (.seq a b,h)
  | .cond c a b=>do
   let c←lP vm [] c
   let (a,h)←bC P io nt vm bm bN n a h
   let (b,h)←bC P io nt vm bm bN n b h
   some (.cond c a b,h)
  | .block id a=>do let (a,h)←bC P io nt vm bm bN n a h;if id< cE then some (.block id a,h)else none
  | .loop a=>match h with
   |(vs,ss)::h=>do
    let (a,h)←bC P io nt vm bm bN n a h
    some (.loop (.seq (.kill (vs.filterMap (vm.idxOf? ·))) (.seq (.free ((ss.filterMap (mM bm ·)).flatMap fun s=>[s,s+1])) a)),h)
   | []=>none
  | .exit id=>if id< cE then some (.exit id,h)else none
  | .ret=>some (.ret,h)
  | .label _=>some (.skip,h)
  | .goto l=>some (.exit (cE+l),h)
  | .scope a=>match uD a with
   |none=>do let (a,h)←bC P io nt vm bm bN n a h;some (.kT a,h)
   |some l=>match findLabel a l,h with
    |some rest,(vs,ss)::h=>do
     let (a,h)←bC P io nt vm bm bN n a h
     let (b,h)←bC P io nt vm bm bN n rest h
     some (.jumps (cE+l) a (.seq (.kill (vs.filterMap (vm.idxOf? ·))) (.seq (.free ((ss.filterMap (mM bm ·)).flatMap fun s=>[s,s+1])) b)),h)
    |_,_=>none
  | .rangeFunc g ps a b=>do
   let g←lP vm [] g
   let is←ps.toList.mapM (vm.idxOf? ·)
   if vm.Nodup∧ps.toList.all (· < nt)∧ew a=true∧ew b=true then do
    let (a,h)←bC P io nt vm bm bN n a h
    let (b,h)←bC P io nt vm bm bN n b h
    some (.range (2*bm.length) g is a b,h)
   else none
  |_=>none
def Bj(P:Program)(vm:List Nat):ResultVar→Option Ar
 | .tmp s=>(vm.idxOf? s).map .var
 | .cell s t=>do let (g,n)←gK P t;some (.cell (←vm.idxOf? s) g n)
def lower(P:Program)(io:FuncId→Nat)(bN:List Nat→Array Oper→List (Option (Nat×Bool)×IOp)→Bool)(vm bm:List Nat)(h:Hints)(canon:List CM)(split:Bool)(fn:Func):Option aC:=
 let p:=fn.params.size+fn.nfree
 match fn.body with
 |some c=>if vm.Nodup∧bm.Nodup∧vm.take p=List.range p∧vm.all (· < fn.ntmps)then do
   let (c,_)←bC P io fn.ntmps vm bm bN 400 c h
   let rs←fn.results.toList.mapM (Bj P vm)
   some ⟨p,vm.length,bm.length,rs,canon,split,c⟩
  else none
 |none=>none
end Go.Vi
end
section
namespace Go.Vi
open Go
abbrev lg:=FuncId→List T→Option T
def Le(C C':lg):Prop:=∀f a r,C f a=some r→C' f a=some r
theorem TL{C C':lg}(h:Le C C'){f:FuncId}{a:List T}{r:T}(e:ue C f a=some r):ue C' f a=some r:=by
 unfold ue at e⊢
 split at e
 ·rename_i hl;rw[if_pos hl];exact h _ _ _ e
 ·cases e
theorem callT_mono{C C':lg}(h:Le C C'){σ:St}{d:Nat}{f:FuncId}{a:List T}{p:T×St}(e:ae.cW C σ d f a=some p):ae.cW C' σ d f a=some p:=by
 unfold ae.cW at e⊢
 simp only[Option.bind_eq_bind,Option.bind_eq_some_iff]at e⊢
 obtain⟨cs,h1,r,h2,h3⟩:=e
 exact⟨cs,h1,r,TL h h2,h3⟩
theorem callNew_mono{C C':lg}(h:Le C C'){σ:St}{d:Nat}{ad:List Nat}{f:FuncId}{a:List T}{p:T×St}(e:ae.dL C σ d ad f a=some p):ae.dL C' σ d ad f a=some p:=by
 unfold ae.dL at e⊢
 split at e
 ·cases e
 ·rename_i hr
  rw[if_neg hr]
  split at e<;>try(cases e;done)
  rename_i r outs hc
  rw[h _ _ _ hc]
  exact e
theorem callIO_mono{C C':lg}(h:Le C C'){σ:St}{d:Nat}{ad:List Nat}{f:FuncId}{a:List T}{p:T×St}(e:ae.ez C σ d ad f a=some p):ae.ez C' σ d ad f a=some p:=by
 unfold ae.ez at e⊢
 simp only at e⊢
 split at e<;>try(cases e;done)
 rename_i r outs hc
 rw[h _ _ _ hc]
 exact e
theorem Co{C C':lg}(h:Le C C'){σ:St}{o:IOp}{p:T×St}(e:ae C σ o=some p):ae C' σ o=some p:=by
 cases o<;>try exact e
 case call d f as=>exact callT_mono h e
 case callv d f as=>
  simp only[ae]at e⊢
  split at e<;>try(cases e;done)
  rename_i hc
  try rw[hc]
  exact callT_mono h e
 case callnew d ad f as=>exact callNew_mono h e
 case callio d ad f as=>exact callIO_mono h e
 case callvio d ad f as=>
  simp only[ae]at e⊢
  split at e<;>try(cases e;done)
  rename_i hc
  try rw[hc]
  exact callIO_mono h e
theorem wh{C C':lg}(h:Le C C'):∀{ops:List (Option (Nat×Bool)×IOp)} {σ σ':St},eZ C σ ops=some σ'→eZ C' σ ops=some σ'
 | [],σ,σ',e=>e
 |(g,o)::rest,σ,σ',e=>by
  simp only[eZ,Option.bind_eq_some_iff]at e⊢
  obtain⟨go,h1,h2⟩:=e
  refine⟨go,h1, ?_⟩
  split at h2
  ·rename_i hg
   rw[if_pos hg]
   obtain⟨p,h3,h4⟩:=Option.bind_eq_some_iff.1 h2
   exact Option.bind_eq_some_iff.2 ⟨p,Co h h3,wh h h4⟩
  ·rename_i hg
   rw[if_neg hg]
   exact wh h h2
theorem QX{C C':lg}(h:Le C C'){σ σ':St}{r:RF}(e:wA C σ r=some σ'):wA C' σ r=some σ':=by
 unfold wA at e⊢
 simp only[Option.bind_eq_bind,Option.bind_eq_some_iff]at e⊢
 obtain⟨s,h1,h2⟩:=e
 exact⟨s,wh h h1,h2⟩
theorem Cp{f f':St→Option Out}(h:∀σ o,f σ=some o→f' σ=some o):∀{n m:Nat} {σ:St} {o:Out},n≤m→pv f n σ=some o→pv f' m σ=some o
 |0,_,_,_,_,e=>by simp[pv]at e
 |n+1,0,_,_,hm,_=>by omega
 |n+1,m+1,σ,o,hm,e=>by
  simp only[pv]at e⊢
  cases hf:f σ with
  |none=>rw[hf]at e;cases e
  |some x=>
   rw[hf]at e
   rw[h _ _ hf]
   cases x with
   |norm σ'=>exact Cp h (by omega) e
   |exit=>exact e
   |ret=>exact e
theorem H9{f f':St→Option Out}{id:Nat}(h:∀σ o,f σ=some o→f' σ=some o):∀{n m:Nat} {σ:St} {o:Out},n≤m→sJ f id n σ=some o→sJ f' id m σ=some o
 |0,_,_,_,_,e=>by simp[sJ]at e
 |n+1,0,_,_,hm,_=>by omega
 |n+1,m+1,σ,o,hm,e=>by
  simp only[sJ]at e⊢
  cases hf:f σ with
  |none=>rw[hf]at e;cases e
  |some x=>
   rw[hf]at e
   rw[h _ _ hf]
   cases x with
   |norm σ'=>exact e
   |exit j σ'=>
    simp only at e⊢
    split at e
    ·rename_i hj;rw[if_pos hj];exact H9 h (by omega) e
    ·rename_i hj;rw[if_neg hj];exact e
   |ret=>exact e
theorem D3{f f':St→Option Out}(h:∀σ o,f σ=some o→f' σ=some o){K:Nat}{ps:List Nat}:∀{ys vars:List T} {bx:List (Option (List T))} {σ:St},ml f K ps ys vars bx=some σ→ml f' K ps ys vars bx=some σ
 | [],_,_,_,e=>e
 |t::ys,vars,bx,σ,e=>by
  cases t<;>try(simp only[ml]at e;cases e;done)
  simp only[ml]at e⊢
  split at e<;>try(cases e;done)
  rename_i hl
  rw[if_pos hl]
  split at e<;>try(cases e;done)
  rename_i σ' hf
  rw[h _ _ hf]
  exact D3 h e
theorem cC{C C':lg}(h:Le C C'){n m:Nat}(hm:n≤m):∀{c:IC} {σ:St} {o:Out},exec C n c σ=some o→exec C' m c σ=some o
 | .skip,_,_,e=>e
 | .A5 r,_,_,e=>by
  simp only[exec,Option.map_eq_some_iff]at e⊢
  obtain⟨s,h1,h2⟩:=e
  exact⟨s,QX h h1,h2⟩
 | .seq a b,σ,o,e=>by
  simp only[exec]at e⊢
  cases ha:exec C n a σ with
  |none=>rw[ha]at e;cases e
  |some x=>
   rw[ha]at e
   rw[cC h hm ha]
   cases x with
   |norm σ'=>exact cC h hm e
   |exit=>exact e
   |ret=>exact e
 | .cond c a b,σ,o,e=>by
  simp only[exec]at e⊢
  split at e<;>try(cases e;done)
  split at e
  ·rename_i ht;rw[if_pos ht];exact cC h hm e
  ·rename_i ht;rw[if_neg ht];exact cC h hm e
 | .block id a,σ,o,e=>by
  simp only[exec]at e⊢
  cases ha:exec C n a σ with
  |none=>rw[ha]at e;cases e
  |some x=>rw[ha]at e;rw[cC h hm ha];exact e
 | .loop a,σ,o,e=>by
  simp only[exec]at e⊢
  exact Cp (fun σ o=>cC h hm) hm e
 | .kT a,σ,o,e=>by
  simp only[exec]at e⊢
  cases ha:exec C n a σ with
  |none=>rw[ha]at e;cases e
  |some x=>rw[ha]at e;rw[cC h hm ha];exact e
 | .jumps id a b,σ,o,e=>by
  simp only[exec]at e⊢
  cases ha:exec C n a σ with
  |none=>rw[ha]at e;cases e
  |some x=>
   rw[ha]at e
   rw[cC h hm ha]
   cases x with
   |norm σ'=>exact e
   |exit j σ'=>
    simp only at e⊢
    split at e
    ·rename_i hj;rw[if_pos hj];exact H9 (fun σ o=>cC h hm) hm e
    ·rename_i hj;rw[if_neg hj];exact e
   |ret=>exact e
 | .range K g ps a b,σ,o,e=>by
  simp only[exec]at e⊢
  split at e<;>try(cases e;done)
  obtain⟨cs,h1,h2⟩:=Option.bind_eq_some_iff.1 e
  refine Option.bind_eq_some_iff.2 ⟨cs,h1, ?_⟩
  split at h2<;>try(cases h2;done)
  rename_i ys hy
  rw[h _ _ _ hy]
  obtain⟨s,h3,h4⟩:=Option.map_eq_some_iff.1 h2
  refine Option.map_eq_some_iff.2 ⟨s,D3 (fun σ o ho=> ?_) h3,h4⟩
  split at ho<;>try(cases ho;done)
  rename_i az ha
  rw[cC h hm ha]
  exact cC h hm ho
 | .exit ..,_,_,e=>e
 | .ret,_,_,e=>e
 | .kill ..,_,_,e=>e
 | .free ..,_,_,e=>e
theorem Gu{C C':lg}(h:Le C C'){σ:St}{o:IOp}{p:T×St×List (List T)}(e:mD C σ o=some p):mD C' σ o=some p:=by
 unfold mD at e⊢
 split at e
 ·rename_i hr
  rw[if_pos hr]
  obtain⟨q,h1,h2⟩:=Option.bind_eq_some_iff.1 e
  exact Option.bind_eq_some_iff.2 ⟨q,Co h h1,h2⟩
 ·cases e
theorem Hn{C C':lg}(h:Le C C'){l:Nat}{σ:St}{o:IOp}{p:T×St×List (List T)}(e:rN C l σ o=some p):rN C' l σ o=some p:=by
 unfold rN at e⊢
 split at e
 ·split at e
  ·rename_i hy;rw[if_pos hy];exact e
  ·rename_i hy;rw[if_neg hy];exact Gu h e
 ·exact e
 ·exact e
 ·exact Gu h e
theorem wJ{C C':lg}(h:Le C C'){l:Nat}:∀{ops:List (Option (Nat×Bool)×IOp)} {σ:St} {q:St×List (List T)},nm C l σ ops=some q→nm C' l σ ops=some q
 | [],σ,q,e=>e
 |(g,o)::rest,σ,q,e=>by
  simp only[nm,Option.bind_eq_some_iff]at e⊢
  obtain⟨go,h1,h2⟩:=e
  refine⟨go,h1, ?_⟩
  split at h2
  ·rename_i hg
   rw[if_pos hg]
   obtain⟨p,h3,h4⟩:=Option.bind_eq_some_iff.1 h2
   obtain⟨q',h5,h6⟩:=Option.map_eq_some_iff.1 h4
   exact Option.bind_eq_some_iff.2 ⟨p,Hn h h3,Option.map_eq_some_iff.2 ⟨q',wJ h h5,h6⟩⟩
  ·rename_i hg
   rw[if_neg hg]
   exact wJ h h2
theorem Cq{f f':St→Option (Out×List (List T))}(h:∀σ o,f σ=some o→f' σ=some o):∀{n m:Nat} {σ:St} {o:Out×List (List T)},n≤m→kr f n σ=some o→kr f' m σ=some o
 |0,_,_,_,_,e=>by simp[kr]at e
 |n+1,0,_,_,hm,_=>by omega
 |n+1,m+1,σ,o,hm,e=>by
  simp only[kr]at e⊢
  cases hf:f σ with
  |none=>rw[hf]at e;cases e
  |some x=>
   rw[hf]at e
   rw[h _ _ hf]
   obtain⟨x,ys⟩:=x
   cases x with
   |norm σ'=>
    obtain⟨q,h1,h2⟩:=Option.map_eq_some_iff.1 e
    exact Option.map_eq_some_iff.2 ⟨q,Cq h (by omega) h1,h2⟩
   |exit=>exact e
   |ret=>exact e
theorem gp{C C':lg}(h:Le C C'){n m l:Nat}(hm:n≤m):∀{c:IC} {σ:St} {o:Out×List (List T)},aS C l n c σ=some o→aS C' l m c σ=some o
 | .skip,_,_,e=>e
 | .A5 r,_,_,e=>by
  simp only[aS]at e⊢
  obtain⟨q,h1,h2⟩:=Option.bind_eq_some_iff.1 e
  exact Option.bind_eq_some_iff.2 ⟨q,wJ h h1,h2⟩
 | .seq a b,σ,o,e=>by
  simp only[aS]at e⊢
  cases ha:aS C l n a σ with
  |none=>rw[ha]at e;cases e
  |some x=>
   rw[ha]at e
   rw[gp h hm ha]
   obtain⟨x,ys⟩:=x
   cases x with
   |norm σ'=>
    obtain⟨q,h1,h2⟩:=Option.map_eq_some_iff.1 e
    exact Option.map_eq_some_iff.2 ⟨q,gp h hm h1,h2⟩
   |exit=>exact e
   |ret=>exact e
 | .cond c a b,σ,o,e=>by
  simp only[aS]at e⊢
  split at e<;>try(cases e;done)
  split at e
  ·rename_i ht;rw[if_pos ht];exact gp h hm e
  ·rename_i ht;rw[if_neg ht];exact gp h hm e
 | .block id a,σ,o,e=>by
  simp only[aS]at e⊢
  cases ha:aS C l n a σ with
  |none=>rw[ha]at e;cases e
  |some x=>rw[ha]at e;rw[gp h hm ha];exact e
 | .loop a,σ,o,e=>by
  simp only[aS]at e⊢
  exact Cq (fun σ o=>gp h hm) hm e
 | .kT a,σ,o,e=>by
  simp only[aS]at e⊢
  cases ha:aS C l n a σ with
  |none=>rw[ha]at e;cases e
  |some x=>rw[ha]at e;rw[gp h hm ha];exact e
 | .exit ..,_,_,e=>e
 | .ret,_,_,e=>e
 | .kill ..,_,_,e=>e
 | .free ..,_,_,e=>e
 | .jumps ..,_,_,e=>by simp only[aS]at e;cases e
 | .range ..,_,_,e=>by simp only[aS]at e;cases e
theorem Ia{α γ:Type}{f f':α→Option γ}(h:∀a r,f a=some r→f' a=some r):∀{xs:List α} {ys:List γ},xs.mapM f=some ys→xs.mapM f'=some ys
 | [],ys,e=>by simpa using e
 |x::xs,ys,e=>by
  simp only[List.mapM_cons,Option.bind_eq_bind,Option.bind_eq_some_iff,Option.pure_def]at e⊢
  obtain⟨a,h1,b,h2,h3⟩:=e
  exact⟨a,h _ _ h1,b,Ia h h2,h3⟩
theorem Du{split:Bool}{args:List T}{f f':List T→Option T}(h:∀a r,f a=some r→f' a=some r){r:T}(e:jd split args f=some r):jd split args f'=some r:=by
 unfold jd at e⊢
 split at e
 ·rename_i hs
  rw[if_pos hs]
  cases hm:(splits args).mapM f with
  |none=>rw[hm]at e;cases e
  |some rs=>rw[Ia h hm];rw[hm]at e;exact e
 ·rename_i hs
  rw[if_neg hs]
  exact h _ _ e
theorem ef{E:Env}:∀{n m:Nat},n≤m→Le (aV E n) (aV E m)
 |0,_,_=>fun f a r e=>by simp[aV]at e
 |n+1,0,hm=>by omega
 |n+1,m+1,hm=>fun f a r e=>by
  have ih:Le (aV E n) (aV E m):=ef (by omega)
  have xP:n≤m:=by omega
  simp only[aV]at e⊢
  split at e
  ·exact e
  ·split at e
   ·rename_i hl
    rw[if_pos hl]
    split at e<;>try(cases e;done)
    refine Du (fun a r e=> ?_) e
    unfold sK at e⊢
    split at e<;>try(cases e;done)
    rename_i hp
    rw[if_pos hp]
    split at e
    ·rename_i he;rw[cC ih xP he];exact e
    ·rename_i he;rw[cC ih xP he];exact e
    ·cases e
   ·rename_i hl
    rw[if_neg hl]
    split at e
    ·refine Du (fun a r e=> ?_) e
     unfold nA at e⊢
     simp only at e⊢
     split at e<;>try(cases e;done)
     rename_i hp
     rw[if_pos hp]
     split at e
     ·rename_i he;rw[cC ih xP he];exact e
     ·rename_i he;rw[cC ih xP he];exact e
     ·cases e
    ·obtain⟨ys,h1,h2⟩:=Option.map_eq_some_iff.1 e
     refine Option.map_eq_some_iff.2 ⟨ys, ?_,h2⟩
     unfold rO at h1⊢
     split at h1<;>try(cases h1;done)
     rename_i hp
     rw[if_pos hp]
     split at h1
     ·rename_i he;rw[gp ih xP he];exact h1
     ·rename_i he;rw[gp ih xP he];exact h1
     ·cases h1
    ·cases e
end Go.Vi
end
section
namespace Go.Vi
open Go
def fl(n:Nat):Nat:=FloatKind.f64.nearest (n:Int)
theorem yO{m:Nat}(h:0< m)(j:Nat):(m*2^j).log2=m.log2+j:=by
 induction j with
 |zero=>simp
 |succ j ih=>
  have h0:m*2^j≠0:=Nat.mul_ne_zero (by omega) (by have:=Nat.two_pow_pos j;omega)
  rw[Nat.pow_succ,←Nat.mul_assoc,Nat.mul_comm _ 2,Nat.log2_two_mul h0,ih]
  omega
theorem K8(way:Ieee.Toward)(hw:way= .even∨way= .zero)(neg:Bool){m:Nat}(h:0< m)(d:Nat):way.cut neg (m*2^d) d=m:=by
 have hl:=yO h d
 have Ny:min d ((m*2^d).log2+2)=d:=by omega
 have hp:=Nat.two_pow_pos d
 unfold Ieee.Toward.cut
 simp only[Ny,Nat.shiftLeft_eq,Nat.one_mul,Nat.mul_div_cancel _ hp,Nat.mul_mod_left]
 rcases hw with rfl|rfl
 ·have h1:decide (2^d< 2*0)=false:=by simp
  have h2:(2^d==2*0)=false:=by simp
  simp only[h1,h2,Bool.false_and,Bool.or_false,Bool.toNat_false,Nat.add_zero]
 ·simp
theorem Nz:Ieee.double.leastPlace= -1074:=by decide
theorem V4:Ieee.double.binade=4503599627370496:=by decide
theorem aeh:Ieee.double.fractionBits=52:=rfl
theorem V5:Ieee.double.infRung=9218868437227405312:=by decide
theorem aiR:Ieee.double.signWeight=9223372036854775808:=by decide
theorem wM{m:Nat}(h:0< m)(hm:m< 9007199254740992):m.log2≤52:=by
 have:=(Nat.log2_lt (by omega:m≠0) (k:=53)).2 (by simpa using hm)
 omega
def oC(m:Nat):Nat:=(m.log2+1022)*4503599627370496+m*2^(52-m.log2)
theorem AH{m:Nat}(h:0< m)(hm:m< 9007199254740992):4503599627370496≤m*2^(52-m.log2)∧m*2^(52-m.log2)< 9007199254740992:=by
 have hl:=wM h hm
 have nx:=yO h (52-m.log2)
 have e:(m*2^(52-m.log2)).log2=52:=by omega
 have hne:m*2^(52-m.log2)≠0:=by
  have:=Nat.two_pow_pos (52-m.log2)
  exact Nat.mul_ne_zero (by omega) (by omega)
 constructor
 ·have:=Nat.log2_self_le hne
  rw[e]at this
  simpa using this
 ·have:=Nat.lt_log2_self (n:=m*2^(52-m.log2))
  rw[e]at this
  simpa using this
theorem aei{m:Nat}(h:0< m)(hm:m< 9007199254740992):min (oC m) 9218868437227405312=oC m:=by
 have hl:=wM h hm
 have hb:=AH h hm
 unfold oC
 omega
theorem Gv{m:Nat}(h:0< m)(hm:m< 9007199254740992)(j:Nat):Ieee.double.nearest false (m*2^j) (-(j:Int))=oC m:=by
 have hl:=wM h hm
 have hne:¬m*2^j=0:=by
  have:=Nat.two_pow_pos j
  exact Nat.mul_ne_zero (by omega) (by omega)
 unfold Ieee.Format.nearest
 rw[if_neg hne]
 simp only[yO h j,Nz,V4,aeh,V5,Ieee.Format.word,Bool.false_eq_true,if_false]
 have e1:max (-(j:Int)+((m.log2+j:Nat):Int)-((52:Nat):Int)) (-1074)=(m.log2:Int)-52:=by omega
 rw[e1]
 have e2:(-(j:Int)-((m.log2:Int)-52)).toNat=(52-m.log2)-j:=by omega
 have e3:(((m.log2:Int)-52)- -(j:Int)).toNat=j-(52-m.log2):=by omega
 have e4:(((m.log2:Int)-52)- -1074).toNat=m.log2+1022:=by omega
 rw[e2,e3,e4,Nat.shiftLeft_eq]
 have e5:m*2^j*2^(52-m.log2-j)=(m*2^(52-m.log2))*2^(j-(52-m.log2)):=by
  rw[Nat.mul_assoc,←Nat.pow_add,Nat.mul_assoc,←Nat.pow_add]
  congr 2
  omega
 rw[e5,K8 .even (.inl rfl) false (by have:=(AH h hm).1;omega)]
 exact aei h hm
theorem MS{m:Nat}(h:0< m)(hm:m< 9007199254740992):Ieee.double.nearest false m 0=oC m:=by
 have:=Gv h hm 0
 rw[Nat.pow_zero,Nat.mul_one]at this
 exact this
theorem RQ:fl 0=0:=by decide
theorem FH{m:Nat}(h:0< m)(hm:m< 9007199254740992):fl m=oC m:=by
 have e:fl m=Ieee.double.nearest (decide ((m:Int)< 0)) m 0:=rfl
 have hd:decide ((m:Int)< 0)=false:=by simp
 rw[e,hd,MS h hm]
theorem V6:Ieee.double.read 0= .number false 0 (-1074):=by decide
theorem V7{m:Nat}(h:0< m)(hm:m< 9007199254740992):Ieee.double.read (oC m)= .number false (m*2^(52-m.log2)) ((m.log2:Int)-52):=by
 have hl:=wM h hm
 obtain⟨h1,h2⟩:=AH h hm
 obtain⟨f,hf⟩:∃f,m*2^(52-m.log2)=4503599627370496+f:=⟨m*2^(52-m.log2)-4503599627370496,by omega⟩
 have hw:oC m=(m.log2+1023)*4503599627370496+f:=by unfold oC;omega
 have hlt:oC m< 9223372036854775808:=by omega
 unfold Ieee.Format.read
 simp only[aiR,V4,V5,Nz]
 have n0:(oC m / 9223372036854775808%2==1)=false:=by
  rw[Nat.div_eq_of_lt hlt];rfl
 have n1:oC m%9223372036854775808=oC m:=Nat.mod_eq_of_lt hlt
 rw[n0,n1,if_neg (by omega),if_pos (by omega)]
 have n2:oC m%4503599627370496=f:=by omega
 have n3:oC m / 4503599627370496=m.log2+1023:=by omega
 rw[n2,n3,hf]
 have n4:(-1074:Int)+((m.log2+1023-1:Nat):Int)=(m.log2:Int)-52:=by omega
 rw[n4]
theorem vD{m:Nat}(hm:m< 9007199254740992):∃k:Nat,Ieee.double.read (fl m)= .number false (m*2^k) (-(k:Int)):=by
 rcases Nat.eq_zero_or_pos m with rfl|h
 ·obtain⟨k,hk⟩:∃k:Nat,k=1074:=⟨_,rfl⟩
  exact⟨k,by rw[RQ,V6,Nat.zero_mul,hk];rfl⟩
 ·have hl:=wM h hm
  refine⟨52-m.log2, ?_⟩
  rw[FH h hm,V7 h hm]
  have:(m.log2:Int)-52= -((52-m.log2:Nat):Int):=by omega
  rw[this]
theorem FJ{a k:Nat}{base:Int}(hb:base≤ -(k:Int)):(a*2^k)<<< (-(k:Int)-base).toNat=a*2^(-base).toNat:=by
 rw[Nat.shiftLeft_eq,Nat.mul_assoc,←Nat.pow_add]
 congr 2
 omega
theorem K9{m:Nat}(hm:m< 9007199254740992)(j:Nat):Ieee.double.write (.number false (m*2^j) (-(j:Int)))=fl m:=by
 show Ieee.double.nearest false (m*2^j) (-(j:Int))=fl m
 rcases Nat.eq_zero_or_pos m with rfl|h
 ·rw[RQ,Nat.zero_mul];rfl
 ·rw[Gv h hm j,FH h hm]
theorem agh{a b:Nat}(h:a+b< 9007199254740992):Ieee.double.add (fl a) (fl b)=some (fl (a+b)):=by
 obtain⟨i,ri⟩:=vD (m:=a) (by omega)
 obtain⟨j,rj⟩:=vD (m:=b) (by omega)
 unfold Ieee.Format.add
 rw[ri,rj]
 simp only[Ieee.Datum.sum,Ieee.signed,Bool.false_eq_true,if_false,Option.map_some]
 obtain⟨k,hk⟩:∃k:Nat,min (-(i:Int)) (-(j:Int))= -(k:Int):=⟨max i j,by omega⟩
 rw[hk,FJ (by omega),FJ (by omega)]
 have ek:(- -(k:Int)).toNat=k:=by omega
 rw[ek]
 have et:((a*2^k:Nat):Int)+((b*2^k:Nat):Int)=(((a+b)*2^k:Nat):Int):=by rw[Nat.add_mul];omega
 rw[et]
 have tq:(if(((a+b)*2^k:Nat):Int)=0 then false&&false else decide ((((a+b)*2^k:Nat):Int)< 0))=false:=by
  split
  ·rfl
  ·simp only[decide_eq_false_iff_not];omega
 rw[tq,Int.natAbs_natCast,K9 h]
theorem agi{a b:Nat}(h:a< 9007199254740992)(hb:b≤a):Ieee.double.sub (fl a) (fl b)=some (fl (a-b)):=by
 obtain⟨i,ri⟩:=vD (m:=a) h
 obtain⟨j,rj⟩:=vD (m:=b) (by omega)
 unfold Ieee.Format.sub
 rw[ri,rj]
 simp only[Ieee.Datum.opposite,Ieee.Datum.sum,Ieee.signed,Bool.not_false,Bool.false_eq_true,if_false,if_true,Option.map_some]
 obtain⟨k,hk⟩:∃k:Nat,min (-(i:Int)) (-(j:Int))= -(k:Int):=⟨max i j,by omega⟩
 rw[hk,FJ (by omega),FJ (by omega)]
 have ek:(- -(k:Int)).toNat=k:=by omega
 rw[ek]
 have hle:b*2^k≤a*2^k:=Nat.mul_le_mul_right _ hb
 have et:((a*2^k:Nat):Int)+ -((b*2^k:Nat):Int)=(((a-b)*2^k:Nat):Int):=by rw[Nat.sub_mul];omega
 rw[et]
 have tq:(if(((a-b)*2^k:Nat):Int)=0 then false&&true else decide ((((a-b)*2^k:Nat):Int)< 0))=false:=by
  split
  ·rfl
  ·simp only[decide_eq_false_iff_not];omega
 rw[tq,Int.natAbs_natCast,K9 (by omega)]
theorem aaX{a b:Nat}(ha:a< 9007199254740992)(hb:b< 9007199254740992):Ieee.double.order (fl a) (fl b)=some (compare a b):=by
 obtain⟨i,ri⟩:=vD (m:=a) ha
 obtain⟨j,rj⟩:=vD (m:=b) hb
 unfold Ieee.Format.order
 rw[ri,rj]
 simp only[Ieee.Datum.order,Ieee.signed,Bool.false_eq_true,if_false]
 obtain⟨k,hk⟩:∃k:Nat,min (-(i:Int)) (-(j:Int))= -(k:Int):=⟨max i j,by omega⟩
 rw[hk,FJ (by omega),FJ (by omega)]
 have ek:(- -(k:Int)).toNat=k:=by omega
 rw[ek]
 congr 1
 have hp:=Nat.two_pow_pos k
 simp only[compare,compareOfLessAndEq]
 have l1:(((a*2^k:Nat):Int)< ((b*2^k:Nat):Int))↔a< b:=by
  rw[Int.ofNat_lt]
  exact Nat.mul_lt_mul_right hp
 have l2:(((a*2^k:Nat):Int)=((b*2^k:Nat):Int))↔a=b:=by
  rw[Int.ofNat_inj]
  exact Nat.mul_right_cancel_iff hp
 simp only[l1,l2]
theorem aaY{a:Nat}(ha:a< 9007199254740992):(Ieee.double.read (fl a)).toInt .zero=some (a:Int):=by
 obtain⟨i,ri⟩:=vD (m:=a) ha
 rw[ri]
 have e1:(-(i:Int)).toNat=0:=by omega
 have e2:(- -(i:Int)).toNat=i:=by omega
 rcases Nat.eq_zero_or_pos a with rfl|h
 ·simp only[Ieee.Datum.toInt,Ieee.Datum.integral,e1,e2,Nat.zero_mul,Nat.shiftLeft_eq,Nat.pow_zero,Nat.mul_one]
  simp[Ieee.Toward.cut,Ieee.signed]
 ·simp only[Ieee.Datum.toInt,Ieee.Datum.integral,e1,e2,Nat.shiftLeft_eq,Nat.pow_zero,Nat.mul_one,K8 .zero (.inr rfl) false h i]
  simp[Ieee.signed]
end Go.Vi
namespace Go.Vi
open Go
theorem NA(t:TypeId){a b:Nat}(h:a+b< 9007199254740992):bM .add t (.v (.float .f64 (fl a))) (.v (.float .f64 (fl b)))=some (.v (.float .f64 (fl (a+b)))):=by
 have e:Ieee.Format.add FloatKind.f64.format (fl a) (fl b)=some (fl (a+b)):=agh h
 show(gn (Op.floatArith .add .f64 (fl a) (fl b))).map T.v=_
 simp only[Op.floatArith,pure_bind,e]
 rfl
theorem aaZ(t:TypeId){a b:Nat}(h:a< 9007199254740992)(hb:b≤a):bM .sub t (.v (.float .f64 (fl a))) (.v (.float .f64 (fl b)))=some (.v (.float .f64 (fl (a-b)))):=by
 have e:Ieee.Format.sub FloatKind.f64.format (fl a) (fl b)=some (fl (a-b)):=agi h hb
 show(gn (Op.floatArith .sub .f64 (fl a) (fl b))).map T.v=_
 simp only[Op.floatArith,pure_bind,e]
 rfl
theorem aa0(t:TypeId){a b:Nat}(ha:a< 9007199254740992)(hb:b< 9007199254740992):bM .geq t (.v (.float .f64 (fl a))) (.v (.float .f64 (fl b)))=some (.v (.bool (decide (b≤a)))):=by
 have e:Ieee.Format.order FloatKind.f64.format (fl a) (fl b)=some (compare a b):=aaX ha hb
 show(gn (Op.floatCmp .geq .f64 (fl a) (fl b))).map T.v=_
 simp only[Op.floatCmp,e]
 show some (T.v (.bool (some (compare a b)==some .gt||some (compare a b)==some .eq)))=_
 congr 3
 rcases Nat.lt_trichotomy a b with h|h|h
 ·have:compare a b= .lt:=by simp[compare,compareOfLessAndEq,h]
  rw[this,decide_eq_false (by omega)]
  rfl
 ·subst h
  have:compare a a= .eq:=by simp[compare,compareOfLessAndEq]
  rw[this,decide_eq_true (Nat.le_refl _)]
  rfl
 ·have:compare a b= .gt:=by
   show compareOfLessAndEq a b= .gt
   unfold compareOfLessAndEq
   rw[if_neg (by omega),if_neg (by omega)]
  rw[this,decide_eq_true (by omega)]
  rfl
theorem V8{a:Nat}(ha:a< 9007199254740992):gn (Conv.floatToInt .f64 (fl a) .i64)=some (.int .i64 (a:Int)):=by
 have e:(FloatKind.f64.decode (fl a)).toInt .zero=some (a:Int):=aaY ha
 unfold Conv.floatToInt
 simp only[e]
 have hr:IntKind.i64.min≤(a:Int)∧(a:Int)≤IntKind.i64.max:=by
  have h1:IntKind.i64.min= -9223372036854775808:=by decide
  have h2:IntKind.i64.max=9223372036854775807:=by decide
  rw[h1,h2]
  omega
 rw[if_pos hr]
 rfl
end Go.Vi
end
section
namespace Go.Vi
open Go
theorem aq{n:Nat}(h:n< 9223372036854775808):IntKind.i64.wrap (n:Int)=n:=by
 rw[IntKind.wrap_i64];omega
theorem zL{n:Nat}(h:n< 9223372036854775808):(BitVec.ofInt IntKind.i64.bits (n:Int)).toNat=n:=by
 have e:(BitVec.ofInt IntKind.i64.bits (n:Int)).toNat=((n:Int)%((2^IntKind.i64.bits:Nat):Int)).toNat:=BitVec.toNat_ofInt ..
 have D5:((2^IntKind.i64.bits:Nat):Int)=18446744073709551616:=by decide
 rw[e,D5]
 omega
theorem aej{a b:Nat}(ha:a< 9223372036854775808)(hb:b< 9223372036854775808):a|||b< 9223372036854775808:=
 Nat.or_lt_two_pow (n:=63) ha hb
theorem aa1{a b:Nat}(ha:a< 9223372036854775808):a&&&b< 9223372036854775808:=Nat.lt_of_le_of_lt Nat.and_le_left ha
theorem V9(t:TypeId){a b:Nat}(ha:a< 9223372036854775808)(hb:b< 9223372036854775808):bM .or t (.v (.int .i64 (a:Int))) (.v (.int .i64 (b:Int)))=some (.v (.int .i64 ((a|||b:Nat):Int))):=by
 show(gn (Op.intBits .or .i64 (a:Int) (b:Int))).map T.v=_
 show some (T.v (.int .i64 (IntKind.i64.wrap (((BitVec.ofInt IntKind.i64.bits (a:Int)|||BitVec.ofInt IntKind.i64.bits (b:Int)).toNat:Nat):Int))))=_
 rw[BitVec.toNat_or,zL ha,zL hb,aq (aej ha hb)]
theorem Bk(t:TypeId){a b:Nat}(ha:a< 9223372036854775808)(hb:b< 9223372036854775808):bM .and t (.v (.int .i64 (a:Int))) (.v (.int .i64 (b:Int)))=some (.v (.int .i64 ((a&&&b:Nat):Int))):=by
 show(gn (Op.intBits .and .i64 (a:Int) (b:Int))).map T.v=_
 show some (T.v (.int .i64 (IntKind.i64.wrap (((BitVec.ofInt IntKind.i64.bits (a:Int)&&&BitVec.ofInt IntKind.i64.bits (b:Int)).toNat:Nat):Int))))=_
 rw[BitVec.toNat_and,zL ha,zL hb,aq (aa1 ha)]
theorem RR(t:TypeId){kd:IntKind}{a n:Nat}(hn:n≤64)(h:a*2^n< 9223372036854775808):bM .shl t (.v (.int .i64 (a:Int))) (.v (.int kd (n:Int)))=some (.v (.int .i64 ((a*2^n:Nat):Int))):=by
 show(gn (Op.shift .shl .i64 (a:Int) kd (n:Int))).map T.v=_
 unfold Op.shift
 rw[if_neg (by omega)]
 have hm:min (n:Int).toNat IntKind.i64.bits=n:=by
  have:IntKind.i64.bits=64:=rfl
  rw[this];omega
 simp only[hm]
 show some (T.v (.int .i64 (IntKind.i64.wrap ((a:Int)*2^n))))=_
 have e:(a:Int)*2^n=((a*2^n:Nat):Int):=by rw[Int.natCast_mul,Int.natCast_pow];rfl
 rw[e,aq h]
theorem RS(t:TypeId){kd:IntKind}{a n:Nat}(hn:n≤64):bM .shr t (.v (.int .i64 (a:Int))) (.v (.int kd (n:Int)))=some (.v (.int .i64 ((a / 2^n:Nat):Int))):=by
 show(gn (Op.shift .shr .i64 (a:Int) kd (n:Int))).map T.v=_
 unfold Op.shift
 rw[if_neg (by omega)]
 have hm:min (n:Int).toNat IntKind.i64.bits=n:=by
  have:IntKind.i64.bits=64:=rfl
  rw[this];omega
 simp only[hm]
 show some (T.v (.int .i64 ((a:Int).fdiv (2^n))))=_
 have e:(a:Int).fdiv (2^n)=((a / 2^n:Nat):Int):=by
  rw[Int.fdiv_eq_ediv_of_nonneg _ (by exact Int.pow_nonneg (by decide)),Int.natCast_ediv,Int.natCast_pow]
  rfl
 rw[e]
theorem Bl(t:TypeId){a b:Nat}(hb:0< b):bM .rem t (.v (.int .i64 (a:Int))) (.v (.int .i64 (b:Int)))=some (.v (.int .i64 ((a%b:Nat):Int))):=by
 show(gn (Op.intDiv .rem .i64 (a:Int) (b:Int))).map T.v=_
 unfold Op.intDiv
 rw[if_neg (by omega)]
 show some (T.v (.int .i64 ((a:Int).tmod (b:Int))))=_
 rw[Int.ofNat_tmod]
theorem RT(t:TypeId){a b:Nat}(hb:0< b)(ha:a< 9223372036854775808):bM .quo t (.v (.int .i64 (a:Int))) (.v (.int .i64 (b:Int)))=some (.v (.int .i64 ((a / b:Nat):Int))):=by
 show(gn (Op.intDiv .quo .i64 (a:Int) (b:Int))).map T.v=_
 unfold Op.intDiv
 rw[if_neg (by omega)]
 show some (T.v (.int .i64 (IntKind.i64.wrap ((a:Int).tdiv (b:Int)))))=_
 rw[←Int.ofNat_tdiv,aq (Nat.lt_of_le_of_lt (Nat.div_le_self _ _) ha)]
theorem NB{a x i:Nat}(h:a< 2^i):a|||x*2^i=a+x*2^i:=by
 have:=Nat.shiftLeft_add_eq_or_of_lt h x
 rw[Nat.shiftLeft_eq]at this
 rw[Nat.or_comm,←this,Nat.add_comm]
end Go.Vi
end
