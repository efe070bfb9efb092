/-
  A claim's own text, joined by a small program out of: Vj1, Vj28, VjF, VjB.
-/
import Derived.Test.YtodollbkpkpklaaGreatX0
set_option linter.unusedVariables false
set_option linter.unusedSimpArgs false
section
namespace Go.Vi
open Go
mutual
def ofValue:Value→T
 | .agg cs=> .agg (ofValues cs.toList)
 | .slice none 0 0=> .sl .nil 0 []
 |x=> .v x
def ofValues:List Value→List T
 | []=>[]
 |x::xs=>ofValue x::ofValues xs
end
def JD:Value→Bool
 | .agg cs=>cs.all fun x=>x.oneCell'
 |_=>true
def qJ(done:List (Option Nat))(s:Nat):Option Nat:=done.idxOf? (some s)
def lq(vm:List Nat)(done:List (Option Nat)):Operand→Option ag
 | .tmp s=>match qJ done s with
  |some i=>some (.r i)
  |none=>(vm.idxOf? s).map .x
 | .const v=>if JD v then some (.c (ofValue v))else none
 | .func f=>some (.c (.v (.func (.func f) #[] #[])))
 | .global _=>none
def gD(P:Program)(t:TypeId):Option (Bool×Nat):=
 match P.underlying t,P.info? t with
 |some (.struct _),some i=>some (true,i.size)
 |some (.array _ _),some i=>some (true,i.size)
 |some _,some i=>if i.size=1 then some (false,1)else none
 |_,_=>none
def zeroOf(P:Program)(t:TypeId):Option (List T):=
 match P.info? t with
 |some i=>match i.zero with
  |some z=>if z.cells.size=i.size∧z.cells.all Value.oneCell' then some (ofValues z.cells.toList)else none
  |none=>none
 |none=>none
def leaves(P:Program):Nat→TypeId→Option (List LK)
 |0,_=>none
 |d+1,t=>match P.underlying t with
  |some .bool=>some [.bool]
  |some (.int _)=>some [.int]
  |some .string=>some [.str]
  |some (.struct fs)=>if P.stoodInHeld t then none else fs.toList.foldlM (fun acc f=>if f.name= "_" ∨f.offset≠acc.length then none else do
    let ks←leaves P d f.type
    let (_,n)←gD P f.type
    if n=ks.length then some (acc++ks)else none) []
  |some (.array n e)=>do
    let ks←leaves P d e
    let (_,m)←gD P e
    if m=ks.length then some (List.replicate n ks).flatten else none
  |_=>none
def vc(P:Program)(t:TypeId):Bool:=
 match P.underlying t with
 |some (.struct fs)=>fs.toList.all fun f=>(P.info? f.type).isSome
 |some (.array _ e)=>(P.info? e).isSome
 |some (.slice e)=>(P.info? e).isSome
 |_=>false
def nm(P:Program)(opd:Operand→Option ag)(t:TypeId):(Nat×Operand)→Option (Nat×Nat×ag)
 |(i,x)=>do
  let a←opd x
  match P.underlying t with
  |some (.struct fs)=>match fs[i]? with
   |some f=>some (f.offset,P.cellsOf f.type,a)
   |none=>none
  |some (.array _ e)=>some (i*P.cellsOf e,P.cellsOf e,a)
  |some (.slice e)=>some (i*P.cellsOf e,P.cellsOf e,a)
  |_=>none
def gn(opd:Operand→Option ag):Option Operand→Option (Option ag)
 |none=>some none
 |some x=>(opd x).map some
def HH:Operand→Bool
 | .const (.slice none 0 0)=>true
 |_=>false
def E9(P:Program)(opd:Operand→Option ag)(neg:Bool)(op:BinOp)(t:TypeId)(x y:Operand):Option IOp:=do
 match P.underlying t with
 |some (.int _)|some .string|some (.float _)|some (.complex _)=>do some (.bin op t (←opd x) (←opd y))
 |some .bool=>do some (.eqb neg (←opd x) (←opd y))
 |some (.slice _)=>if HH y then do some (.eqnil neg (←opd x))else none
 |some (.struct _)|some (.array _ _)=>do
   let ks←leaves P 20 t
   if P.eqGuardType P.depth t=true∨gD P t≠some (true,ks.length)then none else do some (.eqa neg ks (←opd x) (←opd y))
 |_=>none
def mu(bm:List Nat)(d:Nat):Option Nat:=(bm.idxOf? d).map (2*·)
def JE(bm:List Nat)(d:Nat)(e:TypeId)(sz bytes:Nat)(zs:List T)(q:ag):IOp:=
 match mu bm d with
 |some s=> .mkBox s sz bytes zs q
 |none=> .mkSlice d e sz bytes zs q
def Tu(bm:List Nat)(d:Nat)(e:TypeId)(sz len:Nat)(zs:List T)(qs:List (Nat×Nat×ag)):IOp:=
 match mu bm d with
 |some s=> .bsliceB s sz len zs qs
 |none=> .bslice d e sz len zs qs
def BM(bm:List Nat)(d:Nat)(e:TypeId)(sz bytes:Nat)(zs:List T)(kind:Nat)(x y:ag):IOp:=
 match mu bm d with
 |some s=> .appendB s e sz bytes zs kind x y
 |none=> .append d e sz bytes zs kind x y
def z7(bm:List Nat)(d:Nat):List Nat:=(List.range 8).filterMap fun j=>mu bm (d+100000*j)
def M5(io:FuncId→Nat)(bm:List Nat)(d:Nat)(f:FuncId)(as:List ag):IOp:=
 match io f with
 |0=> .call d f as
 |1=> .callnew d (z7 bm d) f as
 |_=> .callio d (z7 bm d) f as
def JF(bm:List Nat)(d:Nat)(f:ag)(as:List ag):IOp:=
 if bm.contains (d+900000)then .callvio d (z7 bm d) f as else .callv d f as
def xR(P:Program)(t:TypeId):Option LK:=
 match P.underlying t with
 |some (.int _)=>some .int
 |some .bool=>some .bool
 |_=>none
def GW(P:Program)(t:TypeId):Option T:=
 match P.info? t with
 |some i=>match i.zero with
  |some z=>if JD z then some (ofValue z)else none
  |none=>none
 |none=>none
def afF(bm:List Nat)(d:Nat):Option Nat:=(bm.find? fun m=>decide (10000000≤m)&&m%10000000==d).map fun m=>m / 10000000-1
def M6(P:Program)(bm:List Nat)(dst:Option Nat)(q:ag):IOp:=
 match dst with
 |some d=>match afF bm d with
  |some e=>if 0< P.cellsOf e∧(P.info? e).isSome=true then .thaw d e (P.cellsOf e) q else .mv q
  |none=> .mv q
 |none=> .mv q
def nY(P:Program)(io:FuncId→Nat)(vm bm:List Nat)(done:List (Option Nat))(o:Oper):Option IOp:=
 let opd:=lq vm done
 match o.op with
 | .move x| .assign x=>(opd x).map (M6 P bm o.dst)
 | .pick c a b=>do some (.pick (←opd c) (←opd a) (←opd b))
 | .binOp op t x y _=>match op with
  | .eql=>E9 P opd false op t x y
  | .neq=>E9 P opd true op t x y
  |_=>do some (.bin op t (←opd x) (←opd y))
 | .unOp op _ x=>(opd x).map (.un op)
 | .convert s t x=>match P.underlying s,P.underlying t with
  |some (.int _),some (.int k)=>(opd x).map (.toInt k)
  |some (.float _),some (.int k)=>(opd x).map (.toInt k)
  |some (.int _),some (.float k)=>(opd x).map (.toFloat k)
  |some (.slice e),some .string=>match P.underlying e with
   |some (.int .u8)=>(opd x).map .toStr
   |_=>none
  |_,_=>none
 | .build t parts=>match P.underlying t with
  |some (.struct _)|some (.array _ _)=>if vc P t then do some (.build (←zeroOf P t) (←parts.toList.mapM (nm P opd t)))else none
  |_=>none
 | .field t x f=>match P.underlying t with
  |some (.struct fs)=>match fs[f]? with
   |some f=>do let (g,n)←gD P f.type;some (.field g f.offset n (←opd x))
   |none=>none
  |_=>none
 | .index t x i=>match P.underlying t with
  |some (.array len e)=>do let (g,n)←gD P e;some (.indexA len n g (←opd x) (←opd i))
  |some .string=>do some (.indexS (←opd x) (←opd i))
  |_=>none
 | .extract x i=>do some (.extract (←opd x) i)
 | .alloc t=>match o.dst with
  |some d=>do some (.alloc (←mu bm d) (←zeroOf P t))
  |none=>none
 | .box _ x=>match o.dst with
  |some d=>do some (.box (←mu bm d) (←opd x))
  |none=>none
 | .load t x=>do let (g,n)←gD P t;some (.load g n (←opd x))
 | .store t x y=>do let (_,n)←gD P t;some (.store n (←opd x) (←opd y))
 | .fieldAddr t x f=>match P.underlying t with
  |some (.struct fs)=>match fs[f]? with
   |some f=>if P.cellsOf f.type=0 then none else do some (.faddr f.offset (←opd x))
   |none=>none
  |_=>none
 | .indexAddr t x i=>match P.underlying t with
  |some (.array len e)=>if P.cellsOf e=0 then none else do some (.iaddrA len (P.cellsOf e) (←opd x) (←opd i))
  |some (.slice e)=>if P.cellsOf e=0 then none else do some (.iaddrS (P.cellsOf e) (←opd x) (←opd i))
  |_=>none
 | .slice t x lo hi mx=>match P.underlying t with
  |some .string=>if mx.isNone then do some (.sliceS (←opd x) (←gn opd lo) (←gn opd hi))else none
  |some (.slice e)=>if P.cellsOf e=0∨(mx.isSome∧hi.isNone)then none else do some (.sliceT (P.cellsOf e) (←opd x) (←gn opd lo) (←gn opd hi) (←gn opd mx))
  |some (.array len e)=>if P.cellsOf e=0∨mx.isSome then none else do some (.sliceA len (P.cellsOf e) (←opd x) (←gn opd lo) (←gn opd hi))
  |_=>none
 | .sliceToArrayPointer t x=>match P.underlying t with
  |some (.array len _)=>(opd x).map (.arrOf len)
  |_=>none
 | .makeSlice t l c=>match P.underlying t,o.dst with
  |some (.slice e),some d=>match l,c with
   | .tmp l',.tmp c'=>if l'=c'∧0< P.cellsOf e then do some (JE bm d e (P.cellsOf e) (P.bytesOf e) (←zeroOf P e) (←opd l))else none
   | .const (.int .i64 m),.const (.int .i64 m')=>if m=m'∧0< P.cellsOf e then do some (JE bm d e (P.cellsOf e) (P.bytesOf e) (←zeroOf P e) (←opd l))else none
   | .const (.int .i64 0),.tmp _=>if 0< P.cellsOf e∧(zeroOf P e).isSome then(opd c).map (.mkCap d e (P.bytesOf e))else none
   |_,_=>none
  |_,_=>none
 | .buildSlice t len parts=>match P.underlying t,o.dst with
  |some (.slice e),some d=>if 0< P.cellsOf e∧vc P t then do some (Tu bm d e (P.cellsOf e) len (←zeroOf P e) (←parts.toList.mapM (nm P opd t)))else none
  |_,_=>none
 | .makeMap _ none=>match o.dst with
  |some d=>(mu bm d).map fun s=> .mkMap (s+1)
  |none=>none
 | .lookup t x i ok=>match P.underlying t with
  |some (.map k e)=>do some (.lookup (←xR P k) (←GW P e) ok (←opd x) (←opd i))
  |_=>none
 | .mapUpdate t x i v=>match P.underlying t with
  |some (.map k _)=>do some (.mapUpdate (←xR P k) (←opd x) (←opd i) (←opd v))
  |_=>none
 | .makeFunc fn first cap=>do some (.mkFunc fn (←first.toList.mapM opd) (←cap.toList.mapM opd))
 | .nilCheck x=>(opd x).map .nilCheck
 | .call c=>match c.callee,o.dst with
  | .builtin .append,some d=>match c.args.toList,c.argTypes.toList with
   | [x,y],[t,u]=>match P.underlying t,P.underlying u with
    |some (.slice e),some (.slice _)=>if 0< P.cellsOf e then do some (BM bm d e (P.cellsOf e) (P.bytesOf e) (←zeroOf P e) 0 (←opd x) (←opd y))else none
    |some (.slice e),some .string=>if P.cellsOf e=1 then do some (BM bm d e 1 (P.bytesOf e) (←zeroOf P e) 1 (←opd x) (←opd y))else none
    |some (.slice e),some (.int _)=>if 0< P.cellsOf e then do some (BM bm d e (P.cellsOf e) (P.bytesOf e) (←zeroOf P e) 2 (←opd x) (←opd y))else none
    |_,_=>none
   |_,_=>none
  | .builtin .len,_=>match c.args.toList,c.argTypes.toList with
   | [x],[t]=>match P.underlying t with
    |some (.slice _)=>(opd x).map (.len false)
    |some .string=>(opd x).map (.len true)
    |some (.array n _)=>some (.mv (.c (.int n)))
    |some (.map _ _)=>(opd x).map .lenM
    |_=>none
   |_,_=>none
  | .builtin .cap,_=>match c.args.toList,c.argTypes.toList with
   | [x],[t]=>match P.underlying t with
    |some (.slice _)=>(opd x).map .capS
    |_=>none
   |_,_=>none
  | .builtin .max,_=>do some (.minMax true (←c.args.toList.mapM opd))
  | .builtin .min,_=>do some (.minMax false (←c.args.toList.mapM opd))
  | .builtin .real,_=>match c.args.toList with| [x]=>(opd x).map (.part 0)|_=>none
  | .builtin .imag,_=>match c.args.toList with| [x]=>(opd x).map (.part 1)|_=>none
  | .builtin .complex,_=>match c.args.toList with| [x,y]=>do some (.cplx (←opd x) (←opd y))|_=>none
  | .builtin .copy,_=>match c.args.toList,c.argTypes.toList with
   | [x,y],[t,_]=>match P.underlying t with
    |some (.slice e)=>if 0< P.cellsOf e then do some (.copy (P.cellsOf e) (←opd x) (←opd y))else none
    |_=>none
   |_,_=>none
  | .builtin .clear,_=>match c.args.toList,c.argTypes.toList with
   | [x],[t]=>match P.underlying t with
    |some (.slice e)=>if 0< P.cellsOf e then do some (.clearS (P.cellsOf e) (←zeroOf P e) (←opd x))else none
    |_=>none
   |_,_=>none
  | .value (.func f),some d=>do some (M5 io bm d f (←c.args.toList.mapM opd))
  | .value (.tmp s),some d=>do some (JF bm d (←opd (.tmp s)) (←c.args.toList.mapM opd))
  |_,_=>none
 |_=>none
def tg(nt:Nat)(done:List (Option Nat))(o:Oper):Bool:=
 (match o.dst with|some s=>done.contains (some s)|| !(decide (s< nt))|none=>false)||(match o.guard with|some (j,_)=> !((done[j]?).join).isSome|none=>false)
def jU(P:Program)(io:FuncId→Nat)(nt:Nat)(vm bm:List Nat):List (Option Nat)→List Oper→Option (List (Option (Nat×Bool)×IOp))
 |_,[]=>some []
 |done,o::rest=>
  if tg nt done o then none else do
   let i←nY P io vm bm done o
   let r←jU P io nt vm bm (done++[o.dst]) rest
   some ((o.guard,i)::r)
abbrev Hints:=List (List Nat×List Nat)
def tY:Code→Option Nat
 | .goto l=>some l
 | .seq a b=>(tY a).or (tY b)
 | .cond _ a b=>(tY a).or (tY b)
 | .block _ a=>tY a
 | .loop a=>tY a
 | .scope a=>tY a
 |_=>none
def ei:Code→Bool
 | .skip| .region ..| .exit _| .ret| .label _| .goto _=>true
 | .seq a b| .cond _ a b=>ei a&&ei b
 | .block _ a| .loop a=>ei a
 | .scope a=>(tY a).isNone&&ei a
 |_=>false
def bz(P:Program)(io:FuncId→Nat)(nt:Nat)(vm bm:List Nat)(bE:List Nat→Array Oper→List (Option (Nat×Bool)×IOp)→Bool):Nat→Code→Hints→Option (IC×Hints)
 |0,_,_=>none
 |n+1,c,h=>match c with
  | .skip=>some (.skip,h)
  | .region _ ops draw=>if(jU P io nt vm bm [] ops.toList).isNone then some (.kz (.exit cD),h)else(jU P io nt vm bm [] ops.toList).bind fun l=>
   if draw&& !bE vm ops l then none else some (.Az ⟨l,vm.map (qJ (ops.toList.map (·.dst))),draw⟩,h)
  | .seq a b=>do
   let (a,h)←bz P io nt vm bm bE n a h
   let (b,h)←bz P io nt vm bm bE n b h
   some (.seq a b,h)
  | .cond c a b=>do
   let c←lq vm [] c
   let (a,h)←bz P io nt vm bm bE n a h
   let (b,h)←bz P io nt vm bm bE n b h
   some (.cond c a b,h)
  | .block id a=>do let (a,h)←bz P io nt vm bm bE n a h;if id< cD then some (.block id a,h)else none
  | .loop a=>match h with
   |(vs,ss)::h=>do
    let (a,h)←bz P io nt vm bm bE n a h
    some (.loop (.seq (.kill (vs.filterMap (vm.idxOf? ·))) (.seq (.free ((ss.filterMap (mu bm ·)).flatMap fun s=>[s,s+1])) a)),h)
   | []=>none
  | .exit id=>if id< cD then some (.exit id,h)else none
  | .ret=>some (.ret,h)
  | .label _=>some (.skip,h)
  | .goto l=>some (.exit (cD+l),h)
  | .scope a=>match tY a with
   |none=>do let (a,h)←bz P io nt vm bm bE n a h;some (.kz a,h)
   |some l=>match findLabel a l,h with
    |some rest,(vs,ss)::h=>do
     let (a,h)←bz P io nt vm bm bE n a h
     let (b,h)←bz P io nt vm bm bE n rest h
     some (.jumps (cD+l) a (.seq (.kill (vs.filterMap (vm.idxOf? ·))) (.seq (.free ((ss.filterMap (mu bm ·)).flatMap fun s=>[s,s+1])) b)),h)
    |_,_=>none
  | .rangeFunc g ps a b=>do
   let g←lq vm [] g
   let is←ps.toList.mapM (vm.idxOf? ·)
   if vm.Nodup∧ps.toList.all (· < nt)∧ei a=true∧ei b=true then do
    let (a,h)←bz P io nt vm bm bE n a h
    let (b,h)←bz P io nt vm bm bE n b h
    some (.range (2*bm.length) g is a b,h)
   else none
  |_=>none
def AN(P:Program)(vm:List Nat):ResultVar→Option zP
 | .tmp s=>(vm.idxOf? s).map .var
 | .cell s t=>do let (g,n)←gD P t;some (.cell (←vm.idxOf? s) g n)
def lower(P:Program)(io:FuncId→Nat)(bE:List Nat→Array Oper→List (Option (Nat×Bool)×IOp)→Bool)(vm bm:List Nat)(h:Hints)(canon:List CM)(split:Bool)(fn:Func):Option aD:=
 let p:=fn.params.size+fn.nfree
 match fn.body with
 |some c=>if vm.Nodup∧bm.Nodup∧vm.take p=List.range p∧vm.all (· < fn.ntmps)then do
   let (c,_)←bz P io fn.ntmps vm bm bE 400 c h
   let rs←fn.results.toList.mapM (AN P vm)
   some ⟨p,vm.length,bm.length,rs,canon,split,c⟩
  else none
 |none=>none
end Go.Vi
end
section
namespace Go.Vi
open Go
abbrev kM:=FuncId→List T→Option T
def Le(C C':kM):Prop:=∀f a r,C f a=some r→C' f a=some r
theorem Tv{C C':kM}(h:Le C C'){f:FuncId}{a:List T}{r:T}(e:tH C f a=some r):tH C' f a=some r:=by
 unfold tH at e⊢
 split at e
 ·rename_i hl;rw[if_pos hl];exact h _ _ _ e
 ·cases e
theorem callT_mono{C C':kM}(h:Le C C'){σ:St}{d:Nat}{f:FuncId}{a:List T}{p:T×St}(e:ae.cU C σ d f a=some p):ae.cU C' σ d f a=some p:=by
 unfold ae.cU at e⊢
 simp only[Option.bind_eq_bind,Option.bind_eq_some_iff]at e⊢
 obtain⟨cs,h1,r,h2,h3⟩:=e
 exact⟨cs,h1,r,Tv h h2,h3⟩
theorem callNew_mono{C C':kM}(h:Le C C'){σ:St}{d:Nat}{ad:List Nat}{f:FuncId}{a:List T}{p:T×St}(e:ae.dG C σ d ad f a=some p):ae.dG C' σ d ad f a=some p:=by
 unfold ae.dG at e⊢
 split at e
 ·cases e
 ·rename_i hr
  rw[if_neg hr]
  split at e<;>try(cases e;done)
  rename_i r outs hc
  rw[h _ _ _ hc]
  exact e
theorem callIO_mono{C C':kM}(h:Le C C'){σ:St}{d:Nat}{ad:List Nat}{f:FuncId}{a:List T}{p:T×St}(e:ae.eo C σ d ad f a=some p):ae.eo C' σ d ad f a=some p:=by
 unfold ae.eo at e⊢
 simp only at e⊢
 split at e<;>try(cases e;done)
 rename_i r outs hc
 rw[h _ _ _ hc]
 exact e
theorem BN{C C':kM}(h:Le C C'){σ:St}{o:IOp}{p:T×St}(e:ae C σ o=some p):ae C' σ o=some p:=by
 cases o<;>try exact e
 case call d f as=>exact callT_mono h e
 case callv d f as=>
  simp only[ae]at e⊢
  split at e<;>try(cases e;done)
  rename_i hc
  try rw[hc]
  exact callT_mono h e
 case callnew d ad f as=>exact callNew_mono h e
 case callio d ad f as=>exact callIO_mono h e
 case callvio d ad f as=>
  simp only[ae]at e⊢
  split at e<;>try(cases e;done)
  rename_i hc
  try rw[hc]
  exact callIO_mono h e
theorem vC{C C':kM}(h:Le C C'):∀{ops:List (Option (Nat×Bool)×IOp)} {σ σ':St},eQ C σ ops=some σ'→eQ C' σ ops=some σ'
 | [],σ,σ',e=>e
 |(g,o)::rest,σ,σ',e=>by
  simp only[eQ,Option.bind_eq_some_iff]at e⊢
  obtain⟨go,h1,h2⟩:=e
  refine⟨go,h1, ?_⟩
  split at h2
  ·rename_i hg
   rw[if_pos hg]
   obtain⟨p,h3,h4⟩:=Option.bind_eq_some_iff.1 h2
   exact Option.bind_eq_some_iff.2 ⟨p,BN h h3,vC h h4⟩
  ·rename_i hg
   rw[if_neg hg]
   exact vC h h2
theorem QE{C C':kM}(h:Le C C'){σ σ':St}{r:Ro}(e:vK C σ r=some σ'):vK C' σ r=some σ':=by
 unfold vK at e⊢
 simp only[Option.bind_eq_bind,Option.bind_eq_some_iff]at e⊢
 obtain⟨s,h1,h2⟩:=e
 exact⟨s,vC h h1,h2⟩
theorem BO{f f':St→Option Out}(h:∀σ o,f σ=some o→f' σ=some o):∀{n m:Nat} {σ:St} {o:Out},n≤m→o7 f n σ=some o→o7 f' m σ=some o
 |0,_,_,_,_,e=>by simp[o7]at e
 |n+1,0,_,_,hm,_=>by omega
 |n+1,m+1,σ,o,hm,e=>by
  simp only[o7]at e⊢
  cases hf:f σ with
  |none=>rw[hf]at e;cases e
  |some x=>
   rw[hf]at e
   rw[h _ _ hf]
   cases x with
   |norm σ'=>exact BO h (by omega) e
   |exit=>exact e
   |ret=>exact e
theorem HI{f f':St→Option Out}{id:Nat}(h:∀σ o,f σ=some o→f' σ=some o):∀{n m:Nat} {σ:St} {o:Out},n≤m→sk f id n σ=some o→sk f' id m σ=some o
 |0,_,_,_,_,e=>by simp[sk]at e
 |n+1,0,_,_,hm,_=>by omega
 |n+1,m+1,σ,o,hm,e=>by
  simp only[sk]at e⊢
  cases hf:f σ with
  |none=>rw[hf]at e;cases e
  |some x=>
   rw[hf]at e
   rw[h _ _ hf]
   cases x with
   |norm σ'=>exact e
   |exit j σ'=>
    simp only at e⊢
    split at e
    ·rename_i hj;rw[if_pos hj];exact HI h (by omega) e
    ·rename_i hj;rw[if_neg hj];exact e
   |ret=>exact e
theorem DA{f f':St→Option Out}(h:∀σ o,f σ=some o→f' σ=some o){K:Nat}{ps:List Nat}:∀{ys vars:List T} {bx:List (Option (List T))} {σ:St},lY f K ps ys vars bx=some σ→lY f' K ps ys vars bx=some σ
 | [],_,_,_,e=>e
 |t::ys,vars,bx,σ,e=>by
  cases t<;>try(simp only[lY]at e;cases e;done)
  simp only[lY]at e⊢
  split at e<;>try(cases e;done)
  rename_i hl
  rw[if_pos hl]
  split at e<;>try(cases e;done)
  rename_i σ' hf
  rw[h _ _ hf]
  exact DA h e
theorem cC{C C':kM}(h:Le C C'){n m:Nat}(hm:n≤m):∀{c:IC} {σ:St} {o:Out},exec C n c σ=some o→exec C' m c σ=some o
 | .skip,_,_,e=>e
 | .Az r,_,_,e=>by
  simp only[exec,Option.map_eq_some_iff]at e⊢
  obtain⟨s,h1,h2⟩:=e
  exact⟨s,QE h h1,h2⟩
 | .seq a b,σ,o,e=>by
  simp only[exec]at e⊢
  cases ha:exec C n a σ with
  |none=>rw[ha]at e;cases e
  |some x=>
   rw[ha]at e
   rw[cC h hm ha]
   cases x with
   |norm σ'=>exact cC h hm e
   |exit=>exact e
   |ret=>exact e
 | .cond c a b,σ,o,e=>by
  simp only[exec]at e⊢
  split at e<;>try(cases e;done)
  split at e
  ·rename_i ht;rw[if_pos ht];exact cC h hm e
  ·rename_i ht;rw[if_neg ht];exact cC h hm e
 | .block id a,σ,o,e=>by
  simp only[exec]at e⊢
  cases ha:exec C n a σ with
  |none=>rw[ha]at e;cases e
  |some x=>rw[ha]at e;rw[cC h hm ha];exact e
 | .loop a,σ,o,e=>by
  simp only[exec]at e⊢
  exact BO (fun σ o=>cC h hm) hm e
 | .kz a,σ,o,e=>by
  simp only[exec]at e⊢
  cases ha:exec C n a σ with
  |none=>rw[ha]at e;cases e
  |some x=>rw[ha]at e;rw[cC h hm ha];exact e
 | .jumps id a b,σ,o,e=>by
  simp only[exec]at e⊢
  cases ha:exec C n a σ with
  |none=>rw[ha]at e;cases e
  |some x=>
   rw[ha]at e
   rw[cC h hm ha]
   cases x with
   |norm σ'=>exact e
   |exit j σ'=>
    simp only at e⊢
    split at e
    ·rename_i hj;rw[if_pos hj];exact HI (fun σ o=>cC h hm) hm e
    ·rename_i hj;rw[if_neg hj];exact e
   |ret=>exact e
 | .range K g ps a b,σ,o,e=>by
  simp only[exec]at e⊢
  split at e<;>try(cases e;done)
  obtain⟨cs,h1,h2⟩:=Option.bind_eq_some_iff.1 e
  refine Option.bind_eq_some_iff.2 ⟨cs,h1, ?_⟩
  split at h2<;>try(cases h2;done)
  rename_i ys hy
  rw[h _ _ _ hy]
  obtain⟨s,h3,h4⟩:=Option.map_eq_some_iff.1 h2
  refine Option.map_eq_some_iff.2 ⟨s,DA (fun σ o ho=> ?_) h3,h4⟩
  split at ho<;>try(cases ho;done)
  rename_i az ha
  rw[cC h hm ha]
  exact cC h hm ho
 | .exit ..,_,_,e=>e
 | .ret,_,_,e=>e
 | .kill ..,_,_,e=>e
 | .free ..,_,_,e=>e
theorem F4{C C':kM}(h:Le C C'){σ:St}{o:IOp}{p:T×St×List (List T)}(e:mf C σ o=some p):mf C' σ o=some p:=by
 unfold mf at e⊢
 split at e
 ·rename_i hr
  rw[if_pos hr]
  obtain⟨q,h1,h2⟩:=Option.bind_eq_some_iff.1 e
  exact Option.bind_eq_some_iff.2 ⟨q,BN h h1,h2⟩
 ·cases e
theorem GX{C C':kM}(h:Le C C'){l:Nat}{σ:St}{o:IOp}{p:T×St×List (List T)}(e:ry C l σ o=some p):ry C' l σ o=some p:=by
 unfold ry at e⊢
 split at e
 ·split at e
  ·rename_i hy;rw[if_pos hy];exact e
  ·rename_i hy;rw[if_neg hy];exact F4 h e
 ·exact e
 ·exact e
 ·exact F4 h e
theorem vR{C C':kM}(h:Le C C'){l:Nat}:∀{ops:List (Option (Nat×Bool)×IOp)} {σ:St} {q:St×List (List T)},mO C l σ ops=some q→mO C' l σ ops=some q
 | [],σ,q,e=>e
 |(g,o)::rest,σ,q,e=>by
  simp only[mO,Option.bind_eq_some_iff]at e⊢
  obtain⟨go,h1,h2⟩:=e
  refine⟨go,h1, ?_⟩
  split at h2
  ·rename_i hg
   rw[if_pos hg]
   obtain⟨p,h3,h4⟩:=Option.bind_eq_some_iff.1 h2
   obtain⟨q',h5,h6⟩:=Option.map_eq_some_iff.1 h4
   exact Option.bind_eq_some_iff.2 ⟨p,GX h h3,Option.map_eq_some_iff.2 ⟨q',vR h h5,h6⟩⟩
  ·rename_i hg
   rw[if_neg hg]
   exact vR h h2
theorem BP{f f':St→Option (Out×List (List T))}(h:∀σ o,f σ=some o→f' σ=some o):∀{n m:Nat} {σ:St} {o:Out×List (List T)},n≤m→j3 f n σ=some o→j3 f' m σ=some o
 |0,_,_,_,_,e=>by simp[j3]at e
 |n+1,0,_,_,hm,_=>by omega
 |n+1,m+1,σ,o,hm,e=>by
  simp only[j3]at e⊢
  cases hf:f σ with
  |none=>rw[hf]at e;cases e
  |some x=>
   rw[hf]at e
   rw[h _ _ hf]
   obtain⟨x,ys⟩:=x
   cases x with
   |norm σ'=>
    obtain⟨q,h1,h2⟩:=Option.map_eq_some_iff.1 e
    exact Option.map_eq_some_iff.2 ⟨q,BP h (by omega) h1,h2⟩
   |exit=>exact e
   |ret=>exact e
theorem fZ{C C':kM}(h:Le C C'){n m l:Nat}(hm:n≤m):∀{c:IC} {σ:St} {o:Out×List (List T)},aS C l n c σ=some o→aS C' l m c σ=some o
 | .skip,_,_,e=>e
 | .Az r,_,_,e=>by
  simp only[aS]at e⊢
  obtain⟨q,h1,h2⟩:=Option.bind_eq_some_iff.1 e
  exact Option.bind_eq_some_iff.2 ⟨q,vR h h1,h2⟩
 | .seq a b,σ,o,e=>by
  simp only[aS]at e⊢
  cases ha:aS C l n a σ with
  |none=>rw[ha]at e;cases e
  |some x=>
   rw[ha]at e
   rw[fZ h hm ha]
   obtain⟨x,ys⟩:=x
   cases x with
   |norm σ'=>
    obtain⟨q,h1,h2⟩:=Option.map_eq_some_iff.1 e
    exact Option.map_eq_some_iff.2 ⟨q,fZ h hm h1,h2⟩
   |exit=>exact e
   |ret=>exact e
 | .cond c a b,σ,o,e=>by
  simp only[aS]at e⊢
  split at e<;>try(cases e;done)
  split at e
  ·rename_i ht;rw[if_pos ht];exact fZ h hm e
  ·rename_i ht;rw[if_neg ht];exact fZ h hm e
 | .block id a,σ,o,e=>by
  simp only[aS]at e⊢
  cases ha:aS C l n a σ with
  |none=>rw[ha]at e;cases e
  |some x=>rw[ha]at e;rw[fZ h hm ha];exact e
 | .loop a,σ,o,e=>by
  simp only[aS]at e⊢
  exact BP (fun σ o=>fZ h hm) hm e
 | .kz a,σ,o,e=>by
  simp only[aS]at e⊢
  cases ha:aS C l n a σ with
  |none=>rw[ha]at e;cases e
  |some x=>rw[ha]at e;rw[fZ h hm ha];exact e
 | .exit ..,_,_,e=>e
 | .ret,_,_,e=>e
 | .kill ..,_,_,e=>e
 | .free ..,_,_,e=>e
 | .jumps ..,_,_,e=>by simp only[aS]at e;cases e
 | .range ..,_,_,e=>by simp only[aS]at e;cases e
theorem HJ{α γ:Type}{f f':α→Option γ}(h:∀a r,f a=some r→f' a=some r):∀{xs:List α} {ys:List γ},xs.mapM f=some ys→xs.mapM f'=some ys
 | [],ys,e=>by simpa using e
 |x::xs,ys,e=>by
  simp only[List.mapM_cons,Option.bind_eq_bind,Option.bind_eq_some_iff,Option.pure_def]at e⊢
  obtain⟨a,h1,b,h2,h3⟩:=e
  exact⟨a,h _ _ h1,b,HJ h h2,h3⟩
theorem CW{split:Bool}{args:List T}{f f':List T→Option T}(h:∀a r,f a=some r→f' a=some r){r:T}(e:iT split args f=some r):iT split args f'=some r:=by
 unfold iT at e⊢
 split at e
 ·rename_i hs
  rw[if_pos hs]
  cases hm:(splits args).mapM f with
  |none=>rw[hm]at e;cases e
  |some rs=>rw[HJ h hm];rw[hm]at e;exact e
 ·rename_i hs
  rw[if_neg hs]
  exact h _ _ e
theorem dY{E:Env}:∀{n m:Nat},n≤m→Le (aW E n) (aW E m)
 |0,_,_=>fun f a r e=>by simp[aW]at e
 |n+1,0,hm=>by omega
 |n+1,m+1,hm=>fun f a r e=>by
  have ih:Le (aW E n) (aW E m):=dY (by omega)
  have xf:n≤m:=by omega
  simp only[aW]at e⊢
  split at e
  ·exact e
  ·split at e
   ·rename_i hl
    rw[if_pos hl]
    split at e<;>try(cases e;done)
    refine CW (fun a r e=> ?_) e
    unfold sm at e⊢
    split at e<;>try(cases e;done)
    rename_i hp
    rw[if_pos hp]
    split at e
    ·rename_i he;rw[cC ih xf he];exact e
    ·rename_i he;rw[cC ih xf he];exact e
    ·cases e
   ·rename_i hl
    rw[if_neg hl]
    split at e
    ·refine CW (fun a r e=> ?_) e
     unfold na at e⊢
     simp only at e⊢
     split at e<;>try(cases e;done)
     rename_i hp
     rw[if_pos hp]
     split at e
     ·rename_i he;rw[cC ih xf he];exact e
     ·rename_i he;rw[cC ih xf he];exact e
     ·cases e
    ·obtain⟨ys,h1,h2⟩:=Option.map_eq_some_iff.1 e
     refine Option.map_eq_some_iff.2 ⟨ys, ?_,h2⟩
     unfold rz at h1⊢
     split at h1<;>try(cases h1;done)
     rename_i hp
     rw[if_pos hp]
     split at h1
     ·rename_i he;rw[fZ ih xf he];exact h1
     ·rename_i he;rw[fZ ih xf he];exact h1
     ·cases h1
    ·cases e
end Go.Vi
end
section
namespace Go.Vi
open Go
def fl(n:Nat):Nat:=FloatKind.f64.nearest (n:Int)
theorem yj{m:Nat}(h:0< m)(j:Nat):(m*2^j).log2=m.log2+j:=by
 induction j with
 |zero=>simp
 |succ j ih=>
  have h0:m*2^j≠0:=Nat.mul_ne_zero (by omega) (by have:=Nat.two_pow_pos j;omega)
  rw[Nat.pow_succ,←Nat.mul_assoc,Nat.mul_comm _ 2,Nat.log2_two_mul h0,ih]
  omega
theorem KJ(way:Ieee.Toward)(hw:way= .even∨way= .zero)(neg:Bool){m:Nat}(h:0< m)(d:Nat):way.cut neg (m*2^d) d=m:=by
 have hl:=yj h d
 have M7:min d ((m*2^d).log2+2)=d:=by omega
 have hp:=Nat.two_pow_pos d
 unfold Ieee.Toward.cut
 simp only[M7,Nat.shiftLeft_eq,Nat.one_mul,Nat.mul_div_cancel _ hp,Nat.mul_mod_left]
 rcases hw with rfl|rfl
 ·have h1:decide (2^d< 2*0)=false:=by simp
  have h2:(2^d==2*0)=false:=by simp
  simp only[h1,h2,Bool.false_and,Bool.or_false,Bool.toNat_false,Nat.add_zero]
 ·simp
theorem M8:Ieee.double.leastPlace= -1074:=by decide
theorem VM:Ieee.double.binade=4503599627370496:=by decide
theorem adN:Ieee.double.fractionBits=52:=rfl
theorem VN:Ieee.double.infRung=9218868437227405312:=by decide
theorem aih:Ieee.double.signWeight=9223372036854775808:=by decide
theorem vS{m:Nat}(h:0< m)(hm:m< 9007199254740992):m.log2≤52:=by
 have:=(Nat.log2_lt (by omega:m≠0) (k:=53)).2 (by simpa using hm)
 omega
def nZ(m:Nat):Nat:=(m.log2+1022)*4503599627370496+m*2^(52-m.log2)
theorem z8{m:Nat}(h:0< m)(hm:m< 9007199254740992):4503599627370496≤m*2^(52-m.log2)∧m*2^(52-m.log2)< 9007199254740992:=by
 have hl:=vS h hm
 have mX:=yj h (52-m.log2)
 have e:(m*2^(52-m.log2)).log2=52:=by omega
 have hne:m*2^(52-m.log2)≠0:=by
  have:=Nat.two_pow_pos (52-m.log2)
  exact Nat.mul_ne_zero (by omega) (by omega)
 constructor
 ·have:=Nat.log2_self_le hne
  rw[e]at this
  simpa using this
 ·have:=Nat.lt_log2_self (n:=m*2^(52-m.log2))
  rw[e]at this
  simpa using this
theorem adO{m:Nat}(h:0< m)(hm:m< 9007199254740992):min (nZ m) 9218868437227405312=nZ m:=by
 have hl:=vS h hm
 have hb:=z8 h hm
 unfold nZ
 omega
theorem F5{m:Nat}(h:0< m)(hm:m< 9007199254740992)(j:Nat):Ieee.double.nearest false (m*2^j) (-(j:Int))=nZ m:=by
 have hl:=vS h hm
 have hne:¬m*2^j=0:=by
  have:=Nat.two_pow_pos j
  exact Nat.mul_ne_zero (by omega) (by omega)
 unfold Ieee.Format.nearest
 rw[if_neg hne]
 simp only[yj h j,M8,VM,adN,VN,Ieee.Format.word,Bool.false_eq_true,if_false]
 have e1:max (-(j:Int)+((m.log2+j:Nat):Int)-((52:Nat):Int)) (-1074)=(m.log2:Int)-52:=by omega
 rw[e1]
 have e2:(-(j:Int)-((m.log2:Int)-52)).toNat=(52-m.log2)-j:=by omega
 have e3:(((m.log2:Int)-52)- -(j:Int)).toNat=j-(52-m.log2):=by omega
 have e4:(((m.log2:Int)-52)- -1074).toNat=m.log2+1022:=by omega
 rw[e2,e3,e4,Nat.shiftLeft_eq]
 have e5:m*2^j*2^(52-m.log2-j)=(m*2^(52-m.log2))*2^(j-(52-m.log2)):=by
  rw[Nat.mul_assoc,←Nat.pow_add,Nat.mul_assoc,←Nat.pow_add]
  congr 2
  omega
 rw[e5,KJ .even (.inl rfl) false (by have:=(z8 h hm).1;omega)]
 exact adO h hm
theorem Mt{m:Nat}(h:0< m)(hm:m< 9007199254740992):Ieee.double.nearest false m 0=nZ m:=by
 have:=F5 h hm 0
 rw[Nat.pow_zero,Nat.mul_one]at this
 exact this
theorem Ry:fl 0=0:=by decide
theorem Fa{m:Nat}(h:0< m)(hm:m< 9007199254740992):fl m=nZ m:=by
 have e:fl m=Ieee.double.nearest (decide ((m:Int)< 0)) m 0:=rfl
 have hd:decide ((m:Int)< 0)=false:=by simp
 rw[e,hd,Mt h hm]
theorem VO:Ieee.double.read 0= .number false 0 (-1074):=by decide
theorem VP{m:Nat}(h:0< m)(hm:m< 9007199254740992):Ieee.double.read (nZ m)= .number false (m*2^(52-m.log2)) ((m.log2:Int)-52):=by
 have hl:=vS h hm
 obtain⟨h1,h2⟩:=z8 h hm
 obtain⟨f,hf⟩:∃f,m*2^(52-m.log2)=4503599627370496+f:=⟨m*2^(52-m.log2)-4503599627370496,by omega⟩
 have hw:nZ m=(m.log2+1023)*4503599627370496+f:=by unfold nZ;omega
 have hlt:nZ m< 9223372036854775808:=by omega
 unfold Ieee.Format.read
 simp only[aih,VM,VN,M8]
 have n0:(nZ m / 9223372036854775808%2==1)=false:=by
  rw[Nat.div_eq_of_lt hlt];rfl
 have n1:nZ m%9223372036854775808=nZ m:=Nat.mod_eq_of_lt hlt
 rw[n0,n1,if_neg (by omega),if_pos (by omega)]
 have n2:nZ m%4503599627370496=f:=by omega
 have n3:nZ m / 4503599627370496=m.log2+1023:=by omega
 rw[n2,n3,hf]
 have n4:(-1074:Int)+((m.log2+1023-1:Nat):Int)=(m.log2:Int)-52:=by omega
 rw[n4]
theorem vd{m:Nat}(hm:m< 9007199254740992):∃k:Nat,Ieee.double.read (fl m)= .number false (m*2^k) (-(k:Int)):=by
 rcases Nat.eq_zero_or_pos m with rfl|h
 ·obtain⟨k,hk⟩:∃k:Nat,k=1074:=⟨_,rfl⟩
  exact⟨k,by rw[Ry,VO,Nat.zero_mul,hk];rfl⟩
 ·have hl:=vS h hm
  refine⟨52-m.log2, ?_⟩
  rw[Fa h hm,VP h hm]
  have:(m.log2:Int)-52= -((52-m.log2:Nat):Int):=by omega
  rw[this]
theorem Fb{a k:Nat}{base:Int}(hb:base≤ -(k:Int)):(a*2^k)<<< (-(k:Int)-base).toNat=a*2^(-base).toNat:=by
 rw[Nat.shiftLeft_eq,Nat.mul_assoc,←Nat.pow_add]
 congr 2
 omega
theorem KK{m:Nat}(hm:m< 9007199254740992)(j:Nat):Ieee.double.write (.number false (m*2^j) (-(j:Int)))=fl m:=by
 show Ieee.double.nearest false (m*2^j) (-(j:Int))=fl m
 rcases Nat.eq_zero_or_pos m with rfl|h
 ·rw[Ry,Nat.zero_mul];rfl
 ·rw[F5 h hm j,Fa h hm]
theorem afG{a b:Nat}(h:a+b< 9007199254740992):Ieee.double.add (fl a) (fl b)=some (fl (a+b)):=by
 obtain⟨i,ri⟩:=vd (m:=a) (by omega)
 obtain⟨j,rj⟩:=vd (m:=b) (by omega)
 unfold Ieee.Format.add
 rw[ri,rj]
 simp only[Ieee.Datum.sum,Ieee.signed,Bool.false_eq_true,if_false,Option.map_some]
 obtain⟨k,hk⟩:∃k:Nat,min (-(i:Int)) (-(j:Int))= -(k:Int):=⟨max i j,by omega⟩
 rw[hk,Fb (by omega),Fb (by omega)]
 have ek:(- -(k:Int)).toNat=k:=by omega
 rw[ek]
 have et:((a*2^k:Nat):Int)+((b*2^k:Nat):Int)=(((a+b)*2^k:Nat):Int):=by rw[Nat.add_mul];omega
 rw[et]
 have sU:(if(((a+b)*2^k:Nat):Int)=0 then false&&false else decide ((((a+b)*2^k:Nat):Int)< 0))=false:=by
  split
  ·rfl
  ·simp only[decide_eq_false_iff_not];omega
 rw[sU,Int.natAbs_natCast,KK h]
theorem afH{a b:Nat}(h:a< 9007199254740992)(hb:b≤a):Ieee.double.sub (fl a) (fl b)=some (fl (a-b)):=by
 obtain⟨i,ri⟩:=vd (m:=a) h
 obtain⟨j,rj⟩:=vd (m:=b) (by omega)
 unfold Ieee.Format.sub
 rw[ri,rj]
 simp only[Ieee.Datum.opposite,Ieee.Datum.sum,Ieee.signed,Bool.not_false,Bool.false_eq_true,if_false,if_true,Option.map_some]
 obtain⟨k,hk⟩:∃k:Nat,min (-(i:Int)) (-(j:Int))= -(k:Int):=⟨max i j,by omega⟩
 rw[hk,Fb (by omega),Fb (by omega)]
 have ek:(- -(k:Int)).toNat=k:=by omega
 rw[ek]
 have hle:b*2^k≤a*2^k:=Nat.mul_le_mul_right _ hb
 have et:((a*2^k:Nat):Int)+ -((b*2^k:Nat):Int)=(((a-b)*2^k:Nat):Int):=by rw[Nat.sub_mul];omega
 rw[et]
 have sU:(if(((a-b)*2^k:Nat):Int)=0 then false&&true else decide ((((a-b)*2^k:Nat):Int)< 0))=false:=by
  split
  ·rfl
  ·simp only[decide_eq_false_iff_not];omega
 rw[sU,Int.natAbs_natCast,KK (by omega)]
theorem aaF{a b:Nat}(ha:a< 9007199254740992)(hb:b< 9007199254740992):Ieee.double.order (fl a) (fl b)=some (compare a b):=by
 obtain⟨i,ri⟩:=vd (m:=a) ha
 obtain⟨j,rj⟩:=vd (m:=b) hb
 unfold Ieee.Format.order
 rw[ri,rj]
 simp only[Ieee.Datum.order,Ieee.signed,Bool.false_eq_true,if_false]
 obtain⟨k,hk⟩:∃k:Nat,min (-(i:Int)) (-(j:Int))= -(k:Int):=⟨max i j,by omega⟩
 rw[hk,Fb (by omega),Fb (by omega)]
 have ek:(- -(k:Int)).toNat=k:=by omega
 rw[ek]
 congr 1
 have hp:=Nat.two_pow_pos k
 simp only[compare,compareOfLessAndEq]
 have l1:(((a*2^k:Nat):Int)< ((b*2^k:Nat):Int))↔a< b:=by
  rw[Int.ofNat_lt]
  exact Nat.mul_lt_mul_right hp
 have l2:(((a*2^k:Nat):Int)=((b*2^k:Nat):Int))↔a=b:=by
  rw[Int.ofNat_inj]
  exact Nat.mul_right_cancel_iff hp
 simp only[l1,l2]
theorem aaG{a:Nat}(ha:a< 9007199254740992):(Ieee.double.read (fl a)).toInt .zero=some (a:Int):=by
 obtain⟨i,ri⟩:=vd (m:=a) ha
 rw[ri]
 have e1:(-(i:Int)).toNat=0:=by omega
 have e2:(- -(i:Int)).toNat=i:=by omega
 rcases Nat.eq_zero_or_pos a with rfl|h
 ·simp only[Ieee.Datum.toInt,Ieee.Datum.integral,e1,e2,Nat.zero_mul,Nat.shiftLeft_eq,Nat.pow_zero,Nat.mul_one]
  simp[Ieee.Toward.cut,Ieee.signed]
 ·simp only[Ieee.Datum.toInt,Ieee.Datum.integral,e1,e2,Nat.shiftLeft_eq,Nat.pow_zero,Nat.mul_one,KJ .zero (.inr rfl) false h i]
  simp[Ieee.signed]
end Go.Vi
namespace Go.Vi
open Go
theorem M9(t:TypeId){a b:Nat}(h:a+b< 9007199254740992):bO .add t (.v (.float .f64 (fl a))) (.v (.float .f64 (fl b)))=some (.v (.float .f64 (fl (a+b)))):=by
 have e:Ieee.Format.add FloatKind.f64.format (fl a) (fl b)=some (fl (a+b)):=afG h
 show(gy (Op.floatArith .add .f64 (fl a) (fl b))).map T.v=_
 simp only[Op.floatArith,pure_bind,e]
 rfl
theorem aaH(t:TypeId){a b:Nat}(h:a< 9007199254740992)(hb:b≤a):bO .sub t (.v (.float .f64 (fl a))) (.v (.float .f64 (fl b)))=some (.v (.float .f64 (fl (a-b)))):=by
 have e:Ieee.Format.sub FloatKind.f64.format (fl a) (fl b)=some (fl (a-b)):=afH h hb
 show(gy (Op.floatArith .sub .f64 (fl a) (fl b))).map T.v=_
 simp only[Op.floatArith,pure_bind,e]
 rfl
theorem aaI(t:TypeId){a b:Nat}(ha:a< 9007199254740992)(hb:b< 9007199254740992):bO .geq t (.v (.float .f64 (fl a))) (.v (.float .f64 (fl b)))=some (.v (.bool (decide (b≤a)))):=by
 have e:Ieee.Format.order FloatKind.f64.format (fl a) (fl b)=some (compare a b):=aaF ha hb
 show(gy (Op.floatCmp .geq .f64 (fl a) (fl b))).map T.v=_
 simp only[Op.floatCmp,e]
 show some (T.v (.bool (some (compare a b)==some .gt||some (compare a b)==some .eq)))=_
 congr 3
 rcases Nat.lt_trichotomy a b with h|h|h
 ·have:compare a b= .lt:=by simp[compare,compareOfLessAndEq,h]
  rw[this,decide_eq_false (by omega)]
  rfl
 ·subst h
  have:compare a a= .eq:=by simp[compare,compareOfLessAndEq]
  rw[this,decide_eq_true (Nat.le_refl _)]
  rfl
 ·have:compare a b= .gt:=by
   show compareOfLessAndEq a b= .gt
   unfold compareOfLessAndEq
   rw[if_neg (by omega),if_neg (by omega)]
  rw[this,decide_eq_true (by omega)]
  rfl
theorem VQ{a:Nat}(ha:a< 9007199254740992):gy (Conv.floatToInt .f64 (fl a) .i64)=some (.int .i64 (a:Int)):=by
 have e:(FloatKind.f64.decode (fl a)).toInt .zero=some (a:Int):=aaG ha
 unfold Conv.floatToInt
 simp only[e]
 have hr:IntKind.i64.min≤(a:Int)∧(a:Int)≤IntKind.i64.max:=by
  have h1:IntKind.i64.min= -9223372036854775808:=by decide
  have h2:IntKind.i64.max=9223372036854775807:=by decide
  rw[h1,h2]
  omega
 rw[if_pos hr]
 rfl
end Go.Vi
end
section
namespace Go.Vi
open Go
theorem au{n:Nat}(h:n< 9223372036854775808):IntKind.i64.wrap (n:Int)=n:=by
 rw[IntKind.wrap_i64];omega
theorem zf{n:Nat}(h:n< 9223372036854775808):(BitVec.ofInt IntKind.i64.bits (n:Int)).toNat=n:=by
 have e:(BitVec.ofInt IntKind.i64.bits (n:Int)).toNat=((n:Int)%((2^IntKind.i64.bits:Nat):Int)).toNat:=BitVec.toNat_ofInt ..
 have h64:((2^IntKind.i64.bits:Nat):Int)=18446744073709551616:=by decide
 rw[e,h64]
 omega
theorem adP{a b:Nat}(ha:a< 9223372036854775808)(hb:b< 9223372036854775808):a|||b< 9223372036854775808:=
 Nat.or_lt_two_pow (n:=63) ha hb
theorem aaJ{a b:Nat}(ha:a< 9223372036854775808):a&&&b< 9223372036854775808:=Nat.lt_of_le_of_lt Nat.and_le_left ha
theorem VR(t:TypeId){a b:Nat}(ha:a< 9223372036854775808)(hb:b< 9223372036854775808):bO .or t (.v (.int .i64 (a:Int))) (.v (.int .i64 (b:Int)))=some (.v (.int .i64 ((a|||b:Nat):Int))):=by
 show(gy (Op.intBits .or .i64 (a:Int) (b:Int))).map T.v=_
 show some (T.v (.int .i64 (IntKind.i64.wrap (((BitVec.ofInt IntKind.i64.bits (a:Int)|||BitVec.ofInt IntKind.i64.bits (b:Int)).toNat:Nat):Int))))=_
 rw[BitVec.toNat_or,zf ha,zf hb,au (adP ha hb)]
theorem AO(t:TypeId){a b:Nat}(ha:a< 9223372036854775808)(hb:b< 9223372036854775808):bO .and t (.v (.int .i64 (a:Int))) (.v (.int .i64 (b:Int)))=some (.v (.int .i64 ((a&&&b:Nat):Int))):=by
 show(gy (Op.intBits .and .i64 (a:Int) (b:Int))).map T.v=_
 show some (T.v (.int .i64 (IntKind.i64.wrap (((BitVec.ofInt IntKind.i64.bits (a:Int)&&&BitVec.ofInt IntKind.i64.bits (b:Int)).toNat:Nat):Int))))=_
 rw[BitVec.toNat_and,zf ha,zf hb,au (aaJ ha)]
theorem Rz(t:TypeId){kd:IntKind}{a n:Nat}(hn:n≤64)(h:a*2^n< 9223372036854775808):bO .shl t (.v (.int .i64 (a:Int))) (.v (.int kd (n:Int)))=some (.v (.int .i64 ((a*2^n:Nat):Int))):=by
 show(gy (Op.shift .shl .i64 (a:Int) kd (n:Int))).map T.v=_
 unfold Op.shift
 rw[if_neg (by omega)]
 have hm:min (n:Int).toNat IntKind.i64.bits=n:=by
  have:IntKind.i64.bits=64:=rfl
  rw[this];omega
 simp only[hm]
 show some (T.v (.int .i64 (IntKind.i64.wrap ((a:Int)*2^n))))=_
 have e:(a:Int)*2^n=((a*2^n:Nat):Int):=by rw[Int.natCast_mul,Int.natCast_pow];rfl
 rw[e,au h]
theorem RA(t:TypeId){kd:IntKind}{a n:Nat}(hn:n≤64):bO .shr t (.v (.int .i64 (a:Int))) (.v (.int kd (n:Int)))=some (.v (.int .i64 ((a / 2^n:Nat):Int))):=by
 show(gy (Op.shift .shr .i64 (a:Int) kd (n:Int))).map T.v=_
 unfold Op.shift
 rw[if_neg (by omega)]
 have hm:min (n:Int).toNat IntKind.i64.bits=n:=by
  have:IntKind.i64.bits=64:=rfl
  rw[this];omega
 simp only[hm]
 show some (T.v (.int .i64 ((a:Int).fdiv (2^n))))=_
 have e:(a:Int).fdiv (2^n)=((a / 2^n:Nat):Int):=by
  rw[Int.fdiv_eq_ediv_of_nonneg _ (by exact Int.pow_nonneg (by decide)),Int.natCast_ediv,Int.natCast_pow]
  rfl
 rw[e]
theorem Fc(t:TypeId){a b:Nat}(hb:0< b):bO .rem t (.v (.int .i64 (a:Int))) (.v (.int .i64 (b:Int)))=some (.v (.int .i64 ((a%b:Nat):Int))):=by
 show(gy (Op.intDiv .rem .i64 (a:Int) (b:Int))).map T.v=_
 unfold Op.intDiv
 rw[if_neg (by omega)]
 show some (T.v (.int .i64 ((a:Int).tmod (b:Int))))=_
 rw[Int.ofNat_tmod]
theorem RB(t:TypeId){a b:Nat}(hb:0< b)(ha:a< 9223372036854775808):bO .quo t (.v (.int .i64 (a:Int))) (.v (.int .i64 (b:Int)))=some (.v (.int .i64 ((a / b:Nat):Int))):=by
 show(gy (Op.intDiv .quo .i64 (a:Int) (b:Int))).map T.v=_
 unfold Op.intDiv
 rw[if_neg (by omega)]
 show some (T.v (.int .i64 (IntKind.i64.wrap ((a:Int).tdiv (b:Int)))))=_
 rw[←Int.ofNat_tdiv,au (Nat.lt_of_le_of_lt (Nat.div_le_self _ _) ha)]
theorem Na{a x i:Nat}(h:a< 2^i):a|||x*2^i=a+x*2^i:=by
 have:=Nat.shiftLeft_add_eq_or_of_lt h x
 rw[Nat.shiftLeft_eq]at this
 rw[Nat.or_comm,←this,Nat.add_comm]
end Go.Vi
end
