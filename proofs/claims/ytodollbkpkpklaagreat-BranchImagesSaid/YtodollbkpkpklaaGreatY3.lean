/-
  A claim's own text, joined by a small program out of: ZzE, G1, G2, G3, G4.
-/
import Derived.Test.YtodollbkpkpklaaGreatY0
import Derived.Test.YtodollbkpkpklaaGreatY2
import Derived.Shelf.GgClosure.StringsIndexFunc
set_option linter.unusedVariables false
set_option linter.unusedSimpArgs false
section
set_option maxRecDepth 1000000
namespace Go.Vi.Zz
open Go Go.Vi
def zx:List T→Option T
 | [.al [.ptr [.sl _ n cs] 0,.ptr [.v (.int .i64 k)] 0]]=>
  if 0< k∧k≤1048576∧n≤1048576∧cs.length=n∧cs.all T.A4=true then some (.al ((List.range ((n+k.toNat-1) / k.toNat)).map fun i=> .al [.sl .clip (min k.toNat (n-i*k.toNat)) ((cs.drop (i*k.toNat)).take k.toNat)]))else none
 |_=>none
def eX(c:Nat):Bool:=(decide (97≤c)&&decide (c≤122))||(decide (48≤c)&&decide (c≤57))||c==46||c==95||c==45
def Po:List T→Option T
 | [.v (.string s),.v (.func (.func f) a b),.v (.bool U7)]=>
  if f=iB∧a.size=0∧b.size=0 then some (.v (.int .i64 (Lib.idxFunc (fun c=> !eX c) U7 s)))else none
 |_=>none
def C8(ino k:Int):List T→Option Bool
 | []=>some false
 |_:: .agg [.v (.int .i64 a),.v (.int .i64 b)]::es=>(C8 ino k es).map fun r=>(a==ino&&b==k)||r
 |_=>none
def E0:Env:=⟨code,fun _=>none⟩
def JE:Nat→List T→Option (List Int)
 |0,[]=>some []
 |n+1,.v (.int .i64 _):: .v (.int .i64 _):: .v (.int .i64 _):: .v (.int .i64 _):: .v (.int .i64 _):: .v (.int .i64 a):: .v (.int .i64 b):: .v (.int .i64 c):: .v (.int .i64 d):: .v (.int .i64 e)::cs=>
  if [a,b,c,d,e].all (fun p=>decide (0≤p)&&decide (p≤65535))then(JE n cs).map fun fl=>a::b::c::d::e::fl else none
 |_,_=>none
def numOf(ino k:Int):Nat:=(5*(ino-1)+k).toNat
def dw(fl:List Int)(blocks ino k:Int):Bool:=decide (1≤ino)&&decide (0≤k)&&decide (k≤4)&&decide (numOf ino k< fl.length)&&decide (1≤fl.getD (numOf ino k) 0)&&decide (fl.getD (numOf ino k) 0≤blocks)&& !((fl.take (numOf ino k)).contains (fl.getD (numOf ino k) 0))
def Vb:List T→Option T
 | [.sl .any n cs,.v (.int .i64 blocks),.v (.int .i64 ino),.v (.int .i64 k)]=>(JE n cs).bind fun fl=>if n≤100000 then some (.v (.bool (dw fl blocks ino k)))else none
 |_=>none
def CH:List T→Option (List Int)
 | []=>some []
 | .v (.int .i64 z)::cs=>(CH cs).map (z::·)
 |_=>none
def HD(x:Int):List Int→List Int
 | []=>[x]
 |y::l=>if x≤y then x::y::l else y::HD x l
def l8:List Int→List Int
 | []=>[]
 |x::l=>HD x (l8 l)
def int64(z:Int):T:= .v (.int .i64 z)
def IP:List T→Option T
 | [.al [.sl .nil 0 []],.al []]=>some (.al [.al [],.al []])
 | [.al [.au 0 0 n m],.al [.agg cs,.undef]]=>(CH cs).bind fun zs=>if cs.length=n∧m=n∧n≤1048576 then some (.al [.al [],.al [.agg ((l8 zs).map int64),.undef]])else none
 |_=>none
def kF(f:FuncId):Option (List T→Option T):=
 if f=an+bg then some zx else if f=jB then some Po else if f=oP then some Vb else if f=an+gE then some IP else none
def E:Env:=⟨code,kF⟩
end Go.Vi.Zz
end
section
set_option maxRecDepth 100000
namespace Go.Vi.Sz
open Go Go.Vi Go.Vi.Zz
structure bt where
 lowers:Int
 aw:Int
 blocks:Int
 log:Int
deriving DecidableEq
def eG(g:bt):List T:=[.v (.int .i64 g.lowers),.v (.int .i64 g.aw),.v (.int .i64 g.blocks),.v (.int .i64 g.log)]
@[simp] theorem aqx(g:bt):(eG g).length=4:=rfl
@[simp] theorem amk(g:bt):bj (eG g)=true:=rfl
@[simp] theorem aoY(d:Nat)(g:bt):stripL d (eG g)=eG g:=by simp[eG]
@[simp] theorem aoZ(bx k)(g:bt):(eG g).mapM (close bx (k+1))=some (eG g):=by simp[eG]
@[simp] theorem ao0(s)(g:bt):aR s (eG g)=true:=by simp[eG]
@[simp] theorem aml(g:bt):aZ (eG g)=false:=by simp[eG]
@[simp] theorem aqy(g:bt):rF (eG g)=true:=rfl
@[simp] theorem eG0(g:bt):cp (eG g) 0=some (.v (.int .i64 g.lowers)):=rfl
@[simp] theorem eG1(g:bt):cp (eG g) 1=some (.v (.int .i64 g.aw)):=rfl
@[simp] theorem eG2(g:bt):cp (eG g) 2=some (.v (.int .i64 g.blocks)):=rfl
@[simp] theorem eG3(g:bt):cp (eG g) 3=some (.v (.int .i64 g.log)):=rfl
@[simp] theorem aqz(g:bt):one? true 4 (eG g) 0=some (.agg (eG g)):=rfl
@[simp] theorem ao1(ρ η)(g:bt):ah ρ η (eG g)=eG g:=by simp[eG]
@[simp] theorem amm(d)(g:bt):dz d (eG g)=eG g:=by simp[eG]
def rv(n low high:Int):Bool:=decide (low≤n)&&decide (n≤high)
def la(g:bt):Bool:=rv g.lowers 1 3&&rv g.aw 4 24&&rv g.blocks 1 60&&rv g.log 1 64
theorem xn(n low high:Int):Ev E lH [.v (.int .i64 n),.v (.int .i64 low),.v (.int .i64 high)] (.v (.bool (rv n low high))):=by
 refine aB (fn:=uA) rfl (by decide) rfl rfl rfl ?_
 unfold rv
 simp[uA]
 repeat' (refine kB (fun h=> ?_) (fun h=> ?_)<;>simp[*])
theorem HV(g:bt):Ev E rQ [.agg (eG g)] (.v (.int .i64 (if la g then 0 else 1))):=by
 refine aB (fn:=wa) rfl (by decide) rfl rfl rfl ?_
 have h1:=af (xn g.lowers 1 3)
 have h2:=af (xn g.aw 4 24)
 have h3:=af (xn g.blocks 1 60)
 have h4:=af (xn g.log 1 64)
 simp[wa,h1]
 repeat' (first|refine kB (fun h=> ?_) (fun h=> ?_)|refine pg (fun h=> ?_) (fun h=> ?_))<;>simp[*,la]
theorem Ah(g:bt):Ev E kI [.agg (eG g)] (.v (.int .i64 (if la g then 0 else 1))):=by
 refine aB (fn:=sV) rfl (by decide) rfl rfl rfl ?_
 simp[sV]
 repeat' (first|refine kB (fun h=> ?_) (fun h=> ?_)|refine pg (fun h=> ?_) (fun h=> ?_))<;>simp[*,la,rv]
 all_goals (simp only[decide_eq_true_eq,decide_eq_false_iff_not]at*;omega)
theorem dq{g:bt}(h:la g=true):(1≤g.lowers∧g.lowers≤3)∧(4≤g.aw∧g.aw≤24)∧(1≤g.blocks∧g.blocks≤60)∧(1≤g.log∧g.log≤64):=by
 simp only[la,rv,Bool.and_eq_true,decide_eq_true_eq]at h
 omega
theorem cq{n:Int}(h1: -1000000≤n)(h2:n≤1000000):IntKind.i64.wrap n=n:=yu (by omega) (by omega)
def aJ(g:bt):Int:=1+g.aw+g.blocks
theorem Qk(g:bt)(h:la g=true):Ev E j4 [.agg (eG g)] (.v (.int .i64 (aJ g))):=by
 refine aB (fn:=mK) rfl (by decide) rfl rfl rfl ?_
 have hs:=dq h
 have w1:IntKind.i64.wrap (1+g.aw)=1+g.aw:=cq (by omega) (by omega)
 have w2:IntKind.i64.wrap (1+g.aw+g.blocks)=1+g.aw+g.blocks:=cq (by omega) (by omega)
 clear hs
 simp[mK,w1,w2,aJ]
theorem Ak(g:bt)(h:la g=true):Ev E kG [.agg (eG g)] (.v (.int .i64 (aJ g))):=by
 refine aB (fn:=sU) rfl (by decide) rfl rfl rfl ?_
 have hs:=dq h
 have w1:IntKind.i64.wrap (1+g.aw)=1+g.aw:=cq (by omega) (by omega)
 have w2:IntKind.i64.wrap (1+g.aw+g.blocks)=1+g.aw+g.blocks:=cq (by omega) (by omega)
 clear hs
 simp[sU,w1,w2,aJ]
theorem lB{g:bt}(h:la g=true):6≤aJ g∧aJ g≤85:=by
 have:=dq h
 unfold aJ
 omega
def rJ(g:bt):Int:=1+(g.lowers+1)*aJ g
theorem vM{a b:Int}(h0:0≤a)(h1:a≤4)(h2:0≤b)(h3:b≤85):0≤a*b∧a*b≤340:=
 ⟨Int.mul_nonneg h0 h2,by have:=Int.mul_le_mul h1 h3 h2 (by omega:(0:Int)≤4);omega⟩
theorem aag(g:bt)(h:la g=true):Ev E ox [.agg (eG g)] (.v (.int .i64 (rJ g))):=by
 refine aB (fn:=oA) rfl (by decide) rfl rfl rfl ?_
 have hs:=dq h
 have hl:=lB h
 have hm:=vM (a:=g.lowers+1) (b:=aJ g) (by omega) (by omega) (by omega) (by omega)
 have w1:IntKind.i64.wrap (g.lowers+1)=g.lowers+1:=cq (by omega) (by omega)
 have w2:IntKind.i64.wrap ((g.lowers+1)*aJ g)=(g.lowers+1)*aJ g:=cq (by omega) (by omega)
 have w3:IntKind.i64.wrap (1+(g.lowers+1)*aJ g)=1+(g.lowers+1)*aJ g:=cq (by omega) (by omega)
 clear hs hl hm
 have hc:=af (Qk g h)
 simp[oA,hc,w1,w2,w3,rJ]
def dH(g:bt):Int:=if la g then rJ g+g.log else 0
theorem F3{g:bt}(h:la g=true):1≤rJ g∧rJ g≤341:=by
 have hs:=dq h
 have hl:=lB h
 have hm:=vM (a:=g.lowers+1) (b:=aJ g) (by omega) (by omega) (by omega) (by omega)
 unfold rJ
 omega
theorem aco(g:bt):Ev E Aw [.agg (eG g)] (.v (.int .i64 (dH g))):=by
 refine aB (fn:=rX) rfl (by decide) rfl rfl rfl ?_
 have hc:=af (HV g)
 unfold dH
 cases h:la g
 ·simp[rX,hc,h]
 ·have hl:=af (aag g h)
  have hw:IntKind.i64.wrap (rJ g+g.log)=rJ g+g.log:=by
   have:=F3 h
   have:=dq h
   exact cq (by omega) (by omega)
  simp[rX,hc,h,hl,hw]
theorem Me(g:bt):Ev E sM [.agg (eG g)] (.v (.int .i64 (dH g))):=by
 refine aB (fn:=oT) rfl (by decide) rfl rfl rfl ?_
 have hc:=af (Ah g)
 unfold dH
 cases h:la g
 ·simp[oT,hc,h]
 ·have hs:=dq h
  have hl:=lB h
  have hm:=vM (a:=g.lowers+1) (b:=aJ g) (by omega) (by omega) (by omega) (by omega)
  have w1:IntKind.i64.wrap (g.lowers+1)=g.lowers+1:=cq (by omega) (by omega)
  have w2:IntKind.i64.wrap ((g.lowers+1)*aJ g)=(g.lowers+1)*aJ g:=cq (by omega) (by omega)
  have w3:IntKind.i64.wrap (1+(g.lowers+1)*aJ g)=1+(g.lowers+1)*aJ g:=cq (by omega) (by omega)
  have w4:IntKind.i64.wrap (1+(g.lowers+1)*aJ g+g.log)=1+(g.lowers+1)*aJ g+g.log:=cq (by omega) (by omega)
  clear hs hl hm
  have hl:=af (Ak g h)
  simp[oT,hc,h,hl,w1,w2,w3,w4,rJ]
def eo(g:bt)(layer:Int):Int:=if la g&&rv layer 0 g.lowers then(if layer=0 then 1+g.lowers*aJ g else 1+(layer-1)*aJ g)else -1
theorem wx{g:bt}{layer:Int}(h:la g=true)(h':rv layer 0 g.lowers=true):eo g layer=if layer=0 then 1+g.lowers*aJ g else 1+(layer-1)*aJ g:=by
 unfold eo;simp[h,h']
theorem yk{g:bt}{layer:Int}(h:la g=false∨rv layer 0 g.lowers=false):eo g layer= -1:=by
 unfold eo
 rcases h with h|h<;>simp[h]
theorem acp(g:bt)(layer:Int):Ev E pM [.agg (eG g),.v (.int .i64 layer)] (.v (.int .i64 (eo g layer))):=by
 refine aB (fn:=fX) rfl (by decide) rfl rfl rfl ?_
 have hc:=af (HV g)
 have hw:=af (xn layer 0 g.lowers)
 cases h:la g
 ·simp[fX,hc,h,yk (.inl h)]
 ·cases h':rv layer 0 g.lowers
  ·simp[fX,hc,h,hw,h',yk (.inr h')]
  ·have hl:=af (Qk g h)
   have hg:=af (aag g h)
   have hle:=lB h
   have hs:=dq h
   have Bm:=F3 h
   have kX:0≤layer∧layer≤g.lowers:=by simpa [rv]using h'
   have w1:IntKind.i64.wrap (rJ g-aJ g)=1+g.lowers*aJ g:=by
    have e:rJ g-aJ g=1+g.lowers*aJ g:=by unfold rJ;rw[Int.add_mul];omega
    rw[e]
    have hm:=vM (a:=g.lowers) (b:=aJ g) (by omega) (by omega) (by omega) (by omega)
    exact cq (by omega) (by omega)
   rw[wx h h']
   by_cases h0:layer=0
   ·subst h0
    clear hs hle Bm kX
    simp[fX,hc,h,hw,h',hl,hg,w1]
   ·have hm:=vM (a:=layer-1) (b:=aJ g) (by omega) (by omega) (by omega) (by omega)
    have w2:IntKind.i64.wrap (layer-1)=layer-1:=cq (by omega) (by omega)
    have w3:IntKind.i64.wrap ((layer-1)*aJ g)=(layer-1)*aJ g:=cq (by omega) (by omega)
    have w4:IntKind.i64.wrap (1+(layer-1)*aJ g)=1+(layer-1)*aJ g:=cq (by omega) (by omega)
    clear hs hle Bm kX hm w1
    have hb:(layer==0)=false:=by simpa using h0
    simp[fX,hc,h,hw,h',hl,h0,hb,w2,w3,w4]
theorem aah(g:bt)(layer:Int):Ev E yG [.agg (eG g),.v (.int .i64 layer)] (.v (.int .i64 (eo g layer))):=by
 refine aB (fn:=uw) rfl (by decide) rfl rfl rfl ?_
 have hc:=af (acp g layer)
 simp[uw,hc]
theorem aai(g:bt)(layer:Int):Ev E xu [.agg (eG g),.v (.int .i64 layer)] (.v (.int .i64 (eo g layer))):=by
 refine aB (fn:=js) rfl (by decide) rfl rfl rfl ?_
 have hc:=af (Ah g)
 cases h:la g
 ·simp[js,hc,h,yk (.inl h)]
 ·cases h':rv layer 0 g.lowers
  ·rw[yk (.inr h')]
   have hn:layer< 0∨g.lowers< layer:=by
    have:¬(0≤layer∧layer≤g.lowers):=by simpa [rv]using h'
    omega
   by_cases h1:layer< 0
   ·simp[js,hc,h,h1]
   ·have h2:g.lowers< layer:=by omega
    simp[js,hc,h,h1,h2]
  ·have hl:=af (Ak g h)
   have hle:=lB h
   have hs:=dq h
   have kX:0≤layer∧layer≤g.lowers:=by simpa [rv]using h'
   have h1:¬layer< 0:=by omega
   have h2:¬g.lowers< layer:=by omega
   rw[wx h h']
   by_cases h0:layer=0
   ·have hm:=vM (a:=g.lowers) (b:=aJ g) (by omega) (by omega) (by omega) (by omega)
    have w2:IntKind.i64.wrap (g.lowers*aJ g)=g.lowers*aJ g:=cq (by omega) (by omega)
    have w3:IntKind.i64.wrap (1+g.lowers*aJ g)=1+g.lowers*aJ g:=cq (by omega) (by omega)
    clear hs hle kX hm
    subst h0
    simp[js,hc,h,hl,h2,w2,w3]
   ·have hm:=vM (a:=layer-1) (b:=aJ g) (by omega) (by omega) (by omega) (by omega)
    have w2:IntKind.i64.wrap (layer-1)=layer-1:=cq (by omega) (by omega)
    have w3:IntKind.i64.wrap ((layer-1)*aJ g)=(layer-1)*aJ g:=cq (by omega) (by omega)
    have w4:IntKind.i64.wrap (1+(layer-1)*aJ g)=1+(layer-1)*aJ g:=cq (by omega) (by omega)
    clear hs hle kX hm
    have hb:(layer==0)=false:=by simpa using h0
    simp[js,hc,h,hl,h1,h2,h0,hb,w2,w3,w4]
end Go.Vi.Sz
end
section
set_option maxRecDepth 100000
namespace Go.Vi.Sz
open Go Go.Vi Go.Vi.Zz
def eB(b:UInt8):List T:=[.v (.int .u8 b.toNat)]
def sl{α:Type}(enc:α→List T)(l:List α):T:= .sl .any l.length (l.flatMap enc)
@[simp] theorem JF(b:UInt8):(eB b).length=1:=rfl
theorem Cb(n:Nat):∀l:List UInt8,(l.flatMap eB).drop n=(l.drop n).flatMap eB:=by
 induction n with
 |zero=>intro l;simp
 |succ n ih=>intro l;cases l<;>simp[eB,←ih]
theorem tZ(n:Nat):∀l:List UInt8,(l.flatMap eB).take n=(l.take n).flatMap eB:=by
 induction n with
 |zero=>intro l;simp
 |succ n ih=>intro l;cases l<;>simp[eB,←ih]
@[simp] theorem ap9{α:Type}(enc:α→List T)(l:List α):(sl enc l).one=true:=rfl
@[simp] theorem amn{α:Type}(d)(enc:α→List T)(l:List α):(sl enc l).strip d=sl enc l:=by simp[sl]
@[simp] theorem amo{α:Type}(ρ η)(enc:α→List T)(l:List α):(sl enc l).aj ρ η=sl enc l:=by simp[sl]
@[simp] theorem akG{α:Type}(d)(enc:α→List T)(l:List α):(sl enc l).import d=sl enc l:=by simp[sl]
@[simp] theorem amp{α:Type}(bx k)(enc:α→List T)(l:List α):close bx (k+1) (sl enc l)=some (sl enc l):=by simp[sl]
@[simp] theorem amq{α:Type}(s)(enc:α→List T)(l:List α):(sl enc l).ay s=true:=by simp[sl]
@[simp] theorem akH{α:Type}(enc:α→List T)(l:List α):(sl enc l).aU=false:=by simp[sl]
@[simp] theorem akI{α:Type}(enc:α→List T)(l:List α):(sl enc l).closed=true:=by simp[sl]
@[simp] theorem ao2{α:Type}(enc:α→List T)(l:List α):(sl enc l).eO=[]:=by simp[sl]
@[simp] theorem akJ{α:Type}(enc:α→List T)(l:List α):ld (sl enc l)=[sl enc l]:=rfl
@[simp] theorem akK{α:Type}(enc:α→List T)(l:List α):lZ (sl enc l)=true:=rfl
@[simp] theorem ao3{α:Type}(enc:α→List T)(l:List α):jE false (sl enc l)=some (.v (.int .i64 l.length)):=rfl
@[simp] theorem ao4{α:Type}(enc:α→List T)(l:List α):(sl enc l).cL=sl enc l:=by simp[sl]
@[simp] theorem aiN{α:Type}(enc:α→List T)(l:List α):cellsOf (sl enc l)=some [sl enc l]:=rfl
@[simp] theorem tS(d k:Nat)(e:TypeId)(n:Nat)(cs:List T):(T.sl (.own k e) n cs).strip d= .sl (if hit d k then .any else .own k e) n cs:=by simp only[T.strip]
def eS(c:List UInt8):List T:=[sl eB c]
@[simp] theorem aaj(c:List UInt8):(eS c).length=1:=rfl
theorem Ts(l:List (List UInt8)):(l.flatMap eS).length=l.length:=by rw[lY aaj l];simp
theorem UU(l:List (List UInt8)):bj (l.flatMap eS)=true:=by
 induction l with
 |nil=>rfl
 |cons c l ih=>simp[eS,ih]
def iz(bs:List UInt8)(at_:Nat)(n:Nat):List (List UInt8):=(List.range n).map fun i=>(bs.drop (64*(at_+i))).take 64
theorem Fp(bs:List UInt8)(at_ n:Nat):iz bs at_ (n+1)=iz bs at_ n++[(bs.drop (64*(at_+n))).take 64]:=by simp[iz,List.range_succ]
@[simp] theorem vL(bs:List UInt8)(at_ n:Nat):(iz bs at_ n).length=n:=by simp[iz]
def qJ(k:Nat)(l:List (List UInt8)):T:=if l=[]then .sl .clip 0 []else .sl (.own k 37) l.length (l.flatMap eS)
@[simp] theorem afc(k):qJ k []= .sl .clip 0 []:=rfl
theorem Pm(k){l:List (List UInt8)}(h:l≠[]):qJ k l= .sl (.own k 37) l.length (l.flatMap eS):=by simp[qJ,h]
@[simp] theorem akL(k l):(qJ k l).aU=false:=by unfold qJ;split<;>simp[T.aU]
theorem acq(k l):(qJ k l).eO=if l=[]then []else [k]:=by unfold qJ;split<;>simp
@[simp] theorem amr(k l):(qJ k l).eO.Nodup:=by rw[acq];split<;>simp
@[simp] theorem ams(d k l):(qJ k l).strip d=if hit d k=true then(if l=[]then .sl .clip 0 []else .sl .any l.length (l.flatMap eS))else qJ k l:=by
 unfold qJ
 split
 ·simp
 ·simp only[T.strip]
  split<;>rfl
theorem aak(k)(l:List (List UInt8)):(qJ k l).aj (fun _=>none) (fun x=>List.idxOf? x (qJ k l).eO)=qJ 0 l:=by
 unfold qJ
 split
 ·simp
 ·simp[T.aj,List.idxOf?]
@[simp] theorem Tt(bs:List UInt8)(lo hi:Nat):ti 1 (sl eB bs) (some lo) (some hi) (some (oK (sl eB bs))) false=if lo≤hi∧hi≤bs.length then some (sl eB ((bs.drop lo).take (hi-lo)))else none:=by
 unfold ti
 simp only[sl,oK,Nat.mul_one,Cb,tZ]
 by_cases h:lo≤hi∧hi≤bs.length
 ·have hl:((bs.drop lo).take (hi-lo)).length=hi-lo:=by simp;omega
  simp[h,hl]
 ·simp[h]
theorem Ai{g:bt}{layer:Int}(h:¬eo g layer< 0):la g=true∧(0≤layer∧layer≤g.lowers):=by
 have h1:(la g&&rv layer 0 g.lowers)=true:=by
  cases hb:(la g&&rv layer 0 g.lowers)
  ·unfold eo at h;rw[hb]at h;simp at h
  ·rfl
 simp only[Bool.and_eq_true]at h1
 exact⟨h1.1,by simpa [rv]using h1.2⟩
theorem Ms{g:bt}{layer:Int}(h:¬eo g layer< 0):eo g layer+aJ g≤dH g∧dH g≤405∧eo g layer≤405:=by
 obtain⟨h1,h2⟩:=Ai h
 have hl:=lB h1
 have hs:=dq h1
 have hg:=F3 h1
 have ht:dH g=rJ g+g.log:=by unfold dH;rw[if_pos h1]
 have arn:rJ g=1+g.lowers*aJ g+aJ g:=by unfold rJ;rw[Int.add_mul];omega
 have hst:=wx h1 (layer:=layer) (by simp[rv,h2])
 by_cases h0:layer=0
 ·rw[if_pos h0]at hst
  omega
 ·rw[if_neg h0]at hst
  have hle:(layer-1)*aJ g≤g.lowers*aJ g:=Int.mul_le_mul_of_nonneg_right (by omega) (by omega)
  omega
theorem acr(k)(l:List (List UInt8))(c:List UInt8):qJ k (l++[c])= .sl (.own k 37) (l.length+1) (l.flatMap eS++eS c):=by simp[qJ]
theorem ae0(g:bt)(bs:List UInt8)(layer:Int)(hl:bs.length≤12800):Ev E vU [.agg (eG g),sl eB bs,.v (.int .i64 layer)]
  (if eo g layer< 0∨(bs.length:Int)≠64*dH g then .sl .nil 0 []else qJ 0 (iz bs (eo g layer).toNat (aJ g).toNat)):=by
 refine aB (fn:=o9) rfl (by decide) rfl rfl rfl ?_
 have hs:=af (aai g layer)
 have ht:=af (Me g)
 by_cases h:eo g layer< 0
 ·rw[if_pos (.inl h)]
  simp[o9,hs,h]
 ·obtain⟨mX,hla⟩:=Ai h
  have hf:=Ms h
  have uN:=lB mX
  have hw:IntKind.i64.wrap (64*dH g)=64*dH g:=cq (by omega) (by omega)
  by_cases h2:(bs.length:Int)=64*dH g
  ·rw[if_neg (fun hh=>hh.elim h fun h3=>h3 h2)]
   obtain⟨A,hA⟩:∃A:Nat,eo g layer=A:=⟨(eo g layer).toNat,by omega⟩
   obtain⟨L,hL⟩:∃L:Nat,aJ g=L:=⟨(aJ g).toNat,by omega⟩
   have hy:=af (Ak g mX)
   rw[hA]at hs h hf
   rw[hA,hL,Int.toNat_natCast,Int.toNat_natCast]
   rw[hL]at hy hf
   have dh:64*(A+L)≤bs.length:=by omega
   simp[o9,hs,ht,h,hw,h2]
   refine m_loop L (fun j σ=>∃a b c d e,σ=⟨[],[a,sl eB bs,b,.ref 0 0,c,.v (.int .i64 A),qJ 344 (iz bs A j),.v (.int .i64 j),d,e],[some (eG g),none]⟩) ⟨_,_,_,_,_,rfl⟩ ?_
   rintro j σ hj ⟨a,b,c,d,e,rfl⟩
   by_cases hlt:j< L
   ·have w1:IntKind.i64.wrap ((A:Int)+j)=((A+j:Nat):Int):=by rw[←Int.natCast_add];exact cq (by omega) (by omega)
    have w2:IntKind.i64.wrap (64*((A+j:Nat):Int))=((64*(A+j):Nat):Int):=by rw[show(64:Int)*((A+j:Nat):Int)=((64*(A+j):Nat):Int) by omega];exact cq (by omega) (by omega)
    have w3:IntKind.i64.wrap (((64*(A+j):Nat):Int)+64)=((64*(A+j)+64:Nat):Int):=by rw[show(((64*(A+j):Nat):Int)+64)=((64*(A+j)+64:Nat):Int) by omega];exact cq (by omega) (by omega)
    have w4:IntKind.i64.wrap ((j:Int)+1)=(j:Int)+1:=cq (by omega) (by omega)
    have hfj:64*(A+j)+64≤bs.length:=by omega
    obtain⟨fq,dN,xW,EU⟩:(j+1)*24≤room∧j+1≤room∧24≤room∧1≤room:=by unfold room;omega
    have jO:qJ 344 (iz bs A (j+1))= .sl (.own 344 37) (j+1) ((iz bs A j).flatMap eS++[sl eB ((bs.drop (64*(A+j))).take 64)]):=by rw[Fp,acr,vL];rfl
    have Hf:=Hd.mk dh
    have Hff:=Hd.mk hf
    clear dh hf uN
    have adJ:64*(A+j)+64-64*(A+j)=64:=by omega
    rcases Nat.eq_zero_or_pos j with iY|iY
    ·have wU:iz bs A j=[]:=by subst iY;rfl
     have jO:qJ 344 (iz bs A (j+1))= .sl (.own 344 37) 1 [sl eB ((bs.drop (64*(A+j))).take 64)]:=by rw[jO,wU];subst iY;rfl
     rw[wU,afc]
     simp[-List.length_flatMap,-Int.natCast_add,-Int.natCast_mul,hy,hlt,w1,w2,w3,w4,hfj,adJ,hit,xW,EU,jO]
     rfl
    ·have fB:qJ 344 (iz bs A j)= .sl (.own 344 37) j ((iz bs A j).flatMap eS):=by rw[Pm _ (by intro hh;have:=congrArg List.length hh;simp at this;omega)];simp
     rw[fB]
     simp[-List.length_flatMap,-Int.natCast_add,-Int.natCast_mul,hy,hlt,w1,w2,w3,w4,hfj,adJ,Ts,hit,fq,dN,jO]
     rfl
   ·have:j=L:=by omega
    subst this
    have hh:hit 52 344=false:=by decide
    simp[hy,hh,aak]
  ·rw[if_pos (.inr h2)]
   have lQ:((bs.length:Int) !=64*dH g)=true:=by simpa using h2
   simp[o9,hs,ht,h,hw,lQ]
end Go.Vi.Sz
end
section
set_option maxRecDepth 100000
namespace Go.Vi.Sz
open Go Go.Vi Go.Vi.Zz
theorem acs(l:List UInt8):Ev E jz [sl eB l,.v (.int .i64 64)] (.bq (.func bg) [] [.ptr [sl eB l] 0,.ptr [.v (.int .i64 64)] 0]):=by
 refine aB (fn:=gM) rfl (by decide) rfl rfl rfl ?_
 simp[gM]
def sG(c:List UInt8):T:= .sl .clip c.length (c.flatMap eB)
theorem bK(l:List UInt8):(l.flatMap eB).length=l.length:=by rw[lY JF l];simp
theorem Ql(l:List UInt8):(l.flatMap eB).all T.A4=true:=by
 induction l with
 |nil=>rfl
 |cons b l ih=>
  have e:(b::l).flatMap eB= .v (.int .u8 b.toNat)::l.flatMap eB:=rfl
  rw[e,List.all_cons,ih]
  rfl
theorem aal(l:List UInt8)(m:Nat)(hm:l.length=64*m)(hb:l.length≤1048576):Ev E (an+bg) [.al [.ptr [sl eB l] 0,.ptr [.v (.int .i64 64)] 0]] (.al ((iz l 0 m).map fun c=> .al [sG c])):=by
 refine⟨1, ?_⟩
 have hq:(l.length+64-1) / 64=m:=by omega
 have hp:zx [.al [.ptr [sl eB l] 0,.ptr [.v (.int .i64 64)] 0]]=some (.al ((iz l 0 m).map fun c=> .al [sG c])):=by
  simp only[zx,sl]
  rw[if_pos ⟨by omega,by omega,hb,bK l,Ql l⟩]
  have D5:Int.toNat 64=64:=rfl
  simp only[D5,hq,iz,List.map_map,Option.some.injEq,T.al.injEq]
  refine List.map_congr_left fun i hi=> ?_
  have hi:i< m:=List.mem_range.1 hi
  have hl:((l.drop (64*(0+i))).take 64).length=64:=by simp;omega
  simp only[Function.comp,sG,hl,Cb,tZ,show i*64=64*(0+i) by omega,show min 64 (l.length-64*(0+i))=64 by omega]
 simp only[aV,E,kF,if_true]
 exact hp
theorem wy(bx:List (Option (List T)))(k:Nat)(l:List UInt8):(l.flatMap eB).mapM (close bx (k+1))=some (l.flatMap eB):=by
 induction l with
 |nil=>rfl
 |cons b l ih=>
  have e:(b::l).flatMap eB= .v (.int .u8 b.toNat)::l.flatMap eB:=rfl
  rw[e,List.mapM_cons,ih]
  rfl
theorem acu(c:List UInt8)(h0:c≠[])(hc:c.length≤12800):Ev E jA [sl eB c] (sl eB c):=by
 obtain⟨n,hn⟩:∃n,c.length=n+1:=⟨c.length-1,by have:=List.length_pos_iff.2 h0;omega⟩
 have hr:n+1≤room:=by unfold room;omega
 refine G2 (fn:=gN) rfl (by decide) rfl (by simp[sl,splits,hn]) rfl ?_
 have he:su false (T.sl Tag.any (n+1) (c.flatMap eB))=some (.v (.bool false)):=rfl
 have bV:bj (c.flatMap eB)=true:=by clear hn hc h0 he;induction c with
  |nil=>rfl
  |cons x c ih=>simp[eB,ih]
 simp[-List.length_flatMap,gN,sl,hn,he]
 refine LW _ _ _ _ _ _ _ _ _ _ _ ?_
 simp[-List.length_flatMap,bK,hn,hr]
 have ao5:fU 0 [CM.box 0] [T.au 0 0 (n+1) (n+1)]=[T.au 0 0 (n+1) (n+1)]:=rfl
 rw[ao5]
 show(if true=true then close [some (c.flatMap eB),none] 8 (T.au 0 0 (n+1) (n+1))else _)=_
 rw[if_pos rfl]
 have fL:((c.flatMap eB).drop 0).take (n+1)=c.flatMap eB:=by rw[List.drop_zero];exact List.take_of_length_le (by rw[bK];omega)
 have ao6:close [some (c.flatMap eB),none] 8 (T.au 0 0 (n+1) (n+1))=((((c.flatMap eB).drop 0).take (n+1)).mapM (close [some (c.flatMap eB),none] 7)).map (T.sl .any (n+1) ·):=rfl
 rw[ao6,fL,wy]
 rfl
@[simp] theorem amt(bx k c):close bx (k+1) (sG c)=some (sl eB c):=by simp[sG,sl,close]
@[simp] theorem akM(c):(sG c).aU=false:=by simp[sG]
@[simp] theorem amu(d c):(sG c).strip d=sG c:=by simp[sG]
theorem ahf(g:bt)(bs:List UInt8)(layer:Int)(hl:bs.length≤12800):Ev E lG [.agg (eG g),sl eB bs,.v (.int .i64 layer)]
  (if eo g layer< 0∨(bs.length:Int)≠64*dH g then .sl .nil 0 []else qJ 0 (iz bs (eo g layer).toNat (aJ g).toNat)):=by
 refine aB (fn:=lM) rfl (by decide) rfl rfl rfl ?_
 have hs:=af (aah g layer)
 have ht:=af (aco g)
 by_cases h:eo g layer< 0
 ·rw[if_pos (.inl h)]
  simp[lM,hs,h]
 ·obtain⟨mX,hla⟩:=Ai h
  have hf:=Ms h
  have uN:=lB mX
  have hw:IntKind.i64.wrap (64*dH g)=64*dH g:=cq (by omega) (by omega)
  by_cases h2:(bs.length:Int)=64*dH g
  ·rw[if_neg (fun hh=>hh.elim h fun h3=>h3 h2)]
   obtain⟨A,hA⟩:∃A:Nat,eo g layer=A:=⟨(eo g layer).toNat,by omega⟩
   obtain⟨L,hL⟩:∃L:Nat,aJ g=L:=⟨(aJ g).toNat,by omega⟩
   rw[hA]at hs h hf
   rw[hA,hL,Int.toNat_natCast,Int.toNat_natCast]
   rw[hL]at hf uN
   have dh:64*(A+L)≤bs.length:=by omega
   have hsm:=dq mX
   have w1:IntKind.i64.wrap (1+g.aw)=1+g.aw:=cq (by omega) (by omega)
   have w2:IntKind.i64.wrap (1+g.aw+g.blocks)=(L:Int):=by unfold aJ at hL;rw[hL];exact cq (by omega) (by omega)
   have w3:IntKind.i64.wrap (64*(A:Int))=((64*A:Nat):Int):=by rw[show(64:Int)*(A:Int)=((64*A:Nat):Int) by omega];exact cq (by omega) (by omega)
   have w4:IntKind.i64.wrap ((A:Int)+(L:Int))=((A+L:Nat):Int):=by rw[←Int.natCast_add];exact cq (by omega) (by omega)
   have w5:IntKind.i64.wrap (64*((A+L:Nat):Int))=((64*(A+L):Nat):Int):=by rw[show(64:Int)*((A+L:Nat):Int)=((64*(A+L):Nat):Int) by omega];exact cq (by omega) (by omega)
   have hc:=af (acs ((bs.drop (64*A)).take (64*(A+L)-64*A)))
   have hle:64*A≤64*(A+L):=by omega
   obtain⟨fq,dN⟩:L*24≤room∧L≤room:=by unfold room;omega
   have Hf:=Hd.mk hf
   have Hl:=Hd.mk uN
   clear hf uN hsm
   simp[-List.length_flatMap,-Int.natCast_add,-Int.natCast_mul,lM,hs,ht,h,hw,h2,w1,w2,w3,w4,w5,hc,hle,dh,fq,dN]
   have hh1:hit 80 248=false:=by decide
   have himp:∀x:T,x=sl eB ((bs.drop (64*A)).take (64*(A+L)-64*A))→T.import 40 (.bq (.func bg) [] [.ptr [x] 0,.ptr [.v (.int .i64 64)] 0])= .bq (.func bg) [] [.ptr [x] 0,.ptr [.v (.int .i64 64)] 0]:=fun x hx=>by simp[T.import]
   rw[himp _ rfl]
   simp only[hh1]
   have hlen:((bs.drop (64*A)).take (64*(A+L)-64*A)).length=64*L:=by simp;omega
   refine F0 (f:=bg) (caps:=[.ptr [sl eB ((bs.drop (64*A)).take (64*(A+L)-64*A))] 0,.ptr [.v (.int .i64 64)] 0]) (cs:=[.ptr [sl eB ((bs.drop (64*A)).take (64*(A+L)-64*A))] 0,.ptr [.v (.int .i64 64)] 0]) (ss:=[])
    (fun j vars bx=>vars=[T.agg (eG g),sl eB bs,T.v (Value.int IntKind.i64 layer),T.ref 0 0,T.sl Tag.nil 0 [],T.v (Value.int IntKind.i64 A),T.v (Value.int IntKind.i64 L),T.ref 2 0,T.undef,T.v (Value.bool false),.bq (.func bg) [] [.ptr [sl eB ((bs.drop (64*A)).take (64*(A+L)-64*A))] 0,.ptr [.v (.int .i64 64)] 0],T.undef]∧
     bx=[some (eG g),none,some [if j=0 then .sl (.own 248 37) 0 []else .sl (.own 368 37) j ((iz bs A j).flatMap eS)],none])
    rfl ?_ ?_ (aal _ L hlen (by rw[hlen];have:=Hl.out;omega)) ?_ ?_ ?_
   ·simp[T.refs,dZ]
   ·simp[T.aj,ah,sl,close]
   ·simp[T.aj,ah,sl,vQ,ai,List.range,List.range.loop]
   ·rintro j t vars bx hy ⟨rfl,rfl⟩
    obtain⟨c,kg,rfl⟩:∃c,(iz ((bs.drop (64*A)).take (64*(A+L)-64*A)) 0 L)[j]? =some c∧T.al [sG c]=t:=by simpa using hy
    refine⟨_,rfl,rfl, ?_⟩
    obtain⟨II,hce⟩:=List.getElem?_eq_some_iff.1 kg
    rw[vL]at II
    have hce:(bs.drop (64*(A+j))).take 64=c:=by
     rw[←hce]
     simp only[iz,List.getElem_map,List.getElem_range,List.drop_take,List.drop_drop,List.take_take]
     rw[show 64*A+64*(0+j)=64*(A+j) by omega,show min 64 (64*(A+L)-64*A-64*(0+j))=64 by omega]
    have bV:c.length=64:=by rw[←hce];simp;omega
    have aam:=af (acu c (by intro hh;subst hh;simp at bV) (by omega))
    have jO:(iz bs A (j+1)).flatMap eS=(iz bs A j).flatMap eS++[sl eB c]:=by rw[Fp,hce];simp[eS]
    obtain⟨fq,dN,xW,EU⟩:(j+1)*24≤room∧j+1≤room∧24≤room∧1≤room:=by
     have:=Hl.out
     unfold room;omega
    by_cases iY:j=0
    ·have wU:iz bs A j=[]:=by subst iY;rfl
     rw[wU]at jO
     rw[jO]
     simp[-List.length_flatMap,T.aj,ah,cM,dD,aam,iY,hit,xW,EU]
     simp[-List.length_flatMap,fv,bD,ai,T.aj,ah]
    ·rw[jO]
     simp[-List.length_flatMap,T.aj,ah,cM,dD,aam,iY,hit,fq,dN,Ts]
     simp[-List.length_flatMap,fv,bD,ai,T.aj,ah]
   ·rintro vars bx ⟨rfl,rfl⟩
    have Oz:vR ((iz ((bs.drop (64*A)).take (64*(A+L)-64*A)) 0 L).map fun c=>T.al [sG c])=false:=by
     obtain⟨n,hn⟩:∃n,L=n+1:=⟨L-1,by have:=Hl.out;omega⟩
     subst hn
     rw[Fp]
     simp[vR,scal,sG]
    have hL0:L≠0:=by have:=Hl.out;omega
    rw[Oz,List.length_map,vL]
    rw[Pm 0 (l:=iz bs A L) (by intro hh;have:=congrArg List.length hh;simp at this;omega),vL]
    simp[hL0]
  ·rw[if_pos (.inr h2)]
   have lQ:((bs.length:Int) !=64*dH g)=true:=by simpa using h2
   simp[lM,hs,ht,h,hw,lQ]
end Go.Vi.Sz
end
section
set_option maxRecDepth 100000
namespace Go.Vi.Sz
open Go Go.Vi Go.Vi.Zz
theorem Vu(l:List UInt8):bytesOf (l.flatMap eB)=some l:=by
 induction l with
 |nil=>rfl
 |cons b l ih=>
  have e:(b::l).flatMap eB= .v (.int .u8 b.toNat)::l.flatMap eB:=rfl
  rw[e]
  simp[bytesOf,ih]
section
variable{E:Env}{k:List Fr}{Q:Out→Prop}{outs:List (Option Nat)}{rest:nQ}(rs vars:List T)(bx:List (Option (List T)))
theorem ub(a:ag)(c:List UInt8)(h:a.get ⟨rs,vars,bx⟩=sl eB c):O E ((none,.toStr a)::rest) outs k ⟨rs,vars,bx⟩ Q=O E rest outs k ⟨snoc rs (.v (.string ⟨c.toArray⟩)),vars,bx⟩ Q:=by
 have hr:ae C0 ⟨rs,vars,bx⟩ (.toStr a)=some (.v (.string ⟨c.toArray⟩),⟨rs,vars,bx⟩):=by
  simp only[ae,h,sl]
  rw[if_pos (by rw[bK]),Vu]
  rfl
 rw[bE rfl,hr,BQ]
end
theorem JG(c:List UInt8):Ev E cf [sl eB c,sl eB c] (.v (.bool true)):=by
 refine aB (fn:=mo) rfl (by decide) rfl rfl rfl ?_
 simp[-List.length_flatMap,mo]
 rw[ub _ _ _ _ c rfl]
 simp[-List.length_flatMap]
 rw[ub _ _ _ _ c rfl]
 simp[-List.length_flatMap]
@[simp] theorem ao7(l:List (List UInt8))(kd:IntKind)(j:Int):dY 1 (sl eS l) (.v (.int kd j))=(if 0≤j∧j.toNat< l.length then some (.ptr (l.flatMap eS) (j.toNat*1))else none):=rfl
@[simp] theorem JH(l:List (List UInt8))(k:Nat)(hk:k< l.length):cp (l.flatMap eS) k=some (sl eB l[k]):=by
 have:=ki aaj l k 0 hk (by omega)
 rw[Nat.mul_one,Nat.add_zero]at this
 rw[this];rfl
theorem Fi(l:List (List UInt8))(hl:l.length≤1000):Ev E jf [sl eS l,sl eS l,.v (.func (.func cf) #[] #[])] (.v (.bool true)):=by
 refine aB (fn:=ji) rfl (by decide) rfl rfl rfl ?_
 simp[-List.length_flatMap,ji]
 refine m_loop l.length (fun k σ=>∃x a b c d e f g,σ=⟨[],[x,sl eS l,.v (.func (.func cf) #[] #[]),a,b,c,d,e,sl eS l,.v (.int .i64 l.length),.v (.int .i64 k),f,g],[]⟩) ⟨_,_,_,_,_,_,_,_,rfl⟩ ?_
 rintro k σ hk ⟨x,a,b,c,d,e,f,g,rfl⟩
 by_cases hlt:k< l.length
 ·have hw:IntKind.i64.wrap ((k:Int)+1)=(k:Int)+1:=yu (by omega) (by omega)
  have hc:=af (JG l[k])
  have fD:eQ (.v (.func (.func cf) #[] #[]))=some (cf,[],[]):=rfl
  simp[-List.length_flatMap,hlt,hw,hc,fD]
 ·have:k=l.length:=by omega
  subst this
  simp[-List.length_flatMap]
end Go.Vi.Sz
end
