/-
  A claim's own text, joined by a small program out of: ZzE, G1, G2, G3, G4.
-/
import Derived.Test.YtodollbkpkpklaaGreatX0
import Derived.Test.YtodollbkpkpklaaGreatX2
import Derived.Shelf.GgClosure.StringsIndexFunc
set_option linter.unusedVariables false
set_option linter.unusedSimpArgs false
section
set_option maxRecDepth 1000000
namespace Go.Vi.Zz
open Go Go.Vi
def EK:List T→Option T
 | [.an [.ptr [.sl _ n cs] 0,.ptr [.v (.int .i64 k)] 0]]=>
  if 0< k∧k≤1048576∧n≤1048576∧cs.length=n∧cs.all T.Ay=true then some (.an ((List.range ((n+k.toNat-1) / k.toNat)).map fun i=> .an [.sl .clip (min k.toNat (n-i*k.toNat)) ((cs.drop (i*k.toNat)).take k.toNat)]))else none
 |_=>none
def eK(c:Nat):Bool:=(decide (97≤c)&&decide (c≤122))||(decide (48≤c)&&decide (c≤57))||c==46||c==95||c==45
def O3:List T→Option T
 | [.v (.string s),.v (.func (.func f) a b),.v (.bool UQ)]=>
  if f=ij∧a.size=0∧b.size=0 then some (.v (.int .i64 (Lib.idxFunc (fun c=> !eK c) UQ s)))else none
 |_=>none
def Cw(ino k:Int):List T→Option Bool
 | []=>some false
 |_:: .agg [.v (.int .i64 a),.v (.int .i64 b)]::es=>(Cw ino k es).map fun r=>(a==ino&&b==k)||r
 |_=>none
def E0:Env:=⟨code,fun _=>none⟩
def Jg:Nat→List T→Option (List Int)
 |0,[]=>some []
 |n+1,.v (.int .i64 _):: .v (.int .i64 _):: .v (.int .i64 _):: .v (.int .i64 _):: .v (.int .i64 _):: .v (.int .i64 a):: .v (.int .i64 b):: .v (.int .i64 c):: .v (.int .i64 d):: .v (.int .i64 e)::cs=>
  if [a,b,c,d,e].all (fun p=>decide (0≤p)&&decide (p≤65535))then(Jg n cs).map fun fl=>a::b::c::d::e::fl else none
 |_,_=>none
def numOf(ino k:Int):Nat:=(5*(ino-1)+k).toNat
def dr(fl:List Int)(blocks ino k:Int):Bool:=decide (1≤ino)&&decide (0≤k)&&decide (k≤4)&&decide (numOf ino k< fl.length)&&decide (1≤fl.getD (numOf ino k) 0)&&decide (fl.getD (numOf ino k) 0≤blocks)&& !((fl.take (numOf ino k)).contains (fl.getD (numOf ino k) 0))
def UU:List T→Option T
 | [.sl .any n cs,.v (.int .i64 blocks),.v (.int .i64 ino),.v (.int .i64 k)]=>(Jg n cs).bind fun fl=>if n≤100000 then some (.v (.bool (dr fl blocks ino k)))else none
 |_=>none
def B9:List T→Option (List Int)
 | []=>some []
 | .v (.int .i64 z)::cs=>(B9 cs).map (z::·)
 |_=>none
def He(x:Int):List Int→List Int
 | []=>[x]
 |y::l=>if x≤y then x::y::l else y::He x l
def lO:List Int→List Int
 | []=>[]
 |x::l=>He x (lO l)
def int64(z:Int):T:= .v (.int .i64 z)
def Io:List T→Option T
 | [.an [.sl .nil 0 []],.an []]=>some (.an [.an [],.an []])
 | [.an [.av 0 0 n m],.an [.agg cs,.undef]]=>(B9 cs).bind fun zs=>if cs.length=n∧m=n∧n≤1048576 then some (.an [.an [],.an [.agg ((lO zs).map int64),.undef]])else none
 |_=>none
def kJ(f:FuncId):Option (List T→Option T):=
 if f=aq+cW then some EK else if f=jm then some O3 else if f=oz then some UU else if f=aq+gv then some Io else none
def E:Env:=⟨code,kJ⟩
end Go.Vi.Zz
end
section
set_option maxRecDepth 100000
namespace Go.Vi.Sz
open Go Go.Vi Go.Vi.Zz
structure cA where
 lowers:Int
 aE:Int
 blocks:Int
 log:Int
deriving DecidableEq
def eG(g:cA):List T:=[.v (.int .i64 g.lowers),.v (.int .i64 g.aE),.v (.int .i64 g.blocks),.v (.int .i64 g.log)]
@[simp] theorem apO(g:cA):(eG g).length=4:=rfl
@[simp] theorem alJ(g:cA):bn (eG g)=true:=rfl
@[simp] theorem aoh(d:Nat)(g:cA):stripL d (eG g)=eG g:=by simp[eG]
@[simp] theorem aoi(bx k)(g:cA):(eG g).mapM (close bx (k+1))=some (eG g):=by simp[eG]
@[simp] theorem aoj(s)(g:cA):aR s (eG g)=true:=by simp[eG]
@[simp] theorem alK(g:cA):bc (eG g)=false:=by simp[eG]
@[simp] theorem apP(g:cA):rk (eG g)=true:=rfl
@[simp] theorem eG0(g:cA):cr (eG g) 0=some (.v (.int .i64 g.lowers)):=rfl
@[simp] theorem eG1(g:cA):cr (eG g) 1=some (.v (.int .i64 g.aE)):=rfl
@[simp] theorem eG2(g:cA):cr (eG g) 2=some (.v (.int .i64 g.blocks)):=rfl
@[simp] theorem eG3(g:cA):cr (eG g) 3=some (.v (.int .i64 g.log)):=rfl
@[simp] theorem apQ(g:cA):one? true 4 (eG g) 0=some (.agg (eG g)):=rfl
@[simp] theorem aok(ρ η)(g:cA):ai ρ η (eG g)=eG g:=by simp[eG]
def L1(n low high:Int):Bool:=decide (low≤n)&&decide (n≤high)
def zB(g:cA):Bool:=L1 g.lowers 1 3&&L1 g.aE 4 24&&L1 g.blocks 1 60&&L1 g.log 1 64
theorem zH(n low high:Int):Ev E lk [.v (.int .i64 n),.v (.int .i64 low),.v (.int .i64 high)] (.v (.bool (L1 n low high))):=by
 refine aC (fn:=tV) rfl (by decide) rfl rfl rfl ?_
 unfold L1
 simp[tV]
 repeat' (refine j9 (fun h=> ?_) (fun h=> ?_)<;>simp[*])
theorem ab1(g:cA):Ev E rB [.agg (eG g)] (.v (.int .i64 (if zB g then 0 else 1))):=by
 refine aC (fn:=vy) rfl (by decide) rfl rfl rfl ?_
 have h1:=af (zH g.lowers 1 3)
 have h2:=af (zH g.aE 4 24)
 have h3:=af (zH g.blocks 1 60)
 have h4:=af (zH g.log 1 64)
 simp[vy,h1]
 repeat' (first|refine j9 (fun h=> ?_) (fun h=> ?_)|refine oV (fun h=> ?_) (fun h=> ?_))<;>simp[*,zB]
theorem Z0(g:cA):Ev E ki [.agg (eG g)] (.v (.int .i64 (if zB g then 0 else 1))):=by
 refine aC (fn:=sB) rfl (by decide) rfl rfl rfl ?_
 simp[sB]
 repeat' (first|refine j9 (fun h=> ?_) (fun h=> ?_)|refine oV (fun h=> ?_) (fun h=> ?_))<;>simp[*,zB,L1]
 all_goals (simp only[decide_eq_true_eq,decide_eq_false_iff_not]at*;omega)
theorem mU{g:cA}(h:zB g=true):(1≤g.lowers∧g.lowers≤3)∧(4≤g.aE∧g.aE≤24)∧(1≤g.blocks∧g.blocks≤60)∧(1≤g.log∧g.log≤64):=by
 simp only[zB,L1,Bool.and_eq_true,decide_eq_true_eq]at h
 omega
theorem x5{n:Int}(h1: -1000000≤n)(h2:n≤1000000):IntKind.i64.wrap n=n:=Fs (by omega) (by omega)
def PX(g:cA):Int:=1+g.aE+g.blocks
theorem Z1(g:cA)(h:zB g=true):Ev E kg [.agg (eG g)] (.v (.int .i64 (PX g))):=by
 refine aC (fn:=sA) rfl (by decide) rfl rfl rfl ?_
 have hs:=mU h
 have w1:IntKind.i64.wrap (1+g.aE)=1+g.aE:=x5 (by omega) (by omega)
 have w2:IntKind.i64.wrap (1+g.aE+g.blocks)=1+g.aE+g.blocks:=x5 (by omega) (by omega)
 clear hs
 simp[sA,w1,w2,PX]
end Go.Vi.Sz
end
section
set_option maxRecDepth 100000
namespace Go.Vi.Sz
open Go Go.Vi Go.Vi.Zz
def eB(b:UInt8):List T:=[.v (.int .u8 b.toNat)]
def sl{α:Type}(enc:α→List T)(l:List α):T:= .sl .any l.length (l.flatMap enc)
@[simp] theorem Jh(b:UInt8):(eB b).length=1:=rfl
theorem FL(n:Nat):∀l:List UInt8,(l.flatMap eB).drop n=(l.drop n).flatMap eB:=by
 induction n with
 |zero=>intro l;simp
 |succ n ih=>intro l;cases l<;>simp[eB,←ih]
theorem x6(n:Nat):∀l:List UInt8,(l.flatMap eB).take n=(l.take n).flatMap eB:=by
 induction n with
 |zero=>intro l;simp
 |succ n ih=>intro l;cases l<;>simp[eB,←ih]
@[simp] theorem apo{α:Type}(enc:α→List T)(l:List α):(sl enc l).one=true:=rfl
@[simp] theorem alL{α:Type}(d)(enc:α→List T)(l:List α):(sl enc l).strip d=sl enc l:=by simp[sl]
@[simp] theorem alM{α:Type}(ρ η)(enc:α→List T)(l:List α):(sl enc l).al ρ η=sl enc l:=by simp[sl]
@[simp] theorem aj6{α:Type}(d)(enc:α→List T)(l:List α):(sl enc l).import d=sl enc l:=by simp[sl]
@[simp] theorem alN{α:Type}(bx k)(enc:α→List T)(l:List α):close bx (k+1) (sl enc l)=some (sl enc l):=by simp[sl]
@[simp] theorem alO{α:Type}(s)(enc:α→List T)(l:List α):(sl enc l).ay s=true:=by simp[sl]
@[simp] theorem aj7{α:Type}(enc:α→List T)(l:List α):(sl enc l).aV=false:=by simp[sl]
@[simp] theorem aj8{α:Type}(enc:α→List T)(l:List α):(sl enc l).closed=true:=by simp[sl]
@[simp] theorem aol{α:Type}(enc:α→List T)(l:List α):(sl enc l).fa=[]:=by simp[sl]
@[simp] theorem aj9{α:Type}(enc:α→List T)(l:List α):kG (sl enc l)=[sl enc l]:=rfl
@[simp] theorem aka{α:Type}(enc:α→List T)(l:List α):lC (sl enc l)=true:=rfl
@[simp] theorem aom{α:Type}(enc:α→List T)(l:List α):jo false (sl enc l)=some (.v (.int .i64 l.length)):=rfl
@[simp] theorem aon{α:Type}(enc:α→List T)(l:List α):(sl enc l).cH=sl enc l:=by simp[sl]
@[simp] theorem aic{α:Type}(enc:α→List T)(l:List α):cellsOf (sl enc l)=some [sl enc l]:=rfl
@[simp] theorem tu(d k:Nat)(e:TypeId)(n:Nat)(cs:List T):(T.sl (.own k e) n cs).strip d= .sl (if hit d k then .any else .own k e) n cs:=by simp only[T.strip]
def eS(c:List UInt8):List T:=[sl eB c]
@[simp] theorem Z2(c:List UInt8):(eS c).length=1:=rfl
theorem UE(l:List (List UInt8)):bn (l.flatMap eS)=true:=by
 induction l with
 |nil=>rfl
 |cons c l ih=>simp[eS,ih]
def slS(k:Nat)(l:List (List UInt8)):T:=if l=[]then .sl .clip 0 []else .sl (.own k 37) l.length (l.flatMap eS)
@[simp] theorem apq(k):slS k []= .sl .clip 0 []:=rfl
@[simp] theorem Te(bs:List UInt8)(lo hi:Nat):uw 1 (sl eB bs) (some lo) (some hi) (some (o6 (sl eB bs))) false=if lo≤hi∧hi≤bs.length then some (sl eB ((bs.drop lo).take (hi-lo)))else none:=by
 unfold uw
 simp only[sl,o6,Nat.mul_one,FL,x6]
 by_cases h:lo≤hi∧hi≤bs.length
 ·have hl:((bs.drop lo).take (hi-lo)).length=hi-lo:=by simp;omega
  simp[h,hl]
 ·simp[h]
end Go.Vi.Sz
end
section
set_option maxRecDepth 100000
namespace Go.Vi.Sz
open Go Go.Vi Go.Vi.Zz
def L2(c:List UInt8):T:= .sl .clip c.length (c.flatMap eB)
theorem bV(l:List UInt8):(l.flatMap eB).length=l.length:=by rw[mR Jh l];simp
theorem Z3(l:List UInt8):(l.flatMap eB).all T.Ay=true:=by
 induction l with
 |nil=>rfl
 |cons b l ih=>
  have e:(b::l).flatMap eB= .v (.int .u8 b.toNat)::l.flatMap eB:=rfl
  rw[e,List.all_cons,ih]
  rfl
theorem Ao(bx:List (Option (List T)))(k:Nat)(l:List UInt8):(l.flatMap eB).mapM (close bx (k+1))=some (l.flatMap eB):=by
 induction l with
 |nil=>rfl
 |cons b l ih=>
  have e:(b::l).flatMap eB= .v (.int .u8 b.toNat)::l.flatMap eB:=rfl
  rw[e,List.mapM_cons,ih]
  rfl
end Go.Vi.Sz
end
section
set_option maxRecDepth 100000
namespace Go.Vi.Sz
open Go Go.Vi Go.Vi.Zz
theorem Vd(l:List UInt8):bytesOf (l.flatMap eB)=some l:=by
 induction l with
 |nil=>rfl
 |cons b l ih=>
  have e:(b::l).flatMap eB= .v (.int .u8 b.toNat)::l.flatMap eB:=rfl
  rw[e]
  simp[bytesOf,ih]
section
variable{E:Env}{k:List Fr}{Q:Out→Prop}{outs:List (Option Nat)}{rest:nC}(rs vars:List T)(bx:List (Option (List T)))
theorem tD(a:ag)(c:List UInt8)(h:a.get ⟨rs,vars,bx⟩=sl eB c):O E ((none,.toStr a)::rest) outs k ⟨rs,vars,bx⟩ Q=O E rest outs k ⟨snoc rs (.v (.string ⟨c.toArray⟩)),vars,bx⟩ Q:=by
 have hr:ae C0 ⟨rs,vars,bx⟩ (.toStr a)=some (.v (.string ⟨c.toArray⟩),⟨rs,vars,bx⟩):=by
  simp only[ae,h,sl]
  rw[if_pos (by rw[bV]),Vd]
  rfl
 rw[bH rfl,hr,Bn]
end
theorem Cu(c:List UInt8):Ev E cY [sl eB c,sl eB c] (.v (.bool true)):=by
 refine aC (fn:=l4) rfl (by decide) rfl rfl rfl ?_
 simp[-List.length_flatMap,l4]
 rw[tD _ _ _ _ c rfl]
 simp[-List.length_flatMap]
 rw[tD _ _ _ _ c rfl]
 simp[-List.length_flatMap]
@[simp] theorem aoo(l:List (List UInt8))(kd:IntKind)(j:Int):dR 1 (sl eS l) (.v (.int kd j))=(if 0≤j∧j.toNat< l.length then some (.ptr (l.flatMap eS) (j.toNat*1))else none):=rfl
@[simp] theorem Ji(l:List (List UInt8))(k:Nat)(hk:k< l.length):cr (l.flatMap eS) k=some (sl eB l[k]):=by
 have:=jY Z2 l k 0 hk (by omega)
 rw[Nat.mul_one,Nat.add_zero]at this
 rw[this];rfl
end Go.Vi.Sz
end
