/-
  A claim's own text, joined by a small program out of: G5, G6, G7, G8, G9, G10, G11, G12, G13, G14, G15, G16, G17.
-/
import Derived.Test.YtodollbkpkpklaaGreatX3
import Derived.Test.YtodollbkpkpklaaGreatX1
set_option linter.unusedVariables false
set_option linter.unusedSimpArgs false
section
set_option maxRecDepth 100000
namespace Go.Vi.Sz
open Go Go.Vi Go.Vi.Zz
def BD(k:IntKind):T→Option T
 | .v (.int _ n)=>some (.v (.int k (k.wrap n)))
 | .v (.float s b)=>(gy (Conv.floatToInt s b k)).map T.v
 |_=>none
@[simp] theorem ake(k kd n):BD k (.v (.int kd n))=some (.v (.int k (k.wrap n))):=rfl
theorem L3(σ:St)(k a):ae C0 σ (.toInt k a)=(BD k (a.get σ)).map (·,σ):=by
 simp only[ae,BD]
 generalize ag.get σ a=t
 cases t<;>try rfl
 rename_i v
 cases v<;>try rfl
 simp only[Option.map_map]
 rfl
@[simp] theorem alP(σ:St)(k a):gL σ (.toInt k a)=pT (BD k (a.get σ)):=jv (L3 ..)
@[simp] theorem alQ(σ:St)(k a):iO σ (.toInt k a)=((BD k (a.get σ)).isSome=true):=jw (L3 ..)
@[simp] theorem aop(l:List UInt8)(kd:IntKind)(j:Int):dR 1 (sl eB l) (.v (.int kd j))=(if 0≤j∧j.toNat< l.length then some (.ptr (l.flatMap eB) (j.toNat*1))else none):=rfl
@[simp] theorem yZ(l:List UInt8)(k:Nat)(hk:k< l.length):cr (l.flatMap eB) k=some (.v (.int .u8 l[k].toNat)):=by
 have:=jY Jh l k 0 hk (by omega)
 rw[Nat.mul_one,Nat.add_zero]at this
 rw[this];rfl
theorem oP(b:UInt8):IntKind.i64.wrap (b.toNat:Int)=(b.toNat:Int):=au (by have:=b.toNat_lt;omega)
def lV:List UInt8→Nat
 | []=>0
 |b::l=>b.toNat+256*lV l
theorem Vg(n:Nat):(2:Nat)^(8*(n+1))=256*2^(8*n):=by
 rw[Nat.mul_add,Nat.pow_add,Nat.mul_comm]
theorem Z7(l:List UInt8):lV l< 2^(8*l.length):=by
 induction l with
 |nil=>decide
 |cons b l ih=>
  have hb:=b.toNat_lt
  rw[List.length_cons,Vg,lV]
  omega
theorem ab3(l:List UInt8)(b:UInt8):lV (l++[b])=lV l+b.toNat*2^(8*l.length):=by
 induction l with
 |nil=>simp[lV]
 |cons a l ih=>
  rw[List.cons_append,lV,ih,lV,List.length_cons,Vg]
  rw[Nat.mul_add,←Nat.add_assoc]
  congr 1
  rw[←Nat.mul_assoc,←Nat.mul_assoc,Nat.mul_comm 256]
def wid(n:Int):Bool:=n==1||n==2||n==4
theorem y3{n:Int}(h:wid n=true):n=1∨n=2∨n=4:=by
 simp only[wid,Bool.or_eq_true,beq_iff_eq]at h
 omega
theorem PZ(n:Int):Ev E vv [.v (.int .i64 n)] (.v (.bool (wid n))):=by
 refine aC (fn:=vA) rfl (by decide) rfl rfl rfl ?_
 unfold wid
 simp[vA]
 repeat' (refine j9 (fun h=> ?_) (fun h=> ?_)<;>simp[*])
theorem L4(n:Int):Ev E sr [.v (.int .i64 n)] (.v (.bool (wid n))):=by
 refine aC (fn:=sC) rfl (by decide) rfl rfl rfl ?_
 unfold wid
 simp[sC]
 repeat' (refine j9 (fun h=> ?_) (fun h=> ?_)<;>simp[*])
def uP(n:Nat)(at_ size:Int):Bool:=wid size&&decide (0≤at_)&&decide (at_≤n)&&decide (size≤n-at_)
theorem ab4(bs:List UInt8)(hl:bs.length≤12800)(at_ size:Int):Ev E zX [sl eB bs,.v (.int .i64 at_),.v (.int .i64 size)] (.v (.bool (uP bs.length at_ size))):=by
 refine aC (fn:=rM) rfl (by decide) rfl rfl rfl ?_
 have hc:=af (PZ size)
 unfold uP
 by_cases h:0≤at_∧at_≤bs.length
 ·have hw:IntKind.i64.wrap (bs.length-at_)=bs.length-at_:=x5 (by omega) (by omega)
  simp[rM,hc]
  repeat' (refine j9 (fun h=> ?_) (fun h=> ?_)<;>simp[*])
 ·simp[rM,hc]
  repeat' (refine j9 (fun h=> ?_) (fun h=> ?_)<;>simp[*])
  all_goals (simp only[decide_eq_true_eq]at*;omega)
theorem GO{n:Nat}{at_ size:Int}(h:uP n at_ size=true):(size=1∨size=2∨size=4)∧0≤at_∧at_≤n∧size≤n-at_:=by
 simp only[uP,Bool.and_eq_true,decide_eq_true_eq]at h
 exact⟨y3 h.1.1.1,h.1.1.2,h.1.2,h.2⟩
def qU(bs:List UInt8)(at_ size:Int):List UInt8:=(bs.drop at_.toNat).take size.toNat
def Ap(bs:List UInt8)(at_ size:Int):T:=if uP bs.length at_ size then .an [.v (.int .i64 (lV (qU bs at_ size))),.v (.bool true)]else .an [.v (.int .i64 0),.v (.bool false)]
theorem mM(bs:List UInt8)(hl:bs.length≤12800)(at_ size:Int):Ev E pw [sl eB bs,.v (.int .i64 at_),.v (.int .i64 size)] (Ap bs at_ size):=by
 refine aC (fn:=vO) rfl (by decide) rfl rfl rfl ?_
 have hc:=af (ab4 bs hl at_ size)
 unfold Ap
 cases h:uP bs.length at_ size
 ·simp[vO,hc,h]
 ·obtain⟨hs,h0,h1,h2⟩:=GO h
  obtain⟨A,rfl⟩:∃A:Nat,at_=A:=⟨at_.toNat,by omega⟩
  obtain⟨S,rfl⟩:∃S:Nat,size=S:=⟨size.toNat,by omega⟩
  have hS:S=1∨S=2∨S=4:=by omega
  have hw:IntKind.i64.wrap ((A:Int)+S)=((A+S:Nat):Int):=by rw[←Int.natCast_add];exact au (by omega)
  have dZ:A≤A+S∧A+S≤bs.length:=by omega
  have iI:A+S-A=S:=by omega
  generalize hc8:qU bs A S=c8
  have hb:(bs.drop A).take S=c8:=by rw[←hc8];simp[qU]
  have hlen:c8.length=S:=by rw[←hb];simp;omega
  simp[-Int.natCast_add,vO,hc,h,hw,dZ,iI,hb,hlen]
  refine m_loop S (fun j σ=>∃a b c d e f g x y,σ=⟨[],[a,b,c,d,e,.v (.int .i64 (lV (c8.take j))),f,g,x,sl eB c8,.v (.int .i64 S),.v (.int .i64 j),y],[]⟩) ⟨_,_,_,_,_,_,_,_,_,rfl⟩ ?_
  rintro j σ hj ⟨a,b,c,d,e,f,g,x,y,rfl⟩
  by_cases hlt:j< S
  ·have w4:IntKind.i64.wrap ((j:Int)+1)=((j+1:Nat):Int):=by rw[←Int.natCast_succ];exact au (by omega)
   have th:j< c8.length:=by omega
   have w8:IntKind.i64.wrap (8*(j:Int))=((8*j:Nat):Int):=by rw[show(8:Int)*j=((8*j:Nat):Int) by omega];exact au (by omega)
   have hb:=c8[j].toNat_lt
   have hle:=Z7 (c8.take j)
   rw[List.length_take,Nat.min_eq_left (by omega)]at hle
   have hst:c8.take (j+1)=c8.take j++[c8[j]]:=by rw[List.take_succ_eq_append_getElem th]
   have nG:lV (c8.take (j+1))=lV (c8.take j)|||c8[j].toNat*2^(8*j):=by
    rw[hst,ab3,Na,List.length_take,Nat.min_eq_left (by omega)]
    exact hle
   have hp:2^(8*j)≤2^(8*3):=Nat.pow_le_pow_right (by decide) (by omega)
   have hm:c8[j].toNat*2^(8*j)≤255*2^(8*3):=Nat.mul_le_mul (by omega) hp
   have GP:=Rz 3 (kd:= .i64) (a:=c8[j].toNat) (n:=8*j) (by omega) (by omega)
   have F7:=VR 3 (a:=lV (c8.take j)) (b:=c8[j].toNat*2^(8*j)) (by omega) (by omega)
   simp[-Int.natCast_add,-Int.natCast_mul,-Int.natCast_pow,hlt,w4,hlen,nG,oP,w8,GP,F7]
  ·have:j=S:=by omega
   subst this
   have ht:c8.take j=c8:=by rw[List.take_of_length_le (by omega)]
   simp[ht]
theorem mb(bs:List UInt8)(hl:bs.length≤12800)(at_ size:Int):Ev E gH [sl eB bs,.v (.int .i64 at_),.v (.int .i64 size)] (Ap bs at_ size):=by
 refine aC (fn:=kY) rfl (by decide) rfl rfl rfl ?_
 have hc:=af (L4 size)
 unfold Ap
 cases h:uP bs.length at_ size
 ·simp only[uP,Bool.and_eq_false_iff,decide_eq_false_iff_not]at h
  cases hwd:wid size
  ·simp[kY,hc,hwd]
  ·rw[hwd]at h
   have h:(¬0≤at_∨¬at_≤bs.length)∨¬size≤bs.length-at_:=by simpa using h
   by_cases kD:0≤at_∧at_≤bs.length
   ·have hw:IntKind.i64.wrap (bs.length-at_)=bs.length-at_:=x5 (by omega) (by omega)
    have d1:¬at_< 0:=by omega
    have d2:¬(bs.length:Int)< at_:=by omega
    have d3:(bs.length:Int)-at_< size:=by omega
    simp[kY,hc,hwd,d1,d2,d3,hw]
   ·by_cases d1:at_< 0
    ·simp[kY,hc,hwd,d1]
    ·have d2:(bs.length:Int)< at_:=by omega
     simp[kY,hc,hwd,d1,d2]
 ·obtain⟨hs,h0,h1,h2⟩:=GO h
  obtain⟨A,rfl⟩:∃A:Nat,at_=A:=⟨at_.toNat,by omega⟩
  obtain⟨S,rfl⟩:∃S:Nat,size=S:=⟨size.toNat,by omega⟩
  have hS:S=1∨S=2∨S=4:=by omega
  have aoq:wid S=true:=by unfold wid;rcases hS with rfl|rfl|rfl<;>rfl
  have hw:IntKind.i64.wrap ((bs.length:Int)-A)=((bs.length-A:Nat):Int):=by rw[←Int.natCast_sub (by omega)];exact au (by omega)
  have xn:IntKind.i64.wrap ((S:Int)-1)=(S:Int)-1:=Fs (by omega) (by omega)
  have mz:¬((A:Int)< 0):=by omega
  have mC:¬((bs.length:Int)< A):=by omega
  have zu:¬(((bs.length-A:Nat):Int)< S):=by omega
  have hlen:(qU bs A S).length=S:=by simp[qU];omega
  simp[-Int.natCast_add,kY,hc,aoq,hw,xn,mz,mC,zu]
  generalize hc8:qU bs A S=c8 at hlen⊢
  refine m_loop S (fun j σ=>∃x y z u v,σ=⟨[],[sl eB bs,.v (.int .i64 A),x,y,z,.v (.int .i64 (lV (c8.drop (S-j)))),.v (.int .i64 ((S:Int)-1-j)),u,v],[]⟩) ⟨_,_,_,_,_,by rw[List.drop_of_length_le (by omega),show(S:Int)-1-((0:Nat):Int)=(S:Int)-1 by omega];rfl⟩ ?_
  rintro j σ hj ⟨x,y,z,u,v,rfl⟩
  by_cases hlt:j< S
  ·have hg:(0:Int)≤(S:Int)-1-j:=by omega
   have hx:S-1-j< c8.length:=by omega
   have w1:IntKind.i64.wrap ((S:Int)-1-j-1)=(S:Int)-1-((j+1:Nat):Int):=by rw[Fs (by omega) (by omega)];omega
   have w2:IntKind.i64.wrap ((A:Int)+((S:Int)-1-j))=((A+(S-1-j):Nat):Int):=by rw[show(A:Int)+((S:Int)-1-j)=((A+(S-1-j):Nat):Int) by omega];exact au (by omega)
   have dZ:A+(S-1-j)< bs.length:=by omega
   have N5:bs[A+(S-1-j)]=c8[S-1-j]:=by subst hc8;simp[qU]
   have hd:c8.drop (S-(j+1))=c8[S-1-j]::c8.drop (S-j):=by rw[show S-(j+1)=S-1-j by omega,List.drop_eq_getElem_cons hx,show S-1-j+1=S-j by omega]
   have jb:=Z7 (c8.drop (S-j))
   rw[List.length_drop]at jb
   have hp:2^(8*(c8.length-(S-j)))≤2^(8*3):=Nat.pow_le_pow_right (by decide) (by omega)
   have hb:=c8[S-1-j].toNat_lt
   have w3:IntKind.i64.wrap ((lV (c8.drop (S-j)):Int)*256)=((256*lV (c8.drop (S-j)):Nat):Int):=by rw[show(lV (c8.drop (S-j)):Int)*256=((256*lV (c8.drop (S-j)):Nat):Int) by omega];exact au (by omega)
   have w4:IntKind.i64.wrap (((256*lV (c8.drop (S-j)):Nat):Int)+(c8[S-1-j].toNat:Int))=((lV (c8.drop (S-(j+1))):Nat):Int):=by rw[hd,lV,←Int.natCast_add,Nat.add_comm];exact au (by omega)
   simp[-Int.natCast_add,-Int.natCast_mul,-Int.sub_nonneg,hg,w1,w2,w3,w4,dZ,N5,oP]
   exact hlt
  ·have:j=S:=by omega
   subst this
   have hg:¬(0:Int)≤(j:Int)-1-j:=by omega
   simp[-Int.sub_nonneg,hg]
end Go.Vi.Sz
end
section
set_option maxRecDepth 100000
namespace Go.Vi.Sz
open Go Go.Vi Go.Vi.Zz
section
variable{E:Env}{k:List Fr}{Q:Out→Prop}{outs:List (Option Nat)}{rest:nC}(rs vars:List T)(bx:List (Option (List T)))
theorem Z8(a:ag)(n:Nat){kd:IntKind}(h:a.get ⟨rs,vars,bx⟩= .v (.int kd n)):O E ((none,.toFloat .f64 a)::rest) outs k ⟨rs,vars,bx⟩ Q=O E rest outs k ⟨snoc rs (.v (.float .f64 (fl n))),vars,bx⟩ Q:=by
 have hr:ae C0 ⟨rs,vars,bx⟩ (.toFloat .f64 a)=some (.v (.float .f64 (fl n)),⟨rs,vars,bx⟩):=by
  simp only[ae,h]
  rfl
 rw[bH rfl,hr,Bn]
theorem Jk(j:Nat)(a:ag)(x y:Nat)(h:a.get ⟨rs,vars,bx⟩= .v (.complex .f64 x y)):O E ((none,.part j a)::rest) outs k ⟨rs,vars,bx⟩ Q=O E rest outs k ⟨snoc rs (.v (.float .f64 (if j=0 then x else y))),vars,bx⟩ Q:=by
 have hr:ae C0 ⟨rs,vars,bx⟩ (.part j a)=some (.v (.float .f64 (if j=0 then x else y)),⟨rs,vars,bx⟩):=by
  simp only[ae,h]
 rw[bH rfl,hr,Bn]
theorem ahj(a b:ag)(x y:Nat)(h:a.get ⟨rs,vars,bx⟩= .v (.float .f64 x))(h':b.get ⟨rs,vars,bx⟩= .v (.float .f64 y)):O E ((none,.cplx a b)::rest) outs k ⟨rs,vars,bx⟩ Q=O E rest outs k ⟨snoc rs (.v (.complex .f64 x y)),vars,bx⟩ Q:=by
 have hr:ae C0 ⟨rs,vars,bx⟩ (.cplx a b)=some (.v (.complex .f64 x y),⟨rs,vars,bx⟩):=by
  simp only[ae,h,h']
  rfl
 rw[bH rfl,hr,Bn]
end
def lX(l:List UInt8):Nat×Nat:=l.foldl (fun p b=>((p.1+b.toNat)%65521,(p.2+(p.1+b.toNat)%65521)%65521)) (1,0)
theorem L5(l:List UInt8)(b:UInt8):lX (l++[b])=(((lX l).1+b.toNat)%65521,((lX l).2+((lX l).1+b.toNat)%65521)%65521):=by
 unfold lX
 rw[List.foldl_append]
 rfl
theorem BE(l:List UInt8):(lX l).1< 65521∧(lX l).2< 65521:=by
 unfold lX
 suffices h:∀(l:List UInt8) (p:Nat×Nat),p.1< 65521∧p.2< 65521→(l.foldl (fun p b=>((p.1+b.toNat)%65521,(p.2+(p.1+b.toNat)%65521)%65521)) p).1< 65521∧(l.foldl (fun p b=>((p.1+b.toNat)%65521,(p.2+(p.1+b.toNat)%65521)%65521)) p).2< 65521 from h l (1,0) (by decide)
 intro l
 induction l with
 |nil=>intro p h;exact h
 |cons b l ih=>intro p h;exact ih _ ⟨Nat.mod_lt _ (by decide),Nat.mod_lt _ (by decide)⟩
theorem ab5(bs:List UInt8)(hl:bs.length≤12800):Ev E cR [sl eB bs] (.an [.v (.int .i64 (lX bs).1),.v (.int .i64 (lX bs).2)]):=by
 refine aC (fn:=jS) rfl (by decide) rfl rfl rfl ?_
 simp[-Int.natCast_add,jS]
 refine m_loop bs.length (fun j σ=>∃a b c,σ=⟨[],[sl eB bs,a,b,.v (.int .i64 (lX (bs.take j)).1),.v (.int .i64 (lX (bs.take j)).2),.v (.int .i64 j),c],[]⟩) ⟨_,_,_,rfl⟩ ?_
 rintro j σ hj ⟨a,b,c,rfl⟩
 by_cases hlt:j< bs.length
 ·have hst:bs.take (j+1)=bs.take j++[bs[j]]:=by rw[List.take_succ_eq_append_getElem hlt]
  have hs:=BE (bs.take j)
  have nG:=L5 (bs.take j) bs[j]
  rw[←hst]at nG
  have hb:=bs[j].toNat_lt
  generalize lX (bs.take j)=p at*
  obtain⟨x,y⟩:=p
  simp only at hs nG
  have hm:(x+bs[j].toNat)%65521< 65521:=Nat.mod_lt _ (by decide)
  have w4:IntKind.i64.wrap ((j:Int)+1)=((j+1:Nat):Int):=by rw[←Int.natCast_succ];exact au (by omega)
  have w1:IntKind.i64.wrap ((x:Int)+(bs[j].toNat:Int))=((x+bs[j].toNat:Nat):Int):=by rw[←Int.natCast_add];exact au (by omega)
  have w2:IntKind.i64.wrap ((y:Int)+(((x+bs[j].toNat)%65521:Nat):Int))=((y+(x+bs[j].toNat)%65521:Nat):Int):=by rw[←Int.natCast_add];exact au (by omega)
  have r1:=Fc 3 (a:=x+bs[j].toNat) (b:=65521) (by decide)
  have r2:=Fc 3 (a:=y+(x+bs[j].toNat)%65521) (b:=65521) (by decide)
  have a2:bO .add 3 (.v (.int .i64 (y:Int))) (.v (.int .i64 (((x+bs[j].toNat)%65521:Nat):Int)))=some (.v (.int .i64 ((y+(x+bs[j].toNat)%65521:Nat):Int))):=by rw[←w2];rfl
  rw[show((65521:Nat):Int)=65521 from rfl]at r1 r2
  generalize (x+bs[j].toNat)%65521=x' at*
  generalize (y+x')%65521=y' at*
  simp[-Int.natCast_add,-Int.natCast_emod,hlt,w1,w4,oP,nG,r1,r2,a2]
 ·have:j=bs.length:=by omega
  subst this
  simp
def rr(l:List UInt8):Nat:=(lX l).1+65536*(lX l).2
theorem ahk(bs:List UInt8)(hl:bs.length≤12800):Ev E dU [sl eB bs] (.v (.int .i64 (rr bs))):=by
 refine aC (fn:=mq) rfl (by decide) rfl rfl rfl ?_
 have hc:=af (ab5 bs hl)
 unfold rr
 have hs:=BE bs
 generalize lX bs=p at*
 obtain⟨x,y⟩:=p
 simp only at hs hc⊢
 have w1:IntKind.i64.wrap (65536*(y:Int))=((65536*y:Nat):Int):=by rw[show 65536*(y:Int)=((65536*y:Nat):Int) by omega];exact au (by omega)
 have w2:IntKind.i64.wrap ((x:Int)+((65536*y:Nat):Int))=((x+65536*y:Nat):Int):=by rw[←Int.natCast_add];exact au (by omega)
 simp[-Int.natCast_add,-Int.natCast_mul,mq,hc,w1,w2]
theorem Z9:(4679237951253643264:Nat)=fl 65521:=by rw[Fa (by decide) (by decide)];decide
theorem c1:(4607182418800017408:Nat)=fl 1:=by rw[Fa (by decide) (by decide)];decide
theorem Tf(n:Nat)(h:n< 131042):Ev E xt [.v (.float .f64 (fl n))] (.v (.float .f64 (fl (n%65521)))):=by
 refine aC (fn:=tX) rfl (by decide) rfl rfl rfl ?_
 have g1:=aaI 195 (a:=n) (b:=65521) (by omega) (by decide)
 rw[←Z9]at g1
 by_cases hn:65521≤n
 ·have g2:=aaH 195 (a:=n) (b:=65521) (by omega) hn
  rw[←Z9]at g2
  have e:n%65521=n-65521:=by omega
  rw[e]
  simp[tX,g1,g2,hn]
 ·have e:n%65521=n:=by omega
  rw[e]
  simp[tX,g1,hn]
theorem aeH(bs:List UInt8)(hl:bs.length≤12800):Ev E BK [sl eB bs] (.v (.complex .f64 (fl (lX bs).1) (fl (lX bs).2))):=by
 refine aC (fn:=xu) rfl (by decide) rfl rfl rfl ?_
 simp[-Int.natCast_add,xu]
 refine m_loop bs.length (fun j σ=>∃a b c d x,σ=⟨[],[a,b,.v (.complex .f64 (fl (lX (bs.take j)).1) (fl (lX (bs.take j)).2)),c,d,sl eB bs,.v (.int .i64 bs.length),.v (.int .i64 j),x],[]⟩) ⟨_,_,_,_,_,by rw[c1,List.take_zero];rfl⟩ ?_
 rintro j σ hj ⟨a,b,c,d,x,rfl⟩
 by_cases hlt:j< bs.length
 ·have hst:bs.take (j+1)=bs.take j++[bs[j]]:=by rw[List.take_succ_eq_append_getElem hlt]
  have hs:=BE (bs.take j)
  have nG:=L5 (bs.take j) bs[j]
  rw[←hst]at nG
  have hb:=bs[j].toNat_lt
  generalize lX (bs.take j)=p at*
  obtain⟨x,y⟩:=p
  simp only at hs nG
  have hm:(x+bs[j].toNat)%65521< 65521:=Nat.mod_lt _ (by decide)
  have w4:IntKind.i64.wrap ((j:Int)+1)=((j+1:Nat):Int):=by rw[←Int.natCast_succ];exact au (by omega)
  have q1:=af (Tf (x+bs[j].toNat) (by omega))
  have a1:=M9 195 (a:=x) (b:=bs[j].toNat) (by omega)
  have q2:=af (Tf (y+(x+bs[j].toNat)%65521) (by omega))
  have a2:=M9 195 (a:=y) (b:=(x+bs[j].toNat)%65521) (by omega)
  generalize (x+bs[j].toNat)%65521=x' at*
  generalize (y+x')%65521=y' at*
  simp[-Int.natCast_add,hlt]
  rw[Jk _ _ _ _ _ _ _ rfl]
  simp[-Int.natCast_add]
  rw[Z8 _ _ _ _ _ rfl]
  simp[-Int.natCast_add,a1,q1]
  rw[Jk _ _ _ _ _ _ _ rfl]
  simp[-Int.natCast_add,a2,q2]
  rw[ahj _ _ _ _ _ _ _ rfl rfl]
  simp[-Int.natCast_add,w4,nG]
 ·have:j=bs.length:=by omega
  subst this
  simp
theorem L6{n:Nat}(h:n< 9007199254740992):BD .i64 (.v (.float .f64 (fl n)))=some (.v (.int .i64 n)):=by
 show(gy (Conv.floatToInt .f64 (fl n) .i64)).map T.v=_
 rw[VQ h]
 rfl
theorem akf(bs:List UInt8)(hl:bs.length≤12800):Ev E pA [sl eB bs] (.v (.int .i64 (rr bs))):=by
 refine aC (fn:=vb) rfl (by decide) rfl rfl rfl ?_
 have hc:=af (aeH bs hl)
 unfold rr
 have hs:=BE bs
 generalize lX bs=p at*
 obtain⟨x,y⟩:=p
 simp only at hs hc⊢
 have GP:=Rz 3 (kd:= .u64) (a:=y) (n:=16) (by decide) (by omega)
 rw[show((16:Nat):Int)=16 from rfl]at GP
 have F7:=VR 3 (a:=x) (b:=y*2^16) (by omega) (by omega)
 rw[Na (by omega),show x+y*2^16=x+65536*y by omega]at F7
 have t1:=L6 (n:=x) (by omega)
 have t2:=L6 (n:=y) (by omega)
 generalize y*2^16=w at*
 simp[-Int.natCast_add,vb,hc]
 rw[Jk _ _ _ _ _ _ _ rfl]
 simp[-Int.natCast_add,t1]
 rw[Jk _ _ _ _ _ _ _ rfl]
 simp[-Int.natCast_add,t2,GP,F7]
end Go.Vi.Sz
end
section
set_option maxRecDepth 100000
namespace Go.Vi.Sz
open Go Go.Vi Go.Vi.Zz
def gO(n size:Int):Bool:=wid size&&decide (0≤n)&&decide (n< ((2^(8*size.toNat):Nat):Int))
theorem ab6(n size:Int):Ev E zZ [.v (.int .i64 n),.v (.int .i64 size)] (.v (.bool (gO n size))):=by
 refine aC (fn:=oS) rfl (by decide) rfl rfl rfl ?_
 have hc:=af (PZ size)
 unfold gO
 cases hw:wid size
 ·simp[oS,hc,hw]
 ·by_cases h0:0≤n
  ·obtain⟨N,rfl⟩:∃N:Nat,n=N:=⟨n.toNat,by omega⟩
   have hs:=y3 hw
   obtain⟨S,rfl⟩:∃S:Nat,size=S:=⟨size.toNat,by omega⟩
   have hm:IntKind.i64.wrap (8*(S:Int))=((8*S:Nat):Int):=by rw[show(8:Int)*S=((8*S:Nat):Int) by omega];exact au (by omega)
   have GP:=RA 3 (kd:= .i64) (a:=N) (n:=8*S) (by omega)
   have hp:0< 2^(8*S):=Nat.two_pow_pos _
   have hd:(((N / 2^(8*S):Nat):Int)==0)=decide (N< 2^(8*S)):=by
    rw[Bool.eq_iff_iff,beq_iff_eq,decide_eq_true_iff,←Nat.div_eq_zero_iff_lt hp]
    omega
   simp[-Int.natCast_mul,-Int.natCast_ediv,-Int.natCast_pow,-Nat.div_eq_zero_iff,oS,hc,hw,hm,GP]
   exact hd
  ·simp[oS,hc,hw,h0]
theorem adh(n:Nat):(2:Nat)^(8*(n+1))=2^(8*n)*256:=by rw[Vg,Nat.mul_comm]
theorem aaa(n size:Int):Ev E wO [.v (.int .i64 n),.v (.int .i64 size)] (.v (.bool (gO n size))):=by
 refine aC (fn:=l6) rfl (by decide) rfl rfl rfl ?_
 have hc:=af (L4 size)
 unfold gO
 cases hw:wid size
 ·simp[l6,hc,hw]
 ·by_cases h0:n< 0
  ·have h1:¬0≤n:=by omega
   simp[l6,hc,hw,h0,h1]
  ·have hs:=y3 hw
   have h1:0≤n:=by omega
   obtain⟨S,rfl⟩:∃S:Nat,size=S:=⟨size.toNat,by omega⟩
   simp[-Int.natCast_pow,l6,hc,hw,h0,h1]
   refine m_loop S (fun j σ=>∃a b c,σ=⟨[],[.v (.int .i64 n),.v (.int .i64 S),a,.v (.int .i64 ((2^(8*j):Nat):Int)),.v (.int .i64 j),b,c],[]⟩) ⟨_,_,_,rfl⟩ ?_
   rintro j σ hj ⟨a,b,c,rfl⟩
   by_cases hlt:j< S
   ·have hp:2^(8*j)≤2^(8*3):=Nat.pow_le_pow_right (by decide) (by omega)
    have w1:IntKind.i64.wrap (((2^(8*j):Nat):Int)*256)=((2^(8*(j+1)):Nat):Int):=by rw[adh,show((2^(8*j):Nat):Int)*256=((2^(8*j)*256:Nat):Int) by omega];exact au (by omega)
    have w4:IntKind.i64.wrap ((j:Int)+1)=((j+1:Nat):Int):=by rw[←Int.natCast_succ];exact au (by omega)
    generalize 2^(8*(j+1))=q at*
    generalize 2^(8*j)=r at*
    simp[-Int.natCast_add,hlt,w1,w4]
   ·have:j=S:=by omega
    subst this
    simp[-Int.natCast_pow]
def leB:Nat→Nat→List UInt8
 |_,0=>[]
 |n,k+1=>UInt8.ofNat (n%256)::leB (n / 256) k
theorem iG(n k:Nat):(leB n k).length=k:=by
 induction k generalizing n with
 |zero=>rfl
 |succ k ih=>simp[leB,ih]
theorem P4(n k:Nat):leB n (k+1)=leB n k++[UInt8.ofNat (n / 2^(8*k)%256)]:=by
 induction k generalizing n with
 |zero=>simp[leB]
 |succ k ih=>
  rw[leB,ih,leB,List.cons_append,Nat.div_div_eq_div_mul,Vg]
def p8(k:Nat)(l:List UInt8):T:=if l=[]then .sl .clip 0 []else .sl (.own k 5) l.length (l.flatMap eB)
@[simp] theorem apr(k):p8 k []= .sl .clip 0 []:=rfl
theorem p9(k){l:List UInt8}(h:l≠[]):p8 k l= .sl (.own k 5) l.length (l.flatMap eB):=by simp[p8,h]
@[simp] theorem akg(k l):(p8 k l).aV=false:=by unfold p8;split<;>simp[T.aV]
theorem ab7(k l):(p8 k l).fa=if l=[]then []else [k]:=by unfold p8;split<;>simp
@[simp] theorem alR(k l):(p8 k l).fa.Nodup:=by rw[ab7];split<;>simp
theorem aab(k)(l:List UInt8):(p8 k l).al (fun _=>none) (fun x=>List.idxOf? x (p8 k l).fa)=p8 0 l:=by
 unfold p8
 split
 ·simp
 ·simp[T.al,List.idxOf?]
theorem kV(l:List UInt8):bn (l.flatMap eB)=true:=by
 induction l with
 |nil=>rfl
 |cons c l ih=>simp[eB,ih]
theorem L7(N S:Nat)(hN:N< 9223372036854775808)(hS:S≤8):Ev E dQ [.v (.int .i64 N),.v (.int .i64 S)] (p8 0 (leB N S)):=by
 refine aC (fn:=sE) rfl (by decide) rfl rfl rfl ?_
 simp[-Int.natCast_pow,sE]
 refine m_loop S (fun j σ=>∃a b,σ=⟨[],[.v (.int .i64 ((N / 2^(8*j):Nat):Int)),.v (.int .i64 S),a,p8 144 (leB N j),.v (.int .i64 j),b],[]⟩) ⟨_,_,by rw[show N / 2^(8*0)=N by simp];rfl⟩ ?_
 rintro j σ hj ⟨a,b,rfl⟩
 by_cases hlt:j< S
 ·have nG:=P4 N j
  have pP:=iG N j
  have hdd:N / 2^(8*(j+1))=N / 2^(8*j) / 256:=by rw[adh,Nat.div_div_eq_div_mul]
  have hle:N / 2^(8*j)< 9223372036854775808:=Nat.lt_of_le_of_lt (Nat.div_le_self _ _) hN
  generalize hx:N / 2^(8*j)=x at*
  have r1:=Fc 3 (a:=x) (b:=256) (by decide)
  have r2:=RB 3 (a:=x) (b:=256) (by decide) hle
  rw[show((256:Nat):Int)=256 from rfl]at r1 r2
  have w4:IntKind.i64.wrap ((j:Int)+1)=((j+1:Nat):Int):=by rw[←Int.natCast_succ];exact au (by omega)
  have oO:[T.v (Value.int IntKind.u8 ((x%256:Nat):Int))]=eB (UInt8.ofNat (x%256)):=by
   have e:(UInt8.ofNat (x%256)).toNat=x%256:=by rw[UInt8.toNat_ofNat'];omega
   rw[eB,e]
  have w8:IntKind.u8.wrap ((x%256:Nat):Int)=((x%256:Nat):Int):=by rw[IntKind.wrap_u8];omega
  have w0:IntKind.i64.wrap 1=1:=by decide
  obtain⟨gq,eu,Dk,N8⟩:(j+1)*24≤room∧j+1≤room∧24≤room∧1≤room:=by unfold room;omega
  have hne:leB N (j+1)≠[]:=by rw[nG];simp
  rw[p9 144 hne,nG,hdd]
  rcases Nat.eq_zero_or_pos j with la|la
  ·subst la
   simp[-Int.natCast_add,-Int.natCast_emod,-Int.natCast_ediv,leB,w0,hlt,r1,r2,w8,hit,eu]
   exact oO
  ·have fY:p8 144 (leB N j)= .sl (.own 144 5) j ((leB N j).flatMap eB):=by rw[p9 _ (by intro hh;have:=congrArg List.length hh;simp[pP]at this;omega),pP]
   rw[fY]
   simp[-List.length_flatMap,-Int.natCast_add,-Int.natCast_emod,-Int.natCast_ediv,hlt,r1,r2,w4,w8,hit,eu,bV,pP]
   exact oO
 ·have:j=S:=by omega
  subst this
  have hh:hit 14 144=false:=by decide
  simp[aab]
def y4(b:List UInt8)(n size:Int):List UInt8:=if gO n size then b++leB n.toNat size.toNat else b
@[simp] theorem GF(d e n cs):T.import d (.sl (.own 0 e) n cs)= .sl (.own (8*d) e) n cs:=by simp[T.import]
theorem aeI(b:List UInt8)(hb:b≠[])(hl:b.length≤12800)(n size:Int)(hn:n< 9223372036854775808):Ev E zW [sl eB b,.v (.int .i64 n),.v (.int .i64 size)] (p8 0 (y4 b n size)):=by
 refine aC (fn:=rL) rfl (by decide) rfl rfl rfl ?_
 have hc:=af (aaa n size)
 obtain⟨m,hm⟩:∃m,b.length=m+1:=⟨b.length-1,by have:=List.length_pos_iff.2 hb;omega⟩
 obtain⟨gq,eu⟩:m+1≤room∧(m+1+size.toNat≤room∨8< size.toNat):=by unfold room;omega
 unfold y4
 cases h:gO n size
 ·have e:p8 0 b= .sl (.own 0 5) b.length (b.flatMap eB):=p9 _ hb
  rw[if_neg (by decide),e]
  simp[-List.length_flatMap,rL,hc,h,sl,bV,gq,hit,hm,List.idxOf?]
 ·rw[if_pos rfl]
  simp only[gO,Bool.and_eq_true,decide_eq_true_eq]at h
  obtain⟨⟨hw,h0⟩,h1⟩:=h
  have hs:=y3 hw
  obtain⟨N,rfl⟩:∃N:Nat,n=N:=⟨n.toNat,by omega⟩
  obtain⟨S,rfl⟩:∃S:Nat,size=S:=⟨size.toNat,by omega⟩
  have hR:gO N S=true:=by simp only[gO,Bool.and_eq_true,decide_eq_true_eq];exact⟨⟨hw,h0⟩,h1⟩
  rw[Int.toNat_natCast]at eu
  rw[Int.toNat_natCast,Int.toNat_natCast]
  have A3:=af (L7 N S (by omega) (by omega))
  have pP:=iG N S
  have hne:leB N S≠[]:=by intro hh;rw[hh]at pP;simp at pP;omega
  have Dk:m+1+S≤room:=by omega
  rw[p9 0 hne,pP]at A3
  rw[p9 0 (by simp[hb])]
  simp[-List.length_flatMap,rL,hc,hR,A3,sl,bV,gq,Dk,pP,hit,hm,List.idxOf?]
end Go.Vi.Sz
end
section
set_option maxRecDepth 100000
namespace Go.Vi.Sz
open Go Go.Vi Go.Vi.Zz
theorem Hw(l:List UInt8):eh (l.flatMap eB)=[]:=by
 induction l with
 |nil=>rfl
 |cons x l ih=>simp[eB,ih]
theorem Hx(l:List UInt8):gQ (l.flatMap eB)=[]:=by
 induction l with
 |nil=>simp
 |cons x l ih=>simp[eB,ih]
theorem mN(ρ η)(l:List UInt8):ai ρ η (l.flatMap eB)=l.flatMap eB:=by
 induction l with
 |nil=>simp
 |cons x l ih=>simp[eB,ih]
theorem Rf(b m:List UInt8)(x y:UInt8)(zs:List UInt8):setCells ((b++m++x::zs).flatMap eB) (b.length+m.length) (eB y)=((b++(m++[y]))++zs).flatMap eB:=by
 have e:setCells ((b++m++x::zs).flatMap eB) (b.length+m.length) (eB y)=((b++m++x::zs).flatMap eB).take (b.length+m.length)++eB y++((b++m++x::zs).flatMap eB).drop (b.length+m.length+(eB y).length):=by
  unfold setCells
  rfl
 have hd:(b++m).drop (b.length+m.length+1)=[]:=List.drop_of_length_le (by simp)
 have hs:b.length+m.length+1-(b++m).length=1:=by simp
 rw[e,x6,Jh,FL,List.drop_append,hd,hs,←List.length_append,List.take_left' rfl]
 simp[eB]
theorem ahl(b zs:List UInt8)(N:Nat)(hN:N< 9223372036854775808)(hz:zs.length≤8)(hb:b.length≤12800)(c:Nat):
  Ev E (aq+KD) [.an [.av 0 b.length zs.length c,.v (.int .i64 N)],.an [.agg ((b++zs).flatMap eB),.undef]]
   (.an [.an [],.an [.agg ((b++leB N zs.length).flatMap eB),.undef]]):=by
 refine Fu (fn:=ze) rfl rfl rfl rfl (by simp) ?_
 simp[-List.length_flatMap,-List.flatMap_append,ze]
 rw[mN]
 refine m_loop zs.length (fun j σ=>∃x y,σ=⟨[],[.av 0 b.length zs.length c,.v (.int .i64 N),x,.v (.int .i64 zs.length),.v (.int .i64 j),y],[some ((b++leB N j++zs.drop j).flatMap eB),none]⟩) ⟨_,_,by rw[leB,List.append_nil,List.drop_zero];rfl⟩ ?_
 rintro j σ hj ⟨x,y,rfl⟩
 by_cases hlt:j< zs.length
 ·have pP:=iG N j
  have hd:zs.drop j=zs[j]::zs.drop (j+1):=List.drop_eq_getElem_cons hlt
  have rf:=Rf b (leB N j) zs[j] (UInt8.ofNat (N / 2^(8*j)%256)) (zs.drop (j+1))
  rw[←hd,←P4,pP]at rf
  have w4:IntKind.i64.wrap ((j:Int)+1)=((j+1:Nat):Int):=by rw[←Int.natCast_succ];exact au (by omega)
  have hm:IntKind.i64.wrap (8*(j:Int))=((8*j:Nat):Int):=by rw[show(8:Int)*j=((8*j:Nat):Int) by omega];exact au (by omega)
  have GP:=RA 3 (kd:= .i64) (a:=N) (n:=8*j) (by omega)
  have oO:[T.v (Value.int IntKind.u8 (IntKind.u8.wrap ((N / 2^(8*j):Nat):Int)))]=eB (UInt8.ofNat (N / 2^(8*j)%256)):=by
   have e:(UInt8.ofNat (N / 2^(8*j)%256)).toNat=N / 2^(8*j)%256:=by rw[UInt8.toNat_ofNat'];omega
   rw[eB,e,IntKind.wrap_u8];rfl
  have hlen:b.length+j+1≤((b++leB N j++zs.drop j).flatMap eB).length:=by rw[bV];simp[pP];omega
  rw[←oO]at rf
  clear oO
  generalize ((b++leB N j++zs.drop j).flatMap eB)=cs at*
  generalize N / 2^(8*j)=q at*
  simp[-List.length_flatMap,-List.flatMap_append,-Int.natCast_add,-Int.natCast_mul,hlt,hm,GP,w4,hlen,rf,aj]
 ·have:j=zs.length:=by omega
  subst this
  simp[-List.length_flatMap,-List.flatMap_append]
  simp[-List.length_flatMap,-List.flatMap_append,fJ,nT,tJ,vr,fb,me,fw,List.range,List.range.loop,List.idxOf?,Hw,Hx,mN,aj]
theorem aac(l:List UInt8)(hl:l.length≤12800):Ev E (aq+oY) [.an [sl eB l],.an []] (.an [.av 0 0 l.length l.length,.an [.agg (l.flatMap eB),.undef]]):=by
 have hsp:l≠[]→splits [sl eB l]=[[sl eB l]]:=by
  intro h
  obtain⟨n,hn⟩:∃n,l.length=n+1:=⟨l.length-1,by have:=List.length_pos_iff.2 h;omega⟩
  simp[sl,splits,hn]
 refine UA (fn:=lH) rfl rfl rfl ?_ ?_ ?_
 ·by_cases h0:l=[]
  ·subst h0;exact .inr (by decide)
  ·rw[hsp h0];exact .inl (Nat.le_refl _)
 ·by_cases h0:l=[]
  ·subst h0;simp[sl,splits]
  ·rw[hsp h0];simp
 intro aa has
 by_cases h0:l=[]
 ·subst h0
  simp[sl,splits]at has
  rcases has with rfl|rfl
  ·exact⟨5,by kernel_rfl⟩
  ·exact⟨5,by kernel_rfl⟩
 ·obtain⟨n,hn⟩:∃n,l.length=n+1:=⟨l.length-1,by have:=List.length_pos_iff.2 h0;omega⟩
  have hr:n+1≤room:=by unfold room;omega
  simp[sl,splits,hn]at has
  subst has
  refine abF rfl rfl ?_
  simp[lH,-List.length_flatMap]
  refine Xx _ _ _ _ _ _ _ _ _ _ _ ?_
  simp[hn,hr,-List.length_flatMap,bV]
  simp[gh,AD,fJ,nT,tJ,vr,fb,me,fw,List.range,List.range.loop,List.idxOf?,-List.length_flatMap,Hw,Hx,mN,aj]
end Go.Vi.Sz
end
section
set_option maxRecDepth 100000
namespace Go.Vi.Sz
open Go Go.Vi Go.Vi.Zz
section
variable{E:Env}{k:List Fr}{Q:Out→Prop}{outs:List (Option Nat)}{rest:nC}(rs vars:List T)(bx:List (Option (List T)))
theorem Fw(d e sz:Nat)(a:ag)(s n c:Nat)(h:a.get ⟨rs,vars,bx⟩= .av s 0 n c)(hc:0< n∧c=n*sz∨n=0∧(c=0∨c=1+sz))(hl:n*sz≤((aj bx s).getD []).length)(b7:bn (((aj bx s).getD []).take (n*sz))=true):
  O E ((none,.thaw d e sz a)::rest) outs k ⟨rs,vars,bx⟩ Q=P1 E (some (.sl (.own (8*d) e) n (((aj bx s).getD []).take (n*sz)),(St.drop s ⟨rs,vars,bx⟩).strip (2*d))) rest outs k Q:=by
 have hr:ae C0 ⟨rs,vars,bx⟩ (.thaw d e sz a)=some (.sl (.own (8*d) e) n (((aj bx s).getD []).take (n*sz)),(St.drop s ⟨rs,vars,bx⟩).strip (2*d)):=by
  simp only[ae,h]
  rw[if_pos ⟨trivial,hc,hl,b7⟩]
 rw[bH rfl,hr]
theorem lf(s e sz bytes:Nat)(zero:List T)(kind:Nat)(a b:ag)(s' n c m:Nat)(ys:List T)(old:Option (List T))(ha:a.get ⟨rs,vars,bx⟩= .av s' 0 n c)(hs:iH bx kind sz zero (b.get ⟨rs,vars,bx⟩)=some (m,ys))(ho:bx[s]? =some old)
  (h:(s=s'∨old.isNone=true)∧s%2=0∧(0< n∧c=n*sz∨n=0∧(c=0∨c=1+sz))∧n*sz≤((aj bx s').getD []).length∧ys.length=m*sz∧(n+m)*bytes≤room∧n+m≤room∧dE (b.get ⟨rs,vars,bx⟩) ys=true):
  O E ((none,.appendB s e sz bytes zero kind a b)::rest) outs k ⟨rs,vars,bx⟩ Q=P1 E (some (.av s 0 (n+m) (if n+m=0 then c else(n+m)*sz),{St.drop s' ⟨rs,vars,bx⟩with boxes:=(St.drop s' ⟨rs,vars,bx⟩).boxes.set s (some (ai (fun x=>if x=s' then none else some x) some (((aj bx s').getD []).take (n*sz))++ys))})) rest outs k Q:=by
 have hr:ae C0 ⟨rs,vars,bx⟩ (.appendB s e sz bytes zero kind a b)=some (.av s 0 (n+m) (if n+m=0 then c else(n+m)*sz),{St.drop s' ⟨rs,vars,bx⟩with boxes:=(St.drop s' ⟨rs,vars,bx⟩).boxes.set s (some (ai (fun x=>if x=s' then none else some x) some (((aj bx s').getD []).take (n*sz))++ys))}):=by
  simp only[ae,ha,hs,ho]
  rw[if_pos ⟨trivial,h⟩]
 rw[bH rfl,hr]
end
theorem tE(d)(l:List UInt8):stripL d (l.flatMap eB)=l.flatMap eB:=by
 induction l with
 |nil=>simp
 |cons x l ih=>simp[eB,ih]
@[simp] theorem alS(l:List UInt8):(sl eB l).fx=sl eB l:=by simp[T.fx,sl]
def ka(l:List UInt8):T:= .sl (.own 0 5) l.length (l.flatMap eB)
theorem Jl(b:List UInt8)(hl:b.length≤12800)(n size:Int)(hn:n< 9223372036854775808):Ev E jM [sl eB b,.v (.int .i64 n),.v (.int .i64 size)] (ka (y4 b n size)):=by
 refine aC (fn:=vP) rfl (by decide) rfl rfl rfl ?_
 have hc:=af (ab6 n size)
 have b7:=af (aac b hl)
 have tj:(0< b.length∧b.length=b.length*1∨b.length=0∧(b.length=0∨b.length=1+1)):=by omega
 unfold y4
 cases h:gO n size
 ·rw[if_neg (by decide)]
  simp[-List.length_flatMap,vP]
  rw[bH rfl]
  simp[-List.length_flatMap,ae]
  refine zC _ _ _ ?_
  rw[xE (r:= .av 0 0 b.length b.length) (os:=[.agg (b.flatMap eB),.undef]) (by simp) (by simpa using b7) (by simp[-List.length_flatMap,dF])]
  simp[-List.length_flatMap,hc,h,mN,tE,dw,ey]
  have hlen:b.length*1≤((aj [some (b.flatMap eB),none,none,none,none,none] 0).getD []).length:=by simp[-List.length_flatMap,aj,bV]
  have fS:((aj [some (b.flatMap eB),none,none,none,none,none] 0).getD []).take (b.length*1)=b.flatMap eB:=List.take_of_length_le (by simp[-List.length_flatMap,aj,bV])
  rw[Fw _ _ _ _ _ _ _ 0 b.length b.length rfl tj hlen (by rw[fS,kV]),fS]
  simp[-List.length_flatMap,St.drop,List.idxOf?,ka]
 ·rw[if_pos rfl]
  simp only[gO,Bool.and_eq_true,decide_eq_true_eq]at h
  obtain⟨⟨hw,h0⟩,h1⟩:=h
  have hs:=y3 hw
  obtain⟨N,rfl⟩:∃N:Nat,n=N:=⟨n.toNat,by omega⟩
  obtain⟨S,rfl⟩:∃S:Nat,size=S:=⟨size.toNat,by omega⟩
  have hR:gO N S=true:=by simp only[gO,Bool.and_eq_true,decide_eq_true_eq];exact⟨⟨hw,h0⟩,h1⟩
  rw[Int.toNat_natCast,Int.toNat_natCast]
  simp[-List.length_flatMap,vP]
  rw[bH rfl]
  simp[-List.length_flatMap,ae]
  refine zC _ _ _ ?_
  rw[xE (r:= .av 0 0 b.length b.length) (os:=[.agg (b.flatMap eB),.undef]) (by simp) (by simpa using b7) (by simp[-List.length_flatMap,dF])]
  simp[-List.length_flatMap,hc,hR,mN,tE,dw,ey]
  have hlen:b.length*1≤((aj [some (b.flatMap eB),none,none,none,none,none] 0).getD []).length:=by simp[-List.length_flatMap,aj,bV]
  have fS:((aj [some (b.flatMap eB),none,none,none,none,none] 0).getD []).take (b.length*1)=b.flatMap eB:=List.take_of_length_le (by simp[-List.length_flatMap,aj,bV])
  have cj:(List.replicate S [T.v (Value.int IntKind.u8 0)]).flatten=(List.replicate S (0:UInt8)).flatMap eB:=by
   clear b7 hc hR h1 hs hw h0 hlen fS tj
   induction S with
   |zero=>rfl
   |succ S ih=>rw[List.replicate_succ,List.flatten_cons,ih,List.replicate_succ];rfl
  have cI:iH [some (b.flatMap eB),none,none,none,none,none] 2 1 [T.v (Value.int IntKind.u8 0)] (.v (.int .i64 (S:Int)))=some (S,(List.replicate S (0:UInt8)).flatMap eB):=by
   rw[←cj]
   simp[iH,asNat]
  rw[lf _ _ _ _ _ _ _ _ _ _ _ 0 b.length b.length S _ none rfl cI rfl ⟨.inr rfl,rfl,tj,hlen,by rw[bV];simp,by unfold room;omega,by unfold room;omega,by simp[dE]⟩,fS]
  have hne:¬(b.length+S=0):=by omega
  have Da:¬(S=0):=by omega
  have ab8:=af (ahl b (List.replicate S 0) N (by omega) (by simp;omega) hl S)
  rw[List.length_replicate]at ab8
  simp[-List.length_flatMap,-List.flatMap_append,St.drop,mN,Da]
  rw[←List.flatMap_append]
  generalize hz:b++List.replicate S (0:UInt8)=z at ab8⊢
  refine Cf _ _ _ ?_
  rw[wo (ss:=[2]) (fs:=[]) (r:= .an []) (os:=[.agg ((b++leB N S).flatMap eB),.undef]) (by simp[-List.length_flatMap,-List.flatMap_append,aj,Hw]) (by simp[-List.length_flatMap,-List.flatMap_append,aj,Hx]) rfl rfl (by simpa [-List.length_flatMap,-List.flatMap_append,iL,fw,List.idxOf?,List.range,List.range.loop,aj,mN]using ab8) (by simp[-List.length_flatMap,-List.flatMap_append,dF,aj])]
  simp[-List.length_flatMap,-List.flatMap_append,dw,ey,iL,fw,iR,List.idxOf?,mN]
  have hL:(b++leB N S).length=b.length+S:=by simp[iG]
  generalize b++leB N S=L at hL⊢
  have MB:(b.length+S)*1≤((aj [none,none,some (L.flatMap eB),none,none,none] 2).getD []).length:=by simp[-List.length_flatMap,aj,bV,hL]
  have ahm:((aj [none,none,some (L.flatMap eB),none,none,none] 2).getD []).take ((b.length+S)*1)=L.flatMap eB:=List.take_of_length_le (by simp[-List.length_flatMap,aj,bV,hL])
  rw[Fw _ _ _ _ _ _ _ 2 (b.length+S) (b.length+S) rfl (.inl ⟨by omega,by omega⟩) MB (by rw[ahm,kV]),ahm]
  simp[-List.length_flatMap,St.drop,List.idxOf?,ka,hL]
end Go.Vi.Sz
end
section
set_option maxRecDepth 100000
namespace Go.Vi.Sz
open Go Go.Vi Go.Vi.Zz
def dh(l:List UInt8):List UInt8:=l++List.replicate (60-l.length) 0
theorem P5{l:List UInt8}(h:l.length≤60):(dh l).length=60:=by simp[dh];omega
def gE(l:List UInt8):List UInt8:=dh l++leB (rr (dh l)) 4
theorem Ky(l:List UInt8):rr l< 4294967296:=by
 have:=BE l
 unfold rr
 omega
theorem aad(l:List UInt8):gO (rr l) 4=true:=by
 have:=Ky l
 simp only[gO,Bool.and_eq_true,decide_eq_true_eq]
 refine⟨⟨rfl,by omega⟩, ?_⟩
 rw[show 2^(8*(4:Int).toNat)=4294967296 from rfl]
 omega
theorem P6(l:List UInt8):y4 l (rr l) 4=l++leB (rr l) 4:=by
 unfold y4
 rw[if_pos (aad l)]
 rfl
theorem Tg(l:List UInt8)(hl:l.length≤60):Ev E iV [sl eB l] (ka (gE l)):=by
 refine aC (fn:=qG) rfl (by decide) rfl rfl rfl ?_
 have hp:=P5 hl
 have hof:=af (akf (dh l) (by omega))
 have ed:=af (Jl (dh l) (by omega) (rr (dh l)) 4 (by have:=Ky (dh l);omega))
 rw[P6]at ed
 have hm:min l.length 60=l.length:=by omega
 have DN:(l.flatMap eB).take l.length++(List.replicate 60 (T.v (.int .u8 0))).drop l.length=(dh l).flatMap eB:=by
  rw[List.take_of_length_le (by rw[bV];omega),List.drop_replicate,dh,List.flatMap_append]
  congr 1
  generalize 60-l.length=n
  induction n with
  |zero=>rfl
  |succ n ih=>rw[List.replicate_succ,ih,List.replicate_succ];rfl
 have h60:l.length+(60-l.length)=60:=by omega
 simp only[List.reduceReplicate]at DN
 simp[-List.length_flatMap,qG]
 rw[bH rfl]
 simp[-List.length_flatMap,ae,sl,bV,hm,h60]
 rw[DN]
 have fG:((dh l).flatMap eB).length=60:=by rw[bV,hp]
 have fS:((dh l).flatMap eB).take 60=(dh l).flatMap eB:=List.take_of_length_le (by omega)
 simp only[sl,hp]at hof ed
 have fY:(dh l++leB (rr (dh l)) 4).length=64:=by simp[hp,iG]
 simp only[ka,gE,fY]at ed⊢
 generalize dh l++leB (rr (dh l)) 4=L at*
 simp[-List.length_flatMap,fS,Ao,tE,hof,ed,List.idxOf?,T.fresh]
 exact⟨rfl,Z3 L⟩
end Go.Vi.Sz
end
section
set_option maxRecDepth 100000
namespace Go.Vi.Sz
open Go Go.Vi Go.Vi.Zz
def adi(l:List UInt8)(j:Nat)(σ:St):Prop:=∃a b c k,(k=160∨k=184)∧σ=⟨[],[sl eB l,a,p8 k ((dh l).take j),.v (.int .i64 j),b,c],[]⟩
theorem P7(l:List UInt8)(hl:l.length≤60):Ev E bP [sl eB l] (ka (gE l)):=by
 refine aC (fn:=jR) rfl (by decide) rfl rfl rfl ?_
 have hp:=P5 hl
 have hof:=af (ahk (dh l) (by omega))
 have Db:dh l≠[]:=by intro h;rw[h]at hp;simp at hp
 have ed:=af (aeI (dh l) Db (by omega) (rr (dh l)) 4 (by have:=Ky (dh l);omega))
 rw[P6]at ed
 simp[-List.length_flatMap,jR]
 refine m_loop 60 (adi l) ⟨_,_,_,160,.inl rfl,rfl⟩ ?_
 rintro j σ hj ⟨a,b,c,k,hk,rfl⟩
 by_cases hlt:j< 60
 ·have hjp:j< (dh l).length:=by omega
  have nG:(dh l).take (j+1)=(dh l).take j++[(dh l)[j]]:=by rw[List.take_succ_eq_append_getElem hjp]
  have pP:((dh l).take j).length=j:=by simp;omega
  have w4:IntKind.i64.wrap ((j:Int)+1)=((j+1:Nat):Int):=by rw[←Int.natCast_succ];exact au (by omega)
  obtain⟨gq,eu⟩:j+1≤room∧1≤room:=by unfold room;omega
  have bd:(j:Int)< 60:=by omega
  have aI:∀(k:Nat) (a b c:T) (n:Nat) (cs:List T),(k=160∨k=184)→n=j+1→cs=((dh l).take j).flatMap eB++eB (dh l)[j]→adi l (j+1) ⟨[],[sl eB l,a,.sl (.own k 5) n cs,.v (.int .i64 ((j+1:Nat):Int)),b,c],[]⟩:=by
   rintro k a b c n cs hk rfl rfl
   refine⟨a,b,c,k,hk, ?_⟩
   rw[p9 k (by simp[Db]),nG,List.flatMap_append,List.length_append,pP]
   simp
  by_cases kD:j< l.length
  ·have hg:(dh l)[j]=l[j]:=by simp[dh,kD]
   rw[hg]at aI
   rcases Nat.eq_zero_or_pos j with la|la
   ·have C3:p8 k ((dh l).take j)= .sl .clip 0 []:=by subst la;rfl
    have h0:(dh l).take j=[]:=by subst la;rfl
    have h1:1=j+1:=by omega
    rw[C3]
    simp[-List.length_flatMap,-Int.natCast_add,bd,kD,w4,eu,hit]
    exact⟨hlt,aI 160 _ _ _ _ _ (.inl rfl) h1 (by rw[h0];rfl)⟩
   ·have fY:p8 k ((dh l).take j)= .sl (.own k 5) j (((dh l).take j).flatMap eB):=by rw[p9 _ (by intro hh;rw[hh]at pP;simp at pP;omega),pP]
    rw[fY]
    generalize (dh l).take j=P at*
    rcases hk with rfl|rfl<;>simp[-List.length_flatMap,-Int.natCast_add,bd,kD,w4,gq,hit,bV,pP]
    all_goals exact⟨hlt,aI 160 _ _ _ _ _ (.inl rfl) rfl rfl⟩
  ·have hg:(dh l)[j]=0:=by simp[dh,List.getElem_append_right (by omega:l.length≤j)]
   rw[hg]at aI
   rcases Nat.eq_zero_or_pos j with la|la
   ·have C3:p8 k ((dh l).take j)= .sl .clip 0 []:=by subst la;rfl
    have h0:(dh l).take j=[]:=by subst la;rfl
    have h1:1=j+1:=by omega
    rw[C3]
    simp[-List.length_flatMap,-Int.natCast_add,bd,kD,w4,eu,hit]
    exact⟨hlt,aI 184 _ _ _ _ _ (.inr rfl) h1 (by rw[h0];rfl)⟩
   ·have fY:p8 k ((dh l).take j)= .sl (.own k 5) j (((dh l).take j).flatMap eB):=by rw[p9 _ (by intro hh;rw[hh]at pP;simp at pP;omega),pP]
    rw[fY]
    generalize (dh l).take j=P at*
    rcases hk with rfl|rfl<;>simp[-List.length_flatMap,-Int.natCast_add,bd,kD,w4,gq,hit,bV,pP]
    all_goals exact⟨hlt,aI 184 _ _ _ _ _ (.inr rfl) rfl rfl⟩
 ·have:j=60:=by omega
  subst this
  have fY:p8 k ((dh l).take 60)= .sl (.own k 5) 60 ((dh l).flatMap eB):=by rw[List.take_of_length_le (by omega),p9 _ Db,hp]
  rw[fY]
  have fY:(dh l++leB (rr (dh l)) 4).length=64:=by simp[hp,iG]
  rw[p9 0 (by simp[Db]),fY]at ed
  simp only[sl,hp]at hof ed
  simp only[ka,gE,fY]
  generalize dh l++leB (rr (dh l)) 4=L at*
  rcases hk with rfl|rfl<;>simp[-List.length_flatMap,hof,ed,hit,List.idxOf?]
end Go.Vi.Sz
end
section
set_option maxRecDepth 100000
namespace Go.Vi.Sz
open Go Go.Vi Go.Vi.Zz
structure aO where
 kind:Int
 impure:Int
 nlink:Int
 gen:Int
 size:Int
 p0:Int
 p1:Int
 p2:Int
 p3:Int
 attr:Int
deriving DecidableEq
def i64(n:Int):T:= .v (.int .i64 n)
def eI(x:aO):List T:=[.v (.int .i64 x.kind),.v (.int .i64 x.impure),.v (.int .i64 x.nlink),.v (.int .i64 x.gen),.v (.int .i64 x.size),.v (.int .i64 x.p0),.v (.int .i64 x.p1),.v (.int .i64 x.p2),.v (.int .i64 x.p3),.v (.int .i64 x.attr)]
def wD(n s m:Int):List T:=[.v (.int .i64 n),.v (.int .i64 s),.v (.int .i64 m)]
def gM(x:aO):List (Int×Int×Int):=[(x.kind,1,4),(x.impure,1,255),(x.nlink,2,65535),(x.gen,4,268435455),(x.size,2,256),(x.p0,2,65535),(x.p1,2,65535),(x.p2,2,65535),(x.p3,2,65535),(x.attr,2,65535)]
def eT(t:Int×Int×Int):List T:=wD t.1 t.2.1 t.2.2
theorem Cz(x:aO):Ev E mj [.agg (eI x)] (.agg ((gM x).flatMap eT)):=by
 refine aC (fn:=pg) rfl (by decide) rfl rfl rfl ?_
 simp[pg,eI,gM,eT,wD]
def bQ(n top:Int):Bool:=decide (0≤n)&&decide (n≤top)
theorem ab9(n top:Int):Ev E gR [.v (.int .i64 n),.v (.int .i64 top)] (.v (.bool (bQ n top))):=by
 refine aC (fn:=sD) rfl (by decide) rfl rfl rfl ?_
 unfold bQ
 simp[sD]
 repeat' (refine j9 (fun h=> ?_) (fun h=> ?_)<;>simp[*])
def OL(x:aO):Bool:=if x.kind=1 then !(x.size==0)else if x.kind=4 then !(x.size==0)|| !(x.p0==0&&x.p1==0&&x.p2==0&&x.p3==0)else x.kind==0
theorem ahn(x:aO):Ev E zY [.agg (eI x)] (.v (.bool (OL x))):=by
 refine aC (fn:=oR) rfl (by decide) rfl rfl rfl ?_
 unfold OL
 by_cases h1:x.kind=1
 ·simp[oR,eI,h1]
  rfl
 ·by_cases h4:x.kind=4
  ·simp[oR,eI,h4]
   by_cases h5:x.size=0
   ·have c5:(x.size !=0)=false:=by simp[h5]
    have b5:(x.size==0)=true:=by simp[h5]
    simp[b5,c5,Bool.or_assoc]
   ·have c5:(x.size !=0)=true:=by simp[h5]
    have b5:(x.size==0)=false:=by simp[h5]
    simp[b5,c5]
  ·have b1:(x.kind==1)=false:=by simpa using h1
   have b4:(x.kind==4)=false:=by simpa using h4
   simp[oR,eI,h1,h4,b1,b4]
end Go.Vi.Sz
end
section
set_option maxRecDepth 100000
namespace Go.Vi.Sz
open Go Go.Vi Go.Vi.Zz
def vn(len sz:Nat)(isAgg:Bool)(a i:T):Option T:=match a,asNat i with
 | .agg cs,some i=>if i< len then one? isAgg sz cs (i*sz)else none
 |_,_=>none
theorem Jm(σ:St)(len sz isAgg a i):ae C0 σ (.indexA len sz isAgg a i)=(vn len sz isAgg (a.get σ) (i.get σ)).map (·,σ):=by
 simp only[ae,vn]
 generalize ag.get σ a=t
 generalize asNat (ag.get σ i)=n
 cases t<;>cases n<;>try rfl
 rename_i cs n
 show(if n< len then Option.map (fun x=>(x,σ)) (one? isAgg sz cs (n*sz))else none)=Option.map (fun x=>(x,σ)) (if n< len then one? isAgg sz cs (n*sz)else none)
 by_cases h:n< len
 ·rw[if_pos h,if_pos h]
 ·rw[if_neg h,if_neg h];rfl
@[simp] theorem akh(σ:St)(len sz isAgg a i):gL σ (.indexA len sz isAgg a i)=pT (vn len sz isAgg (a.get σ) (i.get σ)):=jv (Jm ..)
@[simp] theorem aki(σ:St)(len sz isAgg a i):iO σ (.indexA len sz isAgg a i)=((vn len sz isAgg (a.get σ) (i.get σ)).isSome=true):=jw (Jm ..)
@[simp] theorem aid(len sz isAgg cs kd)(j:Nat):vn len sz isAgg (.agg cs) (.v (.int kd (j:Int)))=if j< len then one? isAgg sz cs (j*sz)else none:=by
 have:asNat (.v (.int kd (j:Int)))=some j:=by simp[asNat]
 simp only[vn,this]
def EF(t:Int×Int×Int):Bool:=decide (0≤t.1)&&decide (t.1≤t.2.2)
def cx:aO:=⟨0,0,0,0,0,0,0,0,0,0⟩
def kI(x:aO):Bool:=if x=cx then true else(gM x).all EF&& !OL x
@[simp] theorem aho(t:Int×Int×Int):(eT t).length=3:=rfl
@[simp] theorem aor(x:aO):(gM x).length=10:=rfl
def RI(x:aO)(N:List (Int×Int×Int))(j:Nat)(σ:St):Prop:=(N.take j).all EF=true∧∃a b c d e f o,(o=none∨∃t,o=some (eT t))∧σ=⟨[],[a,.ref 0 0,b,c,d,.agg (N.flatMap eT),.v (.int .i64 j),e,f],[some (eI x),none,o,none]⟩
@[simp] theorem yU(g:aO):(eI g).length=10:=rfl
@[simp] theorem alT(g:aO):bn (eI g)=true:=rfl
@[simp] theorem aos(d:Nat)(g:aO):stripL d (eI g)=eI g:=by simp[eI]
@[simp] theorem aot(bx k)(g:aO):(eI g).mapM (close bx (k+1))=some (eI g):=by simp[eI]
@[simp] theorem P8(s)(g:aO):aR s (eI g)=true:=by simp[eI]
@[simp] theorem alU(g:aO):bc (eI g)=false:=by simp[eI]
@[simp] theorem apR(g:aO):rk (eI g)=true:=rfl
@[simp] theorem apS(g:aO):one? true 10 (eI g) 0=some (.agg (eI g)):=rfl
@[simp] theorem aps(g:aO):jk (eI g)=eI g:=by simp[eI]
@[simp] theorem apt(g:aO):gQ (eI g)=[]:=by simp[eI]
@[simp] theorem aou(ρ η)(g:aO):ai ρ η (eI g)=eI g:=by simp[eI]
@[simp] theorem alV(d)(g:aO):dD d (eI g)=eI g:=by simp[eI]
theorem Kz(x:aO)(h:x≠cx):cd [.int,.int,.int,.int,.int,.int,.int,.int,.int,.int] (eI x) (List.replicate 10 (.v (.int .i64 0)))=some false:=by
 have e:cd [.int,.int,.int,.int,.int,.int,.int,.int,.int,.int] (eI x) (List.replicate 10 (.v (.int .i64 0)))=some (x.kind==0&&(x.impure==0&&(x.nlink==0&&(x.gen==0&&(x.size==0&&(x.p0==0&&(x.p1==0&&(x.p2==0&&(x.p3==0&&(x.attr==0&&true)))))))))):=by
  simp[eI,List.replicate]
 rw[e,Option.some.injEq,Bool.eq_false_iff]
 intro hh
 simp only[Bool.and_eq_true,beq_iff_eq]at hh
 obtain⟨h1,h2,h3,h4,h5,h6,h7,h8,h9,RH,_⟩:=hh
 refine h ?_
 cases x
 simp only at h1 h2 h3 h4 h5 h6 h7 h8 h9 RH
 subst h1 h2 h3 h4 h5 h6 h7 h8 h9 RH
 rfl
theorem L8(d)(l:List (Int×Int×Int)):stripL d (l.flatMap eT)=l.flatMap eT:=by
 induction l with
 |nil=>simp
 |cons x l ih=>simp[eT,wD,ih]
theorem nR(k)(l:List (Int×Int×Int)):aR k (l.flatMap eT)=true:=by
 induction l with
 |nil=>simp
 |cons x l ih=>simp[eT,wD,ih]
theorem CA(d)(l:List (Int×Int×Int)):dD d (l.flatMap eT)=l.flatMap eT:=by
 induction l with
 |nil=>simp
 |cons x l ih=>simp[eT,wD,ih]
theorem P9(l:List (Int×Int×Int))(k:Nat)(hk:k< l.length):one? true 3 (l.flatMap eT) (k*3)=some (.agg (eT l[k])):=pS aho l k hk
theorem aae(x:aO):Ev E wM [.agg (eI x)] (.v (.bool (kI x))):=by
 refine aC (fn:=oE) rfl (by decide) rfl rfl rfl ?_
 have hn:=af (Cz x)
 have ho:=af (ahn x)
 unfold kI
 by_cases hz:x=cx
 ·subst hz
  simp[oE,eI,cx]
 ·rw[if_neg hz]
  have he:=Kz x hz
  simp only[List.reduceReplicate]at he
  generalize hN:gM x=N at hn
  have y5:N.length=10:=by rw[←hN];rfl
  simp[-List.length_flatMap,oE,he,hn,T.fresh,T.fresh2,CA]
  refine m_loop 10 (RI x N) ⟨rfl,_,_,_,_,_,_,_,.inl rfl,rfl⟩ ?_
  rintro j σ hj ⟨EL,a,b,c,d,e,f,o,A5,rfl⟩
  by_cases hlt:j< 10
  ·have bd:(j:Int)< 10:=by omega
   have Qa:j< N.length:=by omega
   have bq:=P9 N j Qa
   have hst:N.take (j+1)=N.take j++[N[j]]:=by rw[List.take_succ_eq_append_getElem Qa]
   have w4:IntKind.i64.wrap ((j:Int)+1)=((j+1:Nat):Int):=by rw[←Int.natCast_succ];exact au (by omega)
   obtain⟨⟨n,s,m⟩,hT⟩:∃t,N[j]=t:=⟨_,rfl⟩
   rw[hT]at bq hst
   have aI:0≤n∧n≤m→∀a b c d e f,RI x N (j+1) ⟨[],[a,.ref 0 0,b,c,d,.agg (N.flatMap eT),.v (.int .i64 ((j+1:Nat):Int)),e,f],[some (eI x),none,some (eT (n,s,m)),none]⟩:=by
    rintro⟨g1,g2⟩ a b c d e f
    refine⟨?_,a,b,c,d,e,f,_,.inr ⟨_,rfl⟩,rfl⟩
    rw[hst,List.all_append,EL]
    simp[EF,g1,g2]
   have kp:(n,s,m)∈N:=by rw[←hT];exact List.getElem_mem Qa
   have o5:¬(0≤n∧n≤m)→N.all EF=false:=by
    intro hb
    rw[List.all_eq_false]
    refine⟨_,kp, ?_⟩
    simp only[EF,Bool.and_eq_true,decide_eq_true_eq]
    exact hb
   simp only[eT,wD]at aI bq
   by_cases g1:n< 0
   ·have hb:=o5 (by omega)
    rcases A5 with rfl|⟨t,rfl⟩<;>simp[-List.length_flatMap,-Int.natCast_add,bd,hlt,bq,nR,eT,wD,g1,hb]
   ·by_cases g2:m< n
    ·have hb:=o5 (by omega)
     rcases A5 with rfl|⟨t,rfl⟩<;>simp[-List.length_flatMap,-Int.natCast_add,bd,hlt,bq,nR,eT,wD,g1,g2,hb]
    ·have hf:=aI ⟨by omega,by omega⟩
     rcases A5 with rfl|⟨t,rfl⟩<;>simp[-List.length_flatMap,-Int.natCast_add,bd,hlt,bq,nR,eT,wD,g1,g2,w4,hf]
  ·have:j=10:=by omega
   subst this
   have gZ:N.all EF=true:=by rw[←List.take_of_length_le (by omega:N.length≤10)];exact EL
   rcases A5 with rfl|⟨t,rfl⟩<;>simp[-List.length_flatMap,ho,gZ,T.fresh,T.fresh2,nR,eT,wD]
end Go.Vi.Sz
end
section
set_option maxRecDepth 100000
namespace Go.Vi.Sz
open Go Go.Vi Go.Vi.Zz
def s8(x:aO):List Int:=[x.p0,x.p1,x.p2,x.p3]
def xN(x:aO)(p:Int):Bool:=bQ p 65535&&(!(x.kind==4)||p==0)
theorem zJ(x:aO)(h:x≠cx):kI x=(decide (1≤x.kind)&&decide (x.kind≤4)&&bQ x.impure 255&&bQ x.nlink 65535&&bQ x.attr 65535&&bQ x.gen 268435455&&bQ x.size 256&&(!(x.kind==1||x.kind==4)||x.size==0)&&(s8 x).all (xN x)):=by
 unfold kI
 rw[if_neg h]
 rw[Bool.eq_iff_iff]
 simp[gM,EF,OL,s8,xN,bQ]
 by_cases h1:x.kind=1
 ·simp[h1];omega
 ·by_cases h4:x.kind=4
  ·simp[h4];omega
  ·simp[h1,h4];omega
def RJ(x:aO)(j:Nat)(σ:St):Prop:=((s8 x).take j).all (xN x)=true∧∃a b c d e f g,σ=⟨[],[a,.ref 0 0,b,.v (.int .i64 j),c,d,e,f,g],[some (eI x),none]⟩
theorem aeJ(x:aO)(j:Nat)(h:j< 4):cr (eI x) (5+j)=some (.v (.int .i64 ((s8 x)[j]'(by simpa [s8]using h)))):=by
 match j,h with
 |0,_=>rfl
 |1,_=>rfl
 |2,_=>rfl
 |3,_=>rfl
theorem Qb(x:aO):Ev E so [.agg (eI x)] (.v (.bool (kI x))):=by
 refine aC (fn:=dv) rfl (by decide) rfl rfl rfl ?_
 have hc:∀n top,dC E gR [.v (.int .i64 n),.v (.int .i64 top)]=some (.v (.bool (bQ n top))):=fun n top=>af (ab9 n top)
 by_cases hz:x=cx
 ·subst hz
  simp[dv,eI,cx,kI]
 ·rw[zJ x hz]
  have he:=Kz x hz
  simp only[List.reduceReplicate]at he
  have hk:cr (eI x) 0=some (.v (.int .i64 x.kind)):=rfl
  have k1:cr (eI x) 1=some (.v (.int .i64 x.impure)):=rfl
  have k2:cr (eI x) 2=some (.v (.int .i64 x.nlink)):=rfl
  have k3:cr (eI x) 3=some (.v (.int .i64 x.gen)):=rfl
  have k4:cr (eI x) 4=some (.v (.int .i64 x.size)):=rfl
  have k9:cr (eI x) 9=some (.v (.int .i64 x.attr)):=rfl
  by_cases c1:x.kind< 1
  ·have d1:¬1≤x.kind:=by omega
   simp[dv,he,hk,c1,d1]
  have d1:1≤x.kind:=by omega
  by_cases c2:4< x.kind
  ·have d2:¬x.kind≤4:=by omega
   simp[dv,he,hk,c1,d1,c2,d2]
  have d2:x.kind≤4:=by omega
  cases q1:bQ x.impure 255
  ·simp[dv,he,hk,k1,hc,c1,d1,c2,d2,q1]
  cases q2:bQ x.nlink 65535
  ·simp[dv,he,hk,k1,k2,hc,c1,d1,c2,d2,q1,q2]
  cases q3:bQ x.attr 65535
  ·simp[dv,he,hk,k1,k2,k9,hc,c1,d1,c2,d2,q1,q2,q3]
  cases q4:bQ x.gen 268435455
  ·simp[dv,he,hk,k1,k2,k9,k3,hc,c1,d1,c2,d2,q1,q2,q3,q4]
  cases q5:bQ x.size 256
  ·simp[dv,he,hk,k1,k2,k9,k3,k4,hc,c1,d1,c2,d2,q1,q2,q3,q4,q5]
  by_cases q6:(x.kind=1∨x.kind=4)∧x.size≠0
  ·obtain⟨h14,h0⟩:=q6
   have b0:(x.size==0)=false:=by simpa using h0
   have b0':(x.size !=0)=true:=by simpa using h0
   by_cases g1:x.kind=1
   ·simp[dv,he,hk,k1,k2,k9,k3,k4,hc,q1,q2,q3,q4,q5,g1,b0,b0']
   ·have g4:x.kind=4:=by omega
    simp[dv,he,hk,k1,k2,k9,k3,k4,hc,q1,q2,q3,q4,q5,g4,b0,b0']
  ·have hs:(!(x.kind==1||x.kind==4)||x.size==0)=true:=by
    rw[Bool.or_eq_true,Bool.not_eq_true',Bool.or_eq_false_iff,beq_eq_false_iff_ne,beq_eq_false_iff_ne,beq_iff_eq]
    omega
   rw[hs]
   have hsz:(x.kind==1)=true∨(x.kind==4)=true→(x.size !=0)=false:=by
    intro h
    simp only[beq_iff_eq]at h
    have:x.size=0:=by omega
    simp[this]
   cases b1:(x.kind==1)<;>cases b4:(x.kind==4)
   all_goals
    have b0:=hsz
    simp only[b1,b4,true_or,or_true,or_self,forall_const,Bool.false_eq_true,false_implies]at b0
    simp[dv,he,hk,k1,k2,k9,k3,k4,hc,c1,d1,c2,d2,q1,q2,q3,q4,q5,b1,b4,b0]
    refine m_loop 4 (RJ x) ⟨rfl,_,_,_,_,_,_,_,rfl⟩ ?_
    rintro j σ hj ⟨EL,a,b,c,d,e,f,g,rfl⟩
    by_cases hlt:j< 4
    ·have bd:(j:Int)< 4:=by omega
     have hjp:j< (s8 x).length:=hlt
     have hp:=aeJ x j hlt
     have hst:(s8 x).take (j+1)=(s8 x).take j++[(s8 x)[j]]:=by rw[List.take_succ_eq_append_getElem hjp]
     have kp:(s8 x)[j]∈s8 x:=List.getElem_mem hjp
     have w4:IntKind.i64.wrap ((j:Int)+1)=((j+1:Nat):Int):=by rw[←Int.natCast_succ];exact au (by omega)
     generalize (s8 x)[j]=p at*
     have zK:xN x p=true→∀a b c d e f g,RJ x (j+1) ⟨[],[a,.ref 0 0,b,.v (.int .i64 ((j+1:Nat):Int)),c,d,e,f,g],[some (eI x),none]⟩:=by
      intro g1 a b c d e f g
      refine⟨?_,a,b,c,d,e,f,g,rfl⟩
      rw[hst,List.all_append,EL]
      simp[g1]
     have o5:xN x p=false→(s8 x).all (xN x)=false:=by
      intro hb
      rw[List.all_eq_false]
      exact⟨_,kp,by simp[hb]⟩
     have yo:xN x p=(bQ p 65535&&(!(x.kind==4)||p==0)):=rfl
     rw[yo]at zK o5
     cases g1:bQ p 65535
     ·have hb:=o5 (by simp[g1])
      simp[-Int.natCast_add,bd,hlt,hp,hc,g1,hb]
     ·by_cases g2:p=0
      ·have m2:(p==0)=true:=by simpa using g2
       have m3:(p !=0)=false:=by simpa using g2
       have hf:=zK (by simp only[g1,m2,Bool.or_true,Bool.and_self])
       simp[-Int.natCast_add,bd,hlt,hp,hc,g1,m3,hf,w4,hk,b4]
      ·have n2:(p !=0)=true:=by simpa using g2
       have n3:(p==0)=false:=by simpa using g2
       rcases Bool.eq_false_or_eq_true (x.kind==4)with g4|g4
       ·have hb:=o5 (by simp only[g1,n3,g4,Bool.not_true,Bool.or_self,Bool.and_false])
        simp[-Int.natCast_add,bd,hlt,hp,hc,g1,n2,hb,hk,g4]
       ·have hf:=zK (by simp only[g1,n3,g4,Bool.not_false,Bool.or_false,Bool.and_self])
        simp[-Int.natCast_add,bd,hlt,hp,hc,g1,hf,w4,hk,g4]
    ·have:j=4:=by omega
     subst this
     have gZ:(s8 x).all (xN x)=true:=EL
     simp[gZ]
end Go.Vi.Sz
end
section
set_option maxRecDepth 100000
namespace Go.Vi.Sz
open Go Go.Vi Go.Vi.Zz
def fm(N:List (Int×Int×Int)):List UInt8:=N.flatMap fun t=>leB t.1.toNat t.2.1.toNat
def mV(x:aO):List UInt8:=if x=cx then List.replicate 64 0 else gE (fm (gM x))
def PJ(x:aO)(N:List (Int×Int×Int))(j:Nat)(σ:St):Prop:=∃a r b c d e f g o k,(o=none∨∃t,o=some (eT t))∧(k=if j=0 then T.sl .nil 0 []else .sl (.own 208 5) (fm (N.take j)).length ((fm (N.take j)).flatMap eB))∧
 σ=⟨[],[a,r,b,c,k,d,e,f,.agg (N.flatMap eT),.v (.int .i64 j),g],[some (eI x),none,o,none]⟩
theorem Vh{x:aO}(h:(gM x).all EF=true)(t:Int×Int×Int)(ht:t∈gM x):gO t.1 t.2.1=true∧t.1< 9223372036854775808:=by
 have h1:=List.all_eq_true.1 h t ht
 simp only[EF,Bool.and_eq_true,decide_eq_true_eq]at h1
 simp only[gM,List.mem_cons,List.not_mem_nil,or_false]at ht
 rcases ht with rfl|rfl|rfl|rfl|rfl|rfl|rfl|rfl|rfl|rfl
 all_goals
  simp only at h1
  refine⟨?_,by omega⟩
  simp only[gO,wid,Bool.and_eq_true,decide_eq_true_eq]
  refine⟨⟨rfl,h1.1⟩,Int.lt_of_le_of_lt h1.2 (by decide)⟩
theorem aeK(x:aO):Ev E fU [.agg (eI x)] (if kI x then .an [ka (mV x),.v (.int .i64 0)]else .an [.sl .nil 0 [],.v (.int .i64 1)]):=by
 refine aC (fn:=jD) rfl (by decide) rfl rfl rfl ?_
 have hr:=af (aae x)
 have hn:=af (Cz x)
 have hk:cr (eI x) 0=some (.v (.int .i64 x.kind)):=rfl
 cases h:kI x
 ·simp[jD,hr,h,T.fresh,T.fresh2]
 ·by_cases hz:x=cx
  ·subst hz
   have A6:(cx.kind==0)=true:=rfl
   simp[jD,hr,h,T.fresh,T.fresh2,hk,A6]
   rw[bH rfl]
   have fY:ka (mV cx)= .sl (.own 0 5) 64 (List.replicate 64 (.v (.int .u8 0))):=by
    rw[mV,if_pos rfl]
    rfl
   simp only[List.reduceReplicate]at fY
   simp[ae,asNat,fY,room,List.idxOf?]
  ·have A6:(x.kind==0)=false:=by
    rw[zJ x hz]at h
    simp only[Bool.and_eq_true,decide_eq_true_eq]at h
    rw[beq_eq_false_iff_ne]
    omega
   simp[jD,hr,h,T.fresh,T.fresh2,hk,A6,hn,CA]
   refine m_loop 10 (PJ x (gM x)) ⟨_,_,_,_,_,_,_,_,_,_,.inl rfl,rfl,rfl⟩ ?_
   have gZ:(gM x).all EF=true:=by
    have h':=h
    unfold kI at h'
    rw[if_neg hz,Bool.and_eq_true]at h'
    exact h'.1
   have hR:=Vh gZ
   rintro j σ hj ⟨a,r,b,c,d,e,f,g,o,k,A5,pI,rfl⟩
   have y5:(gM x).length=10:=rfl
   have fG:(fm (gM x)).length=20:=by simp[fm,gM,iG]
   have Vj:mV x=gE (fm (gM x)):=by rw[mV,if_neg hz]
   have htN:(gM x).take 10=gM x:=rfl
   have gV:=af (Tg (fm (gM x)) (by omega))
   generalize gM x=N at*
   by_cases hlt:j< 10
   ·have bd:(j:Int)< 10:=by omega
    have Qa:j< N.length:=by omega
    have bq:=P9 N j Qa
    have kp:N[j]∈N:=List.getElem_mem Qa
    have hst:N.take (j+1)=N.take j++[N[j]]:=by rw[List.take_succ_eq_append_getElem Qa]
    have w4:IntKind.i64.wrap ((j:Int)+1)=((j+1:Nat):Int):=by rw[←Int.natCast_succ];exact au (by omega)
    have hle:(fm (N.take j)).length≤20:=by
     have e:fm N=fm (N.take j)++fm (N.drop j):=by rw[fm,fm,fm,←List.flatMap_append,List.take_append_drop]
     rw[e,List.length_append]at fG
     omega
    have dz:=hR _ kp
    obtain⟨⟨n,s,m⟩,hT⟩:∃t,N[j]=t:=⟨_,rfl⟩
    rw[hT]at bq hst dz
    simp only[eT,wD]at bq
    have ed:=af (Jl (fm (N.take j)) (by omega) n s dz.2)
    have hP:y4 (fm (N.take j)) n s=fm (N.take (j+1)):=by
     rw[y4,if_pos dz.1,hst,fm,fm,List.flatMap_append]
     simp
    rw[hP]at ed
    simp only[sl,ka]at ed
    have aI:∀a r b c d e f g,PJ x N (j+1) ⟨[],[a,r,b,c,.sl (.own 208 5) (fm (N.take (j+1))).length ((fm (N.take (j+1))).flatMap eB),d,e,f,.agg (N.flatMap eT),.v (.int .i64 ((j+1:Nat):Int)),g],[some (eI x),none,some (eT (n,s,m)),none]⟩:=
     fun a r b c d e f g=>⟨a,r,b,c,d,e,f,g,_,_,.inr ⟨_,rfl⟩,by rw[if_neg (by omega)],rfl⟩
    simp only[eT,wD]at aI
    generalize fm (N.take (j+1))=L at*
    by_cases la:j=0
    ·have kE:fm (N.take j)=[]:=by rw[la];rfl
     rw[if_pos la]at pI
     rw[kE]at ed
     simp only[List.length_nil,List.flatMap_nil]at ed
     subst pI
     rcases A5 with rfl|⟨t,rfl⟩<;>simp[-List.length_flatMap,-Int.natCast_add,bd,hlt,bq,nR,L8,eT,wD,ed,w4,aI,T.fresh,T.fresh2]
     all_goals exact aI _ _ _ _ _ _ _ _
    ·rw[if_neg la]at pI
     subst pI
     generalize fm (N.take j)=P at*
     rcases A5 with rfl|⟨t,rfl⟩<;>simp[-List.length_flatMap,-Int.natCast_add,bd,hlt,bq,nR,L8,eT,wD,ed,w4,aI,hit,T.fresh,T.fresh2]
     all_goals exact aI _ _ _ _ _ _ _ _
   ·have:j=10:=by omega
    subst this
    rw[if_neg (by decide)]at pI
    subst pI
    simp only[sl,ka]at gV
    rw[Vj,htN]
    rcases A5 with rfl|⟨t,rfl⟩<;>simp[-List.length_flatMap,T.fresh,T.fresh2,nR,eT,wD,gV,ka,List.idxOf?]
end Go.Vi.Sz
end
section
set_option maxRecDepth 100000
namespace Go.Vi.Sz
open Go Go.Vi Go.Vi.Zz
def bh(bs:List UInt8)(a s:Int):Int:=lV (qU bs a s)
theorem FN{bs:List UInt8}(hl:bs.length=64)(a s:Int)(h:uP 64 a s=true):Ap bs a s= .an [.v (.int .i64 (bh bs a s)),.v (.bool true)]:=by
 unfold Ap
 rw[hl,h,if_pos rfl]
 rfl
def rd(bs:List UInt8):aO:=⟨bh bs 0 1,bh bs 1 1,bh bs 2 2,bh bs 4 4,bh bs 8 2,bh bs 10 2,bh bs 12 2,bh bs 14 2,bh bs 16 2,bh bs 18 2⟩
def ahp:List Int:=[0,1,2,4,8,10,12,14,16,18,20]
def RdI(bs:List UInt8)(L:List Int)(N:List (Int×Int×Int))(j:Nat)(σ:St):Prop:=∃a b c o,(o=none∨∃t,o=some (eT t))∧
 σ=⟨[],[sl eB bs,.ref 0 0,.ref 2 0,.v (.int .i64 (ahp.getD j 0)),a,b,.agg (N.flatMap eT),.v (.int .i64 j),c],[some (eI cx),none,some ((L.take j).map i64++List.replicate (10-j) (i64 0)),none,o,none]⟩
theorem aeL(bs:List UInt8)(hl:bs.length=64):Ev E ff [sl eB bs] (.agg (eI (rd bs))):=by
 refine aC (fn:=ln) rfl (by decide) rfl rfl rfl ?_
 have hn:=af (Cz cx)
 have g0:=af (mM bs (by omega) 0 1)
 have g1:=af (mM bs (by omega) 1 1)
 have g2:=af (mM bs (by omega) 2 2)
 have g3:=af (mM bs (by omega) 4 4)
 have g4:=af (mM bs (by omega) 8 2)
 have g5:=af (mM bs (by omega) 10 2)
 have g6:=af (mM bs (by omega) 12 2)
 have g7:=af (mM bs (by omega) 14 2)
 have g8:=af (mM bs (by omega) 16 2)
 have g9:=af (mM bs (by omega) 18 2)
 rw[FN hl _ _ rfl]at g0 g1 g2 g3 g4 g5 g6 g7 g8 g9
 unfold rd
 generalize bh bs 0 1=v0 at*
 generalize bh bs 1 1=v1 at*
 generalize bh bs 2 2=v2 at*
 generalize bh bs 4 4=v3 at*
 generalize bh bs 8 2=v4 at*
 generalize bh bs 10 2=v5 at*
 generalize bh bs 12 2=v6 at*
 generalize bh bs 14 2=v7 at*
 generalize bh bs 16 2=v8 at*
 generalize bh bs 18 2=v9 at*
 have hz:eI cx=List.replicate 10 (.v (.int .i64 0)):=rfl
 simp only[List.reduceReplicate]at hz
 rw[hz]at hn
 simp[-List.length_flatMap,ln,hn,CA]
 refine m_loop 10 (RdI bs [v0,v1,v2,v3,v4,v5,v6,v7,v8,v9] (gM cx)) ⟨_,_,_,_,.inl rfl,rfl⟩ ?_
 rintro j σ hj ⟨a,b,c,o,A5,rfl⟩
 have hN:(gM cx).flatMap eT=(gM cx).flatMap eT:=rfl
 by_cases hlt:j< 10
 ·have bd:(j:Int)< 10:=by omega
  have bq:=P9 (gM cx) j (by simpa using hlt)
  have w4:IntKind.i64.wrap ((j:Int)+1)=((j+1:Nat):Int):=by rw[←Int.natCast_succ];exact au (by omega)
  have hc:j=0∨j=1∨j=2∨j=3∨j=4∨j=5∨j=6∨j=7∨j=8∨j=9:=by omega
  rcases A5 with rfl|⟨t,rfl⟩<;>rcases hc with rfl|rfl|rfl|rfl|rfl|rfl|rfl|rfl|rfl|rfl<;>simp[-List.length_flatMap,eT,wD,gM,cx,ahp,i64,vn,asNat,one?,g0,g1,g2,g3,g4,g5,g6,g7,g8,g9]
  all_goals exact⟨_,_,_,_,.inr ⟨(_,_,_),rfl⟩,rfl⟩
 ·have:j=10:=by omega
  subst this
  rcases A5 with rfl|⟨t,rfl⟩<;>simp[-List.length_flatMap,i64,hz,nR,eT,wD,asNat]
  all_goals
   rw[bH rfl]
   simp[ae]
   rfl
theorem Aq(a b:List UInt8):Ev E cY [sl eB a,sl eB b] (.v (.bool (decide (a=b)))):=by
 refine aC (fn:=l4) rfl (by decide) rfl rfl rfl ?_
 simp[-List.length_flatMap,l4]
 rw[tD _ _ _ _ a rfl]
 simp[-List.length_flatMap]
 rw[tD _ _ _ _ b rfl]
 simp[-List.length_flatMap]
 rw[Bool.eq_iff_iff]
 simp
def SaI(a b:List UInt8)(j:Nat)(σ:St):Prop:=a.take j=b.take j∧∃x c d e,σ=⟨[],[sl eB a,sl eB b,x,.v (.int .i64 j),c,d,e],[]⟩
theorem Bs(a b:List UInt8)(hl:a.length≤12800):Ev E fe [sl eB a,sl eB b] (.v (.bool (decide (a=b)))):=by
 refine aC (fn:=pG) rfl (by decide) rfl rfl rfl ?_
 by_cases A1:a.length=b.length
 ·simp[-List.length_flatMap,pG,A1]
  refine m_loop b.length (SaI a b) ⟨rfl,_,_,_,_,rfl⟩ ?_
  rintro j σ hj ⟨ht,x,c,d,e,rfl⟩
  by_cases hlt:j< b.length
  ·have bd:(j:Int)< a.length:=by omega
   have hja:j< a.length:=by omega
   have w4:IntKind.i64.wrap ((j:Int)+1)=((j+1:Nat):Int):=by rw[←Int.natCast_succ];exact au (by omega)
   have hst:a.take (j+1)=a.take j++[a[j]]:=by rw[List.take_succ_eq_append_getElem hja]
   have Vk:b.take (j+1)=b.take j++[b[j]]:=by rw[List.take_succ_eq_append_getElem hlt]
   by_cases he:a[j]=b[j]
   ·have hn:SaI a b (j+1)=SaI a b (j+1):=rfl
    simp[-List.length_flatMap,-Int.natCast_add,bd,hja,hlt,w4,he]
    exact⟨by rw[hst,Vk,ht,he],_,_,_,_,rfl⟩
   ·have hne:¬a=b:=fun h=>he (by subst h;rfl)
    have hb:((a[j].toNat:Int) !=(b[j].toNat:Int))=true:=by
     simp only[bne_iff_ne,ne_eq,Int.natCast_inj]
     exact fun h=>he (UInt8.toNat.inj h)
    simp[-List.length_flatMap,-Int.natCast_add,bd,hja,hlt,hb,hne]
  ·have:j=b.length:=by omega
   subst this
   have he:a=b:=by rw[←List.take_length (l:=b),←ht,←A1,List.take_length]
   simp[-List.length_flatMap,he]
 ·have hb:((a.length:Int) !=(b.length:Int))=true:=by simp only[bne_iff_ne,ne_eq,Int.natCast_inj];exact A1
  have hne:¬a=b:=fun h=>A1 (by rw[h])
  simp[-List.length_flatMap,pG,hb,hne]
def nE(bs:List UInt8):Option aO:=if kI (rd bs)=true∧bs=mV (rd bs)then some (rd bs)else none
def Ar(o:Option aO):T:= .an [.agg (eI (o.getD cx)),.v (.bool o.isSome)]
theorem FO:eI cx=List.replicate 10 (.v (.int .i64 0)):=rfl
theorem aeM(bs:List UInt8)(hl:bs.length=64):Ev E jA [sl eB bs] (Ar (nE bs)):=by
 refine aC (fn:=jC) rfl (by decide) rfl rfl rfl ?_
 have h1:=af (aeL bs hl)
 have h2:=af (aeK (rd bs))
 have hz:=FO
 simp only[List.reduceReplicate]at hz
 have h3:dC E cY [sl eB bs,.sl .any (mV (rd bs)).length ((mV (rd bs)).flatMap eB)]=some (.v (.bool (decide (bs=mV (rd bs))))):=af (Aq bs (mV (rd bs)))
 unfold nE Ar
 generalize rd bs=x at*
 cases h:kI x
 ·simp[jC,h1,h2,h,T.fresh,T.fresh2,hz]
 ·generalize mV x=c at*
  by_cases hb:bs=c
  ·rw[if_pos ⟨rfl,hb⟩]
   rw[decide_eq_true hb]at h3
   simp[jC,h1,h2,h,T.fresh,T.fresh2,ka,h3]
  ·rw[if_neg (fun hh=>hb hh.2)]
   rw[decide_eq_false hb]at h3
   simp[jC,h1,h2,h,T.fresh,T.fresh2,hz,ka,h3]
end Go.Vi.Sz
end
section
set_option maxRecDepth 100000
namespace Go.Vi.Sz
open Go Go.Vi Go.Vi.Zz
theorem wrap_u8{n:Nat}(h:n< 256):IntKind.u8.wrap (n:Int)=((UInt8.ofNat n).toNat:Int):=by
 have e:(UInt8.ofNat n).toNat=n:=by rw[UInt8.toNat_ofNat'];omega
 rw[e,IntKind.wrap_u8];omega
theorem As(n:Nat):∃a b,leB n 2=[a,b]:=⟨_,_,rfl⟩
theorem ahq(n:Nat):∃a b c d,leB n 4=[a,b,c,d]:=⟨_,_,_,_,rfl⟩
def ByI(x:List T)(H:List UInt8)(P:List (UInt8×UInt8))(j:Nat)(σ:St):Prop:=∃a r c d,
 σ=⟨[],[a,.ref 0 0,r,.sl (.own (if j=0 then 232 else 320) 5) (10+2*j) ((H++(P.take j).flatMap fun p=>[p.1,p.2]).flatMap eB),.v (.int .i64 j),c,d],[some x,none]⟩
theorem ET(N S:Nat)(h:N< 9223372036854775808)(hS:S≤8)(Da:0< S)(n:Int)(hn:n=N)(s:Int)(hs:s=S):dC E dQ [.v (.int .i64 n),.v (.int .i64 s)]=some (ka (leB N S)):=by
 subst hn hs
 have:=af (L7 N S h hS)
 rw[p9 0 (by intro hh;have:=iG N S;rw[hh]at this;simp at this;omega)]at this
 exact this
theorem Vl(x:aO)(h:kI x=true):Ev E cZ [.agg (eI x)] (ka (mV x)):=by
 refine aC (fn:=gT) rfl (by decide) rfl rfl rfl ?_
 by_cases hz:x=cx
 ·subst hz
  have fY:ka (mV cx)= .sl (.own 0 5) 64 (List.replicate 64 (.v (.int .u8 0))):=by
   rw[mV,if_pos rfl]
   rfl
  simp only[List.reduceReplicate]at fY
  simp[gT,eI,cx]
  rw[bH rfl]
  simp[ae,asNat,room,List.idxOf?]
  exact fY.symm
 ·have hb:(fm (gM x)).length=20:=by simp[fm,gM,iG]
  have Vj:mV x=gE (fm (gM x)):=by rw[mV,if_neg hz]
  have gV:=af (P7 (fm (gM x)) (by omega))
  rw[zJ x hz]at h
  have he:=Kz x hz
  obtain⟨kind,impure,nlink,gen,size,p0,p1,p2,p3,attr⟩:=x
  simp[bQ,s8,xN]at h
  obtain⟨⟨⟨⟨⟨⟨⟨⟨h1,h2⟩,h3⟩,h4⟩,h5⟩,h6⟩,h7⟩,h8⟩,h9⟩:=h
  have wE:∀n:Int,0≤n→∃N:Nat,n=N:=fun n h=>⟨n.toNat,by omega⟩
  obtain⟨K,rfl⟩:=wE kind (by omega)
  obtain⟨I,rfl⟩:=wE impure (by omega)
  obtain⟨L,rfl⟩:=wE nlink (by omega)
  obtain⟨G,rfl⟩:=wE gen (by omega)
  obtain⟨S,rfl⟩:=wE size (by omega)
  obtain⟨P0,rfl⟩:=wE p0 (by omega)
  obtain⟨P1,rfl⟩:=wE p1 (by omega)
  obtain⟨P2,rfl⟩:=wE p2 (by omega)
  obtain⟨P3,rfl⟩:=wE p3 (by omega)
  obtain⟨A,rfl⟩:=wE attr (by omega)
  have bL:=ET L 2 (by omega) (by decide) (by decide) _ rfl 2 rfl
  have bG:=ET G 4 (by omega) (by decide) (by decide) _ rfl 4 rfl
  have bS:=ET S 2 (by omega) (by decide) (by decide) _ rfl 2 rfl
  have b0:=ET P0 2 (by omega) (by decide) (by decide) _ rfl 2 rfl
  have b1:=ET P1 2 (by omega) (by decide) (by decide) _ rfl 2 rfl
  have b2:=ET P2 2 (by omega) (by decide) (by decide) _ rfl 2 rfl
  have b3:=ET P3 2 (by omega) (by decide) (by decide) _ rfl 2 rfl
  have bA:=ET A 2 (by omega) (by decide) (by decide) _ rfl 2 rfl
  have wK:=wrap_u8 (n:=K) (by omega)
  have wI:=wrap_u8 (n:=I) (by omega)
  have lK:leB K 1=[UInt8.ofNat K]:=by simp only[leB];rw[Nat.mod_eq_of_lt (by omega)]
  have lI:leB I 1=[UInt8.ofNat I]:=by simp only[leB];rw[Nat.mod_eq_of_lt (by omega)]
  have GH:fm (gM ⟨K,I,L,G,S,P0,P1,P2,P3,A⟩)=[UInt8.ofNat K,UInt8.ofNat I]++leB L 2++leB G 4++leB S 2++leB P0 2++leB P1 2++leB P2 2++leB P3 2++leB A 2:=by
   simp[fm,gM,lK,lI]
  rw[Vj]
  rw[GH]at gV⊢
  clear Vj GH lK lI hb
  obtain⟨l0,l1,e⟩:=As L;rw[e]at bL gV⊢
  obtain⟨g0,g1,g2,g3,e⟩:=ahq G;rw[e]at bG gV⊢
  obtain⟨s0,s1,e⟩:=As S;rw[e]at bS gV⊢
  obtain⟨u0,v0,e⟩:=As P0;rw[e]at b0 gV⊢
  obtain⟨u1,v1,e⟩:=As P1;rw[e]at b1 gV⊢
  obtain⟨u2,v2,e⟩:=As P2;rw[e]at b2 gV⊢
  obtain⟨u3,v3,e⟩:=As P3;rw[e]at b3 gV⊢
  obtain⟨_,_,e⟩:=As A;rw[e]at bA gV⊢
  generalize UInt8.ofNat K=k at*
  generalize UInt8.ofNat I=i at*
  simp only[ka,List.length_cons,List.length_nil,List.flatMap_cons,List.flatMap_nil,List.cons_append,List.nil_append,sl,eB]at bL bG bS b0 b1 b2 b3 bA gV
  have NG:((K:Int)==0)=false:=by rw[beq_eq_false_iff_ne];omega
  simp[gT,NG,eI,wK,wI,bL,bG,bS,room,hit]
  refine m_loop 4 (ByI _ [k,i,l0,l1,g0,g1,g2,g3,s0,s1] [(u0,v0),(u1,v1),(u2,v2),(u3,v3)]) ⟨_,_,_,_,rfl⟩ ?_
  rintro j σ hj ⟨a,r,c,d,rfl⟩
  by_cases hlt:j< 4
  ·have hc:j=0∨j=1∨j=2∨j=3:=by omega
   rcases hc with rfl|rfl|rfl|rfl<;>simp[b0,b1,b2,b3,room,hit,eB]
   all_goals exact⟨_,_,_,_,rfl⟩
  ·have:j=4:=by omega
   subst this
   simp[bA,room,hit,eB,gV,List.idxOf?]
   rfl
theorem aaf(bs:List UInt8)(k:Nat)(h:k< bs.length):bh bs k 1=bs[k].toNat:=by
 unfold bh qU
 have e:(bs.drop (k:Int).toNat).take (1:Int).toNat=[bs[k]]:=by
  rw[Int.toNat_natCast,List.drop_eq_getElem_cons h]
  rfl
 rw[e]
 simp[lV]
def Jn:List UInt8:=List.replicate 64 0
theorem Vm{bs:List UInt8}(h:bs≠Jn)(hk:(rd bs).kind=0):nE bs=none:=by
 unfold nE
 rw[if_neg]
 rintro⟨h1,h2⟩
 by_cases hz:rd bs=cx
 ·rw[hz]at h2
  exact h (h2.trans rfl)
 ·rw[zJ _ hz]at h1
  simp[hk]at h1
theorem aag{bs:List UInt8}(h:kI (rd bs)=false):nE bs=none:=by
 unfold nE
 rw[if_neg]
 rintro⟨h1,h2⟩
 rw[h]at h1;cases h1
def GiI(bs:List UInt8)(C:List T)(P:List T)(j:Nat)(σ:St):Prop:=∃a b c d e,σ=⟨[],[sl eB bs,.ref 0 0,a,.ref 2 0,.v (.int .i64 j),b,c,d,e],[some (eI cx),none,some (C++P.take j++List.replicate (5-j) (.v (.int .i64 0))),none]⟩
theorem aca(bs:List UInt8)(hl:bs.length=64):Ev E zS [sl eB bs] (Ar (nE bs)):=by
 refine aC (fn:=rH) rfl (by decide) rfl rfl rfl ?_
 have hS:dC E fe [sl eB bs,.sl .any 64 (List.replicate 64 (.v (.int .u8 0)))]=some (.v (.bool (decide (bs=Jn)))):=af (Bs bs Jn (by omega))
 have hz:=FO
 simp only[List.reduceReplicate]at hS hz
 by_cases h0:bs=Jn
 ·rw[decide_eq_true h0]at hS
  have hg:nE bs=some cx:=by rw[h0];rfl
  rw[hg]
  simp[rH,hl]
  rw[bH rfl]
  simp[ae,asNat,room,hS,Ar,hz]
 ·rw[decide_eq_false h0]at hS
  have g2:=af (mb bs (by omega) 2 2)
  have g3:=af (mb bs (by omega) 4 4)
  have g4:=af (mb bs (by omega) 8 2)
  have g5:=af (mb bs (by omega) 10 2)
  have g6:=af (mb bs (by omega) 12 2)
  have g7:=af (mb bs (by omega) 14 2)
  have g8:=af (mb bs (by omega) 16 2)
  have g9:=af (mb bs (by omega) 18 2)
  rw[FN hl _ _ rfl]at g2 g3 g4 g5 g6 g7 g8 g9
  have a0:=aaf bs 0 (by omega)
  have a1:=aaf bs 1 (by omega)
  simp only[Int.natCast_zero,Int.natCast_one]at a0 a1
  have e1:=Vm h0
  have e2:=aag (bs:=bs)
  have e3:=af (Qb (rd bs))
  have e4:=fun h=>af (Vl (rd bs) h)
  have e5:dC E fe [sl eB bs,.sl .any (mV (rd bs)).length ((mV (rd bs)).flatMap eB)]=some (.v (.bool (decide (bs=mV (rd bs))))):=af (Bs bs (mV (rd bs)) (by omega))
  unfold nE at e1 e2⊢
  have IV:rd bs=⟨bh bs 0 1,bh bs 1 1,bh bs 2 2,bh bs 4 4,bh bs 8 2,bh bs 10 2,bh bs 12 2,bh bs 14 2,bh bs 16 2,bh bs 18 2⟩:=rfl
  generalize rd bs=x at*
  rw[a0,a1]at IV
  generalize bh bs 2 2=v2 at*
  generalize bh bs 4 4=v3 at*
  generalize bh bs 8 2=v4 at*
  generalize bh bs 10 2=v5 at*
  generalize bh bs 12 2=v6 at*
  generalize bh bs 14 2=v7 at*
  generalize bh bs 16 2=v8 at*
  generalize bh bs 18 2=v9 at*
  have kE:cr (bs.flatMap eB) 0=some (.v (.int .u8 bs[0].toNat)):=yZ bs 0 (by omega)
  have lS:cr (bs.flatMap eB) 1=some (.v (.int .u8 bs[1].toNat)):=yZ bs 1 (by omega)
  simp[-List.length_flatMap,rH,hl]
  rw[bH rfl]
  simp[-List.length_flatMap,ae,asNat,room,hS,hl,kE,lS,oP,g2,g3,g4]
  refine m_loop 4 (GiI bs [.v (.int .i64 bs[0].toNat),.v (.int .i64 bs[1].toNat),.v (.int .i64 v2),.v (.int .i64 v3),.v (.int .i64 v4)] [.v (.int .i64 v5),.v (.int .i64 v6),.v (.int .i64 v7),.v (.int .i64 v8)]) ⟨_,_,_,_,_,rfl⟩ ?_
  rintro j σ hj ⟨a,b,c,d,e,rfl⟩
  by_cases hlt:j< 4
  ·have hc:j=0∨j=1∨j=2∨j=3:=by omega
   rcases hc with rfl|rfl|rfl|rfl<;>simp[IntKind.wrap_i64,g5,g6,g7,g8]
   all_goals exact⟨_,_,_,_,_,rfl⟩
  ·have:j=4:=by omega
   subst this
   have hx:eI x=[.v (.int .i64 bs[0].toNat),.v (.int .i64 bs[1].toNat),.v (.int .i64 v2),.v (.int .i64 v3),.v (.int .i64 v4),.v (.int .i64 v5),.v (.int .i64 v6),.v (.int .i64 v7),.v (.int .i64 v8),.v (.int .i64 v9)]:=by rw[IV];rfl
   have hkx:x.kind=bs[0].toNat:=by rw[IV]
   by_cases hk:bs[0].toNat=0
   ·rw[e1 (by rw[hkx,hk];rfl)]
    have nO:((bs[0].toNat:Int)==0)=true:=by rw[hk];rfl
    simp[g9,nO,Ar,hz]
   ·have nO:((bs[0].toNat:Int)==0)=false:=by rw[beq_eq_false_iff_ne];omega
    rw[hx]at e3
    cases hR:kI x
    ·have e2:=e2 hR
     rw[hR]at e2 e3
     rw[e2]
     simp[g9,nO,e3,Ar,hz]
    ·rw[hR]at e3
     have e4:=e4 hR
     rw[hx]at e4
     simp only[ka]at e4
     generalize mV x=S at*
     by_cases hb:bs=S
     ·rw[if_pos ⟨rfl,hb⟩]
      rw[decide_eq_true hb]at e5
      simp[g9,nO,e3,e4,e5,Ar,hx,hz,T.fresh,T.fresh2]
     ·rw[if_neg (fun hh=>hb hh.2)]
      rw[decide_eq_false hb]at e5
      simp[g9,nO,e3,e4,e5,Ar,hz,T.fresh,T.fresh2]
end Go.Vi.Sz
end
