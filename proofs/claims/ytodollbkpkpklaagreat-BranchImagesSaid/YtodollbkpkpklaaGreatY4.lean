/-
  A claim's own text, joined by a small program out of: G5, G6, G7, G8, G9, G10, G11, G12, G13, G14, G15, G16, G17.
-/
import Derived.Test.YtodollbkpkpklaaGreatY3
import Derived.Test.YtodollbkpkpklaaGreatY1
set_option linter.unusedVariables false
set_option linter.unusedSimpArgs false
section
set_option maxRecDepth 100000
namespace Go.Vi.Sz
open Go Go.Vi Go.Vi.Zz
def Cc(k:IntKind):T→Option T
 | .v (.int _ n)=>some (.v (.int k (k.wrap n)))
 | .v (.float s b)=>(gn (Conv.floatToInt s b k)).map T.v
 |_=>none
@[simp] theorem akP(k kd n):Cc k (.v (.int kd n))=some (.v (.int k (k.wrap n))):=rfl
theorem Mt(σ:St)(k a):ae C0 σ (.toInt k a)=(Cc k (a.get σ)).map (·,σ):=by
 simp only[ae,Cc]
 generalize ag.get σ a=t
 cases t<;>try rfl
 rename_i v
 cases v<;>try rfl
 simp only[Option.map_map]
 rfl
@[simp] theorem amv(σ:St)(k a):gS σ (.toInt k a)=qB (Cc k (a.get σ)):=jK (Mt ..)
@[simp] theorem amw(σ:St)(k a):iX σ (.toInt k a)=((Cc k (a.get σ)).isSome=true):=jL (Mt ..)
@[simp] theorem ao8(l:List UInt8)(kd:IntKind)(j:Int):dY 1 (sl eB l) (.v (.int kd j))=(if 0≤j∧j.toNat< l.length then some (.ptr (l.flatMap eB) (j.toNat*1))else none):=rfl
@[simp] theorem xg(l:List UInt8)(k:Nat)(hk:k< l.length):cp (l.flatMap eB) k=some (.v (.int .u8 l[k].toNat)):=by
 have:=ki JF l k 0 hk (by omega)
 rw[Nat.mul_one,Nat.add_zero]at this
 rw[this];rfl
theorem nU(b:UInt8):IntKind.i64.wrap (b.toNat:Int)=(b.toNat:Int):=aq (by have:=b.toNat_lt;omega)
def mg:List UInt8→Nat
 | []=>0
 |b::l=>b.toNat+256*mg l
theorem Vx(n:Nat):(2:Nat)^(8*(n+1))=256*2^(8*n):=by
 rw[Nat.mul_add,Nat.pow_add,Nat.mul_comm]
theorem aao(l:List UInt8):mg l< 2^(8*l.length):=by
 induction l with
 |nil=>decide
 |cons b l ih=>
  have hb:=b.toNat_lt
  rw[List.length_cons,Vx,mg]
  omega
theorem acw(l:List UInt8)(b:UInt8):mg (l++[b])=mg l+b.toNat*2^(8*l.length):=by
 induction l with
 |nil=>simp[mg]
 |cons a l ih=>
  rw[List.cons_append,mg,ih,mg,List.length_cons,Vx]
  rw[Nat.mul_add,←Nat.add_assoc]
  congr 1
  rw[←Nat.mul_assoc,←Nat.mul_assoc,Nat.mul_comm 256]
def wid(n:Int):Bool:=n==1||n==2||n==4
theorem zA{n:Int}(h:wid n=true):n=1∨n=2∨n=4:=by
 simp only[wid,Bool.or_eq_true,beq_iff_eq]at h
 omega
theorem Qn(n:Int):Ev E vX [.v (.int .i64 n)] (.v (.bool (wid n))):=by
 refine aB (fn:=we) rfl (by decide) rfl rfl rfl ?_
 unfold wid
 simp[we]
 repeat' (refine kB (fun h=> ?_) (fun h=> ?_)<;>simp[*])
theorem Mu(n:Int):Ev E sQ [.v (.int .i64 n)] (.v (.bool (wid n))):=by
 refine aB (fn:=sW) rfl (by decide) rfl rfl rfl ?_
 unfold wid
 simp[sW]
 repeat' (refine kB (fun h=> ?_) (fun h=> ?_)<;>simp[*])
def vf(n:Nat)(at_ size:Int):Bool:=wid size&&decide (0≤at_)&&decide (at_≤n)&&decide (size≤n-at_)
theorem acx(bs:List UInt8)(hl:bs.length≤12800)(at_ size:Int):Ev E AA [sl eB bs,.v (.int .i64 at_),.v (.int .i64 size)] (.v (.bool (vf bs.length at_ size))):=by
 refine aB (fn:=sa) rfl (by decide) rfl rfl rfl ?_
 have hc:=af (Qn size)
 unfold vf
 by_cases h:0≤at_∧at_≤bs.length
 ·have hw:IntKind.i64.wrap (bs.length-at_)=bs.length-at_:=cq (by omega) (by omega)
  simp[sa,hc]
  repeat' (refine kB (fun h=> ?_) (fun h=> ?_)<;>simp[*])
 ·simp[sa,hc]
  repeat' (refine kB (fun h=> ?_) (fun h=> ?_)<;>simp[*])
  all_goals (simp only[decide_eq_true_eq]at*;omega)
theorem Hc{n:Nat}{at_ size:Int}(h:vf n at_ size=true):(size=1∨size=2∨size=4)∧0≤at_∧at_≤n∧size≤n-at_:=by
 simp only[vf,Bool.and_eq_true,decide_eq_true_eq]at h
 exact⟨zA h.1.1.1,h.1.1.2,h.1.2,h.2⟩
def rk(bs:List UInt8)(at_ size:Int):List UInt8:=(bs.drop at_.toNat).take size.toNat
def AV(bs:List UInt8)(at_ size:Int):T:=if vf bs.length at_ size then .al [.v (.int .i64 (mg (rk bs at_ size))),.v (.bool true)]else .al [.v (.int .i64 0),.v (.bool false)]
theorem ni(bs:List UInt8)(hl:bs.length≤12800)(at_ size:Int):Ev E pN [sl eB bs,.v (.int .i64 at_),.v (.int .i64 size)] (AV bs at_ size):=by
 refine aB (fn:=wF) rfl (by decide) rfl rfl rfl ?_
 have hc:=af (acx bs hl at_ size)
 unfold AV
 cases h:vf bs.length at_ size
 ·simp[wF,hc,h]
 ·obtain⟨hs,h0,h1,h2⟩:=Hc h
  obtain⟨A,rfl⟩:∃A:Nat,at_=A:=⟨at_.toNat,by omega⟩
  obtain⟨S,rfl⟩:∃S:Nat,size=S:=⟨size.toNat,by omega⟩
  have hS:S=1∨S=2∨S=4:=by omega
  have hw:IntKind.i64.wrap ((A:Int)+S)=((A+S:Nat):Int):=by rw[←Int.natCast_add];exact aq (by omega)
  have dh:A≤A+S∧A+S≤bs.length:=by omega
  have iQ:A+S-A=S:=by omega
  generalize hc8:rk bs A S=c8
  have hb:(bs.drop A).take S=c8:=by rw[←hc8];simp[rk]
  have hlen:c8.length=S:=by rw[←hb];simp;omega
  simp[-Int.natCast_add,wF,hc,h,hw,dh,iQ,hb,hlen]
  refine m_loop S (fun j σ=>∃a b c d e f g x y,σ=⟨[],[a,b,c,d,e,.v (.int .i64 (mg (c8.take j))),f,g,x,sl eB c8,.v (.int .i64 S),.v (.int .i64 j),y],[]⟩) ⟨_,_,_,_,_,_,_,_,_,rfl⟩ ?_
  rintro j σ hj ⟨a,b,c,d,e,f,g,x,y,rfl⟩
  by_cases hlt:j< S
  ·have w4:IntKind.i64.wrap ((j:Int)+1)=((j+1:Nat):Int):=by rw[←Int.natCast_succ];exact aq (by omega)
   have tK:j< c8.length:=by omega
   have w8:IntKind.i64.wrap (8*(j:Int))=((8*j:Nat):Int):=by rw[show(8:Int)*j=((8*j:Nat):Int) by omega];exact aq (by omega)
   have hb:=c8[j].toNat_lt
   have hle:=aao (c8.take j)
   rw[List.length_take,Nat.min_eq_left (by omega)]at hle
   have hst:c8.take (j+1)=c8.take j++[c8[j]]:=by rw[List.take_succ_eq_append_getElem tK]
   have jO:mg (c8.take (j+1))=mg (c8.take j)|||c8[j].toNat*2^(8*j):=by
    rw[hst,acw,NB,List.length_take,Nat.min_eq_left (by omega)]
    exact hle
   have hp:2^(8*j)≤2^(8*3):=Nat.pow_le_pow_right (by decide) (by omega)
   have hm:c8[j].toNat*2^(8*j)≤255*2^(8*3):=Nat.mul_le_mul (by omega) hp
   have He:=RR 3 (kd:= .i64) (a:=c8[j].toNat) (n:=8*j) (by omega) (by omega)
   have Gw:=V9 3 (a:=mg (c8.take j)) (b:=c8[j].toNat*2^(8*j)) (by omega) (by omega)
   simp[-Int.natCast_add,-Int.natCast_mul,-Int.natCast_pow,hlt,w4,hlen,jO,nU,w8,He,Gw]
  ·have:j=S:=by omega
   subst this
   have ht:c8.take j=c8:=by rw[List.take_of_length_le (by omega)]
   simp[ht]
theorem mA(bs:List UInt8)(hl:bs.length≤12800)(at_ size:Int):Ev E gO [sl eB bs,.v (.int .i64 at_),.v (.int .i64 size)] (AV bs at_ size):=by
 refine aB (fn:=lx) rfl (by decide) rfl rfl rfl ?_
 have hc:=af (Mu size)
 unfold AV
 cases h:vf bs.length at_ size
 ·simp only[vf,Bool.and_eq_false_iff,decide_eq_false_iff_not]at h
  cases hwd:wid size
  ·simp[lx,hc,hwd]
  ·rw[hwd]at h
   have h:(¬0≤at_∨¬at_≤bs.length)∨¬size≤bs.length-at_:=by simpa using h
   by_cases kX:0≤at_∧at_≤bs.length
   ·have hw:IntKind.i64.wrap (bs.length-at_)=bs.length-at_:=cq (by omega) (by omega)
    have d1:¬at_< 0:=by omega
    have d2:¬(bs.length:Int)< at_:=by omega
    have d3:(bs.length:Int)-at_< size:=by omega
    simp[lx,hc,hwd,d1,d2,d3,hw]
   ·by_cases d1:at_< 0
    ·simp[lx,hc,hwd,d1]
    ·have d2:(bs.length:Int)< at_:=by omega
     simp[lx,hc,hwd,d1,d2]
 ·obtain⟨hs,h0,h1,h2⟩:=Hc h
  obtain⟨A,rfl⟩:∃A:Nat,at_=A:=⟨at_.toNat,by omega⟩
  obtain⟨S,rfl⟩:∃S:Nat,size=S:=⟨size.toNat,by omega⟩
  have hS:S=1∨S=2∨S=4:=by omega
  have ao9:wid S=true:=by unfold wid;rcases hS with rfl|rfl|rfl<;>rfl
  have hw:IntKind.i64.wrap ((bs.length:Int)-A)=((bs.length-A:Nat):Int):=by rw[←Int.natCast_sub (by omega)];exact aq (by omega)
  have vw:IntKind.i64.wrap ((S:Int)-1)=(S:Int)-1:=yu (by omega) (by omega)
  have mP:¬((A:Int)< 0):=by omega
  have mS:¬((bs.length:Int)< A):=by omega
  have zY:¬(((bs.length-A:Nat):Int)< S):=by omega
  have hlen:(rk bs A S).length=S:=by simp[rk];omega
  simp[-Int.natCast_add,lx,hc,ao9,hw,vw,mP,mS,zY]
  generalize hc8:rk bs A S=c8 at hlen⊢
  refine m_loop S (fun j σ=>∃x y z u v,σ=⟨[],[sl eB bs,.v (.int .i64 A),x,y,z,.v (.int .i64 (mg (c8.drop (S-j)))),.v (.int .i64 ((S:Int)-1-j)),u,v],[]⟩) ⟨_,_,_,_,_,by rw[List.drop_of_length_le (by omega),show(S:Int)-1-((0:Nat):Int)=(S:Int)-1 by omega];rfl⟩ ?_
  rintro j σ hj ⟨x,y,z,u,v,rfl⟩
  by_cases hlt:j< S
  ·have hg:(0:Int)≤(S:Int)-1-j:=by omega
   have hx:S-1-j< c8.length:=by omega
   have w1:IntKind.i64.wrap ((S:Int)-1-j-1)=(S:Int)-1-((j+1:Nat):Int):=by rw[yu (by omega) (by omega)];omega
   have w2:IntKind.i64.wrap ((A:Int)+((S:Int)-1-j))=((A+(S-1-j):Nat):Int):=by rw[show(A:Int)+((S:Int)-1-j)=((A+(S-1-j):Nat):Int) by omega];exact aq (by omega)
   have dh:A+(S-1-j)< bs.length:=by omega
   have Ow:bs[A+(S-1-j)]=c8[S-1-j]:=by subst hc8;simp[rk]
   have hd:c8.drop (S-(j+1))=c8[S-1-j]::c8.drop (S-j):=by rw[show S-(j+1)=S-1-j by omega,List.drop_eq_getElem_cons hx,show S-1-j+1=S-j by omega]
   have jn:=aao (c8.drop (S-j))
   rw[List.length_drop]at jn
   have hp:2^(8*(c8.length-(S-j)))≤2^(8*3):=Nat.pow_le_pow_right (by decide) (by omega)
   have hb:=c8[S-1-j].toNat_lt
   have w3:IntKind.i64.wrap ((mg (c8.drop (S-j)):Int)*256)=((256*mg (c8.drop (S-j)):Nat):Int):=by rw[show(mg (c8.drop (S-j)):Int)*256=((256*mg (c8.drop (S-j)):Nat):Int) by omega];exact aq (by omega)
   have w4:IntKind.i64.wrap (((256*mg (c8.drop (S-j)):Nat):Int)+(c8[S-1-j].toNat:Int))=((mg (c8.drop (S-(j+1))):Nat):Int):=by rw[hd,mg,←Int.natCast_add,Nat.add_comm];exact aq (by omega)
   simp[-Int.natCast_add,-Int.natCast_mul,-Int.sub_nonneg,hg,w1,w2,w3,w4,dh,Ow,nU]
   exact hlt
  ·have:j=S:=by omega
   subst this
   have hg:¬(0:Int)≤(j:Int)-1-j:=by omega
   simp[-Int.sub_nonneg,hg]
end Go.Vi.Sz
end
section
set_option maxRecDepth 100000
namespace Go.Vi.Sz
open Go Go.Vi Go.Vi.Zz
section
variable{E:Env}{k:List Fr}{Q:Out→Prop}{outs:List (Option Nat)}{rest:nQ}(rs vars:List T)(bx:List (Option (List T)))
theorem aap(a:ag)(n:Nat){kd:IntKind}(h:a.get ⟨rs,vars,bx⟩= .v (.int kd n)):O E ((none,.toFloat .f64 a)::rest) outs k ⟨rs,vars,bx⟩ Q=O E rest outs k ⟨snoc rs (.v (.float .f64 (fl n))),vars,bx⟩ Q:=by
 have hr:ae C0 ⟨rs,vars,bx⟩ (.toFloat .f64 a)=some (.v (.float .f64 (fl n)),⟨rs,vars,bx⟩):=by
  simp only[ae,h]
  rfl
 rw[bE rfl,hr,BQ]
theorem JJ(j:Nat)(a:ag)(x y:Nat)(h:a.get ⟨rs,vars,bx⟩= .v (.complex .f64 x y)):O E ((none,.part j a)::rest) outs k ⟨rs,vars,bx⟩ Q=O E rest outs k ⟨snoc rs (.v (.float .f64 (if j=0 then x else y))),vars,bx⟩ Q:=by
 have hr:ae C0 ⟨rs,vars,bx⟩ (.part j a)=some (.v (.float .f64 (if j=0 then x else y)),⟨rs,vars,bx⟩):=by
  simp only[ae,h]
 rw[bE rfl,hr,BQ]
theorem ahT(a b:ag)(x y:Nat)(h:a.get ⟨rs,vars,bx⟩= .v (.float .f64 x))(h':b.get ⟨rs,vars,bx⟩= .v (.float .f64 y)):O E ((none,.cplx a b)::rest) outs k ⟨rs,vars,bx⟩ Q=O E rest outs k ⟨snoc rs (.v (.complex .f64 x y)),vars,bx⟩ Q:=by
 have hr:ae C0 ⟨rs,vars,bx⟩ (.cplx a b)=some (.v (.complex .f64 x y),⟨rs,vars,bx⟩):=by
  simp only[ae,h,h']
  rfl
 rw[bE rfl,hr,BQ]
end
def mj(l:List UInt8):Nat×Nat:=l.foldl (fun p b=>((p.1+b.toNat)%65521,(p.2+(p.1+b.toNat)%65521)%65521)) (1,0)
theorem Mv(l:List UInt8)(b:UInt8):mj (l++[b])=(((mj l).1+b.toNat)%65521,((mj l).2+((mj l).1+b.toNat)%65521)%65521):=by
 unfold mj
 rw[List.foldl_append]
 rfl
theorem Cd(l:List UInt8):(mj l).1< 65521∧(mj l).2< 65521:=by
 unfold mj
 suffices h:∀(l:List UInt8) (p:Nat×Nat),p.1< 65521∧p.2< 65521→(l.foldl (fun p b=>((p.1+b.toNat)%65521,(p.2+(p.1+b.toNat)%65521)%65521)) p).1< 65521∧(l.foldl (fun p b=>((p.1+b.toNat)%65521,(p.2+(p.1+b.toNat)%65521)%65521)) p).2< 65521 from h l (1,0) (by decide)
 intro l
 induction l with
 |nil=>intro p h;exact h
 |cons b l ih=>intro p h;exact ih _ ⟨Nat.mod_lt _ (by decide),Nat.mod_lt _ (by decide)⟩
theorem acy(bs:List UInt8)(hl:bs.length≤12800):Ev E cU [sl eB bs] (.al [.v (.int .i64 (mj bs).1),.v (.int .i64 (mj bs).2)]):=by
 refine aB (fn:=j9) rfl (by decide) rfl rfl rfl ?_
 simp[-Int.natCast_add,j9]
 refine m_loop bs.length (fun j σ=>∃a b c,σ=⟨[],[sl eB bs,a,b,.v (.int .i64 (mj (bs.take j)).1),.v (.int .i64 (mj (bs.take j)).2),.v (.int .i64 j),c],[]⟩) ⟨_,_,_,rfl⟩ ?_
 rintro j σ hj ⟨a,b,c,rfl⟩
 by_cases hlt:j< bs.length
 ·have hst:bs.take (j+1)=bs.take j++[bs[j]]:=by rw[List.take_succ_eq_append_getElem hlt]
  have hs:=Cd (bs.take j)
  have jO:=Mv (bs.take j) bs[j]
  rw[←hst]at jO
  have hb:=bs[j].toNat_lt
  generalize mj (bs.take j)=p at*
  obtain⟨x,y⟩:=p
  simp only at hs jO
  have hm:(x+bs[j].toNat)%65521< 65521:=Nat.mod_lt _ (by decide)
  have w4:IntKind.i64.wrap ((j:Int)+1)=((j+1:Nat):Int):=by rw[←Int.natCast_succ];exact aq (by omega)
  have w1:IntKind.i64.wrap ((x:Int)+(bs[j].toNat:Int))=((x+bs[j].toNat:Nat):Int):=by rw[←Int.natCast_add];exact aq (by omega)
  have w2:IntKind.i64.wrap ((y:Int)+(((x+bs[j].toNat)%65521:Nat):Int))=((y+(x+bs[j].toNat)%65521:Nat):Int):=by rw[←Int.natCast_add];exact aq (by omega)
  have r1:=Bl 3 (a:=x+bs[j].toNat) (b:=65521) (by decide)
  have r2:=Bl 3 (a:=y+(x+bs[j].toNat)%65521) (b:=65521) (by decide)
  have a2:bM .add 3 (.v (.int .i64 (y:Int))) (.v (.int .i64 (((x+bs[j].toNat)%65521:Nat):Int)))=some (.v (.int .i64 ((y+(x+bs[j].toNat)%65521:Nat):Int))):=by rw[←w2];rfl
  rw[show((65521:Nat):Int)=65521 from rfl]at r1 r2
  generalize (x+bs[j].toNat)%65521=x' at*
  generalize (y+x')%65521=y' at*
  simp[-Int.natCast_add,-Int.natCast_emod,hlt,w1,w4,nU,jO,r1,r2,a2]
 ·have:j=bs.length:=by omega
  subst this
  simp
def rK(l:List UInt8):Nat:=(mj l).1+65536*(mj l).2
theorem ahU(bs:List UInt8)(hl:bs.length≤12800):Ev E ea [sl eB bs] (.v (.int .i64 (rK bs))):=by
 refine aB (fn:=mL) rfl (by decide) rfl rfl rfl ?_
 have hc:=af (acy bs hl)
 unfold rK
 have hs:=Cd bs
 generalize mj bs=p at*
 obtain⟨x,y⟩:=p
 simp only at hs hc⊢
 have w1:IntKind.i64.wrap (65536*(y:Int))=((65536*y:Nat):Int):=by rw[show 65536*(y:Int)=((65536*y:Nat):Int) by omega];exact aq (by omega)
 have w2:IntKind.i64.wrap ((x:Int)+((65536*y:Nat):Int))=((x+65536*y:Nat):Int):=by rw[←Int.natCast_add];exact aq (by omega)
 simp[-Int.natCast_add,-Int.natCast_mul,mL,hc,w1,w2]
theorem aaq:(4679237951253643264:Nat)=fl 65521:=by rw[FH (by decide) (by decide)];decide
theorem c1:(4607182418800017408:Nat)=fl 1:=by rw[FH (by decide) (by decide)];decide
theorem Tu(n:Nat)(h:n< 131042):Ev E xZ [.v (.float .f64 (fl n))] (.v (.float .f64 (fl (n%65521)))):=by
 refine aB (fn:=uC) rfl (by decide) rfl rfl rfl ?_
 have g1:=aa0 195 (a:=n) (b:=65521) (by omega) (by decide)
 rw[←aaq]at g1
 by_cases hn:65521≤n
 ·have g2:=aaZ 195 (a:=n) (b:=65521) (by omega) hn
  rw[←aaq]at g2
  have e:n%65521=n-65521:=by omega
  rw[e]
  simp[uC,g1,g2,hn]
 ·have e:n%65521=n:=by omega
  rw[e]
  simp[uC,g1,hn]
theorem afd(bs:List UInt8)(hl:bs.length≤12800):Ev E Cm [sl eB bs] (.v (.complex .f64 (fl (mj bs).1) (fl (mj bs).2))):=by
 refine aB (fn:=x4) rfl (by decide) rfl rfl rfl ?_
 simp[-Int.natCast_add,x4]
 refine m_loop bs.length (fun j σ=>∃a b c d x,σ=⟨[],[a,b,.v (.complex .f64 (fl (mj (bs.take j)).1) (fl (mj (bs.take j)).2)),c,d,sl eB bs,.v (.int .i64 bs.length),.v (.int .i64 j),x],[]⟩) ⟨_,_,_,_,_,by rw[c1,List.take_zero];rfl⟩ ?_
 rintro j σ hj ⟨a,b,c,d,x,rfl⟩
 by_cases hlt:j< bs.length
 ·have hst:bs.take (j+1)=bs.take j++[bs[j]]:=by rw[List.take_succ_eq_append_getElem hlt]
  have hs:=Cd (bs.take j)
  have jO:=Mv (bs.take j) bs[j]
  rw[←hst]at jO
  have hb:=bs[j].toNat_lt
  generalize mj (bs.take j)=p at*
  obtain⟨x,y⟩:=p
  simp only at hs jO
  have hm:(x+bs[j].toNat)%65521< 65521:=Nat.mod_lt _ (by decide)
  have w4:IntKind.i64.wrap ((j:Int)+1)=((j+1:Nat):Int):=by rw[←Int.natCast_succ];exact aq (by omega)
  have q1:=af (Tu (x+bs[j].toNat) (by omega))
  have a1:=NA 195 (a:=x) (b:=bs[j].toNat) (by omega)
  have q2:=af (Tu (y+(x+bs[j].toNat)%65521) (by omega))
  have a2:=NA 195 (a:=y) (b:=(x+bs[j].toNat)%65521) (by omega)
  generalize (x+bs[j].toNat)%65521=x' at*
  generalize (y+x')%65521=y' at*
  simp[-Int.natCast_add,hlt]
  rw[JJ _ _ _ _ _ _ _ rfl]
  simp[-Int.natCast_add]
  rw[aap _ _ _ _ _ rfl]
  simp[-Int.natCast_add,a1,q1]
  rw[JJ _ _ _ _ _ _ _ rfl]
  simp[-Int.natCast_add,a2,q2]
  rw[ahT _ _ _ _ _ _ _ rfl rfl]
  simp[-Int.natCast_add,w4,jO]
 ·have:j=bs.length:=by omega
  subst this
  simp
theorem Mw{n:Nat}(h:n< 9007199254740992):Cc .i64 (.v (.float .f64 (fl n)))=some (.v (.int .i64 n)):=by
 show(gn (Conv.floatToInt .f64 (fl n) .i64)).map T.v=_
 rw[V8 h]
 rfl
theorem akQ(bs:List UInt8)(hl:bs.length≤12800):Ev E pO [sl eB bs] (.v (.int .i64 (rK bs))):=by
 refine aB (fn:=vB) rfl (by decide) rfl rfl rfl ?_
 have hc:=af (afd bs hl)
 unfold rK
 have hs:=Cd bs
 generalize mj bs=p at*
 obtain⟨x,y⟩:=p
 simp only at hs hc⊢
 have He:=RR 3 (kd:= .u64) (a:=y) (n:=16) (by decide) (by omega)
 rw[show((16:Nat):Int)=16 from rfl]at He
 have Gw:=V9 3 (a:=x) (b:=y*2^16) (by omega) (by omega)
 rw[NB (by omega),show x+y*2^16=x+65536*y by omega]at Gw
 have t1:=Mw (n:=x) (by omega)
 have t2:=Mw (n:=y) (by omega)
 generalize y*2^16=w at*
 simp[-Int.natCast_add,vB,hc]
 rw[JJ _ _ _ _ _ _ _ rfl]
 simp[-Int.natCast_add,t1]
 rw[JJ _ _ _ _ _ _ _ rfl]
 simp[-Int.natCast_add,t2,He,Gw]
end Go.Vi.Sz
end
section
set_option maxRecDepth 100000
namespace Go.Vi.Sz
open Go Go.Vi Go.Vi.Zz
def gV(n size:Int):Bool:=wid size&&decide (0≤n)&&decide (n< ((2^(8*size.toNat):Nat):Int))
theorem acz(n size:Int):Ev E AE [.v (.int .i64 n),.v (.int .i64 size)] (.v (.bool (gV n size))):=by
 refine aB (fn:=pc) rfl (by decide) rfl rfl rfl ?_
 have hc:=af (Qn size)
 unfold gV
 cases hw:wid size
 ·simp[pc,hc,hw]
 ·by_cases h0:0≤n
  ·obtain⟨N,rfl⟩:∃N:Nat,n=N:=⟨n.toNat,by omega⟩
   have hs:=zA hw
   obtain⟨S,rfl⟩:∃S:Nat,size=S:=⟨size.toNat,by omega⟩
   have hm:IntKind.i64.wrap (8*(S:Int))=((8*S:Nat):Int):=by rw[show(8:Int)*S=((8*S:Nat):Int) by omega];exact aq (by omega)
   have He:=RS 3 (kd:= .i64) (a:=N) (n:=8*S) (by omega)
   have hp:0< 2^(8*S):=Nat.two_pow_pos _
   have hd:(((N / 2^(8*S):Nat):Int)==0)=decide (N< 2^(8*S)):=by
    rw[Bool.eq_iff_iff,beq_iff_eq,decide_eq_true_iff,←Nat.div_eq_zero_iff_lt hp]
    omega
   simp[-Int.natCast_mul,-Int.natCast_ediv,-Int.natCast_pow,-Nat.div_eq_zero_iff,pc,hc,hw,hm,He]
   exact hd
  ·simp[pc,hc,hw,h0]
theorem adK(n:Nat):(2:Nat)^(8*(n+1))=2^(8*n)*256:=by rw[Vx,Nat.mul_comm]
theorem aar(n size:Int):Ev E xz [.v (.int .i64 n),.v (.int .i64 size)] (.v (.bool (gV n size))):=by
 refine aB (fn:=mq) rfl (by decide) rfl rfl rfl ?_
 have hc:=af (Mu size)
 unfold gV
 cases hw:wid size
 ·simp[mq,hc,hw]
 ·by_cases h0:n< 0
  ·have h1:¬0≤n:=by omega
   simp[mq,hc,hw,h0,h1]
  ·have hs:=zA hw
   have h1:0≤n:=by omega
   obtain⟨S,rfl⟩:∃S:Nat,size=S:=⟨size.toNat,by omega⟩
   simp[-Int.natCast_pow,mq,hc,hw,h0,h1]
   refine m_loop S (fun j σ=>∃a b c,σ=⟨[],[.v (.int .i64 n),.v (.int .i64 S),a,.v (.int .i64 ((2^(8*j):Nat):Int)),.v (.int .i64 j),b,c],[]⟩) ⟨_,_,_,rfl⟩ ?_
   rintro j σ hj ⟨a,b,c,rfl⟩
   by_cases hlt:j< S
   ·have hp:2^(8*j)≤2^(8*3):=Nat.pow_le_pow_right (by decide) (by omega)
    have w1:IntKind.i64.wrap (((2^(8*j):Nat):Int)*256)=((2^(8*(j+1)):Nat):Int):=by rw[adK,show((2^(8*j):Nat):Int)*256=((2^(8*j)*256:Nat):Int) by omega];exact aq (by omega)
    have w4:IntKind.i64.wrap ((j:Int)+1)=((j+1:Nat):Int):=by rw[←Int.natCast_succ];exact aq (by omega)
    generalize 2^(8*(j+1))=q at*
    generalize 2^(8*j)=r at*
    simp[-Int.natCast_add,hlt,w1,w4]
   ·have:j=S:=by omega
    subst this
    simp[-Int.natCast_pow]
def leB:Nat→Nat→List UInt8
 |_,0=>[]
 |n,k+1=>UInt8.ofNat (n%256)::leB (n / 256) k
theorem iO(n k:Nat):(leB n k).length=k:=by
 induction k generalizing n with
 |zero=>rfl
 |succ k ih=>simp[leB,ih]
theorem Qo(n k:Nat):leB n (k+1)=leB n k++[UInt8.ofNat (n / 2^(8*k)%256)]:=by
 induction k generalizing n with
 |zero=>simp[leB]
 |succ k ih=>
  rw[leB,ih,leB,List.cons_append,Nat.div_div_eq_div_mul,Vx]
def qK(k:Nat)(l:List UInt8):T:=if l=[]then .sl .clip 0 []else .sl (.own k 5) l.length (l.flatMap eB)
@[simp] theorem aqa(k):qK k []= .sl .clip 0 []:=rfl
theorem qL(k){l:List UInt8}(h:l≠[]):qK k l= .sl (.own k 5) l.length (l.flatMap eB):=by simp[qK,h]
@[simp] theorem akR(k l):(qK k l).aU=false:=by unfold qK;split<;>simp[T.aU]
theorem acA(k l):(qK k l).eO=if l=[]then []else [k]:=by unfold qK;split<;>simp
@[simp] theorem amx(k l):(qK k l).eO.Nodup:=by rw[acA];split<;>simp
theorem aas(k)(l:List UInt8):(qK k l).aj (fun _=>none) (fun x=>List.idxOf? x (qK k l).eO)=qK 0 l:=by
 unfold qK
 split
 ·simp
 ·simp[T.aj,List.idxOf?]
theorem lq(l:List UInt8):bj (l.flatMap eB)=true:=by
 induction l with
 |nil=>rfl
 |cons c l ih=>simp[eB,ih]
theorem Mx(N S:Nat)(hN:N< 9223372036854775808)(hS:S≤8):Ev E dX [.v (.int .i64 N),.v (.int .i64 S)] (qK 0 (leB N S)):=by
 refine aB (fn:=sY) rfl (by decide) rfl rfl rfl ?_
 simp[-Int.natCast_pow,sY]
 refine m_loop S (fun j σ=>∃a b,σ=⟨[],[.v (.int .i64 ((N / 2^(8*j):Nat):Int)),.v (.int .i64 S),a,qK 144 (leB N j),.v (.int .i64 j),b],[]⟩) ⟨_,_,by rw[show N / 2^(8*0)=N by simp];rfl⟩ ?_
 rintro j σ hj ⟨a,b,rfl⟩
 by_cases hlt:j< S
 ·have jO:=Qo N j
  have oe:=iO N j
  have hdd:N / 2^(8*(j+1))=N / 2^(8*j) / 256:=by rw[adK,Nat.div_div_eq_div_mul]
  have hle:N / 2^(8*j)< 9223372036854775808:=Nat.lt_of_le_of_lt (Nat.div_le_self _ _) hN
  generalize hx:N / 2^(8*j)=x at*
  have r1:=Bl 3 (a:=x) (b:=256) (by decide)
  have r2:=RT 3 (a:=x) (b:=256) (by decide) hle
  rw[show((256:Nat):Int)=256 from rfl]at r1 r2
  have w4:IntKind.i64.wrap ((j:Int)+1)=((j+1:Nat):Int):=by rw[←Int.natCast_succ];exact aq (by omega)
  have ua:[T.v (Value.int IntKind.u8 ((x%256:Nat):Int))]=eB (UInt8.ofNat (x%256)):=by
   have e:(UInt8.ofNat (x%256)).toNat=x%256:=by rw[UInt8.toNat_ofNat'];omega
   rw[eB,e]
  have w8:IntKind.u8.wrap ((x%256:Nat):Int)=((x%256:Nat):Int):=by rw[IntKind.wrap_u8];omega
  have w0:IntKind.i64.wrap 1=1:=by decide
  obtain⟨fq,dN,xW,EU⟩:(j+1)*24≤room∧j+1≤room∧24≤room∧1≤room:=by unfold room;omega
  have hne:leB N (j+1)≠[]:=by rw[jO];simp
  rw[qL 144 hne,jO,hdd]
  rcases Nat.eq_zero_or_pos j with iY|iY
  ·subst iY
   simp[-Int.natCast_add,-Int.natCast_emod,-Int.natCast_ediv,leB,w0,hlt,r1,r2,w8,hit,dN]
   exact ua
  ·have fB:qK 144 (leB N j)= .sl (.own 144 5) j ((leB N j).flatMap eB):=by rw[qL _ (by intro hh;have:=congrArg List.length hh;simp[oe]at this;omega),oe]
   rw[fB]
   simp[-List.length_flatMap,-Int.natCast_add,-Int.natCast_emod,-Int.natCast_ediv,hlt,r1,r2,w4,w8,hit,dN,bK,oe]
   exact ua
 ·have:j=S:=by omega
  subst this
  have hh:hit 14 144=false:=by decide
  simp[aas]
def zB(b:List UInt8)(n size:Int):List UInt8:=if gV n size then b++leB n.toNat size.toNat else b
@[simp] theorem G5(d e n cs):T.import d (.sl (.own 0 e) n cs)= .sl (.own (8*d) e) n cs:=by simp[T.import]
theorem afe(b:List UInt8)(hb:b≠[])(hl:b.length≤12800)(n size:Int)(hn:n< 9223372036854775808):Ev E Az [sl eB b,.v (.int .i64 n),.v (.int .i64 size)] (qK 0 (zB b n size)):=by
 refine aB (fn:=r9) rfl (by decide) rfl rfl rfl ?_
 have hc:=af (aar n size)
 obtain⟨m,hm⟩:∃m,b.length=m+1:=⟨b.length-1,by have:=List.length_pos_iff.2 hb;omega⟩
 obtain⟨fq,dN⟩:m+1≤room∧(m+1+size.toNat≤room∨8< size.toNat):=by unfold room;omega
 unfold zB
 cases h:gV n size
 ·have e:qK 0 b= .sl (.own 0 5) b.length (b.flatMap eB):=qL _ hb
  rw[if_neg (by decide),e]
  simp[-List.length_flatMap,r9,hc,h,sl,bK,fq,hit,hm,List.idxOf?]
 ·rw[if_pos rfl]
  simp only[gV,Bool.and_eq_true,decide_eq_true_eq]at h
  obtain⟨⟨hw,h0⟩,h1⟩:=h
  have hs:=zA hw
  obtain⟨N,rfl⟩:∃N:Nat,n=N:=⟨n.toNat,by omega⟩
  obtain⟨S,rfl⟩:∃S:Nat,size=S:=⟨size.toNat,by omega⟩
  have hR:gV N S=true:=by simp only[gV,Bool.and_eq_true,decide_eq_true_eq];exact⟨⟨hw,h0⟩,h1⟩
  rw[Int.toNat_natCast]at dN
  rw[Int.toNat_natCast,Int.toNat_natCast]
  have By:=af (Mx N S (by omega) (by omega))
  have oe:=iO N S
  have hne:leB N S≠[]:=by intro hh;rw[hh]at oe;simp at oe;omega
  have xW:m+1+S≤room:=by omega
  rw[qL 0 hne,oe]at By
  rw[qL 0 (by simp[hb])]
  simp[-List.length_flatMap,r9,hc,hR,By,sl,bK,fq,xW,oe,hit,hm,List.idxOf?]
end Go.Vi.Sz
end
section
set_option maxRecDepth 100000
namespace Go.Vi.Sz
open Go Go.Vi Go.Vi.Zz
theorem HW(l:List UInt8):dZ (l.flatMap eB)=[]:=by
 induction l with
 |nil=>rfl
 |cons x l ih=>simp[eB,ih]
theorem HX(l:List UInt8):gX (l.flatMap eB)=[]:=by
 induction l with
 |nil=>simp
 |cons x l ih=>simp[eB,ih]
theorem nk(ρ η)(l:List UInt8):ah ρ η (l.flatMap eB)=l.flatMap eB:=by
 induction l with
 |nil=>simp
 |cons x l ih=>simp[eB,ih]
theorem Rw(b m:List UInt8)(x y:UInt8)(zs:List UInt8):setCells ((b++m++x::zs).flatMap eB) (b.length+m.length) (eB y)=((b++(m++[y]))++zs).flatMap eB:=by
 have e:setCells ((b++m++x::zs).flatMap eB) (b.length+m.length) (eB y)=((b++m++x::zs).flatMap eB).take (b.length+m.length)++eB y++((b++m++x::zs).flatMap eB).drop (b.length+m.length+(eB y).length):=by
  unfold setCells
  rfl
 have hd:(b++m).drop (b.length+m.length+1)=[]:=List.drop_of_length_le (by simp)
 have hs:b.length+m.length+1-(b++m).length=1:=by simp
 rw[e,tZ,JF,Cb,List.drop_append,hd,hs,←List.length_append,List.take_left' rfl]
 simp[eB]
theorem ahV(b zs:List UInt8)(N:Nat)(hN:N< 9223372036854775808)(hz:zs.length≤8)(hb:b.length≤12800)(c:Nat):
  Ev E (an+K1) [.al [.au 0 b.length zs.length c,.v (.int .i64 N)],.al [.agg ((b++zs).flatMap eB),.undef]]
   (.al [.al [],.al [.agg ((b++leB N zs.length).flatMap eB),.undef]]):=by
 refine FZ (fn:=zK) rfl rfl rfl rfl (by simp) ?_
 simp[-List.length_flatMap,-List.flatMap_append,zK]
 rw[nk]
 refine m_loop zs.length (fun j σ=>∃x y,σ=⟨[],[.au 0 b.length zs.length c,.v (.int .i64 N),x,.v (.int .i64 zs.length),.v (.int .i64 j),y],[some ((b++leB N j++zs.drop j).flatMap eB),none]⟩) ⟨_,_,by rw[leB,List.append_nil,List.drop_zero];rfl⟩ ?_
 rintro j σ hj ⟨x,y,rfl⟩
 by_cases hlt:j< zs.length
 ·have oe:=iO N j
  have hd:zs.drop j=zs[j]::zs.drop (j+1):=List.drop_eq_getElem_cons hlt
  have rD:=Rw b (leB N j) zs[j] (UInt8.ofNat (N / 2^(8*j)%256)) (zs.drop (j+1))
  rw[←hd,←Qo,oe]at rD
  have w4:IntKind.i64.wrap ((j:Int)+1)=((j+1:Nat):Int):=by rw[←Int.natCast_succ];exact aq (by omega)
  have hm:IntKind.i64.wrap (8*(j:Int))=((8*j:Nat):Int):=by rw[show(8:Int)*j=((8*j:Nat):Int) by omega];exact aq (by omega)
  have He:=RS 3 (kd:= .i64) (a:=N) (n:=8*j) (by omega)
  have ua:[T.v (Value.int IntKind.u8 (IntKind.u8.wrap ((N / 2^(8*j):Nat):Int)))]=eB (UInt8.ofNat (N / 2^(8*j)%256)):=by
   have e:(UInt8.ofNat (N / 2^(8*j)%256)).toNat=N / 2^(8*j)%256:=by rw[UInt8.toNat_ofNat'];omega
   rw[eB,e,IntKind.wrap_u8];rfl
  have hlen:b.length+j+1≤((b++leB N j++zs.drop j).flatMap eB).length:=by rw[bK];simp[oe];omega
  rw[←ua]at rD
  clear ua
  generalize ((b++leB N j++zs.drop j).flatMap eB)=cs at*
  generalize N / 2^(8*j)=q at*
  simp[-List.length_flatMap,-List.flatMap_append,-Int.natCast_add,-Int.natCast_mul,hlt,hm,He,w4,hlen,rD,ai]
 ·have:j=zs.length:=by omega
  subst this
  simp[-List.length_flatMap,-List.flatMap_append]
  simp[-List.length_flatMap,-List.flatMap_append,fV,ou,uf,vT,fh,mC,fF,List.range,List.range.loop,List.idxOf?,HW,HX,nk,ai]
theorem aat(l:List UInt8)(hl:l.length≤12800):Ev E (an+jA) [.al [sl eB l],.al []] (.al [.au 0 0 l.length l.length,.al [.agg (l.flatMap eB),.undef]]):=by
 have hsp:l≠[]→splits [sl eB l]=[[sl eB l]]:=by
  intro h
  obtain⟨n,hn⟩:∃n,l.length=n+1:=⟨l.length-1,by have:=List.length_pos_iff.2 h;omega⟩
  simp[sl,splits,hn]
 refine UQ (fn:=gN) rfl rfl rfl ?_ ?_ ?_
 ·by_cases h0:l=[]
  ·subst h0;exact .inr (by decide)
  ·rw[hsp h0];exact .inl (Nat.le_refl _)
 ·by_cases h0:l=[]
  ·subst h0;simp[sl,splits]
  ·rw[hsp h0];simp
 intro aa has
 by_cases h0:l=[]
 ·subst h0
  simp[sl,splits]at has
  rcases has with rfl|rfl
  ·exact⟨5,by kernel_rfl⟩
  ·exact⟨5,by kernel_rfl⟩
 ·obtain⟨n,hn⟩:∃n,l.length=n+1:=⟨l.length-1,by have:=List.length_pos_iff.2 h0;omega⟩
  have hr:n+1≤room:=by unfold room;omega
  simp[sl,splits,hn]at has
  subst has
  refine abX rfl rfl ?_
  simp[gN,-List.length_flatMap]
  refine LW _ _ _ _ _ _ _ _ _ _ _ ?_
  simp[hn,hr,-List.length_flatMap,bK]
  simp[fU,A7,fV,ou,uf,vT,fh,mC,fF,List.range,List.range.loop,List.idxOf?,-List.length_flatMap,HW,HX,nk,ai]
end Go.Vi.Sz
end
section
set_option maxRecDepth 100000
namespace Go.Vi.Sz
open Go Go.Vi Go.Vi.Zz
section
variable{E:Env}{k:List Fr}{Q:Out→Prop}{outs:List (Option Nat)}{rest:nQ}(rs vars:List T)(bx:List (Option (List T)))
theorem F2(d e sz:Nat)(a:ag)(s n c:Nat)(h:a.get ⟨rs,vars,bx⟩= .au s 0 n c)(hc:0< n∧c=n*sz∨n=0∧(c=0∨c=1+sz))(hl:n*sz≤((ai bx s).getD []).length)(bV:bj (((ai bx s).getD []).take (n*sz))=true):
  O E ((none,.thaw d e sz a)::rest) outs k ⟨rs,vars,bx⟩ Q=P1 E (some (.sl (.own (8*d) e) n (((ai bx s).getD []).take (n*sz)),(St.drop s ⟨rs,vars,bx⟩).strip (2*d))) rest outs k Q:=by
 have hr:ae C0 ⟨rs,vars,bx⟩ (.thaw d e sz a)=some (.sl (.own (8*d) e) n (((ai bx s).getD []).take (n*sz)),(St.drop s ⟨rs,vars,bx⟩).strip (2*d)):=by
  simp only[ae,h]
  rw[if_pos ⟨trivial,hc,hl,bV⟩]
 rw[bE rfl,hr]
theorem lD(s e sz bytes:Nat)(zero:List T)(kind:Nat)(a b:ag)(s' n c m:Nat)(ys:List T)(old:Option (List T))(ha:a.get ⟨rs,vars,bx⟩= .au s' 0 n c)(hs:iP bx kind sz zero (b.get ⟨rs,vars,bx⟩)=some (m,ys))(ho:bx[s]? =some old)
  (h:(s=s'∨old.isNone=true)∧s%2=0∧(0< n∧c=n*sz∨n=0∧(c=0∨c=1+sz))∧n*sz≤((ai bx s').getD []).length∧ys.length=m*sz∧(n+m)*bytes≤room∧n+m≤room∧dJ (b.get ⟨rs,vars,bx⟩) ys=true):
  O E ((none,.appendB s e sz bytes zero kind a b)::rest) outs k ⟨rs,vars,bx⟩ Q=P1 E (some (.au s 0 (n+m) (if n+m=0 then c else(n+m)*sz),{St.drop s' ⟨rs,vars,bx⟩with boxes:=(St.drop s' ⟨rs,vars,bx⟩).boxes.set s (some (ah (fun x=>if x=s' then none else some x) some (((ai bx s').getD []).take (n*sz))++ys))})) rest outs k Q:=by
 have hr:ae C0 ⟨rs,vars,bx⟩ (.appendB s e sz bytes zero kind a b)=some (.au s 0 (n+m) (if n+m=0 then c else(n+m)*sz),{St.drop s' ⟨rs,vars,bx⟩with boxes:=(St.drop s' ⟨rs,vars,bx⟩).boxes.set s (some (ah (fun x=>if x=s' then none else some x) some (((ai bx s').getD []).take (n*sz))++ys))}):=by
  simp only[ae,ha,hs,ho]
  rw[if_pos ⟨trivial,h⟩]
 rw[bE rfl,hr]
end
theorem uc(d)(l:List UInt8):stripL d (l.flatMap eB)=l.flatMap eB:=by
 induction l with
 |nil=>simp
 |cons x l ih=>simp[eB,ih]
@[simp] theorem amy(l:List UInt8):(sl eB l).fG=sl eB l:=by simp[T.fG,sl]
def jD(l:List UInt8):T:= .sl (.own 0 5) l.length (l.flatMap eB)
theorem JK(b:List UInt8)(hl:b.length≤12800)(n size:Int)(hn:n< 9223372036854775808):Ev E j2 [sl eB b,.v (.int .i64 n),.v (.int .i64 size)] (jD (zB b n size)):=by
 refine aB (fn:=wG) rfl (by decide) rfl rfl rfl ?_
 have hc:=af (acz n size)
 have bV:=af (aat b hl)
 have tM:(0< b.length∧b.length=b.length*1∨b.length=0∧(b.length=0∨b.length=1+1)):=by omega
 unfold zB
 cases h:gV n size
 ·rw[if_neg (by decide)]
  simp[-List.length_flatMap,wG]
  rw[bE rfl]
  simp[-List.length_flatMap,ae]
  refine Ab _ _ _ ?_
  rw[yd (r:= .au 0 0 b.length b.length) (os:=[.agg (b.flatMap eB),.undef]) (by simp) (by simpa using bV) (by simp[-List.length_flatMap,dK])]
  simp[-List.length_flatMap,hc,h,nk,uc,dC,eJ]
  have hlen:b.length*1≤((ai [some (b.flatMap eB),none,none,none,none,none] 0).getD []).length:=by simp[-List.length_flatMap,ai,bK]
  have fL:((ai [some (b.flatMap eB),none,none,none,none,none] 0).getD []).take (b.length*1)=b.flatMap eB:=List.take_of_length_le (by simp[-List.length_flatMap,ai,bK])
  rw[F2 _ _ _ _ _ _ _ 0 b.length b.length rfl tM hlen (by rw[fL,lq]),fL]
  simp[-List.length_flatMap,St.drop,List.idxOf?,jD]
 ·rw[if_pos rfl]
  simp only[gV,Bool.and_eq_true,decide_eq_true_eq]at h
  obtain⟨⟨hw,h0⟩,h1⟩:=h
  have hs:=zA hw
  obtain⟨N,rfl⟩:∃N:Nat,n=N:=⟨n.toNat,by omega⟩
  obtain⟨S,rfl⟩:∃S:Nat,size=S:=⟨size.toNat,by omega⟩
  have hR:gV N S=true:=by simp only[gV,Bool.and_eq_true,decide_eq_true_eq];exact⟨⟨hw,h0⟩,h1⟩
  rw[Int.toNat_natCast,Int.toNat_natCast]
  simp[-List.length_flatMap,wG]
  rw[bE rfl]
  simp[-List.length_flatMap,ae]
  refine Ab _ _ _ ?_
  rw[yd (r:= .au 0 0 b.length b.length) (os:=[.agg (b.flatMap eB),.undef]) (by simp) (by simpa using bV) (by simp[-List.length_flatMap,dK])]
  simp[-List.length_flatMap,hc,hR,nk,uc,dC,eJ]
  have hlen:b.length*1≤((ai [some (b.flatMap eB),none,none,none,none,none] 0).getD []).length:=by simp[-List.length_flatMap,ai,bK]
  have fL:((ai [some (b.flatMap eB),none,none,none,none,none] 0).getD []).take (b.length*1)=b.flatMap eB:=List.take_of_length_le (by simp[-List.length_flatMap,ai,bK])
  have cj:(List.replicate S [T.v (Value.int IntKind.u8 0)]).flatten=(List.replicate S (0:UInt8)).flatMap eB:=by
   clear bV hc hR h1 hs hw h0 hlen fL tM
   induction S with
   |zero=>rfl
   |succ S ih=>rw[List.replicate_succ,List.flatten_cons,ih,List.replicate_succ];rfl
  have cI:iP [some (b.flatMap eB),none,none,none,none,none] 2 1 [T.v (Value.int IntKind.u8 0)] (.v (.int .i64 (S:Int)))=some (S,(List.replicate S (0:UInt8)).flatMap eB):=by
   rw[←cj]
   simp[iP,asNat]
  rw[lD _ _ _ _ _ _ _ _ _ _ _ 0 b.length b.length S _ none rfl cI rfl ⟨.inr rfl,rfl,tM,hlen,by rw[bK];simp,by unfold room;omega,by unfold room;omega,by simp[dJ]⟩,fL]
  have hne:¬(b.length+S=0):=by omega
  have DD:¬(S=0):=by omega
  have acB:=af (ahV b (List.replicate S 0) N (by omega) (by simp;omega) hl S)
  rw[List.length_replicate]at acB
  simp[-List.length_flatMap,-List.flatMap_append,St.drop,nk,DD]
  rw[←List.flatMap_append]
  generalize hz:b++List.replicate S (0:UInt8)=z at acB⊢
  refine CO _ _ _ ?_
  rw[xd (ss:=[2]) (fs:=[]) (r:= .al []) (os:=[.agg ((b++leB N S).flatMap eB),.undef]) (by simp[-List.length_flatMap,-List.flatMap_append,ai,HW]) (by simp[-List.length_flatMap,-List.flatMap_append,ai,HX]) rfl rfl (by simpa [-List.length_flatMap,-List.flatMap_append,iU,fF,List.idxOf?,List.range,List.range.loop,ai,nk]using acB) (by simp[-List.length_flatMap,-List.flatMap_append,dK,ai])]
  simp[-List.length_flatMap,-List.flatMap_append,dC,eJ,iU,fF,jb,List.idxOf?,nk]
  have hL:(b++leB N S).length=b.length+S:=by simp[iO]
  generalize b++leB N S=L at hL⊢
  have M3:(b.length+S)*1≤((ai [none,none,some (L.flatMap eB),none,none,none] 2).getD []).length:=by simp[-List.length_flatMap,ai,bK,hL]
  have ahW:((ai [none,none,some (L.flatMap eB),none,none,none] 2).getD []).take ((b.length+S)*1)=L.flatMap eB:=List.take_of_length_le (by simp[-List.length_flatMap,ai,bK,hL])
  rw[F2 _ _ _ _ _ _ _ 2 (b.length+S) (b.length+S) rfl (.inl ⟨by omega,by omega⟩) M3 (by rw[ahW,lq]),ahW]
  simp[-List.length_flatMap,St.drop,List.idxOf?,jD,hL]
end Go.Vi.Sz
end
section
set_option maxRecDepth 100000
namespace Go.Vi.Sz
open Go Go.Vi Go.Vi.Zz
def dj(l:List UInt8):List UInt8:=l++List.replicate (60-l.length) 0
theorem Qp{l:List UInt8}(h:l.length≤60):(dj l).length=60:=by simp[dj];omega
def fT(l:List UInt8):List UInt8:=dj l++leB (rK (dj l)) 4
theorem KW(l:List UInt8):rK l< 4294967296:=by
 have:=Cd l
 unfold rK
 omega
theorem aau(l:List UInt8):gV (rK l) 4=true:=by
 have:=KW l
 simp only[gV,Bool.and_eq_true,decide_eq_true_eq]
 refine⟨⟨rfl,by omega⟩, ?_⟩
 rw[show 2^(8*(4:Int).toNat)=4294967296 from rfl]
 omega
theorem Qq(l:List UInt8):zB l (rK l) 4=l++leB (rK l) 4:=by
 unfold zB
 rw[if_pos (aau l)]
 rfl
theorem Tv(l:List UInt8)(hl:l.length≤60):Ev E jg [sl eB l] (jD (fT l)):=by
 refine aB (fn:=qS) rfl (by decide) rfl rfl rfl ?_
 have hp:=Qp hl
 have hof:=af (akQ (dj l) (by omega))
 have ep:=af (JK (dj l) (by omega) (rK (dj l)) 4 (by have:=KW (dj l);omega))
 rw[Qq]at ep
 have hm:min l.length 60=l.length:=by omega
 have Ej:(l.flatMap eB).take l.length++(List.replicate 60 (T.v (.int .u8 0))).drop l.length=(dj l).flatMap eB:=by
  rw[List.take_of_length_le (by rw[bK];omega),List.drop_replicate,dj,List.flatMap_append]
  congr 1
  generalize 60-l.length=n
  induction n with
  |zero=>rfl
  |succ n ih=>rw[List.replicate_succ,ih,List.replicate_succ];rfl
 have h60:l.length+(60-l.length)=60:=by omega
 simp only[List.reduceReplicate]at Ej
 simp[-List.length_flatMap,qS]
 rw[bE rfl]
 simp[-List.length_flatMap,ae,sl,bK,hm,h60]
 rw[Ej]
 have fS:((dj l).flatMap eB).length=60:=by rw[bK,hp]
 have fL:((dj l).flatMap eB).take 60=(dj l).flatMap eB:=List.take_of_length_le (by omega)
 simp only[sl,hp]at hof ep
 have fB:(dj l++leB (rK (dj l)) 4).length=64:=by simp[hp,iO]
 simp only[jD,fT,fB]at ep⊢
 generalize dj l++leB (rK (dj l)) 4=L at*
 simp[-List.length_flatMap,fL,wy,uc,hof,ep,List.idxOf?,T.fresh]
 exact⟨rfl,Ql L⟩
end Go.Vi.Sz
end
section
set_option maxRecDepth 100000
namespace Go.Vi.Sz
open Go Go.Vi Go.Vi.Zz
def adL(l:List UInt8)(j:Nat)(σ:St):Prop:=∃a b c k,(k=160∨k=184)∧σ=⟨[],[sl eB l,a,qK k ((dj l).take j),.v (.int .i64 j),b,c],[]⟩
theorem HO(l:List UInt8)(hl:l.length≤60):Ev E bR [sl eB l] (jD (fT l)):=by
 refine aB (fn:=j8) rfl (by decide) rfl rfl rfl ?_
 have hp:=Qp hl
 have hof:=af (ahU (dj l) (by omega))
 have DE:dj l≠[]:=by intro h;rw[h]at hp;simp at hp
 have ep:=af (afe (dj l) DE (by omega) (rK (dj l)) 4 (by have:=KW (dj l);omega))
 rw[Qq]at ep
 simp[-List.length_flatMap,j8]
 refine m_loop 60 (adL l) ⟨_,_,_,160,.inl rfl,rfl⟩ ?_
 rintro j σ hj ⟨a,b,c,k,hk,rfl⟩
 by_cases hlt:j< 60
 ·have hjp:j< (dj l).length:=by omega
  have jO:(dj l).take (j+1)=(dj l).take j++[(dj l)[j]]:=by rw[List.take_succ_eq_append_getElem hjp]
  have oe:((dj l).take j).length=j:=by simp;omega
  have w4:IntKind.i64.wrap ((j:Int)+1)=((j+1:Nat):Int):=by rw[←Int.natCast_succ];exact aq (by omega)
  obtain⟨fq,dN⟩:j+1≤room∧1≤room:=by unfold room;omega
  have bh:(j:Int)< 60:=by omega
  have aH:∀(k:Nat) (a b c:T) (n:Nat) (cs:List T),(k=160∨k=184)→n=j+1→cs=((dj l).take j).flatMap eB++eB (dj l)[j]→adL l (j+1) ⟨[],[sl eB l,a,.sl (.own k 5) n cs,.v (.int .i64 ((j+1:Nat):Int)),b,c],[]⟩:=by
   rintro k a b c n cs hk rfl rfl
   refine⟨a,b,c,k,hk, ?_⟩
   rw[qL k (by simp[DE]),jO,List.flatMap_append,List.length_append,oe]
   simp
  by_cases kX:j< l.length
  ·have hg:(dj l)[j]=l[j]:=by simp[dj,kX]
   rw[hg]at aH
   rcases Nat.eq_zero_or_pos j with iY|iY
   ·have wU:qK k ((dj l).take j)= .sl .clip 0 []:=by subst iY;rfl
    have h0:(dj l).take j=[]:=by subst iY;rfl
    have h1:1=j+1:=by omega
    rw[wU]
    simp[-List.length_flatMap,-Int.natCast_add,bh,kX,w4,dN,hit]
    exact⟨hlt,aH 160 _ _ _ _ _ (.inl rfl) h1 (by rw[h0];rfl)⟩
   ·have fB:qK k ((dj l).take j)= .sl (.own k 5) j (((dj l).take j).flatMap eB):=by rw[qL _ (by intro hh;rw[hh]at oe;simp at oe;omega),oe]
    rw[fB]
    generalize (dj l).take j=P at*
    rcases hk with rfl|rfl<;>simp[-List.length_flatMap,-Int.natCast_add,bh,kX,w4,fq,hit,bK,oe]
    all_goals exact⟨hlt,aH 160 _ _ _ _ _ (.inl rfl) rfl rfl⟩
  ·have hg:(dj l)[j]=0:=by simp[dj,List.getElem_append_right (by omega:l.length≤j)]
   rw[hg]at aH
   rcases Nat.eq_zero_or_pos j with iY|iY
   ·have wU:qK k ((dj l).take j)= .sl .clip 0 []:=by subst iY;rfl
    have h0:(dj l).take j=[]:=by subst iY;rfl
    have h1:1=j+1:=by omega
    rw[wU]
    simp[-List.length_flatMap,-Int.natCast_add,bh,kX,w4,dN,hit]
    exact⟨hlt,aH 184 _ _ _ _ _ (.inr rfl) h1 (by rw[h0];rfl)⟩
   ·have fB:qK k ((dj l).take j)= .sl (.own k 5) j (((dj l).take j).flatMap eB):=by rw[qL _ (by intro hh;rw[hh]at oe;simp at oe;omega),oe]
    rw[fB]
    generalize (dj l).take j=P at*
    rcases hk with rfl|rfl<;>simp[-List.length_flatMap,-Int.natCast_add,bh,kX,w4,fq,hit,bK,oe]
    all_goals exact⟨hlt,aH 184 _ _ _ _ _ (.inr rfl) rfl rfl⟩
 ·have:j=60:=by omega
  subst this
  have fB:qK k ((dj l).take 60)= .sl (.own k 5) 60 ((dj l).flatMap eB):=by rw[List.take_of_length_le (by omega),qL _ DE,hp]
  rw[fB]
  have fB:(dj l++leB (rK (dj l)) 4).length=64:=by simp[hp,iO]
  rw[qL 0 (by simp[DE]),fB]at ep
  simp only[sl,hp]at hof ep
  simp only[jD,fT,fB]
  generalize dj l++leB (rK (dj l)) 4=L at*
  rcases hk with rfl|rfl<;>simp[-List.length_flatMap,hof,ep,hit,List.idxOf?]
end Go.Vi.Sz
end
section
set_option maxRecDepth 100000
namespace Go.Vi.Sz
open Go Go.Vi Go.Vi.Zz
structure aO where
 kind:Int
 impure:Int
 nlink:Int
 gen:Int
 size:Int
 p0:Int
 p1:Int
 p2:Int
 p3:Int
 attr:Int
deriving DecidableEq
def i64(n:Int):T:= .v (.int .i64 n)
def eI(x:aO):List T:=[.v (.int .i64 x.kind),.v (.int .i64 x.impure),.v (.int .i64 x.nlink),.v (.int .i64 x.gen),.v (.int .i64 x.size),.v (.int .i64 x.p0),.v (.int .i64 x.p1),.v (.int .i64 x.p2),.v (.int .i64 x.p3),.v (.int .i64 x.attr)]
def xo(n s m:Int):List T:=[.v (.int .i64 n),.v (.int .i64 s),.v (.int .i64 m)]
def gT(x:aO):List (Int×Int×Int):=[(x.kind,1,4),(x.impure,1,255),(x.nlink,2,65535),(x.gen,4,268435455),(x.size,2,256),(x.p0,2,65535),(x.p1,2,65535),(x.p2,2,65535),(x.p3,2,65535),(x.attr,2,65535)]
def eT(t:Int×Int×Int):List T:=xo t.1 t.2.1 t.2.2
theorem Da(x:aO):Ev E mG [.agg (eI x)] (.agg ((gT x).flatMap eT)):=by
 refine aB (fn:=pF) rfl (by decide) rfl rfl rfl ?_
 simp[pF,eI,gT,eT,xo]
def bT(n top:Int):Bool:=decide (0≤n)&&decide (n≤top)
theorem acC(n top:Int):Ev E gY [.v (.int .i64 n),.v (.int .i64 top)] (.v (.bool (bT n top))):=by
 refine aB (fn:=sX) rfl (by decide) rfl rfl rfl ?_
 unfold bT
 simp[sX]
 repeat' (refine kB (fun h=> ?_) (fun h=> ?_)<;>simp[*])
def Pa(x:aO):Bool:=if x.kind=1 then !(x.size==0)else if x.kind=4 then !(x.size==0)|| !(x.p0==0&&x.p1==0&&x.p2==0&&x.p3==0)else x.kind==0
theorem ahX(x:aO):Ev E AD [.agg (eI x)] (.v (.bool (Pa x))):=by
 refine aB (fn:=pb) rfl (by decide) rfl rfl rfl ?_
 unfold Pa
 by_cases h1:x.kind=1
 ·simp[pb,eI,h1]
  rfl
 ·by_cases h4:x.kind=4
  ·simp[pb,eI,h4]
   by_cases h5:x.size=0
   ·have c5:(x.size !=0)=false:=by simp[h5]
    have b5:(x.size==0)=true:=by simp[h5]
    simp[b5,c5,Bool.or_assoc]
   ·have c5:(x.size !=0)=true:=by simp[h5]
    have b5:(x.size==0)=false:=by simp[h5]
    simp[b5,c5]
  ·have b1:(x.kind==1)=false:=by simpa using h1
   have b4:(x.kind==4)=false:=by simpa using h4
   simp[pb,eI,h1,h4,b1,b4]
end Go.Vi.Sz
end
section
set_option maxRecDepth 100000
namespace Go.Vi.Sz
open Go Go.Vi Go.Vi.Zz
def vN(len sz:Nat)(isAgg:Bool)(a i:T):Option T:=match a,asNat i with
 | .agg cs,some i=>if i< len then one? isAgg sz cs (i*sz)else none
 |_,_=>none
theorem JL(σ:St)(len sz isAgg a i):ae C0 σ (.indexA len sz isAgg a i)=(vN len sz isAgg (a.get σ) (i.get σ)).map (·,σ):=by
 simp only[ae,vN]
 generalize ag.get σ a=t
 generalize asNat (ag.get σ i)=n
 cases t<;>cases n<;>try rfl
 rename_i cs n
 show(if n< len then Option.map (fun x=>(x,σ)) (one? isAgg sz cs (n*sz))else none)=Option.map (fun x=>(x,σ)) (if n< len then one? isAgg sz cs (n*sz)else none)
 by_cases h:n< len
 ·rw[if_pos h,if_pos h]
 ·rw[if_neg h,if_neg h];rfl
@[simp] theorem akS(σ:St)(len sz isAgg a i):gS σ (.indexA len sz isAgg a i)=qB (vN len sz isAgg (a.get σ) (i.get σ)):=jK (JL ..)
@[simp] theorem akT(σ:St)(len sz isAgg a i):iX σ (.indexA len sz isAgg a i)=((vN len sz isAgg (a.get σ) (i.get σ)).isSome=true):=jL (JL ..)
@[simp] theorem aiO(len sz isAgg cs kd)(j:Nat):vN len sz isAgg (.agg cs) (.v (.int kd (j:Int)))=if j< len then one? isAgg sz cs (j*sz)else none:=by
 have:asNat (.v (.int kd (j:Int)))=some j:=by simp[asNat]
 simp only[vN,this]
def Fc(t:Int×Int×Int):Bool:=decide (0≤t.1)&&decide (t.1≤t.2.2)
def cz:aO:=⟨0,0,0,0,0,0,0,0,0,0⟩
def lf(x:aO):Bool:=if x=cz then true else(gT x).all Fc&& !Pa x
@[simp] theorem ahY(t:Int×Int×Int):(eT t).length=3:=rfl
@[simp] theorem apa(x:aO):(gT x).length=10:=rfl
def RI(x:aO)(N:List (Int×Int×Int))(j:Nat)(σ:St):Prop:=(N.take j).all Fc=true∧∃a b c d e f o,(o=none∨∃t,o=some (eT t))∧σ=⟨[],[a,.ref 0 0,b,c,d,.agg (N.flatMap eT),.v (.int .i64 j),e,f],[some (eI x),none,o,none]⟩
@[simp] theorem Ce(g:aO):(eI g).length=10:=rfl
@[simp] theorem amz(g:aO):bj (eI g)=true:=rfl
@[simp] theorem apb(d:Nat)(g:aO):stripL d (eI g)=eI g:=by simp[eI]
@[simp] theorem apc(bx k)(g:aO):(eI g).mapM (close bx (k+1))=some (eI g):=by simp[eI]
@[simp] theorem Qr(s)(g:aO):aR s (eI g)=true:=by simp[eI]
@[simp] theorem amA(g:aO):aZ (eI g)=false:=by simp[eI]
@[simp] theorem aqA(g:aO):rF (eI g)=true:=rfl
@[simp] theorem aqB(g:aO):one? true 10 (eI g) 0=some (.agg (eI g)):=rfl
@[simp] theorem aqb(g:aO):jx (eI g)=eI g:=by simp[eI]
@[simp] theorem aqc(g:aO):gX (eI g)=[]:=by simp[eI]
@[simp] theorem apd(ρ η)(g:aO):ah ρ η (eI g)=eI g:=by simp[eI]
@[simp] theorem amB(d)(g:aO):dz d (eI g)=eI g:=by simp[eI]
theorem KX(x:aO)(h:x≠cz):cw [.int,.int,.int,.int,.int,.int,.int,.int,.int,.int] (eI x) (List.replicate 10 (.v (.int .i64 0)))=some false:=by
 have e:cw [.int,.int,.int,.int,.int,.int,.int,.int,.int,.int] (eI x) (List.replicate 10 (.v (.int .i64 0)))=some (x.kind==0&&(x.impure==0&&(x.nlink==0&&(x.gen==0&&(x.size==0&&(x.p0==0&&(x.p1==0&&(x.p2==0&&(x.p3==0&&(x.attr==0&&true)))))))))):=by
  simp[eI,List.replicate]
 rw[e,Option.some.injEq,Bool.eq_false_iff]
 intro hh
 simp only[Bool.and_eq_true,beq_iff_eq]at hh
 obtain⟨h1,h2,h3,h4,h5,h6,h7,h8,h9,RZ,_⟩:=hh
 refine h ?_
 cases x
 simp only at h1 h2 h3 h4 h5 h6 h7 h8 h9 RZ
 subst h1 h2 h3 h4 h5 h6 h7 h8 h9 RZ
 rfl
theorem My(d)(l:List (Int×Int×Int)):stripL d (l.flatMap eT)=l.flatMap eT:=by
 induction l with
 |nil=>simp
 |cons x l ih=>simp[eT,xo,ih]
theorem oq(k)(l:List (Int×Int×Int)):aR k (l.flatMap eT)=true:=by
 induction l with
 |nil=>simp
 |cons x l ih=>simp[eT,xo,ih]
theorem Db(d)(l:List (Int×Int×Int)):dz d (l.flatMap eT)=l.flatMap eT:=by
 induction l with
 |nil=>simp
 |cons x l ih=>simp[eT,xo,ih]
theorem Qs(l:List (Int×Int×Int))(k:Nat)(hk:k< l.length):one? true 3 (l.flatMap eT) (k*3)=some (.agg (eT l[k])):=tA ahY l k hk
theorem aav(x:aO):Ev E xx [.agg (eI x)] (.v (.bool (lf x))):=by
 refine aB (fn:=oW) rfl (by decide) rfl rfl rfl ?_
 have hn:=af (Da x)
 have ho:=af (ahX x)
 unfold lf
 by_cases hz:x=cz
 ·subst hz
  simp[oW,eI,cz]
 ·rw[if_neg hz]
  have he:=KX x hz
  simp only[List.reduceReplicate]at he
  generalize hN:gT x=N at hn
  have zC:N.length=10:=by rw[←hN];rfl
  simp[-List.length_flatMap,oW,he,hn,T.fresh,T.fresh2,Db]
  refine m_loop 10 (RI x N) ⟨rfl,_,_,_,_,_,_,_,.inl rfl,rfl⟩ ?_
  rintro j σ hj ⟨Fj,a,b,c,d,e,f,o,BA,rfl⟩
  by_cases hlt:j< 10
  ·have bh:(j:Int)< 10:=by omega
   have Qt:j< N.length:=by omega
   have bF:=Qs N j Qt
   have hst:N.take (j+1)=N.take j++[N[j]]:=by rw[List.take_succ_eq_append_getElem Qt]
   have w4:IntKind.i64.wrap ((j:Int)+1)=((j+1:Nat):Int):=by rw[←Int.natCast_succ];exact aq (by omega)
   obtain⟨⟨n,s,m⟩,hT⟩:∃t,N[j]=t:=⟨_,rfl⟩
   rw[hT]at bF hst
   have aH:0≤n∧n≤m→∀a b c d e f,RI x N (j+1) ⟨[],[a,.ref 0 0,b,c,d,.agg (N.flatMap eT),.v (.int .i64 ((j+1:Nat):Int)),e,f],[some (eI x),none,some (eT (n,s,m)),none]⟩:=by
    rintro⟨g1,g2⟩ a b c d e f
    refine⟨?_,a,b,c,d,e,f,_,.inr ⟨_,rfl⟩,rfl⟩
    rw[hst,List.all_append,Fj]
    simp[Fc,g1,g2]
   have kM:(n,s,m)∈N:=by rw[←hT];exact List.getElem_mem Qt
   have pr:¬(0≤n∧n≤m)→N.all Fc=false:=by
    intro hb
    rw[List.all_eq_false]
    refine⟨_,kM, ?_⟩
    simp only[Fc,Bool.and_eq_true,decide_eq_true_eq]
    exact hb
   simp only[eT,xo]at aH bF
   by_cases g1:n< 0
   ·have hb:=pr (by omega)
    rcases BA with rfl|⟨t,rfl⟩<;>simp[-List.length_flatMap,-Int.natCast_add,bh,hlt,bF,oq,eT,xo,g1,hb]
   ·by_cases g2:m< n
    ·have hb:=pr (by omega)
     rcases BA with rfl|⟨t,rfl⟩<;>simp[-List.length_flatMap,-Int.natCast_add,bh,hlt,bF,oq,eT,xo,g1,g2,hb]
    ·have hf:=aH ⟨by omega,by omega⟩
     rcases BA with rfl|⟨t,rfl⟩<;>simp[-List.length_flatMap,-Int.natCast_add,bh,hlt,bF,oq,eT,xo,g1,g2,w4,hf]
  ·have:j=10:=by omega
   subst this
   have iy:N.all Fc=true:=by rw[←List.take_of_length_le (by omega:N.length≤10)];exact Fj
   rcases BA with rfl|⟨t,rfl⟩<;>simp[-List.length_flatMap,ho,iy,T.fresh,T.fresh2,oq,eT,xo]
end Go.Vi.Sz
end
section
set_option maxRecDepth 100000
namespace Go.Vi.Sz
open Go Go.Vi Go.Vi.Zz
def tD(x:aO):List Int:=[x.p0,x.p1,x.p2,x.p3]
def yl(x:aO)(p:Int):Bool:=bT p 65535&&(!(x.kind==4)||p==0)
theorem Al(x:aO)(h:x≠cz):lf x=(decide (1≤x.kind)&&decide (x.kind≤4)&&bT x.impure 255&&bT x.nlink 65535&&bT x.attr 65535&&bT x.gen 268435455&&bT x.size 256&&(!(x.kind==1||x.kind==4)||x.size==0)&&(tD x).all (yl x)):=by
 unfold lf
 rw[if_neg h]
 rw[Bool.eq_iff_iff]
 simp[gT,Fc,Pa,tD,yl,bT]
 by_cases h1:x.kind=1
 ·simp[h1];omega
 ·by_cases h4:x.kind=4
  ·simp[h4];omega
  ·simp[h1,h4];omega
def RJ(x:aO)(j:Nat)(σ:St):Prop:=((tD x).take j).all (yl x)=true∧∃a b c d e f g,σ=⟨[],[a,.ref 0 0,b,.v (.int .i64 j),c,d,e,f,g],[some (eI x),none]⟩
theorem aff(x:aO)(j:Nat)(h:j< 4):cp (eI x) (5+j)=some (.v (.int .i64 ((tD x)[j]'(by simpa [tD]using h)))):=by
 match j,h with
 |0,_=>rfl
 |1,_=>rfl
 |2,_=>rfl
 |3,_=>rfl
theorem Qu(x:aO):Ev E sO [.agg (eI x)] (.v (.bool (lf x))):=by
 refine aB (fn:=dB) rfl (by decide) rfl rfl rfl ?_
 have hc:∀n top,dI E gY [.v (.int .i64 n),.v (.int .i64 top)]=some (.v (.bool (bT n top))):=fun n top=>af (acC n top)
 by_cases hz:x=cz
 ·subst hz
  simp[dB,eI,cz,lf]
 ·rw[Al x hz]
  have he:=KX x hz
  simp only[List.reduceReplicate]at he
  have hk:cp (eI x) 0=some (.v (.int .i64 x.kind)):=rfl
  have k1:cp (eI x) 1=some (.v (.int .i64 x.impure)):=rfl
  have k2:cp (eI x) 2=some (.v (.int .i64 x.nlink)):=rfl
  have k3:cp (eI x) 3=some (.v (.int .i64 x.gen)):=rfl
  have k4:cp (eI x) 4=some (.v (.int .i64 x.size)):=rfl
  have k9:cp (eI x) 9=some (.v (.int .i64 x.attr)):=rfl
  by_cases c1:x.kind< 1
  ·have d1:¬1≤x.kind:=by omega
   simp[dB,he,hk,c1,d1]
  have d1:1≤x.kind:=by omega
  by_cases c2:4< x.kind
  ·have d2:¬x.kind≤4:=by omega
   simp[dB,he,hk,c1,d1,c2,d2]
  have d2:x.kind≤4:=by omega
  cases q1:bT x.impure 255
  ·simp[dB,he,hk,k1,hc,c1,d1,c2,d2,q1]
  cases q2:bT x.nlink 65535
  ·simp[dB,he,hk,k1,k2,hc,c1,d1,c2,d2,q1,q2]
  cases q3:bT x.attr 65535
  ·simp[dB,he,hk,k1,k2,k9,hc,c1,d1,c2,d2,q1,q2,q3]
  cases q4:bT x.gen 268435455
  ·simp[dB,he,hk,k1,k2,k9,k3,hc,c1,d1,c2,d2,q1,q2,q3,q4]
  cases q5:bT x.size 256
  ·simp[dB,he,hk,k1,k2,k9,k3,k4,hc,c1,d1,c2,d2,q1,q2,q3,q4,q5]
  by_cases q6:(x.kind=1∨x.kind=4)∧x.size≠0
  ·obtain⟨h14,h0⟩:=q6
   have b0:(x.size==0)=false:=by simpa using h0
   have b0':(x.size !=0)=true:=by simpa using h0
   by_cases g1:x.kind=1
   ·simp[dB,he,hk,k1,k2,k9,k3,k4,hc,q1,q2,q3,q4,q5,g1,b0,b0']
   ·have g4:x.kind=4:=by omega
    simp[dB,he,hk,k1,k2,k9,k3,k4,hc,q1,q2,q3,q4,q5,g4,b0,b0']
  ·have hs:(!(x.kind==1||x.kind==4)||x.size==0)=true:=by
    rw[Bool.or_eq_true,Bool.not_eq_true',Bool.or_eq_false_iff,beq_eq_false_iff_ne,beq_eq_false_iff_ne,beq_iff_eq]
    omega
   rw[hs]
   have hsz:(x.kind==1)=true∨(x.kind==4)=true→(x.size !=0)=false:=by
    intro h
    simp only[beq_iff_eq]at h
    have:x.size=0:=by omega
    simp[this]
   cases b1:(x.kind==1)<;>cases b4:(x.kind==4)
   all_goals
    have b0:=hsz
    simp only[b1,b4,true_or,or_true,or_self,forall_const,Bool.false_eq_true,false_implies]at b0
    simp[dB,he,hk,k1,k2,k9,k3,k4,hc,c1,d1,c2,d2,q1,q2,q3,q4,q5,b1,b4,b0]
    refine m_loop 4 (RJ x) ⟨rfl,_,_,_,_,_,_,_,rfl⟩ ?_
    rintro j σ hj ⟨Fj,a,b,c,d,e,f,g,rfl⟩
    by_cases hlt:j< 4
    ·have bh:(j:Int)< 4:=by omega
     have hjp:j< (tD x).length:=hlt
     have hp:=aff x j hlt
     have hst:(tD x).take (j+1)=(tD x).take j++[(tD x)[j]]:=by rw[List.take_succ_eq_append_getElem hjp]
     have kM:(tD x)[j]∈tD x:=List.getElem_mem hjp
     have w4:IntKind.i64.wrap ((j:Int)+1)=((j+1:Nat):Int):=by rw[←Int.natCast_succ];exact aq (by omega)
     generalize (tD x)[j]=p at*
     have Am:yl x p=true→∀a b c d e f g,RJ x (j+1) ⟨[],[a,.ref 0 0,b,.v (.int .i64 ((j+1:Nat):Int)),c,d,e,f,g],[some (eI x),none]⟩:=by
      intro g1 a b c d e f g
      refine⟨?_,a,b,c,d,e,f,g,rfl⟩
      rw[hst,List.all_append,Fj]
      simp[g1]
     have pr:yl x p=false→(tD x).all (yl x)=false:=by
      intro hb
      rw[List.all_eq_false]
      exact⟨_,kM,by simp[hb]⟩
     have yU:yl x p=(bT p 65535&&(!(x.kind==4)||p==0)):=rfl
     rw[yU]at Am pr
     cases g1:bT p 65535
     ·have hb:=pr (by simp[g1])
      simp[-Int.natCast_add,bh,hlt,hp,hc,g1,hb]
     ·by_cases g2:p=0
      ·have m2:(p==0)=true:=by simpa using g2
       have m3:(p !=0)=false:=by simpa using g2
       have hf:=Am (by simp only[g1,m2,Bool.or_true,Bool.and_self])
       simp[-Int.natCast_add,bh,hlt,hp,hc,g1,m3,hf,w4,hk,b4]
      ·have n2:(p !=0)=true:=by simpa using g2
       have n3:(p==0)=false:=by simpa using g2
       rcases Bool.eq_false_or_eq_true (x.kind==4)with g4|g4
       ·have hb:=pr (by simp only[g1,n3,g4,Bool.not_true,Bool.or_self,Bool.and_false])
        simp[-Int.natCast_add,bh,hlt,hp,hc,g1,n2,hb,hk,g4]
       ·have hf:=Am (by simp only[g1,n3,g4,Bool.not_false,Bool.or_false,Bool.and_self])
        simp[-Int.natCast_add,bh,hlt,hp,hc,g1,hf,w4,hk,g4]
    ·have:j=4:=by omega
     subst this
     have iy:(tD x).all (yl x)=true:=Fj
     simp[iy]
end Go.Vi.Sz
end
section
set_option maxRecDepth 100000
namespace Go.Vi.Sz
open Go Go.Vi Go.Vi.Zz
def fx(N:List (Int×Int×Int)):List UInt8:=N.flatMap fun t=>leB t.1.toNat t.2.1.toNat
def nv(x:aO):List UInt8:=if x=cz then List.replicate 64 0 else fT (fx (gT x))
def PJ(x:aO)(N:List (Int×Int×Int))(j:Nat)(σ:St):Prop:=∃a r b c d e f g o k,(o=none∨∃t,o=some (eT t))∧(k=if j=0 then T.sl .nil 0 []else .sl (.own 208 5) (fx (N.take j)).length ((fx (N.take j)).flatMap eB))∧
 σ=⟨[],[a,r,b,c,k,d,e,f,.agg (N.flatMap eT),.v (.int .i64 j),g],[some (eI x),none,o,none]⟩
theorem Vy{x:aO}(h:(gT x).all Fc=true)(t:Int×Int×Int)(ht:t∈gT x):gV t.1 t.2.1=true∧t.1< 9223372036854775808:=by
 have h1:=List.all_eq_true.1 h t ht
 simp only[Fc,Bool.and_eq_true,decide_eq_true_eq]at h1
 simp only[gT,List.mem_cons,List.not_mem_nil,or_false]at ht
 rcases ht with rfl|rfl|rfl|rfl|rfl|rfl|rfl|rfl|rfl|rfl
 all_goals
  simp only at h1
  refine⟨?_,by omega⟩
  simp only[gV,wid,Bool.and_eq_true,decide_eq_true_eq]
  refine⟨⟨rfl,h1.1⟩,Int.lt_of_le_of_lt h1.2 (by decide)⟩
theorem afg(x:aO):Ev E gi [.agg (eI x)] (if lf x then .al [jD (nv x),.v (.int .i64 0)]else .al [.sl .nil 0 [],.v (.int .i64 1)]):=by
 refine aB (fn:=jT) rfl (by decide) rfl rfl rfl ?_
 have hr:=af (aav x)
 have hn:=af (Da x)
 have hk:cp (eI x) 0=some (.v (.int .i64 x.kind)):=rfl
 cases h:lf x
 ·simp[jT,hr,h,T.fresh,T.fresh2]
 ·by_cases hz:x=cz
  ·subst hz
   have BB:(cz.kind==0)=true:=rfl
   simp[jT,hr,h,T.fresh,T.fresh2,hk,BB]
   rw[bE rfl]
   have fB:jD (nv cz)= .sl (.own 0 5) 64 (List.replicate 64 (.v (.int .u8 0))):=by
    rw[nv,if_pos rfl]
    rfl
   simp only[List.reduceReplicate]at fB
   simp[ae,asNat,fB,room,List.idxOf?]
  ·have BB:(x.kind==0)=false:=by
    rw[Al x hz]at h
    simp only[Bool.and_eq_true,decide_eq_true_eq]at h
    rw[beq_eq_false_iff_ne]
    omega
   simp[jT,hr,h,T.fresh,T.fresh2,hk,BB,hn,Db]
   refine m_loop 10 (PJ x (gT x)) ⟨_,_,_,_,_,_,_,_,_,_,.inl rfl,rfl,rfl⟩ ?_
   have iy:(gT x).all Fc=true:=by
    have h':=h
    unfold lf at h'
    rw[if_neg hz,Bool.and_eq_true]at h'
    exact h'.1
   have hR:=Vy iy
   rintro j σ hj ⟨a,r,b,c,d,e,f,g,o,k,BA,pW,rfl⟩
   have zC:(gT x).length=10:=rfl
   have fS:(fx (gT x)).length=20:=by simp[fx,gT,iO]
   have Vz:nv x=fT (fx (gT x)):=by rw[nv,if_neg hz]
   have htN:(gT x).take 10=gT x:=rfl
   have iq:=af (Tv (fx (gT x)) (by omega))
   generalize gT x=N at*
   by_cases hlt:j< 10
   ·have bh:(j:Int)< 10:=by omega
    have Qt:j< N.length:=by omega
    have bF:=Qs N j Qt
    have kM:N[j]∈N:=List.getElem_mem Qt
    have hst:N.take (j+1)=N.take j++[N[j]]:=by rw[List.take_succ_eq_append_getElem Qt]
    have w4:IntKind.i64.wrap ((j:Int)+1)=((j+1:Nat):Int):=by rw[←Int.natCast_succ];exact aq (by omega)
    have hle:(fx (N.take j)).length≤20:=by
     have e:fx N=fx (N.take j)++fx (N.drop j):=by rw[fx,fx,fx,←List.flatMap_append,List.take_append_drop]
     rw[e,List.length_append]at fS
     omega
    have dE:=hR _ kM
    obtain⟨⟨n,s,m⟩,hT⟩:∃t,N[j]=t:=⟨_,rfl⟩
    rw[hT]at bF hst dE
    simp only[eT,xo]at bF
    have ep:=af (JK (fx (N.take j)) (by omega) n s dE.2)
    have hP:zB (fx (N.take j)) n s=fx (N.take (j+1)):=by
     rw[zB,if_pos dE.1,hst,fx,fx,List.flatMap_append]
     simp
    rw[hP]at ep
    simp only[sl,jD]at ep
    have aH:∀a r b c d e f g,PJ x N (j+1) ⟨[],[a,r,b,c,.sl (.own 208 5) (fx (N.take (j+1))).length ((fx (N.take (j+1))).flatMap eB),d,e,f,.agg (N.flatMap eT),.v (.int .i64 ((j+1:Nat):Int)),g],[some (eI x),none,some (eT (n,s,m)),none]⟩:=
     fun a r b c d e f g=>⟨a,r,b,c,d,e,f,g,_,_,.inr ⟨_,rfl⟩,by rw[if_neg (by omega)],rfl⟩
    simp only[eT,xo]at aH
    generalize fx (N.take (j+1))=L at*
    by_cases iY:j=0
    ·have kY:fx (N.take j)=[]:=by rw[iY];rfl
     rw[if_pos iY]at pW
     rw[kY]at ep
     simp only[List.length_nil,List.flatMap_nil]at ep
     subst pW
     rcases BA with rfl|⟨t,rfl⟩<;>simp[-List.length_flatMap,-Int.natCast_add,bh,hlt,bF,oq,My,eT,xo,ep,w4,aH,T.fresh,T.fresh2]
     all_goals exact aH _ _ _ _ _ _ _ _
    ·rw[if_neg iY]at pW
     subst pW
     generalize fx (N.take j)=P at*
     rcases BA with rfl|⟨t,rfl⟩<;>simp[-List.length_flatMap,-Int.natCast_add,bh,hlt,bF,oq,My,eT,xo,ep,w4,aH,hit,T.fresh,T.fresh2]
     all_goals exact aH _ _ _ _ _ _ _ _
   ·have:j=10:=by omega
    subst this
    rw[if_neg (by decide)]at pW
    subst pW
    simp only[sl,jD]at iq
    rw[Vz,htN]
    rcases BA with rfl|⟨t,rfl⟩<;>simp[-List.length_flatMap,T.fresh,T.fresh2,oq,eT,xo,iq,jD,List.idxOf?]
end Go.Vi.Sz
end
section
set_option maxRecDepth 100000
namespace Go.Vi.Sz
open Go Go.Vi Go.Vi.Zz
def bf(bs:List UInt8)(a s:Int):Int:=mg (rk bs a s)
theorem Gh{bs:List UInt8}(hl:bs.length=64)(a s:Int)(h:vf 64 a s=true):AV bs a s= .al [.v (.int .i64 (bf bs a s)),.v (.bool true)]:=by
 unfold AV
 rw[hl,h,if_pos rfl]
 rfl
def rd(bs:List UInt8):aO:=⟨bf bs 0 1,bf bs 1 1,bf bs 2 2,bf bs 4 4,bf bs 8 2,bf bs 10 2,bf bs 12 2,bf bs 14 2,bf bs 16 2,bf bs 18 2⟩
def ahZ:List Int:=[0,1,2,4,8,10,12,14,16,18,20]
def RdI(bs:List UInt8)(L:List Int)(N:List (Int×Int×Int))(j:Nat)(σ:St):Prop:=∃a b c o,(o=none∨∃t,o=some (eT t))∧
 σ=⟨[],[sl eB bs,.ref 0 0,.ref 2 0,.v (.int .i64 (ahZ.getD j 0)),a,b,.agg (N.flatMap eT),.v (.int .i64 j),c],[some (eI cz),none,some ((L.take j).map i64++List.replicate (10-j) (i64 0)),none,o,none]⟩
theorem afh(bs:List UInt8)(hl:bs.length=64):Ev E fk [sl eB bs] (.agg (eI (rd bs))):=by
 refine aB (fn:=lN) rfl (by decide) rfl rfl rfl ?_
 have hn:=af (Da cz)
 have g0:=af (ni bs (by omega) 0 1)
 have g1:=af (ni bs (by omega) 1 1)
 have g2:=af (ni bs (by omega) 2 2)
 have g3:=af (ni bs (by omega) 4 4)
 have g4:=af (ni bs (by omega) 8 2)
 have g5:=af (ni bs (by omega) 10 2)
 have g6:=af (ni bs (by omega) 12 2)
 have g7:=af (ni bs (by omega) 14 2)
 have g8:=af (ni bs (by omega) 16 2)
 have g9:=af (ni bs (by omega) 18 2)
 rw[Gh hl _ _ rfl]at g0 g1 g2 g3 g4 g5 g6 g7 g8 g9
 unfold rd
 generalize bf bs 0 1=v0 at*
 generalize bf bs 1 1=v1 at*
 generalize bf bs 2 2=v2 at*
 generalize bf bs 4 4=v3 at*
 generalize bf bs 8 2=v4 at*
 generalize bf bs 10 2=v5 at*
 generalize bf bs 12 2=v6 at*
 generalize bf bs 14 2=v7 at*
 generalize bf bs 16 2=v8 at*
 generalize bf bs 18 2=v9 at*
 have hz:eI cz=List.replicate 10 (.v (.int .i64 0)):=rfl
 simp only[List.reduceReplicate]at hz
 rw[hz]at hn
 simp[-List.length_flatMap,lN,hn,Db]
 refine m_loop 10 (RdI bs [v0,v1,v2,v3,v4,v5,v6,v7,v8,v9] (gT cz)) ⟨_,_,_,_,.inl rfl,rfl⟩ ?_
 rintro j σ hj ⟨a,b,c,o,BA,rfl⟩
 have hN:(gT cz).flatMap eT=(gT cz).flatMap eT:=rfl
 by_cases hlt:j< 10
 ·have bh:(j:Int)< 10:=by omega
  have bF:=Qs (gT cz) j (by simpa using hlt)
  have w4:IntKind.i64.wrap ((j:Int)+1)=((j+1:Nat):Int):=by rw[←Int.natCast_succ];exact aq (by omega)
  have hc:j=0∨j=1∨j=2∨j=3∨j=4∨j=5∨j=6∨j=7∨j=8∨j=9:=by omega
  rcases BA with rfl|⟨t,rfl⟩<;>rcases hc with rfl|rfl|rfl|rfl|rfl|rfl|rfl|rfl|rfl|rfl<;>simp[-List.length_flatMap,eT,xo,gT,cz,ahZ,i64,vN,asNat,one?,g0,g1,g2,g3,g4,g5,g6,g7,g8,g9]
  all_goals exact⟨_,_,_,_,.inr ⟨(_,_,_),rfl⟩,rfl⟩
 ·have:j=10:=by omega
  subst this
  rcases BA with rfl|⟨t,rfl⟩<;>simp[-List.length_flatMap,i64,hz,oq,eT,xo,asNat]
  all_goals
   rw[bE rfl]
   simp[ae]
   rfl
theorem AW(a b:List UInt8):Ev E cf [sl eB a,sl eB b] (.v (.bool (decide (a=b)))):=by
 refine aB (fn:=mo) rfl (by decide) rfl rfl rfl ?_
 simp[-List.length_flatMap,mo]
 rw[ub _ _ _ _ a rfl]
 simp[-List.length_flatMap]
 rw[ub _ _ _ _ b rfl]
 simp[-List.length_flatMap]
 rw[Bool.eq_iff_iff]
 simp
def SaI(a b:List UInt8)(j:Nat)(σ:St):Prop:=a.take j=b.take j∧∃x c d e,σ=⟨[],[sl eB a,sl eB b,x,.v (.int .i64 j),c,d,e],[]⟩
theorem yz(a b:List UInt8)(hl:a.length≤12800):Ev E fj [sl eB a,sl eB b] (.v (.bool (decide (a=b)))):=by
 refine aB (fn:=pT) rfl (by decide) rfl rfl rfl ?_
 by_cases Bx:a.length=b.length
 ·simp[-List.length_flatMap,pT,Bx]
  refine m_loop b.length (SaI a b) ⟨rfl,_,_,_,_,rfl⟩ ?_
  rintro j σ hj ⟨ht,x,c,d,e,rfl⟩
  by_cases hlt:j< b.length
  ·have bh:(j:Int)< a.length:=by omega
   have hja:j< a.length:=by omega
   have w4:IntKind.i64.wrap ((j:Int)+1)=((j+1:Nat):Int):=by rw[←Int.natCast_succ];exact aq (by omega)
   have hst:a.take (j+1)=a.take j++[a[j]]:=by rw[List.take_succ_eq_append_getElem hja]
   have VA:b.take (j+1)=b.take j++[b[j]]:=by rw[List.take_succ_eq_append_getElem hlt]
   by_cases he:a[j]=b[j]
   ·have hn:SaI a b (j+1)=SaI a b (j+1):=rfl
    simp[-List.length_flatMap,-Int.natCast_add,bh,hja,hlt,w4,he]
    exact⟨by rw[hst,VA,ht,he],_,_,_,_,rfl⟩
   ·have hne:¬a=b:=fun h=>he (by subst h;rfl)
    have hb:((a[j].toNat:Int) !=(b[j].toNat:Int))=true:=by
     simp only[bne_iff_ne,ne_eq,Int.natCast_inj]
     exact fun h=>he (UInt8.toNat.inj h)
    simp[-List.length_flatMap,-Int.natCast_add,bh,hja,hlt,hb,hne]
  ·have:j=b.length:=by omega
   subst this
   have he:a=b:=by rw[←List.take_length (l:=b),←ht,←Bx,List.take_length]
   simp[-List.length_flatMap,he]
 ·have hb:((a.length:Int) !=(b.length:Int))=true:=by simp only[bne_iff_ne,ne_eq,Int.natCast_inj];exact Bx
  have hne:¬a=b:=fun h=>Bx (by rw[h])
  simp[-List.length_flatMap,pT,hb,hne]
def nS(bs:List UInt8):Option aO:=if lf (rd bs)=true∧bs=nv (rd bs)then some (rd bs)else none
def AX(o:Option aO):T:= .al [.agg (eI (o.getD cz)),.v (.bool o.isSome)]
theorem Gi:eI cz=List.replicate 10 (.v (.int .i64 0)):=rfl
theorem afi(bs:List UInt8)(hl:bs.length=64):Ev E jQ [sl eB bs] (AX (nS bs)):=by
 refine aB (fn:=jS) rfl (by decide) rfl rfl rfl ?_
 have h1:=af (afh bs hl)
 have h2:=af (afg (rd bs))
 have hz:=Gi
 simp only[List.reduceReplicate]at hz
 have h3:dI E cf [sl eB bs,.sl .any (nv (rd bs)).length ((nv (rd bs)).flatMap eB)]=some (.v (.bool (decide (bs=nv (rd bs))))):=af (AW bs (nv (rd bs)))
 unfold nS AX
 generalize rd bs=x at*
 cases h:lf x
 ·simp[jS,h1,h2,h,T.fresh,T.fresh2,hz]
 ·generalize nv x=c at*
  by_cases hb:bs=c
  ·rw[if_pos ⟨rfl,hb⟩]
   rw[decide_eq_true hb]at h3
   simp[jS,h1,h2,h,T.fresh,T.fresh2,jD,h3]
  ·rw[if_neg (fun hh=>hb hh.2)]
   rw[decide_eq_false hb]at h3
   simp[jS,h1,h2,h,T.fresh,T.fresh2,hz,jD,h3]
end Go.Vi.Sz
end
section
set_option maxRecDepth 100000
namespace Go.Vi.Sz
open Go Go.Vi Go.Vi.Zz
theorem wrap_u8{n:Nat}(h:n< 256):IntKind.u8.wrap (n:Int)=((UInt8.ofNat n).toNat:Int):=by
 have e:(UInt8.ofNat n).toNat=n:=by rw[UInt8.toNat_ofNat'];omega
 rw[e,IntKind.wrap_u8];omega
theorem AY(n:Nat):∃a b,leB n 2=[a,b]:=⟨_,_,rfl⟩
theorem ah0(n:Nat):∃a b c d,leB n 4=[a,b,c,d]:=⟨_,_,_,_,rfl⟩
def ByI(x:List T)(H:List UInt8)(P:List (UInt8×UInt8))(j:Nat)(σ:St):Prop:=∃a r c d,
 σ=⟨[],[a,.ref 0 0,r,.sl (.own (if j=0 then 232 else 320) 5) (10+2*j) ((H++(P.take j).flatMap fun p=>[p.1,p.2]).flatMap eB),.v (.int .i64 j),c,d],[some x,none]⟩
theorem Fq(N S:Nat)(h:N< 9223372036854775808)(hS:S≤8)(DD:0< S)(n:Int)(hn:n=N)(s:Int)(hs:s=S):dI E dX [.v (.int .i64 n),.v (.int .i64 s)]=some (jD (leB N S)):=by
 subst hn hs
 have:=af (Mx N S h hS)
 rw[qL 0 (by intro hh;have:=iO N S;rw[hh]at this;simp at this;omega)]at this
 exact this
theorem VB(x:aO)(h:lf x=true):Ev E cY [.agg (eI x)] (jD (nv x)):=by
 refine aB (fn:=ig) rfl (by decide) rfl rfl rfl ?_
 by_cases hz:x=cz
 ·subst hz
  have fB:jD (nv cz)= .sl (.own 0 5) 64 (List.replicate 64 (.v (.int .u8 0))):=by
   rw[nv,if_pos rfl]
   rfl
  simp only[List.reduceReplicate]at fB
  simp[ig,eI,cz]
  rw[bE rfl]
  simp[ae,asNat,room,List.idxOf?]
  exact fB.symm
 ·have hb:(fx (gT x)).length=20:=by simp[fx,gT,iO]
  have Vz:nv x=fT (fx (gT x)):=by rw[nv,if_neg hz]
  have iq:=af (HO (fx (gT x)) (by omega))
  rw[Al x hz]at h
  have he:=KX x hz
  obtain⟨kind,impure,nlink,gen,size,p0,p1,p2,p3,attr⟩:=x
  simp[bT,tD,yl]at h
  obtain⟨⟨⟨⟨⟨⟨⟨⟨h1,h2⟩,h3⟩,h4⟩,h5⟩,h6⟩,h7⟩,h8⟩,h9⟩:=h
  have xp:∀n:Int,0≤n→∃N:Nat,n=N:=fun n h=>⟨n.toNat,by omega⟩
  obtain⟨K,rfl⟩:=xp kind (by omega)
  obtain⟨I,rfl⟩:=xp impure (by omega)
  obtain⟨L,rfl⟩:=xp nlink (by omega)
  obtain⟨G,rfl⟩:=xp gen (by omega)
  obtain⟨S,rfl⟩:=xp size (by omega)
  obtain⟨P0,rfl⟩:=xp p0 (by omega)
  obtain⟨P1,rfl⟩:=xp p1 (by omega)
  obtain⟨P2,rfl⟩:=xp p2 (by omega)
  obtain⟨P3,rfl⟩:=xp p3 (by omega)
  obtain⟨A,rfl⟩:=xp attr (by omega)
  have bL:=Fq L 2 (by omega) (by decide) (by decide) _ rfl 2 rfl
  have bG:=Fq G 4 (by omega) (by decide) (by decide) _ rfl 4 rfl
  have bS:=Fq S 2 (by omega) (by decide) (by decide) _ rfl 2 rfl
  have b0:=Fq P0 2 (by omega) (by decide) (by decide) _ rfl 2 rfl
  have b1:=Fq P1 2 (by omega) (by decide) (by decide) _ rfl 2 rfl
  have b2:=Fq P2 2 (by omega) (by decide) (by decide) _ rfl 2 rfl
  have b3:=Fq P3 2 (by omega) (by decide) (by decide) _ rfl 2 rfl
  have bA:=Fq A 2 (by omega) (by decide) (by decide) _ rfl 2 rfl
  have wK:=wrap_u8 (n:=K) (by omega)
  have wI:=wrap_u8 (n:=I) (by omega)
  have lK:leB K 1=[UInt8.ofNat K]:=by simp only[leB];rw[Nat.mod_eq_of_lt (by omega)]
  have lI:leB I 1=[UInt8.ofNat I]:=by simp only[leB];rw[Nat.mod_eq_of_lt (by omega)]
  have DQ:fx (gT ⟨K,I,L,G,S,P0,P1,P2,P3,A⟩)=[UInt8.ofNat K,UInt8.ofNat I]++leB L 2++leB G 4++leB S 2++leB P0 2++leB P1 2++leB P2 2++leB P3 2++leB A 2:=by
   simp[fx,gT,lK,lI]
  rw[Vz]
  rw[DQ]at iq⊢
  clear Vz DQ lK lI hb
  obtain⟨l0,l1,e⟩:=AY L;rw[e]at bL iq⊢
  obtain⟨g0,g1,g2,g3,e⟩:=ah0 G;rw[e]at bG iq⊢
  obtain⟨s0,s1,e⟩:=AY S;rw[e]at bS iq⊢
  obtain⟨u0,v0,e⟩:=AY P0;rw[e]at b0 iq⊢
  obtain⟨u1,v1,e⟩:=AY P1;rw[e]at b1 iq⊢
  obtain⟨u2,v2,e⟩:=AY P2;rw[e]at b2 iq⊢
  obtain⟨u3,v3,e⟩:=AY P3;rw[e]at b3 iq⊢
  obtain⟨_,_,e⟩:=AY A;rw[e]at bA iq⊢
  generalize UInt8.ofNat K=k at*
  generalize UInt8.ofNat I=i at*
  simp only[jD,List.length_cons,List.length_nil,List.flatMap_cons,List.flatMap_nil,List.cons_append,List.nil_append,sl,eB]at bL bG bS b0 b1 b2 b3 bA iq
  have N5:((K:Int)==0)=false:=by rw[beq_eq_false_iff_ne];omega
  simp[ig,N5,eI,wK,wI,bL,bG,bS,room,hit]
  refine m_loop 4 (ByI _ [k,i,l0,l1,g0,g1,g2,g3,s0,s1] [(u0,v0),(u1,v1),(u2,v2),(u3,v3)]) ⟨_,_,_,_,rfl⟩ ?_
  rintro j σ hj ⟨a,r,c,d,rfl⟩
  by_cases hlt:j< 4
  ·have hc:j=0∨j=1∨j=2∨j=3:=by omega
   rcases hc with rfl|rfl|rfl|rfl<;>simp[b0,b1,b2,b3,room,hit,eB]
   all_goals exact⟨_,_,_,_,rfl⟩
  ·have:j=4:=by omega
   subst this
   simp[bA,room,hit,eB,iq,List.idxOf?]
   rfl
theorem aaw(bs:List UInt8)(k:Nat)(h:k< bs.length):bf bs k 1=bs[k].toNat:=by
 unfold bf rk
 have e:(bs.drop (k:Int).toNat).take (1:Int).toNat=[bs[k]]:=by
  rw[Int.toNat_natCast,List.drop_eq_getElem_cons h]
  rfl
 rw[e]
 simp[mg]
def JM:List UInt8:=List.replicate 64 0
theorem VC{bs:List UInt8}(h:bs≠JM)(hk:(rd bs).kind=0):nS bs=none:=by
 unfold nS
 rw[if_neg]
 rintro⟨h1,h2⟩
 by_cases hz:rd bs=cz
 ·rw[hz]at h2
  exact h (h2.trans rfl)
 ·rw[Al _ hz]at h1
  simp[hk]at h1
theorem aax{bs:List UInt8}(h:lf (rd bs)=false):nS bs=none:=by
 unfold nS
 rw[if_neg]
 rintro⟨h1,h2⟩
 rw[h]at h1;cases h1
def GiI(bs:List UInt8)(C:List T)(P:List T)(j:Nat)(σ:St):Prop:=∃a b c d e,σ=⟨[],[sl eB bs,.ref 0 0,a,.ref 2 0,.v (.int .i64 j),b,c,d,e],[some (eI cz),none,some (C++P.take j++List.replicate (5-j) (.v (.int .i64 0))),none]⟩
theorem acD(bs:List UInt8)(hl:bs.length=64):Ev E Au [sl eB bs] (AX (nS bs)):=by
 refine aB (fn:=rV) rfl (by decide) rfl rfl rfl ?_
 have hS:dI E fj [sl eB bs,.sl .any 64 (List.replicate 64 (.v (.int .u8 0)))]=some (.v (.bool (decide (bs=JM)))):=af (yz bs JM (by omega))
 have hz:=Gi
 simp only[List.reduceReplicate]at hS hz
 by_cases h0:bs=JM
 ·rw[decide_eq_true h0]at hS
  have hg:nS bs=some cz:=by rw[h0];rfl
  rw[hg]
  simp[rV,hl]
  rw[bE rfl]
  simp[ae,asNat,room,hS,AX,hz]
 ·rw[decide_eq_false h0]at hS
  have g2:=af (mA bs (by omega) 2 2)
  have g3:=af (mA bs (by omega) 4 4)
  have g4:=af (mA bs (by omega) 8 2)
  have g5:=af (mA bs (by omega) 10 2)
  have g6:=af (mA bs (by omega) 12 2)
  have g7:=af (mA bs (by omega) 14 2)
  have g8:=af (mA bs (by omega) 16 2)
  have g9:=af (mA bs (by omega) 18 2)
  rw[Gh hl _ _ rfl]at g2 g3 g4 g5 g6 g7 g8 g9
  have a0:=aaw bs 0 (by omega)
  have a1:=aaw bs 1 (by omega)
  simp only[Int.natCast_zero,Int.natCast_one]at a0 a1
  have e1:=VC h0
  have e2:=aax (bs:=bs)
  have e3:=af (Qu (rd bs))
  have e4:=fun h=>af (VB (rd bs) h)
  have e5:dI E fj [sl eB bs,.sl .any (nv (rd bs)).length ((nv (rd bs)).flatMap eB)]=some (.v (.bool (decide (bs=nv (rd bs))))):=af (yz bs (nv (rd bs)) (by omega))
  unfold nS at e1 e2⊢
  have Fh:rd bs=⟨bf bs 0 1,bf bs 1 1,bf bs 2 2,bf bs 4 4,bf bs 8 2,bf bs 10 2,bf bs 12 2,bf bs 14 2,bf bs 16 2,bf bs 18 2⟩:=rfl
  generalize rd bs=x at*
  rw[a0,a1]at Fh
  generalize bf bs 2 2=v2 at*
  generalize bf bs 4 4=v3 at*
  generalize bf bs 8 2=v4 at*
  generalize bf bs 10 2=v5 at*
  generalize bf bs 12 2=v6 at*
  generalize bf bs 14 2=v7 at*
  generalize bf bs 16 2=v8 at*
  generalize bf bs 18 2=v9 at*
  have kY:cp (bs.flatMap eB) 0=some (.v (.int .u8 bs[0].toNat)):=xg bs 0 (by omega)
  have mc:cp (bs.flatMap eB) 1=some (.v (.int .u8 bs[1].toNat)):=xg bs 1 (by omega)
  simp[-List.length_flatMap,rV,hl]
  rw[bE rfl]
  simp[-List.length_flatMap,ae,asNat,room,hS,hl,kY,mc,nU,g2,g3,g4]
  refine m_loop 4 (GiI bs [.v (.int .i64 bs[0].toNat),.v (.int .i64 bs[1].toNat),.v (.int .i64 v2),.v (.int .i64 v3),.v (.int .i64 v4)] [.v (.int .i64 v5),.v (.int .i64 v6),.v (.int .i64 v7),.v (.int .i64 v8)]) ⟨_,_,_,_,_,rfl⟩ ?_
  rintro j σ hj ⟨a,b,c,d,e,rfl⟩
  by_cases hlt:j< 4
  ·have hc:j=0∨j=1∨j=2∨j=3:=by omega
   rcases hc with rfl|rfl|rfl|rfl<;>simp[IntKind.wrap_i64,g5,g6,g7,g8]
   all_goals exact⟨_,_,_,_,_,rfl⟩
  ·have:j=4:=by omega
   subst this
   have hx:eI x=[.v (.int .i64 bs[0].toNat),.v (.int .i64 bs[1].toNat),.v (.int .i64 v2),.v (.int .i64 v3),.v (.int .i64 v4),.v (.int .i64 v5),.v (.int .i64 v6),.v (.int .i64 v7),.v (.int .i64 v8),.v (.int .i64 v9)]:=by rw[Fh];rfl
   have hkx:x.kind=bs[0].toNat:=by rw[Fh]
   by_cases hk:bs[0].toNat=0
   ·rw[e1 (by rw[hkx,hk];rfl)]
    have od:((bs[0].toNat:Int)==0)=true:=by rw[hk];rfl
    simp[g9,od,AX,hz]
   ·have od:((bs[0].toNat:Int)==0)=false:=by rw[beq_eq_false_iff_ne];omega
    rw[hx]at e3
    cases hR:lf x
    ·have e2:=e2 hR
     rw[hR]at e2 e3
     rw[e2]
     simp[g9,od,e3,AX,hz]
    ·rw[hR]at e3
     have e4:=e4 hR
     rw[hx]at e4
     simp only[jD]at e4
     generalize nv x=S at*
     by_cases hb:bs=S
     ·rw[if_pos ⟨rfl,hb⟩]
      rw[decide_eq_true hb]at e5
      simp[g9,od,e3,e4,e5,AX,hx,hz,T.fresh,T.fresh2]
     ·rw[if_neg (fun hh=>hb hh.2)]
      rw[decide_eq_false hb]at e5
      simp[g9,od,e3,e4,e5,AX,hz,T.fresh,T.fresh2]
end Go.Vi.Sz
end
