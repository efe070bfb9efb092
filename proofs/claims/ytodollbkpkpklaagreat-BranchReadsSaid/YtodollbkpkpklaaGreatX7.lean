/-
  A claim's own text, joined by a small program out of: H11, H12, H13, H14, H15, H16, H17, H18, H19, H20, H21, H22, H23, H24, H25, H26, H27, H28, H29, H30.
-/
import Derived.Test.YtodollbkpkpklaaGreatX6
import Derived.Test.YtodollbkpkpklaaGreatX2
set_option linter.unusedVariables false
set_option linter.unusedSimpArgs false
section
set_option maxRecDepth 100000
set_option maxHeartbeats 2000000
namespace Go.Vi.Sz
open Go Go.Vi Go.Vi.Zz
abbrev EP(P:FuncId→Option (List T→Option T)):Env:=⟨code,P⟩
theorem GR(P:FuncId→Option (List T→Option T))(hP:P fK=none)(a b c d:Int):Ev (EP P) fK [.sl .any 4 [.v (.int .i64 a),.v (.int .i64 b),.v (.int .i64 c),.v (.int .i64 d)]] (.sl (.own 0 3) 4 [.v (.int .i64 a),.v (.int .i64 b),.v (.int .i64 c),.v (.int .i64 d)]):=by
 refine Q5 (fn:=mn) hP (by decide) rfl rfl rfl ?_
 simp[mn,room,List.idxOf?]
def iJ(x:aO):List Int:=[x.p0,x.p1,x.p2,x.p3,x.attr]
def EY(i k:Nat)(p:Int):Ys:=if p=0 then []else [[.agg [.v (.int .i64 ((i+1:Nat):Int)),.v (.int .i64 (k:Int))],.v (.int .i64 (p-1))]]
def Aw(i:Nat)(ps:List Int):Ys:=ps.zipIdx.flatMap fun q=>EY i q.2 q.1
def Mc(l:List aO):Ys:=l.zipIdx.flatMap fun q=>Aw q.2 (iJ q.1)
theorem Qm(l:List aO)(x:aO):Mc (l++[x])=Mc l++Aw l.length (iJ x):=by
 simp[Mc,List.zipIdx_append]
def xp(x:aO):Prop:=∀p∈iJ x,0≤p∧p≤65535
theorem Tm(l:List aO):(l.flatMap eI).length=l.length*10:=mR yU l
theorem xJ(l:List aO):bn (l.flatMap eI)=true:=by
 induction l with
 |nil=>simp
 |cons x l ih=>simp[eI,ih]
theorem uA(l:List aO)(k:Nat)(hk:k< l.length):one? true 10 (l.flatMap eI) (k*10)=some (.agg (eI l[k])):=pS yU l k hk
theorem acf(d n:Nat):(yT n).strip d=yT n:=by simp[yT]
theorem GS(P:FuncId→Option (List T→Option T))(hP:P jq=none)(g:Tag)(l:List aO):Ev (EP P) jq [.sl g l.length (l.flatMap eI)] (.bB (.func cu) [] [.ptr [.sl .any l.length (l.flatMap eI)] 0]):=by
 refine aC (fn:=nX) hP (by decide) rfl rfl rfl ?_
 simp[-List.length_flatMap,nX]
def PoI(l:List aO)(j:Nat)(σ:St)(ys:Ys):Prop:=ys=Mc (l.take j)∧∃a1 a2 a3 a4 a5 a9 db fk a12 cP de o,(o=none∨∃x,o=some (eI x))∧
 σ=⟨[],[yT 0,a1,a2,a3,a4,a5,.sl .any l.length (l.flatMap eI),.v (.int .i64 l.length),.v (.int .i64 j),a9,db,fk,a12,cP,de],[o,none]⟩
def PiI(l:List aO)(j:Nat)(y0:Ys)(x:aO)(k:Nat)(σ:St)(ys:Ys):Prop:=ys=y0++Aw j ((iJ x).take k)∧∃a1 a3 a4 a5 a9 t10 cP de,
 σ=⟨[],[yT 0,a1,.v (.int .i64 j),a3,a4,a5,.sl .any l.length (l.flatMap eI),.v (.int .i64 l.length),.v (.int .i64 j),a9,.sl t10 5 [.v (.int .i64 x.p0),.v (.int .i64 x.p1),.v (.int .i64 x.p2),.v (.int .i64 x.p3),.v (.int .i64 x.attr)],.v (.int .i64 5),.v (.int .i64 k),cP,de],[some (eI x),none]⟩
theorem EZ(P:FuncId→Option (List T→Option T))(hP:P (aq+cu)=none)(hC:P fK=none)(l:List aO)(hn:l.length≤100000)(hl:∀x∈l,xp x):Ev (EP P) (aq+cu) [.an [.ptr [.sl .any l.length (l.flatMap eI)] 0]] (.an ((Mc l).map .an)):=by
 refine agt (fn:=mo) hP rfl rfl rfl rfl (fun a1 a2 h=>by simp at h) ?_
 show MY (EP P) (.kz (.seq .skip (.seq _ _))) [] _ _ _
 refine XE _ (jn _ _ (Bo ?_))
 rw[iB]
 refine jn _ _ (uz _ rfl ?_)
 simp[mo,du,IOp.reads,fc,qZ,-List.length_flatMap]
 rw[iB]
 refine Cg _ _ ?_
 refine Sk l.length (PoI l) ⟨rfl,_,_,_,_,_,_,_,_,_,_,_,_,.inl rfl,rfl⟩ ?_
 rintro j σ ys hj ⟨rfl,a1,a2,a3,a4,a5,a9,db,fk,a12,cP,de,o,ho,rfl⟩
 refine jn _ _ (Si _ ?_)
 rw[iB]
 refine jn _ _ (Sj (σ':=⟨[],[yT 0,.undef,.undef,.undef,.undef,.undef,.sl .any l.length (l.flatMap eI),.v (.int .i64 l.length),.v (.int .i64 j),.undef,.undef,.undef,.undef,.undef,.undef],[none,none]⟩) _ ?_ ?_)
 ·rcases ho with rfl|⟨x,rfl⟩<;>simp[cB,St.ay,yT,-List.length_flatMap]
 rw[iB]
 refine jn _ _ (uz _ rfl ?_)
 by_cases hlt:j< l.length
 ·have bd:(j:Int)< l.length:=by omega
  simp[du,IOp.reads,fc,qZ,-List.length_flatMap,hlt,bd]
  rw[iB]
  refine jn _ _ (xV _ _ _ true rfl ?_)
  rw[if_pos rfl]
  refine Bo ?_
  rw[iB]
  refine jn _ _ (Cg _ _ (jn _ _ (uz _ rfl ?_)))
  have dA:dR 10 (.sl .any l.length (l.flatMap eI)) (.v (.int .i64 (j:Int)))=some (.ptr (l.flatMap eI) (j*10)):=by
   show(if 0≤(j:Int)∧(j:Int).toNat< l.length then some (T.ptr (l.flatMap eI) ((j:Int).toNat*10))else none)=_
   rw[if_pos (by omega),Int.toNat_natCast]
  have bq:=uA l j hlt
  have b9:Option.filter T.closed (some (T.agg (eI l[j])))=some (T.agg (eI l[j])):=bJ (by simp)
  have gZ:∀x∈eI l[j],x.one=true:=by
   intro x hx
   simp only[eI,List.mem_cons,List.not_mem_nil,or_false]at hx
   rcases hx with rfl|rfl|rfl|rfl|rfl|rfl|rfl|rfl|rfl|rfl<;>rfl
  simp[du,IOp.reads,fc,qZ,IE,-List.length_flatMap,dA,bq,b9,ae]
  rw[if_pos gZ,abI,abH]
  refine⟨rfl, ?_⟩
  rw[iB]
  refine jn _ _ (aem _ ?_)
  have b7:=af (GR P hC l[j].p0 l[j].p1 l[j].p2 l[j].p3)
  have hx:eI l[j]=[.v (.int .i64 l[j].kind),.v (.int .i64 l[j].impure),.v (.int .i64 l[j].nlink),.v (.int .i64 l[j].gen),.v (.int .i64 l[j].size),.v (.int .i64 l[j].p0),.v (.int .i64 l[j].p1),.v (.int .i64 l[j].p2),.v (.int .i64 l[j].p3),.v (.int .i64 l[j].attr)]:=rfl
  simp[du,IOp.reads,fc,qZ,IE,-List.length_flatMap,ae,hx]
  refine abJ _ _ _ _ _ _ ?_
  simp[du,IOp.reads,fc,bg,qZ,IE,-List.length_flatMap,ae,b7,room,hit,T.fresh,T.fresh2,acf]
  rw[iB]
  refine⟨rfl,Cg _ _ ?_⟩
  refine Sk 5 (PiI l j (Mc (l.take j)) l[j]) ⟨by simp[Aw],_,_,_,_,_,_,_,_,rfl⟩ ?_
  rintro k σ ys hk ⟨rfl,a1,a3,a4,a5,a9,t10,cP,de,rfl⟩
  refine jn _ _ (Si _ ?_)
  rw[iB]
  refine jn _ _ (Sj _ rfl ?_)
  rw[iB]
  refine jn _ _ (uz _ rfl ?_)
  by_cases hk5:k< 5
  ·have hkI:(k:Int)< 5:=by omega
   have w4:IntKind.i64.wrap ((k:Int)+1)=((k+1:Nat):Int):=by rw[←Int.natCast_succ];exact au (by omega)
   simp[du,IOp.reads,fc,qZ,-List.length_flatMap,hk5,hkI]
   rw[iB]
   refine jn _ _ (xV _ _ _ true rfl ?_)
   rw[if_pos rfl]
   refine Bo ?_
   rw[iB]
   refine jn _ _ (Cg _ _ (jn _ _ (uz _ rfl ?_)))
   obtain⟨p,hp⟩:∃p,(iJ l[j])[k]'(by simpa [iJ]using hk5)=p:=⟨_,rfl⟩
   have acg:cr [.v (.int .i64 l[j].p0),.v (.int .i64 l[j].p1),.v (.int .i64 l[j].p2),.v (.int .i64 l[j].p3),.v (.int .i64 l[j].attr)] k=some (.v (.int .i64 p)):=by
    have hc:k=0∨k=1∨k=2∨k=3∨k=4:=by omega
    rcases hc with rfl|rfl|rfl|rfl|rfl<;>rw[←hp]<;>rfl
   have ahr:Aw j ((iJ l[j]).take (k+1))=Aw j ((iJ l[j]).take k)++EY j k p:=by
    rw[List.take_succ_eq_append_getElem (by simpa [iJ]using hk5),hp,Aw,Aw,List.zipIdx_append,List.flatMap_append]
    simp[iJ]
    congr 1
    omega
   have hpr:=hl l[j] (List.getElem_mem hlt) p (by rw[←hp];exact List.getElem_mem _)
   have ach:dR 1 (.sl t10 5 [.v (.int .i64 l[j].p0),.v (.int .i64 l[j].p1),.v (.int .i64 l[j].p2),.v (.int .i64 l[j].p3),.v (.int .i64 l[j].attr)]) (.v (.int .i64 (k:Int)))=some (.ptr [.v (.int .i64 l[j].p0),.v (.int .i64 l[j].p1),.v (.int .i64 l[j].p2),.v (.int .i64 l[j].p3),.v (.int .i64 l[j].attr)] k):=by
    show(if 0≤(k:Int)∧(k:Int).toNat< 5 then some (T.ptr _ ((k:Int).toNat*1))else none)=_
    rw[if_pos (by omega),Int.toNat_natCast,Nat.mul_one]
   generalize hC5:[T.v (.int .i64 l[j].p0),.v (.int .i64 l[j].p1),.v (.int .i64 l[j].p2),.v (.int .i64 l[j].p3),.v (.int .i64 l[j].attr)]=C5 at*
   simp[du,IOp.reads,fc,qZ,-List.length_flatMap,ach,acg]
   rw[iB]
   refine jn _ _ (uz _ rfl ?_)
   have wj:IntKind.i64.wrap ((j:Int)+1)=((j+1:Nat):Int):=by rw[←Int.natCast_succ];exact au (by omega)
   have wp:IntKind.i64.wrap (p-1)=p-1:=Fs (by omega) (by omega)
   by_cases Yi:p=0
   ·subst Yi
    simp[du,IOp.reads,fc,qZ,-List.length_flatMap]
    refine⟨rfl, ?_⟩
    rw[iB]
    refine xV (.x 14) (.exit 0) .skip false rfl ?_
    rw[if_neg (by decide)]
    refine Bo ?_
    rw[Oz,iB]
    refine uz _ rfl ?_
    simp[du,IOp.reads,fc,qZ,-List.length_flatMap,w4,-Int.natCast_add]
    rw[IF]
    subst hC5
    refine⟨?_,_,_,_,_,_,_,_,_,rfl⟩
    rw[ahr,EY,if_pos rfl,List.append_nil]
   ·have Di:(p !=0)=true:=by simpa using Yi
    simp[du,IOp.reads,fc,qZ,IE,-List.length_flatMap,Di,wj,wp,ae,-Int.natCast_add]
    refine XA _ _ _ _ _ _ rfl rfl rfl ?_
    simp[du,IOp.reads,fc,qZ,-List.length_flatMap,-Int.natCast_add]
    rw[iB]
    refine xV (.x 14) (.exit 0) .skip false rfl ?_
    rw[if_neg (by decide)]
    refine Bo ?_
    rw[Oz,iB]
    refine uz _ rfl ?_
    simp[du,IOp.reads,fc,qZ,-List.length_flatMap,w4,-Int.natCast_add]
    rw[IF]
    subst hC5
    refine⟨?_,_,_,_,_,_,_,_,_,rfl⟩
    rw[ahr,EY,if_neg Yi]
  ·have hkI:¬(k:Int)< 5:=by omega
   have h5:k=5:=by omega
   subst h5
   simp[du,IOp.reads,fc,qZ,-List.length_flatMap]
   rw[iB]
   refine jn _ _ (xV _ _ _ false rfl ?_)
   rw[if_neg (by decide)]
   refine Sh _ ?_
   simp only[XC,XB,OA,XD,Oz,iB]
   rw[if_pos trivial]
   refine uz _ rfl ?_
   have w4:IntKind.i64.wrap ((j:Int)+1)=((j+1:Nat):Int):=by rw[←Int.natCast_succ];exact au (by omega)
   simp[du,IOp.reads,fc,qZ,-List.length_flatMap,w4,-Int.natCast_add]
   rw[IF]
   refine⟨?_,_,_,_,_,_,_,_,_,_,_,_,_,.inr ⟨_,rfl⟩,rfl⟩
   rw[List.take_succ_eq_append_getElem hlt,Qm,List.length_take,Nat.min_eq_left hj]
   rfl
 ·have bd:¬(j:Int)< l.length:=by omega
  simp[du,IOp.reads,fc,qZ,-List.length_flatMap,hlt,bd]
  rw[iB]
  refine jn _ _ (xV _ _ _ false rfl ?_)
  rw[if_neg (by decide)]
  refine Sh _ ?_
  have N3:j=l.length:=by omega
  subst N3
  simp[XC,XB,OA,XD,ajS,IF,acP]
end Go.Vi.Sz
end
section
set_option maxRecDepth 100000
namespace Go.Vi.Sz
open Go Go.Vi Go.Vi.Zz
abbrev Dq:=Int×Int×Int
def qB(t:Dq):List T:=[.agg [.v (.int .i64 t.1),.v (.int .i64 t.2.1)],.v (.int .i64 t.2.2)]
def dP(n:Nat):Int×Int:=(((n / 5+1:Nat):Int),((n%5:Nat):Int))
theorem aam{n m:Nat}(h:dP n=dP m):n=m:=by
 simp only[dP,Prod.mk.injEq,Int.natCast_inj]at h
 omega
def bu(l:List aO):List Int:=l.flatMap iJ
theorem ma(l:List aO):(bu l).length=5*l.length:=by
 induction l with
 |nil=>rfl
 |cons x l ih=>rw[bu,List.flatMap_cons,List.length_append,←bu,ih,List.length_cons];simp[iJ];omega
def xP(n:Nat)(p:Int):List Dq:=if p=0 then []else [((dP n).1,(dP n).2,p-1)]
def tF(fl:List Int):List Dq:=fl.zipIdx.flatMap fun q=>xP q.2 q.1
theorem qV(fl:List Int)(p:Int):tF (fl++[p])=tF fl++xP fl.length p:=by
 simp[tF,List.zipIdx_append]
theorem aan(l:List aO):Mc l=(tF (bu l)).map qB:=by
 have key:∀(r:List aO),Mc r.reverse=(tF (bu r.reverse)).map qB:=by
  intro r
  induction r with
  |nil=>rfl
  |cons x r ih=>
   rw[List.reverse_cons,Qm,ih]
   have e:bu (r.reverse++[x])=bu r.reverse++[x.p0]++[x.p1]++[x.p2]++[x.p3]++[x.attr]:=by simp[bu,iJ]
   rw[e,qV,qV,qV,qV,qV]
   simp only[List.map_append,List.append_assoc]
   congr 1
   have hk:∀k p,k< 5→EY r.reverse.length k p=(xP ((bu r.reverse).length+k) p).map qB:=by
    intro k p hk
    unfold EY xP
    by_cases hp:p=0
    ·rw[if_pos hp,if_pos hp];rfl
    ·rw[if_neg hp,if_neg hp,ma]
     have h1:(5*r.reverse.length+k) / 5=r.reverse.length:=by omega
     have h2:(5*r.reverse.length+k)%5=k:=by omega
     simp only[List.map_cons,List.map_nil,qB,dP,h1,h2]
   have hlen:∀(a:List Int) (p:Int),(a++[p]).length=a.length+1:=by simp
   have hy:Aw r.reverse.length (iJ x)=EY r.reverse.length 0 x.p0++(EY r.reverse.length 1 x.p1++(EY r.reverse.length 2 x.p2++(EY r.reverse.length 3 x.p3++EY r.reverse.length 4 x.attr))):=by
    simp[Aw,iJ]
   rw[hy,hk 0 _ (by omega),hk 1 _ (by omega),hk 2 _ (by omega),hk 3 _ (by omega),hk 4 _ (by omega)]
   simp only[List.length_append,List.length_cons,List.length_nil,Nat.zero_add,Nat.add_zero]
 have:=key l.reverse
 rwa [List.reverse_reverse]at this
abbrev Mp:=List (Int×Int×Int)
def jK(m:Mp)(b:Int):Option (Int×Int):=(m.find? fun e=>e.1==b).map (·.2)
def Jq(blocks:Int)(m:Mp)(t:Dq):Mp:=if jK m t.2.2=none∧0≤t.2.2∧t.2.2< blocks then m++[(t.2.2,t.1,t.2.1)]else m
def gN(blocks:Int)(ts:List Dq):Mp:=ts.foldl (Jq blocks) []
theorem E1(blocks:Int)(ts:List Dq)(t:Dq):gN blocks (ts++[t])=Jq blocks (gN blocks ts) t:=by simp[gN]
theorem CB(blocks:Int)(fl:List Int)(b:Int):jK (gN blocks (tF fl)) b=if 0≤b∧b< blocks then(fl.findIdx? (· ==b+1)).map dP else none:=by
 have key:∀(r:List Int) (b:Int),jK (gN blocks (tF r.reverse)) b=if 0≤b∧b< blocks then(r.reverse.findIdx? (· ==b+1)).map dP else none:=by
  intro r
  induction r with
  |nil=>intro b;simp[tF,gN,jK]
  |cons p r ih=>
   intro b
   rw[List.reverse_cons,qV,List.findIdx?_append]
   unfold xP
   by_cases hp:p=0
   ·rw[if_pos hp,List.append_nil,ih b]
    by_cases hb:0≤b∧b< blocks
    ·rw[if_pos hb,if_pos hb]
     have:(p==b+1)=false:=by rw[beq_eq_false_iff_ne];omega
     simp[List.findIdx?_cons,this]
    ·rw[if_neg hb,if_neg hb]
   ·rw[if_neg hp,E1]
    unfold Jq
    simp only[ih]
    by_cases hc:((if 0≤p-1∧p-1< blocks then(r.reverse.findIdx? (· ==p-1+1)).map dP else none)=none∧0≤p-1∧p-1< blocks)
    ·rw[if_pos hc]
     obtain⟨h1,h2,h3⟩:=hc
     rw[if_pos ⟨h2,h3⟩]at h1
     have aow:jK (gN blocks (tF r.reverse)++[(p-1,(dP r.reverse.length).1,(dP r.reverse.length).2)]) b=(jK (gN blocks (tF r.reverse)) b).or (if p-1==b then some (dP r.reverse.length)else none):=by
      unfold jK
      rw[List.find?_append]
      cases (gN blocks (tF r.reverse)).find? fun e=>e.1==b with
      |some e=>simp
      |none=>cases Di:(p-1==b)<;>simp[Di]
     rw[aow,ih b]
     by_cases hb:0≤b∧b< blocks
     ·rw[if_pos hb,if_pos hb]
      by_cases Di:p-1=b
      ·subst Di
       have he:(p==p-1+1)=true:=by rw[beq_iff_eq];omega
       rw[Option.map_eq_none_iff]at h1
       simp[List.findIdx?_cons]
      ·have he:(p==b+1)=false:=by rw[beq_eq_false_iff_ne];omega
       have lx:(p-1==b)=false:=by rw[beq_eq_false_iff_ne];exact Di
       simp[List.findIdx?_cons,he,lx]
     ·rw[if_neg hb,if_neg hb]
      have lx:(p-1==b)=false:=by rw[beq_eq_false_iff_ne];omega
      simp[lx]
    ·rw[if_neg hc,ih b]
     by_cases hb:0≤b∧b< blocks
     ·rw[if_pos hb,if_pos hb]
      by_cases Di:p-1=b
      ·subst Di
       rw[if_pos hb]at hc
       cases hf:r.reverse.findIdx? (· ==p-1+1)with
       |none=>rw[hf]at hc;exact absurd ⟨rfl,hb⟩ hc
       |some n=>simp
      ·have he:(p==b+1)=false:=by rw[beq_eq_false_iff_ne];omega
       simp[List.findIdx?_cons,he]
     ·rw[if_neg hb,if_neg hb]
 have:=key fl.reverse b
 rwa [List.reverse_reverse]at this
def anyM(m:Mp)(ino k:Int):Bool:=m.any fun e=>e.2.1==ino&&e.2.2==k
theorem aci{ino k:Int}(h1:1≤ino)(h2:0≤k)(h3:k≤4):dP (numOf ino k)=(ino,k):=by
 unfold dP numOf
 rw[Prod.mk.injEq]
 omega
theorem acj(n:Nat):numOf (dP n).1 (dP n).2=n∧1≤(dP n).1∧0≤(dP n).2∧(dP n).2≤4:=by
 unfold dP numOf
 simp only
 omega
theorem Vu{fl:List Int}{n:Nat}(h:n< fl.length):fl.findIdx? (· ==fl[n])=some n↔(fl.take n).contains fl[n]=false:=by
 rw[List.findIdx?_eq_some_iff_getElem]
 constructor
 ·rintro⟨h1,h2,h3⟩
  rw[Bool.eq_false_iff]
  intro hc
  rw[List.contains_iff_mem,List.mem_iff_getElem]at hc
  obtain⟨i,hi,he⟩:=hc
  rw[List.length_take]at hi
  rw[List.getElem_take]at he
  have:=h3 i (by omega)
  simp[he]at this
 ·intro hc
  refine⟨h,by simp,fun j hj=> ?_⟩
  intro he
  rw[beq_iff_eq]at he
  rw[Bool.eq_false_iff]at hc
  apply hc
  rw[List.contains_iff_mem,List.mem_iff_getElem]
  exact⟨j,by rw[List.length_take];omega,by rw[List.getElem_take];exact he⟩
theorem CC(blocks:Int)(fl:List Int)(n:Nat)(hn:n< fl.length):(jK (gN blocks (tF fl)) (fl[n]-1)=some (dP n))↔dr fl blocks (dP n).1 (dP n).2=true:=by
 obtain⟨h1,h2,h3,h4⟩:=acj n
 rw[CB]
 have hg:fl.getD n 0=fl[n]:=by rw[List.getD_eq_getElem?_getD,List.getElem?_eq_getElem hn,Option.getD_some]
 have he:fl[n]-1+1=fl[n]:=by omega
 unfold dr
 rw[h1,hg,he]
 simp only[h2,h3,h4,hn,decide_true,Bool.true_and,Bool.and_eq_true,decide_eq_true_eq,Bool.not_eq_true']
 by_cases hb:0≤fl[n]-1∧fl[n]-1< blocks
 ·rw[if_pos hb,←Vu hn]
  constructor
  ·intro hm
   obtain⟨m,Xb,K9⟩:=Option.map_eq_some_iff.1 hm
   have:=aam K9
   subst this
   exact⟨⟨by omega,by omega⟩,Xb⟩
  ·rintro⟨_,hm⟩
   rw[hm];rfl
 ·rw[if_neg hb]
  constructor
  ·intro h;cases h
  ·rintro⟨⟨h5,h6⟩,_⟩
   exact absurd ⟨by omega,by omega⟩ hb
theorem aeS(blocks:Int):∀(r:List Int) (e:Int×Int×Int),e∈gN blocks (tF r.reverse)→jK (gN blocks (tF r.reverse)) e.1=some e.2∧∃n,∃h:n< r.reverse.length,e.1=r.reverse[n]-1∧e.2=dP n:=by
 intro r
 induction r with
 |nil=>intro e he;simp[tF,gN]at he
 |cons p r ih=>
  intro e he
  have nG:∀e,e∈gN blocks (tF r.reverse)→jK (gN blocks (tF (r.reverse++[p]))) e.1=some e.2∧∃n,∃h:n< (r.reverse++[p]).length,e.1=(r.reverse++[p])[n]-1∧e.2=dP n:=by
   intro e he
   obtain⟨h1,n,h2,h3,h4⟩:=ih e he
   refine⟨?_,n,by simp at h2⊢;omega,by rw[List.getElem_append_left h2];exact h3,h4⟩
   rw[CB]at h1⊢
   by_cases hb:0≤e.1∧e.1< blocks
   ·rw[if_pos hb]at h1⊢
    obtain⟨m,Xb,K9⟩:=Option.map_eq_some_iff.1 h1
    rw[List.findIdx?_append,Xb]
    simp[K9]
   ·rw[if_neg hb]at h1;cases h1
  rw[List.reverse_cons]at he⊢
  rw[qV]at he
  unfold xP at he
  by_cases hp:p=0
  ·rw[if_pos hp,List.append_nil]at he
   exact nG e he
  ·rw[if_neg hp,E1]at he
   unfold Jq at he
   simp only at he
   by_cases hc:jK (gN blocks (tF r.reverse)) (p-1)=none∧0≤p-1∧p-1< blocks
   ·rw[if_pos hc,List.mem_append,List.mem_singleton]at he
    rcases he with he|rfl
    ·exact nG e he
    ·refine⟨?_,r.reverse.length,by simp,by simp,rfl⟩
     obtain⟨h1,h2,h3⟩:=hc
     rw[CB,if_pos ⟨h2,h3⟩,Option.map_eq_none_iff]at h1
     rw[CB,if_pos ⟨h2,h3⟩,List.findIdx?_append,h1]
     have he:(p==p-1+1)=true:=by rw[beq_iff_eq];omega
     simp[List.findIdx?_cons]
   ·rw[if_neg hc]at he
    exact nG e he
theorem ack{m:Mp}{b:Int}{s:Int×Int}(h:jK m b=some s):(b,s)∈m:=by
 unfold jK at h
 obtain⟨e,h1,h2⟩:=Option.map_eq_some_iff.1 h
 have h3:=List.find?_some h1
 have h4:=List.mem_of_find?_eq_some h1
 rw[beq_iff_eq]at h3
 subst h2 h3
 exact h4
theorem Yv(blocks:Int)(fl:List Int)(ino k:Int):anyM (gN blocks (tF fl)) ino k=dr fl blocks ino k:=by
 rw[Bool.eq_iff_iff]
 unfold anyM
 rw[List.any_eq_true]
 constructor
 ·rintro⟨e,he,heq⟩
  simp only[Bool.and_eq_true,beq_iff_eq]at heq
  have hm:=aeS blocks fl.reverse e (by rw[List.reverse_reverse];exact he)
  rw[List.reverse_reverse]at hm
  obtain⟨h1,n,hn,h2,h3⟩:=hm
  have hs:dP n=(ino,k):=by rw[←h3];exact Prod.ext heq.1 heq.2
  have:=(CC blocks fl n hn).1 (by rw[←h2,h1,h3])
  rw[hs]at this
  exact this
 ·intro hv
  have AY:=hv
  simp only[dr,Bool.and_eq_true,decide_eq_true_eq]at hv
  obtain⟨⟨⟨⟨⟨⟨h1,h2⟩,h3⟩,h4⟩,_⟩,_⟩,_⟩:=hv
  have hs:=aci h1 h2 h3
  have:=(CC blocks fl (numOf ino k) h4).2 (by rw[hs];exact AY)
  exact⟨_,ack this,by rw[hs];simp⟩
def ru(fl:List Int)(blocks:Int)(ts:List Dq):List (Int×Int):=ts.filterMap fun t=>if dr fl blocks t.1 t.2.1 then none else some (t.1,t.2.1)
end Go.Vi.Sz
end
section
set_option maxRecDepth 100000
set_option maxHeartbeats 2000000
namespace Go.Vi.Sz
open Go Go.Vi Go.Vi.Zz
def eM(m:Mp):List T:=m.flatMap fun e=>[.v (.int .i64 e.1),.agg [.v (.int .i64 e.2.1),.v (.int .i64 e.2.2)]]
def uR(s:Int×Int):T:= .agg [.v (.int .i64 s.1),.v (.int .i64 s.2)]
theorem Qn(m:Mp)(b:Int):mc .int (.v (.int .i64 b)) (eM m)=some ((jK m b).map uR):=by
 induction m with
 |nil=>rfl
 |cons e m ih=>
  show(ig .int (.v (.int .i64 b)) (.v (.int .i64 e.1))).bind (fun x=>if x then some (some (.agg [.v (.int .i64 e.2.1),.v (.int .i64 e.2.2)]))else mc .int (.v (.int .i64 b)) (eM m))=_
  rw[show ig .int (.v (.int .i64 b)) (.v (.int .i64 e.1))=some (b==e.1)from rfl,Option.bind_some,ih]
  unfold jK
  have hs:(b==e.1)=(e.1==b):=BEq.comm
  rw[hs]
  cases h:e.1==b<;>simp[h,uR]
theorem aeT(m:Mp)(b:Int)(s:Int×Int)(h:jK m b=none):sS .int (.v (.int .i64 b)) (uR s) (eM m)=some (eM (m++[(b,s)])):=by
 induction m with
 |nil=>rfl
 |cons e m ih=>
  unfold jK at h
  have h1:(e.1==b)=false:=by
   cases hc:e.1==b
   ·rfl
   ·rw[List.find?_cons,hc]at h;simp at h
  have h2:jK m b=none:=by
   rw[List.find?_cons,h1]at h
   exact h
  have hs:(b==e.1)=false:=by rw[BEq.comm];exact h1
  show(ig .int (.v (.int .i64 b)) (.v (.int .i64 e.1))).bind (fun x=>if x then some (.v (.int .i64 b)::uR s::eM m)else(sS .int (.v (.int .i64 b)) (uR s) (eM m)).map fun cs=> .v (.int .i64 e.1):: .agg [.v (.int .i64 e.2.1),.v (.int .i64 e.2.2)]::cs)=_
  rw[show ig .int (.v (.int .i64 b)) (.v (.int .i64 e.1))=some (b==e.1)from rfl,Option.bind_some,hs,ih h2]
  rfl
theorem Jr(ρ η)(m:Mp):ai ρ η (eM m)=eM m:=by
 induction m with
 |nil=>simp[eM]
 |cons e m ih=>
  have:eM (e::m)= .v (.int .i64 e.1):: .agg [.v (.int .i64 e.2.1),.v (.int .i64 e.2.2)]::eM m:=rfl
  rw[this]
  simp[ih]
theorem aeU(m:Mp):eh (eM m)=[]:=by
 induction m with
 |nil=>simp[eM]
 |cons e m ih=>
  have:eM (e::m)= .v (.int .i64 e.1):: .agg [.v (.int .i64 e.2.1),.v (.int .i64 e.2.2)]::eM m:=rfl
  rw[this]
  simp[eh,T.refs,ih]
theorem aeV(m:Mp):gQ (eM m)=[]:=by
 induction m with
 |nil=>simp[eM]
 |cons e m ih=>
  have:eM (e::m)= .v (.int .i64 e.1):: .agg [.v (.int .i64 e.2.1),.v (.int .i64 e.2.2)]::eM m:=rfl
  rw[this]
  simp[ih]
theorem aao(ρ η)(l:List aO):ai ρ η (l.flatMap eI)=l.flatMap eI:=by
 induction l with
 |nil=>simp
 |cons x l ih=>simp[eI,ih]
theorem LP(P:FuncId→Option (List T→Option T))(h1:P (aq+u7)=none)(h2:P jq=none)(h3:P (aq+cu)=none)(h4:P fK=none)
  (l:List aO) (hn:l.length≤100000) (hl:∀x∈l,xp x) (blocks:Int):Ev (EP P) (aq+u7) [.an [.sl .any l.length (l.flatMap eI),.v (.int .i64 blocks)],.an []] (.an [.aQ 1,.an [.undef,.agg (eM (gN blocks (tF (bu l))))]]):=by
 refine Fu (fn:=qF) h1 rfl rfl rfl (by simp) ?_
 have hp:=af (GS P h2 .any l)
 simp[-List.length_flatMap,qF]
 rw[bH rfl]
 simp[-List.length_flatMap,ae,hp]
 have himp:T.import 12 (.bB (.func cu) [] [.ptr [.sl .any l.length (l.flatMap eI)] 0])= .bB (.func cu) [] [.ptr [.sl .any l.length (l.flatMap eI)] 0]:=by simp[T.import,dD]
 rw[himp]
 have hy:=EZ P h3 h4 l hn hl
 rw[aan]at hy
 generalize hT:tF (bu l)=ts at*
 refine JW (f:=cu) (caps:=[.ptr [.sl .any l.length (l.flatMap eI)] 0]) (cs:=[.ptr [.sl .any l.length (l.flatMap eI)] 0]) (ss:=[]) (ys:=(ts.map qB).map T.an)
  (fun j vars bx=>vars=[.sl .any l.length (l.flatMap eI),.v (.int .i64 blocks),.ref 0 0,.v (.map none),.ref 2 0,.undef,.undef,.undef,.bB (.func cu) [] [.ptr [.sl .any l.length (l.flatMap eI)] 0],.undef,.undef,.undef]∧
   bx=[some [.v (.int .i64 blocks)],none,some [.aQ 9],none,none,none,none,none,none,some (eM (gN blocks (ts.take j)))])
  rfl ?_ ?_ hy ?_ ?_ ?_
 ·simp[-List.length_flatMap,T.refs,eh]
 ·simp[-List.length_flatMap,T.al,ai,close]
 ·simp[-List.length_flatMap,T.al,ai,xr,aj,List.range,List.range.loop,eM,gN]
 ·rintro j t vars bx K4 ⟨rfl,rfl⟩
  obtain⟨q,hq,rfl⟩:∃q,ts[j]? =some q∧T.an (qB q)=t:=by simpa using K4
  obtain⟨hj,hqe⟩:=List.getElem?_eq_some_iff.1 hq
  refine⟨_,rfl,rfl, ?_⟩
  have hst:ts.take (j+1)=ts.take j++[q]:=by rw[List.take_succ_eq_append_getElem hj,hqe]
  rw[hst,E1]
  generalize gN blocks (ts.take j)=m
  obtain⟨i,k,b⟩:=q
  have Dr:=Qn m b
  have hpt:=aeT m b (i,k)
  have si:=fun ρ η=>Jr ρ η m
  simp[-List.length_flatMap,T.al,ai,cV,dS,qB,si]
  rw[bH rfl]
  simp[-List.length_flatMap,ae,Dr]
  unfold Jq
  simp only
  have aox:=fun ρ η=>Jr ρ η (m++[(b,i,k)])
  cases Gt:jK m b with
  |some s=>
   rw[if_neg (by rintro⟨h,_⟩;cases h)]
   simp[-List.length_flatMap,uR]
   simp[-List.length_flatMap,fH,bK,aj,T.al,ai,si]
  |none=>
   by_cases kE:0≤b
   ·by_cases lS:b< blocks
    ·rw[if_pos ⟨rfl,kE,lS⟩]
     have hpt:=hpt Gt
     simp only[uR]at hpt
     simp[-List.length_flatMap,kE,lS]
     rw[bH rfl]
     simp[-List.length_flatMap,ae,hpt]
     simp[-List.length_flatMap,fH,bK,aj,T.al,ai,aox]
    ·rw[if_neg (fun h=>lS h.2.2)]
     simp[-List.length_flatMap,kE,lS]
     simp[-List.length_flatMap,fH,bK,aj,T.al,ai,si]
   ·rw[if_neg (fun h=>kE h.2.1)]
    simp[-List.length_flatMap,kE]
    simp[-List.length_flatMap,fH,bK,aj,T.al,ai,si]
 ·rintro vars bx ⟨rfl,rfl⟩
  have hlen:((ts.map qB).map T.an).length=ts.length:=by simp
  rw[hlen,List.take_length]
  have hb:o8 [] (iS [] [some [T.v (.int .i64 blocks)],none,some [T.aQ 9],none,none,none,none,none,none,some []]) [some [T.v (.int .i64 blocks)],none,some [T.aQ 9],none,none,none,none,none,none,some (eM (gN blocks ts))]=[some [T.v (.int .i64 blocks)],none,some [T.aQ 9],none,none,none,none,none,none,some (eM (gN blocks ts))]:=by
   simp[o8,aj,List.range,List.range.loop]
  rw[hb,ite_self]
  have si:=fun ρ η=>Jr ρ η (gN blocks ts)
  simp[-List.length_flatMap]
  have hrf:=aeU (gN blocks ts)
  have XW:=aeV (gN blocks ts)
  generalize eM (gN blocks ts)=EM at*
  simp[fJ,nT,tJ,vr,aj,T.refs,T.fa,hrf,XW,fb,me,fw,List.range,List.range.loop,T.al,si,zQ]
end Go.Vi.Sz
end
section
set_option maxRecDepth 100000
namespace Go.Vi.Sz
open Go Go.Vi Go.Vi.Zz
theorem aeW{x:aO}(h:xp x):([x.p0,x.p1,x.p2,x.p3,x.attr].all fun p=>decide (0≤p)&&decide (p≤65535))=true:=by
 rw[List.all_eq_true]
 intro p hp
 have:=h p hp
 simp only[Bool.and_eq_true,decide_eq_true_eq]
 exact this
theorem Tn:∀(l:List aO),(∀x∈l,xp x)→Jg l.length (l.flatMap eI)=some (bu l)
 | [],_=>rfl
 |x::l,h=>by
  show(if [x.p0,x.p1,x.p2,x.p3,x.attr].all (fun p=>decide (0≤p)&&decide (p≤65535))then(Jg l.length (l.flatMap eI)).map fun fl=>x.p0::x.p1::x.p2::x.p3::x.attr::fl else none)=_
  rw[if_pos (aeW (h x (by simp))),Tn l fun y hy=>h y (by simp[hy])]
  rfl
theorem SA:∀(n:Nat) (cs:List T) (fl:List Int),Jg n cs=some fl→∃l:List aO,l.length=n∧l.flatMap eI=cs∧bu l=fl∧∀x∈l,xp x
 |0,cs,fl,h=>by
  cases cs with
  |nil=>simp only[Jg,Option.some.injEq]at h;exact⟨[],rfl,rfl,h,fun x hx=>by simp at hx⟩
  |cons=>simp[Jg]at h
 |n+1,cs,fl,h=>by
  unfold Jg at h
  split at h
  ·rename_i heq;cases heq
  ·rename_i n' a0 a1 a2 a3 a4 a b c d e bW heq
   cases heq
   split at h
   ·rename_i gZ
    obtain⟨fl',h1,rfl⟩:=Option.map_eq_some_iff.1 h
    obtain⟨l,h2,h3,h4,h5⟩:=SA n bW fl' h1
    refine⟨⟨a0,a1,a2,a3,a4,a,b,c,d,e⟩::l,by simp[h2],by rw[List.flatMap_cons,h3];rfl,by rw[bu,List.flatMap_cons,←bu,h4];rfl, ?_⟩
    intro x hx
    rcases List.mem_cons.1 hx with rfl|hx
    ·intro p hp
     have:=List.all_eq_true.1 gZ p hp
     simpa using this
    ·exact h5 x hx
   ·cases h
  ·cases h
theorem acm(l:List aO)(hn:l.length≤100000)(hl:∀x∈l,xp x)(blocks ino k:Int):Ev E oz [.sl .any l.length (l.flatMap eI),.v (.int .i64 blocks),.v (.int .i64 ino),.v (.int .i64 k)] (.v (.bool (dr (bu l) blocks ino k))):=by
 refine Th (g:=UU) rfl ?_
 show(Jg l.length (l.flatMap eI)).bind (fun fl=>if l.length≤100000 then some (T.v (.bool (dr fl blocks ino k)))else none)=_
 rw[Tn l hl,Option.bind_some,if_pos hn]
theorem abW(m:Mp)(ino k:Int):Cw ino k (eM m)=some (anyM m ino k):=by
 induction m with
 |nil=>rfl
 |cons e m ih=>
  show(Cw ino k (eM m)).map (fun r=>(e.2.1==ino&&e.2.2==k)||r)=_
  rw[ih]
  rfl
end Go.Vi.Sz
end
section
set_option maxRecDepth 100000
set_option maxHeartbeats 2000000
namespace Go.Vi.Sz
open Go Go.Vi Go.Vi.Zz
def ep(g:cA)(l:List (List UInt8)):Bool:=zB g&&decide ((l.length:Int)=1+g.aE+g.blocks)
def hY(g:cA)(s i:T):List T:=[.v (.int .i64 g.lowers),.v (.int .i64 g.aE),.v (.int .i64 g.blocks),.v (.int .i64 g.log),s,i]
theorem vJ(g:cA)(l:List (List UInt8)):Ev E l3 [.agg (eG g),sl eS l] (.v (.bool (ep g l))):=by
 refine aC (fn:=oC) rfl (by decide) rfl rfl rfl ?_
 have hc:=af (Z0 g)
 unfold ep
 cases h:zB g
 ·simp[-List.length_flatMap,oC,hc,h]
 ·have hl:=af (Z1 g h)
  simp[-List.length_flatMap,oC,hc,h,hl,PX]
  rfl
theorem pn(g:cA)(l:List (List UInt8))(i:T)(n:Nat)(cs:List T)(hi:i= .sl .any n cs):Ev E fE [.agg (hY g (sl eS l) i)] (.v (.bool (ep g l))):=by
 refine aC (fn:=iq) rfl (by decide) rfl rfl rfl ?_
 have hc:=af (ab1 g)
 simp only[eG]at hc
 subst hi
 unfold ep
 cases h:zB g
 ·simp[-List.length_flatMap,iq,hY,hc,h]
 ·have hs:=mU h
  have w1:IntKind.i64.wrap (1+g.aE)=1+g.aE:=x5 (by omega) (by omega)
  have w2:IntKind.i64.wrap (1+g.aE+g.blocks)=1+g.aE+g.blocks:=x5 (by omega) (by omega)
  simp[-List.length_flatMap,iq,hY,hc,h,w1,w2]
  rfl
end Go.Vi.Sz
end
section
set_option maxRecDepth 100000
set_option maxHeartbeats 4000000
namespace Go.Vi.Sz
open Go Go.Vi Go.Vi.Zz
def eN(n:Int):List T:=[.v (.int .i64 n)]
@[simp] theorem aap(n:Int):(eN n).length=1:=rfl
theorem oW(l:List Int):(l.flatMap eN).length=l.length:=by rw[mR aap l];simp
theorem ot(l:List Int):bn (l.flatMap eN)=true:=by
 induction l with
 |nil=>rfl
 |cons c l ih=>simp[eN,ih]
def aB{α:Type}(z:Tag)(k:Nat)(e:TypeId)(enc:α→List T)(l:List α):T:=if l=[]then .sl z 0 []else .sl (.own k e) l.length (l.flatMap enc)
theorem aK{α:Type}(z k e)(enc:α→List T):aB z k e enc []= .sl z 0 []:=rfl
theorem aA{α:Type}(z k e)(enc:α→List T){l:List α}(h:l≠[]):aB z k e enc l= .sl (.own k e) l.length (l.flatMap enc):=by unfold aB;rw[if_neg h]
theorem bk{α:Type}(z k e)(enc:α→List T)(l:List α)(x:α):aB z k e enc (l++[x])= .sl (.own k e) (l.length+1) (l.flatMap enc++enc x):=by
 rw[aA _ _ _ _ (by simp)];simp
def ct(S:List (List UInt8)):List aO:=S.map fun b=>(nE b).getD cx
def cT(S:List (List UInt8)):List Int:=S.zipIdx.flatMap fun q=>if(nE q.1).isSome then []else [((q.2+1:Nat):Int)]
theorem Md(S)(b):ct (S++[b])=ct S++[(nE b).getD cx]:=by simp[ct]
theorem pY(S)(b):cT (S++[b])=cT S++(if(nE b).isSome then []else [((S.length+1:Nat):Int)]):=by simp[cT,List.zipIdx_append]
def aU(g:cA)(l:List (List UInt8)):List (List UInt8):=(l.drop 1).take g.aE.toNat
theorem aeX(n:Nat):∀l:List (List UInt8),(l.flatMap eS).drop n=(l.drop n).flatMap eS:=by
 induction n with
 |zero=>intro l;simp
 |succ n ih=>intro l;cases l<;>simp[eS,←ih]
theorem aeY(n:Nat):∀l:List (List UInt8),(l.flatMap eS).take n=(l.take n).flatMap eS:=by
 induction n with
 |zero=>intro l;simp
 |succ n ih=>intro l;cases l<;>simp[eS,←ih]
theorem aeZ(l:List (List UInt8))(lo hi:Nat):uw 1 (sl eS l) (some lo) (some hi) (some (o6 (sl eS l))) false=if lo≤hi∧hi≤l.length then some (sl eS ((l.drop lo).take (hi-lo)))else none:=by
 unfold uw
 simp only[sl,o6,Nat.mul_one,aeX,aeY]
 by_cases h:lo≤hi∧hi≤l.length
 ·have hl:((l.drop lo).take (hi-lo)).length=hi-lo:=by simp;omega
  simp[h,hl]
 ·simp[h]
def InJ(g:cA)(S:List (List UInt8))(j:Nat)(σ:St):Prop:=∃a0 a1 a2 a3 a4 a7 a8 a9 db fk cJ cX o,(o=none∨∃x,o=some (eI x))∧
 σ=⟨[],[a0,a1,a2,a3,a4,aB .nil 344 34 eI (ct (S.take j)),aB .nil 312 3 eN (cT (S.take j)),a7,a8,a9,db,fk,sl eS S,.v (.int .i64 S.length),.v (.int .i64 j),cJ,cX],[some (eG g),none,o,none]⟩
theorem LM(g:cA)(l:List (List UInt8))(hl:∀b∈l,b.length=64):Ev E gz [.agg (eG g),sl eS l]
  (if ep g l then .an [aB .nil 0 34 eI (ct (aU g l)),aB .nil 1 3 eN (cT (aU g l))]else .an [.sl .nil 0 [],.sl .nil 0 []]):=by
 refine aC (fn:=j6) rfl (by decide) rfl rfl rfl ?_
 have hr:=af (pn g l (.sl .any 0 []) 0 [] rfl)
 simp only[hY]at hr
 cases h:ep g l
 ·rw[h]at hr
  simp[-List.length_flatMap,j6,eG,hr]
 ·rw[h]at hr
  have h':=h
  simp only[ep,Bool.and_eq_true,decide_eq_true_eq]at h'
  have hs:=mU h'.1
  obtain⟨n,hn⟩:∃n:Nat,g.aE=n:=⟨g.aE.toNat,by omega⟩
  have w1:IntKind.i64.wrap (1+g.aE)=((1+n:Nat):Int):=by rw[hn,show(1:Int)+n=((1+n:Nat):Int) by omega];exact au (by omega)
  have KA:=aeZ l 1 (1+n)
  rw[if_pos (by omega),show 1+n-1=n by omega]at KA
  have hS:aU g l=(l.drop 1).take n:=by rw[aU,hn];rfl
  have xl:((l.drop 1).take n).length=n:=by simp;omega
  have acn:∀b∈(l.drop 1).take n,b.length=64:=fun b hb=>hl b (List.mem_of_mem_drop (List.mem_of_mem_take hb))
  have LI:cr (eG g) 1=some (.v (.int .i64 g.aE)):=rfl
  rw[hS]
  have he:eG g=[.v (.int .i64 g.lowers),.v (.int .i64 g.aE),.v (.int .i64 g.blocks),.v (.int .i64 g.log)]:=rfl
  generalize (l.drop 1).take n=S at*
  simp[-List.length_flatMap,-Int.natCast_add,j6,he,hr,w1,asNat,KA]
  refine m_loop S.length (InJ g S) ⟨_,_,_,_,_,_,_,_,_,_,_,_,_,.inl rfl,rfl⟩ ?_
  rintro j σ hj ⟨a0,a1,a2,a3,a4,a7,a8,a9,db,fk,cJ,cX,o,ho,rfl⟩
  by_cases hlt:j< S.length
  ·have bd:(j:Int)< S.length:=by omega
   have mC:=Ji S j hlt
   have eW:=af (aeM S[j] (acn _ (List.getElem_mem hlt)))
   have hst:S.take (j+1)=S.take j++[S[j]]:=by rw[List.take_succ_eq_append_getElem hlt]
   have hSt:(S.take j).length=j:=by simp;omega
   have w4:IntKind.i64.wrap ((j:Int)+1)=((j+1:Nat):Int):=by rw[←Int.natCast_succ];exact au (by omega)
   have aI:∀a0 a1 a2 a3 a4 a7 a8 a9 db fk cJ cX x,InJ g S (j+1) ⟨[],[a0,a1,a2,a3,a4,.sl (.own 344 34) ((ct (S.take j)).length+1) ((ct (S.take j)).flatMap eI++eI ((nE S[j]).getD cx)),aB .nil 312 3 eN (cT (S.take (j+1))),a7,a8,a9,db,fk,sl eS S,.v (.int .i64 S.length),.v (.int .i64 ((j+1:Nat):Int)),cJ,cX],[some (eG g),none,some (eI x),none]⟩:=by
    intro a0 a1 a2 a3 a4 a7 a8 a9 db fk cJ cX x
    refine⟨a0,a1,a2,a3,a4,a7,a8,a9,db,fk,cJ,cX,_,.inr ⟨x,rfl⟩, ?_⟩
    rw[←bk,←Md,←hst]
   rw[hst,pY,hSt]at aI
   have nx:(ct (S.take j)).length=j:=by simp[ct];omega
   have Js:=Tm (ct (S.take j))
   have hoC:=xJ (ct (S.take j))
   have hbF:=oW (cT (S.take j))
   have hbC:=ot (cT (S.take j))
   have fG:(cT (S.take j)).length≤j:=by
    have:∀(A:List (List UInt8)),(cT A.reverse).length≤A.length:=by
     intro A
     induction A with
     |nil=>simp[cT]
     |cons a A ih=>
      rw[List.reverse_cons,pY,List.length_append,List.length_cons]
      split<;>simp<;>omega
    have:=this (S.take j).reverse
    rwa [List.reverse_reverse,List.length_reverse,hSt]at this
   obtain⟨gq,eu,Dk,N8⟩:(j+1)*80≤room∧j+1≤room∧((cT (S.take j)).length+1)*8≤room∧(cT (S.take j)).length+1≤room:=by unfold room;omega
   have hz:=FO
   simp only[List.reduceReplicate]at hz
   have Gg:80≤room∧8≤room∧1≤room:=by unfold room;omega
   obtain⟨r80,r8,r1⟩:=Gg
   unfold Ar at eW
   generalize RU:(nE S[j]).getD cx=XX at*
   have hnR:=fun s=>P8 s XX
   cases hG:(nE S[j]).isSome
   ·rw[hG]at eW aI
    simp only[Bool.false_eq_true,if_false,bk,eN]at aI
    by_cases hO:ct (S.take j)=[]
    ·have la:j=0:=by rw[←nx,hO];rfl
     rw[hO]at aI⊢
     rw[aK]
     by_cases hB:cT (S.take j)=[]
     ·rw[hB]at aI⊢
      rw[aK]
      rcases ho with rfl|⟨x,rfl⟩<;>simp[-List.length_flatMap,-Int.natCast_add,hlt,bd,mC,eW,hit,r80,r8,r1,w4]
      all_goals exact aI _ _ _ _ _ _ _ _ _ _ _ _ _
     ·exact absurd (by rw[la];rfl) hB
    ·rw[aA _ _ _ _ hO]
     by_cases hB:cT (S.take j)=[]
     ·rw[hB]at aI⊢
      rw[aK]
      rcases ho with rfl|⟨x,rfl⟩<;>simp[-List.length_flatMap,-Int.natCast_add,hlt,bd,mC,eW,hit,r8,r1,w4,nx,Js,gq,eu]
      all_goals
       rw[nx]at aI
       exact aI _ _ _ _ _ _ _ _ _ _ _ _ _
     ·rw[aA _ _ _ _ hB]
      rcases ho with rfl|⟨x,rfl⟩<;>simp[-List.length_flatMap,-Int.natCast_add,hlt,bd,mC,eW,hit,w4,nx,Js,gq,eu,Dk,N8,hbF]
      all_goals
       rw[nx]at aI
       exact aI _ _ _ _ _ _ _ _ _ _ _ _ _
   ·rw[hG]at eW aI
    simp only[if_true,List.append_nil]at aI
    by_cases hO:ct (S.take j)=[]
    ·have la:j=0:=by rw[←nx,hO];rfl
     have hB:cT (S.take j)=[]:=by rw[la];rfl
     rw[hO,hB]at aI⊢
     rw[aK,aK]
     rw[aK]at aI
     rcases ho with rfl|⟨x,rfl⟩<;>simp[-List.length_flatMap,-Int.natCast_add,hlt,bd,mC,eW,hit,r80,r1,w4]
     all_goals exact aI _ _ _ _ _ _ _ _ _ _ _ _ _
    ·rw[aA _ _ _ _ hO]
     by_cases hB:cT (S.take j)=[]
     ·rw[hB]at aI⊢
      rw[aK]
      rw[aK]at aI
      rcases ho with rfl|⟨x,rfl⟩<;>simp[-List.length_flatMap,-Int.natCast_add,hlt,bd,mC,eW,hit,w4,nx,Js,gq,eu]
      all_goals
       rw[nx]at aI
       exact aI _ _ _ _ _ _ _ _ _ _ _ _ _
     ·rw[aA _ _ _ _ hB]
      rw[aA _ _ _ _ hB]at aI
      rcases ho with rfl|⟨x,rfl⟩<;>simp[-List.length_flatMap,-Int.natCast_add,hlt,bd,mC,eW,hit,w4,nx,Js,gq,eu]
      all_goals
       rw[nx]at aI
       exact aI _ _ _ _ _ _ _ _ _ _ _ _ _
  ·have N3:j=S.length:=by omega
   subst N3
   rw[List.take_length]
   have Qo:ct S≠[]:=by
    intro hh
    have:=congrArg List.length hh
    simp[ct]at this
    rw[this]at xl
    simp at xl;omega
   rw[aA _ _ _ _ Qo,aA _ _ _ _ Qo]
   unfold aB
   rcases ho with rfl|⟨x,rfl⟩<;>by_cases hb:cT S=[]<;>simp[-List.length_flatMap,hb,List.idxOf?]
   all_goals exact⟨rfl,rfl⟩
end Go.Vi.Sz
end
section
set_option maxRecDepth 100000
set_option maxHeartbeats 4000000
namespace Go.Vi.Sz
open Go Go.Vi Go.Vi.Zz
def RnJ(g:cA)(l:List (List UInt8))(S:List (List UInt8))(j:Nat)(σ:St):Prop:=∃a0 a3 a4 a8 a9 db fk a12 o,(o=none∨∃x,o=some (eI x))∧
 σ=⟨[],[a0,sl eS l,.ref 0 0,a3,a4,aB .clip 320 34 eI (ct (S.take j)),aB .clip 288 3 eN (cT (S.take j)),.v (.int .i64 ((j+1:Nat):Int)),a8,a9,db,fk,a12],[some (eG g),none,o,none]⟩
theorem IU(g:cA)(l:List (List UInt8))(hl:∀b∈l,b.length=64):Ev E qD [.agg (eG g),sl eS l]
  (if ep g l then .an [aB .clip 0 34 eI (ct (aU g l)),aB .clip 1 3 eN (cT (aU g l))]else .an [.sl .nil 0 [],.sl .nil 0 []]):=by
 refine aC (fn:=nh) rfl (by decide) rfl rfl rfl ?_
 have hr:=af (vJ g l)
 cases h:ep g l
 ·rw[h]at hr
  simp[-List.length_flatMap,nh,hr]
 ·rw[h]at hr
  have h':=h
  simp only[ep,Bool.and_eq_true,decide_eq_true_eq]at h'
  have hs:=mU h'.1
  obtain⟨n,hn⟩:∃n:Nat,g.aE=n:=⟨g.aE.toNat,by omega⟩
  have hS:aU g l=(l.drop 1).take n:=by rw[aU,hn];rfl
  have xl:((l.drop 1).take n).length=n:=by simp;omega
  have acn:∀b∈(l.drop 1).take n,b.length=64:=fun b hb=>hl b (List.mem_of_mem_drop (List.mem_of_mem_take hb))
  have hSi:∀j (hj:j< ((l.drop 1).take n).length),j+1< l.length∧l[j+1]? =some ((l.drop 1).take n)[j]:=by
   intro j hj
   have:j+1< l.length:=by omega
   refine⟨this, ?_⟩
   rw[List.getElem?_eq_getElem this,List.getElem_take,List.getElem_drop]
   simp[Nat.add_comm]
  rw[hS]
  generalize (l.drop 1).take n=S at*
  simp[-List.length_flatMap,nh,hr]
  refine m_loop S.length (RnJ g l S) ⟨_,_,_,_,_,_,_,_,_,.inl rfl,rfl⟩ ?_
  rintro j σ hj ⟨a0,a3,a4,a8,a9,db,fk,a12,o,ho,rfl⟩
  by_cases hlt:j< S.length
  ·have bd:((j+1:Nat):Int)≤g.aE:=by omega
   obtain⟨BG,DH⟩:=hSi j hlt
   have mC:=Ji l (j+1) BG
   rw[List.getElem?_eq_getElem BG,Option.some.injEq]at DH
   rw[DH]at mC
   have eW:=af (aca S[j] (acn _ (List.getElem_mem hlt)))
   have hst:S.take (j+1)=S.take j++[S[j]]:=by rw[List.take_succ_eq_append_getElem hlt]
   have hSt:(S.take j).length=j:=by simp;omega
   have w4:IntKind.i64.wrap (((j+1:Nat):Int)+1)=((j+1+1:Nat):Int):=by rw[←Int.natCast_succ];exact au (by omega)
   have aI:∀a0 a3 a4 a8 a9 db fk a12 x,RnJ g l S (j+1) ⟨[],[a0,sl eS l,.ref 0 0,a3,a4,.sl (.own 320 34) ((ct (S.take j)).length+1) ((ct (S.take j)).flatMap eI++eI ((nE S[j]).getD cx)),aB .clip 288 3 eN (cT (S.take (j+1))),.v (.int .i64 ((j+1+1:Nat):Int)),a8,a9,db,fk,a12],[some (eG g),none,some (eI x),none]⟩:=by
    intro a0 a3 a4 a8 a9 db fk a12 x
    refine⟨a0,a3,a4,a8,a9,db,fk,a12,_,.inr ⟨x,rfl⟩, ?_⟩
    rw[←bk,←Md,←hst]
   rw[hst,pY,hSt]at aI
   have nx:(ct (S.take j)).length=j:=by simp[ct];omega
   have Js:=Tm (ct (S.take j))
   have hoC:=xJ (ct (S.take j))
   have hbF:=oW (cT (S.take j))
   have hbC:=ot (cT (S.take j))
   have fG:(cT (S.take j)).length≤j:=by
    have:∀(A:List (List UInt8)),(cT A.reverse).length≤A.length:=by
     intro A
     induction A with
     |nil=>simp[cT]
     |cons a A ih=>
      rw[List.reverse_cons,pY,List.length_append,List.length_cons]
      split<;>simp<;>omega
    have:=this (S.take j).reverse
    rwa [List.reverse_reverse,List.length_reverse,hSt]at this
   obtain⟨gq,eu,Dk,N8⟩:(j+1)*80≤room∧j+1≤room∧((cT (S.take j)).length+1)*8≤room∧(cT (S.take j)).length+1≤room:=by unfold room;omega
   have hz:=FO
   simp only[List.reduceReplicate]at hz
   have Gg:80≤room∧8≤room∧1≤room:=by unfold room;omega
   obtain⟨r80,r8,r1⟩:=Gg
   unfold Ar at eW
   generalize RU:(nE S[j]).getD cx=XX at*
   have hnR:=fun s=>P8 s XX
   cases hG:(nE S[j]).isSome
   ·rw[hG]at eW aI
    simp only[Bool.false_eq_true,if_false,bk,eN]at aI
    by_cases hO:ct (S.take j)=[]
    ·have la:j=0:=by rw[←nx,hO];rfl
     rw[hO]at aI⊢
     rw[aK]
     by_cases hB:cT (S.take j)=[]
     ·rw[hB]at aI⊢
      rw[aK]
      rcases ho with rfl|⟨x,rfl⟩<;>simp[-List.length_flatMap,-Int.natCast_add,hlt,bd,BG,mC,eW,hit,r80,r8,r1,w4]
      all_goals exact aI _ _ _ _ _ _ _ _ _
     ·exact absurd (by rw[la];rfl) hB
    ·rw[aA _ _ _ _ hO]
     by_cases hB:cT (S.take j)=[]
     ·rw[hB]at aI⊢
      rw[aK]
      rcases ho with rfl|⟨x,rfl⟩<;>simp[-List.length_flatMap,-Int.natCast_add,hlt,bd,BG,mC,eW,hit,r8,r1,w4,nx,Js,gq,eu]
      all_goals
       rw[nx]at aI
       exact aI _ _ _ _ _ _ _ _ _
     ·rw[aA _ _ _ _ hB]
      rcases ho with rfl|⟨x,rfl⟩<;>simp[-List.length_flatMap,-Int.natCast_add,hlt,bd,BG,mC,eW,hit,w4,nx,Js,gq,eu,Dk,N8,hbF]
      all_goals
       rw[nx]at aI
       exact aI _ _ _ _ _ _ _ _ _
   ·rw[hG]at eW aI
    simp only[if_true,List.append_nil]at aI
    by_cases hO:ct (S.take j)=[]
    ·have la:j=0:=by rw[←nx,hO];rfl
     have hB:cT (S.take j)=[]:=by rw[la];rfl
     rw[hO,hB]at aI⊢
     rw[aK,aK]
     rw[aK]at aI
     rcases ho with rfl|⟨x,rfl⟩<;>simp[-List.length_flatMap,-Int.natCast_add,hlt,bd,BG,mC,eW,hit,r80,r1,w4]
     all_goals exact aI _ _ _ _ _ _ _ _ _
    ·rw[aA _ _ _ _ hO]
     by_cases hB:cT (S.take j)=[]
     ·rw[hB]at aI⊢
      rw[aK]
      rw[aK]at aI
      rcases ho with rfl|⟨x,rfl⟩<;>simp[-List.length_flatMap,-Int.natCast_add,hlt,bd,BG,mC,eW,hit,w4,nx,Js,gq,eu]
      all_goals
       rw[nx]at aI
       exact aI _ _ _ _ _ _ _ _ _
     ·rw[aA _ _ _ _ hB]
      rw[aA _ _ _ _ hB]at aI
      rcases ho with rfl|⟨x,rfl⟩<;>simp[-List.length_flatMap,-Int.natCast_add,hlt,bd,BG,mC,eW,hit,w4,nx,Js,gq,eu]
      all_goals
       rw[nx]at aI
       exact aI _ _ _ _ _ _ _ _ _
  ·have N3:j=S.length:=by omega
   subst N3
   have bd:¬((S.length+1:Nat):Int)≤g.aE:=by omega
   rw[List.take_length]
   have Qo:ct S≠[]:=by
    intro hh
    have:=congrArg List.length hh
    simp[ct]at this
    rw[this]at xl
    simp at xl;omega
   rw[aA _ _ _ _ Qo,aA _ _ _ _ Qo]
   unfold aB
   rcases ho with rfl|⟨x,rfl⟩<;>by_cases hb:cT S=[]<;>simp[-List.length_flatMap,-Int.natCast_add,bd,hb,List.idxOf?]
   all_goals exact⟨rfl,rfl⟩
end Go.Vi.Sz
end
section
set_option maxRecDepth 100000
set_option maxHeartbeats 4000000
namespace Go.Vi.Sz
open Go Go.Vi Go.Vi.Zz
theorem Jt(x:aO)(k:Nat)(hk:k< 5):Ev E mg [.agg (eI x),.v (.int .i64 k)] (.v (.int .i64 ((iJ x).getD k 0))):=by
 refine aC (fn:=pd) rfl (by decide) rfl rfl rfl ?_
 have hc:k=0∨k=1∨k=2∨k=3∨k=4:=by omega
 rcases hc with rfl|rfl|rfl|rfl|rfl<;>simp[pd,eI,iJ]
theorem xW:∀(l:List aO) (i k:Nat) (h:i< l.length),k< 5→(bu l).getD (5*i+k) 0=(iJ l[i]).getD k 0
 | [],i,k,h,_=>by simp at h
 |x::l,0,k,_,hk=>by
  rw[bu,List.flatMap_cons,List.getD_eq_getElem?_getD,List.getD_eq_getElem?_getD,List.getElem?_append_left (by simp[iJ];omega)]
  simp
 |x::l,i+1,k,h,hk=>by
  have:=xW l i k (by simpa using h) hk
  rw[bu,List.flatMap_cons,List.getD_eq_getElem?_getD,List.getElem?_append_right (by simp[iJ];omega),←bu]
  rw[List.getD_eq_getElem?_getD]at this
  rw[show 5*(i+1)+k-(iJ x).length=5*i+k by simp[iJ];omega,this]
  simp
def VaO(l:List aO)(blocks p:Int)(I K:Nat)(i:Nat)(σ:St):Prop:=((bu l).take (min (5*i) (5*I+K))).contains p=false∧∃a b c d e f g h,σ=⟨[],[.sl .any l.length (l.flatMap eI),h,.v (.int .i64 ((I+1:Nat):Int)),.v (.int .i64 (K:Int)),g,.v (.int .i64 p),.v (.int .i64 i),a,b,c,d,e,f],[]⟩
def VaI(l:List aO)(blocks p:Int)(I K:Nat)(i j:Nat)(σ:St):Prop:=((bu l).take (min (5*i+j) (5*I+K))).contains p=false∧∃b c d e f g h,σ=⟨[],[.sl .any l.length (l.flatMap eI),h,.v (.int .i64 ((I+1:Nat):Int)),.v (.int .i64 (K:Int)),g,.v (.int .i64 p),.v (.int .i64 i),.v (.int .i64 j),b,c,d,e,f],[]⟩
theorem Me(l:List aO)(hn:l.length≤100000)(blocks ino k:Int):Ev E sq [.sl .any l.length (l.flatMap eI),.v (.int .i64 blocks),.v (.int .i64 ino),.v (.int .i64 k)] (.v (.bool (dr (bu l) blocks ino k))):=by
 refine aC (fn:=fW) rfl (by decide) rfl rfl rfl ?_
 unfold dr
 by_cases c1:ino< 1
 ·have d1:¬1≤ino:=by omega
  simp[-List.length_flatMap,fW,c1,d1]
 have d1:1≤ino:=by omega
 by_cases c2:(l.length:Int)< ino
 ·have d2:¬(numOf ino k< (bu l).length∧0≤k):=by rw[ma];unfold numOf;omega
  have d2':(decide (0≤k)&&decide (numOf ino k< (bu l).length))=false:=by
   rw[Bool.eq_false_iff];simp only[ne_eq,Bool.and_eq_true,decide_eq_true_eq];exact fun h=>d2 ⟨h.2,h.1⟩
  have:(decide (1≤ino)&&decide (0≤k)&&decide (k≤4)&&decide (numOf ino k< (bu l).length)&&decide (1≤(bu l).getD (numOf ino k) 0)&&decide ((bu l).getD (numOf ino k) 0≤blocks)&& !((bu l).take (numOf ino k)).contains ((bu l).getD (numOf ino k) 0))=false:=by
   rw[Bool.eq_false_iff]
   intro hh
   simp only[Bool.and_eq_true,decide_eq_true_eq]at hh
   exact d2 ⟨hh.1.1.1.2,hh.1.1.1.1.1.2⟩
  rw[this]
  simp[-List.length_flatMap,fW,c1,c2]
 by_cases c3:k< 0
 ·have d3:¬0≤k:=by omega
  simp[-List.length_flatMap,fW,c1,c2,c3,d3]
 have d3:0≤k:=by omega
 by_cases c4:4< k
 ·have d4:¬k≤4:=by omega
  simp[-List.length_flatMap,fW,c1,c2,c3,c4,d4]
 have d4:k≤4:=by omega
 obtain⟨I,rfl⟩:∃I:Nat,ino=((I+1:Nat):Int):=⟨(ino-1).toNat,by omega⟩
 obtain⟨K,rfl⟩:∃K:Nat,k=(K:Int):=⟨k.toNat,by omega⟩
 have hI:I< l.length:=by omega
 have hK:K< 5:=by omega
 have vo:numOf ((I+1:Nat):Int) K=5*I+K:=by unfold numOf;omega
 have hlt:5*I+K< (bu l).length:=by rw[ma];omega
 have w1:IntKind.i64.wrap (((I+1:Nat):Int)-1)=(I:Int):=by rw[show((I+1:Nat):Int)-1=(I:Int) by omega];exact au (by omega)
 have dA:∀i,i< l.length→dR 10 (.sl .any l.length (l.flatMap eI)) (.v (.int .i64 (i:Int)))=some (.ptr (l.flatMap eI) (i*10)):=by
  intro i hi
  show(if 0≤(i:Int)∧(i:Int).toNat< l.length then some (T.ptr (l.flatMap eI) ((i:Int).toNat*10))else none)=_
  rw[if_pos (by omega),Int.toNat_natCast]
 have bq:=fun i (hi:i< l.length)=>uA l i hi
 have b9:=fun(x:aO)=>(bJ (by simp):Option.filter T.closed (some (T.agg (eI x)))=some (T.agg (eI x)))
 have Vv:=fun i j (hi:i< l.length) (hj:j< 5)=>(xW l i j hi hj)▸af (Jt l[i] j hj)
 rw[vo]
 generalize hp:(bu l).getD (5*I+K) 0=p at*
 have hpI:=Vv I K hI hK
 rw[hp]at hpI
 by_cases c5:p< 1
 ·have d5:¬1≤p:=by omega
  simp[-List.length_flatMap,-Int.natCast_add,fW,c1,c2,c3,c4,w1,dA I hI,bq I hI,b9,hpI,c5,d5]
 have d5:1≤p:=by omega
 by_cases c6:blocks< p
 ·have d6:¬p≤blocks:=by omega
  simp[-List.length_flatMap,-Int.natCast_add,fW,c1,c2,c3,c4,w1,dA I hI,bq I hI,b9,hpI,c5,d5,c6,d6]
 have d6:p≤blocks:=by omega
 have akk:(decide (1≤((I+1:Nat):Int))&&decide (0≤(K:Int))&&decide ((K:Int)≤4)&&decide (5*I+K< (bu l).length)&&decide (1≤p)&&decide (p≤blocks)&& !((bu l).take (5*I+K)).contains p)= !((bu l).take (5*I+K)).contains p:=by
  simp only[d1,d3,d4,hlt,d5,d6,decide_true,Bool.true_and]
 rw[akk]
 simp[-List.length_flatMap,-Int.natCast_add,fW,c1,c2,c3,c4,w1,dA I hI,bq I hI,b9,hpI,c5,c6]
 refine m_loop (I+1) (VaO l blocks p I K) ⟨by simp,_,_,_,_,_,_,_,_,rfl⟩ ?_
 rintro i σ hi ⟨hno,a,b,c,d,e,f,g,h,rfl⟩
 by_cases Nh:i< I+1
 ·have Br:(i:Int)< ((I+1:Nat):Int):=by omega
  have oN:i< l.length:=by omega
  have w2:IntKind.i64.wrap ((i:Int)+1)=((i+1:Nat):Int):=by rw[←Int.natCast_succ];exact au (by omega)
  simp[-List.length_flatMap,-Int.natCast_add,Br,Nh]
  refine m_loop 5 (VaI l blocks p I K i) ⟨hno,_,_,_,_,_,_,_,rfl⟩ ?_
  rintro j σ hj ⟨hno,b,c,d,e,f,g,h,rfl⟩
  by_cases zO:j< 5
  ·have kf:(j:Int)< 5:=by omega
   have w3:IntKind.i64.wrap ((j:Int)+1)=((j+1:Nat):Int):=by rw[←Int.natCast_succ];exact au (by omega)
   have Dt:=Vv i j oN zO
   generalize hq:(bu l).getD (5*i+j) 0=q at Dt
   have hlen:5*i+j< (bu l).length:=by rw[ma];omega
   have hqg:(bu l)[5*i+j]=q:=by rw[←hq,List.getD_eq_getElem?_getD,List.getElem?_eq_getElem hlen,Option.getD_some]
   have NM:¬(i< I∨j< K)→((bu l).take (min (5*i+(j+1)) (5*I+K))).contains p=false:=by
    intro hb
    rw[Nat.min_eq_right (by omega)]at hno⊢
    exact hno
   have kD:(i< I∨j< K)→((bu l).take (min (5*i+(j+1)) (5*I+K))).contains p=(q==p):=by
    intro hb
    rw[Nat.min_eq_left (by omega)]at hno⊢
    rw[←Nat.add_assoc,List.take_succ_eq_append_getElem hlen,hqg]
    rw[Bool.eq_iff_iff,List.contains_iff_mem,List.mem_append,List.mem_singleton,beq_iff_eq]
    constructor
    ·rintro(h|h)
     ·rw[Bool.eq_false_iff]at hno
      exact absurd (List.contains_iff_mem.2 h) hno
     ·exact h.symm
    ·intro h;exact .inr h.symm
   have o5:(i< I∨j< K)→(q==p)=true→((bu l).take (5*I+K)).contains p=true:=by
    intro hb h
    have h1:=kD hb
    rw[h,Nat.min_eq_left (by omega),List.contains_iff_mem]at h1
    rw[List.contains_iff_mem]
    have e:(bu l).take (5*i+(j+1))=((bu l).take (5*I+K)).take (5*i+(j+1)):=by rw[List.take_take,Nat.min_eq_left (by omega)]
    rw[e]at h1
    exact List.mem_of_mem_take h1
   by_cases ahs:i< I
   ·have KB:(i:Int)< I:=by omega
    cases Ju:q==p
    ·have Qp:=(kD (.inl ahs)).trans Ju
     simp[-List.length_flatMap,-Int.natCast_add,kf,zO,w1,w3,KB,dA i oN,bq i oN,b9,Dt,Ju,-beq_eq_false_iff_ne]
     exact⟨Qp,_,_,_,_,_,_,_,rfl⟩
    ·have hm:=List.contains_iff_mem.1 (o5 (.inl ahs) Ju)
     simp[-List.length_flatMap,-Int.natCast_add,kf,zO,w1,KB,dA i oN,bq i oN,b9,Dt,Ju,hm,-beq_iff_eq]
   ·have KB:¬(i:Int)< I:=by omega
    by_cases hjK:j< K
    ·have Vw:(j:Int)< K:=by omega
     cases Ju:q==p
     ·have Qp:=(kD (.inr hjK)).trans Ju
      simp[-List.length_flatMap,-Int.natCast_add,kf,zO,w1,w3,KB,Vw,dA i oN,bq i oN,b9,Dt,Ju,-beq_eq_false_iff_ne]
      exact⟨Qp,_,_,_,_,_,_,_,rfl⟩
     ·have hm:=List.contains_iff_mem.1 (o5 (.inr hjK) Ju)
      simp[-List.length_flatMap,-Int.natCast_add,kf,zO,w1,KB,Vw,dA i oN,bq i oN,b9,Dt,Ju,hm,-beq_iff_eq]
    ·have Vw:¬(j:Int)< K:=by omega
     have Qp:=NM (by omega)
     simp[-List.length_flatMap,-Int.natCast_add,kf,zO,w1,w3,KB,Vw]
     exact⟨Qp,_,_,_,_,_,_,_,rfl⟩
  ·have aco:j=5:=by omega
   subst aco
   simp[-List.length_flatMap,-Int.natCast_add,w2]
   exact⟨hno,_,_,_,_,_,_,_,_,rfl⟩
 ·have uY:i=I+1:=by omega
  subst uY
  simp[-List.length_flatMap,-Int.natCast_add]
  rw[Nat.min_eq_right (by omega)]at hno
  simpa using hno
end Go.Vi.Sz
end
section
set_option maxRecDepth 100000
set_option maxHeartbeats 4000000
namespace Go.Vi.Sz
open Go Go.Vi Go.Vi.Zz
def eP(s:Int×Int):List T:=[.v (.int .i64 s.1),.v (.int .i64 s.2)]
@[simp] theorem IT(s:Int×Int):(eP s).length=2:=rfl
theorem To(l:List (Int×Int)):(l.flatMap eP).length=l.length*2:=mR IT l
theorem Jv(l:List (Int×Int)):bn (l.flatMap eP)=true:=by
 induction l with
 |nil=>rfl
 |cons c l ih=>simp[eP,ih]
theorem aaq(d)(l:List (Int×Int)):stripL d (l.flatMap eP)=l.flatMap eP:=by
 induction l with
 |nil=>simp
 |cons c l ih=>simp[eP,ih]
def kU(fl:List Int)(blocks:Int)(n:Nat):List (Int×Int):=ru fl blocks (tF (fl.take n))
theorem Mf(fl:List Int)(blocks:Int)(n:Nat)(h:n< fl.length):kU fl blocks (n+1)=kU fl blocks n++(if fl.getD n 0=0∨dr fl blocks (dP n).1 (dP n).2=true then []else [dP n]):=by
 have hg:fl.getD n 0=fl[n]:=by rw[List.getD_eq_getElem?_getD,List.getElem?_eq_getElem h,Option.getD_some]
 unfold kU
 rw[List.take_succ_eq_append_getElem h,qV,List.length_take,Nat.min_eq_left (by omega),ru,List.filterMap_append,←ru,hg]
 congr 1
 unfold xP
 by_cases h0:fl[n]=0
 ·rw[if_pos h0,if_pos (.inl h0)];rfl
 ·rw[if_neg h0]
  cases hv:dr fl blocks (dP n).1 (dP n).2
  ·rw[if_neg (by simp[h0])];simp[hv]
  ·rw[if_pos (.inr rfl)];simp[hv]
theorem yW(fl:List Int)(blocks:Int):∀n,n≤fl.length→(kU fl blocks n).length≤n
 |0,_=>by simp[kU,ru,tF]
 |n+1,h=>by
  have:=yW fl blocks n (by omega)
  rw[Mf fl blocks n (by omega),List.length_append]
  split<;>simp<;>omega
def BaO(l:List aO)(blocks:Int)(i:Nat)(σ:St):Prop:=∃a b c d e,σ=⟨[],[.sl .any l.length (l.flatMap eI),.v (.int .i64 blocks),a,aB .clip 328 77 eP (kU (bu l) blocks (5*i)),.v (.int .i64 i),b,c,d,e],[]⟩
def BaI(l:List aO)(blocks:Int)(i j:Nat)(σ:St):Prop:=∃a c d e,σ=⟨[],[.sl .any l.length (l.flatMap eI),.v (.int .i64 blocks),a,aB .clip 328 77 eP (kU (bu l) blocks (5*i+j)),.v (.int .i64 i),.v (.int .i64 j),c,d,e],[]⟩
theorem ae0(l:List aO)(hn:l.length≤10000)(blocks:Int):Ev E zT [.sl .any l.length (l.flatMap eI),.v (.int .i64 blocks)] (aB .clip 0 77 eP (kU (bu l) blocks (5*l.length))):=by
 refine aC (fn:=vx) rfl (by decide) rfl rfl rfl ?_
 have dA:∀i,i< l.length→dR 10 (.sl .any l.length (l.flatMap eI)) (.v (.int .i64 (i:Int)))=some (.ptr (l.flatMap eI) (i*10)):=by
  intro i hi
  show(if 0≤(i:Int)∧(i:Int).toNat< l.length then some (T.ptr (l.flatMap eI) ((i:Int).toNat*10))else none)=_
  rw[if_pos (by omega),Int.toNat_natCast]
 have bq:=fun i (hi:i< l.length)=>uA l i hi
 have b9:=fun(x:aO)=>(bJ (by simp):Option.filter T.closed (some (T.agg (eI x)))=some (T.agg (eI x)))
 have Vv:=fun i j (hi:i< l.length) (hj:j< 5)=>(xW l i j hi hj)▸af (Jt l[i] j hj)
 have mP:=fun a b=>af (Me l (by omega) blocks a b)
 simp[-List.length_flatMap,-Int.natCast_add,vx]
 refine m_loop l.length (BaO l blocks) ⟨_,_,_,_,_,rfl⟩ ?_
 rintro i σ hi ⟨a,b,c,d,e,rfl⟩
 by_cases oN:i< l.length
 ·have Br:(i:Int)< l.length:=by omega
  have w2:IntKind.i64.wrap ((i:Int)+1)=((i+1:Nat):Int):=by rw[←Int.natCast_succ];exact au (by omega)
  simp[-List.length_flatMap,-Int.natCast_add,Br,oN]
  refine m_loop 5 (BaI l blocks i) ⟨_,_,_,_,rfl⟩ ?_
  rintro j σ hj ⟨a,c,d,e,rfl⟩
  by_cases zO:j< 5
  ·have kf:(j:Int)< 5:=by omega
   have w3:IntKind.i64.wrap ((j:Int)+1)=((j+1:Nat):Int):=by rw[←Int.natCast_succ];exact au (by omega)
   have Dt:=Vv i j oN zO
   have hlen:5*i+j< (bu l).length:=by rw[ma];omega
   have fY:dP (5*i+j)=(((i+1:Nat):Int),(j:Int)):=by
    unfold dP
    rw[show(5*i+j) / 5=i by omega,show(5*i+j)%5=j by omega]
   have Jw:=Mf (bu l) blocks (5*i+j) hlen
   rw[fY]at Jw
   have hv:=mP ((i+1:Nat):Int) (j:Int)
   have hle:=yW (bu l) blocks (5*i+j) (by omega)
   have yE:=To (kU (bu l) blocks (5*i+j))
   have hB2:=Jv (kU (bu l) blocks (5*i+j))
   generalize (bu l).getD (5*i+j) 0=q at*
   have adk:(q=0∨dr (bu l) blocks ((i+1:Nat):Int) (j:Int)=true)→∀a c d e,BaI l blocks i (j+1) ⟨[],[.sl .any l.length (l.flatMap eI),.v (.int .i64 blocks),a,aB .clip 328 77 eP (kU (bu l) blocks (5*i+j)),.v (.int .i64 i),.v (.int .i64 ((j+1:Nat):Int)),c,d,e],[]⟩:=by
    intro h a c d e
    rw[if_pos h,List.append_nil]at Jw
    exact⟨a,c,d,e,by rw[←Nat.add_assoc,Jw]⟩
   have hgo:¬(q=0∨dr (bu l) blocks ((i+1:Nat):Int) (j:Int)=true)→∀a c d e,BaI l blocks i (j+1) ⟨[],[.sl .any l.length (l.flatMap eI),.v (.int .i64 blocks),a,.sl (.own 328 77) ((kU (bu l) blocks (5*i+j)).length+1) ((kU (bu l) blocks (5*i+j)).flatMap eP++[.v (.int .i64 ((i+1:Nat):Int)),.v (.int .i64 (j:Int))]),.v (.int .i64 i),.v (.int .i64 ((j+1:Nat):Int)),c,d,e],[]⟩:=by
    intro h a c d e
    rw[if_neg h]at Jw
    exact⟨a,c,d,e,by rw[←Nat.add_assoc,Jw,bk];rfl⟩
   obtain⟨r1,r2,r3,r4⟩:((kU (bu l) blocks (5*i+j)).length+1)*16≤room∧(kU (bu l) blocks (5*i+j)).length+1≤room∧16≤room∧1≤room:=by unfold room;omega
   generalize kU (bu l) blocks (5*i+j)=B at*
   by_cases hq:q=0
   ·have Qq:(q !=0)=false:=by rw[hq];rfl
    have hs:=adk (.inl hq)
    by_cases hB:B=[]
    ·rw[hB]at hs⊢
     rw[aK]at hs⊢
     simp[-List.length_flatMap,-Int.natCast_add,kf,zO,w3,dA i oN,bq i oN,b9,Dt,Qq,hs]
    ·rw[aA _ _ _ _ hB]at hs⊢
     simp[-List.length_flatMap,-Int.natCast_add,kf,zO,w3,dA i oN,bq i oN,b9,Dt,Qq,hs,hit]
   ·have Qq:(q !=0)=true:=by simpa using hq
    cases hV:dr (bu l) blocks ((i+1:Nat):Int) (j:Int)
    ·have hs:=hgo (by rw[hV];simp[hq])
     rw[hV]at hv
     by_cases hB:B=[]
     ·rw[hB]at hs⊢
      rw[aK]
      simp[-List.length_flatMap,-Int.natCast_add,kf,zO,w2,w3,dA i oN,bq i oN,b9,Dt,Qq,hv,r3,r4,hit]
      exact hs _ _ _ _
     ·rw[aA _ _ _ _ hB]
      simp[-List.length_flatMap,-Int.natCast_add,kf,zO,w2,w3,dA i oN,bq i oN,b9,Dt,Qq,hv,r1,r2,hit,yE]
      exact hs _ _ _ _
    ·have hs:=adk (.inr hV)
     rw[hV]at hv
     by_cases hB:B=[]
     ·rw[hB]at hs⊢
      rw[aK]at hs⊢
      simp[-List.length_flatMap,-Int.natCast_add,kf,zO,w2,w3,dA i oN,bq i oN,b9,Dt,Qq,hv,hs]
     ·rw[aA _ _ _ _ hB]at hs⊢
      simp[-List.length_flatMap,-Int.natCast_add,kf,zO,w2,w3,dA i oN,bq i oN,b9,Dt,Qq,hv,hs,hit]
  ·have aco:j=5:=by omega
   subst aco
   simp[-List.length_flatMap,-Int.natCast_add,w2]
   exact⟨_,_,_,_,_,rfl⟩
 ·have uY:i=l.length:=by omega
  subst uY
  unfold aB
  by_cases hB:kU (bu l) blocks (5*l.length)=[]<;>simp[-List.length_flatMap,-Int.natCast_add,hB,List.idxOf?]
end Go.Vi.Sz
end
section
set_option maxRecDepth 100000
set_option maxHeartbeats 4000000
namespace Go.Vi.Sz
open Go Go.Vi Go.Vi.Zz
theorem aht(fl:List Int)(q:Dq)(h:q∈tF fl):∃n,∃hn:n< fl.length,q=((dP n).1,(dP n).2,fl[n]-1):=by
 unfold tF at h
 rw[List.mem_flatMap]at h
 obtain⟨⟨p,n⟩,h1,h2⟩:=h
 have h3:=List.mem_zipIdx h1
 simp only at h3 h2
 obtain⟨_,h4,h5⟩:=h3
 unfold xP at h2
 split at h2
 ·simp at h2
 ·simp only[List.mem_singleton]at h2
  simp only[Nat.sub_zero,Nat.zero_add]at h4 h5
  exact⟨n,h4,by rw[h2,h5]⟩
theorem aar(fl blocks)(ts:List Dq)(q:Dq):ru fl blocks (ts++[q])=ru fl blocks ts++(if dr fl blocks q.1 q.2.1=true then []else [(q.1,q.2.1)]):=by
 unfold ru
 rw[List.filterMap_append]
 congr 1
 cases h:dr fl blocks q.1 q.2.1<;>simp[h]
theorem acp(fl blocks)(ts:List Dq):(ru fl blocks ts).length≤ts.length:=by unfold ru;exact List.length_filterMap_le _ _
theorem vp(d)(m:Mp):stripL d (eM m)=eM m:=by
 induction m with
 |nil=>simp[eM]
 |cons e m ih=>
  have:eM (e::m)= .v (.int .i64 e.1):: .agg [.v (.int .i64 e.2.1),.v (.int .i64 e.2.2)]::eM m:=rfl
  rw[this]
  simp[ih]
theorem Mg(ρ η)(l:List (Int×Int)):ai ρ η (l.flatMap eP)=l.flatMap eP:=by
 induction l with
 |nil=>simp
 |cons c l ih=>simp[eP,ih]
theorem agD(l:List aO)(hn:l.length≤10000)(hl:∀x∈l,xp x)(blocks:Int):Ev E rA [.sl .any l.length (l.flatMap eI),.v (.int .i64 blocks)] (aB .nil 0 77 eP (kU (bu l) blocks (5*l.length))):=by
 refine aC (fn:=rI) rfl (by decide) rfl rfl rfl ?_
 have ho:=af (LP kJ rfl rfl rfl rfl l (by omega) hl blocks)
 have hp:=af (GS kJ rfl .any l)
 have aI:kU (bu l) blocks (5*l.length)=ru (bu l) blocks (tF (bu l)):=by unfold kU;rw[List.take_of_length_le (by rw[ma];omega)]
 rw[aI]
 have hy:=EZ kJ rfl rfl l (by omega) hl
 rw[aan]at hy
 have kp:=fun q=>aht (bu l) q
 have mP:=fun n h=>CC blocks (bu l) n h
 have htl:(tF (bu l)).length≤5*l.length:=by
  have:∀(r:List Int),(tF r.reverse).length≤r.length:=by
   intro r
   induction r with
   |nil=>simp[tF]
   |cons p r ih=>
    rw[List.reverse_cons,qV,List.length_append,List.length_cons]
    unfold xP
    split<;>simp<;>omega
  have:=this (bu l).reverse
  rw[List.reverse_reverse,List.length_reverse,ma]at this
  exact this
 generalize tF (bu l)=ts at*
 have A3:=fun q t=>aar (bu l) blocks t q
 have fG:=fun t=>acp (bu l) blocks t
 generalize gN blocks ts=m at*
 have si:=fun ρ η=>Jr ρ η m
 have hst:=vp
 change dC E _ _=_ at ho
 change dC E _ _=_ at hp
 change Ev E _ _ _ at hy
 simp[-List.length_flatMap,rI]
 refine zC _ _ _ ?_
 rw[xE (r:= .aQ 1) (os:=[.undef,.agg (eM m)]) (by simp) (by simpa [-List.length_flatMap,aao]using ho) (by simp[-List.length_flatMap,dF,St.ay])]
 simp[-List.length_flatMap,dw,ey,si,hp,T.al,er]
 have himp:∀d,T.import d (.bB (.func cu) [] [.ptr [.sl .any l.length (l.flatMap eI)] 0])= .bB (.func cu) [] [.ptr [.sl .any l.length (l.flatMap eI)] 0]:=fun d=>by simp[T.import,dD]
 simp only[himp]
 refine JW (f:=cu) (caps:=[.ptr [.sl .any l.length (l.flatMap eI)] 0]) (cs:=[.ptr [.sl .any l.length (l.flatMap eI)] 0]) (ss:=[]) (ys:=(ts.map qB).map T.an)
  (fun j vars bx=>vars=[.sl .any l.length (l.flatMap eI),.v (.int .i64 blocks),.sl .nil 0 [],.ref 0 0,.ref 2 0,.undef,.undef,.undef,.undef,.bB (.func cu) [] [.ptr [.sl .any l.length (l.flatMap eI)] 0],.undef,.undef,.undef]∧
   bx=[some [.aQ 9],none,some [aB .nil 304 77 eP (ru (bu l) blocks (ts.take j))],none,none,none,none,none,none,some (eM m)])
  rfl ?_ ?_ hy ?_ ?_ ?_
 ·simp[-List.length_flatMap,T.refs,eh]
 ·simp[-List.length_flatMap,T.al,ai,close]
 ·simp[-List.length_flatMap,T.al,ai,xr,aj,List.range,List.range.loop,ru,aB,si,vp]
 ·rintro j t vars bx K4 ⟨rfl,rfl⟩
  obtain⟨q,hq,rfl⟩:∃q,ts[j]? =some q∧T.an (qB q)=t:=by simpa using K4
  obtain⟨hj,hqe⟩:=List.getElem?_eq_some_iff.1 hq
  refine⟨_,rfl,rfl, ?_⟩
  have hst:ts.take (j+1)=ts.take j++[q]:=by rw[List.take_succ_eq_append_getElem hj,hqe]
  rw[hst,A3]
  obtain⟨n,mC,zu⟩:=kp q (by rw[←hqe];exact List.getElem_mem hj)
  have hv:=mP n mC
  have fG:=fG (ts.take j)
  rw[List.length_take]at fG
  have yE:=To (ru (bu l) blocks (ts.take j))
  have hB2:=Jv (ru (bu l) blocks (ts.take j))
  have hB3:=aaq
  generalize ru (bu l) blocks (ts.take j)=B at*
  obtain⟨r1,r2,r3,r4⟩:(B.length+1)*16≤room∧B.length+1≤room∧16≤room∧1≤room:=by unfold room;omega
  subst zu
  generalize (bu l)[n]-1=b at*
  generalize dP n=s at*
  have Dr:=Qn m b
  simp only
  have yL:aB .nil 304 77 eP ([]:List (Int×Int))= .sl .nil 0 []:=rfl
  have nG:=bk .nil 304 77 eP B s
  have hne:∀h:B≠[],aB .nil 304 77 eP B= .sl (.own 304 77) B.length (B.flatMap eP):=fun h=>aA _ _ _ _ h
  have XV:=fun ρ η=>Mg ρ η B
  have aqD:∀n:Int,(n==n)=true:=fun n=>by simp
  have ahu:∀x:Int×Int,x≠s→(!(x.1==s.1)|| !(x.2==s.2))=true:=by
   intro x hx
   cases h1:x.1==s.1
   ·rfl
   ·cases h2:x.2==s.2
    ·rfl
    ·exact absurd (Prod.ext (beq_iff_eq.1 h1) (beq_iff_eq.1 h2)) hx
  by_cases hB:B=[]
  ·subst hB
   rw[yL]
   cases Gt:jK m b with
   |none=>
    rw[Gt]at Dr hv
    have E2:dr (bu l) blocks s.1 s.2=false:=by
     cases hc:dr (bu l) blocks s.1 s.2
     ·rfl
     ·rw[hc]at hv;exact absurd (hv.2 rfl) (by simp)
    rw[if_neg (by rw[E2];decide),nG]
    simp[-List.length_flatMap,T.al,ai,cV,dS,qB,si]
    rw[bH rfl]
    simp[-List.length_flatMap,ae,Dr,r3,r4,hit,vp]
    simp[-List.length_flatMap,fH,bK,aj,T.al,ai,si,eP]
   |some x=>
    rw[Gt]at Dr hv
    by_cases hx:x=s
    ·have E2:=hv.1 (by rw[hx])
     rw[if_pos E2,List.append_nil]
     subst hx
     rw[yL]
     simp[-List.length_flatMap,T.al,ai,cV,dS,qB,si]
     rw[bH rfl]
     simp[-List.length_flatMap,ae,Dr,uR]
     simp[-List.length_flatMap,fH,bK,aj,T.al,ai,si]
    ·have E2:dr (bu l) blocks s.1 s.2=false:=by
      cases hc:dr (bu l) blocks s.1 s.2
      ·rfl
      ·rw[hc]at hv;exact absurd (Option.some.inj (hv.2 rfl)) hx
     rw[if_neg (by rw[E2];decide),nG]
     have hxb:=ahu x hx
     simp[-List.length_flatMap,T.al,ai,cV,dS,qB,si]
     rw[bH rfl]
     simp[-List.length_flatMap,ae,Dr,r3,r4,hit,vp,uR,hxb]
     simp[-List.length_flatMap,fH,bK,aj,T.al,ai,si,eP]
  ·rw[hne hB]
   cases Gt:jK m b with
   |none=>
    rw[Gt]at Dr hv
    have E2:dr (bu l) blocks s.1 s.2=false:=by
     cases hc:dr (bu l) blocks s.1 s.2
     ·rfl
     ·rw[hc]at hv;exact absurd (hv.2 rfl) (by simp)
    rw[if_neg (by rw[E2];decide),nG]
    simp[-List.length_flatMap,T.al,ai,cV,dS,qB,si]
    rw[bH rfl]
    simp[-List.length_flatMap,ae,Dr,r1,r2,hit,vp,yE]
    simp[-List.length_flatMap,fH,bK,aj,T.al,ai,si,eP]
   |some x=>
    rw[Gt]at Dr hv
    by_cases hx:x=s
    ·have E2:=hv.1 (by rw[hx])
     rw[if_pos E2,List.append_nil]
     subst hx
     rw[hne hB]
     simp[-List.length_flatMap,T.al,ai,cV,dS,qB,si]
     rw[bH rfl]
     simp[-List.length_flatMap,ae,Dr,uR]
     simp[-List.length_flatMap,fH,bK,aj,T.al,ai,si]
    ·have E2:dr (bu l) blocks s.1 s.2=false:=by
      cases hc:dr (bu l) blocks s.1 s.2
      ·rfl
      ·rw[hc]at hv;exact absurd (Option.some.inj (hv.2 rfl)) hx
     rw[if_neg (by rw[E2];decide),nG]
     have hxb:=ahu x hx
     simp[-List.length_flatMap,T.al,ai,cV,dS,qB,si]
     rw[bH rfl]
     simp[-List.length_flatMap,ae,Dr,r1,r2,hit,vp,uR,yE,hxb]
     simp[-List.length_flatMap,fH,bK,aj,T.al,ai,si,eP]
 ·rintro vars bx ⟨rfl,rfl⟩
  have hlen:((ts.map qB).map T.an).length=ts.length:=by simp
  rw[hlen,List.take_length]
  generalize ru (bu l) blocks ts=B at*
  have XV:=fun ρ η=>Mg ρ η B
  have yL:aB .nil 304 77 eP ([]:List (Int×Int))= .sl .nil 0 []:=rfl
  by_cases hB:B=[]
  ·subst hB
   rw[yL]
   have hb:∀W,o8 [] W [some [T.aQ 9],none,some [T.sl .nil 0 []],none,none,none,none,none,none,some (eM m)]=[some [T.aQ 9],none,some [T.sl .nil 0 []],none,none,none,none,none,none,some (eM m)]:=by
    intro W;simp[o8,aj,List.range,List.range.loop]
   rw[hb,ite_self]
   simp[-List.length_flatMap]
   rfl
  ·rw[aA _ _ _ _ hB,aA _ _ _ _ hB]
   have hb:∀W,o8 [] W [some [T.aQ 9],none,some [T.sl (.own 304 77) B.length (B.flatMap eP)],none,none,none,none,none,none,some (eM m)]=[some [T.aQ 9],none,some [T.sl (.own 304 77) B.length (B.flatMap eP)],none,none,none,none,none,none,some (eM m)]:=by
    intro W;simp[o8,aj,List.range,List.range.loop]
   rw[hb,ite_self]
   simp[-List.length_flatMap,List.idxOf?]
end Go.Vi.Sz
end
section
set_option maxRecDepth 100000
set_option maxHeartbeats 4000000
namespace Go.Vi.Sz
open Go Go.Vi Go.Vi.Zz
def cM(g:cA)(l:List (List UInt8))(L:List aO)(ino k:Int):Option (List UInt8):=if ep g l=true∧dr (bu L) g.blocks ino k=true then some (l.getD (g.aE+(bu L).getD (numOf ino k) 0).toNat [])else none
def iE:Option (List UInt8)→T
 |some b=> .an [sl eB b,.v (.bool true)]
 |none=> .an [.sl .nil 0 [],.v (.bool false)]
theorem xF{fl:List Int}{blocks ino k:Int}(h:dr fl blocks ino k=true):1≤ino∧(0≤k∧k≤4)∧numOf ino k< fl.length∧1≤fl.getD (numOf ino k) 0∧fl.getD (numOf ino k) 0≤blocks:=by
 simp only[dr,Bool.and_eq_true,decide_eq_true_eq]at h
 exact⟨h.1.1.1.1.1.1,⟨h.1.1.1.1.1.2,h.1.1.1.1.2⟩,h.1.1.1.2,h.1.1.2,h.1.2⟩
theorem Mh(l:List (List UInt8))(n:Nat)(h:n< l.length):dR 1 (sl eS l) (.v (.int .i64 (n:Int)))=some (.ptr (l.flatMap eS) (n*1)):=by
 show(if 0≤(n:Int)∧(n:Int).toNat< l.length then some (T.ptr (l.flatMap eS) ((n:Int).toNat*1))else none)=_
 rw[if_pos (by omega),Int.toNat_natCast]
theorem qC(L:List aO)(n:Nat)(h:n< L.length):dR 10 (.sl .any L.length (L.flatMap eI)) (.v (.int .i64 (n:Int)))=some (.ptr (L.flatMap eI) (n*10)):=by
 show(if 0≤(n:Int)∧(n:Int).toNat< L.length then some (T.ptr (L.flatMap eI) ((n:Int).toNat*10))else none)=_
 rw[if_pos (by omega),Int.toNat_natCast]
theorem Hh(g:cA)(l:List (List UInt8))(L:List aO)(hn:L.length≤10000)(hL:∀x∈L,xp x)(ino k:Int):
  Ev E ab [.agg (hY g (sl eS l) (.sl .any L.length (L.flatMap eI))),.v (.int .i64 ino),.v (.int .i64 k)] (iE (cM g l L ino k)):=by
 refine aC (fn:=aM) rfl (by decide) rfl rfl rfl ?_
 have hr:=af (pn g l (.sl .any L.length (L.flatMap eI)) _ _ rfl)
 have hv:=af (acm L (by omega) hL g.blocks ino k)
 unfold cM
 simp only[hY]at hr
 cases h:ep g l
 ·rw[h]at hr
  rw[if_neg (by simp)]
  simp[-List.length_flatMap,aM,hY,hr,iE]
 ·rw[h]at hr
  cases h2:dr (bu L) g.blocks ino k
  ·rw[h2]at hv
   rw[if_neg (by simp)]
   simp[-List.length_flatMap,aM,hY,hr,hv,iE]
  ·rw[h2]at hv
   rw[if_pos ⟨rfl,rfl⟩]
   obtain⟨v1,⟨v2,v3⟩,v4,v5,v6⟩:=xF h2
   have h':=h
   simp only[ep,Bool.and_eq_true,decide_eq_true_eq]at h'
   have hs:=mU h'.1
   obtain⟨I,rfl⟩:∃I:Nat,ino=((I+1:Nat):Int):=⟨(ino-1).toNat,by omega⟩
   obtain⟨K,rfl⟩:∃K:Nat,k=(K:Int):=⟨k.toNat,by omega⟩
   have hK:K< 5:=by omega
   have vo:numOf ((I+1:Nat):Int) K=5*I+K:=by unfold numOf;omega
   rw[vo,ma]at v4
   have hI:I< L.length:=by omega
   have hg:=xW L I K hI hK
   rw[vo,hg]at v5 v6⊢
   have w1:IntKind.i64.wrap (((I+1:Nat):Int)-1)=(I:Int):=by rw[show((I+1:Nat):Int)-1=(I:Int) by omega];exact au (by omega)
   have dA:=qC L I hI
   have bq:=uA L I hI
   have b9:Option.filter T.closed (some (T.agg (eI L[I])))=some (T.agg (eI L[I])):=bJ (by simp)
   obtain⟨p,hp⟩:∃p:Nat,(iJ L[I]).getD K 0=(p:Int):=⟨((iJ L[I]).getD K 0).toNat,by omega⟩
   obtain⟨N,hN⟩:∃N:Nat,g.aE=N:=⟨g.aE.toNat,by omega⟩
   rw[hp]at v5 v6⊢
   have Ax:N+p< l.length:=by omega
   have w2:IntKind.i64.wrap (g.aE+(p:Int))=((N+p:Nat):Int):=by rw[hN,←Int.natCast_add];exact au (by omega)
   have w2':(g.aE+(p:Int)).toNat=N+p:=by omega
   have HC:=Mh l (N+p) Ax
   have N5:l.getD (N+p) []=l[N+p]:=by rw[List.getD_eq_getElem?_getD,List.getElem?_eq_getElem Ax,Option.getD_some]
   have zu:=Ji l (N+p) Ax
   rw[w2',N5]
   have b7:=af (GR kJ rfl L[I].p0 L[I].p1 L[I].p2 L[I].p3)
   change dC E _ _=_ at b7
   have hx:eI L[I]=[.v (.int .i64 L[I].kind),.v (.int .i64 L[I].impure),.v (.int .i64 L[I].nlink),.v (.int .i64 L[I].gen),.v (.int .i64 L[I].size),.v (.int .i64 L[I].p0),.v (.int .i64 L[I].p1),.v (.int .i64 L[I].p2),.v (.int .i64 L[I].p3),.v (.int .i64 L[I].attr)]:=rfl
   have acg:cr [.v (.int .i64 L[I].p0),.v (.int .i64 L[I].p1),.v (.int .i64 L[I].p2),.v (.int .i64 L[I].p3),.v (.int .i64 L[I].attr)] K=some (.v (.int .i64 (p:Int))):=by
    have hc:K=0∨K=1∨K=2∨K=3∨K=4:=by omega
    rcases hc with rfl|rfl|rfl|rfl|rfl<;>rw[←hp]<;>rfl
   have ach:∀t,dR 1 (.sl t 5 [.v (.int .i64 L[I].p0),.v (.int .i64 L[I].p1),.v (.int .i64 L[I].p2),.v (.int .i64 L[I].p3),.v (.int .i64 L[I].attr)]) (.v (.int .i64 (K:Int)))=some (.ptr [.v (.int .i64 L[I].p0),.v (.int .i64 L[I].p1),.v (.int .i64 L[I].p2),.v (.int .i64 L[I].p3),.v (.int .i64 L[I].attr)] K):=by
    intro t
    show(if 0≤(K:Int)∧(K:Int).toNat< 5 then some (T.ptr _ ((K:Int).toNat*1))else none)=_
    rw[if_pos (by omega),Int.toNat_natCast,Nat.mul_one]
   simp[-List.length_flatMap,-Int.natCast_add,aM,hY,hr,hv,w1,dA,bq,b9]
   rw[hx]
   simp[-List.length_flatMap,-Int.natCast_add,b7,T.fresh,T.fresh2,room,hit,ach,acg,w2,HC,zu,iE]
   rfl
theorem E3(g:cA)(l:List (List UInt8))(L:List aO)(hn:L.length≤10000)(ino k:Int):
  Ev E ox [sl eS l,.agg (eG g),.sl .any L.length (L.flatMap eI),.v (.int .i64 ino),.v (.int .i64 k)] (iE (cM g l L ino k)):=by
 refine aC (fn:=ko) rfl (by decide) rfl rfl rfl ?_
 have hr:=af (vJ g l)
 have hv:=af (Me L (by omega) g.blocks ino k)
 unfold cM
 cases h:ep g l
 ·rw[h]at hr
  rw[if_neg (by simp)]
  simp[-List.length_flatMap,ko,hr,iE]
 ·rw[h]at hr
  cases h2:dr (bu L) g.blocks ino k
  ·rw[h2]at hv
   rw[if_neg (by simp)]
   simp[-List.length_flatMap,ko,hr,hv,iE]
  ·rw[h2]at hv
   rw[if_pos ⟨rfl,rfl⟩]
   obtain⟨v1,⟨v2,v3⟩,v4,v5,v6⟩:=xF h2
   have h':=h
   simp only[ep,Bool.and_eq_true,decide_eq_true_eq]at h'
   have hs:=mU h'.1
   obtain⟨I,rfl⟩:∃I:Nat,ino=((I+1:Nat):Int):=⟨(ino-1).toNat,by omega⟩
   obtain⟨K,rfl⟩:∃K:Nat,k=(K:Int):=⟨k.toNat,by omega⟩
   have hK:K< 5:=by omega
   have vo:numOf ((I+1:Nat):Int) K=5*I+K:=by unfold numOf;omega
   rw[vo,ma]at v4
   have hI:I< L.length:=by omega
   have hg:=xW L I K hI hK
   rw[vo,hg]at v5 v6⊢
   have w1:IntKind.i64.wrap (((I+1:Nat):Int)-1)=(I:Int):=by rw[show((I+1:Nat):Int)-1=(I:Int) by omega];exact au (by omega)
   have dA:=qC L I hI
   have bq:=uA L I hI
   have b9:Option.filter T.closed (some (T.agg (eI L[I])))=some (T.agg (eI L[I])):=bJ (by simp)
   obtain⟨p,hp⟩:∃p:Nat,(iJ L[I]).getD K 0=(p:Int):=⟨((iJ L[I]).getD K 0).toNat,by omega⟩
   obtain⟨N,hN⟩:∃N:Nat,g.aE=N:=⟨g.aE.toNat,by omega⟩
   rw[hp]at v5 v6⊢
   have Ax:N+p< l.length:=by omega
   have w2:IntKind.i64.wrap (g.aE+(p:Int))=((N+p:Nat):Int):=by rw[hN,←Int.natCast_add];exact au (by omega)
   have w2':(g.aE+(p:Int)).toNat=N+p:=by omega
   have HC:=Mh l (N+p) Ax
   have N5:l.getD (N+p) []=l[N+p]:=by rw[List.getD_eq_getElem?_getD,List.getElem?_eq_getElem Ax,Option.getD_some]
   have zu:=Ji l (N+p) Ax
   rw[w2',N5]
   have ahv:cr (L.flatMap eI) (I*10+9)=some (.v (.int .i64 L[I].attr)):=by
    rw[jY yU L I 9 hI (by omega)];rfl
   have hw5:∀k,k< 4→cr (L.flatMap eI) (I*10+5+k)=some (.v (.int .i64 ((iJ L[I]).getD k 0))):=fun k hk=>by
    rw[Nat.add_assoc,jY yU L I (5+k) hI (by omega)]
    have hc:k=0∨k=1∨k=2∨k=3:=by omega
    rcases hc with rfl|rfl|rfl|rfl<;>rfl
   by_cases hK4:K< 4
   ·have hKI:(K:Int)< 4:=by omega
    have h5:=hw5 K hK4
    rw[hp]at h5
    simp[-List.length_flatMap,-Int.natCast_add,ko,hr,hv,w1,dA,ahv,h5,hKI,hK4,w2,HC,zu,iE]
   ·have hKI:¬(K:Int)< 4:=by omega
    have aoy:K=4:=by omega
    have h5:=ahv
    rw[show L[I].attr=(p:Int) by rw[←hp,aoy];rfl]at h5
    simp[-List.length_flatMap,-Int.natCast_add,ko,hr,hv,w1,dA,h5,hKI,w2,HC,zu,iE]
end Go.Vi.Sz
end
section
set_option maxRecDepth 100000
set_option maxHeartbeats 4000000
namespace Go.Vi.Sz
open Go Go.Vi Go.Vi.Zz
def fp(g:cA)(l:List (List UInt8))(L:List aO)(ino:Int)(k:Nat):List UInt8:=(cM g l L ino k).getD (List.replicate 64 0)
theorem tz{g l L ino k b}(hl:∀b∈l,b.length=64)(h:cM g l L ino k=some b):b.length=64:=by
 unfold cM at h
 split at h
 ·rename_i hc
  simp only[Option.some.injEq]at h
  obtain⟨v1,v2,v4,v5,v6⟩:=xF hc.2
  have h':=hc.1
  simp only[ep,Bool.and_eq_true,decide_eq_true_eq]at h'
  have hs:=mU h'.1
  have Ax:(g.aE+(bu L).getD (numOf ino k) 0).toNat< l.length:=by omega
  rw[List.getD_eq_getElem?_getD,List.getElem?_eq_getElem Ax,Option.getD_some]at h
  rw[←h]
  exact hl _ (List.getElem_mem Ax)
 ·cases h
theorem E4{g l L ino k}(hl:∀b∈l,b.length=64):(fp g l L ino k).length=64:=by
 unfold fp
 cases h:cM g l L ino k with
 |none=>simp
 |some b=>exact tz hl h
def iK(g:cA)(l:List (List UInt8))(L:List aO)(ino:Int)(j:Nat):List UInt8:=(List.range j).flatMap fun k=>fp g l L ino k
theorem E5(g l L ino j):iK g l L ino (j+1)=iK g l L ino j++fp g l L ino j:=by simp[iK,List.range_succ]
theorem Ct{g l L ino}(hl:∀b∈l,b.length=64):∀j,(iK g l L ino j).length=64*j
 |0=>by simp[iK]
 |j+1=>by rw[E5,List.length_append,Ct hl j,E4 hl];omega
def sj(n:Int):Nat:=(max (min n 256) 0).toNat
def dN(g:cA)(l:List (List UInt8))(L:List aO)(ino:Int):Option (List UInt8):=if ep g l=true∧1≤ino∧ino≤L.length∧((L.getD (ino-1).toNat cx).kind=2∨(L.getD (ino-1).toNat cx).kind=3)then some ((iK g l L ino 4).take (sj (L.getD (ino-1).toNat cx).size))else none
def bZ:Option (List UInt8)→T
 |some b=>sl eB b
 |none=> .sl .nil 0 []
theorem ae1(A b:List UInt8)(m:Nat)(hb:b.length=64):setCells ((A++List.replicate (64+m) 0).flatMap eB) A.length (b.flatMap eB)=(A++b++List.replicate m 0).flatMap eB:=by
 unfold setCells
 rw[bV,hb,x6,FL,List.take_left,List.drop_append,List.drop_of_length_le (by omega),List.nil_append,List.drop_replicate]
 rw[show 64+m-(A.length+64-A.length)=m by omega]
 simp[List.flatMap_append]
def DaI(C:List T)(g:cA)(l:List (List UInt8))(L:List aO)(ino:Int)(X:List T)(j:Nat)(σ:St):Prop:=∃a0 a3 a6 a7 a8 a9 db a12 cP,
 σ=⟨[],[a0,.v (.int .i64 ino),.ref 0 0,a3,.ref 2 0,.ref 4 0,a6,a7,a8,a9,db,.v (.int .i64 j),a12,cP],[some C,none,some X,none,some ((iK g l L ino j++List.replicate (256-64*j) 0).flatMap eB),none]⟩
theorem E6(n:Int):ng false n [.v (.int .i64 256)]=some (min n 256)∧ng true (min n 256) [.v (.int .i64 0)]=some ((sj n:Nat):Int):=by
 unfold sj
 constructor
 ·show some (if(256:Int)< n then(256:Int)else n)=_
  congr 1;split<;>omega
 ·show some (if(0:Int)>min n 256 then(0:Int)else min n 256)=_
  congr 1;split<;>omega
theorem Su(g:cA)(l:List (List UInt8))(hl:∀b∈l,b.length=64)(L:List aO)(hn:L.length≤10000)(hL:∀x∈L,xp x)(ino:Int):
  Ev E aP [.agg (hY g (sl eS l) (.sl .any L.length (L.flatMap eI))),.v (.int .i64 ino)] (bZ (dN g l L ino)):=by
 refine aC (fn:=bU) rfl (by decide) rfl rfl rfl ?_
 have hr:=af (pn g l (.sl .any L.length (L.flatMap eI)) _ _ rfl)
 have jj:=fun k=>af (Hh g l L hn hL ino k)
 unfold dN
 simp only[hY]at hr jj
 cases h:ep g l
 ·rw[h]at hr
  rw[if_neg (by simp)]
  simp[-List.length_flatMap,bU,hY,hr,bZ]
 rw[h]at hr
 by_cases c1:ino< 1
 ·rw[if_neg (by omega)]
  simp[-List.length_flatMap,bU,hY,hr,c1,bZ]
 by_cases c2:(L.length:Int)< ino
 ·rw[if_neg (by omega)]
  simp[-List.length_flatMap,bU,hY,hr,c1,c2,bZ]
 obtain⟨I,rfl⟩:∃I:Nat,ino=((I+1:Nat):Int):=⟨(ino-1).toNat,by omega⟩
 have hI:I< L.length:=by omega
 have w1:IntKind.i64.wrap (((I+1:Nat):Int)-1)=(I:Int):=by rw[show((I+1:Nat):Int)-1=(I:Int) by omega];exact au (by omega)
 have dA:=qC L I hI
 have bq:=uA L I hI
 have b9:Option.filter T.closed (some (T.agg (eI L[I])))=some (T.agg (eI L[I])):=bJ (by simp)
 have ea:L.getD (((I+1:Nat):Int)-1).toNat cx=L[I]:=by
  rw[show(((I+1:Nat):Int)-1).toNat=I by omega,List.getD_eq_getElem?_getD,List.getElem?_eq_getElem hI,Option.getD_some]
 rw[ea]
 have hx:eI L[I]=[.v (.int .i64 L[I].kind),.v (.int .i64 L[I].impure),.v (.int .i64 L[I].nlink),.v (.int .i64 L[I].gen),.v (.int .i64 L[I].size),.v (.int .i64 L[I].p0),.v (.int .i64 L[I].p1),.v (.int .i64 L[I].p2),.v (.int .i64 L[I].p3),.v (.int .i64 L[I].attr)]:=rfl
 by_cases hk:L[I].kind=2∨L[I].kind=3
 ·rw[if_pos ⟨rfl,by omega,by omega,hk⟩]
  have nO:((L[I].kind !=2)&&(L[I].kind !=3))=false:=by
   rcases hk with hk|hk<;>rw[hk]<;>rfl
  have pI:(L[I].kind !=2)=false∨((L[I].kind !=2)=true∧(L[I].kind !=3)=false):=by
   rcases hk with hk|hk
   ·left;rw[hk];rfl
   ·right;rw[hk];exact⟨rfl,rfl⟩
  obtain⟨Z,hZ⟩:∃Z,Z=List.replicate 256 (T.v (.int .u8 0)):=⟨_,rfl⟩
  have hZ0:Z=(iK g l L ((I+1:Nat):Int) 0++List.replicate (256-64*0) 0).flatMap eB:=by rw[show iK g l L ((I+1:Nat):Int) 0=[]from rfl,List.nil_append,Qd,hZ]
  simp only[bU]
  rw[←hZ]
  simp[-List.length_flatMap,-Int.natCast_add,hY,hr,c1,c2,w1,dA,bq,b9]
  rw[hx]
  clear hZ
  have hmm:=E6
  have hsp:=fun k=>(E4 hl:(fp g l L ((I+1:Nat):Int) k).length=64)
  have yQ:=fun j=>(Ct hl j:(iK g l L ((I+1:Nat):Int) j).length=64*j)
  have hAs:=fun j=>E5 g l L ((I+1:Nat):Int) j
  rcases pI with e2|⟨e2,e3⟩
  case' inl=>simp[-List.length_flatMap,-Int.natCast_add,e2]
  case' inr=>simp[-List.length_flatMap,-Int.natCast_add,e2,e3]
  all_goals
   refine m_loop 4 (DaI _ g l L ((I+1:Nat):Int) _) ⟨_,_,_,_,_,_,_,_,_,by rw[←hZ0];rfl⟩ ?_
   rintro j σ hj ⟨a0,a3,a6,a7,a8,a9,db,a12,cP,rfl⟩
   by_cases hlt:j< 4
   ·have kf:(j:Int)< 4:=by omega
    have w4:IntKind.i64.wrap ((j:Int)+1)=((j+1:Nat):Int):=by rw[←Int.natCast_succ];exact au (by omega)
    have w5:IntKind.i64.wrap (64*(j:Int))=((64*j:Nat):Int):=by rw[show(64:Int)*j=((64*j:Nat):Int) by omega];exact au (by omega)
    have w6:IntKind.i64.wrap (64*((j+1:Nat):Int))=((64*(j+1):Nat):Int):=by rw[show(64:Int)*((j+1:Nat):Int)=((64*(j+1):Nat):Int) by omega];exact au (by omega)
    have hb:=jj (j:Int)
    have aG:=bV (iK g l L ((I+1:Nat):Int) j++List.replicate (256-64*j) 0)
    rw[List.length_append,yQ,List.length_replicate,show 64*j+(256-64*j)=256 by omega]at aG
    have Jx:fp g l L ((I+1:Nat):Int) j=(cM g l L ((I+1:Nat):Int) (j:Int)).getD (List.replicate 64 0):=rfl
    have rf:=ae1 (iK g l L ((I+1:Nat):Int) j) (fp g l L ((I+1:Nat):Int) j) (256-64*(j+1)) (hsp j)
    rw[show 64+(256-64*(j+1))=256-64*j by omega,yQ,←hAs]at rf
    have fY:=hsp j
    cases hB:cM g l L ((I+1:Nat):Int) (j:Int)with
    |none=>
     rw[hB]at hb Jx
     rw[Option.getD_none]at Jx
     simp only[iE]at hb
     have xz:(iK g l L ((I+1:Nat):Int) j++List.replicate (256-64*j) 0)=(iK g l L ((I+1:Nat):Int) (j+1)++List.replicate (256-64*(j+1)) 0):=by
      rw[hAs,Jx,List.append_assoc,List.replicate_append_replicate,show 64+(256-64*(j+1))=256-64*j by omega]
     rw[xz]at aG⊢
     simp[-List.length_flatMap,-List.flatMap_append,-Int.natCast_add,kf,hlt,hb,w4,tE]
     exact⟨_,_,_,_,_,_,_,_,_,rfl⟩
    |some b=>
     rw[hB]at hb Jx
     rw[Option.getD_some]at Jx
     subst Jx
     simp only[iE]at hb
     have dZ:64*j≤64*(j+1)∧64*(j+1)≤256:=by omega
     have fG:=bV (fp g l L ((I+1:Nat):Int) j)
     have fS:((fp g l L ((I+1:Nat):Int) j).flatMap eB).take 64=(fp g l L ((I+1:Nat):Int) j).flatMap eB:=by rw[List.take_of_length_le (by omega)]
     rw[show sl eB (fp g l L ((I+1:Nat):Int) j)= .sl .any 64 ((fp g l L ((I+1:Nat):Int) j).flatMap eB) by rw[sl,fY]]at hb
     rw[fY]at fG
     simp[-List.length_flatMap,-List.flatMap_append,-Int.natCast_add,-Int.natCast_mul,kf,hlt,hb,w4,w5,w6,asNat,dZ,aG,tE]
     rw[bH rfl]
     have iI:64*(j+1)-64*j=64:=by omega
     have abr:64*j+64≤256:=by omega
     simp[-List.length_flatMap,-List.flatMap_append,-Int.natCast_add,ae,iI,fG,fS,aG,rf,w4,abr]
     exact⟨_,_,_,_,_,_,_,_,_,rfl⟩
   ·have q9:j=4:=by omega
    subst q9
    have aG:=bV (iK g l L ((I+1:Nat):Int) 4++List.replicate (256-64*4) 0)
    have h0:(iK g l L ((I+1:Nat):Int) 4++List.replicate (256-64*4) (0:UInt8))=iK g l L ((I+1:Nat):Int) 4:=by simp
    rw[h0]at aG⊢
    rw[yQ]at aG
    obtain⟨m1,m2⟩:=E6 L[I].size
    have b7:sj L[I].size≤256:=by unfold sj;omega
    simp[-List.length_flatMap,-Int.natCast_add]
    rw[bH rfl]
    simp[-List.length_flatMap,-Int.natCast_add,ae,m1]
    rw[bH rfl]
    simp[-List.length_flatMap,-Int.natCast_add,ae,m2,asNat,b7,aG]
    generalize sj L[I].size=N at*
    by_cases hN:N=0
    ·subst hN;simp[bZ,sl]
    ·rw[if_neg hN,if_neg hN,x6,Ao]
     have hlen:((iK g l L ((I+1:Nat):Int) 4).take N).length=N:=by rw[List.length_take,yQ];omega
     rw[bZ,sl,hlen]
     rfl
 ·rw[if_neg (fun hh=>hk hh.2.2.2)]
  have u5:(L[I].kind !=2)=true:=by simp only[bne_iff_ne,ne_eq];omega
  have Gd:(L[I].kind !=3)=true:=by simp only[bne_iff_ne,ne_eq];omega
  simp[-List.length_flatMap,-Int.natCast_add,bU,hY,hr,c1,c2,w1,dA,bq,b9]
  rw[hx]
  simp[-List.length_flatMap,-Int.natCast_add,u5,Gd,bZ]
end Go.Vi.Sz
end
section
set_option maxRecDepth 100000
set_option maxHeartbeats 4000000
namespace Go.Vi.Sz
open Go Go.Vi Go.Vi.Zz
theorem O0(g:cA)(l:List (List UInt8))(hl:∀b∈l,b.length=64)(L:List aO)(hn:L.length≤10000)(hL:∀x∈L,xp x)(ino:Int):
  Ev E lZ [sl eS l,.agg (eG g),.sl .any L.length (L.flatMap eI),.v (.int .i64 ino)] (bZ (dN g l L ino)):=by
 refine aC (fn:=l5) rfl (by decide) rfl rfl rfl ?_
 have hd:=af (Su g l hl L hn hL ino)
 simp only[hY]at hd
 generalize dN g l L ino=o at hd⊢
 cases o with
 |none=>
  rw[show bZ none= .sl .nil 0 []from rfl]at hd⊢
  simp[-List.length_flatMap,l5,eG,hd]
 |some b=>
  rw[show bZ (some b)=sl eB b from rfl]at hd⊢
  simp[-List.length_flatMap,l5,eG,hd]
def wF:Option (List UInt8)→T
 |some b=>sl eB b
 |none=> .sl .nil 0 []
def ReO(C:List T)(g:cA)(l:List (List UInt8))(L:List aO)(ino:Int)(X:List T)(j:Nat)(σ:St):Prop:=∃a1 a5 a9 db fk a12 cP de cJ cX k,(k=584∨k=608)∧
 σ=⟨[],[sl eS l,a1,.sl .any L.length (L.flatMap eI),.v (.int .i64 ino),.ref 0 0,a5,.ref 2 0,aB .clip k 5 eB (iK g l L ino j),.v (.int .i64 j),a9,db,fk,a12,cP,de,cJ,cX],[some C,none,some X,none]⟩
def ReI(C:List T)(g:cA)(l:List (List UInt8))(L:List aO)(ino:Int)(X:List T)(j:Nat)(bo:Option (List UInt8))(i:Nat)(σ:St):Prop:=∃a1 a5 a12 cP de cJ cX k,(k=584∨k=608)∧
 σ=⟨[],[sl eS l,a1,.sl .any L.length (L.flatMap eI),.v (.int .i64 ino),.ref 0 0,a5,.ref 2 0,aB .clip k 5 eB (iK g l L ino j++(fp g l L ino j).take i),.v (.int .i64 j),wF bo,.v (.bool bo.isSome),.v (.int .i64 i),a12,cP,de,cJ,cX],[some C,none,some X,none]⟩
theorem Hp(g:cA)(l:List (List UInt8))(hl:∀b∈l,b.length=64)(L:List aO)(hn:L.length≤10000)(ino:Int):
  Ev E tK [sl eS l,.agg (eG g),.sl .any L.length (L.flatMap eI),.v (.int .i64 ino)] (bZ (dN g l L ino)):=by
 refine aC (fn:=jQ) rfl (by decide) rfl rfl rfl ?_
 have hr:=af (vJ g l)
 have jj:=fun k=>af (E3 g l L hn ino k)
 unfold dN
 cases h:ep g l
 ·rw[h]at hr
  rw[if_neg (by simp)]
  simp[-List.length_flatMap,jQ,hr,bZ]
 rw[h]at hr
 by_cases c1:ino< 1
 ·rw[if_neg (by omega)]
  simp[-List.length_flatMap,jQ,hr,c1,bZ]
 by_cases c2:(L.length:Int)< ino
 ·rw[if_neg (by omega)]
  simp[-List.length_flatMap,jQ,hr,c1,c2,bZ]
 obtain⟨I,rfl⟩:∃I:Nat,ino=((I+1:Nat):Int):=⟨(ino-1).toNat,by omega⟩
 have hI:I< L.length:=by omega
 have w1:IntKind.i64.wrap (((I+1:Nat):Int)-1)=(I:Int):=by rw[show((I+1:Nat):Int)-1=(I:Int) by omega];exact au (by omega)
 have dA:=qC L I hI
 have bq:=uA L I hI
 have b9:Option.filter T.closed (some (T.agg (eI L[I])))=some (T.agg (eI L[I])):=bJ (by simp)
 have ea:L.getD (((I+1:Nat):Int)-1).toNat cx=L[I]:=by
  rw[show(((I+1:Nat):Int)-1).toNat=I by omega,List.getD_eq_getElem?_getD,List.getElem?_eq_getElem hI,Option.getD_some]
 rw[ea]
 have hx:eI L[I]=[.v (.int .i64 L[I].kind),.v (.int .i64 L[I].impure),.v (.int .i64 L[I].nlink),.v (.int .i64 L[I].gen),.v (.int .i64 L[I].size),.v (.int .i64 L[I].p0),.v (.int .i64 L[I].p1),.v (.int .i64 L[I].p2),.v (.int .i64 L[I].p3),.v (.int .i64 L[I].attr)]:=rfl
 by_cases hk:L[I].kind=2∨L[I].kind=3
 ·rw[if_pos ⟨rfl,by omega,by omega,hk⟩]
  have nO:((L[I].kind !=2)&&(L[I].kind !=3))=false:=by
   rcases hk with hk|hk<;>rw[hk]<;>rfl
  have pI:(L[I].kind !=2)=false∨((L[I].kind !=2)=true∧(L[I].kind !=3)=false):=by
   rcases hk with hk|hk
   ·left;rw[hk];rfl
   ·right;rw[hk];exact⟨rfl,rfl⟩
  have hsp:=fun k=>(E4 hl:(fp g l L ((I+1:Nat):Int) k).length=64)
  have yQ:=fun j=>(Ct hl j:(iK g l L ((I+1:Nat):Int) j).length=64*j)
  have hAs:=fun j=>E5 g l L ((I+1:Nat):Int) j
  simp[-List.length_flatMap,-Int.natCast_add,jQ,hr,c1,c2,w1,dA,bq,b9]
  rw[hx]
  rcases pI with e2|⟨e2,e3⟩
  case' inl=>simp[-List.length_flatMap,-Int.natCast_add,e2]
  case' inr=>simp[-List.length_flatMap,-Int.natCast_add,e2,e3]
  all_goals
   refine m_loop 4 (ReO _ g l L ((I+1:Nat):Int) _) ⟨_,_,_,_,_,_,_,_,_,_,_,.inl rfl,rfl⟩ ?_
   rintro j σ hj ⟨a1,a5,a9,db,fk,a12,cP,de,cJ,cX,k,cp,rfl⟩
   by_cases hlt:j< 4
   ·have kf:(j:Int)< 4:=by omega
    have w4:IntKind.i64.wrap ((j:Int)+1)=((j+1:Nat):Int):=by rw[←Int.natCast_succ];exact au (by omega)
    have hb:=jj (j:Int)
    have Jx:fp g l L ((I+1:Nat):Int) j=(cM g l L ((I+1:Nat):Int) (j:Int)).getD (List.replicate 64 0):=rfl
    have aqE:=hsp j
    have hbT:iE (cM g l L ((I+1:Nat):Int) (j:Int))= .an [wF (cM g l L ((I+1:Nat):Int) (j:Int)),.v (.bool (cM g l L ((I+1:Nat):Int) (j:Int)).isSome)]:=by
     cases cM g l L ((I+1:Nat):Int) (j:Int)<;>rfl
    rw[hbT]at hb
    have fG:∀b,cM g l L ((I+1:Nat):Int) (j:Int)=some b→b.length=64:=fun b h=>tz hl h
    have Ih:∀d o,(wF o).import d=wF o:=fun d o=>by cases o<;>simp[wF]
    have aqF:∀o,(wF o).aV=false:=fun o=>by cases o<;>simp[wF]
    have aqG:∀d o,(wF o).strip d=wF o:=fun d o=>by cases o<;>simp[wF]
    have hAj:=yQ j
    generalize nN:cM g l L ((I+1:Nat):Int) (j:Int)=bo at*
    have hrb:64*j+64≤256:=by omega
    have hclose:∀bx n o,close bx (n+1) (wF o)=some (match o with|some b=>sl eB b|none=> .sl .any 0 []):=fun bx n o=>by cases o<;>simp[wF,sl]
    have ahw:∀A,(aB .clip k 5 eB A).strip 106=aB .clip k 5 eB A:=by
     intro A
     unfold aB
     rcases cp with rfl|rfl<;>split<;>simp[hit]
    simp[-List.length_flatMap,-Int.natCast_add,kf,hlt,hb,Ih,ahw]
    refine m_loop 64 (ReI _ g l L ((I+1:Nat):Int) _ j bo) ⟨_,_,_,_,_,_,_,k,cp,by rw[List.take_zero,List.append_nil];rfl⟩ ?_
    clear ahw cp
    rintro i σ hi ⟨a1,a5,a12,cP,de,cJ,cX,k,cp,rfl⟩
    by_cases Vx:i< 64
    ·have Br:(i:Int)< 64:=by omega
     have w5:IntKind.i64.wrap ((i:Int)+1)=((i+1:Nat):Int):=by rw[←Int.natCast_succ];exact au (by omega)
     have hib:i< (fp g l L ((I+1:Nat):Int) j).length:=by omega
     have hst:(fp g l L ((I+1:Nat):Int) j).take (i+1)=(fp g l L ((I+1:Nat):Int) j).take i++[(fp g l L ((I+1:Nat):Int) j)[i]]:=by rw[List.take_succ_eq_append_getElem hib]
     have aI:∀a1 a5 a12 cP de cJ cX k,(k=584∨k=608)→ReI [T.v (.int .i64 g.lowers),.v (.int .i64 g.aE),.v (.int .i64 g.blocks),.v (.int .i64 g.log)] g l L ((I+1:Nat):Int) (eI L[I]) j bo (i+1) ⟨[],[sl eS l,a1,.sl .any L.length (L.flatMap eI),.v (.int .i64 ((I+1:Nat):Int)),.ref 0 0,a5,.ref 2 0,.sl (.own k 5) ((iK g l L ((I+1:Nat):Int) j++(fp g l L ((I+1:Nat):Int) j).take i).length+1) ((iK g l L ((I+1:Nat):Int) j++(fp g l L ((I+1:Nat):Int) j).take i).flatMap eB++[.v (.int .u8 (fp g l L ((I+1:Nat):Int) j)[i].toNat)]),.v (.int .i64 j),wF bo,.v (.bool bo.isSome),.v (.int .i64 ((i+1:Nat):Int)),a12,cP,de,cJ,cX],[some [T.v (.int .i64 g.lowers),.v (.int .i64 g.aE),.v (.int .i64 g.blocks),.v (.int .i64 g.log)],none,some (eI L[I]),none]⟩:=by
      intro a1 a5 a12 cP de cJ cX k hk
      refine⟨a1,a5,a12,cP,de,cJ,cX,k,hk, ?_⟩
      rw[hst,←List.append_assoc,bk]
      rfl
     have hAB:(iK g l L ((I+1:Nat):Int) j++(fp g l L ((I+1:Nat):Int) j).take i).length=64*j+i:=by rw[List.length_append,yQ,List.length_take];omega
     have hF:=bV (iK g l L ((I+1:Nat):Int) j++(fp g l L ((I+1:Nat):Int) j).take i)
     have hC:=kV (iK g l L ((I+1:Nat):Int) j++(fp g l L ((I+1:Nat):Int) j).take i)
     obtain⟨r1,r2⟩:64*j+i+1≤room∧1≤room:=by unfold room;omega
     obtain⟨y,hy⟩:∃y,(fp g l L ((I+1:Nat):Int) j)[i]=y:=⟨_,rfl⟩
     rw[hy]at aI
     rw[hAB]at hF aI
     have hbI:(∃b,bo=some b∧b.length=64∧cr (b.flatMap eB) i=some (.v (.int .u8 y.toNat)))∨(bo=none∧y=0):=by
      cases bo with
      |none=>right;refine⟨rfl, ?_⟩;rw[←hy];simp only[Jx,Option.getD_none,List.getElem_replicate]
      |some b=>
       left
       have e:fp g l L ((I+1:Nat):Int) j=b:=by rw[Jx,Option.getD_some]
       have fG:=fG b rfl
       refine⟨b,rfl,fG, ?_⟩
       rw[yZ b i (by omega)]
       simp only[e]at hy
       rw[hy]
     generalize (iK g l L ((I+1:Nat):Int) j++(fp g l L ((I+1:Nat):Int) j).take i)=A at*
     have aqH:bo.isSome=bo.isSome:=rfl
     by_cases hE:A=[]
     ·have h0:64*j+i=0:=by rw[←hAB,hE];rfl
      rw[h0]at aI
      rw[hE]at aI⊢
      rw[aK]
      rcases hbI with⟨b,rfl,fG,di⟩|⟨rfl,rfl⟩
      ·have HT:(i:Int)< b.length:=by omega
       have acq:i< b.length:=by omega
       simp[-List.length_flatMap,-Int.natCast_add,Br,Vx,wF,HT,acq,di,r2,w5,hit]
       exact aI _ _ _ _ _ _ _ _ (.inl rfl)
      ·simp[-List.length_flatMap,-Int.natCast_add,Br,Vx,wF,r2,w5,hit]
       exact aI _ _ _ _ _ _ _ _ (.inr rfl)
     ·rw[aA _ _ _ _ hE,hAB]
      rcases hbI with⟨b,rfl,fG,di⟩|⟨rfl,rfl⟩
      ·have HT:(i:Int)< b.length:=by omega
       have acq:i< b.length:=by omega
       rcases cp with rfl|rfl<;>simp[-List.length_flatMap,-Int.natCast_add,Br,Vx,wF,HT,acq,di,r1,w5,hit,hF]
       all_goals exact aI _ _ _ _ _ _ _ _ (.inl rfl)
      ·rcases cp with rfl|rfl<;>simp[-List.length_flatMap,-Int.natCast_add,Br,Vx,wF,r1,w5,hit,hF]
       all_goals exact aI _ _ _ _ _ _ _ _ (.inr rfl)
    ·have hi4:i=64:=by omega
     subst hi4
     have aoz:(fp g l L ((I+1:Nat):Int) j).take 64=fp g l L ((I+1:Nat):Int) j:=by rw[List.take_of_length_le (by omega)]
     rw[aoz,←hAs]
     simp[-List.length_flatMap,-Int.natCast_add,w4]
     exact⟨_,_,_,_,_,_,_,_,_,_,k,cp,rfl⟩
   ·have q9:j=4:=by omega
    subst q9
    have aG:=bV (iK g l L ((I+1:Nat):Int) 4)
    rw[yQ]at aG
    obtain⟨m1,m2⟩:=E6 L[I].size
    have b7:sj L[I].size≤256:=by unfold sj;omega
    have hne:iK g l L ((I+1:Nat):Int) 4≠[]:=by intro hh;have:=yQ 4;rw[hh]at this;simp at this
    rw[aA _ _ _ _ hne,yQ]
    have hA4:=yQ 4
    simp[-List.length_flatMap,-Int.natCast_add]
    rw[bH rfl]
    simp[-List.length_flatMap,-Int.natCast_add,ae,m1]
    rw[bH rfl]
    simp[-List.length_flatMap,-Int.natCast_add,ae,m2,asNat,b7]
    have hlen:((iK g l L ((I+1:Nat):Int) 4).take (sj L[I].size)).length=sj L[I].size:=by rw[List.length_take,hA4];omega
    rw[bZ,sl,hlen,x6]
 ·rw[if_neg (fun hh=>hk hh.2.2.2)]
  have u5:(L[I].kind !=2)=true:=by simp only[bne_iff_ne,ne_eq];omega
  have Gd:(L[I].kind !=3)=true:=by simp only[bne_iff_ne,ne_eq];omega
  simp[-List.length_flatMap,-Int.natCast_add,jQ,hr,c1,c2,w1,dA,bq,b9]
  rw[hx]
  simp[-List.length_flatMap,-Int.natCast_add,u5,Gd,bZ]
end Go.Vi.Sz
end
section
set_option maxRecDepth 100000
set_option maxHeartbeats 4000000
namespace Go.Vi.Sz
open Go Go.Vi Go.Vi.Zz
theorem JY(l:List bN):(l.flatMap eE).length=l.length*3:=mR IJ l
theorem Cj(l:List bN):bn (l.flatMap eE)=true:=by
 induction l with
 |nil=>rfl
 |cons c l ih=>simp[eE,ih]
theorem Ez(d)(l:List bN):stripL d (l.flatMap eE)=l.flatMap eE:=by
 induction l with
 |nil=>simp
 |cons c l ih=>simp[eE,ih]
theorem XK(l:List bN)(k:Nat)(hk:k< l.length):one? true 3 (l.flatMap eE) (k*3)=some (.agg (eE l[k])):=pS IJ l k hk
def fv(x e:bN):Bool:=x.name==e.name
theorem acr(x e:bN):Ev E dn [.agg (eE x),.ptr (eE e) 0] (.v (.bool (fv x e))):=by
 refine aC (fn:=jF) rfl (by decide) rfl rfl rfl ?_
 unfold fv
 simp[jF,eE,bin_eqs]
def IxI(out:List bN)(e:bN)(j:Nat)(σ:St):Prop:=(out.take j).any (fun x=>fv x e)=false∧∃a b c d,σ=⟨[],[.sl .any out.length (out.flatMap eE),.bB (.func dn) [] [.ptr (eE e) 0],a,b,.v (.int .i64 out.length),.v (.int .i64 j),c,d],[]⟩
theorem Qr(out:List bN)(hn:out.length≤10000)(e:bN):Ev E jN [.sl .any out.length (out.flatMap eE),.bB (.func dn) [] [.ptr (eE e) 0]] (.v (.bool (out.any fun x=>fv x e))):=by
 obtain⟨i,hi,hix⟩:∃i:Int,decide (0≤i)=(out.any fun x=>fv x e)∧Ev E ll [.sl .any out.length (out.flatMap eE),.bB (.func dn) [] [.ptr (eE e) 0]] (.v (.int .i64 i)):=by
  refine⟨match out.findIdx? (fun x=>fv x e)with|some n=>(n:Int)|none=> -1, ?_, ?_⟩
  ·cases h:out.findIdx? (fun x=>fv x e)with
   |none=>
    rw[List.findIdx?_eq_none_iff]at h
    have:(out.any fun x=>fv x e)=false:=by rw[List.any_eq_false];intro x hx;rw[h x hx];simp
    rw[this];rfl
   |some n=>
    rw[List.findIdx?_eq_some_iff_getElem]at h
    obtain⟨h1,h2,_⟩:=h
    have:(out.any fun x=>fv x e)=true:=List.any_eq_true.2 ⟨_,List.getElem_mem h1,h2⟩
    rw[this];simp
  ·refine aC (fn:=iX) rfl (by decide) rfl rfl rfl ?_
   simp[-List.length_flatMap,iX]
   refine m_loop out.length (IxI out e) ⟨rfl,_,_,_,_,rfl⟩ ?_
   rintro j σ hj ⟨hno,a,b,c,d,rfl⟩
   by_cases hlt:j< out.length
   ·have bd:(j:Int)< out.length:=by omega
    have w4:IntKind.i64.wrap ((j:Int)+1)=((j+1:Nat):Int):=by rw[←Int.natCast_succ];exact au (by omega)
    have dA:dR 3 (.sl .any out.length (out.flatMap eE)) (.v (.int .i64 (j:Int)))=some (.ptr (out.flatMap eE) (j*3)):=by
     show(if 0≤(j:Int)∧(j:Int).toNat< out.length then some (T.ptr (out.flatMap eE) ((j:Int).toNat*3))else none)=_
     rw[if_pos (by omega),Int.toNat_natCast]
    have bq:=XK out j hlt
    have b9:Option.filter T.closed (some (T.agg (eE out[j])))=some (T.agg (eE out[j])):=bJ (by simp[eE])
    have hg:=af (acr out[j] e)
    have hst:out.take (j+1)=out.take j++[out[j]]:=by rw[List.take_succ_eq_append_getElem hlt]
    have fi:eC (.bB (.func dn) [] [.ptr (eE e) 0])=some (dn,[],[.ptr (eE e) 0]):=rfl
    have nw:∀bx n,(eE out[j]).mapM (close bx (n+1))=some (eE out[j]):=fun bx n=>by simp[eE]
    have D8:∀bx n,(eE e).mapM (close bx (n+1))=some (eE e):=fun bx n=>by simp[eE]
    have hh1:bc (eE out[j])=false:=by simp[eE]
    have hh2:bc (eE e)=false:=by simp[eE]
    have hs2:∀d,stripL d (eE e)=eE e:=fun d=>by simp[eE]
    cases hs:fv out[j] e
    ·rw[hs]at hg
     simp[-List.length_flatMap,-Int.natCast_add,hlt,bd,dA,bq,b9,fi,nw,hh1,hg,w4]
     exact⟨by rw[hst,List.any_append,hno];simp[hs],_,_,_,_,rfl⟩
    ·rw[hs]at hg
     have OW:out.findIdx? (fun x=>fv x e)=some j:=by
      rw[List.findIdx?_eq_some_iff_getElem]
      refine⟨hlt,hs,fun i Ie=> ?_⟩
      rw[List.any_eq_false]at hno
      have:=hno out[i] (by rw[List.mem_iff_getElem];exact⟨i,by rw[List.length_take];omega,by rw[List.getElem_take]⟩)
      simpa using this
     rw[OW]
     simp[-List.length_flatMap,-Int.natCast_add,hlt,bd,dA,bq,b9,fi,nw,hh1,hg]
   ·have yR:j=out.length:=by omega
    subst yR
    rw[List.take_length]at hno
    have OW:out.findIdx? (fun x=>fv x e)=none:=by
     rw[List.findIdx?_eq_none_iff]
     intro x hx
     rw[List.any_eq_false]at hno
     simpa using hno x hx
    rw[OW]
    simp[-List.length_flatMap]
 refine aC (fn:=gC) rfl (by decide) rfl rfl rfl ?_
 have h:=af hix
 have D8:∀bx n,(eE e).mapM (close bx (n+1))=some (eE e):=fun bx n=>by simp[eE]
 have hh2:bc (eE e)=false:=by simp[eE]
 rw[←hi]
 simp[-List.length_flatMap,gC,h]
def sQ(L:List aO)(special:Int)(e:bN)(out:List bN):Bool:=decide (special< e.ino)&&(decide (e.ino≤L.length)&&(!((L.getD (e.ino-1).toNat cx).kind==0)&& !(out.any fun x=>fv x e)))
theorem aeo(g:cA)(s:T)(n:Nat)(cs:List T)(hs:s= .sl .any n cs)(aG:bn cs=true)(L:List aO)(hn:L.length≤10000)(special:Int)(e:bN)(he:1≤e.ino∧e.ino≤65535)(out:List bN)(ho:out.length≤10000):
  Ev E nV [.agg (hY g s (.sl .any L.length (L.flatMap eI))),.agg (eE e),.v (.int .i64 special),.sl .any out.length (out.flatMap eE)] (.v (.bool (sQ L special e out))):=by
 refine aC (fn:=dX) rfl (by decide) rfl rfl rfl ?_
 subst hs
 have hc:=af (Qr out ho e)
 have hee:eE e=[.v (.int .i64 e.slot),.v (.int .i64 e.ino),.v (.string ⟨e.name.toArray⟩)]:=rfl
 rw[hee]at hc
 unfold sQ
 by_cases c1:e.ino≤special
 ·have d1:¬special< e.ino:=by omega
  simp[-List.length_flatMap,dX,hY,eE,c1,d1]
 have d1:special< e.ino:=by omega
 by_cases c2:(L.length:Int)< e.ino
 ·have d2:¬e.ino≤L.length:=by omega
  simp[-List.length_flatMap,dX,hY,eE,c1,d1,c2,d2]
 have d2:e.ino≤L.length:=by omega
 obtain⟨I,hI⟩:∃I:Nat,e.ino=((I+1:Nat):Int):=⟨(e.ino-1).toNat,by omega⟩
 have Qs:I< L.length:=by omega
 have w1:IntKind.i64.wrap (e.ino-1)=(I:Int):=by rw[show e.ino-1=(I:Int) by omega];exact au (by omega)
 have ea:L.getD (e.ino-1).toNat cx=L[I]:=by
  rw[show(e.ino-1).toNat=I by omega,List.getD_eq_getElem?_getD,List.getElem?_eq_getElem Qs,Option.getD_some]
 rw[ea]
 have dA:=qC L I Qs
 have hk:cr (L.flatMap eI) (I*10)=some (.v (.int .i64 L[I].kind)):=by
  have:=jY yU L I 0 Qs (by omega)
  rw[Nat.add_zero]at this
  rw[this];rfl
 cases c3:(L[I].kind==0)
 ·cases c4:out.any fun x=>fv x e
  ·rw[c4]at hc
   simp[-List.length_flatMap,-beq_eq_false_iff_ne,dX,hY,eE,c1,d1,c2,d2,w1,dA,hk,c3,hc,T.fresh,T.fresh1,T.fresh2]
  ·rw[c4]at hc
   simp[-List.length_flatMap,-beq_eq_false_iff_ne,dX,hY,eE,c1,d1,c2,d2,w1,dA,hk,c3,hc,T.fresh,T.fresh1,T.fresh2]
 ·simp[-List.length_flatMap,-beq_iff_eq,dX,hY,eE,c1,d1,c2,d2,w1,dA,hk,c3]
def RgI(L:List aO)(out:List bN)(e:bN)(C:List T)(j:Nat)(σ:St):Prop:=(out.take j).any (fun x=>fv x e)=false∧∃a0 a1 a2 a5 a7 a8 a9,σ=⟨[],[a0,a1,a2,.sl .any out.length (out.flatMap eE),.ref 0 0,a5,.v (.int .i64 j),a7,a8,a9],[some C,none]⟩
theorem acs(L:List aO)(hn:L.length≤10000)(special:Int)(e:bN)(he:1≤e.ino∧e.ino≤65535)(out:List bN)(ho:out.length≤10000):
  Ev E tM [.agg (eE e),.sl .any L.length (L.flatMap eI),.v (.int .i64 special),.sl .any out.length (out.flatMap eE)] (.v (.bool (sQ L special e out))):=by
 refine aC (fn:=lp) rfl (by decide) rfl rfl rfl ?_
 unfold sQ
 by_cases c1:e.ino≤special
 ·have d1:¬special< e.ino:=by omega
  simp[-List.length_flatMap,lp,eE,c1,d1]
 have d1:special< e.ino:=by omega
 have c0:¬e.ino< 1:=by omega
 by_cases c2:(L.length:Int)< e.ino
 ·have d2:¬e.ino≤L.length:=by omega
  simp[-List.length_flatMap,lp,eE,c0,c1,d1,c2,d2]
 have d2:e.ino≤L.length:=by omega
 obtain⟨I,hI⟩:∃I:Nat,e.ino=((I+1:Nat):Int):=⟨(e.ino-1).toNat,by omega⟩
 have Qs:I< L.length:=by omega
 have w1:IntKind.i64.wrap (e.ino-1)=(I:Int):=by rw[show e.ino-1=(I:Int) by omega];exact au (by omega)
 have ea:L.getD (e.ino-1).toNat cx=L[I]:=by
  rw[show(e.ino-1).toNat=I by omega,List.getD_eq_getElem?_getD,List.getElem?_eq_getElem Qs,Option.getD_some]
 rw[ea]
 have dA:=qC L I Qs
 have hk:cr (L.flatMap eI) (I*10)=some (.v (.int .i64 L[I].kind)):=by
  have:=jY yU L I 0 Qs (by omega)
  rw[Nat.add_zero]at this
  rw[this];rfl
 cases c3:(L[I].kind==0)
 ·simp[-List.length_flatMap,-beq_eq_false_iff_ne,lp,eE,c0,c1,d1,c2,d2,w1,dA,hk,c3]
  refine m_loop out.length (RgI L out e _) ⟨rfl,_,_,_,_,_,_,_,rfl⟩ ?_
  rintro j σ hj ⟨hno,a0,a1,a2,a5,a7,a8,a9,rfl⟩
  by_cases hlt:j< out.length
  ·have bd:(j:Int)< out.length:=by omega
   have w4:IntKind.i64.wrap ((j:Int)+1)=((j+1:Nat):Int):=by rw[←Int.natCast_succ];exact au (by omega)
   have HC:dR 3 (.sl .any out.length (out.flatMap eE)) (.v (.int .i64 (j:Int)))=some (.ptr (out.flatMap eE) (j*3)):=by
    show(if 0≤(j:Int)∧(j:Int).toNat< out.length then some (T.ptr (out.flatMap eE) ((j:Int).toNat*3))else none)=_
    rw[if_pos (by omega),Int.toNat_natCast]
   have hnm:cr (out.flatMap eE) (j*3+2)=some (.v (.string ⟨out[j].name.toArray⟩)):=by
    rw[jY IJ out j 2 hlt (by omega)];rfl
   have hst:out.take (j+1)=out.take j++[out[j]]:=by rw[List.take_succ_eq_append_getElem hlt]
   have ahx:fv out[j] e=(out[j].name==e.name):=rfl
   cases hs:fv out[j] e
   ·have ft:(out[j].name==e.name)=false:=by rw[←ahx];exact hs
    simp[-List.length_flatMap,-Int.natCast_add,-beq_eq_false_iff_ne,hlt,bd,HC,hnm,bin_eqs,ft,w4]
    exact⟨by rw[hst,List.any_append,hno];simp[hs],_,_,_,_,_,_,_,rfl⟩
   ·have ft:(out[j].name==e.name)=true:=by rw[←ahx];exact hs
    have aoA:(out.any fun x=>fv x e)=true:=List.any_eq_true.2 ⟨_,List.getElem_mem hlt,hs⟩
    simp[-List.length_flatMap,-Int.natCast_add,-beq_iff_eq,hlt,bd,HC,hnm,bin_eqs,ft]
    exact List.any_eq_true.1 aoA
  ·have yR:j=out.length:=by omega
   subst yR
   rw[List.take_length]at hno
   simp[-List.length_flatMap]
   simpa using hno
 ·simp[-List.length_flatMap,-beq_iff_eq,lp,eE,c0,c1,d1,c2,d2,w1,dA,hk,c3]
end Go.Vi.Sz
end
section
set_option maxRecDepth 100000
set_option maxHeartbeats 4000000
namespace Go.Vi.Sz
open Go Go.Vi Go.Vi.Zz
theorem Vy(l:List UInt8):Ev E lF [sl eB l,.v (.int .i64 16)] (.bB (.func cW) [] [.ptr [sl eB l] 0,.ptr [.v (.int .i64 16)] 0]):=by
 refine aC (fn:=lG) rfl (by decide) rfl rfl rfl ?_
 simp[lG]
def lU(b:List UInt8)(j:Nat):List UInt8:=(b.drop (16*j)).take 16
theorem KC{b:List UInt8}(hl:b.length=64){j:Nat}(hj:j< 4):(lU b j).length=16:=by simp[lU];omega
theorem Rk(b:List UInt8)(hl:b.length=64):Ev E (aq+cW) [.an [.ptr [sl eB b] 0,.ptr [.v (.int .i64 16)] 0]] (.an ((List.range 4).map fun j=> .an [L2 (lU b j)])):=by
 refine⟨1, ?_⟩
 have hp:EK [.an [.ptr [sl eB b] 0,.ptr [.v (.int .i64 16)] 0]]=some (.an ((List.range 4).map fun j=> .an [L2 (lU b j)])):=by
  simp only[EK,sl]
  rw[if_pos ⟨by omega,by omega,by omega,bV b,Z3 b⟩]
  have h16:Int.toNat 16=16:=rfl
  simp only[h16,hl,Option.some.injEq,T.an.injEq]
  refine List.map_congr_left fun i hi=> ?_
  have hi:i< 4:=List.mem_range.1 hi
  have hc:=KC hl hi
  rw[L2,hc,show min 16 (64-i*16)=16 by omega,FL,x6,lU,Nat.mul_comm]
 simp only[aW,E,kJ]
 exact hp
def cN(b:List UInt8)(k n:Nat):List bN:=(List.range n).flatMap fun j=>((nD (lU b j) ((4*k+j:Nat):Int)).getD none).toList
def mS(b:List UInt8)(k n:Nat):List Int:=(List.range n).flatMap fun j=>if(nD (lU b j) ((4*k+j:Nat):Int)).isSome then []else [((4*k+j:Nat):Int)]
theorem zD(b k n):cN b k (n+1)=cN b k n++((nD (lU b n) ((4*k+n:Nat):Int)).getD none).toList:=by simp[cN,List.range_succ]
theorem Ex(b k n):mS b k (n+1)=mS b k n++(if(nD (lU b n) ((4*k+n:Nat):Int)).isSome then []else [((4*k+n:Nat):Int)]):=by simp[mS,List.range_succ]
theorem Hk(b k):∀n,(cN b k n).length≤n
 |0=>by simp[cN]
 |n+1=>by
  have:=Hk b k n
  rw[zD,List.length_append]
  cases (nD (lU b n) ((4*k+n:Nat):Int)).getD none<;>simp<;>omega
theorem Hj(b k):∀n,(mS b k n).length≤n
 |0=>by simp[mS]
 |n+1=>by
  have:=Hj b k n
  rw[Ex,List.length_append]
  split<;>simp<;>omega
def abO(A:List bN)(B:List Int):T:= .an [aB .nil 0 105 eE A,aB .nil (if A=[]then 0 else 1) 3 eN B]
theorem aas(ρ η)(l:List bN):ai ρ η (l.flatMap eE)=l.flatMap eE:=by
 induction l with
 |nil=>simp
 |cons c l ih=>simp[eE,ih]
theorem eR(ρ η)(l:List Int):ai ρ η (l.flatMap eN)=l.flatMap eN:=by
 induction l with
 |nil=>simp
 |cons c l ih=>simp[eN,ih]
theorem fR(d)(l:List Int):stripL d (l.flatMap eN)=l.flatMap eN:=by
 induction l with
 |nil=>simp
 |cons c l ih=>simp[eN,ih]
theorem abN(b:List UInt8)(hl:b.length=64)(k:Nat)(hk:k< 4):Ev E oy [sl eB b,.v (.int .i64 k)] (abO (cN b k 4) (mS b k 4)):=by
 refine aC (fn:=oD) rfl (by decide) rfl rfl rfl ?_
 have hc:=af (Vy b)
 have HO:=Rk b hl
 have A6:¬(k:Int)< 0:=by omega
 have XL:¬(4:Int)≤(k:Int):=by omega
 have w1:IntKind.i64.wrap (4*(k:Int))=((4*k:Nat):Int):=by rw[show(4:Int)*k=((4*k:Nat):Int) by omega];exact au (by omega)
 have himp:∀d,T.import d (.bB (.func cW) [] [.ptr [sl eB b] 0,.ptr [.v (.int .i64 16)] 0])= .bB (.func cW) [] [.ptr [sl eB b] 0,.ptr [.v (.int .i64 16)] 0]:=fun d=>by simp[T.import,dD,sl]
 simp[-List.length_flatMap,-Int.natCast_add,-Int.natCast_mul,oD,hl,A6,XL,w1,hc]
 simp only[himp]
 refine JW (f:=cW) (caps:=[.ptr [sl eB b] 0,.ptr [.v (.int .i64 16)] 0]) (cs:=[.ptr [sl eB b] 0,.ptr [.v (.int .i64 16)] 0]) (ss:=[]) (ys:=(List.range 4).map fun j=>T.an [L2 (lU b j)])
  (fun j vars bx=>vars=[sl eB b,.v (.int .i64 k),.sl .nil 0 [],.sl .nil 0 [],.ref 0 0,.ref 2 0,.ref 4 0,.undef,.undef,.undef,.undef,.v (.bool false),.bB (.func cW) [] [.ptr [sl eB b] 0,.ptr [.v (.int .i64 16)] 0],.undef,.undef,.undef]∧
   bx=[some [aB .nil 328 105 eE (cN b k j)],none,some [aB .nil 384 3 eN (mS b k j)],none,some [.v (.int .i64 ((4*k+j:Nat):Int))],none,none,none])
  rfl ?_ ?_ HO ?_ ?_ ?_
 ·simp[T.refs,eh]
 ·simp[T.al,ai,sl,close]
 ·simp[-Int.natCast_add,-Int.natCast_mul,T.al,ai,sl,xr,aj,List.range,List.range.loop,cN,mS,aB]
 ·rintro j t vars bx K4 ⟨rfl,rfl⟩
  obtain⟨hj,rfl⟩:j< 4∧T.an [L2 (lU b j)]=t:=by
   rw[List.getElem?_map]at K4
   obtain⟨a,h1,h2⟩:=Option.map_eq_some_iff.1 K4
   obtain⟨h3,h4⟩:=List.getElem?_eq_some_iff.1 h1
   rw[List.length_range]at h3
   rw[List.getElem_range]at h4
   subst h4
   exact⟨h3,h2⟩
  refine⟨_,rfl,rfl, ?_⟩
  have hlen:=KC hl hj
  have hg:=af (aaj (lU b j) hlen ((4*k+j:Nat):Int))
  have hsC:sl eB (lU b j)= .sl .any 16 ((lU b j).flatMap eB):=by rw[sl,hlen]
  rw[hsC]at hg
  have hC:L2 (lU b j)= .sl .clip 16 ((lU b j).flatMap eB):=by rw[L2,hlen]
  rw[hC]
  have w4:IntKind.i64.wrap (((4*k+j:Nat):Int)+1)=((4*k+(j+1):Nat):Int):=by rw[show((4*k+j:Nat):Int)+1=((4*k+(j+1):Nat):Int) by omega];exact au (by omega)
  have hE:=zD b k j
  have hB:=Ex b k j
  have hEl:=Hk b k j
  have XJ:=Hj b k j
  rw[hE,hB]
  generalize nD (lU b j) ((4*k+j:Nat):Int)=o at*
  generalize cN b k j=A at*
  generalize mS b k j=B at*
  generalize ((4*k+j:Nat):Int)=sN at*
  generalize ((4*k+(j+1):Nat):Int)=sN1 at*
  have GC:=JY A
  have hA2:=Cj A
  have hA3:=fun ρ η=>aas ρ η A
  have hA4:=fun d=>Ez d A
  have yE:=oW B
  have hB2:=ot B
  have hB3:=fun ρ η=>eR ρ η B
  have hB4:=fun d=>fR d B
  have oQ:=FP
  obtain⟨r1,r2,r3,r4,r5,r6,r7⟩:(A.length+1)*32≤room∧A.length+1≤room∧(B.length+1)*8≤room∧B.length+1≤room∧32≤room∧8≤room∧1≤room:=by unfold room;omega
  have hcB:=fun d ρ=>mN ρ d (lU b j)
  have aqk:∀e:bN,bn (eE e)=true∧rk (eE e)=true∧∀d,stripL d (eE e)=eE e:=fun e=>⟨by simp[eE],by simp[eE],fun d=>by simp[eE]⟩
  by_cases hA:A=[]
  ·subst hA
   by_cases C8:B=[]
   ·subst C8
    rcases o with _|_|e
    ·simp only[Option.getD_none,Option.toList_none,List.append_nil,Option.isSome_none,Bool.false_eq_true,if_false,bk]
     rw[aK]
     rw[aK]
     simp[-List.length_flatMap,T.al,ai,cV,dS,hg,gP,oQ,hit,r6,r7,w4]
     simp[-List.length_flatMap,fH,bK,aj,T.al,ai,eN]
    ·simp only[Option.getD_some,Option.toList_none,List.append_nil,Option.isSome_some,if_true]
     rw[aK]
     rw[aK]
     simp[-List.length_flatMap,T.al,ai,cV,dS,hg,gP,oQ,w4]
     simp[-List.length_flatMap,fH,bK,aj,T.al,ai]
    ·simp only[Option.getD_some,Option.toList_some,List.append_nil,Option.isSome_some,if_true,bk]
     rw[aK]
     rw[aK]
     simp[-List.length_flatMap,T.al,ai,cV,dS,hg,gP,hit,r5,r7,w4,eE]
     simp[-List.length_flatMap,fH,bK,aj,T.al,ai]
   ·
    rcases o with _|_|e
    ·simp only[Option.getD_none,Option.toList_none,List.append_nil,Option.isSome_none,Bool.false_eq_true,if_false,bk]
     rw[aK]
     rw[aA _ _ _ _ C8]
     simp[-List.length_flatMap,T.al,ai,cV,dS,hg,gP,oQ,hit,r3,r4,w4,yE]
     simp[-List.length_flatMap,fH,bK,aj,T.al,ai,eN]
    ·simp only[Option.getD_some,Option.toList_none,List.append_nil,Option.isSome_some,if_true]
     rw[aK]
     rw[aA _ _ _ _ C8]
     simp[-List.length_flatMap,T.al,ai,cV,dS,hg,gP,oQ,hit,w4]
     simp[-List.length_flatMap,fH,bK,aj,T.al,ai]
    ·simp only[Option.getD_some,Option.toList_some,List.append_nil,Option.isSome_some,if_true,bk]
     rw[aK]
     rw[aA _ _ _ _ C8]
     simp[-List.length_flatMap,T.al,ai,cV,dS,hg,gP,hit,r5,r7,w4,eE]
     simp[-List.length_flatMap,fH,bK,aj,T.al,ai]
  ·by_cases C8:B=[]
   ·subst C8
    rcases o with _|_|e
    ·simp only[Option.getD_none,Option.toList_none,List.append_nil,Option.isSome_none,Bool.false_eq_true,if_false,bk]
     rw[aA _ _ _ _ hA]
     rw[aK]
     simp[-List.length_flatMap,T.al,ai,cV,dS,hg,gP,oQ,hit,r6,r7,w4]
     simp[-List.length_flatMap,fH,bK,aj,T.al,ai,eN]
    ·simp only[Option.getD_some,Option.toList_none,List.append_nil,Option.isSome_some,if_true]
     rw[aA _ _ _ _ hA]
     rw[aK]
     simp[-List.length_flatMap,T.al,ai,cV,dS,hg,gP,oQ,hit,w4]
     simp[-List.length_flatMap,fH,bK,aj,T.al,ai]
    ·simp only[Option.getD_some,Option.toList_some,List.append_nil,Option.isSome_some,if_true,bk]
     rw[aA _ _ _ _ hA]
     rw[aK]
     simp[-List.length_flatMap,T.al,ai,cV,dS,hg,gP,hit,r1,r2,w4,GC,eE]
     simp[-List.length_flatMap,fH,bK,aj,T.al,ai]
   ·
    rcases o with _|_|e
    ·simp only[Option.getD_none,Option.toList_none,List.append_nil,Option.isSome_none,Bool.false_eq_true,if_false,bk]
     rw[aA _ _ _ _ hA]
     rw[aA _ _ _ _ C8]
     simp[-List.length_flatMap,T.al,ai,cV,dS,hg,gP,oQ,hit,r3,r4,w4,yE]
     simp[-List.length_flatMap,fH,bK,aj,T.al,ai,eN]
    ·simp only[Option.getD_some,Option.toList_none,List.append_nil,Option.isSome_some,if_true]
     rw[aA _ _ _ _ hA]
     rw[aA _ _ _ _ C8]
     simp[-List.length_flatMap,T.al,ai,cV,dS,hg,gP,oQ,hit,w4]
     simp[-List.length_flatMap,fH,bK,aj,T.al,ai]
    ·simp only[Option.getD_some,Option.toList_some,List.append_nil,Option.isSome_some,if_true,bk]
     rw[aA _ _ _ _ hA]
     rw[aA _ _ _ _ C8]
     simp[-List.length_flatMap,T.al,ai,cV,dS,hg,gP,hit,r1,r2,w4,GC,eE]
     simp[-List.length_flatMap,fH,bK,aj,T.al,ai]
 ·rintro vars bx ⟨rfl,rfl⟩
  have hlen:((List.range 4).map fun j=>T.an [L2 (lU b j)]).length=4:=rfl
  rw[hlen]
  have hb:∀W (x y z:T),o8 [] W [some [x],none,some [y],none,some [z],none,none,none]=[some [x],none,some [y],none,some [z],none,none,none]:=by
   intro W x y z;simp[o8,aj,List.range,List.range.loop]
  rw[hb,ite_self]
  generalize cN b k 4=A
  generalize mS b k 4=B
  unfold abO aB
  by_cases hA:A=[]<;>by_cases hB:B=[]<;>simp[-List.length_flatMap,hA,hB,List.idxOf?]
  all_goals exact⟨rfl,rfl⟩
end Go.Vi.Sz
end
section
set_option maxRecDepth 100000
set_option maxHeartbeats 8000000
namespace Go.Vi.Sz
open Go Go.Vi Go.Vi.Zz
@[simp] theorem alW(e:bN):bn (eE e)=true:=by simp[eE]
@[simp] theorem aoB(d:Nat)(e:bN):stripL d (eE e)=eE e:=by simp[eE]
@[simp] theorem aoC(bx k)(e:bN):(eE e).mapM (close bx (k+1))=some (eE e):=by simp[eE]
@[simp] theorem aoD(s)(e:bN):aR s (eE e)=true:=by simp[eE]
@[simp] theorem alX(e:bN):bc (eE e)=false:=by simp[eE]
@[simp] theorem apT(e:bN):rk (eE e)=true:=by simp[eE]
@[simp] theorem apU(e:bN):one? true 3 (eE e) 0=some (.agg (eE e)):=rfl
@[simp] theorem apv(e:bN):jk (eE e)=eE e:=by simp[eE]
@[simp] theorem alY(d)(e:bN):dD d (eE e)=eE e:=by simp[eE]
theorem ji(s)(l:List Int):aR s (l.flatMap eN)=true:=by
 induction l with
 |nil=>simp
 |cons x l ih=>simp[eN,ih]
theorem EA(z k s)(l:List bN):(aB z k 105 eE l).ay s=true:=by
 unfold aB;split<;>simp[-List.length_flatMap]
theorem tC(z k s)(l:List Int):(aB z k 3 eN l).ay s=true:=by
 unfold aB;split<;>simp[-List.length_flatMap]
abbrev EW:=List bN×List Int
def mI(L:List aO)(special:Int)(slot:Nat)(o:Option (Option bN))(st:EW):EW:=match o with
 |none=>(st.1,st.2++[(slot:Int)])
 |some none=>st
 |some (some e)=>if sQ L special e st.1=true then(st.1++[e],st.2)else(st.1,st.2++[(slot:Int)])
def Jy(g:cA)(l:List (List UInt8))(L:List aO)(ino:Int)(n:Nat):Option (Option (Option bN)):=(cM g l L ino ((n / 4:Nat):Int)).map fun b=>nD (lU b (n%4)) (n:Int)
def aH(g:cA)(l:List (List UInt8))(L:List aO)(ino special:Int):Nat→EW
 |0=>([],[])
 |n+1=>match Jy g l L ino n with
  |none=>aH g l L ino special n
  |some o=>mI L special n o (aH g l L ino special n)
theorem Hg{b:List UInt8}{s:Int}{e:bN}(h:nD b s=some (some e)):s6 e=true∧e.slot=s:=by
 unfold nD at h
 split at h
 ·cases h
 ·split at h
  ·split at h
   ·rename_i hr
    simp only[Option.some.injEq]at h
    subst h
    exact⟨hr,rfl⟩
   ·cases h
  ·cases h
theorem aat(L special slot o st):(mI L special slot o st).1.length≤st.1.length+1∧(mI L special slot o st).2.length≤st.2.length+1:=by
 unfold mI
 split
 ·simp
 ·simp
 ·split<;>simp
theorem pV(g l L ino special):∀n,(aH g l L ino special n).1.length≤n∧(aH g l L ino special n).2.length≤n
 |0=>by simp[aH]
 |n+1=>by
  have h:=pV g l L ino special n
  unfold aH
  split
  ·omega
  ·rename_i o _
   have:=aat L special n o (aH g l L ino special n)
   omega
theorem Vz{g l L ino b}(k j:Nat)(hj:j< 4)(h:cM g l L ino (k:Int)=some b):Jy g l L ino (4*k+j)=some (nD (lU b j) ((4*k+j:Nat):Int)):=by
 unfold Jy
 rw[show(4*k+j) / 4=k by omega,show(4*k+j)%4=j by omega,h]
 rfl
theorem VA{g l L ino}(k j:Nat)(hj:j< 4)(h:cM g l L ino (k:Int)=none):Jy g l L ino (4*k+j)=none:=by
 unfold Jy
 rw[show(4*k+j) / 4=k by omega,h]
 rfl
theorem IG{g l L ino b}(special)(k j:Nat)(hj:j< 4)(h:cM g l L ino (k:Int)=some b):aH g l L ino special (4*k+(j+1))=mI L special (4*k+j) (nD (lU b j) ((4*k+j:Nat):Int)) (aH g l L ino special (4*k+j)):=by
 rw[←Nat.add_assoc,aH,Vz k j hj h]
theorem Ch{g l L ino}(special)(k:Nat)(h:cM g l L ino (k:Int)=none):aH g l L ino special (4*(k+1))=aH g l L ino special (4*k):=by
 have hs:∀j,j< 4→aH g l L ino special (4*k+j+1)=aH g l L ino special (4*k+j):=fun j hj=>by rw[aH,VA k j hj h]
 rw[show 4*(k+1)=4*k+3+1 by omega,hs 3 (by omega),show 4*k+3=4*k+2+1 by omega,hs 2 (by omega),show 4*k+2=4*k+1+1 by omega,hs 1 (by omega),show 4*k+1=4*k+0+1 by omega,hs 0 (by omega)]
 rfl
def MT(z:Tag)(w:EW):T:= .an [aB z 0 105 eE w.1,aB z (if w.1=[]then 0 else 1) 3 eN w.2]
def EnO(g:cA)(l:List (List UInt8))(L:List aO)(ino special:Int)(C:List T)(k:Nat)(σ:St):Prop:=∃a0 a6 a7 fk a12 cP de cJ cX a17 iC iD a20 a21 o,(o=none∨∃e,o=some (eE e))∧
 σ=⟨[],[a0,sl eS l,.sl .any L.length (L.flatMap eI),.v (.int .i64 ino),.v (.int .i64 special),.ref 0 0,a6,a7,aB .clip 592 105 eE (aH g l L ino special (4*k)).1,aB .clip 688 3 eN (aH g l L ino special (4*k)).2,.v (.int .i64 k),fk,a12,cP,de,cJ,cX,a17,iC,iD,a20,a21],[some C,none,o,none]⟩
def EnI(g:cA)(l:List (List UInt8))(L:List aO)(ino special:Int)(C:List T)(k:Nat)(b:List UInt8)(j:Nat)(σ:St):Prop:=∃a0 a6 a7 a12 de cJ cX a17 iC iD a20 a21 o,(o=none∨∃e,o=some (eE e))∧
 σ=⟨[],[a0,sl eS l,.sl .any L.length (L.flatMap eI),.v (.int .i64 ino),.v (.int .i64 special),.ref 0 0,a6,a7,aB .clip 592 105 eE (aH g l L ino special (4*k+j)).1,aB .clip 688 3 eN (aH g l L ino special (4*k+j)).2,.v (.int .i64 k),sl eB b,a12,.v (.int .i64 j),de,cJ,cX,a17,iC,iD,a20,a21],[some C,none,o,none]⟩
theorem Rl(g:cA)(l:List (List UInt8))(hl:∀b∈l,b.length=64)(L:List aO)(hn:L.length≤10000)(ino special:Int):
  Ev E tL [.agg (eG g),sl eS l,.sl .any L.length (L.flatMap eI),.v (.int .i64 ino),.v (.int .i64 special)] (MT .clip (aH g l L ino special 16)):=by
 refine aC (fn:=pc) rfl (by decide) rfl rfl rfl ?_
 have jj:=fun k=>af (E3 g l L hn ino k)
 simp[-List.length_flatMap,pc]
 refine m_loop 4 (EnO g l L ino special _) ⟨_,_,_,_,_,_,_,_,_,_,_,_,_,_,_,.inl rfl,rfl⟩ ?_
 rintro k σ hk ⟨a0,a6,a7,fk,a12,cP,de,cJ,cX,a17,iC,iD,a20,a21,o,ho,rfl⟩
 by_cases hlt:k< 4
 ·have hkI:(k:Int)< 4:=by omega
  have w4:IntKind.i64.wrap ((k:Int)+1)=((k+1:Nat):Int):=by rw[←Int.natCast_succ];exact au (by omega)
  have hb:=jj (k:Int)
  have hs1:∀A:List bN,(aB .clip 592 105 eE A).strip 66=aB .clip 592 105 eE A:=by intro A;unfold aB;split<;>simp[hit]
  have hs2:∀A:List Int,(aB .clip 688 3 eN A).strip 66=aB .clip 688 3 eN A:=by intro A;unfold aB;split<;>simp[hit]
  cases nN:cM g l L ino (k:Int)with
  |none=>
   rw[nN]at hb
   simp only[iE]at hb
   have xz:=Ch special k nN
   rw[←xz]
   rcases ho with rfl|⟨e,rfl⟩<;>simp[-List.length_flatMap,-Int.natCast_add,hkI,hlt,hb,hs1,hs2,w4,eE,T.fresh,T.fresh1,T.fresh2]
   ·exact⟨_,_,_,_,_,_,_,_,_,_,_,_,_,_,_,.inl rfl,rfl⟩
   ·exact⟨_,_,_,_,_,_,_,_,_,_,_,_,_,_,_,.inr ⟨e,rfl⟩,rfl⟩
  |some b=>
   rw[nN]at hb
   simp only[iE]at hb
   have fG:=tz hl nN
   have hst:∀(e:bN) d,stripL d (eE e)=eE e:=fun e d=>by simp[eE]
   have hns:∀(e:bN) s,aR s (eE e)=true:=fun e s=>by simp[eE]
   have NM:∀(A:List bN) (B:List Int) o,(o=none∨∃e,o=some (eE e))→True:=fun _ _ _ _=>trivial
   rcases ho with rfl|⟨e,rfl⟩
   case' inl=>simp[-List.length_flatMap,-Int.natCast_add,hkI,hlt,hb,hs1,hs2,T.fresh,T.fresh1,T.fresh2]
   case' inr=>simp[-List.length_flatMap,-Int.natCast_add,hkI,hlt,hb,hs1,hs2,T.fresh,T.fresh1,T.fresh2,hst]
   case' inl=>refine m_loop 4 (EnI g l L ino special _ k b) ⟨_,_,_,_,_,_,_,_,_,_,_,_,_,.inl rfl,rfl⟩ ?_
   case' inr=>refine m_loop 4 (EnI g l L ino special _ k b) ⟨_,_,_,_,_,_,_,_,_,_,_,_,_,.inr ⟨e,rfl⟩,rfl⟩ ?_
   all_goals
    rintro j σ hj ⟨a0,a6,a7,a12,de,cJ,cX,a17,iC,iD,a20,a21,o,ho,rfl⟩
    by_cases q9:j< 4
    ·have kf:(j:Int)< 4:=by omega
     have v1:IntKind.i64.wrap (16*(j:Int))=((16*j:Nat):Int):=by rw[show(16:Int)*j=((16*j:Nat):Int) by omega];exact au (by omega)
     have v2:IntKind.i64.wrap (((16*j:Nat):Int)+16)=((16*j+16:Nat):Int):=by rw[show((16*j:Nat):Int)+16=((16*j+16:Nat):Int) by omega];exact au (by omega)
     have v3:IntKind.i64.wrap (4*(k:Int))=((4*k:Nat):Int):=by rw[show(4:Int)*k=((4*k:Nat):Int) by omega];exact au (by omega)
     have v4:IntKind.i64.wrap (((4*k:Nat):Int)+(j:Int))=((4*k+j:Nat):Int):=by rw[←Int.natCast_add];exact au (by omega)
     have v5:IntKind.i64.wrap ((j:Int)+1)=((j+1:Nat):Int):=by rw[←Int.natCast_succ];exact au (by omega)
     have dZ:16*j≤16*j+16∧16*j+16≤64:=by omega
     have iI:16*j+16-16*j=16:=by omega
     have fA:(b.drop (16*j)).take 16=lU b j:=rfl
     have hg:=af (Vp (lU b j) (KC fG q9) ((4*k+j:Nat):Int))
     have hE:=IG special k j q9 nN
     have hEl:=pV g l L ino special (4*k+j)
     have sY:=fun e=>(Hg:nD (lU b j) ((4*k+j:Nat):Int)=some (some e)→_)
     generalize nD (lU b j) ((4*k+j:Nat):Int)=o at*
     generalize Vk:aH g l L ino special (4*k+j)=st at*
     obtain⟨A,B⟩:=st
     simp only at hEl⊢
     have zK:∀e,o=some (some e)→dC E tM [.agg (eE e),.sl .any L.length (L.flatMap eI),.v (.int .i64 special),.sl .any A.length (A.flatMap eE)]=some (.v (.bool (sQ L special e A))):=by
      intro e he
      obtain⟨IP,_⟩:=sY e he
      obtain⟨_,h2,_⟩:=Ey IP
      exact af (acs L hn special e (by omega) A (by omega))
     have GC:=JY A
     have hA2:=Cj A
     have hA4:=fun d=>Ez d A
     have yE:=oW B
     have hB2:=ot B
     have hB4:=fun d=>fR d B
     have oQ:=FP
     obtain⟨r1,r2,r3,r4,r5,r6,r7⟩:(A.length+1)*32≤room∧A.length+1≤room∧(B.length+1)*8≤room∧B.length+1≤room∧32≤room∧8≤room∧1≤room:=by unfold room;omega
     by_cases hA:A=[]
     ·subst hA
      by_cases hB:B=[]
      ·subst hB
       rcases o with _|_|e
       ·have hE:aH g l L ino special (4*k+(j+1))=(([]:List bN),([]:List Int)++[((4*k+j:Nat):Int)]):=hE
        rw[aK]
        rw[aK]
        rcases ho with rfl|⟨e0,rfl⟩<;>simp[-List.length_flatMap,-Int.natCast_add,-Int.natCast_mul,kf,q9,fG,v1,v2,v3,v4,v5,asNat,dZ,iI,fA,hg,gP,oQ,hit,r6,r7,hns,T.fresh,T.fresh1,T.fresh2]
        all_goals exact⟨_,_,_,_,_,_,_,_,_,_,_,_,_,.inr ⟨Au,rfl⟩,by rw[hE];simp only[bk];rfl⟩
       ·have hE:aH g l L ino special (4*k+(j+1))=(([]:List bN),([]:List Int)):=hE
        rw[aK]
        rw[aK]
        rcases ho with rfl|⟨e0,rfl⟩<;>simp[-List.length_flatMap,-Int.natCast_add,-Int.natCast_mul,kf,q9,fG,v1,v2,v3,v4,v5,asNat,dZ,iI,fA,hg,gP,oQ,hns,T.fresh,T.fresh1,T.fresh2]
        all_goals exact⟨_,_,_,_,_,_,_,_,_,_,_,_,_,.inr ⟨Au,rfl⟩,by rw[hE];simp only[aK];rfl⟩
       ·have ea:=zK e rfl
        cases hG:sQ L special e []
        ·have hE:aH g l L ino special (4*k+(j+1))=(([]:List bN),([]:List Int)++[((4*k+j:Nat):Int)]):=by rw[hE,mI];simp only;rw[hG,if_neg (by decide)]
         rw[hG]at ea
         simp only[List.length_nil,List.flatMap_nil]at ea
         rw[aK]
         rw[aK]
         rcases ho with rfl|⟨e0,rfl⟩<;>simp[-List.length_flatMap,-Int.natCast_add,-Int.natCast_mul,kf,q9,fG,v1,v2,v3,v4,v5,asNat,dZ,iI,fA,hg,gP,hit,r6,r7,hst,hns,T.fresh,T.fresh1,T.fresh2,ea]
         all_goals exact⟨_,_,_,_,_,_,_,_,_,_,_,_,_,.inr ⟨e,rfl⟩,by rw[hE];simp only[bk];rfl⟩
        ·have hE:aH g l L ino special (4*k+(j+1))=(([]:List bN)++[e],([]:List Int)):=by rw[hE,mI];simp only;rw[hG,if_pos rfl]
         rw[hG]at ea
         simp only[List.length_nil,List.flatMap_nil]at ea
         rw[aK]
         rw[aK]
         rcases ho with rfl|⟨e0,rfl⟩<;>simp[-List.length_flatMap,-Int.natCast_add,-Int.natCast_mul,kf,q9,fG,v1,v2,v3,v4,v5,asNat,dZ,iI,fA,hg,gP,hit,r5,r7,hst,hns,T.fresh,T.fresh1,T.fresh2,ea]
         all_goals exact⟨_,_,_,_,_,_,_,_,_,_,_,_,_,.inr ⟨e,rfl⟩,by rw[hE];simp only[bk];rfl⟩
      ·
       rcases o with _|_|e
       ·have hE:aH g l L ino special (4*k+(j+1))=(([]:List bN),B++[((4*k+j:Nat):Int)]):=hE
        rw[aK]
        rw[aA _ _ _ _ hB]
        rcases ho with rfl|⟨e0,rfl⟩<;>simp[-List.length_flatMap,-Int.natCast_add,-Int.natCast_mul,kf,q9,fG,v1,v2,v3,v4,v5,asNat,dZ,iI,fA,hg,gP,oQ,hit,r3,r4,hns,T.fresh,T.fresh1,T.fresh2,yE]
        all_goals exact⟨_,_,_,_,_,_,_,_,_,_,_,_,_,.inr ⟨Au,rfl⟩,by rw[hE];simp only[bk];rfl⟩
       ·have hE:aH g l L ino special (4*k+(j+1))=(([]:List bN),B):=hE
        rw[aK]
        rw[aA _ _ _ _ hB]
        rcases ho with rfl|⟨e0,rfl⟩<;>simp[-List.length_flatMap,-Int.natCast_add,-Int.natCast_mul,kf,q9,fG,v1,v2,v3,v4,v5,asNat,dZ,iI,fA,hg,gP,oQ,hit,hns,T.fresh,T.fresh1,T.fresh2]
        all_goals exact⟨_,_,_,_,_,_,_,_,_,_,_,_,_,.inr ⟨Au,rfl⟩,by rw[hE];simp only[aK,aA _ _ _ _ hB];rfl⟩
       ·have ea:=zK e rfl
        cases hG:sQ L special e []
        ·have hE:aH g l L ino special (4*k+(j+1))=(([]:List bN),B++[((4*k+j:Nat):Int)]):=by rw[hE,mI];simp only;rw[hG,if_neg (by decide)]
         rw[hG]at ea
         simp only[List.length_nil,List.flatMap_nil]at ea
         rw[aK]
         rw[aA _ _ _ _ hB]
         rcases ho with rfl|⟨e0,rfl⟩<;>simp[-List.length_flatMap,-Int.natCast_add,-Int.natCast_mul,kf,q9,fG,v1,v2,v3,v4,v5,asNat,dZ,iI,fA,hg,gP,hit,r3,r4,hst,hns,T.fresh,T.fresh1,T.fresh2,yE,ea]
         all_goals exact⟨_,_,_,_,_,_,_,_,_,_,_,_,_,.inr ⟨e,rfl⟩,by rw[hE];simp only[bk];rfl⟩
        ·have hE:aH g l L ino special (4*k+(j+1))=(([]:List bN)++[e],B):=by rw[hE,mI];simp only;rw[hG,if_pos rfl]
         rw[hG]at ea
         simp only[List.length_nil,List.flatMap_nil]at ea
         rw[aK]
         rw[aA _ _ _ _ hB]
         rcases ho with rfl|⟨e0,rfl⟩<;>simp[-List.length_flatMap,-Int.natCast_add,-Int.natCast_mul,kf,q9,fG,v1,v2,v3,v4,v5,asNat,dZ,iI,fA,hg,gP,hit,r5,r7,hst,hns,T.fresh,T.fresh1,T.fresh2,ea]
         all_goals exact⟨_,_,_,_,_,_,_,_,_,_,_,_,_,.inr ⟨e,rfl⟩,by rw[hE];simp only[bk,aA _ _ _ _ hB];rfl⟩
     ·by_cases hB:B=[]
      ·subst hB
       rcases o with _|_|e
       ·have hE:aH g l L ino special (4*k+(j+1))=(A,([]:List Int)++[((4*k+j:Nat):Int)]):=hE
        rw[aA _ _ _ _ hA]
        rw[aK]
        rcases ho with rfl|⟨e0,rfl⟩<;>simp[-List.length_flatMap,-Int.natCast_add,-Int.natCast_mul,kf,q9,fG,v1,v2,v3,v4,v5,asNat,dZ,iI,fA,hg,gP,oQ,hit,r6,r7,hns,T.fresh,T.fresh1,T.fresh2]
        all_goals exact⟨_,_,_,_,_,_,_,_,_,_,_,_,_,.inr ⟨Au,rfl⟩,by rw[hE];simp only[bk,aA _ _ _ _ hA];rfl⟩
       ·have hE:aH g l L ino special (4*k+(j+1))=(A,([]:List Int)):=hE
        rw[aA _ _ _ _ hA]
        rw[aK]
        rcases ho with rfl|⟨e0,rfl⟩<;>simp[-List.length_flatMap,-Int.natCast_add,-Int.natCast_mul,kf,q9,fG,v1,v2,v3,v4,v5,asNat,dZ,iI,fA,hg,gP,oQ,hit,hns,T.fresh,T.fresh1,T.fresh2]
        all_goals exact⟨_,_,_,_,_,_,_,_,_,_,_,_,_,.inr ⟨Au,rfl⟩,by rw[hE];simp only[aK,aA _ _ _ _ hA];rfl⟩
       ·have ea:=zK e rfl
        cases hG:sQ L special e A
        ·have hE:aH g l L ino special (4*k+(j+1))=(A,([]:List Int)++[((4*k+j:Nat):Int)]):=by rw[hE,mI];simp only;rw[hG,if_neg (by decide)]
         rw[hG]at ea
         rw[aA _ _ _ _ hA]
         rw[aK]
         rcases ho with rfl|⟨e0,rfl⟩<;>simp[-List.length_flatMap,-Int.natCast_add,-Int.natCast_mul,kf,q9,fG,v1,v2,v3,v4,v5,asNat,dZ,iI,fA,hg,gP,hit,r6,r7,hst,hns,T.fresh,T.fresh1,T.fresh2,ea]
         all_goals exact⟨_,_,_,_,_,_,_,_,_,_,_,_,_,.inr ⟨e,rfl⟩,by rw[hE];simp only[bk,aA _ _ _ _ hA];rfl⟩
        ·have hE:aH g l L ino special (4*k+(j+1))=(A++[e],([]:List Int)):=by rw[hE,mI];simp only;rw[hG,if_pos rfl]
         rw[hG]at ea
         rw[aA _ _ _ _ hA]
         rw[aK]
         rcases ho with rfl|⟨e0,rfl⟩<;>simp[-List.length_flatMap,-Int.natCast_add,-Int.natCast_mul,kf,q9,fG,v1,v2,v3,v4,v5,asNat,dZ,iI,fA,hg,gP,hit,r1,r2,hst,hns,T.fresh,T.fresh1,T.fresh2,GC,ea]
         all_goals exact⟨_,_,_,_,_,_,_,_,_,_,_,_,_,.inr ⟨e,rfl⟩,by rw[hE];simp only[bk];rfl⟩
      ·
       rcases o with _|_|e
       ·have hE:aH g l L ino special (4*k+(j+1))=(A,B++[((4*k+j:Nat):Int)]):=hE
        rw[aA _ _ _ _ hA]
        rw[aA _ _ _ _ hB]
        rcases ho with rfl|⟨e0,rfl⟩<;>simp[-List.length_flatMap,-Int.natCast_add,-Int.natCast_mul,kf,q9,fG,v1,v2,v3,v4,v5,asNat,dZ,iI,fA,hg,gP,oQ,hit,r3,r4,hns,T.fresh,T.fresh1,T.fresh2,yE]
        all_goals exact⟨_,_,_,_,_,_,_,_,_,_,_,_,_,.inr ⟨Au,rfl⟩,by rw[hE];simp only[bk,aA _ _ _ _ hA];rfl⟩
       ·have hE:aH g l L ino special (4*k+(j+1))=(A,B):=hE
        rw[aA _ _ _ _ hA]
        rw[aA _ _ _ _ hB]
        rcases ho with rfl|⟨e0,rfl⟩<;>simp[-List.length_flatMap,-Int.natCast_add,-Int.natCast_mul,kf,q9,fG,v1,v2,v3,v4,v5,asNat,dZ,iI,fA,hg,gP,oQ,hit,hns,T.fresh,T.fresh1,T.fresh2]
        all_goals exact⟨_,_,_,_,_,_,_,_,_,_,_,_,_,.inr ⟨Au,rfl⟩,by rw[hE];simp only[aA _ _ _ _ hA,aA _ _ _ _ hB];rfl⟩
       ·have ea:=zK e rfl
        cases hG:sQ L special e A
        ·have hE:aH g l L ino special (4*k+(j+1))=(A,B++[((4*k+j:Nat):Int)]):=by rw[hE,mI];simp only;rw[hG,if_neg (by decide)]
         rw[hG]at ea
         rw[aA _ _ _ _ hA]
         rw[aA _ _ _ _ hB]
         rcases ho with rfl|⟨e0,rfl⟩<;>simp[-List.length_flatMap,-Int.natCast_add,-Int.natCast_mul,kf,q9,fG,v1,v2,v3,v4,v5,asNat,dZ,iI,fA,hg,gP,hit,r3,r4,hst,hns,T.fresh,T.fresh1,T.fresh2,yE,ea]
         all_goals exact⟨_,_,_,_,_,_,_,_,_,_,_,_,_,.inr ⟨e,rfl⟩,by rw[hE];simp only[bk,aA _ _ _ _ hA];rfl⟩
        ·have hE:aH g l L ino special (4*k+(j+1))=(A++[e],B):=by rw[hE,mI];simp only;rw[hG,if_pos rfl]
         rw[hG]at ea
         rw[aA _ _ _ _ hA]
         rw[aA _ _ _ _ hB]
         rcases ho with rfl|⟨e0,rfl⟩<;>simp[-List.length_flatMap,-Int.natCast_add,-Int.natCast_mul,kf,q9,fG,v1,v2,v3,v4,v5,asNat,dZ,iI,fA,hg,gP,hit,r1,r2,hst,hns,T.fresh,T.fresh1,T.fresh2,GC,ea]
         all_goals exact⟨_,_,_,_,_,_,_,_,_,_,_,_,_,.inr ⟨e,rfl⟩,by rw[hE];simp only[bk,aA _ _ _ _ hB];rfl⟩
    ·have aoE:j=4:=by omega
     subst aoE
     have hn4:aH g l L ino special (4*k+4)=aH g l L ino special (4*(k+1)):=rfl
     rw[hn4]
     rcases ho with rfl|⟨e0,rfl⟩<;>simp[-List.length_flatMap,-Int.natCast_add,w4,hns,EA,tC]
     all_goals exact⟨_,_,_,_,_,_,_,_,_,_,_,_,_,_,_,.inl rfl,rfl⟩
 ·have XL:k=4:=by omega
  subst XL
  rw[show 4*4=16 by rfl]
  unfold MT
  generalize (aH g l L ino special 16).1=A
  generalize (aH g l L ino special 16).2=B
  unfold aB
  rcases ho with rfl|⟨e,rfl⟩<;>by_cases hA:A=[]<;>by_cases hB:B=[]<;>simp[-List.length_flatMap,hA,hB,List.idxOf?]
  all_goals exact⟨rfl,rfl⟩
end Go.Vi.Sz
end
section
set_option maxRecDepth 100000
set_option maxHeartbeats 8000000
namespace Go.Vi.Sz
open Go Go.Vi Go.Vi.Zz
@[simp] theorem Rm(d e n cs):T.import d (.sl (.own 1 e) n cs)= .sl (.own (8*d+1) e) n cs:=by simp[T.import]
structure fC where
 clause:Int
 ah:Int
 ino:Int
 slot:Int
deriving DecidableEq
def eF(f:fC):List T:=[.v (.int .i64 f.clause),.v (.int .i64 f.ah),.v (.int .i64 f.ino),.v (.int .i64 f.slot)]
@[simp] theorem XT(f:fC):(eF f).length=4:=rfl
theorem xQ(c y i s:Int):Ev E j4 [.v (.int .i64 c),.v (.int .i64 y),.v (.int .i64 i),.v (.int .i64 s)] (.agg (eF ⟨c,y,i,s⟩)):=by
 refine aC (fn:=pb) rfl (by decide) rfl rfl rfl ?_
 simp[pb]
 rfl
def nF(x:aO)(dT eT:T)(a:pk):List T:=[.v (.int .i64 x.kind),.v (.int .i64 x.impure),.v (.int .i64 x.nlink),.v (.int .i64 x.gen),dT,eT,.v (.int .i64 a.has),.v (.int .i64 a.pX),.v (.string ⟨a.red.toArray⟩),.v (.int .i64 a.ol),.v (.int .i64 a.oi),.v (.int .i64 a.og),.v (.int .i64 a.shown)]
def bY:T:= .sl .nil 0 []
def rq(g:cA)(l:List (List UInt8))(L:List aO)(ino:Int):Option pk:=match cM g l L ino 4 with
 |none=>some ou
 |some b=>yS b
def Jz(g:cA)(l:List (List UInt8))(L:List aO)(x:aO)(ino special:Int):T:=
 if x.kind=0 then .an [.agg (nF cx bY bY ou),.v (.bool true),bY]
 else if x.kind=1 then .an [.agg (nF x (bZ (dN g l L ino)) (aB .clip 0 105 eE (aH g l L ino special 16).1) ((rq g l L ino).getD ou)),.v (.bool (rq g l L ino).isSome),aB .clip (if(aH g l L ino special 16).1=[]then 0 else 1) 3 eN (aH g l L ino special 16).2]
 else .an [.agg (nF x (bZ (dN g l L ino)) bY ((rq g l L ino).getD ou)),.v (.bool (rq g l L ino).isSome),bY]
theorem acu(g:cA)(l:List (List UInt8))(hl:∀b∈l,b.length=64)(L:List aO)(hn:L.length≤10000)(I:Nat)(hI:I< L.length)(special:Int):
  Ev E x9 [.agg (eG g),sl eS l,.sl .any L.length (L.flatMap eI),.v (.int .i64 ((I+1:Nat):Int)),.v (.int .i64 special)] (Jz g l L L[I] ((I+1:Nat):Int) special):=by
 refine aC (fn:=pF) rfl (by decide) rfl rfl rfl ?_
 have w1:IntKind.i64.wrap (((I+1:Nat):Int)-1)=(I:Int):=by rw[show((I+1:Nat):Int)-1=(I:Int) by omega];exact au (by omega)
 have dA:=qC L I hI
 have bq:=uA L I hI
 have b9:Option.filter T.closed (some (T.agg (eI L[I])))=some (T.agg (eI L[I])):=bJ (by simp)
 have hx:eI L[I]=[.v (.int .i64 L[I].kind),.v (.int .i64 L[I].impure),.v (.int .i64 L[I].nlink),.v (.int .i64 L[I].gen),.v (.int .i64 L[I].size),.v (.int .i64 L[I].p0),.v (.int .i64 L[I].p1),.v (.int .i64 L[I].p2),.v (.int .i64 L[I].p3),.v (.int .i64 L[I].attr)]:=rfl
 have hd:=af (Hp g l hl L hn ((I+1:Nat):Int))
 have hb:=af (E3 g l L hn ((I+1:Nat):Int) 4)
 have EB:=fun b (h:b.length=64)=>af (Vt b h)
 have oO:=af (Rl g l hl L hn ((I+1:Nat):Int) special)
 have fG:=fun b=>(tz hl:cM g l L ((I+1:Nat):Int) 4=some b→_)
 unfold Jz
 have Cq:rq g l L ((I+1:Nat):Int)=match cM g l L ((I+1:Nat):Int) 4 with|none=>some ou|some b=>yS b:=rfl
 have ea:L.getD (((I+1:Nat):Int)-1).toNat cx=L[I]:=by
  rw[show(((I+1:Nat):Int)-1).toNat=I by omega,List.getD_eq_getElem?_getD,List.getElem?_eq_getElem hI,Option.getD_some]
 have hD1:L[I].kind=1→dN g l L ((I+1:Nat):Int)=none:=by
  intro hk
  unfold dN
  rw[if_neg]
  rintro⟨_,_,_,h⟩
  rw[ea,hk]at h
  omega
 by_cases A6:L[I].kind=0
 ·rw[if_pos A6]
  have nO:(L[I].kind==0)=true:=by rw[A6];rfl
  simp[-List.length_flatMap,-Int.natCast_add,pF,w1,dA,bq,b9]
  rw[hx]
  simp[-List.length_flatMap,-Int.natCast_add,nO,nF,cx,ou,bY]
 ·rw[if_neg A6]
  have nO:(L[I].kind==0)=false:=by rw[beq_eq_false_iff_ne];exact A6
  simp[-List.length_flatMap,-Int.natCast_add,pF,w1,dA,bq,b9]
  rw[hx]
  generalize hAO:rq g l L ((I+1:Nat):Int)=ao at*
  cases hB:cM g l L ((I+1:Nat):Int) 4 with
  |none=>
   rw[hB]at hb Cq
   simp only at Cq
   subst Cq
   simp only[iE]at hb
   by_cases j7:L[I].kind=1
   ·rw[if_pos j7]
    have CD:(L[I].kind==1)=true:=by rw[j7];rfl
    rw[hD1 j7]at hd⊢
    simp only[bZ]at hd
    unfold MT at oO
    generalize (aH g l L ((I+1:Nat):Int) special 16).1=A at*
    generalize (aH g l L ((I+1:Nat):Int) special 16).2=B at*
    unfold aB at oO⊢
    by_cases hA:A=[]<;>by_cases hW:B=[]<;>simp only[hA,hW,if_true,if_false]at oO⊢
    all_goals
     simp[-List.length_flatMap,-Int.natCast_add,nO,CD,hd,hb,oO,T.fresh,T.fresh1,T.fresh2]
     simp[-List.length_flatMap,nF,bZ,ou,List.idxOf?]
    all_goals exact⟨rfl,rfl⟩
   ·rw[if_neg j7]
    have CD:(L[I].kind==1)=false:=by rw[beq_eq_false_iff_ne];exact j7
    cases hD:dN g l L ((I+1:Nat):Int)with
    |none=>
     rw[hD]at hd
     simp only[bZ]at hd
     simp[-List.length_flatMap,-Int.natCast_add,nO,CD,hd,hb,T.fresh,T.fresh1,T.fresh2]
     simp[nF,bZ,bY,ou]
    |some d=>
     rw[hD]at hd
     simp only[bZ]at hd
     simp[-List.length_flatMap,-Int.natCast_add,nO,CD,hd,hb,T.fresh,T.fresh1,T.fresh2]
     simp[nF,bZ,bY,ou]
  |some b=>
   rw[hB]at hb Cq
   simp only at Cq
   subst Cq
   simp only[iE]at hb
   have EB:=EB b (fG b hB)
   have b7:∀a:pk,bn (eA a)=true∧rk (eA a)=true∧∀d,dD d (eA a)=eA a:=fun a=>⟨by simp[eA],by simp[eA],fun d=>by simp[eA]⟩
   unfold Hl at EB
   generalize (yS b).getD ou=att at EB⊢
   generalize (yS b).isSome=fin at EB⊢
   simp only[eA]at EB
   by_cases j7:L[I].kind=1
   ·rw[if_pos j7]
    have CD:(L[I].kind==1)=true:=by rw[j7];rfl
    rw[hD1 j7]at hd⊢
    simp only[bZ]at hd
    unfold MT at oO
    generalize (aH g l L ((I+1:Nat):Int) special 16).1=A at*
    generalize (aH g l L ((I+1:Nat):Int) special 16).2=B at*
    unfold aB at oO⊢
    by_cases hA:A=[]<;>by_cases hW:B=[]<;>simp only[hA,hW,if_true,if_false]at oO⊢
    all_goals
     simp[-List.length_flatMap,-Int.natCast_add,nO,CD,hd,hb,oO,T.fresh,T.fresh1,T.fresh2,EB]
     simp[-List.length_flatMap,nF,bZ,List.idxOf?]
    all_goals exact⟨rfl,rfl⟩
   ·rw[if_neg j7]
    have CD:(L[I].kind==1)=false:=by rw[beq_eq_false_iff_ne];exact j7
    cases hD:dN g l L ((I+1:Nat):Int)with
    |none=>
     rw[hD]at hd
     simp only[bZ]at hd
     simp[-List.length_flatMap,-Int.natCast_add,nO,CD,hd,hb,EB,T.fresh,T.fresh1,T.fresh2]
     simp[nF,bZ,bY]
    |some d=>
     rw[hD]at hd
     simp only[bZ]at hd
     simp[-List.length_flatMap,-Int.natCast_add,nO,CD,hd,hb,EB,T.fresh,T.fresh1,T.fresh2]
     simp[nF,bZ,bY]
end Go.Vi.Sz
end
section
set_option maxRecDepth 100000
set_option maxHeartbeats 8000000
namespace Go.Vi.Sz
open Go Go.Vi Go.Vi.Zz
structure Nd where
 x:aO
 data:List UInt8
 An:List bN
 att:pk
def eU(n:Nd):List T:=nF n.x (sl eB n.data) (sl eE n.An) n.att
@[simp] theorem Sw(n:Nd):(eU n).length=13:=rfl
theorem Ho(l:List Nd):(l.flatMap eU).length=l.length*13:=mR Sw l
@[simp] theorem akl(n:Nd):bn (eU n)=true:=by simp[eU,nF]
theorem GU(l:List Nd):bn (l.flatMap eU)=true:=by
 induction l with
 |nil=>rfl
 |cons c l ih=>simp[eU,nF,ih]
theorem lg(l:List fC):(l.flatMap eF).length=l.length*4:=mR XT l
theorem kS(l:List fC):bn (l.flatMap eF)=true:=by
 induction l with
 |nil=>rfl
 |cons c l ih=>simp[eF,ih]
theorem nS(d)(l:List fC):stripL d (l.flatMap eF)=l.flatMap eF:=by
 induction l with
 |nil=>simp
 |cons c l ih=>simp[eF,ih]
def mJ(g:cA)(l:List (List UInt8))(L:List aO)(special:Int)(I:Nat):Nd:=
 if(L.getD I cx).kind=0 then⟨cx,[],[],ou⟩
 else⟨L.getD I cx,(dN g l L ((I+1:Nat):Int)).getD [],if(L.getD I cx).kind=1 then(aH g l L ((I+1:Nat):Int) special 16).1 else [],(rq g l L ((I+1:Nat):Int)).getD ou⟩
def Ck(g:cA)(l:List (List UInt8))(L:List aO)(I:Nat):Bool:=if(L.getD I cx).kind=0 then true else(rq g l L ((I+1:Nat):Int)).isSome
def ec(g:cA)(l:List (List UInt8))(L:List aO)(special:Int)(I:Nat):List Int:=if(L.getD I cx).kind=1 then(aH g l L ((I+1:Nat):Int) special 16).2 else []
def Cp(g:cA)(l:List (List UInt8))(L:List aO)(ah:Int)(I:Nat):List fC:=if Ck g l L I then []else [⟨2,ah,((I+1:Nat):Int),-1⟩]
def jl(g:cA)(l:List (List UInt8))(L:List aO)(special:Int)(ah:Int)(I:Nat):List fC:=(ec g l L special I).map fun s=>⟨5,ah,((I+1:Nat):Int),s⟩
def jx(ah:Int)(ps:List (Int×Int)):List fC:=ps.map fun p=>⟨1,ah,p.1,p.2⟩
def gd(ah:Int)(bs:List Int):List fC:=bs.map fun i=>⟨4,ah,i,-1⟩
theorem Rn(g:cA)(l:List (List UInt8))(L:List aO)(I:Nat)(hI:I< L.length)(special:Int):
  ∃dT eT wT,Jz g l L L[I] ((I+1:Nat):Int) special= .an [.agg (nF (mJ g l L special I).x dT eT (mJ g l L special I).att),.v (.bool (Ck g l L I)),wT]∧
   (dT=bY∨dT=sl eB (mJ g l L special I).data)∧dT.cH=sl eB (mJ g l L special I).data∧
   (eT=bY∨eT= .sl .clip 0 []∨eT= .sl (.own 0 105) (mJ g l L special I).An.length ((mJ g l L special I).An.flatMap eE))∧eT.cH=sl eE (mJ g l L special I).An∧
   ((wT=bY∧ec g l L special I=[])∨(wT= .sl .clip 0 []∧ec g l L special I=[])∨∃k,k< 2∧wT= .sl (.own k 3) (ec g l L special I).length ((ec g l L special I).flatMap eN)):=by
 have hg:L.getD I cx=L[I]:=by rw[List.getD_eq_getElem?_getD,List.getElem?_eq_getElem hI,Option.getD_some]
 unfold Jz mJ Ck ec
 rw[hg]
 by_cases h0:L[I].kind=0
 ·have h1:¬L[I].kind=1:=by omega
  simp only[h0,if_true]
  refine⟨bY,bY,bY,rfl,.inl rfl,by simp[bY,sl],.inl rfl,by simp[bY,sl],.inl ⟨rfl,by rw[if_neg (by decide)]⟩⟩
 ·simp only[if_neg h0]
  by_cases h1:L[I].kind=1
  ·simp only[if_pos h1]
   refine⟨_,_,_,rfl, ?_, ?_, ?_, ?_, ?_⟩
   ·cases dN g l L ((I+1:Nat):Int)<;>simp[bZ,bY]
   ·cases dN g l L ((I+1:Nat):Int)<;>simp[bZ,sl]
   ·unfold aB;split<;>simp
   ·generalize (aH g l L ((I+1:Nat):Int) special 16).1=A
    by_cases hA:A=[]
    ·subst hA;simp[aB,sl]
    ·rw[aA _ _ _ _ hA];simp[sl]
   ·unfold aB
    by_cases hw:(aH g l L ((I+1:Nat):Int) special 16).2=[]
    ·rw[if_pos hw,hw];exact .inr (.inl ⟨rfl,rfl⟩)
    ·rw[if_neg hw]
     exact .inr (.inr ⟨_,by split<;>omega,rfl⟩)
  ·simp only[if_neg h1]
   refine⟨_,_,_,rfl, ?_, ?_,.inl rfl,by simp[bY,sl],.inl ⟨rfl,trivial⟩⟩
   ·cases dN g l L ((I+1:Nat):Int)<;>simp[bZ,bY]
   ·cases dN g l L ((I+1:Nat):Int)<;>simp[bZ,sl]
end Go.Vi.Sz
end
section
set_option maxRecDepth 100000
set_option maxHeartbeats 8000000
namespace Go.Vi.Sz
open Go Go.Vi Go.Vi.Zz
theorem gF(z k d)(A:List fC)(h:hit d k=false)(hz:z= .nil∨z= .clip):(aB z k 48 eF A).strip d=aB z k 48 eF A:=by
 rcases hz with rfl|rfl<;>unfold aB<;>split<;>simp[-List.length_flatMap,h]
theorem E7(z k s)(A:List fC):(aB z k 48 eF A).ay s=true:=by
 unfold aB;split<;>simp[-List.length_flatMap]
theorem eV(z k d)(A:List Int)(h:hit d k=false)(hz:z= .nil∨z= .clip):(aB z k 3 eN A).strip d=aB z k 3 eN A:=by
 rcases hz with rfl|rfl<;>unfold aB<;>split<;>simp[-List.length_flatMap,h]
theorem GI(z:Tag)(hz:z= .nil∨z= .clip)(d)(A:List Int):(aB z 1 3 eN A).import d=aB z (8*d+1) 3 eN A:=by
 rcases hz with rfl|rfl<;>unfold aB<;>split<;>simp
theorem mK(z k d)(A:List Nd)(h:hit d k=false)(hz:z= .nil∨z= .clip):(aB z k 84 eU A).strip d=aB z k 84 eU A:=by
 rcases hz with rfl|rfl<;>unfold aB<;>split<;>simp[-List.length_flatMap,h]
theorem Cs(z k s)(A:List Nd):(aB z k 84 eU A).ay s=true:=by
 unfold aB;split<;>simp[-List.length_flatMap]
def bf(g:cA)(l:List (List UInt8))(L:List aO)(special:Int)(n:Nat):List Nd:=(List.range n).map (mJ g l L special)
def cG(g:cA)(l:List (List UInt8))(L:List aO)(ah:Int)(n:Nat):List fC:=(List.range n).flatMap (Cp g l L ah)
def dL(g:cA)(l:List (List UInt8))(L:List aO)(special ah:Int)(n:Nat):List fC:=(List.range n).flatMap (jl g l L special ah)
theorem GG(g l L special n):bf g l L special (n+1)=bf g l L special n++[mJ g l L special n]:=by simp[bf,List.range_succ]
theorem qS(g l L ah n):cG g l L ah (n+1)=cG g l L ah n++Cp g l L ah n:=by simp[cG,List.range_succ]
theorem oX(g l L special ah n):dL g l L special ah (n+1)=dL g l L special ah n++jl g l L special ah n:=by simp[dL,List.range_succ]
structure FQ(t:T)(w:T):Prop where
 one:t.one=true
 aV:t.aV=false
 ay:∀s,t.ay s=true
 strip:∀d,hit d 376=false→t.strip d=t
 cH:t.cH=w
theorem Qt(w:T)(h:bY.cH=w):FQ (T.import 47 bY) w:=by
 subst h
 constructor<;>simp[bY]
theorem aau(w:T)(h:(T.sl .clip 0 []).cH=w):FQ (T.import 47 (.sl .clip 0 [])) w:=by
 subst h
 constructor<;>simp
theorem acv(A:List bN):FQ (T.import 47 (.sl (.own 0 105) A.length (A.flatMap eE))) (sl eE A):=by
 refine⟨by simp,by simp,fun s=>by simp[-List.length_flatMap],fun d h=>by simp[-List.length_flatMap,h],by simp[sl]⟩
theorem ae2(b:List UInt8):FQ (T.import 47 (sl eB b)) (sl eB b):=by
 constructor<;>simp
structure ahy(t:T)(A:List Int):Prop where
 aV:t.aV=false
 ay:∀s,t.ay s=true
 strip:∀d,hit d 376=false→hit d 377=false→t.strip d=t
 len:jo false t=some (.v (.int .i64 A.length))
 addr:∀j:Nat,j< A.length→dR 1 t (.v (.int .i64 (j:Int)))=some (.ptr (A.flatMap eN) (j*1))
theorem acw(t:T)(A:List Int)(h:(t=bY∧A=[])∨(t= .sl .clip 0 []∧A=[])∨∃k,k< 2∧t= .sl (.own k 3) A.length (A.flatMap eN)):ahy (T.import 47 t) A:=by
 rcases h with⟨rfl,rfl⟩|⟨rfl,rfl⟩|⟨k,hk,rfl⟩
 ·constructor<;>simp[bY,jo]
 ·constructor<;>simp[jo]
 ·have hc:k=0∨k=1:=by omega
  have Am:∀g,∀j:Nat,j< A.length→dR 1 (.sl g A.length (A.flatMap eN)) (.v (.int .i64 (j:Int)))=some (.ptr (A.flatMap eN) (j*1)):=by
   intro g j hj
   show(if 0≤(j:Int)∧(j:Int).toNat< A.length then some (T.ptr (A.flatMap eN) ((j:Int).toNat*1))else none)=_
   rw[if_pos (by omega),Int.toNat_natCast]
  rcases hc with rfl|rfl
  ·rw[GF]
   refine⟨by simp,fun s=>by simp[-List.length_flatMap],fun d h1 h2=>by simp[-List.length_flatMap,h1],rfl,Am _⟩
  ·rw[Rm]
   refine⟨by simp,fun s=>by simp[-List.length_flatMap],fun d h1 h2=>by simp[-List.length_flatMap,h2],rfl,Am _⟩
end Go.Vi.Sz
end
section
set_option maxRecDepth 100000
set_option maxHeartbeats 20000000
namespace Go.Vi.Sz
open Go Go.Vi Go.Vi.Zz
def uB(g:cA)(l:List (List UInt8))(L:List aO)(special ah:Int)(aoF:List Int):List fC:=
 jx ah (kU (bu L) g.blocks (5*L.length))++cG g l L ah L.length++gd ah aoF++dL g l L special ah L.length
def J1(N:List Nd)(F:List fC):T:= .an [.agg [.sl (.own 0 84) N.length (N.flatMap eU)],.sl (.own 1 48) F.length (F.flatMap eF)]
def DeO(g:cA)(l:List (List UInt8))(L:List aO)(B:List Int)(special ah:Int)(j:Nat)(σ:St):Prop:=∃a0 a6 de cJ cX a17 iC iD a20 a21 mZ a23 a24 a25 a26 o,(o=none∨∃C,o=some C∧∀s,aR s C=true)∧
 σ=⟨[],[a0,sl eS l,.v (.int .i64 special),.v (.int .i64 ah),.ref 0 0,.ref 2 0,a6,.sl (.own 256 34) L.length (L.flatMap eI),aB .clip 257 3 eN B,.ref 4 0,aB .nil 512 48 eF (cG g l L ah j),aB .nil 640 48 eF (dL g l L special ah j),bY,.v (.int .i64 ((j+1:Nat):Int)),de,cJ,cX,a17,iC,iD,a20,a21,mZ,a23,a24,a25,a26],
  [some (eG g),none,some [bY],none,some [aB .nil 440 84 eU (bf g l L special j)],none,o,none]⟩
def DeI(g:cA)(l:List (List UInt8))(L:List aO)(B:List Int)(special ah:Int)(wT:T)(j i:Nat)(σ:St):Prop:=∃a0 a6 de cJ iC iD a20 a21 mZ a23 a24 a25 a26 C,((∀s,aR s C=true)∧∀d,hit d 376=false→stripL d C=C)∧
 σ=⟨[],[a0,sl eS l,.v (.int .i64 special),.v (.int .i64 ah),.ref 0 0,.ref 2 0,a6,.sl (.own 256 34) L.length (L.flatMap eI),aB .clip 257 3 eN B,.ref 4 0,aB .nil 512 48 eF (cG g l L ah (j+1)),aB .nil 640 48 eF (dL g l L special ah j++(jl g l L special ah j).take i),bY,.v (.int .i64 ((j+1:Nat):Int)),de,cJ,T.import 47 wT,.v (.int .i64 i),iC,iD,a20,a21,mZ,a23,a24,a25,a26],
  [some (eG g),none,some [bY],none,some [aB .nil 440 84 eU (bf g l L special (j+1))],none,some C,none]⟩
theorem GJ(z:Tag)(hz:z= .nil∨z= .clip)(d)(A:List (Int×Int)):(aB z 0 77 eP A).import d=aB z (8*d) 77 eP A:=by
 rcases hz with rfl|rfl<;>unfold aB<;>split<;>simp
theorem vj{α:Type}(z k e)(enc:α→List T)(A:List α):jo false (aB z k e enc A)=some (.v (.int .i64 A.length)):=by
 unfold aB
 split
 ·rename_i h;subst h;rfl
 ·rfl
def D4(g:cA)(l:List (List UInt8))(L:List aO)(B:List Int)(special ah:Int)(BT:List (Int×Int))(i:Nat)(σ:St):Prop:=∃a0 a1 a2 a4 a6 a7 cP de cJ cX a17 a20 a21 mZ a23 a24 a25 a26 o,
 σ=⟨[],[a0,a1,a2,.v (.int .i64 ah),a4,.ref 2 0,a6,a7,aB .clip 257 3 eN B,.ref 4 0,aB .nil 512 48 eF (cG g l L ah L.length),aB .nil 640 48 eF (dL g l L special ah L.length),aB .nil 840 48 eF ((jx ah BT).take i),cP,de,cJ,cX,a17,aB .clip 672 77 eP BT,.v (.int .i64 i),a20,a21,mZ,a23,a24,a25,a26],
  [some (eG g),none,some [bY],none,some [aB .nil 440 84 eU (bf g l L special L.length)],none,o,none]⟩
def D6(g:cA)(l:List (List UInt8))(L:List aO)(B:List Int)(special ah:Int)(Y:List fC)(i:Nat)(σ:St):Prop:=∃a0 a1 a2 a4 a6 a7 db cP de cJ cX a17 iC iD a21 mZ a23 a24 a25 a26 o k,(k=864∨k=984)∧
 σ=⟨[],[a0,a1,a2,.v (.int .i64 ah),a4,.ref 2 0,a6,a7,aB .clip 257 3 eN B,.ref 4 0,db,aB .nil 640 48 eF (dL g l L special ah L.length),.sl (.own k 48) (Y++(gd ah B).take i).length ((Y++(gd ah B).take i).flatMap eF),cP,de,cJ,cX,a17,iC,iD,.v (.int .i64 i),a21,mZ,a23,a24,a25,a26],
  [some (eG g),none,some [bY],none,some [aB .nil 440 84 eU (bf g l L special L.length)],none,o,none]⟩
theorem EC(A:List Int)(i:Nat)(h:i< A.length):cr (A.flatMap eN) i=some (.v (.int .i64 A[i])):=by
 have:=jY aap A i 0 h (by omega)
 rw[Nat.mul_one,Nat.add_zero]at this
 rw[this];rfl
theorem acx(k:Nat)(W:List fC)(f:fC):T.sl (.own k 48) (W++[f]).length ((W++[f]).flatMap eF)= .sl (.own k 48) (W.length+1) (W.flatMap eF++eF f):=by
 rw[List.length_append,List.flatMap_append];simp[-List.length_flatMap]
theorem UP(g:cA)(l:List (List UInt8))(hl:∀b∈l,b.length=64)(special ah:Int):
  Ev E qE [.agg (eG g),sl eS l,.v (.int .i64 special),.v (.int .i64 ah)]
   (if ep g l then J1 (bf g l (ct (aU g l)) special (ct (aU g l)).length) (uB g l (ct (aU g l)) special ah (cT (aU g l)))else .an [.agg [bY],bY]):=by
 refine aC (fn:=ni) rfl (by decide) rfl rfl rfl ?_
 have hr:=af (vJ g l)
 have kD:=af (IU g l hl)
 cases h:ep g l
 ·rw[h]at hr
  simp[-List.length_flatMap,ni,hr,bY]
 rw[h]at hr
 rw[h,if_pos rfl]at kD
 rw[if_pos rfl]
 have h':=h
 simp only[ep,Bool.and_eq_true,decide_eq_true_eq]at h'
 have hs:=mU h'.1
 have xl:(aU g l).length=g.aE.toNat:=by simp[aU];omega
 have OS:(ct (aU g l)).length=g.aE.toNat:=by rw[ct,List.length_map,xl]
 have XJ:(cT (aU g l)).length≤24:=by
  have:∀(A:List (List UInt8)),(cT A.reverse).length≤A.length:=by
   intro A
   induction A with
   |nil=>simp[cT]
   |cons a A ih=>
    rw[List.reverse_cons,pY,List.length_append,List.length_cons]
    split<;>simp<;>omega
  have:=this (aU g l).reverse
  rw[List.reverse_reverse,List.length_reverse,xl]at this
  omega
 generalize ct (aU g l)=L at*
 generalize cT (aU g l)=B at*
 obtain⟨n,hn⟩:∃n:Nat,g.aE=n:=⟨g.aE.toNat,by omega⟩
 have LH:L.length=n:=by rw[OS,hn];rfl
 have EJ:L≠[]:=by intro hh;rw[hh]at LH;simp at LH;omega
 rw[aA _ _ _ _ EJ]at kD
 have him:=GI .clip (.inr rfl) 32 B
 have UL:=fun I (hI:I< L.length)=>af (acu g l hl L (by omega) I hI special)
 have ans:=xJ L
 have aqI:cr (eG g) 1=some (.v (.int .i64 g.aE)):=rfl
 have aav:∀j i,j< n→i≤(ec g l L special j).length→(dL g l L special ah j++(jl g l L special ah j).take i).length≤1000:=by
  have hwl:∀j,(ec g l L special j).length≤16:=by
   intro j
   unfold ec
   split
   ·exact(pV g l L _ special 16).2
   ·simp
  have h1:∀j,(dL g l L special ah j).length≤16*j:=by
   intro j
   induction j with
   |zero=>simp[dL]
   |succ j ih=>
    have:=hwl j
    rw[oX,List.length_append,jl,List.length_map]
    omega
  intro j i hj hi
  have:=h1 j
  have:=hwl j
  rw[List.length_append,List.length_take]
  omega
 simp[-List.length_flatMap,-Int.natCast_add,ni,hr,kD,him]
 refine m_loop n (DeO g l L B special ah) ⟨_,_,_,_,_,_,_,_,_,_,_,_,_,_,_,_,.inl rfl,rfl⟩ ?_
 rintro j σ hj ⟨a0,a6,de,cJ,cX,a17,iC,iD,a20,a21,mZ,a23,a24,a25,a26,o,ho,rfl⟩
 by_cases hlt:j< n
 ·have bd:((j+1:Nat):Int)≤g.aE:=by omega
  have hjL:j< L.length:=by omega
  have w4:IntKind.i64.wrap (((j+1:Nat):Int)+1)=((j+1+1:Nat):Int):=by rw[←Int.natCast_succ];exact au (by omega)
  obtain⟨dT,eT,wT,GP,hd1,RE,R2,lx,hw⟩:=Rn g l L j hjL special
  have iZ:=UL j hjL
  rw[GP]at iZ
  have hD:FQ (T.import 47 dT) (sl eB (mJ g l L special j).data):=by
   rcases hd1 with rfl|rfl
   ·exact Qt _ RE
   ·exact ae2 _
  have hE:FQ (T.import 47 eT) (sl eE (mJ g l L special j).An):=by
   rcases R2 with rfl|rfl|rfl
   ·exact Qt _ lx
   ·exact aau _ lx
   ·exact acv _
  have hW:=acw wT (ec g l L special j) hw
  have hN1:=GG g l L special j
  have GC:=qS g l L ah j
  have NW:=oX g l L special ah j
  simp only[nF]at iZ
  obtain⟨fD1,fD2,fD3,fD4,fD7⟩:=hD
  obtain⟨fE1,fE2,fE3,fE4,fE7⟩:=hE
  obtain⟨fW1,fW2,Tp,fW4,fW5⟩:=hW
  have y5:(bf g l L special j).length=j:=by simp[bf]
  have hNF:=Ho (bf g l L special j)
  have hNC:=GU (bf g l L special j)
  rw[y5]at hNF
  obtain⟨r1,r2,r3,r4⟩:(j+1)*144≤room∧j+1≤room∧144≤room∧1≤room:=by unfold room;omega
  have Qu:=af (xQ 2 ah ((j+1:Nat):Int) (-1))
  simp only[eF]at Qu
  have yQ:(cG g l L ah j).length≤j:=by
   have:∀n,(cG g l L ah n).length≤n:=by
    intro n
    induction n with
    |zero=>simp[cG]
    |succ n ih=>
     rw[qS,List.length_append]
     unfold Cp
     split<;>simp<;>omega
   exact this j
  have OK:=lg (cG g l L ah j)
  have hAC:=kS (cG g l L ah j)
  have hAS:=fun d=>nS d (cG g l L ah j)
  obtain⟨q1,q2,q3⟩:((cG g l L ah j).length+1)*32≤room∧(cG g l L ah j).length+1≤room∧32≤room:=by unfold room;omega
  have Mi:aB .nil 440 84 eU (bf g l L special (j+1))= .sl (.own 440 84) (j+1) ((bf g l L special j).flatMap eU++eU (mJ g l L special j)):=by rw[hN1,bk,y5]
  have hC:=fun(C:List T) (h:∀s,aR s C=true)=>h
  have hNt:aB .nil 440 84 eU (bf g l L special j)=if j=0 then .sl .nil 0 []else .sl (.own 440 84) j ((bf g l L special j).flatMap eU):=by
   by_cases la:j=0
   ·subst la;rfl
   ·rw[if_neg la,aA _ _ _ _ (by intro hh;rw[hh]at y5;simp at y5;omega),y5]
  rw[hNt]
  have aoG:j=0→(bf g l L special j).flatMap eU=[]:=by rintro rfl;rfl
  by_cases la:j=0
  case' pos=>
   rw[if_pos la]
   have Ss:=aoG la
   replace Mi:aB .nil 440 84 eU (bf g l L special (j+1))= .sl (.own 440 84) 1 (eU (mJ g l L special j)):=by rw[Mi,Ss,List.nil_append,la]
   rcases ho with rfl|⟨C,rfl,hC⟩<;>simp[-List.length_flatMap,-Int.natCast_add,bd,hlt,iZ,eV,gF,tC,E7,bY,hit,T.fresh,T.fresh1,T.fresh2,fD1,fD4,fD7,fE1,fE4,fE7,Tp,r3,r4,hC]
  case' neg=>
   rw[if_neg la]
   rcases ho with rfl|⟨C,rfl,hC⟩<;>simp[-List.length_flatMap,-Int.natCast_add,bd,hlt,iZ,eV,gF,tC,E7,bY,hit,T.fresh,T.fresh1,T.fresh2,fD1,fD4,fD7,fE1,fE4,fE7,Tp,r1,r2,hNF,hC]
  all_goals
   have aqJ:aB .nil 440 84 eU (bf g l L special (j+1))=aB .nil 440 84 eU (bf g l L special (j+1)):=rfl
   have hwl:(ec g l L special j).length≤16:=by
    unfold ec
    split
    ·exact(pV g l L _ special 16).2
    ·simp
   refine oV (fun hf=> ?_) (fun hf=> ?_)
  case' pos.inl.refine_1|pos.inr.refine_1|neg.inl.refine_1|neg.inr.refine_1=>
   have hA2:cG g l L ah (j+1)=cG g l L ah j++[⟨2,ah,((j+1:Nat):Int),-1⟩]:=by
    rw[GC]
    have R5:Ck g l L j=false:=by simpa using hf
    rw[Cp,R5];rfl
   have hA3:aB .nil 512 48 eF (cG g l L ah (j+1))= .sl (.own 512 48) ((cG g l L ah j).length+1) ((cG g l L ah j).flatMap eF++eF ⟨2,ah,((j+1:Nat):Int),-1⟩):=by rw[hA2,bk]
   by_cases tA:cG g l L ah j=[]
   case' pos=>
    rw[tA]at hA3⊢
    rw[aK]
    simp[-List.length_flatMap,-Int.natCast_add,Qu,eV,gF,hit,T.fresh,T.fresh1,T.fresh2,fD4,fE4,Tp,r4,q3]
   case' neg=>
    rw[aA _ _ _ _ tA]
    simp[-List.length_flatMap,-Int.natCast_add,Qu,eV,gF,hit,T.fresh,T.fresh1,T.fresh2,fD4,fE4,Tp,q1,q2,OK]
  case' pos.inl.refine_2|pos.inr.refine_2|neg.inl.refine_2|neg.inr.refine_2=>
   have hA3:aB .nil 512 48 eF (cG g l L ah (j+1))=aB .nil 512 48 eF (cG g l L ah j):=by
    rw[GC]
    have R5:Ck g l L j=true:=by simpa using hf
    rw[Cp,R5,if_pos rfl,List.append_nil]
   simp[-List.length_flatMap,-Int.natCast_add]
  all_goals
   refine m_loop (ec g l L special j).length (DeI g l L B special ah wT j) ⟨_,_,_,_,_,_,_,_,_,_,_,_,_,_, ?_,by rw[hA3,Mi,List.take_zero,List.append_nil];rfl⟩ ?_
   ·exact⟨fun s=>by simp[fD3,fE3],fun d h=>by simp[fD4 d h,fE4 d h]⟩
   rintro i σ hi ⟨a0,a6,de,cJ,iC,iD,a20,a21,mZ,a23,a24,a25,a26,C,⟨hC1,OJ⟩,rfl⟩
   by_cases LJ:i< (ec g l L special j).length
   ·have Br:(i:Int)< (ec g l L special j).length:=by omega
    have w5:IntKind.i64.wrap ((i:Int)+1)=((i+1:Nat):Int):=by rw[←Int.natCast_succ];exact au (by omega)
    have hnw:=EC (ec g l L special j) i LJ
    have LO:=fW5 i LJ
    have Qv:=af (xQ 5 ah ((j+1:Nat):Int) (ec g l L special j)[i])
    simp only[eF]at Qv
    have fY:(jl g l L special ah j).length=(ec g l L special j).length:=by simp[jl]
    have hst:(jl g l L special ah j).take (i+1)=(jl g l L special ah j).take i++[⟨5,ah,((j+1:Nat):Int),(ec g l L special j)[i]⟩]:=by
     rw[List.take_succ_eq_append_getElem (by omega)]
     simp[jl]
    generalize (ec g l L special j)[i]=ws at*
    have NP:(dL g l L special ah j++(jl g l L special ah j).take i).length≤1000:=aav j i hlt hi
    have aI:∀a0 a6 de cJ iC iD a20 a21 mZ a23 a24 a25 a26,DeI g l L B special ah wT j (i+1) ⟨[],[a0,sl eS l,.v (.int .i64 special),.v (.int .i64 ah),.ref 0 0,.ref 2 0,a6,.sl (.own 256 34) L.length (L.flatMap eI),aB .clip 257 3 eN B,.ref 4 0,aB .nil 512 48 eF (cG g l L ah (j+1)),.sl (.own 640 48) ((dL g l L special ah j++(jl g l L special ah j).take i).length+1) ((dL g l L special ah j++(jl g l L special ah j).take i).flatMap eF++[.v (.int .i64 5),.v (.int .i64 ah),.v (.int .i64 ((j+1:Nat):Int)),.v (.int .i64 ws)]),.sl .nil 0 [],.v (.int .i64 ((j+1:Nat):Int)),de,cJ,T.import 47 wT,.v (.int .i64 ((i+1:Nat):Int)),iC,iD,a20,a21,mZ,a23,a24,a25,a26],[some (eG g),none,some [.sl .nil 0 []],none,some [aB .nil 440 84 eU (bf g l L special (j+1))],none,some C,none]⟩:=by
     intro a0 a6 de cJ iC iD a20 a21 mZ a23 a24 a25 a26
     refine⟨a0,a6,de,cJ,iC,iD,a20,a21,mZ,a23,a24,a25,a26,C,⟨hC1,OJ⟩, ?_⟩
     rw[hst,←List.append_assoc,bk]
     rfl
    generalize dL g l L special ah j++(jl g l L special ah j).take i=X at*
    have Mj:=lg X
    have hXC:=kS X
    have hXS:=fun d=>nS d X
    obtain⟨p1,p2⟩:(X.length+1)*32≤room∧X.length+1≤room:=by unfold room;omega
    by_cases hX:X=[]
    ·rw[hX]at aI⊢
     rw[aK]
     simp[-List.length_flatMap,-Int.natCast_add,LJ,Br,w5,hnw,LO,Qv,eV,gF,mK,bY,hit,T.fresh,T.fresh1,T.fresh2,Tp,fW4,q3,r4,OJ]
     exact aI _ _ _ _ _ _ _ _ _ _ _ _ _
    ·rw[aA _ _ _ _ hX]
     simp[-List.length_flatMap,-Int.natCast_add,LJ,Br,w5,hnw,LO,Qv,eV,gF,mK,bY,hit,T.fresh,T.fresh1,T.fresh2,Tp,fW4,p1,p2,OJ,Mj]
     exact aI _ _ _ _ _ _ _ _ _ _ _ _ _
   ·have uY:i=(ec g l L special j).length:=by omega
    subst uY
    have fS:(jl g l L special ah j).take (ec g l L special j).length=jl g l L special ah j:=by rw[List.take_of_length_le (by simp[jl])]
    rw[fS,←NW]
    simp[-List.length_flatMap,-Int.natCast_add,w4,fW4]
    exact⟨_,_,_,_,_,_,_,_,_,_,_,_,_,_,_,_,.inr ⟨C,rfl,hC1⟩,rfl⟩
 ·have yR:j=L.length:=by omega
  subst yR
  have bd:¬((L.length+1:Nat):Int)≤g.aE:=by omega
  have o5:=af (ae0 L (by omega) g.blocks)
  have HT:=GJ .clip (.inr rfl) 84 (kU (bu L) g.blocks (5*L.length))
  have anp:=yW (bu L) g.blocks (5*L.length) (by rw[ma];omega)
  unfold uB
  generalize kU (bu L) g.blocks (5*L.length)=BT at*
  have hC:=fun(C:List T) (h:∀s,aR s C=true)=>h
  have ui:cr (eG g) 2=some (.v (.int .i64 g.blocks)):=rfl
  have Mi:aB .nil 440 84 eU (bf g l L special L.length)= .sl (.own 440 84) L.length ((bf g l L special L.length).flatMap eU):=by
   have y5:(bf g l L special L.length).length=L.length:=by simp[bf]
   rw[aA _ _ _ _ (by intro hh;rw[hh]at y5;simp at y5;omega),y5]
  rcases ho with rfl|⟨C,rfl,hC⟩<;>simp[-List.length_flatMap,-Int.natCast_add,bd,o5,HT,eV,gF,mK,tC,E7,Cs,bY,hit,ui,hC]
  all_goals
   refine m_loop BT.length (D4 g l L B special ah BT) ⟨_,_,_,_,_,_,_,_,_,_,_,_,_,_,_,_,_,_,_,rfl⟩ ?_
   rintro i σ hi ⟨a0,a1,a2,a4,a6,a7,cP,de,cJ,cX,a17,a20,a21,mZ,a23,a24,a25,a26,o,rfl⟩
   have apV:BT.length≤1000:=by omega
   by_cases jb:i< BT.length
   ·have qP:(i:Int)< BT.length:=by omega
    have IS:BT≠[]:=by intro hh;rw[hh]at jb;simp at jb
    have w5:IntKind.i64.wrap ((i:Int)+1)=((i+1:Nat):Int):=by rw[←Int.natCast_succ];exact au (by omega)
    have mz:cr (BT.flatMap eP) (i*2+0)=some (.v (.int .i64 BT[i].1)):=by rw[jY IT BT i 0 jb (by omega)];rfl
    have mC:cr (BT.flatMap eP) (i*2+1)=some (.v (.int .i64 BT[i].2)):=by rw[jY IT BT i 1 jb (by omega)];rfl
    rw[Nat.add_zero]at mz
    have Qw:=af (xQ 1 ah BT[i].1 BT[i].2)
    simp only[eF]at Qw
    have vV:(jx ah BT).length=BT.length:=by simp[jx]
    have hst:(jx ah BT).take (i+1)=(jx ah BT).take i++[⟨1,ah,BT[i].1,BT[i].2⟩]:=by
     rw[List.take_succ_eq_append_getElem (by omega)]
     simp[jx]
    have NP:((jx ah BT).take i).length≤1000:=by rw[List.length_take];omega
    generalize BT[i]=ps at*
    rw[aA _ _ _ _ IS]
    have aI:∀a0 a1 a2 a4 a6 a7 cP de cJ cX a17 a20 a21 mZ a23 a24 a25 a26 o,D4 g l L B special ah BT (i+1) ⟨[],[a0,a1,a2,.v (.int .i64 ah),a4,.ref 2 0,a6,a7,aB .clip 257 3 eN B,.ref 4 0,aB .nil 512 48 eF (cG g l L ah L.length),aB .nil 640 48 eF (dL g l L special ah L.length),.sl (.own 840 48) (((jx ah BT).take i).length+1) (((jx ah BT).take i).flatMap eF++[.v (.int .i64 1),.v (.int .i64 ah),.v (.int .i64 ps.1),.v (.int .i64 ps.2)]),cP,de,cJ,cX,a17,.sl (.own 672 77) BT.length (BT.flatMap eP),.v (.int .i64 ((i+1:Nat):Int)),a20,a21,mZ,a23,a24,a25,a26],[some (eG g),none,some [.sl .nil 0 []],none,some [aB .nil 440 84 eU (bf g l L special L.length)],none,o,none]⟩:=by
     intro a0 a1 a2 a4 a6 a7 cP de cJ cX a17 a20 a21 mZ a23 a24 a25 a26 o
     refine⟨a0,a1,a2,a4,a6,a7,cP,de,cJ,cX,a17,a20,a21,mZ,a23,a24,a25,a26,o, ?_⟩
     rw[hst,bk,aA _ _ _ _ IS]
     rfl
    generalize (jx ah BT).take i=X at*
    have Mj:=lg X
    have hXC:=kS X
    have hXS:=fun d=>nS d X
    obtain⟨p1,p2,p3,p4⟩:(X.length+1)*32≤room∧X.length+1≤room∧32≤room∧1≤room:=by unfold room;omega
    by_cases hX:X=[]
    ·rw[hX]at aI⊢
     rw[aK]
     simp[-List.length_flatMap,-Int.natCast_add,jb,qP,w5,mz,mC,Qw,eV,gF,mK,bY,hit,T.fresh,T.fresh1,T.fresh2,p3,p4]
     exact aI _ _ _ _ _ _ _ _ _ _ _ _ _ _ _ _ _ _ _
    ·rw[aA _ _ _ _ hX]
     simp[-List.length_flatMap,-Int.natCast_add,jb,qP,w5,mz,mC,Qw,eV,gF,mK,bY,hit,T.fresh,T.fresh1,T.fresh2,p1,p2,Mj]
     exact aI _ _ _ _ _ _ _ _ _ _ _ _ _ _ _ _ _ _ _
   ·have uY:i=BT.length:=by omega
    subst uY
    have fS:(jx ah BT).take BT.length=jx ah BT:=by rw[List.take_of_length_le (by simp[jx])]
    rw[fS]
    have JA:=vj .clip 672 77 eP BT
    have vV:(jx ah BT).length≤1000:=by simp[jx];omega
    generalize jx ah BT=P at*
    have yQ:(cG g l L ah L.length).length≤L.length:=by
     have:∀n,(cG g l L ah n).length≤n:=by
      intro n
      induction n with
      |zero=>simp[cG]
      |succ n ih=>
       rw[qS,List.length_append]
       unfold Cp
       split<;>simp<;>omega
     exact this _
    have aqK:(dL g l L special ah L.length).length≤1000:=by
     have:=aav (L.length-1) (ec g l L special (L.length-1)).length (by omega) (by omega)
     have h2:=oX g l L special ah (L.length-1)
     rw[show L.length-1+1=L.length by omega]at h2
     rw[List.take_of_length_le (by simp[jl]),←h2]at this
     exact this
    have y5:(bf g l L special L.length).length=L.length:=by simp[bf]
    have hNF:=Ho (bf g l L special L.length)
    have hNC:=GU (bf g l L special L.length)
    rw[y5]at hNF
    rw[Mi]
    have OK:=lg (cG g l L ah L.length)
    have hAC:=kS (cG g l L ah L.length)
    have hAS:=fun d=>nS d (cG g l L ah L.length)
    generalize hA:cG g l L ah L.length=A at*
    generalize hS:dL g l L special ah L.length=S at*
    have hPF:=lg P
    have hPC:=kS P
    have hPS:=fun d=>nS d P
    have aqL:(gd ah B).length=B.length:=by simp[gd]
    obtain⟨p1,p2,p3,p4⟩:(P.length+A.length)*32≤room∧P.length+A.length≤room∧A.length*32≤room∧A.length≤room:=by unfold room;omega
    have nw:P=[]→A=[]→T.sl (.own 864 48) 0 []=T.sl (.own 864 48) ((P++A)++(gd ah B).take 0).length (((P++A)++(gd ah B).take 0).flatMap eF):=by rintro rfl rfl;rfl
    have D8:P=[]→¬A=[]→T.sl (.own 864 48) A.length (A.flatMap eF)=T.sl (.own 864 48) ((P++A)++(gd ah B).take 0).length (((P++A)++(gd ah B).take 0).flatMap eF):=by rintro rfl _;rw[List.take_zero,List.append_nil,List.nil_append]
    have hc3:¬P=[]→A=[]→T.sl (.own 864 48) P.length (P.flatMap eF)=T.sl (.own 864 48) ((P++A)++(gd ah B).take 0).length (((P++A)++(gd ah B).take 0).flatMap eF):=by rintro _ rfl;rw[List.take_zero,List.append_nil,List.append_nil]
    have hc4:¬P=[]→¬A=[]→T.sl (.own 864 48) (P.length+A.length) (P.flatMap eF++A.flatMap eF)=T.sl (.own 864 48) ((P++A)++(gd ah B).take 0).length (((P++A)++(gd ah B).take 0).flatMap eF):=by intro _ _;rw[List.take_zero,List.append_nil,List.length_append,List.flatMap_append]
    obtain⟨p5,p6⟩:P.length*32≤room∧P.length≤room:=by unfold room;omega
    generalize hR:J1 (bf g l L special L.length) (P++(A++(gd ah B++S)))=R
    have hP1:P=[]→P.length=0:=by rintro rfl;rfl
    by_cases Mk:P=[]<;>by_cases tA:A=[]
    rw[Mk,tA,aK,aK]
    simp[-List.length_flatMap,-Int.natCast_add,JA,eV,gF,bY,hit]
    rotate_left
    rw[Mk,aK,aA _ _ _ _ tA]
    simp[-List.length_flatMap,-Int.natCast_add,JA,eV,gF,bY,hit,p3,p4,OK]
    rotate_left
    rw[tA,aK,aA _ _ _ _ Mk]
    simp[-List.length_flatMap,-Int.natCast_add,JA,eV,gF,bY,hit,p5,p6,hPF]
    rotate_left
    rw[aA _ _ _ _ tA,aA _ _ _ _ Mk]
    simp[-List.length_flatMap,-Int.natCast_add,JA,eV,gF,bY,hit,p1,p2,hPF,OK]
    rotate_left
    all_goals
     first|rw[nw Mk tA]|rw[D8 Mk tA]|rw[hc3 Mk tA]|rw[hc4 Mk tA]
     refine m_loop B.length (D6 g l L B special ah (P++A)) ⟨_,_,_,_,_,_,_,_,_,_,_,_,_,_,_,_,_,_,_,_,_,_,.inl rfl,by rw[Mi,hS];rfl⟩ ?_
     rintro i σ hi ⟨a0,a1,a2,a4,a6,a7,db,cP,de,cJ,cX,a17,iC,iD,a21,mZ,a23,a24,a25,a26,o,k,hk,rfl⟩
     have adl:=vj .clip 257 3 eN B
     have K7:((P++A)++(gd ah B).take i).length≤3000:=by rw[List.length_append,List.length_append,List.length_take];omega
     rw[Mi,hS]
     by_cases VB:i< B.length
     ·have akm:(i:Int)< B.length:=by omega
      have OU:B≠[]:=by intro hh;rw[hh]at VB;simp at VB
      have w5:IntKind.i64.wrap ((i:Int)+1)=((i+1:Nat):Int):=by rw[←Int.natCast_succ];exact au (by omega)
      have di:=EC B i VB
      have aaw:=af (xQ 4 ah B[i] (-1))
      simp only[eF]at aaw
      have hst:(gd ah B).take (i+1)=(gd ah B).take i++[⟨4,ah,B[i],-1⟩]:=by
       rw[List.take_succ_eq_append_getElem (by omega)]
       simp[gd]
      generalize B[i]=bi at*
      rw[aA _ _ _ _ OU]
      have aI:∀a0 a1 a2 a4 a6 a7 db cP de cJ cX a17 iC iD a21 mZ a23 a24 a25 a26 o,∀W,W=P++A++(gd ah B).take i→D6 g l L B special ah (P++A) (i+1) ⟨[],[a0,a1,a2,.v (.int .i64 ah),a4,.ref 2 0,a6,a7,.sl (.own 257 3) B.length (B.flatMap eN),.ref 4 0,db,aB .nil 640 48 eF S,.sl (.own 984 48) (W.length+1) (W.flatMap eF++[.v (.int .i64 4),.v (.int .i64 ah),.v (.int .i64 bi),.v (.int .i64 (-1))]),cP,de,cJ,cX,a17,iC,iD,.v (.int .i64 ((i+1:Nat):Int)),a21,mZ,a23,a24,a25,a26],[some (eG g),none,some [.sl .nil 0 []],none,some [.sl (.own 440 84) L.length ((bf g l L special L.length).flatMap eU)],none,o,none]⟩:=by
       rintro a0 a1 a2 a4 a6 a7 db cP de cJ cX a17 iC iD a21 mZ a23 a24 a25 a26 o W rfl
       refine⟨a0,a1,a2,a4,a6,a7,db,cP,de,cJ,cX,a17,iC,iD,a21,mZ,a23,a24,a25,a26,o,984,.inr rfl, ?_⟩
       rw[hst,←List.append_assoc (P++A),Mi,hS,aA _ _ _ _ OU,acx]
       rfl
      replace aI:=fun a0 a1 a2 a4 a6 a7 db cP de cJ cX a17 iC iD a21 mZ a23 a24 a25 a26 o=>aI a0 a1 a2 a4 a6 a7 db cP de cJ cX a17 iC iD a21 mZ a23 a24 a25 a26 o _ rfl
      generalize P++A++(gd ah B).take i=W at*
      have Mj:=lg W
      have hXC:=kS W
      have hXS:=fun d=>nS d W
      obtain⟨q1,q2,q3,q4⟩:(W.length+1)*32≤room∧W.length+1≤room∧32≤room∧1≤room:=by unfold room;omega
      rcases hk with rfl|rfl<;>simp[-List.length_flatMap,-Int.natCast_add,VB,akm,w5,di,aaw,gF,bY,hit,T.fresh,T.fresh1,T.fresh2,q1,q2,Mj]
      all_goals exact aI _ _ _ _ _ _ _ _ _ _ _ _ _ _ _ _ _ _ _ _ _
     ·have uY:i=B.length:=by omega
      subst uY
      have fS:(gd ah B).take B.length=gd ah B:=by rw[List.take_of_length_le (by simp[gd])]
      rw[fS]at K7⊢
      have Dc:R=J1 (bf g l L special L.length) (P++A++gd ah B++S):=by rw[←hR,List.append_assoc,List.append_assoc]
      rw[Dc]
      generalize P++A++gd ah B=W at*
      have Mj:=lg W
      have hXC:=kS W
      have hXS:=fun d=>nS d W
      have hSF:=lg S
      have hSC:=kS S
      have KM:=fun d=>nS d S
      obtain⟨q1,q2,q3,q4,q5,q6⟩:(W.length+S.length)*32≤room∧W.length+S.length≤room∧S.length*32≤room∧S.length≤room∧W.length*32≤room∧W.length≤room:=by unfold room;omega
      by_cases Da:S=[]
      ·rw[Da,aK]
       rcases hk with rfl|rfl<;>simp[-List.length_flatMap,-Int.natCast_add,adl,eV,bY,hit,q5,q6,Mj]
       all_goals (rw[J1];simp[-List.length_flatMap];exact⟨⟨rfl,y5.symm⟩,rfl⟩)
      ·rw[aA _ _ _ _ Da]
       rcases hk with rfl|rfl<;>simp[-List.length_flatMap,-Int.natCast_add,adl,eV,bY,hit,q1,q2,Mj,hSF]
       all_goals (rw[J1];simp[-List.length_flatMap,List.flatMap_append];exact⟨⟨rfl,y5.symm⟩,rfl⟩)
end Go.Vi.Sz
end
