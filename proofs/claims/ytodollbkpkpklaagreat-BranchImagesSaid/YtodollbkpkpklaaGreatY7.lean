/-
  A claim's own text, joined by a small program out of: H11, H12, H13, H14, H15, H16, H17, H18, H19, H20, H21, H22, H23, H24, H25, H26, H27, H28, H29, H30.
-/
import Derived.Test.YtodollbkpkpklaaGreatY6
import Derived.Test.YtodollbkpkpklaaGreatY2
set_option linter.unusedVariables false
set_option linter.unusedSimpArgs false
section
set_option maxRecDepth 100000
set_option maxHeartbeats 2000000
namespace Go.Vi.Sz
open Go Go.Vi Go.Vi.Zz
abbrev EP(P:FuncId→Option (List T→Option T)):Env:=⟨code,P⟩
theorem Hh(P:FuncId→Option (List T→Option T))(hP:P fW=none)(a b c d:Int):Ev (EP P) fW [.sl .any 4 [.v (.int .i64 a),.v (.int .i64 b),.v (.int .i64 c),.v (.int .i64 d)]] (.sl (.own 0 3) 4 [.v (.int .i64 a),.v (.int .i64 b),.v (.int .i64 c),.v (.int .i64 d)]):=by
 refine G2 (fn:=mI) hP (by decide) rfl rfl rfl ?_
 simp[mI,room,List.idxOf?]
def iS(x:aO):List Int:=[x.p0,x.p1,x.p2,x.p3,x.attr]
def Fv(i k:Nat)(p:Int):Ys:=if p=0 then []else [[.agg [.v (.int .i64 ((i+1:Nat):Int)),.v (.int .i64 (k:Int))],.v (.int .i64 (p-1))]]
def A1(i:Nat)(ps:List Int):Ys:=ps.zipIdx.flatMap fun q=>Fv i q.2 q.1
def MC(l:List aO):Ys:=l.zipIdx.flatMap fun q=>A1 q.2 (iS q.1)
theorem QF(l:List aO)(x:aO):MC (l++[x])=MC l++A1 l.length (iS x):=by
 simp[MC,List.zipIdx_append]
def zp(x:aO):Prop:=∀p∈iS x,0≤p∧p≤65535
theorem TB(l:List aO):(l.flatMap eI).length=l.length*10:=lY Ce l
theorem yg(l:List aO):bj (l.flatMap eI)=true:=by
 induction l with
 |nil=>simp
 |cons x l ih=>simp[eI,ih]
theorem uW(l:List aO)(k:Nat)(hk:k< l.length):one? true 10 (l.flatMap eI) (k*10)=some (.agg (eI l[k])):=tA Ce l k hk
theorem acH(d n:Nat):(yT n).strip d=yT n:=by simp[yT]
theorem Hi(P:FuncId→Option (List T→Option T))(hP:P jF=none)(g:Tag)(l:List aO):Ev (EP P) jF [.sl g l.length (l.flatMap eI)] (.bq (.func cx) [] [.ptr [.sl .any l.length (l.flatMap eI)] 0]):=by
 refine aB (fn:=oz) hP (by decide) rfl rfl rfl ?_
 simp[-List.length_flatMap,oz]
def PoI(l:List aO)(j:Nat)(σ:St)(ys:Ys):Prop:=ys=MC (l.take j)∧∃a1 a2 a3 a4 a5 a9 db fu a12 cS de o,(o=none∨∃x,o=some (eI x))∧
 σ=⟨[],[yT 0,a1,a2,a3,a4,a5,.sl .any l.length (l.flatMap eI),.v (.int .i64 l.length),.v (.int .i64 j),a9,db,fu,a12,cS,de],[o,none]⟩
def PiI(l:List aO)(j:Nat)(y0:Ys)(x:aO)(k:Nat)(σ:St)(ys:Ys):Prop:=ys=y0++A1 j ((iS x).take k)∧∃a1 a3 a4 a5 a9 t10 cS de,
 σ=⟨[],[yT 0,a1,.v (.int .i64 j),a3,a4,a5,.sl .any l.length (l.flatMap eI),.v (.int .i64 l.length),.v (.int .i64 j),a9,.sl t10 5 [.v (.int .i64 x.p0),.v (.int .i64 x.p1),.v (.int .i64 x.p2),.v (.int .i64 x.p3),.v (.int .i64 x.attr)],.v (.int .i64 5),.v (.int .i64 k),cS,de],[some (eI x),none]⟩
theorem Fw(P:FuncId→Option (List T→Option T))(hP:P (an+cx)=none)(hC:P fW=none)(l:List aO)(hn:l.length≤100000)(hl:∀x∈l,zp x):Ev (EP P) (an+cx) [.al [.ptr [.sl .any l.length (l.flatMap eI)] 0]] (.al ((MC l).map .al)):=by
 refine ag3 (fn:=mJ) hP rfl rfl rfl rfl (fun a1 a2 h=>by simp at h) ?_
 show MY (EP P) (.kT (.seq .skip (.seq _ _))) [] _ _ _
 refine XW _ (jC _ _ (BR ?_))
 rw[iJ]
 refine jC _ _ (uU _ rfl ?_)
 simp[mJ,dA,IOp.reads,fi,ru,-List.length_flatMap]
 rw[iJ]
 refine CP _ _ ?_
 refine SE l.length (PoI l) ⟨rfl,_,_,_,_,_,_,_,_,_,_,_,_,.inl rfl,rfl⟩ ?_
 rintro j σ ys hj ⟨rfl,a1,a2,a3,a4,a5,a9,db,fu,a12,cS,de,o,ho,rfl⟩
 refine jC _ _ (SA _ ?_)
 rw[iJ]
 refine jC _ _ (SD (σ':=⟨[],[yT 0,.undef,.undef,.undef,.undef,.undef,.sl .any l.length (l.flatMap eI),.v (.int .i64 l.length),.v (.int .i64 j),.undef,.undef,.undef,.undef,.undef,.undef],[none,none]⟩) _ ?_ ?_)
 ·rcases ho with rfl|⟨x,rfl⟩<;>simp[cB,St.ay,yT,-List.length_flatMap]
 rw[iJ]
 refine jC _ _ (uU _ rfl ?_)
 by_cases hlt:j< l.length
 ·have bh:(j:Int)< l.length:=by omega
  simp[dA,IOp.reads,fi,ru,-List.length_flatMap,hlt,bh]
  rw[iJ]
  refine jC _ _ (yx _ _ _ true rfl ?_)
  rw[if_pos rfl]
  refine BR ?_
  rw[iJ]
  refine jC _ _ (CP _ _ (jC _ _ (uU _ rfl ?_)))
  have ei:dY 10 (.sl .any l.length (l.flatMap eI)) (.v (.int .i64 (j:Int)))=some (.ptr (l.flatMap eI) (j*10)):=by
   show(if 0≤(j:Int)∧(j:Int).toNat< l.length then some (T.ptr (l.flatMap eI) ((j:Int).toNat*10))else none)=_
   rw[if_pos (by omega),Int.toNat_natCast]
  have bF:=uW l j hlt
  have ct:Option.filter T.closed (some (T.agg (eI l[j])))=some (T.agg (eI l[j])):=b7 (by simp)
  have iy:∀x∈eI l[j],x.one=true:=by
   intro x hx
   simp only[eI,List.mem_cons,List.not_mem_nil,or_false]at hx
   rcases hx with rfl|rfl|rfl|rfl|rfl|rfl|rfl|rfl|rfl|rfl<;>rfl
  simp[dA,IOp.reads,fi,ru,I6,-List.length_flatMap,ei,bF,ct,ae]
  rw[if_pos iy,ab0,abZ]
  refine⟨rfl, ?_⟩
  rw[iJ]
  refine jC _ _ (aeQ _ ?_)
  have bV:=af (Hh P hC l[j].p0 l[j].p1 l[j].p2 l[j].p3)
  have hx:eI l[j]=[.v (.int .i64 l[j].kind),.v (.int .i64 l[j].impure),.v (.int .i64 l[j].nlink),.v (.int .i64 l[j].gen),.v (.int .i64 l[j].size),.v (.int .i64 l[j].p0),.v (.int .i64 l[j].p1),.v (.int .i64 l[j].p2),.v (.int .i64 l[j].p3),.v (.int .i64 l[j].attr)]:=rfl
  simp[dA,IOp.reads,fi,ru,I6,-List.length_flatMap,ae,hx]
  refine ab1 _ _ _ _ _ _ ?_
  simp[dA,IOp.reads,fi,bc,ru,I6,-List.length_flatMap,ae,bV,room,hit,T.fresh,T.fresh2,acH]
  rw[iJ]
  refine⟨rfl,CP _ _ ?_⟩
  refine SE 5 (PiI l j (MC (l.take j)) l[j]) ⟨by simp[A1],_,_,_,_,_,_,_,_,rfl⟩ ?_
  rintro k σ ys hk ⟨rfl,a1,a3,a4,a5,a9,t10,cS,de,rfl⟩
  refine jC _ _ (SA _ ?_)
  rw[iJ]
  refine jC _ _ (SD _ rfl ?_)
  rw[iJ]
  refine jC _ _ (uU _ rfl ?_)
  by_cases hk5:k< 5
  ·have hkI:(k:Int)< 5:=by omega
   have w4:IntKind.i64.wrap ((k:Int)+1)=((k+1:Nat):Int):=by rw[←Int.natCast_succ];exact aq (by omega)
   simp[dA,IOp.reads,fi,ru,-List.length_flatMap,hk5,hkI]
   rw[iJ]
   refine jC _ _ (yx _ _ _ true rfl ?_)
   rw[if_pos rfl]
   refine BR ?_
   rw[iJ]
   refine jC _ _ (CP _ _ (jC _ _ (uU _ rfl ?_)))
   obtain⟨p,hp⟩:∃p,(iS l[j])[k]'(by simpa [iS]using hk5)=p:=⟨_,rfl⟩
   have acI:cp [.v (.int .i64 l[j].p0),.v (.int .i64 l[j].p1),.v (.int .i64 l[j].p2),.v (.int .i64 l[j].p3),.v (.int .i64 l[j].attr)] k=some (.v (.int .i64 p)):=by
    have hc:k=0∨k=1∨k=2∨k=3∨k=4:=by omega
    rcases hc with rfl|rfl|rfl|rfl|rfl<;>rw[←hp]<;>rfl
   have ah1:A1 j ((iS l[j]).take (k+1))=A1 j ((iS l[j]).take k)++Fv j k p:=by
    rw[List.take_succ_eq_append_getElem (by simpa [iS]using hk5),hp,A1,A1,List.zipIdx_append,List.flatMap_append]
    simp[iS]
    congr 1
    omega
   have hpr:=hl l[j] (List.getElem_mem hlt) p (by rw[←hp];exact List.getElem_mem _)
   have acJ:dY 1 (.sl t10 5 [.v (.int .i64 l[j].p0),.v (.int .i64 l[j].p1),.v (.int .i64 l[j].p2),.v (.int .i64 l[j].p3),.v (.int .i64 l[j].attr)]) (.v (.int .i64 (k:Int)))=some (.ptr [.v (.int .i64 l[j].p0),.v (.int .i64 l[j].p1),.v (.int .i64 l[j].p2),.v (.int .i64 l[j].p3),.v (.int .i64 l[j].attr)] k):=by
    show(if 0≤(k:Int)∧(k:Int).toNat< 5 then some (T.ptr _ ((k:Int).toNat*1))else none)=_
    rw[if_pos (by omega),Int.toNat_natCast,Nat.mul_one]
   generalize hC5:[T.v (.int .i64 l[j].p0),.v (.int .i64 l[j].p1),.v (.int .i64 l[j].p2),.v (.int .i64 l[j].p3),.v (.int .i64 l[j].attr)]=C5 at*
   simp[dA,IOp.reads,fi,ru,-List.length_flatMap,acJ,acI]
   rw[iJ]
   refine jC _ _ (uU _ rfl ?_)
   have wj:IntKind.i64.wrap ((j:Int)+1)=((j+1:Nat):Int):=by rw[←Int.natCast_succ];exact aq (by omega)
   have wp:IntKind.i64.wrap (p-1)=p-1:=yu (by omega) (by omega)
   by_cases YB:p=0
   ·subst YB
    simp[dA,IOp.reads,fi,ru,-List.length_flatMap]
    refine⟨rfl, ?_⟩
    rw[iJ]
    refine yx (.x 14) (.exit 0) .skip false rfl ?_
    rw[if_neg (by decide)]
    refine BR ?_
    rw[OY,iJ]
    refine uU _ rfl ?_
    simp[dA,IOp.reads,fi,ru,-List.length_flatMap,w4,-Int.natCast_add]
    rw[I7]
    subst hC5
    refine⟨?_,_,_,_,_,_,_,_,_,rfl⟩
    rw[ah1,Fv,if_pos rfl,List.append_nil]
   ·have DM:(p !=0)=true:=by simpa using YB
    simp[dA,IOp.reads,fi,ru,I6,-List.length_flatMap,DM,wj,wp,ae,-Int.natCast_add]
    refine XS _ _ _ _ _ _ rfl rfl rfl ?_
    simp[dA,IOp.reads,fi,ru,-List.length_flatMap,-Int.natCast_add]
    rw[iJ]
    refine yx (.x 14) (.exit 0) .skip false rfl ?_
    rw[if_neg (by decide)]
    refine BR ?_
    rw[OY,iJ]
    refine uU _ rfl ?_
    simp[dA,IOp.reads,fi,ru,-List.length_flatMap,w4,-Int.natCast_add]
    rw[I7]
    subst hC5
    refine⟨?_,_,_,_,_,_,_,_,_,rfl⟩
    rw[ah1,Fv,if_neg YB]
  ·have hkI:¬(k:Int)< 5:=by omega
   have h5:k=5:=by omega
   subst h5
   simp[dA,IOp.reads,fi,ru,-List.length_flatMap]
   rw[iJ]
   refine jC _ _ (yx _ _ _ false rfl ?_)
   rw[if_neg (by decide)]
   refine Sy _ ?_
   simp only[XU,XT,OZ,XV,OY,iJ]
   rw[if_pos trivial]
   refine uU _ rfl ?_
   have w4:IntKind.i64.wrap ((j:Int)+1)=((j+1:Nat):Int):=by rw[←Int.natCast_succ];exact aq (by omega)
   simp[dA,IOp.reads,fi,ru,-List.length_flatMap,w4,-Int.natCast_add]
   rw[I7]
   refine⟨?_,_,_,_,_,_,_,_,_,_,_,_,_,.inr ⟨_,rfl⟩,rfl⟩
   rw[List.take_succ_eq_append_getElem hlt,QF,List.length_take,Nat.min_eq_left hj]
   rfl
 ·have bh:¬(j:Int)< l.length:=by omega
  simp[dA,IOp.reads,fi,ru,-List.length_flatMap,hlt,bh]
  rw[iJ]
  refine jC _ _ (yx _ _ _ false rfl ?_)
  rw[if_neg (by decide)]
  refine Sy _ ?_
  have II:j=l.length:=by omega
  subst II
  simp[XU,XT,OZ,XV,aks,I7,adi]
end Go.Vi.Sz
end
section
set_option maxRecDepth 100000
namespace Go.Vi.Sz
open Go Go.Vi Go.Vi.Zz
abbrev DU:=Int×Int×Int
def qN(t:DU):List T:=[.agg [.v (.int .i64 t.1),.v (.int .i64 t.2.1)],.v (.int .i64 t.2.2)]
def dW(n:Nat):Int×Int:=(((n / 5+1:Nat):Int),((n%5:Nat):Int))
theorem aaD{n m:Nat}(h:dW n=dW m):n=m:=by
 simp only[dW,Prod.mk.injEq,Int.natCast_inj]at h
 omega
def bz(l:List aO):List Int:=l.flatMap iS
theorem mz(l:List aO):(bz l).length=5*l.length:=by
 induction l with
 |nil=>rfl
 |cons x l ih=>rw[bz,List.flatMap_cons,List.length_append,←bz,ih,List.length_cons];simp[iS];omega
def yn(n:Nat)(p:Int):List DU:=if p=0 then []else [((dW n).1,(dW n).2,p-1)]
def tF(fl:List Int):List DU:=fl.zipIdx.flatMap fun q=>yn q.2 q.1
theorem rm(fl:List Int)(p:Int):tF (fl++[p])=tF fl++yn fl.length p:=by
 simp[tF,List.zipIdx_append]
theorem aaE(l:List aO):MC l=(tF (bz l)).map qN:=by
 have key:∀(r:List aO),MC r.reverse=(tF (bz r.reverse)).map qN:=by
  intro r
  induction r with
  |nil=>rfl
  |cons x r ih=>
   rw[List.reverse_cons,QF,ih]
   have e:bz (r.reverse++[x])=bz r.reverse++[x.p0]++[x.p1]++[x.p2]++[x.p3]++[x.attr]:=by simp[bz,iS]
   rw[e,rm,rm,rm,rm,rm]
   simp only[List.map_append,List.append_assoc]
   congr 1
   have hk:∀k p,k< 5→Fv r.reverse.length k p=(yn ((bz r.reverse).length+k) p).map qN:=by
    intro k p hk
    unfold Fv yn
    by_cases hp:p=0
    ·rw[if_pos hp,if_pos hp];rfl
    ·rw[if_neg hp,if_neg hp,mz]
     have h1:(5*r.reverse.length+k) / 5=r.reverse.length:=by omega
     have h2:(5*r.reverse.length+k)%5=k:=by omega
     simp only[List.map_cons,List.map_nil,qN,dW,h1,h2]
   have hlen:∀(a:List Int) (p:Int),(a++[p]).length=a.length+1:=by simp
   have hy:A1 r.reverse.length (iS x)=Fv r.reverse.length 0 x.p0++(Fv r.reverse.length 1 x.p1++(Fv r.reverse.length 2 x.p2++(Fv r.reverse.length 3 x.p3++Fv r.reverse.length 4 x.attr))):=by
    simp[A1,iS]
   rw[hy,hk 0 _ (by omega),hk 1 _ (by omega),hk 2 _ (by omega),hk 3 _ (by omega),hk 4 _ (by omega)]
   simp only[List.length_append,List.length_cons,List.length_nil,Nat.zero_add,Nat.add_zero]
 have:=key l.reverse
 rwa [List.reverse_reverse]at this
abbrev Mp:=List (Int×Int×Int)
def j1(m:Mp)(b:Int):Option (Int×Int):=(m.find? fun e=>e.1==b).map (·.2)
def JP(blocks:Int)(m:Mp)(t:DU):Mp:=if j1 m t.2.2=none∧0≤t.2.2∧t.2.2< blocks then m++[(t.2.2,t.1,t.2.1)]else m
def gU(blocks:Int)(ts:List DU):Mp:=ts.foldl (JP blocks) []
theorem Fx(blocks:Int)(ts:List DU)(t:DU):gU blocks (ts++[t])=JP blocks (gU blocks ts) t:=by simp[gU]
theorem Dc(blocks:Int)(fl:List Int)(b:Int):j1 (gU blocks (tF fl)) b=if 0≤b∧b< blocks then(fl.findIdx? (· ==b+1)).map dW else none:=by
 have key:∀(r:List Int) (b:Int),j1 (gU blocks (tF r.reverse)) b=if 0≤b∧b< blocks then(r.reverse.findIdx? (· ==b+1)).map dW else none:=by
  intro r
  induction r with
  |nil=>intro b;simp[tF,gU,j1]
  |cons p r ih=>
   intro b
   rw[List.reverse_cons,rm,List.findIdx?_append]
   unfold yn
   by_cases hp:p=0
   ·rw[if_pos hp,List.append_nil,ih b]
    by_cases hb:0≤b∧b< blocks
    ·rw[if_pos hb,if_pos hb]
     have:(p==b+1)=false:=by rw[beq_eq_false_iff_ne];omega
     simp[List.findIdx?_cons,this]
    ·rw[if_neg hb,if_neg hb]
   ·rw[if_neg hp,Fx]
    unfold JP
    simp only[ih]
    by_cases hc:((if 0≤p-1∧p-1< blocks then(r.reverse.findIdx? (· ==p-1+1)).map dW else none)=none∧0≤p-1∧p-1< blocks)
    ·rw[if_pos hc]
     obtain⟨h1,h2,h3⟩:=hc
     rw[if_pos ⟨h2,h3⟩]at h1
     have apf:j1 (gU blocks (tF r.reverse)++[(p-1,(dW r.reverse.length).1,(dW r.reverse.length).2)]) b=(j1 (gU blocks (tF r.reverse)) b).or (if p-1==b then some (dW r.reverse.length)else none):=by
      unfold j1
      rw[List.find?_append]
      cases (gU blocks (tF r.reverse)).find? fun e=>e.1==b with
      |some e=>simp
      |none=>cases DM:(p-1==b)<;>simp[DM]
     rw[apf,ih b]
     by_cases hb:0≤b∧b< blocks
     ·rw[if_pos hb,if_pos hb]
      by_cases DM:p-1=b
      ·subst DM
       have he:(p==p-1+1)=true:=by rw[beq_iff_eq];omega
       rw[Option.map_eq_none_iff]at h1
       simp[List.findIdx?_cons]
      ·have he:(p==b+1)=false:=by rw[beq_eq_false_iff_ne];omega
       have lT:(p-1==b)=false:=by rw[beq_eq_false_iff_ne];exact DM
       simp[List.findIdx?_cons,he,lT]
     ·rw[if_neg hb,if_neg hb]
      have lT:(p-1==b)=false:=by rw[beq_eq_false_iff_ne];omega
      simp[lT]
    ·rw[if_neg hc,ih b]
     by_cases hb:0≤b∧b< blocks
     ·rw[if_pos hb,if_pos hb]
      by_cases DM:p-1=b
      ·subst DM
       rw[if_pos hb]at hc
       cases hf:r.reverse.findIdx? (· ==p-1+1)with
       |none=>rw[hf]at hc;exact absurd ⟨rfl,hb⟩ hc
       |some n=>simp
      ·have he:(p==b+1)=false:=by rw[beq_eq_false_iff_ne];omega
       simp[List.findIdx?_cons,he]
     ·rw[if_neg hb,if_neg hb]
 have:=key fl.reverse b
 rwa [List.reverse_reverse]at this
def anyM(m:Mp)(ino k:Int):Bool:=m.any fun e=>e.2.1==ino&&e.2.2==k
theorem acK{ino k:Int}(h1:1≤ino)(h2:0≤k)(h3:k≤4):dW (numOf ino k)=(ino,k):=by
 unfold dW numOf
 rw[Prod.mk.injEq]
 omega
theorem acL(n:Nat):numOf (dW n).1 (dW n).2=n∧1≤(dW n).1∧0≤(dW n).2∧(dW n).2≤4:=by
 unfold dW numOf
 simp only
 omega
theorem VK{fl:List Int}{n:Nat}(h:n< fl.length):fl.findIdx? (· ==fl[n])=some n↔(fl.take n).contains fl[n]=false:=by
 rw[List.findIdx?_eq_some_iff_getElem]
 constructor
 ·rintro⟨h1,h2,h3⟩
  rw[Bool.eq_false_iff]
  intro hc
  rw[List.contains_iff_mem,List.mem_iff_getElem]at hc
  obtain⟨i,hi,he⟩:=hc
  rw[List.length_take]at hi
  rw[List.getElem_take]at he
  have:=h3 i (by omega)
  simp[he]at this
 ·intro hc
  refine⟨h,by simp,fun j hj=> ?_⟩
  intro he
  rw[beq_iff_eq]at he
  rw[Bool.eq_false_iff]at hc
  apply hc
  rw[List.contains_iff_mem,List.mem_iff_getElem]
  exact⟨j,by rw[List.length_take];omega,by rw[List.getElem_take];exact he⟩
theorem Dd(blocks:Int)(fl:List Int)(n:Nat)(hn:n< fl.length):(j1 (gU blocks (tF fl)) (fl[n]-1)=some (dW n))↔dw fl blocks (dW n).1 (dW n).2=true:=by
 obtain⟨h1,h2,h3,h4⟩:=acL n
 rw[Dc]
 have hg:fl.getD n 0=fl[n]:=by rw[List.getD_eq_getElem?_getD,List.getElem?_eq_getElem hn,Option.getD_some]
 have he:fl[n]-1+1=fl[n]:=by omega
 unfold dw
 rw[h1,hg,he]
 simp only[h2,h3,h4,hn,decide_true,Bool.true_and,Bool.and_eq_true,decide_eq_true_eq,Bool.not_eq_true']
 by_cases hb:0≤fl[n]-1∧fl[n]-1< blocks
 ·rw[if_pos hb,←VK hn]
  constructor
  ·intro hm
   obtain⟨m,Xv,LB⟩:=Option.map_eq_some_iff.1 hm
   have:=aaD LB
   subst this
   exact⟨⟨by omega,by omega⟩,Xv⟩
  ·rintro⟨_,hm⟩
   rw[hm];rfl
 ·rw[if_neg hb]
  constructor
  ·intro h;cases h
  ·rintro⟨⟨h5,h6⟩,_⟩
   exact absurd ⟨by omega,by omega⟩ hb
theorem afo(blocks:Int):∀(r:List Int) (e:Int×Int×Int),e∈gU blocks (tF r.reverse)→j1 (gU blocks (tF r.reverse)) e.1=some e.2∧∃n,∃h:n< r.reverse.length,e.1=r.reverse[n]-1∧e.2=dW n:=by
 intro r
 induction r with
 |nil=>intro e he;simp[tF,gU]at he
 |cons p r ih=>
  intro e he
  have jO:∀e,e∈gU blocks (tF r.reverse)→j1 (gU blocks (tF (r.reverse++[p]))) e.1=some e.2∧∃n,∃h:n< (r.reverse++[p]).length,e.1=(r.reverse++[p])[n]-1∧e.2=dW n:=by
   intro e he
   obtain⟨h1,n,h2,h3,h4⟩:=ih e he
   refine⟨?_,n,by simp at h2⊢;omega,by rw[List.getElem_append_left h2];exact h3,h4⟩
   rw[Dc]at h1⊢
   by_cases hb:0≤e.1∧e.1< blocks
   ·rw[if_pos hb]at h1⊢
    obtain⟨m,Xv,LB⟩:=Option.map_eq_some_iff.1 h1
    rw[List.findIdx?_append,Xv]
    simp[LB]
   ·rw[if_neg hb]at h1;cases h1
  rw[List.reverse_cons]at he⊢
  rw[rm]at he
  unfold yn at he
  by_cases hp:p=0
  ·rw[if_pos hp,List.append_nil]at he
   exact jO e he
  ·rw[if_neg hp,Fx]at he
   unfold JP at he
   simp only at he
   by_cases hc:j1 (gU blocks (tF r.reverse)) (p-1)=none∧0≤p-1∧p-1< blocks
   ·rw[if_pos hc,List.mem_append,List.mem_singleton]at he
    rcases he with he|rfl
    ·exact jO e he
    ·refine⟨?_,r.reverse.length,by simp,by simp,rfl⟩
     obtain⟨h1,h2,h3⟩:=hc
     rw[Dc,if_pos ⟨h2,h3⟩,Option.map_eq_none_iff]at h1
     rw[Dc,if_pos ⟨h2,h3⟩,List.findIdx?_append,h1]
     have he:(p==p-1+1)=true:=by rw[beq_iff_eq];omega
     simp[List.findIdx?_cons]
   ·rw[if_neg hc]at he
    exact jO e he
theorem acM{m:Mp}{b:Int}{s:Int×Int}(h:j1 m b=some s):(b,s)∈m:=by
 unfold j1 at h
 obtain⟨e,h1,h2⟩:=Option.map_eq_some_iff.1 h
 have h3:=List.find?_some h1
 have h4:=List.mem_of_find?_eq_some h1
 rw[beq_iff_eq]at h3
 subst h2 h3
 exact h4
theorem YL(blocks:Int)(fl:List Int)(ino k:Int):anyM (gU blocks (tF fl)) ino k=dw fl blocks ino k:=by
 rw[Bool.eq_iff_iff]
 unfold anyM
 rw[List.any_eq_true]
 constructor
 ·rintro⟨e,he,heq⟩
  simp only[Bool.and_eq_true,beq_iff_eq]at heq
  have hm:=afo blocks fl.reverse e (by rw[List.reverse_reverse];exact he)
  rw[List.reverse_reverse]at hm
  obtain⟨h1,n,hn,h2,h3⟩:=hm
  have hs:dW n=(ino,k):=by rw[←h3];exact Prod.ext heq.1 heq.2
  have:=(Dd blocks fl n hn).1 (by rw[←h2,h1,h3])
  rw[hs]at this
  exact this
 ·intro hv
  have Bw:=hv
  simp only[dw,Bool.and_eq_true,decide_eq_true_eq]at hv
  obtain⟨⟨⟨⟨⟨⟨h1,h2⟩,h3⟩,h4⟩,_⟩,_⟩,_⟩:=hv
  have hs:=acK h1 h2 h3
  have:=(Dd blocks fl (numOf ino k) h4).2 (by rw[hs];exact Bw)
  exact⟨_,acM this,by rw[hs];simp⟩
def rL(fl:List Int)(blocks:Int)(ts:List DU):List (Int×Int):=ts.filterMap fun t=>if dw fl blocks t.1 t.2.1 then none else some (t.1,t.2.1)
end Go.Vi.Sz
end
section
set_option maxRecDepth 100000
set_option maxHeartbeats 2000000
namespace Go.Vi.Sz
open Go Go.Vi Go.Vi.Zz
def eM(m:Mp):List T:=m.flatMap fun e=>[.v (.int .i64 e.1),.agg [.v (.int .i64 e.2.1),.v (.int .i64 e.2.2)]]
def vh(s:Int×Int):T:= .agg [.v (.int .i64 s.1),.v (.int .i64 s.2)]
theorem QG(m:Mp)(b:Int):mB .int (.v (.int .i64 b)) (eM m)=some ((j1 m b).map vh):=by
 induction m with
 |nil=>rfl
 |cons e m ih=>
  show(iA .int (.v (.int .i64 b)) (.v (.int .i64 e.1))).bind (fun x=>if x then some (some (.agg [.v (.int .i64 e.2.1),.v (.int .i64 e.2.2)]))else mB .int (.v (.int .i64 b)) (eM m))=_
  rw[show iA .int (.v (.int .i64 b)) (.v (.int .i64 e.1))=some (b==e.1)from rfl,Option.bind_some,ih]
  unfold j1
  have hs:(b==e.1)=(e.1==b):=BEq.comm
  rw[hs]
  cases h:e.1==b<;>simp[h,vh]
theorem afp(m:Mp)(b:Int)(s:Int×Int)(h:j1 m b=none):tn .int (.v (.int .i64 b)) (vh s) (eM m)=some (eM (m++[(b,s)])):=by
 induction m with
 |nil=>rfl
 |cons e m ih=>
  unfold j1 at h
  have h1:(e.1==b)=false:=by
   cases hc:e.1==b
   ·rfl
   ·rw[List.find?_cons,hc]at h;simp at h
  have h2:j1 m b=none:=by
   rw[List.find?_cons,h1]at h
   exact h
  have hs:(b==e.1)=false:=by rw[BEq.comm];exact h1
  show(iA .int (.v (.int .i64 b)) (.v (.int .i64 e.1))).bind (fun x=>if x then some (.v (.int .i64 b)::vh s::eM m)else(tn .int (.v (.int .i64 b)) (vh s) (eM m)).map fun cs=> .v (.int .i64 e.1):: .agg [.v (.int .i64 e.2.1),.v (.int .i64 e.2.2)]::cs)=_
  rw[show iA .int (.v (.int .i64 b)) (.v (.int .i64 e.1))=some (b==e.1)from rfl,Option.bind_some,hs,ih h2]
  rfl
theorem JQ(ρ η)(m:Mp):ah ρ η (eM m)=eM m:=by
 induction m with
 |nil=>simp[eM]
 |cons e m ih=>
  have:eM (e::m)= .v (.int .i64 e.1):: .agg [.v (.int .i64 e.2.1),.v (.int .i64 e.2.2)]::eM m:=rfl
  rw[this]
  simp[ih]
theorem afq(m:Mp):dZ (eM m)=[]:=by
 induction m with
 |nil=>simp[eM]
 |cons e m ih=>
  have:eM (e::m)= .v (.int .i64 e.1):: .agg [.v (.int .i64 e.2.1),.v (.int .i64 e.2.2)]::eM m:=rfl
  rw[this]
  simp[dZ,T.refs,ih]
theorem afr(m:Mp):gX (eM m)=[]:=by
 induction m with
 |nil=>simp[eM]
 |cons e m ih=>
  have:eM (e::m)= .v (.int .i64 e.1):: .agg [.v (.int .i64 e.2.1),.v (.int .i64 e.2.2)]::eM m:=rfl
  rw[this]
  simp[ih]
theorem aaF(ρ η)(l:List aO):ah ρ η (l.flatMap eI)=l.flatMap eI:=by
 induction l with
 |nil=>simp
 |cons x l ih=>simp[eI,ih]
theorem Mg(P:FuncId→Option (List T→Option T))(h1:P (an+vy)=none)(h2:P jF=none)(h3:P (an+cx)=none)(h4:P fW=none)
  (l:List aO) (hn:l.length≤100000) (hl:∀x∈l,zp x) (blocks:Int):Ev (EP P) (an+vy) [.al [.sl .any l.length (l.flatMap eI),.v (.int .i64 blocks)],.al []] (.al [.aQ 1,.al [.undef,.agg (eM (gU blocks (tF (bz l))))]]):=by
 refine FZ (fn:=qR) h1 rfl rfl rfl (by simp) ?_
 have hp:=af (Hi P h2 .any l)
 simp[-List.length_flatMap,qR]
 rw[bE rfl]
 simp[-List.length_flatMap,ae,hp]
 have himp:T.import 12 (.bq (.func cx) [] [.ptr [.sl .any l.length (l.flatMap eI)] 0])= .bq (.func cx) [] [.ptr [.sl .any l.length (l.flatMap eI)] 0]:=by simp[T.import,dz]
 rw[himp]
 have hy:=Fw P h3 h4 l hn hl
 rw[aaE]at hy
 generalize hT:tF (bz l)=ts at*
 refine F0 (f:=cx) (caps:=[.ptr [.sl .any l.length (l.flatMap eI)] 0]) (cs:=[.ptr [.sl .any l.length (l.flatMap eI)] 0]) (ss:=[]) (ys:=(ts.map qN).map T.al)
  (fun j vars bx=>vars=[.sl .any l.length (l.flatMap eI),.v (.int .i64 blocks),.ref 0 0,.v (.map none),.ref 2 0,.undef,.undef,.undef,.bq (.func cx) [] [.ptr [.sl .any l.length (l.flatMap eI)] 0],.undef,.undef,.undef]∧
   bx=[some [.v (.int .i64 blocks)],none,some [.aQ 9],none,none,none,none,none,none,some (eM (gU blocks (ts.take j)))])
  rfl ?_ ?_ hy ?_ ?_ ?_
 ·simp[-List.length_flatMap,T.refs,dZ]
 ·simp[-List.length_flatMap,T.aj,ah,close]
 ·simp[-List.length_flatMap,T.aj,ah,vQ,ai,List.range,List.range.loop,eM,gU]
 ·rintro j t vars bx Lv ⟨rfl,rfl⟩
  obtain⟨q,hq,rfl⟩:∃q,ts[j]? =some q∧T.al (qN q)=t:=by simpa using Lv
  obtain⟨hj,hqe⟩:=List.getElem?_eq_some_iff.1 hq
  refine⟨_,rfl,rfl, ?_⟩
  have hst:ts.take (j+1)=ts.take j++[q]:=by rw[List.take_succ_eq_append_getElem hj,hqe]
  rw[hst,Fx]
  generalize gU blocks (ts.take j)=m
  obtain⟨i,k,b⟩:=q
  have DV:=QG m b
  have hpt:=afp m b (i,k)
  have sH:=fun ρ η=>JQ ρ η m
  simp[-List.length_flatMap,T.aj,ah,cM,dD,qN,sH]
  rw[bE rfl]
  simp[-List.length_flatMap,ae,DV]
  unfold JP
  simp only
  have apg:=fun ρ η=>JQ ρ η (m++[(b,i,k)])
  cases GU:j1 m b with
  |some s=>
   rw[if_neg (by rintro⟨h,_⟩;cases h)]
   simp[-List.length_flatMap,vh]
   simp[-List.length_flatMap,fv,bD,ai,T.aj,ah,sH]
  |none=>
   by_cases kY:0≤b
   ·by_cases mc:b< blocks
    ·rw[if_pos ⟨rfl,kY,mc⟩]
     have hpt:=hpt GU
     simp only[vh]at hpt
     simp[-List.length_flatMap,kY,mc]
     rw[bE rfl]
     simp[-List.length_flatMap,ae,hpt]
     simp[-List.length_flatMap,fv,bD,ai,T.aj,ah,apg]
    ·rw[if_neg (fun h=>mc h.2.2)]
     simp[-List.length_flatMap,kY,mc]
     simp[-List.length_flatMap,fv,bD,ai,T.aj,ah,sH]
   ·rw[if_neg (fun h=>kY h.2.1)]
    simp[-List.length_flatMap,kY]
    simp[-List.length_flatMap,fv,bD,ai,T.aj,ah,sH]
 ·rintro vars bx ⟨rfl,rfl⟩
  have hlen:((ts.map qN).map T.al).length=ts.length:=by simp
  rw[hlen,List.take_length]
  have hb:pw [] (jc [] [some [T.v (.int .i64 blocks)],none,some [T.aQ 9],none,none,none,none,none,none,some []]) [some [T.v (.int .i64 blocks)],none,some [T.aQ 9],none,none,none,none,none,none,some (eM (gU blocks ts))]=[some [T.v (.int .i64 blocks)],none,some [T.aQ 9],none,none,none,none,none,none,some (eM (gU blocks ts))]:=by
   simp[pw,ai,List.range,List.range.loop]
  rw[hb,ite_self]
  have sH:=fun ρ η=>JQ ρ η (gU blocks ts)
  simp[-List.length_flatMap]
  have hrf:=afq (gU blocks ts)
  have Yh:=afr (gU blocks ts)
  generalize eM (gU blocks ts)=EM at*
  simp[fV,ou,uf,vT,ai,T.refs,T.eO,hrf,Yh,fh,mC,fF,List.range,List.range.loop,T.aj,sH,As]
end Go.Vi.Sz
end
section
set_option maxRecDepth 100000
namespace Go.Vi.Sz
open Go Go.Vi Go.Vi.Zz
theorem afs{x:aO}(h:zp x):([x.p0,x.p1,x.p2,x.p3,x.attr].all fun p=>decide (0≤p)&&decide (p≤65535))=true:=by
 rw[List.all_eq_true]
 intro p hp
 have:=h p hp
 simp only[Bool.and_eq_true,decide_eq_true_eq]
 exact this
theorem TC:∀(l:List aO),(∀x∈l,zp x)→JE l.length (l.flatMap eI)=some (bz l)
 | [],_=>rfl
 |x::l,h=>by
  show(if [x.p0,x.p1,x.p2,x.p3,x.attr].all (fun p=>decide (0≤p)&&decide (p≤65535))then(JE l.length (l.flatMap eI)).map fun fl=>x.p0::x.p1::x.p2::x.p3::x.attr::fl else none)=_
  rw[if_pos (afs (h x (by simp))),TC l fun y hy=>h y (by simp[hy])]
  rfl
theorem SV:∀(n:Nat) (cs:List T) (fl:List Int),JE n cs=some fl→∃l:List aO,l.length=n∧l.flatMap eI=cs∧bz l=fl∧∀x∈l,zp x
 |0,cs,fl,h=>by
  cases cs with
  |nil=>simp only[JE,Option.some.injEq]at h;exact⟨[],rfl,rfl,h,fun x hx=>by simp at hx⟩
  |cons=>simp[JE]at h
 |n+1,cs,fl,h=>by
  unfold JE at h
  split at h
  ·rename_i heq;cases heq
  ·rename_i n' a0 a1 a2 a3 a4 a b c d e b9 heq
   cases heq
   split at h
   ·rename_i iy
    obtain⟨fl',h1,rfl⟩:=Option.map_eq_some_iff.1 h
    obtain⟨l,h2,h3,h4,h5⟩:=SV n b9 fl' h1
    refine⟨⟨a0,a1,a2,a3,a4,a,b,c,d,e⟩::l,by simp[h2],by rw[List.flatMap_cons,h3];rfl,by rw[bz,List.flatMap_cons,←bz,h4];rfl, ?_⟩
    intro x hx
    rcases List.mem_cons.1 hx with rfl|hx
    ·intro p hp
     have:=List.all_eq_true.1 iy p hp
     simpa using this
    ·exact h5 x hx
   ·cases h
  ·cases h
theorem acN(l:List aO)(hn:l.length≤100000)(hl:∀x∈l,zp x)(blocks ino k:Int):Ev E oP [.sl .any l.length (l.flatMap eI),.v (.int .i64 blocks),.v (.int .i64 ino),.v (.int .i64 k)] (.v (.bool (dw (bz l) blocks ino k))):=by
 refine Tw (g:=Vb) rfl ?_
 show(JE l.length (l.flatMap eI)).bind (fun fl=>if l.length≤100000 then some (T.v (.bool (dw fl blocks ino k)))else none)=_
 rw[TC l hl,Option.bind_some,if_pos hn]
theorem aci(m:Mp)(ino k:Int):C8 ino k (eM m)=some (anyM m ino k):=by
 induction m with
 |nil=>rfl
 |cons e m ih=>
  show(C8 ino k (eM m)).map (fun r=>(e.2.1==ino&&e.2.2==k)||r)=_
  rw[ih]
  rfl
end Go.Vi.Sz
end
section
set_option maxRecDepth 100000
set_option maxHeartbeats 2000000
namespace Go.Vi.Sz
open Go Go.Vi Go.Vi.Zz
def dG(g:bt)(l:List (List UInt8)):Bool:=la g&&decide ((l.length:Int)=1+g.aw+g.blocks)
def iR(g:bt)(s i:T):List T:=[.v (.int .i64 g.lowers),.v (.int .i64 g.aw),.v (.int .i64 g.blocks),.v (.int .i64 g.log),s,i]
theorem wz(g:bt)(l:List (List UInt8)):Ev E mm [.agg (eG g),sl eS l] (.v (.bool (dG g l))):=by
 refine aB (fn:=oS) rfl (by decide) rfl rfl rfl ?_
 have hc:=af (Ah g)
 unfold dG
 cases h:la g
 ·simp[-List.length_flatMap,oS,hc,h]
 ·have hl:=af (Ak g h)
  simp[-List.length_flatMap,oS,hc,h,hl,aJ]
  rfl
theorem pK(g:bt)(l:List (List UInt8))(i:T)(n:Nat)(cs:List T)(hi:i= .sl .any n cs):Ev E fQ [.agg (iR g (sl eS l) i)] (.v (.bool (dG g l))):=by
 refine aB (fn:=iC) rfl (by decide) rfl rfl rfl ?_
 have hc:=af (HV g)
 simp only[eG]at hc
 subst hi
 unfold dG
 cases h:la g
 ·simp[-List.length_flatMap,iC,iR,hc,h]
 ·have hs:=dq h
  have w1:IntKind.i64.wrap (1+g.aw)=1+g.aw:=cq (by omega) (by omega)
  have w2:IntKind.i64.wrap (1+g.aw+g.blocks)=1+g.aw+g.blocks:=cq (by omega) (by omega)
  simp[-List.length_flatMap,iC,iR,hc,h,w1,w2]
  rfl
end Go.Vi.Sz
end
section
set_option maxRecDepth 100000
set_option maxHeartbeats 4000000
namespace Go.Vi.Sz
open Go Go.Vi Go.Vi.Zz
def eN(n:Int):List T:=[.v (.int .i64 n)]
@[simp] theorem aaG(n:Int):(eN n).length=1:=rfl
theorem ph(l:List Int):(l.flatMap eN).length=l.length:=by rw[lY aaG l];simp
theorem oL(l:List Int):bj (l.flatMap eN)=true:=by
 induction l with
 |nil=>rfl
 |cons c l ih=>simp[eN,ih]
def aD{α:Type}(z:Tag)(k:Nat)(e:TypeId)(enc:α→List T)(l:List α):T:=if l=[]then .sl z 0 []else .sl (.own k e) l.length (l.flatMap enc)
theorem aK{α:Type}(z k e)(enc:α→List T):aD z k e enc []= .sl z 0 []:=rfl
theorem aA{α:Type}(z k e)(enc:α→List T){l:List α}(h:l≠[]):aD z k e enc l= .sl (.own k e) l.length (l.flatMap enc):=by unfold aD;rw[if_neg h]
theorem bk{α:Type}(z k e)(enc:α→List T)(l:List α)(x:α):aD z k e enc (l++[x])= .sl (.own k e) (l.length+1) (l.flatMap enc++enc x):=by
 rw[aA _ _ _ _ (by simp)];simp
def cJ(S:List (List UInt8)):List aO:=S.map fun b=>(nS b).getD cz
def cZ(S:List (List UInt8)):List Int:=S.zipIdx.flatMap fun q=>if(nS q.1).isSome then []else [((q.2+1:Nat):Int)]
theorem MD(S)(b):cJ (S++[b])=cJ S++[(nS b).getD cz]:=by simp[cJ]
theorem qG(S)(b):cZ (S++[b])=cZ S++(if(nS b).isSome then []else [((S.length+1:Nat):Int)]):=by simp[cZ,List.zipIdx_append]
def br(g:bt)(l:List (List UInt8)):List (List UInt8):=(l.drop 1).take g.aw.toNat
theorem aft(n:Nat):∀l:List (List UInt8),(l.flatMap eS).drop n=(l.drop n).flatMap eS:=by
 induction n with
 |zero=>intro l;simp
 |succ n ih=>intro l;cases l<;>simp[eS,←ih]
theorem afu(n:Nat):∀l:List (List UInt8),(l.flatMap eS).take n=(l.take n).flatMap eS:=by
 induction n with
 |zero=>intro l;simp
 |succ n ih=>intro l;cases l<;>simp[eS,←ih]
theorem afv(l:List (List UInt8))(lo hi:Nat):ti 1 (sl eS l) (some lo) (some hi) (some (oK (sl eS l))) false=if lo≤hi∧hi≤l.length then some (sl eS ((l.drop lo).take (hi-lo)))else none:=by
 unfold ti
 simp only[sl,oK,Nat.mul_one,aft,afu]
 by_cases h:lo≤hi∧hi≤l.length
 ·have hl:((l.drop lo).take (hi-lo)).length=hi-lo:=by simp;omega
  simp[h,hl]
 ·simp[h]
def InJ(g:bt)(S:List (List UInt8))(j:Nat)(σ:St):Prop:=∃a0 a1 a2 a3 a4 a7 a8 a9 db fu cK cX o,(o=none∨∃x,o=some (eI x))∧
 σ=⟨[],[a0,a1,a2,a3,a4,aD .nil 344 34 eI (cJ (S.take j)),aD .nil 312 3 eN (cZ (S.take j)),a7,a8,a9,db,fu,sl eS S,.v (.int .i64 S.length),.v (.int .i64 j),cK,cX],[some (eG g),none,o,none]⟩
theorem Yz(g:bt)(l:List (List UInt8))(hl:∀b∈l,b.length=64):Ev E gH [.agg (eG g),sl eS l]
  (if dG g l then .al [aD .nil 0 34 eI (cJ (br g l)),aD .nil 1 3 eN (cZ (br g l))]else .al [.sl .nil 0 [],.sl .nil 0 []]):=by
 refine aB (fn:=ky) rfl (by decide) rfl rfl rfl ?_
 have hr:=af (pK g l (.sl .any 0 []) 0 [] rfl)
 simp only[iR]at hr
 cases h:dG g l
 ·rw[h]at hr
  simp[-List.length_flatMap,ky,eG,hr]
 ·rw[h]at hr
  have h':=h
  simp only[dG,Bool.and_eq_true,decide_eq_true_eq]at h'
  have hs:=dq h'.1
  obtain⟨n,hn⟩:∃n:Nat,g.aw=n:=⟨g.aw.toNat,by omega⟩
  have w1:IntKind.i64.wrap (1+g.aw)=((1+n:Nat):Int):=by rw[hn,show(1:Int)+n=((1+n:Nat):Int) by omega];exact aq (by omega)
  have KY:=afv l 1 (1+n)
  rw[if_pos (by omega),show 1+n-1=n by omega]at KY
  have hS:br g l=(l.drop 1).take n:=by rw[br,hn];rfl
  have xU:((l.drop 1).take n).length=n:=by simp;omega
  have acO:∀b∈(l.drop 1).take n,b.length=64:=fun b hb=>hl b (List.mem_of_mem_drop (List.mem_of_mem_take hb))
  have Ma:cp (eG g) 1=some (.v (.int .i64 g.aw)):=rfl
  rw[hS]
  have he:eG g=[.v (.int .i64 g.lowers),.v (.int .i64 g.aw),.v (.int .i64 g.blocks),.v (.int .i64 g.log)]:=rfl
  generalize (l.drop 1).take n=S at*
  simp[-List.length_flatMap,-Int.natCast_add,ky,he,hr,w1,asNat,KY]
  refine m_loop S.length (InJ g S) ⟨_,_,_,_,_,_,_,_,_,_,_,_,_,.inl rfl,rfl⟩ ?_
  rintro j σ hj ⟨a0,a1,a2,a3,a4,a7,a8,a9,db,fu,cK,cX,o,ho,rfl⟩
  by_cases hlt:j< S.length
  ·have bh:(j:Int)< S.length:=by omega
   have mS:=JH S j hlt
   have eV:=af (afi S[j] (acO _ (List.getElem_mem hlt)))
   have hst:S.take (j+1)=S.take j++[S[j]]:=by rw[List.take_succ_eq_append_getElem hlt]
   have hSt:(S.take j).length=j:=by simp;omega
   have w4:IntKind.i64.wrap ((j:Int)+1)=((j+1:Nat):Int):=by rw[←Int.natCast_succ];exact aq (by omega)
   have aH:∀a0 a1 a2 a3 a4 a7 a8 a9 db fu cK cX x,InJ g S (j+1) ⟨[],[a0,a1,a2,a3,a4,.sl (.own 344 34) ((cJ (S.take j)).length+1) ((cJ (S.take j)).flatMap eI++eI ((nS S[j]).getD cz)),aD .nil 312 3 eN (cZ (S.take (j+1))),a7,a8,a9,db,fu,sl eS S,.v (.int .i64 S.length),.v (.int .i64 ((j+1:Nat):Int)),cK,cX],[some (eG g),none,some (eI x),none]⟩:=by
    intro a0 a1 a2 a3 a4 a7 a8 a9 db fu cK cX x
    refine⟨a0,a1,a2,a3,a4,a7,a8,a9,db,fu,cK,cX,_,.inr ⟨x,rfl⟩, ?_⟩
    rw[←bk,←MD,←hst]
   rw[hst,qG,hSt]at aH
   have nL:(cJ (S.take j)).length=j:=by simp[cJ];omega
   have JR:=TB (cJ (S.take j))
   have hoC:=yg (cJ (S.take j))
   have hbF:=ph (cZ (S.take j))
   have hbC:=oL (cZ (S.take j))
   have fS:(cZ (S.take j)).length≤j:=by
    have:∀(A:List (List UInt8)),(cZ A.reverse).length≤A.length:=by
     intro A
     induction A with
     |nil=>simp[cZ]
     |cons a A ih=>
      rw[List.reverse_cons,qG,List.length_append,List.length_cons]
      split<;>simp<;>omega
    have:=this (S.take j).reverse
    rwa [List.reverse_reverse,List.length_reverse,hSt]at this
   obtain⟨fq,dN,xW,EU⟩:(j+1)*80≤room∧j+1≤room∧((cZ (S.take j)).length+1)*8≤room∧(cZ (S.take j)).length+1≤room:=by unfold room;omega
   have hz:=Gi
   simp only[List.reduceReplicate]at hz
   have GH:80≤room∧8≤room∧1≤room:=by unfold room;omega
   obtain⟨r80,r8,r1⟩:=GH
   unfold AX at eV
   generalize Sa:(nS S[j]).getD cz=XX at*
   have hnR:=fun s=>Qr s XX
   cases hG:(nS S[j]).isSome
   ·rw[hG]at eV aH
    simp only[Bool.false_eq_true,if_false,bk,eN]at aH
    by_cases hO:cJ (S.take j)=[]
    ·have iY:j=0:=by rw[←nL,hO];rfl
     rw[hO]at aH⊢
     rw[aK]
     by_cases hB:cZ (S.take j)=[]
     ·rw[hB]at aH⊢
      rw[aK]
      rcases ho with rfl|⟨x,rfl⟩<;>simp[-List.length_flatMap,-Int.natCast_add,hlt,bh,mS,eV,hit,r80,r8,r1,w4]
      all_goals exact aH _ _ _ _ _ _ _ _ _ _ _ _ _
     ·exact absurd (by rw[iY];rfl) hB
    ·rw[aA _ _ _ _ hO]
     by_cases hB:cZ (S.take j)=[]
     ·rw[hB]at aH⊢
      rw[aK]
      rcases ho with rfl|⟨x,rfl⟩<;>simp[-List.length_flatMap,-Int.natCast_add,hlt,bh,mS,eV,hit,r8,r1,w4,nL,JR,fq,dN]
      all_goals
       rw[nL]at aH
       exact aH _ _ _ _ _ _ _ _ _ _ _ _ _
     ·rw[aA _ _ _ _ hB]
      rcases ho with rfl|⟨x,rfl⟩<;>simp[-List.length_flatMap,-Int.natCast_add,hlt,bh,mS,eV,hit,w4,nL,JR,fq,dN,xW,EU,hbF]
      all_goals
       rw[nL]at aH
       exact aH _ _ _ _ _ _ _ _ _ _ _ _ _
   ·rw[hG]at eV aH
    simp only[if_true,List.append_nil]at aH
    by_cases hO:cJ (S.take j)=[]
    ·have iY:j=0:=by rw[←nL,hO];rfl
     have hB:cZ (S.take j)=[]:=by rw[iY];rfl
     rw[hO,hB]at aH⊢
     rw[aK,aK]
     rw[aK]at aH
     rcases ho with rfl|⟨x,rfl⟩<;>simp[-List.length_flatMap,-Int.natCast_add,hlt,bh,mS,eV,hit,r80,r1,w4]
     all_goals exact aH _ _ _ _ _ _ _ _ _ _ _ _ _
    ·rw[aA _ _ _ _ hO]
     by_cases hB:cZ (S.take j)=[]
     ·rw[hB]at aH⊢
      rw[aK]
      rw[aK]at aH
      rcases ho with rfl|⟨x,rfl⟩<;>simp[-List.length_flatMap,-Int.natCast_add,hlt,bh,mS,eV,hit,w4,nL,JR,fq,dN]
      all_goals
       rw[nL]at aH
       exact aH _ _ _ _ _ _ _ _ _ _ _ _ _
     ·rw[aA _ _ _ _ hB]
      rw[aA _ _ _ _ hB]at aH
      rcases ho with rfl|⟨x,rfl⟩<;>simp[-List.length_flatMap,-Int.natCast_add,hlt,bh,mS,eV,hit,w4,nL,JR,fq,dN]
      all_goals
       rw[nL]at aH
       exact aH _ _ _ _ _ _ _ _ _ _ _ _ _
  ·have II:j=S.length:=by omega
   subst II
   rw[List.take_length]
   have QH:cJ S≠[]:=by
    intro hh
    have:=congrArg List.length hh
    simp[cJ]at this
    rw[this]at xU
    simp at xU;omega
   rw[aA _ _ _ _ QH,aA _ _ _ _ QH]
   unfold aD
   rcases ho with rfl|⟨x,rfl⟩<;>by_cases hb:cZ S=[]<;>simp[-List.length_flatMap,hb,List.idxOf?]
   all_goals exact⟨rfl,rfl⟩
end Go.Vi.Sz
end
section
set_option maxRecDepth 100000
set_option maxHeartbeats 4000000
namespace Go.Vi.Sz
open Go Go.Vi Go.Vi.Zz
def RnJ(g:bt)(l:List (List UInt8))(S:List (List UInt8))(j:Nat)(σ:St):Prop:=∃a0 a3 a4 a8 a9 db fu a12 o,(o=none∨∃x,o=some (eI x))∧
 σ=⟨[],[a0,sl eS l,.ref 0 0,a3,a4,aD .clip 320 34 eI (cJ (S.take j)),aD .clip 288 3 eN (cZ (S.take j)),.v (.int .i64 ((j+1:Nat):Int)),a8,a9,db,fu,a12],[some (eG g),none,o,none]⟩
theorem VL(g:bt)(l:List (List UInt8))(hl:∀b∈l,b.length=64):Ev E qP [.agg (eG g),sl eS l]
  (if dG g l then .al [aD .clip 0 34 eI (cJ (br g l)),aD .clip 1 3 eN (cZ (br g l))]else .al [.sl .nil 0 [],.sl .nil 0 []]):=by
 refine aB (fn:=nE) rfl (by decide) rfl rfl rfl ?_
 have hr:=af (wz g l)
 cases h:dG g l
 ·rw[h]at hr
  simp[-List.length_flatMap,nE,hr]
 ·rw[h]at hr
  have h':=h
  simp only[dG,Bool.and_eq_true,decide_eq_true_eq]at h'
  have hs:=dq h'.1
  obtain⟨n,hn⟩:∃n:Nat,g.aw=n:=⟨g.aw.toNat,by omega⟩
  have hS:br g l=(l.drop 1).take n:=by rw[br,hn];rfl
  have xU:((l.drop 1).take n).length=n:=by simp;omega
  have acO:∀b∈(l.drop 1).take n,b.length=64:=fun b hb=>hl b (List.mem_of_mem_drop (List.mem_of_mem_take hb))
  have hSi:∀j (hj:j< ((l.drop 1).take n).length),j+1< l.length∧l[j+1]? =some ((l.drop 1).take n)[j]:=by
   intro j hj
   have:j+1< l.length:=by omega
   refine⟨this, ?_⟩
   rw[List.getElem?_eq_getElem this,List.getElem_take,List.getElem_drop]
   simp[Nat.add_comm]
  rw[hS]
  generalize (l.drop 1).take n=S at*
  simp[-List.length_flatMap,nE,hr]
  refine m_loop S.length (RnJ g l S) ⟨_,_,_,_,_,_,_,_,_,.inl rfl,rfl⟩ ?_
  rintro j σ hj ⟨a0,a3,a4,a8,a9,db,fu,a12,o,ho,rfl⟩
  by_cases hlt:j< S.length
  ·have bh:((j+1:Nat):Int)≤g.aw:=by omega
   obtain⟨Cg,Ed⟩:=hSi j hlt
   have mS:=JH l (j+1) Cg
   rw[List.getElem?_eq_getElem Cg,Option.some.injEq]at Ed
   rw[Ed]at mS
   have eV:=af (acD S[j] (acO _ (List.getElem_mem hlt)))
   have hst:S.take (j+1)=S.take j++[S[j]]:=by rw[List.take_succ_eq_append_getElem hlt]
   have hSt:(S.take j).length=j:=by simp;omega
   have w4:IntKind.i64.wrap (((j+1:Nat):Int)+1)=((j+1+1:Nat):Int):=by rw[←Int.natCast_succ];exact aq (by omega)
   have aH:∀a0 a3 a4 a8 a9 db fu a12 x,RnJ g l S (j+1) ⟨[],[a0,sl eS l,.ref 0 0,a3,a4,.sl (.own 320 34) ((cJ (S.take j)).length+1) ((cJ (S.take j)).flatMap eI++eI ((nS S[j]).getD cz)),aD .clip 288 3 eN (cZ (S.take (j+1))),.v (.int .i64 ((j+1+1:Nat):Int)),a8,a9,db,fu,a12],[some (eG g),none,some (eI x),none]⟩:=by
    intro a0 a3 a4 a8 a9 db fu a12 x
    refine⟨a0,a3,a4,a8,a9,db,fu,a12,_,.inr ⟨x,rfl⟩, ?_⟩
    rw[←bk,←MD,←hst]
   rw[hst,qG,hSt]at aH
   have nL:(cJ (S.take j)).length=j:=by simp[cJ];omega
   have JR:=TB (cJ (S.take j))
   have hoC:=yg (cJ (S.take j))
   have hbF:=ph (cZ (S.take j))
   have hbC:=oL (cZ (S.take j))
   have fS:(cZ (S.take j)).length≤j:=by
    have:∀(A:List (List UInt8)),(cZ A.reverse).length≤A.length:=by
     intro A
     induction A with
     |nil=>simp[cZ]
     |cons a A ih=>
      rw[List.reverse_cons,qG,List.length_append,List.length_cons]
      split<;>simp<;>omega
    have:=this (S.take j).reverse
    rwa [List.reverse_reverse,List.length_reverse,hSt]at this
   obtain⟨fq,dN,xW,EU⟩:(j+1)*80≤room∧j+1≤room∧((cZ (S.take j)).length+1)*8≤room∧(cZ (S.take j)).length+1≤room:=by unfold room;omega
   have hz:=Gi
   simp only[List.reduceReplicate]at hz
   have GH:80≤room∧8≤room∧1≤room:=by unfold room;omega
   obtain⟨r80,r8,r1⟩:=GH
   unfold AX at eV
   generalize Sa:(nS S[j]).getD cz=XX at*
   have hnR:=fun s=>Qr s XX
   cases hG:(nS S[j]).isSome
   ·rw[hG]at eV aH
    simp only[Bool.false_eq_true,if_false,bk,eN]at aH
    by_cases hO:cJ (S.take j)=[]
    ·have iY:j=0:=by rw[←nL,hO];rfl
     rw[hO]at aH⊢
     rw[aK]
     by_cases hB:cZ (S.take j)=[]
     ·rw[hB]at aH⊢
      rw[aK]
      rcases ho with rfl|⟨x,rfl⟩<;>simp[-List.length_flatMap,-Int.natCast_add,hlt,bh,Cg,mS,eV,hit,r80,r8,r1,w4]
      all_goals exact aH _ _ _ _ _ _ _ _ _
     ·exact absurd (by rw[iY];rfl) hB
    ·rw[aA _ _ _ _ hO]
     by_cases hB:cZ (S.take j)=[]
     ·rw[hB]at aH⊢
      rw[aK]
      rcases ho with rfl|⟨x,rfl⟩<;>simp[-List.length_flatMap,-Int.natCast_add,hlt,bh,Cg,mS,eV,hit,r8,r1,w4,nL,JR,fq,dN]
      all_goals
       rw[nL]at aH
       exact aH _ _ _ _ _ _ _ _ _
     ·rw[aA _ _ _ _ hB]
      rcases ho with rfl|⟨x,rfl⟩<;>simp[-List.length_flatMap,-Int.natCast_add,hlt,bh,Cg,mS,eV,hit,w4,nL,JR,fq,dN,xW,EU,hbF]
      all_goals
       rw[nL]at aH
       exact aH _ _ _ _ _ _ _ _ _
   ·rw[hG]at eV aH
    simp only[if_true,List.append_nil]at aH
    by_cases hO:cJ (S.take j)=[]
    ·have iY:j=0:=by rw[←nL,hO];rfl
     have hB:cZ (S.take j)=[]:=by rw[iY];rfl
     rw[hO,hB]at aH⊢
     rw[aK,aK]
     rw[aK]at aH
     rcases ho with rfl|⟨x,rfl⟩<;>simp[-List.length_flatMap,-Int.natCast_add,hlt,bh,Cg,mS,eV,hit,r80,r1,w4]
     all_goals exact aH _ _ _ _ _ _ _ _ _
    ·rw[aA _ _ _ _ hO]
     by_cases hB:cZ (S.take j)=[]
     ·rw[hB]at aH⊢
      rw[aK]
      rw[aK]at aH
      rcases ho with rfl|⟨x,rfl⟩<;>simp[-List.length_flatMap,-Int.natCast_add,hlt,bh,Cg,mS,eV,hit,w4,nL,JR,fq,dN]
      all_goals
       rw[nL]at aH
       exact aH _ _ _ _ _ _ _ _ _
     ·rw[aA _ _ _ _ hB]
      rw[aA _ _ _ _ hB]at aH
      rcases ho with rfl|⟨x,rfl⟩<;>simp[-List.length_flatMap,-Int.natCast_add,hlt,bh,Cg,mS,eV,hit,w4,nL,JR,fq,dN]
      all_goals
       rw[nL]at aH
       exact aH _ _ _ _ _ _ _ _ _
  ·have II:j=S.length:=by omega
   subst II
   have bh:¬((S.length+1:Nat):Int)≤g.aw:=by omega
   rw[List.take_length]
   have QH:cJ S≠[]:=by
    intro hh
    have:=congrArg List.length hh
    simp[cJ]at this
    rw[this]at xU
    simp at xU;omega
   rw[aA _ _ _ _ QH,aA _ _ _ _ QH]
   unfold aD
   rcases ho with rfl|⟨x,rfl⟩<;>by_cases hb:cZ S=[]<;>simp[-List.length_flatMap,-Int.natCast_add,bh,hb,List.idxOf?]
   all_goals exact⟨rfl,rfl⟩
end Go.Vi.Sz
end
section
set_option maxRecDepth 100000
set_option maxHeartbeats 4000000
namespace Go.Vi.Sz
open Go Go.Vi Go.Vi.Zz
theorem JS(x:aO)(k:Nat)(hk:k< 5):Ev E mE [.agg (eI x),.v (.int .i64 k)] (.v (.int .i64 ((iS x).getD k 0))):=by
 refine aB (fn:=pD) rfl (by decide) rfl rfl rfl ?_
 have hc:k=0∨k=1∨k=2∨k=3∨k=4:=by omega
 rcases hc with rfl|rfl|rfl|rfl|rfl<;>simp[pD,eI,iS]
theorem yy:∀(l:List aO) (i k:Nat) (h:i< l.length),k< 5→(bz l).getD (5*i+k) 0=(iS l[i]).getD k 0
 | [],i,k,h,_=>by simp at h
 |x::l,0,k,_,hk=>by
  rw[bz,List.flatMap_cons,List.getD_eq_getElem?_getD,List.getD_eq_getElem?_getD,List.getElem?_append_left (by simp[iS];omega)]
  simp
 |x::l,i+1,k,h,hk=>by
  have:=yy l i k (by simpa using h) hk
  rw[bz,List.flatMap_cons,List.getD_eq_getElem?_getD,List.getElem?_append_right (by simp[iS];omega),←bz]
  rw[List.getD_eq_getElem?_getD]at this
  rw[show 5*(i+1)+k-(iS x).length=5*i+k by simp[iS];omega,this]
  simp
def VaO(l:List aO)(blocks p:Int)(I K:Nat)(i:Nat)(σ:St):Prop:=((bz l).take (min (5*i) (5*I+K))).contains p=false∧∃a b c d e f g h,σ=⟨[],[.sl .any l.length (l.flatMap eI),h,.v (.int .i64 ((I+1:Nat):Int)),.v (.int .i64 (K:Int)),g,.v (.int .i64 p),.v (.int .i64 i),a,b,c,d,e,f],[]⟩
def VaI(l:List aO)(blocks p:Int)(I K:Nat)(i j:Nat)(σ:St):Prop:=((bz l).take (min (5*i+j) (5*I+K))).contains p=false∧∃b c d e f g h,σ=⟨[],[.sl .any l.length (l.flatMap eI),h,.v (.int .i64 ((I+1:Nat):Int)),.v (.int .i64 (K:Int)),g,.v (.int .i64 p),.v (.int .i64 i),.v (.int .i64 j),b,c,d,e,f],[]⟩
theorem ME(l:List aO)(hn:l.length≤100000)(blocks ino k:Int):Ev E sP [.sl .any l.length (l.flatMap eI),.v (.int .i64 blocks),.v (.int .i64 ino),.v (.int .i64 k)] (.v (.bool (dw (bz l) blocks ino k))):=by
 refine aB (fn:=gl) rfl (by decide) rfl rfl rfl ?_
 unfold dw
 by_cases c1:ino< 1
 ·have d1:¬1≤ino:=by omega
  simp[-List.length_flatMap,gl,c1,d1]
 have d1:1≤ino:=by omega
 by_cases c2:(l.length:Int)< ino
 ·have d2:¬(numOf ino k< (bz l).length∧0≤k):=by rw[mz];unfold numOf;omega
  have d2':(decide (0≤k)&&decide (numOf ino k< (bz l).length))=false:=by
   rw[Bool.eq_false_iff];simp only[ne_eq,Bool.and_eq_true,decide_eq_true_eq];exact fun h=>d2 ⟨h.2,h.1⟩
  have:(decide (1≤ino)&&decide (0≤k)&&decide (k≤4)&&decide (numOf ino k< (bz l).length)&&decide (1≤(bz l).getD (numOf ino k) 0)&&decide ((bz l).getD (numOf ino k) 0≤blocks)&& !((bz l).take (numOf ino k)).contains ((bz l).getD (numOf ino k) 0))=false:=by
   rw[Bool.eq_false_iff]
   intro hh
   simp only[Bool.and_eq_true,decide_eq_true_eq]at hh
   exact d2 ⟨hh.1.1.1.2,hh.1.1.1.1.1.2⟩
  rw[this]
  simp[-List.length_flatMap,gl,c1,c2]
 by_cases c3:k< 0
 ·have d3:¬0≤k:=by omega
  simp[-List.length_flatMap,gl,c1,c2,c3,d3]
 have d3:0≤k:=by omega
 by_cases c4:4< k
 ·have d4:¬k≤4:=by omega
  simp[-List.length_flatMap,gl,c1,c2,c3,c4,d4]
 have d4:k≤4:=by omega
 obtain⟨I,rfl⟩:∃I:Nat,ino=((I+1:Nat):Int):=⟨(ino-1).toNat,by omega⟩
 obtain⟨K,rfl⟩:∃K:Nat,k=(K:Int):=⟨k.toNat,by omega⟩
 have hI:I< l.length:=by omega
 have hK:K< 5:=by omega
 have vO:numOf ((I+1:Nat):Int) K=5*I+K:=by unfold numOf;omega
 have hlt:5*I+K< (bz l).length:=by rw[mz];omega
 have w1:IntKind.i64.wrap (((I+1:Nat):Int)-1)=(I:Int):=by rw[show((I+1:Nat):Int)-1=(I:Int) by omega];exact aq (by omega)
 have ei:∀i,i< l.length→dY 10 (.sl .any l.length (l.flatMap eI)) (.v (.int .i64 (i:Int)))=some (.ptr (l.flatMap eI) (i*10)):=by
  intro i hi
  show(if 0≤(i:Int)∧(i:Int).toNat< l.length then some (T.ptr (l.flatMap eI) ((i:Int).toNat*10))else none)=_
  rw[if_pos (by omega),Int.toNat_natCast]
 have bF:=fun i (hi:i< l.length)=>uW l i hi
 have ct:=fun(x:aO)=>(b7 (by simp):Option.filter T.closed (some (T.agg (eI x)))=some (T.agg (eI x)))
 have VM:=fun i j (hi:i< l.length) (hj:j< 5)=>(yy l i j hi hj)▸af (JS l[i] j hj)
 rw[vO]
 generalize hp:(bz l).getD (5*I+K) 0=p at*
 have hpI:=VM I K hI hK
 rw[hp]at hpI
 by_cases c5:p< 1
 ·have d5:¬1≤p:=by omega
  simp[-List.length_flatMap,-Int.natCast_add,gl,c1,c2,c3,c4,w1,ei I hI,bF I hI,ct,hpI,c5,d5]
 have d5:1≤p:=by omega
 by_cases c6:blocks< p
 ·have d6:¬p≤blocks:=by omega
  simp[-List.length_flatMap,-Int.natCast_add,gl,c1,c2,c3,c4,w1,ei I hI,bF I hI,ct,hpI,c5,d5,c6,d6]
 have d6:p≤blocks:=by omega
 have akV:(decide (1≤((I+1:Nat):Int))&&decide (0≤(K:Int))&&decide ((K:Int)≤4)&&decide (5*I+K< (bz l).length)&&decide (1≤p)&&decide (p≤blocks)&& !((bz l).take (5*I+K)).contains p)= !((bz l).take (5*I+K)).contains p:=by
  simp only[d1,d3,d4,hlt,d5,d6,decide_true,Bool.true_and]
 rw[akV]
 simp[-List.length_flatMap,-Int.natCast_add,gl,c1,c2,c3,c4,w1,ei I hI,bF I hI,ct,hpI,c5,c6]
 refine m_loop (I+1) (VaO l blocks p I K) ⟨by simp,_,_,_,_,_,_,_,_,rfl⟩ ?_
 rintro i σ hi ⟨hno,a,b,c,d,e,f,g,h,rfl⟩
 by_cases NI:i< I+1
 ·have BV:(i:Int)< ((I+1:Nat):Int):=by omega
  have o7:i< l.length:=by omega
  have w2:IntKind.i64.wrap ((i:Int)+1)=((i+1:Nat):Int):=by rw[←Int.natCast_succ];exact aq (by omega)
  simp[-List.length_flatMap,-Int.natCast_add,BV,NI]
  refine m_loop 5 (VaI l blocks p I K i) ⟨hno,_,_,_,_,_,_,_,rfl⟩ ?_
  rintro j σ hj ⟨hno,b,c,d,e,f,g,h,rfl⟩
  by_cases Aq:j< 5
  ·have kE:(j:Int)< 5:=by omega
   have w3:IntKind.i64.wrap ((j:Int)+1)=((j+1:Nat):Int):=by rw[←Int.natCast_succ];exact aq (by omega)
   have DW:=VM i j o7 Aq
   generalize hq:(bz l).getD (5*i+j) 0=q at DW
   have hlen:5*i+j< (bz l).length:=by rw[mz];omega
   have hqg:(bz l)[5*i+j]=q:=by rw[←hq,List.getD_eq_getElem?_getD,List.getElem?_eq_getElem hlen,Option.getD_some]
   have Ob:¬(i< I∨j< K)→((bz l).take (min (5*i+(j+1)) (5*I+K))).contains p=false:=by
    intro hb
    rw[Nat.min_eq_right (by omega)]at hno⊢
    exact hno
   have kX:(i< I∨j< K)→((bz l).take (min (5*i+(j+1)) (5*I+K))).contains p=(q==p):=by
    intro hb
    rw[Nat.min_eq_left (by omega)]at hno⊢
    rw[←Nat.add_assoc,List.take_succ_eq_append_getElem hlen,hqg]
    rw[Bool.eq_iff_iff,List.contains_iff_mem,List.mem_append,List.mem_singleton,beq_iff_eq]
    constructor
    ·rintro(h|h)
     ·rw[Bool.eq_false_iff]at hno
      exact absurd (List.contains_iff_mem.2 h) hno
     ·exact h.symm
    ·intro h;exact .inr h.symm
   have pr:(i< I∨j< K)→(q==p)=true→((bz l).take (5*I+K)).contains p=true:=by
    intro hb h
    have h1:=kX hb
    rw[h,Nat.min_eq_left (by omega),List.contains_iff_mem]at h1
    rw[List.contains_iff_mem]
    have e:(bz l).take (5*i+(j+1))=((bz l).take (5*I+K)).take (5*i+(j+1)):=by rw[List.take_take,Nat.min_eq_left (by omega)]
    rw[e]at h1
    exact List.mem_of_mem_take h1
   by_cases ah2:i< I
   ·have KZ:(i:Int)< I:=by omega
    cases JT:q==p
    ·have QI:=(kX (.inl ah2)).trans JT
     simp[-List.length_flatMap,-Int.natCast_add,kE,Aq,w1,w3,KZ,ei i o7,bF i o7,ct,DW,JT,-beq_eq_false_iff_ne]
     exact⟨QI,_,_,_,_,_,_,_,rfl⟩
    ·have hm:=List.contains_iff_mem.1 (pr (.inl ah2) JT)
     simp[-List.length_flatMap,-Int.natCast_add,kE,Aq,w1,KZ,ei i o7,bF i o7,ct,DW,JT,hm,-beq_iff_eq]
   ·have KZ:¬(i:Int)< I:=by omega
    by_cases hjK:j< K
    ·have VN:(j:Int)< K:=by omega
     cases JT:q==p
     ·have QI:=(kX (.inr hjK)).trans JT
      simp[-List.length_flatMap,-Int.natCast_add,kE,Aq,w1,w3,KZ,VN,ei i o7,bF i o7,ct,DW,JT,-beq_eq_false_iff_ne]
      exact⟨QI,_,_,_,_,_,_,_,rfl⟩
     ·have hm:=List.contains_iff_mem.1 (pr (.inr hjK) JT)
      simp[-List.length_flatMap,-Int.natCast_add,kE,Aq,w1,KZ,VN,ei i o7,bF i o7,ct,DW,JT,hm,-beq_iff_eq]
    ·have VN:¬(j:Int)< K:=by omega
     have QI:=Ob (by omega)
     simp[-List.length_flatMap,-Int.natCast_add,kE,Aq,w1,w3,KZ,VN]
     exact⟨QI,_,_,_,_,_,_,_,rfl⟩
  ·have acP:j=5:=by omega
   subst acP
   simp[-List.length_flatMap,-Int.natCast_add,w2]
   exact⟨hno,_,_,_,_,_,_,_,_,rfl⟩
 ·have vq:i=I+1:=by omega
  subst vq
  simp[-List.length_flatMap,-Int.natCast_add]
  rw[Nat.min_eq_right (by omega)]at hno
  simpa using hno
end Go.Vi.Sz
end
section
set_option maxRecDepth 100000
set_option maxHeartbeats 4000000
namespace Go.Vi.Sz
open Go Go.Vi Go.Vi.Zz
def eP(s:Int×Int):List T:=[.v (.int .i64 s.1),.v (.int .i64 s.2)]
@[simp] theorem Ji(s:Int×Int):(eP s).length=2:=rfl
theorem TD(l:List (Int×Int)):(l.flatMap eP).length=l.length*2:=lY Ji l
theorem JU(l:List (Int×Int)):bj (l.flatMap eP)=true:=by
 induction l with
 |nil=>rfl
 |cons c l ih=>simp[eP,ih]
theorem aaH(d)(l:List (Int×Int)):stripL d (l.flatMap eP)=l.flatMap eP:=by
 induction l with
 |nil=>simp
 |cons c l ih=>simp[eP,ih]
def lp(fl:List Int)(blocks:Int)(n:Nat):List (Int×Int):=rL fl blocks (tF (fl.take n))
theorem MF(fl:List Int)(blocks:Int)(n:Nat)(h:n< fl.length):lp fl blocks (n+1)=lp fl blocks n++(if fl.getD n 0=0∨dw fl blocks (dW n).1 (dW n).2=true then []else [dW n]):=by
 have hg:fl.getD n 0=fl[n]:=by rw[List.getD_eq_getElem?_getD,List.getElem?_eq_getElem h,Option.getD_some]
 unfold lp
 rw[List.take_succ_eq_append_getElem h,rm,List.length_take,Nat.min_eq_left (by omega),rL,List.filterMap_append,←rL,hg]
 congr 1
 unfold yn
 by_cases h0:fl[n]=0
 ·rw[if_pos h0,if_pos (.inl h0)];rfl
 ·rw[if_neg h0]
  cases hv:dw fl blocks (dW n).1 (dW n).2
  ·rw[if_neg (by simp[h0])];simp[hv]
  ·rw[if_pos (.inr rfl)];simp[hv]
theorem zw(fl:List Int)(blocks:Int):∀n,n≤fl.length→(lp fl blocks n).length≤n
 |0,_=>by simp[lp,rL,tF]
 |n+1,h=>by
  have:=zw fl blocks n (by omega)
  rw[MF fl blocks n (by omega),List.length_append]
  split<;>simp<;>omega
def BaO(l:List aO)(blocks:Int)(i:Nat)(σ:St):Prop:=∃a b c d e,σ=⟨[],[.sl .any l.length (l.flatMap eI),.v (.int .i64 blocks),a,aD .clip 328 77 eP (lp (bz l) blocks (5*i)),.v (.int .i64 i),b,c,d,e],[]⟩
def BaI(l:List aO)(blocks:Int)(i j:Nat)(σ:St):Prop:=∃a c d e,σ=⟨[],[.sl .any l.length (l.flatMap eI),.v (.int .i64 blocks),a,aD .clip 328 77 eP (lp (bz l) blocks (5*i+j)),.v (.int .i64 i),.v (.int .i64 j),c,d,e],[]⟩
theorem afw(l:List aO)(hn:l.length≤10000)(blocks:Int):Ev E Av [.sl .any l.length (l.flatMap eI),.v (.int .i64 blocks)] (aD .clip 0 77 eP (lp (bz l) blocks (5*l.length))):=by
 refine aB (fn:=vZ) rfl (by decide) rfl rfl rfl ?_
 have ei:∀i,i< l.length→dY 10 (.sl .any l.length (l.flatMap eI)) (.v (.int .i64 (i:Int)))=some (.ptr (l.flatMap eI) (i*10)):=by
  intro i hi
  show(if 0≤(i:Int)∧(i:Int).toNat< l.length then some (T.ptr (l.flatMap eI) ((i:Int).toNat*10))else none)=_
  rw[if_pos (by omega),Int.toNat_natCast]
 have bF:=fun i (hi:i< l.length)=>uW l i hi
 have ct:=fun(x:aO)=>(b7 (by simp):Option.filter T.closed (some (T.agg (eI x)))=some (T.agg (eI x)))
 have VM:=fun i j (hi:i< l.length) (hj:j< 5)=>(yy l i j hi hj)▸af (JS l[i] j hj)
 have rB:=fun a b=>af (ME l (by omega) blocks a b)
 simp[-List.length_flatMap,-Int.natCast_add,vZ]
 refine m_loop l.length (BaO l blocks) ⟨_,_,_,_,_,rfl⟩ ?_
 rintro i σ hi ⟨a,b,c,d,e,rfl⟩
 by_cases o7:i< l.length
 ·have BV:(i:Int)< l.length:=by omega
  have w2:IntKind.i64.wrap ((i:Int)+1)=((i+1:Nat):Int):=by rw[←Int.natCast_succ];exact aq (by omega)
  simp[-List.length_flatMap,-Int.natCast_add,BV,o7]
  refine m_loop 5 (BaI l blocks i) ⟨_,_,_,_,rfl⟩ ?_
  rintro j σ hj ⟨a,c,d,e,rfl⟩
  by_cases Aq:j< 5
  ·have kE:(j:Int)< 5:=by omega
   have w3:IntKind.i64.wrap ((j:Int)+1)=((j+1:Nat):Int):=by rw[←Int.natCast_succ];exact aq (by omega)
   have DW:=VM i j o7 Aq
   have hlen:5*i+j< (bz l).length:=by rw[mz];omega
   have fB:dW (5*i+j)=(((i+1:Nat):Int),(j:Int)):=by
    unfold dW
    rw[show(5*i+j) / 5=i by omega,show(5*i+j)%5=j by omega]
   have JV:=MF (bz l) blocks (5*i+j) hlen
   rw[fB]at JV
   have hv:=rB ((i+1:Nat):Int) (j:Int)
   have hle:=zw (bz l) blocks (5*i+j) (by omega)
   have zb:=TD (lp (bz l) blocks (5*i+j))
   have hB2:=JU (lp (bz l) blocks (5*i+j))
   generalize (bz l).getD (5*i+j) 0=q at*
   have adM:(q=0∨dw (bz l) blocks ((i+1:Nat):Int) (j:Int)=true)→∀a c d e,BaI l blocks i (j+1) ⟨[],[.sl .any l.length (l.flatMap eI),.v (.int .i64 blocks),a,aD .clip 328 77 eP (lp (bz l) blocks (5*i+j)),.v (.int .i64 i),.v (.int .i64 ((j+1:Nat):Int)),c,d,e],[]⟩:=by
    intro h a c d e
    rw[if_pos h,List.append_nil]at JV
    exact⟨a,c,d,e,by rw[←Nat.add_assoc,JV]⟩
   have hgo:¬(q=0∨dw (bz l) blocks ((i+1:Nat):Int) (j:Int)=true)→∀a c d e,BaI l blocks i (j+1) ⟨[],[.sl .any l.length (l.flatMap eI),.v (.int .i64 blocks),a,.sl (.own 328 77) ((lp (bz l) blocks (5*i+j)).length+1) ((lp (bz l) blocks (5*i+j)).flatMap eP++[.v (.int .i64 ((i+1:Nat):Int)),.v (.int .i64 (j:Int))]),.v (.int .i64 i),.v (.int .i64 ((j+1:Nat):Int)),c,d,e],[]⟩:=by
    intro h a c d e
    rw[if_neg h]at JV
    exact⟨a,c,d,e,by rw[←Nat.add_assoc,JV,bk];rfl⟩
   obtain⟨r1,r2,r3,r4⟩:((lp (bz l) blocks (5*i+j)).length+1)*16≤room∧(lp (bz l) blocks (5*i+j)).length+1≤room∧16≤room∧1≤room:=by unfold room;omega
   generalize lp (bz l) blocks (5*i+j)=B at*
   by_cases hq:q=0
   ·have QJ:(q !=0)=false:=by rw[hq];rfl
    have hs:=adM (.inl hq)
    by_cases hB:B=[]
    ·rw[hB]at hs⊢
     rw[aK]at hs⊢
     simp[-List.length_flatMap,-Int.natCast_add,kE,Aq,w3,ei i o7,bF i o7,ct,DW,QJ,hs]
    ·rw[aA _ _ _ _ hB]at hs⊢
     simp[-List.length_flatMap,-Int.natCast_add,kE,Aq,w3,ei i o7,bF i o7,ct,DW,QJ,hs,hit]
   ·have QJ:(q !=0)=true:=by simpa using hq
    cases hV:dw (bz l) blocks ((i+1:Nat):Int) (j:Int)
    ·have hs:=hgo (by rw[hV];simp[hq])
     rw[hV]at hv
     by_cases hB:B=[]
     ·rw[hB]at hs⊢
      rw[aK]
      simp[-List.length_flatMap,-Int.natCast_add,kE,Aq,w2,w3,ei i o7,bF i o7,ct,DW,QJ,hv,r3,r4,hit]
      exact hs _ _ _ _
     ·rw[aA _ _ _ _ hB]
      simp[-List.length_flatMap,-Int.natCast_add,kE,Aq,w2,w3,ei i o7,bF i o7,ct,DW,QJ,hv,r1,r2,hit,zb]
      exact hs _ _ _ _
    ·have hs:=adM (.inr hV)
     rw[hV]at hv
     by_cases hB:B=[]
     ·rw[hB]at hs⊢
      rw[aK]at hs⊢
      simp[-List.length_flatMap,-Int.natCast_add,kE,Aq,w2,w3,ei i o7,bF i o7,ct,DW,QJ,hv,hs]
     ·rw[aA _ _ _ _ hB]at hs⊢
      simp[-List.length_flatMap,-Int.natCast_add,kE,Aq,w2,w3,ei i o7,bF i o7,ct,DW,QJ,hv,hs,hit]
  ·have acP:j=5:=by omega
   subst acP
   simp[-List.length_flatMap,-Int.natCast_add,w2]
   exact⟨_,_,_,_,_,rfl⟩
 ·have vq:i=l.length:=by omega
  subst vq
  unfold aD
  by_cases hB:lp (bz l) blocks (5*l.length)=[]<;>simp[-List.length_flatMap,-Int.natCast_add,hB,List.idxOf?]
end Go.Vi.Sz
end
section
set_option maxRecDepth 100000
set_option maxHeartbeats 4000000
namespace Go.Vi.Sz
open Go Go.Vi Go.Vi.Zz
theorem ah3(fl:List Int)(q:DU)(h:q∈tF fl):∃n,∃hn:n< fl.length,q=((dW n).1,(dW n).2,fl[n]-1):=by
 unfold tF at h
 rw[List.mem_flatMap]at h
 obtain⟨⟨p,n⟩,h1,h2⟩:=h
 have h3:=List.mem_zipIdx h1
 simp only at h3 h2
 obtain⟨_,h4,h5⟩:=h3
 unfold yn at h2
 split at h2
 ·simp at h2
 ·simp only[List.mem_singleton]at h2
  simp only[Nat.sub_zero,Nat.zero_add]at h4 h5
  exact⟨n,h4,by rw[h2,h5]⟩
theorem aaI(fl blocks)(ts:List DU)(q:DU):rL fl blocks (ts++[q])=rL fl blocks ts++(if dw fl blocks q.1 q.2.1=true then []else [(q.1,q.2.1)]):=by
 unfold rL
 rw[List.filterMap_append]
 congr 1
 cases h:dw fl blocks q.1 q.2.1<;>simp[h]
theorem acQ(fl blocks)(ts:List DU):(rL fl blocks ts).length≤ts.length:=by unfold rL;exact List.length_filterMap_le _ _
theorem vP(d)(m:Mp):stripL d (eM m)=eM m:=by
 induction m with
 |nil=>simp[eM]
 |cons e m ih=>
  have:eM (e::m)= .v (.int .i64 e.1):: .agg [.v (.int .i64 e.2.1),.v (.int .i64 e.2.2)]::eM m:=rfl
  rw[this]
  simp[ih]
theorem MG(ρ η)(l:List (Int×Int)):ah ρ η (l.flatMap eP)=l.flatMap eP:=by
 induction l with
 |nil=>simp
 |cons c l ih=>simp[eP,ih]
theorem ahd(l:List aO)(hn:l.length≤10000)(hl:∀x∈l,zp x)(blocks:Int):Ev E rP [.sl .any l.length (l.flatMap eI),.v (.int .i64 blocks)] (aD .nil 0 77 eP (lp (bz l) blocks (5*l.length))):=by
 refine aB (fn:=rW) rfl (by decide) rfl rfl rfl ?_
 have ho:=af (Mg kF rfl rfl rfl rfl l (by omega) hl blocks)
 have hp:=af (Hi kF rfl .any l)
 have aH:lp (bz l) blocks (5*l.length)=rL (bz l) blocks (tF (bz l)):=by unfold lp;rw[List.take_of_length_le (by rw[mz];omega)]
 rw[aH]
 have hy:=Fw kF rfl rfl l (by omega) hl
 rw[aaE]at hy
 have kM:=fun q=>ah3 (bz l) q
 have rB:=fun n h=>Dd blocks (bz l) n h
 have htl:(tF (bz l)).length≤5*l.length:=by
  have:∀(r:List Int),(tF r.reverse).length≤r.length:=by
   intro r
   induction r with
   |nil=>simp[tF]
   |cons p r ih=>
    rw[List.reverse_cons,rm,List.length_append,List.length_cons]
    unfold yn
    split<;>simp<;>omega
  have:=this (bz l).reverse
  rw[List.reverse_reverse,List.length_reverse,mz]at this
  exact this
 generalize tF (bz l)=ts at*
 have By:=fun q t=>aaI (bz l) blocks t q
 have fS:=fun t=>acQ (bz l) blocks t
 generalize gU blocks ts=m at*
 have sH:=fun ρ η=>JQ ρ η m
 have hst:=vP
 change dI E _ _=_ at ho
 change dI E _ _=_ at hp
 change Ev E _ _ _ at hy
 simp[-List.length_flatMap,rW]
 refine Ab _ _ _ ?_
 rw[yd (r:= .aQ 1) (os:=[.undef,.agg (eM m)]) (by simp) (by simpa [-List.length_flatMap,aaF]using ho) (by simp[-List.length_flatMap,dK,St.ay])]
 simp[-List.length_flatMap,dC,eJ,sH,hp,T.aj,eD]
 have himp:∀d,T.import d (.bq (.func cx) [] [.ptr [.sl .any l.length (l.flatMap eI)] 0])= .bq (.func cx) [] [.ptr [.sl .any l.length (l.flatMap eI)] 0]:=fun d=>by simp[T.import,dz]
 simp only[himp]
 refine F0 (f:=cx) (caps:=[.ptr [.sl .any l.length (l.flatMap eI)] 0]) (cs:=[.ptr [.sl .any l.length (l.flatMap eI)] 0]) (ss:=[]) (ys:=(ts.map qN).map T.al)
  (fun j vars bx=>vars=[.sl .any l.length (l.flatMap eI),.v (.int .i64 blocks),.sl .nil 0 [],.ref 0 0,.ref 2 0,.undef,.undef,.undef,.undef,.bq (.func cx) [] [.ptr [.sl .any l.length (l.flatMap eI)] 0],.undef,.undef,.undef]∧
   bx=[some [.aQ 9],none,some [aD .nil 304 77 eP (rL (bz l) blocks (ts.take j))],none,none,none,none,none,none,some (eM m)])
  rfl ?_ ?_ hy ?_ ?_ ?_
 ·simp[-List.length_flatMap,T.refs,dZ]
 ·simp[-List.length_flatMap,T.aj,ah,close]
 ·simp[-List.length_flatMap,T.aj,ah,vQ,ai,List.range,List.range.loop,rL,aD,sH,vP]
 ·rintro j t vars bx Lv ⟨rfl,rfl⟩
  obtain⟨q,hq,rfl⟩:∃q,ts[j]? =some q∧T.al (qN q)=t:=by simpa using Lv
  obtain⟨hj,hqe⟩:=List.getElem?_eq_some_iff.1 hq
  refine⟨_,rfl,rfl, ?_⟩
  have hst:ts.take (j+1)=ts.take j++[q]:=by rw[List.take_succ_eq_append_getElem hj,hqe]
  rw[hst,By]
  obtain⟨n,mS,zY⟩:=kM q (by rw[←hqe];exact List.getElem_mem hj)
  have hv:=rB n mS
  have fS:=fS (ts.take j)
  rw[List.length_take]at fS
  have zb:=TD (rL (bz l) blocks (ts.take j))
  have hB2:=JU (rL (bz l) blocks (ts.take j))
  have hB3:=aaH
  generalize rL (bz l) blocks (ts.take j)=B at*
  obtain⟨r1,r2,r3,r4⟩:(B.length+1)*16≤room∧B.length+1≤room∧16≤room∧1≤room:=by unfold room;omega
  subst zY
  generalize (bz l)[n]-1=b at*
  generalize dW n=s at*
  have DV:=QG m b
  simp only
  have zk:aD .nil 304 77 eP ([]:List (Int×Int))= .sl .nil 0 []:=rfl
  have jO:=bk .nil 304 77 eP B s
  have hne:∀h:B≠[],aD .nil 304 77 eP B= .sl (.own 304 77) B.length (B.flatMap eP):=fun h=>aA _ _ _ _ h
  have Ae:=fun ρ η=>MG ρ η B
  have aro:∀n:Int,(n==n)=true:=fun n=>by simp
  have ah4:∀x:Int×Int,x≠s→(!(x.1==s.1)|| !(x.2==s.2))=true:=by
   intro x hx
   cases h1:x.1==s.1
   ·rfl
   ·cases h2:x.2==s.2
    ·rfl
    ·exact absurd (Prod.ext (beq_iff_eq.1 h1) (beq_iff_eq.1 h2)) hx
  by_cases hB:B=[]
  ·subst hB
   rw[zk]
   cases GU:j1 m b with
   |none=>
    rw[GU]at DV hv
    have Fy:dw (bz l) blocks s.1 s.2=false:=by
     cases hc:dw (bz l) blocks s.1 s.2
     ·rfl
     ·rw[hc]at hv;exact absurd (hv.2 rfl) (by simp)
    rw[if_neg (by rw[Fy];decide),jO]
    simp[-List.length_flatMap,T.aj,ah,cM,dD,qN,sH]
    rw[bE rfl]
    simp[-List.length_flatMap,ae,DV,r3,r4,hit,vP]
    simp[-List.length_flatMap,fv,bD,ai,T.aj,ah,sH,eP]
   |some x=>
    rw[GU]at DV hv
    by_cases hx:x=s
    ·have Fy:=hv.1 (by rw[hx])
     rw[if_pos Fy,List.append_nil]
     subst hx
     rw[zk]
     simp[-List.length_flatMap,T.aj,ah,cM,dD,qN,sH]
     rw[bE rfl]
     simp[-List.length_flatMap,ae,DV,vh]
     simp[-List.length_flatMap,fv,bD,ai,T.aj,ah,sH]
    ·have Fy:dw (bz l) blocks s.1 s.2=false:=by
      cases hc:dw (bz l) blocks s.1 s.2
      ·rfl
      ·rw[hc]at hv;exact absurd (Option.some.inj (hv.2 rfl)) hx
     rw[if_neg (by rw[Fy];decide),jO]
     have hxb:=ah4 x hx
     simp[-List.length_flatMap,T.aj,ah,cM,dD,qN,sH]
     rw[bE rfl]
     simp[-List.length_flatMap,ae,DV,r3,r4,hit,vP,vh,hxb]
     simp[-List.length_flatMap,fv,bD,ai,T.aj,ah,sH,eP]
  ·rw[hne hB]
   cases GU:j1 m b with
   |none=>
    rw[GU]at DV hv
    have Fy:dw (bz l) blocks s.1 s.2=false:=by
     cases hc:dw (bz l) blocks s.1 s.2
     ·rfl
     ·rw[hc]at hv;exact absurd (hv.2 rfl) (by simp)
    rw[if_neg (by rw[Fy];decide),jO]
    simp[-List.length_flatMap,T.aj,ah,cM,dD,qN,sH]
    rw[bE rfl]
    simp[-List.length_flatMap,ae,DV,r1,r2,hit,vP,zb]
    simp[-List.length_flatMap,fv,bD,ai,T.aj,ah,sH,eP]
   |some x=>
    rw[GU]at DV hv
    by_cases hx:x=s
    ·have Fy:=hv.1 (by rw[hx])
     rw[if_pos Fy,List.append_nil]
     subst hx
     rw[hne hB]
     simp[-List.length_flatMap,T.aj,ah,cM,dD,qN,sH]
     rw[bE rfl]
     simp[-List.length_flatMap,ae,DV,vh]
     simp[-List.length_flatMap,fv,bD,ai,T.aj,ah,sH]
    ·have Fy:dw (bz l) blocks s.1 s.2=false:=by
      cases hc:dw (bz l) blocks s.1 s.2
      ·rfl
      ·rw[hc]at hv;exact absurd (Option.some.inj (hv.2 rfl)) hx
     rw[if_neg (by rw[Fy];decide),jO]
     have hxb:=ah4 x hx
     simp[-List.length_flatMap,T.aj,ah,cM,dD,qN,sH]
     rw[bE rfl]
     simp[-List.length_flatMap,ae,DV,r1,r2,hit,vP,vh,zb,hxb]
     simp[-List.length_flatMap,fv,bD,ai,T.aj,ah,sH,eP]
 ·rintro vars bx ⟨rfl,rfl⟩
  have hlen:((ts.map qN).map T.al).length=ts.length:=by simp
  rw[hlen,List.take_length]
  generalize rL (bz l) blocks ts=B at*
  have Ae:=fun ρ η=>MG ρ η B
  have zk:aD .nil 304 77 eP ([]:List (Int×Int))= .sl .nil 0 []:=rfl
  by_cases hB:B=[]
  ·subst hB
   rw[zk]
   have hb:∀W,pw [] W [some [T.aQ 9],none,some [T.sl .nil 0 []],none,none,none,none,none,none,some (eM m)]=[some [T.aQ 9],none,some [T.sl .nil 0 []],none,none,none,none,none,none,some (eM m)]:=by
    intro W;simp[pw,ai,List.range,List.range.loop]
   rw[hb,ite_self]
   simp[-List.length_flatMap]
   rfl
  ·rw[aA _ _ _ _ hB,aA _ _ _ _ hB]
   have hb:∀W,pw [] W [some [T.aQ 9],none,some [T.sl (.own 304 77) B.length (B.flatMap eP)],none,none,none,none,none,none,some (eM m)]=[some [T.aQ 9],none,some [T.sl (.own 304 77) B.length (B.flatMap eP)],none,none,none,none,none,none,some (eM m)]:=by
    intro W;simp[pw,ai,List.range,List.range.loop]
   rw[hb,ite_self]
   simp[-List.length_flatMap,List.idxOf?]
end Go.Vi.Sz
end
section
set_option maxRecDepth 100000
set_option maxHeartbeats 4000000
namespace Go.Vi.Sz
open Go Go.Vi Go.Vi.Zz
def cQ(g:bt)(l:List (List UInt8))(L:List aO)(ino k:Int):Option (List UInt8):=if dG g l=true∧dw (bz L) g.blocks ino k=true then some (l.getD (g.aw+(bz L).getD (numOf ino k) 0).toNat [])else none
def iM:Option (List UInt8)→T
 |some b=> .al [sl eB b,.v (.bool true)]
 |none=> .al [.sl .nil 0 [],.v (.bool false)]
theorem ye{fl:List Int}{blocks ino k:Int}(h:dw fl blocks ino k=true):1≤ino∧(0≤k∧k≤4)∧numOf ino k< fl.length∧1≤fl.getD (numOf ino k) 0∧fl.getD (numOf ino k) 0≤blocks:=by
 simp only[dw,Bool.and_eq_true,decide_eq_true_eq]at h
 exact⟨h.1.1.1.1.1.1,⟨h.1.1.1.1.1.2,h.1.1.1.1.2⟩,h.1.1.1.2,h.1.1.2,h.1.2⟩
theorem MH(l:List (List UInt8))(n:Nat)(h:n< l.length):dY 1 (sl eS l) (.v (.int .i64 (n:Int)))=some (.ptr (l.flatMap eS) (n*1)):=by
 show(if 0≤(n:Int)∧(n:Int).toNat< l.length then some (T.ptr (l.flatMap eS) ((n:Int).toNat*1))else none)=_
 rw[if_pos (by omega),Int.toNat_natCast]
theorem qO(L:List aO)(n:Nat)(h:n< L.length):dY 10 (.sl .any L.length (L.flatMap eI)) (.v (.int .i64 (n:Int)))=some (.ptr (L.flatMap eI) (n*10)):=by
 show(if 0≤(n:Int)∧(n:Int).toNat< L.length then some (T.ptr (L.flatMap eI) ((n:Int).toNat*10))else none)=_
 rw[if_pos (by omega),Int.toNat_natCast]
theorem HG(g:bt)(l:List (List UInt8))(L:List aO)(hn:L.length≤10000)(hL:∀x∈L,zp x)(ino k:Int):
  Ev E ab [.agg (iR g (sl eS l) (.sl .any L.length (L.flatMap eI))),.v (.int .i64 ino),.v (.int .i64 k)] (iM (cQ g l L ino k)):=by
 refine aB (fn:=aM) rfl (by decide) rfl rfl rfl ?_
 have hr:=af (pK g l (.sl .any L.length (L.flatMap eI)) _ _ rfl)
 have hv:=af (acN L (by omega) hL g.blocks ino k)
 unfold cQ
 simp only[iR]at hr
 cases h:dG g l
 ·rw[h]at hr
  rw[if_neg (by simp)]
  simp[-List.length_flatMap,aM,iR,hr,iM]
 ·rw[h]at hr
  cases h2:dw (bz L) g.blocks ino k
  ·rw[h2]at hv
   rw[if_neg (by simp)]
   simp[-List.length_flatMap,aM,iR,hr,hv,iM]
  ·rw[h2]at hv
   rw[if_pos ⟨rfl,rfl⟩]
   obtain⟨v1,⟨v2,v3⟩,v4,v5,v6⟩:=ye h2
   have h':=h
   simp only[dG,Bool.and_eq_true,decide_eq_true_eq]at h'
   have hs:=dq h'.1
   obtain⟨I,rfl⟩:∃I:Nat,ino=((I+1:Nat):Int):=⟨(ino-1).toNat,by omega⟩
   obtain⟨K,rfl⟩:∃K:Nat,k=(K:Int):=⟨k.toNat,by omega⟩
   have hK:K< 5:=by omega
   have vO:numOf ((I+1:Nat):Int) K=5*I+K:=by unfold numOf;omega
   rw[vO,mz]at v4
   have hI:I< L.length:=by omega
   have hg:=yy L I K hI hK
   rw[vO,hg]at v5 v6⊢
   have w1:IntKind.i64.wrap (((I+1:Nat):Int)-1)=(I:Int):=by rw[show((I+1:Nat):Int)-1=(I:Int) by omega];exact aq (by omega)
   have ei:=qO L I hI
   have bF:=uW L I hI
   have ct:Option.filter T.closed (some (T.agg (eI L[I])))=some (T.agg (eI L[I])):=b7 (by simp)
   obtain⟨p,hp⟩:∃p:Nat,(iS L[I]).getD K 0=(p:Int):=⟨((iS L[I]).getD K 0).toNat,by omega⟩
   obtain⟨N,hN⟩:∃N:Nat,g.aw=N:=⟨g.aw.toNat,by omega⟩
   rw[hp]at v5 v6⊢
   have A3:N+p< l.length:=by omega
   have w2:IntKind.i64.wrap (g.aw+(p:Int))=((N+p:Nat):Int):=by rw[hN,←Int.natCast_add];exact aq (by omega)
   have w2':(g.aw+(p:Int)).toNat=N+p:=by omega
   have H3:=MH l (N+p) A3
   have Ow:l.getD (N+p) []=l[N+p]:=by rw[List.getD_eq_getElem?_getD,List.getElem?_eq_getElem A3,Option.getD_some]
   have zY:=JH l (N+p) A3
   rw[w2',Ow]
   have bV:=af (Hh kF rfl L[I].p0 L[I].p1 L[I].p2 L[I].p3)
   change dI E _ _=_ at bV
   have hx:eI L[I]=[.v (.int .i64 L[I].kind),.v (.int .i64 L[I].impure),.v (.int .i64 L[I].nlink),.v (.int .i64 L[I].gen),.v (.int .i64 L[I].size),.v (.int .i64 L[I].p0),.v (.int .i64 L[I].p1),.v (.int .i64 L[I].p2),.v (.int .i64 L[I].p3),.v (.int .i64 L[I].attr)]:=rfl
   have acI:cp [.v (.int .i64 L[I].p0),.v (.int .i64 L[I].p1),.v (.int .i64 L[I].p2),.v (.int .i64 L[I].p3),.v (.int .i64 L[I].attr)] K=some (.v (.int .i64 (p:Int))):=by
    have hc:K=0∨K=1∨K=2∨K=3∨K=4:=by omega
    rcases hc with rfl|rfl|rfl|rfl|rfl<;>rw[←hp]<;>rfl
   have acJ:∀t,dY 1 (.sl t 5 [.v (.int .i64 L[I].p0),.v (.int .i64 L[I].p1),.v (.int .i64 L[I].p2),.v (.int .i64 L[I].p3),.v (.int .i64 L[I].attr)]) (.v (.int .i64 (K:Int)))=some (.ptr [.v (.int .i64 L[I].p0),.v (.int .i64 L[I].p1),.v (.int .i64 L[I].p2),.v (.int .i64 L[I].p3),.v (.int .i64 L[I].attr)] K):=by
    intro t
    show(if 0≤(K:Int)∧(K:Int).toNat< 5 then some (T.ptr _ ((K:Int).toNat*1))else none)=_
    rw[if_pos (by omega),Int.toNat_natCast,Nat.mul_one]
   simp[-List.length_flatMap,-Int.natCast_add,aM,iR,hr,hv,w1,ei,bF,ct]
   rw[hx]
   simp[-List.length_flatMap,-Int.natCast_add,bV,T.fresh,T.fresh2,room,hit,acJ,acI,w2,H3,zY,iM]
   rfl
theorem Fz(g:bt)(l:List (List UInt8))(L:List aO)(hn:L.length≤10000)(ino k:Int):
  Ev E oN [sl eS l,.agg (eG g),.sl .any L.length (L.flatMap eI),.v (.int .i64 ino),.v (.int .i64 k)] (iM (cQ g l L ino k)):=by
 refine aB (fn:=kK) rfl (by decide) rfl rfl rfl ?_
 have hr:=af (wz g l)
 have hv:=af (ME L (by omega) g.blocks ino k)
 unfold cQ
 cases h:dG g l
 ·rw[h]at hr
  rw[if_neg (by simp)]
  simp[-List.length_flatMap,kK,hr,iM]
 ·rw[h]at hr
  cases h2:dw (bz L) g.blocks ino k
  ·rw[h2]at hv
   rw[if_neg (by simp)]
   simp[-List.length_flatMap,kK,hr,hv,iM]
  ·rw[h2]at hv
   rw[if_pos ⟨rfl,rfl⟩]
   obtain⟨v1,⟨v2,v3⟩,v4,v5,v6⟩:=ye h2
   have h':=h
   simp only[dG,Bool.and_eq_true,decide_eq_true_eq]at h'
   have hs:=dq h'.1
   obtain⟨I,rfl⟩:∃I:Nat,ino=((I+1:Nat):Int):=⟨(ino-1).toNat,by omega⟩
   obtain⟨K,rfl⟩:∃K:Nat,k=(K:Int):=⟨k.toNat,by omega⟩
   have hK:K< 5:=by omega
   have vO:numOf ((I+1:Nat):Int) K=5*I+K:=by unfold numOf;omega
   rw[vO,mz]at v4
   have hI:I< L.length:=by omega
   have hg:=yy L I K hI hK
   rw[vO,hg]at v5 v6⊢
   have w1:IntKind.i64.wrap (((I+1:Nat):Int)-1)=(I:Int):=by rw[show((I+1:Nat):Int)-1=(I:Int) by omega];exact aq (by omega)
   have ei:=qO L I hI
   have bF:=uW L I hI
   have ct:Option.filter T.closed (some (T.agg (eI L[I])))=some (T.agg (eI L[I])):=b7 (by simp)
   obtain⟨p,hp⟩:∃p:Nat,(iS L[I]).getD K 0=(p:Int):=⟨((iS L[I]).getD K 0).toNat,by omega⟩
   obtain⟨N,hN⟩:∃N:Nat,g.aw=N:=⟨g.aw.toNat,by omega⟩
   rw[hp]at v5 v6⊢
   have A3:N+p< l.length:=by omega
   have w2:IntKind.i64.wrap (g.aw+(p:Int))=((N+p:Nat):Int):=by rw[hN,←Int.natCast_add];exact aq (by omega)
   have w2':(g.aw+(p:Int)).toNat=N+p:=by omega
   have H3:=MH l (N+p) A3
   have Ow:l.getD (N+p) []=l[N+p]:=by rw[List.getD_eq_getElem?_getD,List.getElem?_eq_getElem A3,Option.getD_some]
   have zY:=JH l (N+p) A3
   rw[w2',Ow]
   have ah5:cp (L.flatMap eI) (I*10+9)=some (.v (.int .i64 L[I].attr)):=by
    rw[ki Ce L I 9 hI (by omega)];rfl
   have hw5:∀k,k< 4→cp (L.flatMap eI) (I*10+5+k)=some (.v (.int .i64 ((iS L[I]).getD k 0))):=fun k hk=>by
    rw[Nat.add_assoc,ki Ce L I (5+k) hI (by omega)]
    have hc:k=0∨k=1∨k=2∨k=3:=by omega
    rcases hc with rfl|rfl|rfl|rfl<;>rfl
   by_cases hK4:K< 4
   ·have hKI:(K:Int)< 4:=by omega
    have h5:=hw5 K hK4
    rw[hp]at h5
    simp[-List.length_flatMap,-Int.natCast_add,kK,hr,hv,w1,ei,ah5,h5,hKI,hK4,w2,H3,zY,iM]
   ·have hKI:¬(K:Int)< 4:=by omega
    have aph:K=4:=by omega
    have h5:=ah5
    rw[show L[I].attr=(p:Int) by rw[←hp,aph];rfl]at h5
    simp[-List.length_flatMap,-Int.natCast_add,kK,hr,hv,w1,ei,h5,hKI,w2,H3,zY,iM]
end Go.Vi.Sz
end
section
set_option maxRecDepth 100000
set_option maxHeartbeats 4000000
namespace Go.Vi.Sz
open Go Go.Vi Go.Vi.Zz
def fy(g:bt)(l:List (List UInt8))(L:List aO)(ino:Int)(k:Nat):List UInt8:=(cQ g l L ino k).getD (List.replicate 64 0)
theorem tV{g l L ino k b}(hl:∀b∈l,b.length=64)(h:cQ g l L ino k=some b):b.length=64:=by
 unfold cQ at h
 split at h
 ·rename_i hc
  simp only[Option.some.injEq]at h
  obtain⟨v1,v2,v4,v5,v6⟩:=ye hc.2
  have h':=hc.1
  simp only[dG,Bool.and_eq_true,decide_eq_true_eq]at h'
  have hs:=dq h'.1
  have A3:(g.aw+(bz L).getD (numOf ino k) 0).toNat< l.length:=by omega
  rw[List.getD_eq_getElem?_getD,List.getElem?_eq_getElem A3,Option.getD_some]at h
  rw[←h]
  exact hl _ (List.getElem_mem A3)
 ·cases h
theorem FA{g l L ino k}(hl:∀b∈l,b.length=64):(fy g l L ino k).length=64:=by
 unfold fy
 cases h:cQ g l L ino k with
 |none=>simp
 |some b=>exact tV hl h
def iT(g:bt)(l:List (List UInt8))(L:List aO)(ino:Int)(j:Nat):List UInt8:=(List.range j).flatMap fun k=>fy g l L ino k
theorem FB(g l L ino j):iT g l L ino (j+1)=iT g l L ino j++fy g l L ino j:=by simp[iT,List.range_succ]
theorem C6{g l L ino}(hl:∀b∈l,b.length=64):∀j,(iT g l L ino j).length=64*j
 |0=>by simp[iT]
 |j+1=>by rw[FB,List.length_append,C6 hl j,FA hl];omega
def sI(n:Int):Nat:=(max (min n 256) 0).toNat
def fw(g:bt)(l:List (List UInt8))(L:List aO)(ino:Int):Option (List UInt8):=if dG g l=true∧1≤ino∧ino≤L.length∧((L.getD (ino-1).toNat cz).kind=2∨(L.getD (ino-1).toNat cz).kind=3)then some ((iT g l L ino 4).take (sI (L.getD (ino-1).toNat cz).size))else none
def dg:Option (List UInt8)→T
 |some b=>sl eB b
 |none=> .sl .nil 0 []
theorem afx(A b:List UInt8)(m:Nat)(hb:b.length=64):setCells ((A++List.replicate (64+m) 0).flatMap eB) A.length (b.flatMap eB)=(A++b++List.replicate m 0).flatMap eB:=by
 unfold setCells
 rw[bK,hb,tZ,Cb,List.take_left,List.drop_append,List.drop_of_length_le (by omega),List.nil_append,List.drop_replicate]
 rw[show 64+m-(A.length+64-A.length)=m by omega]
 simp[List.flatMap_append]
def DaI(C:List T)(g:bt)(l:List (List UInt8))(L:List aO)(ino:Int)(X:List T)(j:Nat)(σ:St):Prop:=∃a0 a3 a6 a7 a8 a9 db a12 cS,
 σ=⟨[],[a0,.v (.int .i64 ino),.ref 0 0,a3,.ref 2 0,.ref 4 0,a6,a7,a8,a9,db,.v (.int .i64 j),a12,cS],[some C,none,some X,none,some ((iT g l L ino j++List.replicate (256-64*j) 0).flatMap eB),none]⟩
theorem FC(n:Int):nD false n [.v (.int .i64 256)]=some (min n 256)∧nD true (min n 256) [.v (.int .i64 0)]=some ((sI n:Nat):Int):=by
 unfold sI
 constructor
 ·show some (if(256:Int)< n then(256:Int)else n)=_
  congr 1;split<;>omega
 ·show some (if(0:Int)>min n 256 then(0:Int)else min n 256)=_
  congr 1;split<;>omega
theorem aeY(g:bt)(l:List (List UInt8))(hl:∀b∈l,b.length=64)(L:List aO)(hn:L.length≤10000)(hL:∀x∈L,zp x)(ino:Int):
  Ev E aP [.agg (iR g (sl eS l) (.sl .any L.length (L.flatMap eI))),.v (.int .i64 ino)] (dg (fw g l L ino)):=by
 refine aB (fn:=bX) rfl (by decide) rfl rfl rfl ?_
 have hr:=af (pK g l (.sl .any L.length (L.flatMap eI)) _ _ rfl)
 have jw:=fun k=>af (HG g l L hn hL ino k)
 unfold fw
 simp only[iR]at hr jw
 cases h:dG g l
 ·rw[h]at hr
  rw[if_neg (by simp)]
  simp[-List.length_flatMap,bX,iR,hr,dg]
 rw[h]at hr
 by_cases c1:ino< 1
 ·rw[if_neg (by omega)]
  simp[-List.length_flatMap,bX,iR,hr,c1,dg]
 by_cases c2:(L.length:Int)< ino
 ·rw[if_neg (by omega)]
  simp[-List.length_flatMap,bX,iR,hr,c1,c2,dg]
 obtain⟨I,rfl⟩:∃I:Nat,ino=((I+1:Nat):Int):=⟨(ino-1).toNat,by omega⟩
 have hI:I< L.length:=by omega
 have w1:IntKind.i64.wrap (((I+1:Nat):Int)-1)=(I:Int):=by rw[show((I+1:Nat):Int)-1=(I:Int) by omega];exact aq (by omega)
 have ei:=qO L I hI
 have bF:=uW L I hI
 have ct:Option.filter T.closed (some (T.agg (eI L[I])))=some (T.agg (eI L[I])):=b7 (by simp)
 have eg:L.getD (((I+1:Nat):Int)-1).toNat cz=L[I]:=by
  rw[show(((I+1:Nat):Int)-1).toNat=I by omega,List.getD_eq_getElem?_getD,List.getElem?_eq_getElem hI,Option.getD_some]
 rw[eg]
 have hx:eI L[I]=[.v (.int .i64 L[I].kind),.v (.int .i64 L[I].impure),.v (.int .i64 L[I].nlink),.v (.int .i64 L[I].gen),.v (.int .i64 L[I].size),.v (.int .i64 L[I].p0),.v (.int .i64 L[I].p1),.v (.int .i64 L[I].p2),.v (.int .i64 L[I].p3),.v (.int .i64 L[I].attr)]:=rfl
 by_cases hk:L[I].kind=2∨L[I].kind=3
 ·rw[if_pos ⟨rfl,by omega,by omega,hk⟩]
  have od:((L[I].kind !=2)&&(L[I].kind !=3))=false:=by
   rcases hk with hk|hk<;>rw[hk]<;>rfl
  have pW:(L[I].kind !=2)=false∨((L[I].kind !=2)=true∧(L[I].kind !=3)=false):=by
   rcases hk with hk|hk
   ·left;rw[hk];rfl
   ·right;rw[hk];exact⟨rfl,rfl⟩
  obtain⟨Z,hZ⟩:∃Z,Z=List.replicate 256 (T.v (.int .u8 0)):=⟨_,rfl⟩
  have hZ0:Z=(iT g l L ((I+1:Nat):Int) 0++List.replicate (256-64*0) 0).flatMap eB:=by rw[show iT g l L ((I+1:Nat):Int) 0=[]from rfl,List.nil_append,Qw,hZ]
  simp only[bX]
  rw[←hZ]
  simp[-List.length_flatMap,-Int.natCast_add,iR,hr,c1,c2,w1,ei,bF,ct]
  rw[hx]
  clear hZ
  have hmm:=FC
  have hsp:=fun k=>(FA hl:(fy g l L ((I+1:Nat):Int) k).length=64)
  have zq:=fun j=>(C6 hl j:(iT g l L ((I+1:Nat):Int) j).length=64*j)
  have hAs:=fun j=>FB g l L ((I+1:Nat):Int) j
  rcases pW with e2|⟨e2,e3⟩
  case' inl=>simp[-List.length_flatMap,-Int.natCast_add,e2]
  case' inr=>simp[-List.length_flatMap,-Int.natCast_add,e2,e3]
  all_goals
   refine m_loop 4 (DaI _ g l L ((I+1:Nat):Int) _) ⟨_,_,_,_,_,_,_,_,_,by rw[←hZ0];rfl⟩ ?_
   rintro j σ hj ⟨a0,a3,a6,a7,a8,a9,db,a12,cS,rfl⟩
   by_cases hlt:j< 4
   ·have kE:(j:Int)< 4:=by omega
    have w4:IntKind.i64.wrap ((j:Int)+1)=((j+1:Nat):Int):=by rw[←Int.natCast_succ];exact aq (by omega)
    have w5:IntKind.i64.wrap (64*(j:Int))=((64*j:Nat):Int):=by rw[show(64:Int)*j=((64*j:Nat):Int) by omega];exact aq (by omega)
    have w6:IntKind.i64.wrap (64*((j+1:Nat):Int))=((64*(j+1):Nat):Int):=by rw[show(64:Int)*((j+1:Nat):Int)=((64*(j+1):Nat):Int) by omega];exact aq (by omega)
    have hb:=jw (j:Int)
    have aF:=bK (iT g l L ((I+1:Nat):Int) j++List.replicate (256-64*j) 0)
    rw[List.length_append,zq,List.length_replicate,show 64*j+(256-64*j)=256 by omega]at aF
    have JW:fy g l L ((I+1:Nat):Int) j=(cQ g l L ((I+1:Nat):Int) (j:Int)).getD (List.replicate 64 0):=rfl
    have rD:=afx (iT g l L ((I+1:Nat):Int) j) (fy g l L ((I+1:Nat):Int) j) (256-64*(j+1)) (hsp j)
    rw[show 64+(256-64*(j+1))=256-64*j by omega,zq,←hAs]at rD
    have fB:=hsp j
    cases hB:cQ g l L ((I+1:Nat):Int) (j:Int)with
    |none=>
     rw[hB]at hb JW
     rw[Option.getD_none]at JW
     simp only[iM]at hb
     have x8:(iT g l L ((I+1:Nat):Int) j++List.replicate (256-64*j) 0)=(iT g l L ((I+1:Nat):Int) (j+1)++List.replicate (256-64*(j+1)) 0):=by
      rw[hAs,JW,List.append_assoc,List.replicate_append_replicate,show 64+(256-64*(j+1))=256-64*j by omega]
     rw[x8]at aF⊢
     simp[-List.length_flatMap,-List.flatMap_append,-Int.natCast_add,kE,hlt,hb,w4,uc]
     exact⟨_,_,_,_,_,_,_,_,_,rfl⟩
    |some b=>
     rw[hB]at hb JW
     rw[Option.getD_some]at JW
     subst JW
     simp only[iM]at hb
     have dh:64*j≤64*(j+1)∧64*(j+1)≤256:=by omega
     have fS:=bK (fy g l L ((I+1:Nat):Int) j)
     have fL:((fy g l L ((I+1:Nat):Int) j).flatMap eB).take 64=(fy g l L ((I+1:Nat):Int) j).flatMap eB:=by rw[List.take_of_length_le (by omega)]
     rw[show sl eB (fy g l L ((I+1:Nat):Int) j)= .sl .any 64 ((fy g l L ((I+1:Nat):Int) j).flatMap eB) by rw[sl,fB]]at hb
     rw[fB]at fS
     simp[-List.length_flatMap,-List.flatMap_append,-Int.natCast_add,-Int.natCast_mul,kE,hlt,hb,w4,w5,w6,asNat,dh,aF,uc]
     rw[bE rfl]
     have iQ:64*(j+1)-64*j=64:=by omega
     have abK:64*j+64≤256:=by omega
     simp[-List.length_flatMap,-List.flatMap_append,-Int.natCast_add,ae,iQ,fS,fL,aF,rD,w4,abK]
     exact⟨_,_,_,_,_,_,_,_,_,rfl⟩
   ·have rz:j=4:=by omega
    subst rz
    have aF:=bK (iT g l L ((I+1:Nat):Int) 4++List.replicate (256-64*4) 0)
    have h0:(iT g l L ((I+1:Nat):Int) 4++List.replicate (256-64*4) (0:UInt8))=iT g l L ((I+1:Nat):Int) 4:=by simp
    rw[h0]at aF⊢
    rw[zq]at aF
    obtain⟨m1,m2⟩:=FC L[I].size
    have bV:sI L[I].size≤256:=by unfold sI;omega
    simp[-List.length_flatMap,-Int.natCast_add]
    rw[bE rfl]
    simp[-List.length_flatMap,-Int.natCast_add,ae,m1]
    rw[bE rfl]
    simp[-List.length_flatMap,-Int.natCast_add,ae,m2,asNat,bV,aF]
    generalize sI L[I].size=N at*
    by_cases hN:N=0
    ·subst hN;simp[dg,sl]
    ·rw[if_neg hN,if_neg hN,tZ,wy]
     have hlen:((iT g l L ((I+1:Nat):Int) 4).take N).length=N:=by rw[List.length_take,zq];omega
     rw[dg,sl,hlen]
     rfl
 ·rw[if_neg (fun hh=>hk hh.2.2.2)]
  have vv:(L[I].kind !=2)=true:=by simp only[bne_iff_ne,ne_eq];omega
  have GD:(L[I].kind !=3)=true:=by simp only[bne_iff_ne,ne_eq];omega
  simp[-List.length_flatMap,-Int.natCast_add,bX,iR,hr,c1,c2,w1,ei,bF,ct]
  rw[hx]
  simp[-List.length_flatMap,-Int.natCast_add,vv,GD,dg]
end Go.Vi.Sz
end
section
set_option maxRecDepth 100000
set_option maxHeartbeats 4000000
namespace Go.Vi.Sz
open Go Go.Vi Go.Vi.Zz
def xq:Option (List UInt8)→T
 |some b=>sl eB b
 |none=> .sl .nil 0 []
def ReO(C:List T)(g:bt)(l:List (List UInt8))(L:List aO)(ino:Int)(X:List T)(j:Nat)(σ:St):Prop:=∃a1 a5 a9 db fu a12 cS de cK cX k,(k=584∨k=608)∧
 σ=⟨[],[sl eS l,a1,.sl .any L.length (L.flatMap eI),.v (.int .i64 ino),.ref 0 0,a5,.ref 2 0,aD .clip k 5 eB (iT g l L ino j),.v (.int .i64 j),a9,db,fu,a12,cS,de,cK,cX],[some C,none,some X,none]⟩
def ReI(C:List T)(g:bt)(l:List (List UInt8))(L:List aO)(ino:Int)(X:List T)(j:Nat)(bo:Option (List UInt8))(i:Nat)(σ:St):Prop:=∃a1 a5 a12 cS de cK cX k,(k=584∨k=608)∧
 σ=⟨[],[sl eS l,a1,.sl .any L.length (L.flatMap eI),.v (.int .i64 ino),.ref 0 0,a5,.ref 2 0,aD .clip k 5 eB (iT g l L ino j++(fy g l L ino j).take i),.v (.int .i64 j),xq bo,.v (.bool bo.isSome),.v (.int .i64 i),a12,cS,de,cK,cX],[some C,none,some X,none]⟩
theorem acR(g:bt)(l:List (List UInt8))(hl:∀b∈l,b.length=64)(L:List aO)(hn:L.length≤10000)(ino:Int):
  Ev E uh [sl eS l,.agg (eG g),.sl .any L.length (L.flatMap eI),.v (.int .i64 ino)] (dg (fw g l L ino)):=by
 refine aB (fn:=j7) rfl (by decide) rfl rfl rfl ?_
 have hr:=af (wz g l)
 have jw:=fun k=>af (Fz g l L hn ino k)
 unfold fw
 cases h:dG g l
 ·rw[h]at hr
  rw[if_neg (by simp)]
  simp[-List.length_flatMap,j7,hr,dg]
 rw[h]at hr
 by_cases c1:ino< 1
 ·rw[if_neg (by omega)]
  simp[-List.length_flatMap,j7,hr,c1,dg]
 by_cases c2:(L.length:Int)< ino
 ·rw[if_neg (by omega)]
  simp[-List.length_flatMap,j7,hr,c1,c2,dg]
 obtain⟨I,rfl⟩:∃I:Nat,ino=((I+1:Nat):Int):=⟨(ino-1).toNat,by omega⟩
 have hI:I< L.length:=by omega
 have w1:IntKind.i64.wrap (((I+1:Nat):Int)-1)=(I:Int):=by rw[show((I+1:Nat):Int)-1=(I:Int) by omega];exact aq (by omega)
 have ei:=qO L I hI
 have bF:=uW L I hI
 have ct:Option.filter T.closed (some (T.agg (eI L[I])))=some (T.agg (eI L[I])):=b7 (by simp)
 have eg:L.getD (((I+1:Nat):Int)-1).toNat cz=L[I]:=by
  rw[show(((I+1:Nat):Int)-1).toNat=I by omega,List.getD_eq_getElem?_getD,List.getElem?_eq_getElem hI,Option.getD_some]
 rw[eg]
 have hx:eI L[I]=[.v (.int .i64 L[I].kind),.v (.int .i64 L[I].impure),.v (.int .i64 L[I].nlink),.v (.int .i64 L[I].gen),.v (.int .i64 L[I].size),.v (.int .i64 L[I].p0),.v (.int .i64 L[I].p1),.v (.int .i64 L[I].p2),.v (.int .i64 L[I].p3),.v (.int .i64 L[I].attr)]:=rfl
 by_cases hk:L[I].kind=2∨L[I].kind=3
 ·rw[if_pos ⟨rfl,by omega,by omega,hk⟩]
  have od:((L[I].kind !=2)&&(L[I].kind !=3))=false:=by
   rcases hk with hk|hk<;>rw[hk]<;>rfl
  have pW:(L[I].kind !=2)=false∨((L[I].kind !=2)=true∧(L[I].kind !=3)=false):=by
   rcases hk with hk|hk
   ·left;rw[hk];rfl
   ·right;rw[hk];exact⟨rfl,rfl⟩
  have hsp:=fun k=>(FA hl:(fy g l L ((I+1:Nat):Int) k).length=64)
  have zq:=fun j=>(C6 hl j:(iT g l L ((I+1:Nat):Int) j).length=64*j)
  have hAs:=fun j=>FB g l L ((I+1:Nat):Int) j
  simp[-List.length_flatMap,-Int.natCast_add,j7,hr,c1,c2,w1,ei,bF,ct]
  rw[hx]
  rcases pW with e2|⟨e2,e3⟩
  case' inl=>simp[-List.length_flatMap,-Int.natCast_add,e2]
  case' inr=>simp[-List.length_flatMap,-Int.natCast_add,e2,e3]
  all_goals
   refine m_loop 4 (ReO _ g l L ((I+1:Nat):Int) _) ⟨_,_,_,_,_,_,_,_,_,_,_,.inl rfl,rfl⟩ ?_
   rintro j σ hj ⟨a1,a5,a9,db,fu,a12,cS,de,cK,cX,k,cr,rfl⟩
   by_cases hlt:j< 4
   ·have kE:(j:Int)< 4:=by omega
    have w4:IntKind.i64.wrap ((j:Int)+1)=((j+1:Nat):Int):=by rw[←Int.natCast_succ];exact aq (by omega)
    have hb:=jw (j:Int)
    have JW:fy g l L ((I+1:Nat):Int) j=(cQ g l L ((I+1:Nat):Int) (j:Int)).getD (List.replicate 64 0):=rfl
    have arp:=hsp j
    have hbT:iM (cQ g l L ((I+1:Nat):Int) (j:Int))= .al [xq (cQ g l L ((I+1:Nat):Int) (j:Int)),.v (.bool (cQ g l L ((I+1:Nat):Int) (j:Int)).isSome)]:=by
     cases cQ g l L ((I+1:Nat):Int) (j:Int)<;>rfl
    rw[hbT]at hb
    have fS:∀b,cQ g l L ((I+1:Nat):Int) (j:Int)=some b→b.length=64:=fun b h=>tV hl h
    have mX:∀d o,(xq o).import d=xq o:=fun d o=>by cases o<;>simp[xq]
    have arq:∀o,(xq o).aU=false:=fun o=>by cases o<;>simp[xq]
    have ars:∀d o,(xq o).strip d=xq o:=fun d o=>by cases o<;>simp[xq]
    have hAj:=zq j
    generalize oc:cQ g l L ((I+1:Nat):Int) (j:Int)=bo at*
    have hrb:64*j+64≤256:=by omega
    have hclose:∀bx n o,close bx (n+1) (xq o)=some (match o with|some b=>sl eB b|none=> .sl .any 0 []):=fun bx n o=>by cases o<;>simp[xq,sl]
    have ah6:∀A,(aD .clip k 5 eB A).strip 106=aD .clip k 5 eB A:=by
     intro A
     unfold aD
     rcases cr with rfl|rfl<;>split<;>simp[hit]
    simp[-List.length_flatMap,-Int.natCast_add,kE,hlt,hb,mX,ah6]
    refine m_loop 64 (ReI _ g l L ((I+1:Nat):Int) _ j bo) ⟨_,_,_,_,_,_,_,k,cr,by rw[List.take_zero,List.append_nil];rfl⟩ ?_
    clear ah6 cr
    rintro i σ hi ⟨a1,a5,a12,cS,de,cK,cX,k,cr,rfl⟩
    by_cases VO:i< 64
    ·have BV:(i:Int)< 64:=by omega
     have w5:IntKind.i64.wrap ((i:Int)+1)=((i+1:Nat):Int):=by rw[←Int.natCast_succ];exact aq (by omega)
     have hib:i< (fy g l L ((I+1:Nat):Int) j).length:=by omega
     have hst:(fy g l L ((I+1:Nat):Int) j).take (i+1)=(fy g l L ((I+1:Nat):Int) j).take i++[(fy g l L ((I+1:Nat):Int) j)[i]]:=by rw[List.take_succ_eq_append_getElem hib]
     have aH:∀a1 a5 a12 cS de cK cX k,(k=584∨k=608)→ReI [T.v (.int .i64 g.lowers),.v (.int .i64 g.aw),.v (.int .i64 g.blocks),.v (.int .i64 g.log)] g l L ((I+1:Nat):Int) (eI L[I]) j bo (i+1) ⟨[],[sl eS l,a1,.sl .any L.length (L.flatMap eI),.v (.int .i64 ((I+1:Nat):Int)),.ref 0 0,a5,.ref 2 0,.sl (.own k 5) ((iT g l L ((I+1:Nat):Int) j++(fy g l L ((I+1:Nat):Int) j).take i).length+1) ((iT g l L ((I+1:Nat):Int) j++(fy g l L ((I+1:Nat):Int) j).take i).flatMap eB++[.v (.int .u8 (fy g l L ((I+1:Nat):Int) j)[i].toNat)]),.v (.int .i64 j),xq bo,.v (.bool bo.isSome),.v (.int .i64 ((i+1:Nat):Int)),a12,cS,de,cK,cX],[some [T.v (.int .i64 g.lowers),.v (.int .i64 g.aw),.v (.int .i64 g.blocks),.v (.int .i64 g.log)],none,some (eI L[I]),none]⟩:=by
      intro a1 a5 a12 cS de cK cX k hk
      refine⟨a1,a5,a12,cS,de,cK,cX,k,hk, ?_⟩
      rw[hst,←List.append_assoc,bk]
      rfl
     have hAB:(iT g l L ((I+1:Nat):Int) j++(fy g l L ((I+1:Nat):Int) j).take i).length=64*j+i:=by rw[List.length_append,zq,List.length_take];omega
     have hF:=bK (iT g l L ((I+1:Nat):Int) j++(fy g l L ((I+1:Nat):Int) j).take i)
     have hC:=lq (iT g l L ((I+1:Nat):Int) j++(fy g l L ((I+1:Nat):Int) j).take i)
     obtain⟨r1,r2⟩:64*j+i+1≤room∧1≤room:=by unfold room;omega
     obtain⟨y,hy⟩:∃y,(fy g l L ((I+1:Nat):Int) j)[i]=y:=⟨_,rfl⟩
     rw[hy]at aH
     rw[hAB]at hF aH
     have hbI:(∃b,bo=some b∧b.length=64∧cp (b.flatMap eB) i=some (.v (.int .u8 y.toNat)))∨(bo=none∧y=0):=by
      cases bo with
      |none=>right;refine⟨rfl, ?_⟩;rw[←hy];simp only[JW,Option.getD_none,List.getElem_replicate]
      |some b=>
       left
       have e:fy g l L ((I+1:Nat):Int) j=b:=by rw[JW,Option.getD_some]
       have fS:=fS b rfl
       refine⟨b,rfl,fS, ?_⟩
       rw[xg b i (by omega)]
       simp only[e]at hy
       rw[hy]
     generalize (iT g l L ((I+1:Nat):Int) j++(fy g l L ((I+1:Nat):Int) j).take i)=A at*
     have art:bo.isSome=bo.isSome:=rfl
     by_cases hE:A=[]
     ·have h0:64*j+i=0:=by rw[←hAB,hE];rfl
      rw[h0]at aH
      rw[hE]at aH⊢
      rw[aK]
      rcases hbI with⟨b,rfl,fS,dm⟩|⟨rfl,rfl⟩
      ·have Im:(i:Int)< b.length:=by omega
       have acS:i< b.length:=by omega
       simp[-List.length_flatMap,-Int.natCast_add,BV,VO,xq,Im,acS,dm,r2,w5,hit]
       exact aH _ _ _ _ _ _ _ _ (.inl rfl)
      ·simp[-List.length_flatMap,-Int.natCast_add,BV,VO,xq,r2,w5,hit]
       exact aH _ _ _ _ _ _ _ _ (.inr rfl)
     ·rw[aA _ _ _ _ hE,hAB]
      rcases hbI with⟨b,rfl,fS,dm⟩|⟨rfl,rfl⟩
      ·have Im:(i:Int)< b.length:=by omega
       have acS:i< b.length:=by omega
       rcases cr with rfl|rfl<;>simp[-List.length_flatMap,-Int.natCast_add,BV,VO,xq,Im,acS,dm,r1,w5,hit,hF]
       all_goals exact aH _ _ _ _ _ _ _ _ (.inl rfl)
      ·rcases cr with rfl|rfl<;>simp[-List.length_flatMap,-Int.natCast_add,BV,VO,xq,r1,w5,hit,hF]
       all_goals exact aH _ _ _ _ _ _ _ _ (.inr rfl)
    ·have hi4:i=64:=by omega
     subst hi4
     have api:(fy g l L ((I+1:Nat):Int) j).take 64=fy g l L ((I+1:Nat):Int) j:=by rw[List.take_of_length_le (by omega)]
     rw[api,←hAs]
     simp[-List.length_flatMap,-Int.natCast_add,w4]
     exact⟨_,_,_,_,_,_,_,_,_,_,k,cr,rfl⟩
   ·have rz:j=4:=by omega
    subst rz
    have aF:=bK (iT g l L ((I+1:Nat):Int) 4)
    rw[zq]at aF
    obtain⟨m1,m2⟩:=FC L[I].size
    have bV:sI L[I].size≤256:=by unfold sI;omega
    have hne:iT g l L ((I+1:Nat):Int) 4≠[]:=by intro hh;have:=zq 4;rw[hh]at this;simp at this
    rw[aA _ _ _ _ hne,zq]
    have hA4:=zq 4
    simp[-List.length_flatMap,-Int.natCast_add]
    rw[bE rfl]
    simp[-List.length_flatMap,-Int.natCast_add,ae,m1]
    rw[bE rfl]
    simp[-List.length_flatMap,-Int.natCast_add,ae,m2,asNat,bV]
    have hlen:((iT g l L ((I+1:Nat):Int) 4).take (sI L[I].size)).length=sI L[I].size:=by rw[List.length_take,hA4];omega
    rw[dg,sl,hlen,tZ]
 ·rw[if_neg (fun hh=>hk hh.2.2.2)]
  have vv:(L[I].kind !=2)=true:=by simp only[bne_iff_ne,ne_eq];omega
  have GD:(L[I].kind !=3)=true:=by simp only[bne_iff_ne,ne_eq];omega
  simp[-List.length_flatMap,-Int.natCast_add,j7,hr,c1,c2,w1,ei,bF,ct]
  rw[hx]
  simp[-List.length_flatMap,-Int.natCast_add,vv,GD,dg]
end Go.Vi.Sz
end
section
set_option maxRecDepth 100000
set_option maxHeartbeats 4000000
namespace Go.Vi.Sz
open Go Go.Vi Go.Vi.Zz
theorem Kn(l:List bQ):(l.flatMap eE).length=l.length*3:=lY Jb l
theorem CT(l:List bQ):bj (l.flatMap eE)=true:=by
 induction l with
 |nil=>rfl
 |cons c l ih=>simp[eE,ih]
theorem E7(d)(l:List bQ):stripL d (l.flatMap eE)=l.flatMap eE:=by
 induction l with
 |nil=>simp
 |cons c l ih=>simp[eE,ih]
theorem X8(l:List bQ)(k:Nat)(hk:k< l.length):one? true 3 (l.flatMap eE) (k*3)=some (.agg (eE l[k])):=tA Jb l k hk
def fE(x e:bQ):Bool:=x.name==e.name
theorem acT(x e:bQ):Ev E dr [.agg (eE x),.ptr (eE e) 0] (.v (.bool (fE x e))):=by
 refine aB (fn:=jV) rfl (by decide) rfl rfl rfl ?_
 unfold fE
 simp[jV,eE,bin_eqs]
def IxI(out:List bQ)(e:bQ)(j:Nat)(σ:St):Prop:=(out.take j).any (fun x=>fE x e)=false∧∃a b c d,σ=⟨[],[.sl .any out.length (out.flatMap eE),.bq (.func dr) [] [.ptr (eE e) 0],a,b,.v (.int .i64 out.length),.v (.int .i64 j),c,d],[]⟩
theorem QK(out:List bQ)(hn:out.length≤10000)(e:bQ):Ev E j3 [.sl .any out.length (out.flatMap eE),.bq (.func dr) [] [.ptr (eE e) 0]] (.v (.bool (out.any fun x=>fE x e))):=by
 obtain⟨i,hi,hix⟩:∃i:Int,decide (0≤i)=(out.any fun x=>fE x e)∧Ev E lJ [.sl .any out.length (out.flatMap eE),.bq (.func dr) [] [.ptr (eE e) 0]] (.v (.int .i64 i)):=by
  refine⟨match out.findIdx? (fun x=>fE x e)with|some n=>(n:Int)|none=> -1, ?_, ?_⟩
  ·cases h:out.findIdx? (fun x=>fE x e)with
   |none=>
    rw[List.findIdx?_eq_none_iff]at h
    have:(out.any fun x=>fE x e)=false:=by rw[List.any_eq_false];intro x hx;rw[h x hx];simp
    rw[this];rfl
   |some n=>
    rw[List.findIdx?_eq_some_iff_getElem]at h
    obtain⟨h1,h2,_⟩:=h
    have:(out.any fun x=>fE x e)=true:=List.any_eq_true.2 ⟨_,List.getElem_mem h1,h2⟩
    rw[this];simp
  ·refine aB (fn:=jj) rfl (by decide) rfl rfl rfl ?_
   simp[-List.length_flatMap,jj]
   refine m_loop out.length (IxI out e) ⟨rfl,_,_,_,_,rfl⟩ ?_
   rintro j σ hj ⟨hno,a,b,c,d,rfl⟩
   by_cases hlt:j< out.length
   ·have bh:(j:Int)< out.length:=by omega
    have w4:IntKind.i64.wrap ((j:Int)+1)=((j+1:Nat):Int):=by rw[←Int.natCast_succ];exact aq (by omega)
    have ei:dY 3 (.sl .any out.length (out.flatMap eE)) (.v (.int .i64 (j:Int)))=some (.ptr (out.flatMap eE) (j*3)):=by
     show(if 0≤(j:Int)∧(j:Int).toNat< out.length then some (T.ptr (out.flatMap eE) ((j:Int).toNat*3))else none)=_
     rw[if_pos (by omega),Int.toNat_natCast]
    have bF:=X8 out j hlt
    have ct:Option.filter T.closed (some (T.agg (eE out[j])))=some (T.agg (eE out[j])):=b7 (by simp[eE])
    have hg:=af (acT out[j] e)
    have hst:out.take (j+1)=out.take j++[out[j]]:=by rw[List.take_succ_eq_append_getElem hlt]
    have fD:eQ (.bq (.func dr) [] [.ptr (eE e) 0])=some (dr,[],[.ptr (eE e) 0]):=rfl
    have kg:∀bx n,(eE out[j]).mapM (close bx (n+1))=some (eE out[j]):=fun bx n=>by simp[eE]
    have w7:∀bx n,(eE e).mapM (close bx (n+1))=some (eE e):=fun bx n=>by simp[eE]
    have hh1:aZ (eE out[j])=false:=by simp[eE]
    have hh2:aZ (eE e)=false:=by simp[eE]
    have hs2:∀d,stripL d (eE e)=eE e:=fun d=>by simp[eE]
    cases hs:fE out[j] e
    ·rw[hs]at hg
     simp[-List.length_flatMap,-Int.natCast_add,hlt,bh,ei,bF,ct,fD,kg,hh1,hg,w4]
     exact⟨by rw[hst,List.any_append,hno];simp[hs],_,_,_,_,rfl⟩
    ·rw[hs]at hg
     have hfi:out.findIdx? (fun x=>fE x e)=some j:=by
      rw[List.findIdx?_eq_some_iff_getElem]
      refine⟨hlt,hs,fun i LL=> ?_⟩
      rw[List.any_eq_false]at hno
      have:=hno out[i] (by rw[List.mem_iff_getElem];exact⟨i,by rw[List.length_take];omega,by rw[List.getElem_take]⟩)
      simpa using this
     rw[hfi]
     simp[-List.length_flatMap,-Int.natCast_add,hlt,bh,ei,bF,ct,fD,kg,hh1,hg]
   ·have zr:j=out.length:=by omega
    subst zr
    rw[List.take_length]at hno
    have hfi:out.findIdx? (fun x=>fE x e)=none:=by
     rw[List.findIdx?_eq_none_iff]
     intro x hx
     rw[List.any_eq_false]at hno
     simpa using hno x hx
    rw[hfi]
    simp[-List.length_flatMap]
 refine aB (fn:=gJ) rfl (by decide) rfl rfl rfl ?_
 have h:=af hix
 have w7:∀bx n,(eE e).mapM (close bx (n+1))=some (eE e):=fun bx n=>by simp[eE]
 have hh2:aZ (eE e)=false:=by simp[eE]
 rw[←hi]
 simp[-List.length_flatMap,gJ,h]
def tj(L:List aO)(special:Int)(e:bQ)(out:List bQ):Bool:=decide (special< e.ino)&&(decide (e.ino≤L.length)&&(!((L.getD (e.ino-1).toNat cz).kind==0)&& !(out.any fun x=>fE x e)))
theorem aeS(g:bt)(s:T)(n:Nat)(cs:List T)(hs:s= .sl .any n cs)(aF:bj cs=true)(L:List aO)(hn:L.length≤10000)(special:Int)(e:bQ)(he:1≤e.ino∧e.ino≤65535)(out:List bQ)(ho:out.length≤10000):
  Ev E ow [.agg (iR g s (.sl .any L.length (L.flatMap eI))),.agg (eE e),.v (.int .i64 special),.sl .any out.length (out.flatMap eE)] (.v (.bool (tj L special e out))):=by
 refine aB (fn:=ed) rfl (by decide) rfl rfl rfl ?_
 subst hs
 have hc:=af (QK out ho e)
 have hee:eE e=[.v (.int .i64 e.slot),.v (.int .i64 e.ino),.v (.string ⟨e.name.toArray⟩)]:=rfl
 rw[hee]at hc
 unfold tj
 by_cases c1:e.ino≤special
 ·have d1:¬special< e.ino:=by omega
  simp[-List.length_flatMap,ed,iR,eE,c1,d1]
 have d1:special< e.ino:=by omega
 by_cases c2:(L.length:Int)< e.ino
 ·have d2:¬e.ino≤L.length:=by omega
  simp[-List.length_flatMap,ed,iR,eE,c1,d1,c2,d2]
 have d2:e.ino≤L.length:=by omega
 obtain⟨I,hI⟩:∃I:Nat,e.ino=((I+1:Nat):Int):=⟨(e.ino-1).toNat,by omega⟩
 have QL:I< L.length:=by omega
 have w1:IntKind.i64.wrap (e.ino-1)=(I:Int):=by rw[show e.ino-1=(I:Int) by omega];exact aq (by omega)
 have eg:L.getD (e.ino-1).toNat cz=L[I]:=by
  rw[show(e.ino-1).toNat=I by omega,List.getD_eq_getElem?_getD,List.getElem?_eq_getElem QL,Option.getD_some]
 rw[eg]
 have ei:=qO L I QL
 have hk:cp (L.flatMap eI) (I*10)=some (.v (.int .i64 L[I].kind)):=by
  have:=ki Ce L I 0 QL (by omega)
  rw[Nat.add_zero]at this
  rw[this];rfl
 cases c3:(L[I].kind==0)
 ·cases c4:out.any fun x=>fE x e
  ·rw[c4]at hc
   simp[-List.length_flatMap,-beq_eq_false_iff_ne,ed,iR,eE,c1,d1,c2,d2,w1,ei,hk,c3,hc,T.fresh,T.fresh1,T.fresh2]
  ·rw[c4]at hc
   simp[-List.length_flatMap,-beq_eq_false_iff_ne,ed,iR,eE,c1,d1,c2,d2,w1,ei,hk,c3,hc,T.fresh,T.fresh1,T.fresh2]
 ·simp[-List.length_flatMap,-beq_iff_eq,ed,iR,eE,c1,d1,c2,d2,w1,ei,hk,c3]
def RgI(L:List aO)(out:List bQ)(e:bQ)(C:List T)(j:Nat)(σ:St):Prop:=(out.take j).any (fun x=>fE x e)=false∧∃a0 a1 a2 a5 a7 a8 a9,σ=⟨[],[a0,a1,a2,.sl .any out.length (out.flatMap eE),.ref 0 0,a5,.v (.int .i64 j),a7,a8,a9],[some C,none]⟩
theorem acU(L:List aO)(hn:L.length≤10000)(special:Int)(e:bQ)(he:1≤e.ino∧e.ino≤65535)(out:List bQ)(ho:out.length≤10000):
  Ev E uj [.agg (eE e),.sl .any L.length (L.flatMap eI),.v (.int .i64 special),.sl .any out.length (out.flatMap eE)] (.v (.bool (tj L special e out))):=by
 refine aB (fn:=lO) rfl (by decide) rfl rfl rfl ?_
 unfold tj
 by_cases c1:e.ino≤special
 ·have d1:¬special< e.ino:=by omega
  simp[-List.length_flatMap,lO,eE,c1,d1]
 have d1:special< e.ino:=by omega
 have c0:¬e.ino< 1:=by omega
 by_cases c2:(L.length:Int)< e.ino
 ·have d2:¬e.ino≤L.length:=by omega
  simp[-List.length_flatMap,lO,eE,c0,c1,d1,c2,d2]
 have d2:e.ino≤L.length:=by omega
 obtain⟨I,hI⟩:∃I:Nat,e.ino=((I+1:Nat):Int):=⟨(e.ino-1).toNat,by omega⟩
 have QL:I< L.length:=by omega
 have w1:IntKind.i64.wrap (e.ino-1)=(I:Int):=by rw[show e.ino-1=(I:Int) by omega];exact aq (by omega)
 have eg:L.getD (e.ino-1).toNat cz=L[I]:=by
  rw[show(e.ino-1).toNat=I by omega,List.getD_eq_getElem?_getD,List.getElem?_eq_getElem QL,Option.getD_some]
 rw[eg]
 have ei:=qO L I QL
 have hk:cp (L.flatMap eI) (I*10)=some (.v (.int .i64 L[I].kind)):=by
  have:=ki Ce L I 0 QL (by omega)
  rw[Nat.add_zero]at this
  rw[this];rfl
 cases c3:(L[I].kind==0)
 ·simp[-List.length_flatMap,-beq_eq_false_iff_ne,lO,eE,c0,c1,d1,c2,d2,w1,ei,hk,c3]
  refine m_loop out.length (RgI L out e _) ⟨rfl,_,_,_,_,_,_,_,rfl⟩ ?_
  rintro j σ hj ⟨hno,a0,a1,a2,a5,a7,a8,a9,rfl⟩
  by_cases hlt:j< out.length
  ·have bh:(j:Int)< out.length:=by omega
   have w4:IntKind.i64.wrap ((j:Int)+1)=((j+1:Nat):Int):=by rw[←Int.natCast_succ];exact aq (by omega)
   have H3:dY 3 (.sl .any out.length (out.flatMap eE)) (.v (.int .i64 (j:Int)))=some (.ptr (out.flatMap eE) (j*3)):=by
    show(if 0≤(j:Int)∧(j:Int).toNat< out.length then some (T.ptr (out.flatMap eE) ((j:Int).toNat*3))else none)=_
    rw[if_pos (by omega),Int.toNat_natCast]
   have hnm:cp (out.flatMap eE) (j*3+2)=some (.v (.string ⟨out[j].name.toArray⟩)):=by
    rw[ki Jb out j 2 hlt (by omega)];rfl
   have hst:out.take (j+1)=out.take j++[out[j]]:=by rw[List.take_succ_eq_append_getElem hlt]
   have ah7:fE out[j] e=(out[j].name==e.name):=rfl
   cases hs:fE out[j] e
   ·have fA:(out[j].name==e.name)=false:=by rw[←ah7];exact hs
    simp[-List.length_flatMap,-Int.natCast_add,-beq_eq_false_iff_ne,hlt,bh,H3,hnm,bin_eqs,fA,w4]
    exact⟨by rw[hst,List.any_append,hno];simp[hs],_,_,_,_,_,_,_,rfl⟩
   ·have fA:(out[j].name==e.name)=true:=by rw[←ah7];exact hs
    have apj:(out.any fun x=>fE x e)=true:=List.any_eq_true.2 ⟨_,List.getElem_mem hlt,hs⟩
    simp[-List.length_flatMap,-Int.natCast_add,-beq_iff_eq,hlt,bh,H3,hnm,bin_eqs,fA]
    exact List.any_eq_true.1 apj
  ·have zr:j=out.length:=by omega
   subst zr
   rw[List.take_length]at hno
   simp[-List.length_flatMap]
   simpa using hno
 ·simp[-List.length_flatMap,-beq_iff_eq,lO,eE,c0,c1,d1,c2,d2,w1,ei,hk,c3]
end Go.Vi.Sz
end
section
set_option maxRecDepth 100000
set_option maxHeartbeats 4000000
namespace Go.Vi.Sz
open Go Go.Vi Go.Vi.Zz
theorem VP(l:List UInt8):Ev E jz [sl eB l,.v (.int .i64 16)] (.bq (.func bg) [] [.ptr [sl eB l] 0,.ptr [.v (.int .i64 16)] 0]):=by
 refine aB (fn:=gM) rfl (by decide) rfl rfl rfl ?_
 simp[gM]
def mf(b:List UInt8)(j:Nat):List UInt8:=(b.drop (16*j)).take 16
theorem K0{b:List UInt8}(hl:b.length=64){j:Nat}(hj:j< 4):(mf b j).length=16:=by simp[mf];omega
theorem RB(b:List UInt8)(hl:b.length=64):Ev E (an+bg) [.al [.ptr [sl eB b] 0,.ptr [.v (.int .i64 16)] 0]] (.al ((List.range 4).map fun j=> .al [sG (mf b j)])):=by
 refine⟨1, ?_⟩
 have hp:zx [.al [.ptr [sl eB b] 0,.ptr [.v (.int .i64 16)] 0]]=some (.al ((List.range 4).map fun j=> .al [sG (mf b j)])):=by
  simp only[zx,sl]
  rw[if_pos ⟨by omega,by omega,by omega,bK b,Ql b⟩]
  have h16:Int.toNat 16=16:=rfl
  simp only[h16,hl,Option.some.injEq,T.al.injEq]
  refine List.map_congr_left fun i hi=> ?_
  have hi:i< 4:=List.mem_range.1 hi
  have hc:=K0 hl hi
  rw[sG,hc,show min 16 (64-i*16)=16 by omega,Cb,tZ,mf,Nat.mul_comm]
 simp only[aV,E,kF]
 exact hp
def cR(b:List UInt8)(k n:Nat):List bQ:=(List.range n).flatMap fun j=>((nR (mf b j) ((4*k+j:Nat):Int)).getD none).toList
def nr(b:List UInt8)(k n:Nat):List Int:=(List.range n).flatMap fun j=>if(nR (mf b j) ((4*k+j:Nat):Int)).isSome then []else [((4*k+j:Nat):Int)]
theorem Ac(b k n):cR b k (n+1)=cR b k n++((nR (mf b n) ((4*k+n:Nat):Int)).getD none).toList:=by simp[cR,List.range_succ]
theorem E5(b k n):nr b k (n+1)=nr b k n++(if(nR (mf b n) ((4*k+n:Nat):Int)).isSome then []else [((4*k+n:Nat):Int)]):=by simp[nr,List.range_succ]
theorem HJ(b k):∀n,(cR b k n).length≤n
 |0=>by simp[cR]
 |n+1=>by
  have:=HJ b k n
  rw[Ac,List.length_append]
  cases (nR (mf b n) ((4*k+n:Nat):Int)).getD none<;>simp<;>omega
theorem HI(b k):∀n,(nr b k n).length≤n
 |0=>by simp[nr]
 |n+1=>by
  have:=HI b k n
  rw[E5,List.length_append]
  split<;>simp<;>omega
def ab6(A:List bQ)(B:List Int):T:= .al [aD .nil 0 105 eE A,aD .nil (if A=[]then 0 else 1) 3 eN B]
theorem aaJ(ρ η)(l:List bQ):ah ρ η (l.flatMap eE)=l.flatMap eE:=by
 induction l with
 |nil=>simp
 |cons c l ih=>simp[eE,ih]
theorem fa(ρ η)(l:List Int):ah ρ η (l.flatMap eN)=l.flatMap eN:=by
 induction l with
 |nil=>simp
 |cons c l ih=>simp[eN,ih]
theorem gg(d)(l:List Int):stripL d (l.flatMap eN)=l.flatMap eN:=by
 induction l with
 |nil=>simp
 |cons c l ih=>simp[eN,ih]
theorem ab5(b:List UInt8)(hl:b.length=64)(k:Nat)(hk:k< 4):Ev E oO [sl eB b,.v (.int .i64 k)] (ab6 (cR b k 4) (nr b k 4)):=by
 refine aB (fn:=oV) rfl (by decide) rfl rfl rfl ?_
 have hc:=af (VP b)
 have Ih:=RB b hl
 have BB:¬(k:Int)< 0:=by omega
 have X9:¬(4:Int)≤(k:Int):=by omega
 have w1:IntKind.i64.wrap (4*(k:Int))=((4*k:Nat):Int):=by rw[show(4:Int)*k=((4*k:Nat):Int) by omega];exact aq (by omega)
 have himp:∀d,T.import d (.bq (.func bg) [] [.ptr [sl eB b] 0,.ptr [.v (.int .i64 16)] 0])= .bq (.func bg) [] [.ptr [sl eB b] 0,.ptr [.v (.int .i64 16)] 0]:=fun d=>by simp[T.import,dz,sl]
 simp[-List.length_flatMap,-Int.natCast_add,-Int.natCast_mul,oV,hl,BB,X9,w1,hc]
 simp only[himp]
 refine F0 (f:=bg) (caps:=[.ptr [sl eB b] 0,.ptr [.v (.int .i64 16)] 0]) (cs:=[.ptr [sl eB b] 0,.ptr [.v (.int .i64 16)] 0]) (ss:=[]) (ys:=(List.range 4).map fun j=>T.al [sG (mf b j)])
  (fun j vars bx=>vars=[sl eB b,.v (.int .i64 k),.sl .nil 0 [],.sl .nil 0 [],.ref 0 0,.ref 2 0,.ref 4 0,.undef,.undef,.undef,.undef,.v (.bool false),.bq (.func bg) [] [.ptr [sl eB b] 0,.ptr [.v (.int .i64 16)] 0],.undef,.undef,.undef]∧
   bx=[some [aD .nil 328 105 eE (cR b k j)],none,some [aD .nil 384 3 eN (nr b k j)],none,some [.v (.int .i64 ((4*k+j:Nat):Int))],none,none,none])
  rfl ?_ ?_ Ih ?_ ?_ ?_
 ·simp[T.refs,dZ]
 ·simp[T.aj,ah,sl,close]
 ·simp[-Int.natCast_add,-Int.natCast_mul,T.aj,ah,sl,vQ,ai,List.range,List.range.loop,cR,nr,aD]
 ·rintro j t vars bx Lv ⟨rfl,rfl⟩
  obtain⟨hj,rfl⟩:j< 4∧T.al [sG (mf b j)]=t:=by
   rw[List.getElem?_map]at Lv
   obtain⟨a,h1,h2⟩:=Option.map_eq_some_iff.1 Lv
   obtain⟨h3,h4⟩:=List.getElem?_eq_some_iff.1 h1
   rw[List.length_range]at h3
   rw[List.getElem_range]at h4
   subst h4
   exact⟨h3,h2⟩
  refine⟨_,rfl,rfl, ?_⟩
  have hlen:=K0 hl hj
  have hg:=af (aaA (mf b j) hlen ((4*k+j:Nat):Int))
  have hsC:sl eB (mf b j)= .sl .any 16 ((mf b j).flatMap eB):=by rw[sl,hlen]
  rw[hsC]at hg
  have hC:sG (mf b j)= .sl .clip 16 ((mf b j).flatMap eB):=by rw[sG,hlen]
  rw[hC]
  have w4:IntKind.i64.wrap (((4*k+j:Nat):Int)+1)=((4*k+(j+1):Nat):Int):=by rw[show((4*k+j:Nat):Int)+1=((4*k+(j+1):Nat):Int) by omega];exact aq (by omega)
  have hE:=Ac b k j
  have hB:=E5 b k j
  have hEl:=HJ b k j
  have X7:=HI b k j
  rw[hE,hB]
  generalize nR (mf b j) ((4*k+j:Nat):Int)=o at*
  generalize cR b k j=A at*
  generalize nr b k j=B at*
  generalize ((4*k+j:Nat):Int)=sN at*
  generalize ((4*k+(j+1):Nat):Int)=sN1 at*
  have G3:=Kn A
  have hA2:=CT A
  have hA3:=fun ρ η=>aaJ ρ η A
  have hA4:=fun d=>E7 d A
  have zb:=ph B
  have hB2:=oL B
  have hB3:=fun ρ η=>fa ρ η B
  have hB4:=fun d=>gg d B
  have o8:=Gj
  obtain⟨r1,r2,r3,r4,r5,r6,r7⟩:(A.length+1)*32≤room∧A.length+1≤room∧(B.length+1)*8≤room∧B.length+1≤room∧32≤room∧8≤room∧1≤room:=by unfold room;omega
  have hcB:=fun d ρ=>nk ρ d (mf b j)
  have aq3:∀e:bQ,bj (eE e)=true∧rF (eE e)=true∧∀d,stripL d (eE e)=eE e:=fun e=>⟨by simp[eE],by simp[eE],fun d=>by simp[eE]⟩
  by_cases hA:A=[]
  ·subst hA
   by_cases DB:B=[]
   ·subst DB
    rcases o with _|_|e
    ·simp only[Option.getD_none,Option.toList_none,List.append_nil,Option.isSome_none,Bool.false_eq_true,if_false,bk]
     rw[aK]
     rw[aK]
     simp[-List.length_flatMap,T.aj,ah,cM,dD,hg,gW,o8,hit,r6,r7,w4]
     simp[-List.length_flatMap,fv,bD,ai,T.aj,ah,eN]
    ·simp only[Option.getD_some,Option.toList_none,List.append_nil,Option.isSome_some,if_true]
     rw[aK]
     rw[aK]
     simp[-List.length_flatMap,T.aj,ah,cM,dD,hg,gW,o8,w4]
     simp[-List.length_flatMap,fv,bD,ai,T.aj,ah]
    ·simp only[Option.getD_some,Option.toList_some,List.append_nil,Option.isSome_some,if_true,bk]
     rw[aK]
     rw[aK]
     simp[-List.length_flatMap,T.aj,ah,cM,dD,hg,gW,hit,r5,r7,w4,eE]
     simp[-List.length_flatMap,fv,bD,ai,T.aj,ah]
   ·
    rcases o with _|_|e
    ·simp only[Option.getD_none,Option.toList_none,List.append_nil,Option.isSome_none,Bool.false_eq_true,if_false,bk]
     rw[aK]
     rw[aA _ _ _ _ DB]
     simp[-List.length_flatMap,T.aj,ah,cM,dD,hg,gW,o8,hit,r3,r4,w4,zb]
     simp[-List.length_flatMap,fv,bD,ai,T.aj,ah,eN]
    ·simp only[Option.getD_some,Option.toList_none,List.append_nil,Option.isSome_some,if_true]
     rw[aK]
     rw[aA _ _ _ _ DB]
     simp[-List.length_flatMap,T.aj,ah,cM,dD,hg,gW,o8,hit,w4]
     simp[-List.length_flatMap,fv,bD,ai,T.aj,ah]
    ·simp only[Option.getD_some,Option.toList_some,List.append_nil,Option.isSome_some,if_true,bk]
     rw[aK]
     rw[aA _ _ _ _ DB]
     simp[-List.length_flatMap,T.aj,ah,cM,dD,hg,gW,hit,r5,r7,w4,eE]
     simp[-List.length_flatMap,fv,bD,ai,T.aj,ah]
  ·by_cases DB:B=[]
   ·subst DB
    rcases o with _|_|e
    ·simp only[Option.getD_none,Option.toList_none,List.append_nil,Option.isSome_none,Bool.false_eq_true,if_false,bk]
     rw[aA _ _ _ _ hA]
     rw[aK]
     simp[-List.length_flatMap,T.aj,ah,cM,dD,hg,gW,o8,hit,r6,r7,w4]
     simp[-List.length_flatMap,fv,bD,ai,T.aj,ah,eN]
    ·simp only[Option.getD_some,Option.toList_none,List.append_nil,Option.isSome_some,if_true]
     rw[aA _ _ _ _ hA]
     rw[aK]
     simp[-List.length_flatMap,T.aj,ah,cM,dD,hg,gW,o8,hit,w4]
     simp[-List.length_flatMap,fv,bD,ai,T.aj,ah]
    ·simp only[Option.getD_some,Option.toList_some,List.append_nil,Option.isSome_some,if_true,bk]
     rw[aA _ _ _ _ hA]
     rw[aK]
     simp[-List.length_flatMap,T.aj,ah,cM,dD,hg,gW,hit,r1,r2,w4,G3,eE]
     simp[-List.length_flatMap,fv,bD,ai,T.aj,ah]
   ·
    rcases o with _|_|e
    ·simp only[Option.getD_none,Option.toList_none,List.append_nil,Option.isSome_none,Bool.false_eq_true,if_false,bk]
     rw[aA _ _ _ _ hA]
     rw[aA _ _ _ _ DB]
     simp[-List.length_flatMap,T.aj,ah,cM,dD,hg,gW,o8,hit,r3,r4,w4,zb]
     simp[-List.length_flatMap,fv,bD,ai,T.aj,ah,eN]
    ·simp only[Option.getD_some,Option.toList_none,List.append_nil,Option.isSome_some,if_true]
     rw[aA _ _ _ _ hA]
     rw[aA _ _ _ _ DB]
     simp[-List.length_flatMap,T.aj,ah,cM,dD,hg,gW,o8,hit,w4]
     simp[-List.length_flatMap,fv,bD,ai,T.aj,ah]
    ·simp only[Option.getD_some,Option.toList_some,List.append_nil,Option.isSome_some,if_true,bk]
     rw[aA _ _ _ _ hA]
     rw[aA _ _ _ _ DB]
     simp[-List.length_flatMap,T.aj,ah,cM,dD,hg,gW,hit,r1,r2,w4,G3,eE]
     simp[-List.length_flatMap,fv,bD,ai,T.aj,ah]
 ·rintro vars bx ⟨rfl,rfl⟩
  have hlen:((List.range 4).map fun j=>T.al [sG (mf b j)]).length=4:=rfl
  rw[hlen]
  have hb:∀W (x y z:T),pw [] W [some [x],none,some [y],none,some [z],none,none,none]=[some [x],none,some [y],none,some [z],none,none,none]:=by
   intro W x y z;simp[pw,ai,List.range,List.range.loop]
  rw[hb,ite_self]
  generalize cR b k 4=A
  generalize nr b k 4=B
  unfold ab6 aD
  by_cases hA:A=[]<;>by_cases hB:B=[]<;>simp[-List.length_flatMap,hA,hB,List.idxOf?]
  all_goals exact⟨rfl,rfl⟩
end Go.Vi.Sz
end
section
set_option maxRecDepth 100000
set_option maxHeartbeats 8000000
namespace Go.Vi.Sz
open Go Go.Vi Go.Vi.Zz
@[simp] theorem amC(e:bQ):bj (eE e)=true:=by simp[eE]
@[simp] theorem apk(d:Nat)(e:bQ):stripL d (eE e)=eE e:=by simp[eE]
@[simp] theorem apl(bx k)(e:bQ):(eE e).mapM (close bx (k+1))=some (eE e):=by simp[eE]
@[simp] theorem apm(s)(e:bQ):aR s (eE e)=true:=by simp[eE]
@[simp] theorem amD(e:bQ):aZ (eE e)=false:=by simp[eE]
@[simp] theorem aqC(e:bQ):rF (eE e)=true:=by simp[eE]
@[simp] theorem aqD(e:bQ):one? true 3 (eE e) 0=some (.agg (eE e)):=rfl
@[simp] theorem aqe(e:bQ):jx (eE e)=eE e:=by simp[eE]
@[simp] theorem amE(d)(e:bQ):dz d (eE e)=eE e:=by simp[eE]
theorem jv(s)(l:List Int):aR s (l.flatMap eN)=true:=by
 induction l with
 |nil=>simp
 |cons x l ih=>simp[eN,ih]
theorem E8(z k s)(l:List bQ):(aD z k 105 eE l).ay s=true:=by
 unfold aD;split<;>simp[-List.length_flatMap]
theorem tY(z k s)(l:List Int):(aD z k 3 eN l).ay s=true:=by
 unfold aD;split<;>simp[-List.length_flatMap]
abbrev EW:=List bQ×List Int
def mZ(L:List aO)(special:Int)(slot:Nat)(o:Option (Option bQ))(st:EW):EW:=match o with
 |none=>(st.1,st.2++[(slot:Int)])
 |some none=>st
 |some (some e)=>if tj L special e st.1=true then(st.1++[e],st.2)else(st.1,st.2++[(slot:Int)])
def JX(g:bt)(l:List (List UInt8))(L:List aO)(ino:Int)(n:Nat):Option (Option (Option bQ)):=(cQ g l L ino ((n / 4:Nat):Int)).map fun b=>nR (mf b (n%4)) (n:Int)
def aG(g:bt)(l:List (List UInt8))(L:List aO)(ino special:Int):Nat→EW
 |0=>([],[])
 |n+1=>match JX g l L ino n with
  |none=>aG g l L ino special n
  |some o=>mZ L special n o (aG g l L ino special n)
theorem HF{b:List UInt8}{s:Int}{e:bQ}(h:nR b s=some (some e)):tB e=true∧e.slot=s:=by
 unfold nR at h
 split at h
 ·cases h
 ·split at h
  ·split at h
   ·rename_i hr
    simp only[Option.some.injEq]at h
    subst h
    exact⟨hr,rfl⟩
   ·cases h
  ·cases h
theorem aaK(L special slot o st):(mZ L special slot o st).1.length≤st.1.length+1∧(mZ L special slot o st).2.length≤st.2.length+1:=by
 unfold mZ
 split
 ·simp
 ·simp
 ·split<;>simp
theorem qD(g l L ino special):∀n,(aG g l L ino special n).1.length≤n∧(aG g l L ino special n).2.length≤n
 |0=>by simp[aG]
 |n+1=>by
  have h:=qD g l L ino special n
  unfold aG
  split
  ·omega
  ·rename_i o _
   have:=aaK L special n o (aG g l L ino special n)
   omega
theorem VQ{g l L ino b}(k j:Nat)(hj:j< 4)(h:cQ g l L ino (k:Int)=some b):JX g l L ino (4*k+j)=some (nR (mf b j) ((4*k+j:Nat):Int)):=by
 unfold JX
 rw[show(4*k+j) / 4=k by omega,show(4*k+j)%4=j by omega,h]
 rfl
theorem VR{g l L ino}(k j:Nat)(hj:j< 4)(h:cQ g l L ino (k:Int)=none):JX g l L ino (4*k+j)=none:=by
 unfold JX
 rw[show(4*k+j) / 4=k by omega,h]
 rfl
theorem I8{g l L ino b}(special)(k j:Nat)(hj:j< 4)(h:cQ g l L ino (k:Int)=some b):aG g l L ino special (4*k+(j+1))=mZ L special (4*k+j) (nR (mf b j) ((4*k+j:Nat):Int)) (aG g l L ino special (4*k+j)):=by
 rw[←Nat.add_assoc,aG,VQ k j hj h]
theorem CQ{g l L ino}(special)(k:Nat)(h:cQ g l L ino (k:Int)=none):aG g l L ino special (4*(k+1))=aG g l L ino special (4*k):=by
 have hs:∀j,j< 4→aG g l L ino special (4*k+j+1)=aG g l L ino special (4*k+j):=fun j hj=>by rw[aG,VR k j hj h]
 rw[show 4*(k+1)=4*k+3+1 by omega,hs 3 (by omega),show 4*k+3=4*k+2+1 by omega,hs 2 (by omega),show 4*k+2=4*k+1+1 by omega,hs 1 (by omega),show 4*k+1=4*k+0+1 by omega,hs 0 (by omega)]
 rfl
def Nn(z:Tag)(w:EW):T:= .al [aD z 0 105 eE w.1,aD z (if w.1=[]then 0 else 1) 3 eN w.2]
def EnO(g:bt)(l:List (List UInt8))(L:List aO)(ino special:Int)(C:List T)(k:Nat)(σ:St):Prop:=∃a0 a6 a7 fu a12 cS de cK cX a17 iK iL a20 a21 o,(o=none∨∃e,o=some (eE e))∧
 σ=⟨[],[a0,sl eS l,.sl .any L.length (L.flatMap eI),.v (.int .i64 ino),.v (.int .i64 special),.ref 0 0,a6,a7,aD .clip 592 105 eE (aG g l L ino special (4*k)).1,aD .clip 688 3 eN (aG g l L ino special (4*k)).2,.v (.int .i64 k),fu,a12,cS,de,cK,cX,a17,iK,iL,a20,a21],[some C,none,o,none]⟩
def EnI(g:bt)(l:List (List UInt8))(L:List aO)(ino special:Int)(C:List T)(k:Nat)(b:List UInt8)(j:Nat)(σ:St):Prop:=∃a0 a6 a7 a12 de cK cX a17 iK iL a20 a21 o,(o=none∨∃e,o=some (eE e))∧
 σ=⟨[],[a0,sl eS l,.sl .any L.length (L.flatMap eI),.v (.int .i64 ino),.v (.int .i64 special),.ref 0 0,a6,a7,aD .clip 592 105 eE (aG g l L ino special (4*k+j)).1,aD .clip 688 3 eN (aG g l L ino special (4*k+j)).2,.v (.int .i64 k),sl eB b,a12,.v (.int .i64 j),de,cK,cX,a17,iK,iL,a20,a21],[some C,none,o,none]⟩
theorem RC(g:bt)(l:List (List UInt8))(hl:∀b∈l,b.length=64)(L:List aO)(hn:L.length≤10000)(ino special:Int):
  Ev E ui [.agg (eG g),sl eS l,.sl .any L.length (L.flatMap eI),.v (.int .i64 ino),.v (.int .i64 special)] (Nn .clip (aG g l L ino special 16)):=by
 refine aB (fn:=pC) rfl (by decide) rfl rfl rfl ?_
 have jw:=fun k=>af (Fz g l L hn ino k)
 simp[-List.length_flatMap,pC]
 refine m_loop 4 (EnO g l L ino special _) ⟨_,_,_,_,_,_,_,_,_,_,_,_,_,_,_,.inl rfl,rfl⟩ ?_
 rintro k σ hk ⟨a0,a6,a7,fu,a12,cS,de,cK,cX,a17,iK,iL,a20,a21,o,ho,rfl⟩
 by_cases hlt:k< 4
 ·have hkI:(k:Int)< 4:=by omega
  have w4:IntKind.i64.wrap ((k:Int)+1)=((k+1:Nat):Int):=by rw[←Int.natCast_succ];exact aq (by omega)
  have hb:=jw (k:Int)
  have hs1:∀A:List bQ,(aD .clip 592 105 eE A).strip 66=aD .clip 592 105 eE A:=by intro A;unfold aD;split<;>simp[hit]
  have hs2:∀A:List Int,(aD .clip 688 3 eN A).strip 66=aD .clip 688 3 eN A:=by intro A;unfold aD;split<;>simp[hit]
  cases oc:cQ g l L ino (k:Int)with
  |none=>
   rw[oc]at hb
   simp only[iM]at hb
   have x8:=CQ special k oc
   rw[←x8]
   rcases ho with rfl|⟨e,rfl⟩<;>simp[-List.length_flatMap,-Int.natCast_add,hkI,hlt,hb,hs1,hs2,w4,eE,T.fresh,T.fresh1,T.fresh2]
   ·exact⟨_,_,_,_,_,_,_,_,_,_,_,_,_,_,_,.inl rfl,rfl⟩
   ·exact⟨_,_,_,_,_,_,_,_,_,_,_,_,_,_,_,.inr ⟨e,rfl⟩,rfl⟩
  |some b=>
   rw[oc]at hb
   simp only[iM]at hb
   have fS:=tV hl oc
   have hst:∀(e:bQ) d,stripL d (eE e)=eE e:=fun e d=>by simp[eE]
   have hns:∀(e:bQ) s,aR s (eE e)=true:=fun e s=>by simp[eE]
   have Ob:∀(A:List bQ) (B:List Int) o,(o=none∨∃e,o=some (eE e))→True:=fun _ _ _ _=>trivial
   rcases ho with rfl|⟨e,rfl⟩
   case' inl=>simp[-List.length_flatMap,-Int.natCast_add,hkI,hlt,hb,hs1,hs2,T.fresh,T.fresh1,T.fresh2]
   case' inr=>simp[-List.length_flatMap,-Int.natCast_add,hkI,hlt,hb,hs1,hs2,T.fresh,T.fresh1,T.fresh2,hst]
   case' inl=>refine m_loop 4 (EnI g l L ino special _ k b) ⟨_,_,_,_,_,_,_,_,_,_,_,_,_,.inl rfl,rfl⟩ ?_
   case' inr=>refine m_loop 4 (EnI g l L ino special _ k b) ⟨_,_,_,_,_,_,_,_,_,_,_,_,_,.inr ⟨e,rfl⟩,rfl⟩ ?_
   all_goals
    rintro j σ hj ⟨a0,a6,a7,a12,de,cK,cX,a17,iK,iL,a20,a21,o,ho,rfl⟩
    by_cases rz:j< 4
    ·have kE:(j:Int)< 4:=by omega
     have v1:IntKind.i64.wrap (16*(j:Int))=((16*j:Nat):Int):=by rw[show(16:Int)*j=((16*j:Nat):Int) by omega];exact aq (by omega)
     have v2:IntKind.i64.wrap (((16*j:Nat):Int)+16)=((16*j+16:Nat):Int):=by rw[show((16*j:Nat):Int)+16=((16*j+16:Nat):Int) by omega];exact aq (by omega)
     have v3:IntKind.i64.wrap (4*(k:Int))=((4*k:Nat):Int):=by rw[show(4:Int)*k=((4*k:Nat):Int) by omega];exact aq (by omega)
     have v4:IntKind.i64.wrap (((4*k:Nat):Int)+(j:Int))=((4*k+j:Nat):Int):=by rw[←Int.natCast_add];exact aq (by omega)
     have v5:IntKind.i64.wrap ((j:Int)+1)=((j+1:Nat):Int):=by rw[←Int.natCast_succ];exact aq (by omega)
     have dh:16*j≤16*j+16∧16*j+16≤64:=by omega
     have iQ:16*j+16-16*j=16:=by omega
     have eC:(b.drop (16*j)).take 16=mf b j:=rfl
     have hg:=af (VF (mf b j) (K0 fS rz) ((4*k+j:Nat):Int))
     have hE:=I8 special k j rz oc
     have hEl:=qD g l L ino special (4*k+j)
     have tw:=fun e=>(HF:nR (mf b j) ((4*k+j:Nat):Int)=some (some e)→_)
     generalize nR (mf b j) ((4*k+j:Nat):Int)=o at*
     generalize VA:aG g l L ino special (4*k+j)=st at*
     obtain⟨A,B⟩:=st
     simp only at hEl⊢
     have Am:∀e,o=some (some e)→dI E uj [.agg (eE e),.sl .any L.length (L.flatMap eI),.v (.int .i64 special),.sl .any A.length (A.flatMap eE)]=some (.v (.bool (tj L special e A))):=by
      intro e he
      obtain⟨hei,_⟩:=tw e he
      obtain⟨_,h2,_⟩:=E6 hei
      exact af (acU L hn special e (by omega) A (by omega))
     have G3:=Kn A
     have hA2:=CT A
     have hA4:=fun d=>E7 d A
     have zb:=ph B
     have hB2:=oL B
     have hB4:=fun d=>gg d B
     have o8:=Gj
     obtain⟨r1,r2,r3,r4,r5,r6,r7⟩:(A.length+1)*32≤room∧A.length+1≤room∧(B.length+1)*8≤room∧B.length+1≤room∧32≤room∧8≤room∧1≤room:=by unfold room;omega
     by_cases hA:A=[]
     ·subst hA
      by_cases hB:B=[]
      ·subst hB
       rcases o with _|_|e
       ·have hE:aG g l L ino special (4*k+(j+1))=(([]:List bQ),([]:List Int)++[((4*k+j:Nat):Int)]):=hE
        rw[aK]
        rw[aK]
        rcases ho with rfl|⟨e0,rfl⟩<;>simp[-List.length_flatMap,-Int.natCast_add,-Int.natCast_mul,kE,rz,fS,v1,v2,v3,v4,v5,asNat,dh,iQ,eC,hg,gW,o8,hit,r6,r7,hns,T.fresh,T.fresh1,T.fresh2]
        all_goals exact⟨_,_,_,_,_,_,_,_,_,_,_,_,_,.inr ⟨AZ,rfl⟩,by rw[hE];simp only[bk];rfl⟩
       ·have hE:aG g l L ino special (4*k+(j+1))=(([]:List bQ),([]:List Int)):=hE
        rw[aK]
        rw[aK]
        rcases ho with rfl|⟨e0,rfl⟩<;>simp[-List.length_flatMap,-Int.natCast_add,-Int.natCast_mul,kE,rz,fS,v1,v2,v3,v4,v5,asNat,dh,iQ,eC,hg,gW,o8,hns,T.fresh,T.fresh1,T.fresh2]
        all_goals exact⟨_,_,_,_,_,_,_,_,_,_,_,_,_,.inr ⟨AZ,rfl⟩,by rw[hE];simp only[aK];rfl⟩
       ·have eg:=Am e rfl
        cases hG:tj L special e []
        ·have hE:aG g l L ino special (4*k+(j+1))=(([]:List bQ),([]:List Int)++[((4*k+j:Nat):Int)]):=by rw[hE,mZ];simp only;rw[hG,if_neg (by decide)]
         rw[hG]at eg
         simp only[List.length_nil,List.flatMap_nil]at eg
         rw[aK]
         rw[aK]
         rcases ho with rfl|⟨e0,rfl⟩<;>simp[-List.length_flatMap,-Int.natCast_add,-Int.natCast_mul,kE,rz,fS,v1,v2,v3,v4,v5,asNat,dh,iQ,eC,hg,gW,hit,r6,r7,hst,hns,T.fresh,T.fresh1,T.fresh2,eg]
         all_goals exact⟨_,_,_,_,_,_,_,_,_,_,_,_,_,.inr ⟨e,rfl⟩,by rw[hE];simp only[bk];rfl⟩
        ·have hE:aG g l L ino special (4*k+(j+1))=(([]:List bQ)++[e],([]:List Int)):=by rw[hE,mZ];simp only;rw[hG,if_pos rfl]
         rw[hG]at eg
         simp only[List.length_nil,List.flatMap_nil]at eg
         rw[aK]
         rw[aK]
         rcases ho with rfl|⟨e0,rfl⟩<;>simp[-List.length_flatMap,-Int.natCast_add,-Int.natCast_mul,kE,rz,fS,v1,v2,v3,v4,v5,asNat,dh,iQ,eC,hg,gW,hit,r5,r7,hst,hns,T.fresh,T.fresh1,T.fresh2,eg]
         all_goals exact⟨_,_,_,_,_,_,_,_,_,_,_,_,_,.inr ⟨e,rfl⟩,by rw[hE];simp only[bk];rfl⟩
      ·
       rcases o with _|_|e
       ·have hE:aG g l L ino special (4*k+(j+1))=(([]:List bQ),B++[((4*k+j:Nat):Int)]):=hE
        rw[aK]
        rw[aA _ _ _ _ hB]
        rcases ho with rfl|⟨e0,rfl⟩<;>simp[-List.length_flatMap,-Int.natCast_add,-Int.natCast_mul,kE,rz,fS,v1,v2,v3,v4,v5,asNat,dh,iQ,eC,hg,gW,o8,hit,r3,r4,hns,T.fresh,T.fresh1,T.fresh2,zb]
        all_goals exact⟨_,_,_,_,_,_,_,_,_,_,_,_,_,.inr ⟨AZ,rfl⟩,by rw[hE];simp only[bk];rfl⟩
       ·have hE:aG g l L ino special (4*k+(j+1))=(([]:List bQ),B):=hE
        rw[aK]
        rw[aA _ _ _ _ hB]
        rcases ho with rfl|⟨e0,rfl⟩<;>simp[-List.length_flatMap,-Int.natCast_add,-Int.natCast_mul,kE,rz,fS,v1,v2,v3,v4,v5,asNat,dh,iQ,eC,hg,gW,o8,hit,hns,T.fresh,T.fresh1,T.fresh2]
        all_goals exact⟨_,_,_,_,_,_,_,_,_,_,_,_,_,.inr ⟨AZ,rfl⟩,by rw[hE];simp only[aK,aA _ _ _ _ hB];rfl⟩
       ·have eg:=Am e rfl
        cases hG:tj L special e []
        ·have hE:aG g l L ino special (4*k+(j+1))=(([]:List bQ),B++[((4*k+j:Nat):Int)]):=by rw[hE,mZ];simp only;rw[hG,if_neg (by decide)]
         rw[hG]at eg
         simp only[List.length_nil,List.flatMap_nil]at eg
         rw[aK]
         rw[aA _ _ _ _ hB]
         rcases ho with rfl|⟨e0,rfl⟩<;>simp[-List.length_flatMap,-Int.natCast_add,-Int.natCast_mul,kE,rz,fS,v1,v2,v3,v4,v5,asNat,dh,iQ,eC,hg,gW,hit,r3,r4,hst,hns,T.fresh,T.fresh1,T.fresh2,zb,eg]
         all_goals exact⟨_,_,_,_,_,_,_,_,_,_,_,_,_,.inr ⟨e,rfl⟩,by rw[hE];simp only[bk];rfl⟩
        ·have hE:aG g l L ino special (4*k+(j+1))=(([]:List bQ)++[e],B):=by rw[hE,mZ];simp only;rw[hG,if_pos rfl]
         rw[hG]at eg
         simp only[List.length_nil,List.flatMap_nil]at eg
         rw[aK]
         rw[aA _ _ _ _ hB]
         rcases ho with rfl|⟨e0,rfl⟩<;>simp[-List.length_flatMap,-Int.natCast_add,-Int.natCast_mul,kE,rz,fS,v1,v2,v3,v4,v5,asNat,dh,iQ,eC,hg,gW,hit,r5,r7,hst,hns,T.fresh,T.fresh1,T.fresh2,eg]
         all_goals exact⟨_,_,_,_,_,_,_,_,_,_,_,_,_,.inr ⟨e,rfl⟩,by rw[hE];simp only[bk,aA _ _ _ _ hB];rfl⟩
     ·by_cases hB:B=[]
      ·subst hB
       rcases o with _|_|e
       ·have hE:aG g l L ino special (4*k+(j+1))=(A,([]:List Int)++[((4*k+j:Nat):Int)]):=hE
        rw[aA _ _ _ _ hA]
        rw[aK]
        rcases ho with rfl|⟨e0,rfl⟩<;>simp[-List.length_flatMap,-Int.natCast_add,-Int.natCast_mul,kE,rz,fS,v1,v2,v3,v4,v5,asNat,dh,iQ,eC,hg,gW,o8,hit,r6,r7,hns,T.fresh,T.fresh1,T.fresh2]
        all_goals exact⟨_,_,_,_,_,_,_,_,_,_,_,_,_,.inr ⟨AZ,rfl⟩,by rw[hE];simp only[bk,aA _ _ _ _ hA];rfl⟩
       ·have hE:aG g l L ino special (4*k+(j+1))=(A,([]:List Int)):=hE
        rw[aA _ _ _ _ hA]
        rw[aK]
        rcases ho with rfl|⟨e0,rfl⟩<;>simp[-List.length_flatMap,-Int.natCast_add,-Int.natCast_mul,kE,rz,fS,v1,v2,v3,v4,v5,asNat,dh,iQ,eC,hg,gW,o8,hit,hns,T.fresh,T.fresh1,T.fresh2]
        all_goals exact⟨_,_,_,_,_,_,_,_,_,_,_,_,_,.inr ⟨AZ,rfl⟩,by rw[hE];simp only[aK,aA _ _ _ _ hA];rfl⟩
       ·have eg:=Am e rfl
        cases hG:tj L special e A
        ·have hE:aG g l L ino special (4*k+(j+1))=(A,([]:List Int)++[((4*k+j:Nat):Int)]):=by rw[hE,mZ];simp only;rw[hG,if_neg (by decide)]
         rw[hG]at eg
         rw[aA _ _ _ _ hA]
         rw[aK]
         rcases ho with rfl|⟨e0,rfl⟩<;>simp[-List.length_flatMap,-Int.natCast_add,-Int.natCast_mul,kE,rz,fS,v1,v2,v3,v4,v5,asNat,dh,iQ,eC,hg,gW,hit,r6,r7,hst,hns,T.fresh,T.fresh1,T.fresh2,eg]
         all_goals exact⟨_,_,_,_,_,_,_,_,_,_,_,_,_,.inr ⟨e,rfl⟩,by rw[hE];simp only[bk,aA _ _ _ _ hA];rfl⟩
        ·have hE:aG g l L ino special (4*k+(j+1))=(A++[e],([]:List Int)):=by rw[hE,mZ];simp only;rw[hG,if_pos rfl]
         rw[hG]at eg
         rw[aA _ _ _ _ hA]
         rw[aK]
         rcases ho with rfl|⟨e0,rfl⟩<;>simp[-List.length_flatMap,-Int.natCast_add,-Int.natCast_mul,kE,rz,fS,v1,v2,v3,v4,v5,asNat,dh,iQ,eC,hg,gW,hit,r1,r2,hst,hns,T.fresh,T.fresh1,T.fresh2,G3,eg]
         all_goals exact⟨_,_,_,_,_,_,_,_,_,_,_,_,_,.inr ⟨e,rfl⟩,by rw[hE];simp only[bk];rfl⟩
      ·
       rcases o with _|_|e
       ·have hE:aG g l L ino special (4*k+(j+1))=(A,B++[((4*k+j:Nat):Int)]):=hE
        rw[aA _ _ _ _ hA]
        rw[aA _ _ _ _ hB]
        rcases ho with rfl|⟨e0,rfl⟩<;>simp[-List.length_flatMap,-Int.natCast_add,-Int.natCast_mul,kE,rz,fS,v1,v2,v3,v4,v5,asNat,dh,iQ,eC,hg,gW,o8,hit,r3,r4,hns,T.fresh,T.fresh1,T.fresh2,zb]
        all_goals exact⟨_,_,_,_,_,_,_,_,_,_,_,_,_,.inr ⟨AZ,rfl⟩,by rw[hE];simp only[bk,aA _ _ _ _ hA];rfl⟩
       ·have hE:aG g l L ino special (4*k+(j+1))=(A,B):=hE
        rw[aA _ _ _ _ hA]
        rw[aA _ _ _ _ hB]
        rcases ho with rfl|⟨e0,rfl⟩<;>simp[-List.length_flatMap,-Int.natCast_add,-Int.natCast_mul,kE,rz,fS,v1,v2,v3,v4,v5,asNat,dh,iQ,eC,hg,gW,o8,hit,hns,T.fresh,T.fresh1,T.fresh2]
        all_goals exact⟨_,_,_,_,_,_,_,_,_,_,_,_,_,.inr ⟨AZ,rfl⟩,by rw[hE];simp only[aA _ _ _ _ hA,aA _ _ _ _ hB];rfl⟩
       ·have eg:=Am e rfl
        cases hG:tj L special e A
        ·have hE:aG g l L ino special (4*k+(j+1))=(A,B++[((4*k+j:Nat):Int)]):=by rw[hE,mZ];simp only;rw[hG,if_neg (by decide)]
         rw[hG]at eg
         rw[aA _ _ _ _ hA]
         rw[aA _ _ _ _ hB]
         rcases ho with rfl|⟨e0,rfl⟩<;>simp[-List.length_flatMap,-Int.natCast_add,-Int.natCast_mul,kE,rz,fS,v1,v2,v3,v4,v5,asNat,dh,iQ,eC,hg,gW,hit,r3,r4,hst,hns,T.fresh,T.fresh1,T.fresh2,zb,eg]
         all_goals exact⟨_,_,_,_,_,_,_,_,_,_,_,_,_,.inr ⟨e,rfl⟩,by rw[hE];simp only[bk,aA _ _ _ _ hA];rfl⟩
        ·have hE:aG g l L ino special (4*k+(j+1))=(A++[e],B):=by rw[hE,mZ];simp only;rw[hG,if_pos rfl]
         rw[hG]at eg
         rw[aA _ _ _ _ hA]
         rw[aA _ _ _ _ hB]
         rcases ho with rfl|⟨e0,rfl⟩<;>simp[-List.length_flatMap,-Int.natCast_add,-Int.natCast_mul,kE,rz,fS,v1,v2,v3,v4,v5,asNat,dh,iQ,eC,hg,gW,hit,r1,r2,hst,hns,T.fresh,T.fresh1,T.fresh2,G3,eg]
         all_goals exact⟨_,_,_,_,_,_,_,_,_,_,_,_,_,.inr ⟨e,rfl⟩,by rw[hE];simp only[bk,aA _ _ _ _ hB];rfl⟩
    ·have apn:j=4:=by omega
     subst apn
     have hn4:aG g l L ino special (4*k+4)=aG g l L ino special (4*(k+1)):=rfl
     rw[hn4]
     rcases ho with rfl|⟨e0,rfl⟩<;>simp[-List.length_flatMap,-Int.natCast_add,w4,hns,E8,tY]
     all_goals exact⟨_,_,_,_,_,_,_,_,_,_,_,_,_,_,_,.inl rfl,rfl⟩
 ·have X9:k=4:=by omega
  subst X9
  rw[show 4*4=16 by rfl]
  unfold Nn
  generalize (aG g l L ino special 16).1=A
  generalize (aG g l L ino special 16).2=B
  unfold aD
  rcases ho with rfl|⟨e,rfl⟩<;>by_cases hA:A=[]<;>by_cases hB:B=[]<;>simp[-List.length_flatMap,hA,hB,List.idxOf?]
  all_goals exact⟨rfl,rfl⟩
end Go.Vi.Sz
end
section
set_option maxRecDepth 100000
set_option maxHeartbeats 8000000
namespace Go.Vi.Sz
open Go Go.Vi Go.Vi.Zz
@[simp] theorem RD(d e n cs):T.import d (.sl (.own 1 e) n cs)= .sl (.own (8*d+1) e) n cs:=by simp[T.import]
structure fO where
 clause:Int
 layer:Int
 ino:Int
 slot:Int
deriving DecidableEq
def eF(f:fO):List T:=[.v (.int .i64 f.clause),.v (.int .i64 f.layer),.v (.int .i64 f.ino),.v (.int .i64 f.slot)]
@[simp] theorem Yf(f:fO):(eF f).length=4:=rfl
theorem yo(c y i s:Int):Ev E ku [.v (.int .i64 c),.v (.int .i64 y),.v (.int .i64 i),.v (.int .i64 s)] (.agg (eF ⟨c,y,i,s⟩)):=by
 refine aB (fn:=pB) rfl (by decide) rfl rfl rfl ?_
 simp[pB]
 rfl
def nT(x:aO)(dT eT:T)(a:pJ):List T:=[.v (.int .i64 x.kind),.v (.int .i64 x.impure),.v (.int .i64 x.nlink),.v (.int .i64 x.gen),dT,eT,.v (.int .i64 a.has),.v (.int .i64 a.qF),.v (.string ⟨a.red.toArray⟩),.v (.int .i64 a.ol),.v (.int .i64 a.oi),.v (.int .i64 a.og),.v (.int .i64 a.shown)]
def bZ:T:= .sl .nil 0 []
def rI(g:bt)(l:List (List UInt8))(L:List aO)(ino:Int):Option pJ:=match cQ g l L ino 4 with
 |none=>some oM
 |some b=>zt b
def JY(g:bt)(l:List (List UInt8))(L:List aO)(x:aO)(ino special:Int):T:=
 if x.kind=0 then .al [.agg (nT cz bZ bZ oM),.v (.bool true),bZ]
 else if x.kind=1 then .al [.agg (nT x (dg (fw g l L ino)) (aD .clip 0 105 eE (aG g l L ino special 16).1) ((rI g l L ino).getD oM)),.v (.bool (rI g l L ino).isSome),aD .clip (if(aG g l L ino special 16).1=[]then 0 else 1) 3 eN (aG g l L ino special 16).2]
 else .al [.agg (nT x (dg (fw g l L ino)) bZ ((rI g l L ino).getD oM)),.v (.bool (rI g l L ino).isSome),bZ]
theorem acV(g:bt)(l:List (List UInt8))(hl:∀b∈l,b.length=64)(L:List aO)(hn:L.length≤10000)(I:Nat)(hI:I< L.length)(special:Int):
  Ev E yF [.agg (eG g),sl eS l,.sl .any L.length (L.flatMap eI),.v (.int .i64 ((I+1:Nat):Int)),.v (.int .i64 special)] (JY g l L L[I] ((I+1:Nat):Int) special):=by
 refine aB (fn:=pS) rfl (by decide) rfl rfl rfl ?_
 have w1:IntKind.i64.wrap (((I+1:Nat):Int)-1)=(I:Int):=by rw[show((I+1:Nat):Int)-1=(I:Int) by omega];exact aq (by omega)
 have ei:=qO L I hI
 have bF:=uW L I hI
 have ct:Option.filter T.closed (some (T.agg (eI L[I])))=some (T.agg (eI L[I])):=b7 (by simp)
 have hx:eI L[I]=[.v (.int .i64 L[I].kind),.v (.int .i64 L[I].impure),.v (.int .i64 L[I].nlink),.v (.int .i64 L[I].gen),.v (.int .i64 L[I].size),.v (.int .i64 L[I].p0),.v (.int .i64 L[I].p1),.v (.int .i64 L[I].p2),.v (.int .i64 L[I].p3),.v (.int .i64 L[I].attr)]:=rfl
 have hd:=af (acR g l hl L hn ((I+1:Nat):Int))
 have hb:=af (Fz g l L hn ((I+1:Nat):Int) 4)
 have E9:=fun b (h:b.length=64)=>af (VJ b h)
 have ua:=af (RC g l hl L hn ((I+1:Nat):Int) special)
 have fS:=fun b=>(tV hl:cQ g l L ((I+1:Nat):Int) 4=some b→_)
 unfold JY
 have CZ:rI g l L ((I+1:Nat):Int)=match cQ g l L ((I+1:Nat):Int) 4 with|none=>some oM|some b=>zt b:=rfl
 have eg:L.getD (((I+1:Nat):Int)-1).toNat cz=L[I]:=by
  rw[show(((I+1:Nat):Int)-1).toNat=I by omega,List.getD_eq_getElem?_getD,List.getElem?_eq_getElem hI,Option.getD_some]
 have hD1:L[I].kind=1→fw g l L ((I+1:Nat):Int)=none:=by
  intro hk
  unfold fw
  rw[if_neg]
  rintro⟨_,_,_,h⟩
  rw[eg,hk]at h
  omega
 by_cases BB:L[I].kind=0
 ·rw[if_pos BB]
  have od:(L[I].kind==0)=true:=by rw[BB];rfl
  simp[-List.length_flatMap,-Int.natCast_add,pS,w1,ei,bF,ct]
  rw[hx]
  simp[-List.length_flatMap,-Int.natCast_add,od,nT,cz,oM,bZ]
 ·rw[if_neg BB]
  have od:(L[I].kind==0)=false:=by rw[beq_eq_false_iff_ne];exact BB
  simp[-List.length_flatMap,-Int.natCast_add,pS,w1,ei,bF,ct]
  rw[hx]
  generalize hAO:rI g l L ((I+1:Nat):Int)=ao at*
  cases hB:cQ g l L ((I+1:Nat):Int) 4 with
  |none=>
   rw[hB]at hb CZ
   simp only at CZ
   subst CZ
   simp only[iM]at hb
   by_cases kz:L[I].kind=1
   ·rw[if_pos kz]
    have De:(L[I].kind==1)=true:=by rw[kz];rfl
    rw[hD1 kz]at hd⊢
    simp only[dg]at hd
    unfold Nn at ua
    generalize (aG g l L ((I+1:Nat):Int) special 16).1=A at*
    generalize (aG g l L ((I+1:Nat):Int) special 16).2=B at*
    unfold aD at ua⊢
    by_cases hA:A=[]<;>by_cases hW:B=[]<;>simp only[hA,hW,if_true,if_false]at ua⊢
    all_goals
     simp[-List.length_flatMap,-Int.natCast_add,od,De,hd,hb,ua,T.fresh,T.fresh1,T.fresh2]
     simp[-List.length_flatMap,nT,dg,oM,List.idxOf?]
    all_goals exact⟨rfl,rfl⟩
   ·rw[if_neg kz]
    have De:(L[I].kind==1)=false:=by rw[beq_eq_false_iff_ne];exact kz
    cases hD:fw g l L ((I+1:Nat):Int)with
    |none=>
     rw[hD]at hd
     simp only[dg]at hd
     simp[-List.length_flatMap,-Int.natCast_add,od,De,hd,hb,T.fresh,T.fresh1,T.fresh2]
     simp[nT,dg,bZ,oM]
    |some d=>
     rw[hD]at hd
     simp only[dg]at hd
     simp[-List.length_flatMap,-Int.natCast_add,od,De,hd,hb,T.fresh,T.fresh1,T.fresh2]
     simp[nT,dg,bZ,oM]
  |some b=>
   rw[hB]at hb CZ
   simp only at CZ
   subst CZ
   simp only[iM]at hb
   have E9:=E9 b (fS b hB)
   have bV:∀a:pJ,bj (eA a)=true∧rF (eA a)=true∧∀d,dz d (eA a)=eA a:=fun a=>⟨by simp[eA],by simp[eA],fun d=>by simp[eA]⟩
   unfold HK at E9
   generalize (zt b).getD oM=att at E9⊢
   generalize (zt b).isSome=fin at E9⊢
   simp only[eA]at E9
   by_cases kz:L[I].kind=1
   ·rw[if_pos kz]
    have De:(L[I].kind==1)=true:=by rw[kz];rfl
    rw[hD1 kz]at hd⊢
    simp only[dg]at hd
    unfold Nn at ua
    generalize (aG g l L ((I+1:Nat):Int) special 16).1=A at*
    generalize (aG g l L ((I+1:Nat):Int) special 16).2=B at*
    unfold aD at ua⊢
    by_cases hA:A=[]<;>by_cases hW:B=[]<;>simp only[hA,hW,if_true,if_false]at ua⊢
    all_goals
     simp[-List.length_flatMap,-Int.natCast_add,od,De,hd,hb,ua,T.fresh,T.fresh1,T.fresh2,E9]
     simp[-List.length_flatMap,nT,dg,List.idxOf?]
    all_goals exact⟨rfl,rfl⟩
   ·rw[if_neg kz]
    have De:(L[I].kind==1)=false:=by rw[beq_eq_false_iff_ne];exact kz
    cases hD:fw g l L ((I+1:Nat):Int)with
    |none=>
     rw[hD]at hd
     simp only[dg]at hd
     simp[-List.length_flatMap,-Int.natCast_add,od,De,hd,hb,E9,T.fresh,T.fresh1,T.fresh2]
     simp[nT,dg,bZ]
    |some d=>
     rw[hD]at hd
     simp only[dg]at hd
     simp[-List.length_flatMap,-Int.natCast_add,od,De,hd,hb,E9,T.fresh,T.fresh1,T.fresh2]
     simp[nT,dg,bZ]
end Go.Vi.Sz
end
section
set_option maxRecDepth 100000
set_option maxHeartbeats 8000000
namespace Go.Vi.Sz
open Go Go.Vi Go.Vi.Zz
structure Nd where
 x:aO
 data:List UInt8
 C4:List bQ
 att:pJ
def fb(n:Nd):List T:=nT n.x (sl eB n.data) (sl eE n.C4) n.att
@[simp] theorem SQ(n:Nd):(fb n).length=13:=rfl
theorem HN(l:List Nd):(l.flatMap fb).length=l.length*13:=lY SQ l
@[simp] theorem akW(n:Nd):bj (fb n)=true:=by simp[fb,nT]
theorem Hj(l:List Nd):bj (l.flatMap fb)=true:=by
 induction l with
 |nil=>rfl
 |cons c l ih=>simp[fb,nT,ih]
theorem lE(l:List fO):(l.flatMap eF).length=l.length*4:=lY Yf l
theorem ll(l:List fO):bj (l.flatMap eF)=true:=by
 induction l with
 |nil=>rfl
 |cons c l ih=>simp[eF,ih]
theorem ot(d)(l:List fO):stripL d (l.flatMap eF)=l.flatMap eF:=by
 induction l with
 |nil=>simp
 |cons c l ih=>simp[eF,ih]
def na(g:bt)(l:List (List UInt8))(L:List aO)(special:Int)(I:Nat):Nd:=
 if(L.getD I cz).kind=0 then⟨cz,[],[],oM⟩
 else⟨L.getD I cz,(fw g l L ((I+1:Nat):Int)).getD [],if(L.getD I cz).kind=1 then(aG g l L ((I+1:Nat):Int) special 16).1 else [],(rI g l L ((I+1:Nat):Int)).getD oM⟩
def CU(g:bt)(l:List (List UInt8))(L:List aO)(I:Nat):Bool:=if(L.getD I cz).kind=0 then true else(rI g l L ((I+1:Nat):Int)).isSome
def ej(g:bt)(l:List (List UInt8))(L:List aO)(special:Int)(I:Nat):List Int:=if(L.getD I cz).kind=1 then(aG g l L ((I+1:Nat):Int) special 16).2 else []
def CY(g:bt)(l:List (List UInt8))(L:List aO)(layer:Int)(I:Nat):List fO:=if CU g l L I then []else [⟨2,layer,((I+1:Nat):Int),-1⟩]
def jy(g:bt)(l:List (List UInt8))(L:List aO)(special:Int)(layer:Int)(I:Nat):List fO:=(ej g l L special I).map fun s=>⟨5,layer,((I+1:Nat):Int),s⟩
def jM(layer:Int)(ps:List (Int×Int)):List fO:=ps.map fun p=>⟨1,layer,p.1,p.2⟩
def gr(layer:Int)(bs:List Int):List fO:=bs.map fun i=>⟨4,layer,i,-1⟩
theorem RE(g:bt)(l:List (List UInt8))(L:List aO)(I:Nat)(hI:I< L.length)(special:Int):
  ∃dT eT wT,JY g l L L[I] ((I+1:Nat):Int) special= .al [.agg (nT (na g l L special I).x dT eT (na g l L special I).att),.v (.bool (CU g l L I)),wT]∧
   (dT=bZ∨dT=sl eB (na g l L special I).data)∧dT.cL=sl eB (na g l L special I).data∧
   (eT=bZ∨eT= .sl .clip 0 []∨eT= .sl (.own 0 105) (na g l L special I).C4.length ((na g l L special I).C4.flatMap eE))∧eT.cL=sl eE (na g l L special I).C4∧
   ((wT=bZ∧ej g l L special I=[])∨(wT= .sl .clip 0 []∧ej g l L special I=[])∨∃k,k< 2∧wT= .sl (.own k 3) (ej g l L special I).length ((ej g l L special I).flatMap eN)):=by
 have hg:L.getD I cz=L[I]:=by rw[List.getD_eq_getElem?_getD,List.getElem?_eq_getElem hI,Option.getD_some]
 unfold JY na CU ej
 rw[hg]
 by_cases h0:L[I].kind=0
 ·have h1:¬L[I].kind=1:=by omega
  simp only[h0,if_true]
  refine⟨bZ,bZ,bZ,rfl,.inl rfl,by simp[bZ,sl],.inl rfl,by simp[bZ,sl],.inl ⟨rfl,by rw[if_neg (by decide)]⟩⟩
 ·simp only[if_neg h0]
  by_cases h1:L[I].kind=1
  ·simp only[if_pos h1]
   refine⟨_,_,_,rfl, ?_, ?_, ?_, ?_, ?_⟩
   ·cases fw g l L ((I+1:Nat):Int)<;>simp[dg,bZ]
   ·cases fw g l L ((I+1:Nat):Int)<;>simp[dg,sl]
   ·unfold aD;split<;>simp
   ·generalize (aG g l L ((I+1:Nat):Int) special 16).1=A
    by_cases hA:A=[]
    ·subst hA;simp[aD,sl]
    ·rw[aA _ _ _ _ hA];simp[sl]
   ·unfold aD
    by_cases hw:(aG g l L ((I+1:Nat):Int) special 16).2=[]
    ·rw[if_pos hw,hw];exact .inr (.inl ⟨rfl,rfl⟩)
    ·rw[if_neg hw]
     exact .inr (.inr ⟨_,by split<;>omega,rfl⟩)
  ·simp only[if_neg h1]
   refine⟨_,_,_,rfl, ?_, ?_,.inl rfl,by simp[bZ,sl],.inl ⟨rfl,trivial⟩⟩
   ·cases fw g l L ((I+1:Nat):Int)<;>simp[dg,bZ]
   ·cases fw g l L ((I+1:Nat):Int)<;>simp[dg,sl]
end Go.Vi.Sz
end
section
set_option maxRecDepth 100000
set_option maxHeartbeats 8000000
namespace Go.Vi.Sz
open Go Go.Vi Go.Vi.Zz
theorem gL(z k d)(A:List fO)(h:hit d k=false)(hz:z= .nil∨z= .clip):(aD z k 48 eF A).strip d=aD z k 48 eF A:=by
 rcases hz with rfl|rfl<;>unfold aD<;>split<;>simp[-List.length_flatMap,h]
theorem FD(z k s)(A:List fO):(aD z k 48 eF A).ay s=true:=by
 unfold aD;split<;>simp[-List.length_flatMap]
theorem fC(z k d)(A:List Int)(h:hit d k=false)(hz:z= .nil∨z= .clip):(aD z k 3 eN A).strip d=aD z k 3 eN A:=by
 rcases hz with rfl|rfl<;>unfold aD<;>split<;>simp[-List.length_flatMap,h]
theorem G7(z:Tag)(hz:z= .nil∨z= .clip)(d)(A:List Int):(aD z 1 3 eN A).import d=aD z (8*d+1) 3 eN A:=by
 rcases hz with rfl|rfl<;>unfold aD<;>split<;>simp
theorem ng(z k d)(A:List Nd)(h:hit d k=false)(hz:z= .nil∨z= .clip):(aD z k 84 fb A).strip d=aD z k 84 fb A:=by
 rcases hz with rfl|rfl<;>unfold aD<;>split<;>simp[-List.length_flatMap,h]
theorem C3(z k s)(A:List Nd):(aD z k 84 fb A).ay s=true:=by
 unfold aD;split<;>simp[-List.length_flatMap]
def bd(g:bt)(l:List (List UInt8))(L:List aO)(special:Int)(n:Nat):List Nd:=(List.range n).map (na g l L special)
def cH(g:bt)(l:List (List UInt8))(L:List aO)(layer:Int)(n:Nat):List fO:=(List.range n).flatMap (CY g l L layer)
def dU(g:bt)(l:List (List UInt8))(L:List aO)(special layer:Int)(n:Nat):List fO:=(List.range n).flatMap (jy g l L special layer)
theorem G6(g l L special n):bd g l L special (n+1)=bd g l L special n++[na g l L special n]:=by simp[bd,List.range_succ]
theorem rf(g l L layer n):cH g l L layer (n+1)=cH g l L layer n++CY g l L layer n:=by simp[cH,List.range_succ]
theorem pj(g l L special layer n):dU g l L special layer (n+1)=dU g l L special layer n++jy g l L special layer n:=by simp[dU,List.range_succ]
structure Gk(t:T)(w:T):Prop where
 one:t.one=true
 aU:t.aU=false
 ay:∀s,t.ay s=true
 strip:∀d,hit d 376=false→t.strip d=t
 cL:t.cL=w
theorem QM(w:T)(h:bZ.cL=w):Gk (T.import 47 bZ) w:=by
 subst h
 constructor<;>simp[bZ]
theorem aaL(w:T)(h:(T.sl .clip 0 []).cL=w):Gk (T.import 47 (.sl .clip 0 [])) w:=by
 subst h
 constructor<;>simp
theorem acW(A:List bQ):Gk (T.import 47 (.sl (.own 0 105) A.length (A.flatMap eE))) (sl eE A):=by
 refine⟨by simp,by simp,fun s=>by simp[-List.length_flatMap],fun d h=>by simp[-List.length_flatMap,h],by simp[sl]⟩
theorem afy(b:List UInt8):Gk (T.import 47 (sl eB b)) (sl eB b):=by
 constructor<;>simp
structure ah8(t:T)(A:List Int):Prop where
 aU:t.aU=false
 ay:∀s,t.ay s=true
 strip:∀d,hit d 376=false→hit d 377=false→t.strip d=t
 len:jE false t=some (.v (.int .i64 A.length))
 addr:∀j:Nat,j< A.length→dY 1 t (.v (.int .i64 (j:Int)))=some (.ptr (A.flatMap eN) (j*1))
theorem acX(t:T)(A:List Int)(h:(t=bZ∧A=[])∨(t= .sl .clip 0 []∧A=[])∨∃k,k< 2∧t= .sl (.own k 3) A.length (A.flatMap eN)):ah8 (T.import 47 t) A:=by
 rcases h with⟨rfl,rfl⟩|⟨rfl,rfl⟩|⟨k,hk,rfl⟩
 ·constructor<;>simp[bZ,jE]
 ·constructor<;>simp[jE]
 ·have hc:k=0∨k=1:=by omega
  have AU:∀g,∀j:Nat,j< A.length→dY 1 (.sl g A.length (A.flatMap eN)) (.v (.int .i64 (j:Int)))=some (.ptr (A.flatMap eN) (j*1)):=by
   intro g j hj
   show(if 0≤(j:Int)∧(j:Int).toNat< A.length then some (T.ptr (A.flatMap eN) ((j:Int).toNat*1))else none)=_
   rw[if_pos (by omega),Int.toNat_natCast]
  rcases hc with rfl|rfl
  ·rw[G5]
   refine⟨by simp,fun s=>by simp[-List.length_flatMap],fun d h1 h2=>by simp[-List.length_flatMap,h1],rfl,AU _⟩
  ·rw[RD]
   refine⟨by simp,fun s=>by simp[-List.length_flatMap],fun d h1 h2=>by simp[-List.length_flatMap,h2],rfl,AU _⟩
end Go.Vi.Sz
end
section
set_option maxRecDepth 100000
set_option maxHeartbeats 20000000
namespace Go.Vi.Sz
open Go Go.Vi Go.Vi.Zz
def uX(g:bt)(l:List (List UInt8))(L:List aO)(special layer:Int)(apo:List Int):List fO:=
 jM layer (lp (bz L) g.blocks (5*L.length))++cH g l L layer L.length++gr layer apo++dU g l L special layer L.length
def Kr(N:List Nd)(F:List fO):T:= .al [.agg [.sl (.own 0 84) N.length (N.flatMap fb)],.sl (.own 1 48) F.length (F.flatMap eF)]
def DeO(g:bt)(l:List (List UInt8))(L:List aO)(B:List Int)(special layer:Int)(j:Nat)(σ:St):Prop:=∃a0 a6 de cK cX a17 iK iL a20 a21 nz a23 a24 a25 a26 o,(o=none∨∃C,o=some C∧∀s,aR s C=true)∧
 σ=⟨[],[a0,sl eS l,.v (.int .i64 special),.v (.int .i64 layer),.ref 0 0,.ref 2 0,a6,.sl (.own 256 34) L.length (L.flatMap eI),aD .clip 257 3 eN B,.ref 4 0,aD .nil 512 48 eF (cH g l L layer j),aD .nil 640 48 eF (dU g l L special layer j),bZ,.v (.int .i64 ((j+1:Nat):Int)),de,cK,cX,a17,iK,iL,a20,a21,nz,a23,a24,a25,a26],
  [some (eG g),none,some [bZ],none,some [aD .nil 440 84 fb (bd g l L special j)],none,o,none]⟩
def DeI(g:bt)(l:List (List UInt8))(L:List aO)(B:List Int)(special layer:Int)(wT:T)(j i:Nat)(σ:St):Prop:=∃a0 a6 de cK iK iL a20 a21 nz a23 a24 a25 a26 C,((∀s,aR s C=true)∧∀d,hit d 376=false→stripL d C=C)∧
 σ=⟨[],[a0,sl eS l,.v (.int .i64 special),.v (.int .i64 layer),.ref 0 0,.ref 2 0,a6,.sl (.own 256 34) L.length (L.flatMap eI),aD .clip 257 3 eN B,.ref 4 0,aD .nil 512 48 eF (cH g l L layer (j+1)),aD .nil 640 48 eF (dU g l L special layer j++(jy g l L special layer j).take i),bZ,.v (.int .i64 ((j+1:Nat):Int)),de,cK,T.import 47 wT,.v (.int .i64 i),iK,iL,a20,a21,nz,a23,a24,a25,a26],
  [some (eG g),none,some [bZ],none,some [aD .nil 440 84 fb (bd g l L special (j+1))],none,some C,none]⟩
theorem G8(z:Tag)(hz:z= .nil∨z= .clip)(d)(A:List (Int×Int)):(aD z 0 77 eP A).import d=aD z (8*d) 77 eP A:=by
 rcases hz with rfl|rfl<;>unfold aD<;>split<;>simp
theorem vJ{α:Type}(z k e)(enc:α→List T)(A:List α):jE false (aD z k e enc A)=some (.v (.int .i64 A.length)):=by
 unfold aD
 split
 ·rename_i h;subst h;rfl
 ·rfl
def D4(g:bt)(l:List (List UInt8))(L:List aO)(B:List Int)(special layer:Int)(BT:List (Int×Int))(i:Nat)(σ:St):Prop:=∃a0 a1 a2 a4 a6 a7 cS de cK cX a17 a20 a21 nz a23 a24 a25 a26 o,
 σ=⟨[],[a0,a1,a2,.v (.int .i64 layer),a4,.ref 2 0,a6,a7,aD .clip 257 3 eN B,.ref 4 0,aD .nil 512 48 eF (cH g l L layer L.length),aD .nil 640 48 eF (dU g l L special layer L.length),aD .nil 840 48 eF ((jM layer BT).take i),cS,de,cK,cX,a17,aD .clip 672 77 eP BT,.v (.int .i64 i),a20,a21,nz,a23,a24,a25,a26],
  [some (eG g),none,some [bZ],none,some [aD .nil 440 84 fb (bd g l L special L.length)],none,o,none]⟩
def D6(g:bt)(l:List (List UInt8))(L:List aO)(B:List Int)(special layer:Int)(Y:List fO)(i:Nat)(σ:St):Prop:=∃a0 a1 a2 a4 a6 a7 db cS de cK cX a17 iK iL a21 nz a23 a24 a25 a26 o k,(k=864∨k=984)∧
 σ=⟨[],[a0,a1,a2,.v (.int .i64 layer),a4,.ref 2 0,a6,a7,aD .clip 257 3 eN B,.ref 4 0,db,aD .nil 640 48 eF (dU g l L special layer L.length),.sl (.own k 48) (Y++(gr layer B).take i).length ((Y++(gr layer B).take i).flatMap eF),cS,de,cK,cX,a17,iK,iL,.v (.int .i64 i),a21,nz,a23,a24,a25,a26],
  [some (eG g),none,some [bZ],none,some [aD .nil 440 84 fb (bd g l L special L.length)],none,o,none]⟩
theorem Je(A:List Int)(i:Nat)(h:i< A.length):cp (A.flatMap eN) i=some (.v (.int .i64 A[i])):=by
 have:=ki aaG A i 0 h (by omega)
 rw[Nat.mul_one,Nat.add_zero]at this
 rw[this];rfl
theorem acY(k:Nat)(W:List fO)(f:fO):T.sl (.own k 48) (W++[f]).length ((W++[f]).flatMap eF)= .sl (.own k 48) (W.length+1) (W.flatMap eF++eF f):=by
 rw[List.length_append,List.flatMap_append];simp[-List.length_flatMap]
theorem Jl(g:bt)(l:List (List UInt8))(hl:∀b∈l,b.length=64)(special layer:Int):
  Ev E qQ [.agg (eG g),sl eS l,.v (.int .i64 special),.v (.int .i64 layer)]
   (if dG g l then Kr (bd g l (cJ (br g l)) special (cJ (br g l)).length) (uX g l (cJ (br g l)) special layer (cZ (br g l)))else .al [.agg [bZ],bZ]):=by
 refine aB (fn:=nF) rfl (by decide) rfl rfl rfl ?_
 have hr:=af (wz g l)
 have kX:=af (VL g l hl)
 cases h:dG g l
 ·rw[h]at hr
  simp[-List.length_flatMap,nF,hr,bZ]
 rw[h]at hr
 rw[h,if_pos rfl]at kX
 rw[if_pos rfl]
 have h':=h
 simp only[dG,Bool.and_eq_true,decide_eq_true_eq]at h'
 have hs:=dq h'.1
 have xU:(br g l).length=g.aw.toNat:=by simp[br];omega
 have YA:(cJ (br g l)).length=g.aw.toNat:=by rw[cJ,List.length_map,xU]
 have X7:(cZ (br g l)).length≤24:=by
  have:∀(A:List (List UInt8)),(cZ A.reverse).length≤A.length:=by
   intro A
   induction A with
   |nil=>simp[cZ]
   |cons a A ih=>
    rw[List.reverse_cons,qG,List.length_append,List.length_cons]
    split<;>simp<;>omega
  have:=this (br g l).reverse
  rw[List.reverse_reverse,List.length_reverse,xU]at this
  omega
 generalize cJ (br g l)=L at*
 generalize cZ (br g l)=B at*
 obtain⟨n,hn⟩:∃n:Nat,g.aw=n:=⟨g.aw.toNat,by omega⟩
 have L9:L.length=n:=by rw[YA,hn];rfl
 have Kp:L≠[]:=by intro hh;rw[hh]at L9;simp at L9;omega
 rw[aA _ _ _ _ Kp]at kX
 have Mf:=G7 .clip (.inr rfl) 32 B
 have U3:=fun I (hI:I< L.length)=>af (acV g l hl L (by omega) I hI special)
 have an9:=yg L
 have aru:cp (eG g) 1=some (.v (.int .i64 g.aw)):=rfl
 have aaM:∀j i,j< n→i≤(ej g l L special j).length→(dU g l L special layer j++(jy g l L special layer j).take i).length≤1000:=by
  have hwl:∀j,(ej g l L special j).length≤16:=by
   intro j
   unfold ej
   split
   ·exact(qD g l L _ special 16).2
   ·simp
  have h1:∀j,(dU g l L special layer j).length≤16*j:=by
   intro j
   induction j with
   |zero=>simp[dU]
   |succ j ih=>
    have:=hwl j
    rw[pj,List.length_append,jy,List.length_map]
    omega
  intro j i hj hi
  have:=h1 j
  have:=hwl j
  rw[List.length_append,List.length_take]
  omega
 simp[-List.length_flatMap,-Int.natCast_add,nF,hr,kX,Mf]
 refine m_loop n (DeO g l L B special layer) ⟨_,_,_,_,_,_,_,_,_,_,_,_,_,_,_,_,.inl rfl,rfl⟩ ?_
 rintro j σ hj ⟨a0,a6,de,cK,cX,a17,iK,iL,a20,a21,nz,a23,a24,a25,a26,o,ho,rfl⟩
 by_cases hlt:j< n
 ·have bh:((j+1:Nat):Int)≤g.aw:=by omega
  have hjL:j< L.length:=by omega
  have w4:IntKind.i64.wrap (((j+1:Nat):Int)+1)=((j+1+1:Nat):Int):=by rw[←Int.natCast_succ];exact aq (by omega)
  obtain⟨dT,eT,wT,He,hd1,RW,Sj,lT,hw⟩:=RE g l L j hjL special
  have jl:=U3 j hjL
  rw[He]at jl
  have hD:Gk (T.import 47 dT) (sl eB (na g l L special j).data):=by
   rcases hd1 with rfl|rfl
   ·exact QM _ RW
   ·exact afy _
  have hE:Gk (T.import 47 eT) (sl eE (na g l L special j).C4):=by
   rcases Sj with rfl|rfl|rfl
   ·exact QM _ lT
   ·exact aaL _ lT
   ·exact acW _
  have hW:=acX wT (ej g l L special j) hw
  have hN1:=G6 g l L special j
  have G3:=rf g l L layer j
  have Om:=pj g l L special layer j
  simp only[nT]at jl
  obtain⟨fD1,fD2,fD3,fD4,fD7⟩:=hD
  obtain⟨fE1,fE2,fE3,fE4,fE7⟩:=hE
  obtain⟨fW1,fW2,TE,fW4,fW5⟩:=hW
  have zC:(bd g l L special j).length=j:=by simp[bd]
  have hNF:=HN (bd g l L special j)
  have hNC:=Hj (bd g l L special j)
  rw[zC]at hNF
  obtain⟨r1,r2,r3,r4⟩:(j+1)*144≤room∧j+1≤room∧144≤room∧1≤room:=by unfold room;omega
  have QN:=af (yo 2 layer ((j+1:Nat):Int) (-1))
  simp only[eF]at QN
  have zq:(cH g l L layer j).length≤j:=by
   have:∀n,(cH g l L layer n).length≤n:=by
    intro n
    induction n with
    |zero=>simp[cH]
    |succ n ih=>
     rw[rf,List.length_append]
     unfold CY
     split<;>simp<;>omega
   exact this j
  have O9:=lE (cH g l L layer j)
  have hAC:=ll (cH g l L layer j)
  have hAS:=fun d=>ot d (cH g l L layer j)
  obtain⟨q1,q2,q3⟩:((cH g l L layer j).length+1)*32≤room∧(cH g l L layer j).length+1≤room∧32≤room:=by unfold room;omega
  have MI:aD .nil 440 84 fb (bd g l L special (j+1))= .sl (.own 440 84) (j+1) ((bd g l L special j).flatMap fb++fb (na g l L special j)):=by rw[hN1,bk,zC]
  have hC:=fun(C:List T) (h:∀s,aR s C=true)=>h
  have hNt:aD .nil 440 84 fb (bd g l L special j)=if j=0 then .sl .nil 0 []else .sl (.own 440 84) j ((bd g l L special j).flatMap fb):=by
   by_cases iY:j=0
   ·subst iY;rfl
   ·rw[if_neg iY,aA _ _ _ _ (by intro hh;rw[hh]at zC;simp at zC;omega),zC]
  rw[hNt]
  have apq:j=0→(bd g l L special j).flatMap fb=[]:=by rintro rfl;rfl
  by_cases iY:j=0
  case' pos=>
   rw[if_pos iY]
   have SO:=apq iY
   replace MI:aD .nil 440 84 fb (bd g l L special (j+1))= .sl (.own 440 84) 1 (fb (na g l L special j)):=by rw[MI,SO,List.nil_append,iY]
   rcases ho with rfl|⟨C,rfl,hC⟩<;>simp[-List.length_flatMap,-Int.natCast_add,bh,hlt,jl,fC,gL,tY,FD,bZ,hit,T.fresh,T.fresh1,T.fresh2,fD1,fD4,fD7,fE1,fE4,fE7,TE,r3,r4,hC]
  case' neg=>
   rw[if_neg iY]
   rcases ho with rfl|⟨C,rfl,hC⟩<;>simp[-List.length_flatMap,-Int.natCast_add,bh,hlt,jl,fC,gL,tY,FD,bZ,hit,T.fresh,T.fresh1,T.fresh2,fD1,fD4,fD7,fE1,fE4,fE7,TE,r1,r2,hNF,hC]
  all_goals
   have arv:aD .nil 440 84 fb (bd g l L special (j+1))=aD .nil 440 84 fb (bd g l L special (j+1)):=rfl
   have hwl:(ej g l L special j).length≤16:=by
    unfold ej
    split
    ·exact(qD g l L _ special 16).2
    ·simp
   refine pg (fun hf=> ?_) (fun hf=> ?_)
  case' pos.inl.refine_1|pos.inr.refine_1|neg.inl.refine_1|neg.inr.refine_1=>
   have hA2:cH g l L layer (j+1)=cH g l L layer j++[⟨2,layer,((j+1:Nat):Int),-1⟩]:=by
    rw[G3]
    have Sl:CU g l L j=false:=by simpa using hf
    rw[CY,Sl];rfl
   have hA3:aD .nil 512 48 eF (cH g l L layer (j+1))= .sl (.own 512 48) ((cH g l L layer j).length+1) ((cH g l L layer j).flatMap eF++eF ⟨2,layer,((j+1:Nat):Int),-1⟩):=by rw[hA2,bk]
   by_cases tW:cH g l L layer j=[]
   case' pos=>
    rw[tW]at hA3⊢
    rw[aK]
    simp[-List.length_flatMap,-Int.natCast_add,QN,fC,gL,hit,T.fresh,T.fresh1,T.fresh2,fD4,fE4,TE,r4,q3]
   case' neg=>
    rw[aA _ _ _ _ tW]
    simp[-List.length_flatMap,-Int.natCast_add,QN,fC,gL,hit,T.fresh,T.fresh1,T.fresh2,fD4,fE4,TE,q1,q2,O9]
  case' pos.inl.refine_2|pos.inr.refine_2|neg.inl.refine_2|neg.inr.refine_2=>
   have hA3:aD .nil 512 48 eF (cH g l L layer (j+1))=aD .nil 512 48 eF (cH g l L layer j):=by
    rw[G3]
    have Sl:CU g l L j=true:=by simpa using hf
    rw[CY,Sl,if_pos rfl,List.append_nil]
   simp[-List.length_flatMap,-Int.natCast_add]
  all_goals
   refine m_loop (ej g l L special j).length (DeI g l L B special layer wT j) ⟨_,_,_,_,_,_,_,_,_,_,_,_,_,_, ?_,by rw[hA3,MI,List.take_zero,List.append_nil];rfl⟩ ?_
   ·exact⟨fun s=>by simp[fD3,fE3],fun d h=>by simp[fD4 d h,fE4 d h]⟩
   rintro i σ hi ⟨a0,a6,de,cK,iK,iL,a20,a21,nz,a23,a24,a25,a26,C,⟨hC1,O8⟩,rfl⟩
   by_cases Mb:i< (ej g l L special j).length
   ·have BV:(i:Int)< (ej g l L special j).length:=by omega
    have w5:IntKind.i64.wrap ((i:Int)+1)=((i+1:Nat):Int):=by rw[←Int.natCast_succ];exact aq (by omega)
    have hnw:=Je (ej g l L special j) i Mb
    have Pk:=fW5 i Mb
    have QO:=af (yo 5 layer ((j+1:Nat):Int) (ej g l L special j)[i])
    simp only[eF]at QO
    have fB:(jy g l L special layer j).length=(ej g l L special j).length:=by simp[jy]
    have hst:(jy g l L special layer j).take (i+1)=(jy g l L special layer j).take i++[⟨5,layer,((j+1:Nat):Int),(ej g l L special j)[i]⟩]:=by
     rw[List.take_succ_eq_append_getElem (by omega)]
     simp[jy]
    generalize (ej g l L special j)[i]=ws at*
    have Oe:(dU g l L special layer j++(jy g l L special layer j).take i).length≤1000:=aaM j i hlt hi
    have aH:∀a0 a6 de cK iK iL a20 a21 nz a23 a24 a25 a26,DeI g l L B special layer wT j (i+1) ⟨[],[a0,sl eS l,.v (.int .i64 special),.v (.int .i64 layer),.ref 0 0,.ref 2 0,a6,.sl (.own 256 34) L.length (L.flatMap eI),aD .clip 257 3 eN B,.ref 4 0,aD .nil 512 48 eF (cH g l L layer (j+1)),.sl (.own 640 48) ((dU g l L special layer j++(jy g l L special layer j).take i).length+1) ((dU g l L special layer j++(jy g l L special layer j).take i).flatMap eF++[.v (.int .i64 5),.v (.int .i64 layer),.v (.int .i64 ((j+1:Nat):Int)),.v (.int .i64 ws)]),.sl .nil 0 [],.v (.int .i64 ((j+1:Nat):Int)),de,cK,T.import 47 wT,.v (.int .i64 ((i+1:Nat):Int)),iK,iL,a20,a21,nz,a23,a24,a25,a26],[some (eG g),none,some [.sl .nil 0 []],none,some [aD .nil 440 84 fb (bd g l L special (j+1))],none,some C,none]⟩:=by
     intro a0 a6 de cK iK iL a20 a21 nz a23 a24 a25 a26
     refine⟨a0,a6,de,cK,iK,iL,a20,a21,nz,a23,a24,a25,a26,C,⟨hC1,O8⟩, ?_⟩
     rw[hst,←List.append_assoc,bk]
     rfl
    generalize dU g l L special layer j++(jy g l L special layer j).take i=X at*
    have MJ:=lE X
    have hXC:=ll X
    have hXS:=fun d=>ot d X
    obtain⟨p1,p2⟩:(X.length+1)*32≤room∧X.length+1≤room:=by unfold room;omega
    by_cases hX:X=[]
    ·rw[hX]at aH⊢
     rw[aK]
     simp[-List.length_flatMap,-Int.natCast_add,Mb,BV,w5,hnw,Pk,QO,fC,gL,ng,bZ,hit,T.fresh,T.fresh1,T.fresh2,TE,fW4,q3,r4,O8]
     exact aH _ _ _ _ _ _ _ _ _ _ _ _ _
    ·rw[aA _ _ _ _ hX]
     simp[-List.length_flatMap,-Int.natCast_add,Mb,BV,w5,hnw,Pk,QO,fC,gL,ng,bZ,hit,T.fresh,T.fresh1,T.fresh2,TE,fW4,p1,p2,O8,MJ]
     exact aH _ _ _ _ _ _ _ _ _ _ _ _ _
   ·have vq:i=(ej g l L special j).length:=by omega
    subst vq
    have fL:(jy g l L special layer j).take (ej g l L special j).length=jy g l L special layer j:=by rw[List.take_of_length_le (by simp[jy])]
    rw[fL,←Om]
    simp[-List.length_flatMap,-Int.natCast_add,w4,fW4]
    exact⟨_,_,_,_,_,_,_,_,_,_,_,_,_,_,_,_,.inr ⟨C,rfl,hC1⟩,rfl⟩
 ·have zr:j=L.length:=by omega
  subst zr
  have bh:¬((L.length+1:Nat):Int)≤g.aw:=by omega
  have pr:=af (afw L (by omega) g.blocks)
  have Im:=G8 .clip (.inr rfl) 84 (lp (bz L) g.blocks (5*L.length))
  have an6:=zw (bz L) g.blocks (5*L.length) (by rw[mz];omega)
  unfold uX
  generalize lp (bz L) g.blocks (5*L.length)=BT at*
  have hC:=fun(C:List T) (h:∀s,aR s C=true)=>h
  have uL:cp (eG g) 2=some (.v (.int .i64 g.blocks)):=rfl
  have MI:aD .nil 440 84 fb (bd g l L special L.length)= .sl (.own 440 84) L.length ((bd g l L special L.length).flatMap fb):=by
   have zC:(bd g l L special L.length).length=L.length:=by simp[bd]
   rw[aA _ _ _ _ (by intro hh;rw[hh]at zC;simp at zC;omega),zC]
  rcases ho with rfl|⟨C,rfl,hC⟩<;>simp[-List.length_flatMap,-Int.natCast_add,bh,pr,Im,fC,gL,ng,tY,FD,C3,bZ,hit,uL,hC]
  all_goals
   refine m_loop BT.length (D4 g l L B special layer BT) ⟨_,_,_,_,_,_,_,_,_,_,_,_,_,_,_,_,_,_,_,rfl⟩ ?_
   rintro i σ hi ⟨a0,a1,a2,a4,a6,a7,cS,de,cK,cX,a17,a20,a21,nz,a23,a24,a25,a26,o,rfl⟩
   have aqE:BT.length≤1000:=by omega
   by_cases jn:i< BT.length
   ·have q9:(i:Int)< BT.length:=by omega
    have Jh:BT≠[]:=by intro hh;rw[hh]at jn;simp at jn
    have w5:IntKind.i64.wrap ((i:Int)+1)=((i+1:Nat):Int):=by rw[←Int.natCast_succ];exact aq (by omega)
    have mP:cp (BT.flatMap eP) (i*2+0)=some (.v (.int .i64 BT[i].1)):=by rw[ki Ji BT i 0 jn (by omega)];rfl
    have mS:cp (BT.flatMap eP) (i*2+1)=some (.v (.int .i64 BT[i].2)):=by rw[ki Ji BT i 1 jn (by omega)];rfl
    rw[Nat.add_zero]at mP
    have QP:=af (yo 1 layer BT[i].1 BT[i].2)
    simp only[eF]at QP
    have wP:(jM layer BT).length=BT.length:=by simp[jM]
    have hst:(jM layer BT).take (i+1)=(jM layer BT).take i++[⟨1,layer,BT[i].1,BT[i].2⟩]:=by
     rw[List.take_succ_eq_append_getElem (by omega)]
     simp[jM]
    have Oe:((jM layer BT).take i).length≤1000:=by rw[List.length_take];omega
    generalize BT[i]=ps at*
    rw[aA _ _ _ _ Jh]
    have aH:∀a0 a1 a2 a4 a6 a7 cS de cK cX a17 a20 a21 nz a23 a24 a25 a26 o,D4 g l L B special layer BT (i+1) ⟨[],[a0,a1,a2,.v (.int .i64 layer),a4,.ref 2 0,a6,a7,aD .clip 257 3 eN B,.ref 4 0,aD .nil 512 48 eF (cH g l L layer L.length),aD .nil 640 48 eF (dU g l L special layer L.length),.sl (.own 840 48) (((jM layer BT).take i).length+1) (((jM layer BT).take i).flatMap eF++[.v (.int .i64 1),.v (.int .i64 layer),.v (.int .i64 ps.1),.v (.int .i64 ps.2)]),cS,de,cK,cX,a17,.sl (.own 672 77) BT.length (BT.flatMap eP),.v (.int .i64 ((i+1:Nat):Int)),a20,a21,nz,a23,a24,a25,a26],[some (eG g),none,some [.sl .nil 0 []],none,some [aD .nil 440 84 fb (bd g l L special L.length)],none,o,none]⟩:=by
     intro a0 a1 a2 a4 a6 a7 cS de cK cX a17 a20 a21 nz a23 a24 a25 a26 o
     refine⟨a0,a1,a2,a4,a6,a7,cS,de,cK,cX,a17,a20,a21,nz,a23,a24,a25,a26,o, ?_⟩
     rw[hst,bk,aA _ _ _ _ Jh]
     rfl
    generalize (jM layer BT).take i=X at*
    have MJ:=lE X
    have hXC:=ll X
    have hXS:=fun d=>ot d X
    obtain⟨p1,p2,p3,p4⟩:(X.length+1)*32≤room∧X.length+1≤room∧32≤room∧1≤room:=by unfold room;omega
    by_cases hX:X=[]
    ·rw[hX]at aH⊢
     rw[aK]
     simp[-List.length_flatMap,-Int.natCast_add,jn,q9,w5,mP,mS,QP,fC,gL,ng,bZ,hit,T.fresh,T.fresh1,T.fresh2,p3,p4]
     exact aH _ _ _ _ _ _ _ _ _ _ _ _ _ _ _ _ _ _ _
    ·rw[aA _ _ _ _ hX]
     simp[-List.length_flatMap,-Int.natCast_add,jn,q9,w5,mP,mS,QP,fC,gL,ng,bZ,hit,T.fresh,T.fresh1,T.fresh2,p1,p2,MJ]
     exact aH _ _ _ _ _ _ _ _ _ _ _ _ _ _ _ _ _ _ _
   ·have vq:i=BT.length:=by omega
    subst vq
    have fL:(jM layer BT).take BT.length=jM layer BT:=by rw[List.take_of_length_le (by simp[jM])]
    rw[fL]
    have JZ:=vJ .clip 672 77 eP BT
    have wP:(jM layer BT).length≤1000:=by simp[jM];omega
    generalize jM layer BT=P at*
    have zq:(cH g l L layer L.length).length≤L.length:=by
     have:∀n,(cH g l L layer n).length≤n:=by
      intro n
      induction n with
      |zero=>simp[cH]
      |succ n ih=>
       rw[rf,List.length_append]
       unfold CY
       split<;>simp<;>omega
     exact this _
    have arw:(dU g l L special layer L.length).length≤1000:=by
     have:=aaM (L.length-1) (ej g l L special (L.length-1)).length (by omega) (by omega)
     have h2:=pj g l L special layer (L.length-1)
     rw[show L.length-1+1=L.length by omega]at h2
     rw[List.take_of_length_le (by simp[jy]),←h2]at this
     exact this
    have zC:(bd g l L special L.length).length=L.length:=by simp[bd]
    have hNF:=HN (bd g l L special L.length)
    have hNC:=Hj (bd g l L special L.length)
    rw[zC]at hNF
    rw[MI]
    have O9:=lE (cH g l L layer L.length)
    have hAC:=ll (cH g l L layer L.length)
    have hAS:=fun d=>ot d (cH g l L layer L.length)
    generalize hA:cH g l L layer L.length=A at*
    generalize hS:dU g l L special layer L.length=S at*
    have hPF:=lE P
    have hPC:=ll P
    have hPS:=fun d=>ot d P
    have arx:(gr layer B).length=B.length:=by simp[gr]
    obtain⟨p1,p2,p3,p4⟩:(P.length+A.length)*32≤room∧P.length+A.length≤room∧A.length*32≤room∧A.length≤room:=by unfold room;omega
    have kg:P=[]→A=[]→T.sl (.own 864 48) 0 []=T.sl (.own 864 48) ((P++A)++(gr layer B).take 0).length (((P++A)++(gr layer B).take 0).flatMap eF):=by rintro rfl rfl;rfl
    have w7:P=[]→¬A=[]→T.sl (.own 864 48) A.length (A.flatMap eF)=T.sl (.own 864 48) ((P++A)++(gr layer B).take 0).length (((P++A)++(gr layer B).take 0).flatMap eF):=by rintro rfl _;rw[List.take_zero,List.append_nil,List.nil_append]
    have hc3:¬P=[]→A=[]→T.sl (.own 864 48) P.length (P.flatMap eF)=T.sl (.own 864 48) ((P++A)++(gr layer B).take 0).length (((P++A)++(gr layer B).take 0).flatMap eF):=by rintro _ rfl;rw[List.take_zero,List.append_nil,List.append_nil]
    have hc4:¬P=[]→¬A=[]→T.sl (.own 864 48) (P.length+A.length) (P.flatMap eF++A.flatMap eF)=T.sl (.own 864 48) ((P++A)++(gr layer B).take 0).length (((P++A)++(gr layer B).take 0).flatMap eF):=by intro _ _;rw[List.take_zero,List.append_nil,List.length_append,List.flatMap_append]
    obtain⟨p5,p6⟩:P.length*32≤room∧P.length≤room:=by unfold room;omega
    generalize hR:Kr (bd g l L special L.length) (P++(A++(gr layer B++S)))=R
    have hP1:P=[]→P.length=0:=by rintro rfl;rfl
    by_cases MK:P=[]<;>by_cases tW:A=[]
    rw[MK,tW,aK,aK]
    simp[-List.length_flatMap,-Int.natCast_add,JZ,fC,gL,bZ,hit]
    rotate_left
    rw[MK,aK,aA _ _ _ _ tW]
    simp[-List.length_flatMap,-Int.natCast_add,JZ,fC,gL,bZ,hit,p3,p4,O9]
    rotate_left
    rw[tW,aK,aA _ _ _ _ MK]
    simp[-List.length_flatMap,-Int.natCast_add,JZ,fC,gL,bZ,hit,p5,p6,hPF]
    rotate_left
    rw[aA _ _ _ _ tW,aA _ _ _ _ MK]
    simp[-List.length_flatMap,-Int.natCast_add,JZ,fC,gL,bZ,hit,p1,p2,hPF,O9]
    rotate_left
    all_goals
     first|rw[kg MK tW]|rw[w7 MK tW]|rw[hc3 MK tW]|rw[hc4 MK tW]
     refine m_loop B.length (D6 g l L B special layer (P++A)) ⟨_,_,_,_,_,_,_,_,_,_,_,_,_,_,_,_,_,_,_,_,_,_,.inl rfl,by rw[MI,hS];rfl⟩ ?_
     rintro i σ hi ⟨a0,a1,a2,a4,a6,a7,db,cS,de,cK,cX,a17,iK,iL,a21,nz,a23,a24,a25,a26,o,k,hk,rfl⟩
     have adN:=vJ .clip 257 3 eN B
     have Lz:((P++A)++(gr layer B).take i).length≤3000:=by rw[List.length_append,List.length_append,List.length_take];omega
     rw[MI,hS]
     by_cases VS:i< B.length
     ·have akX:(i:Int)< B.length:=by omega
      have Pf:B≠[]:=by intro hh;rw[hh]at VS;simp at VS
      have w5:IntKind.i64.wrap ((i:Int)+1)=((i+1:Nat):Int):=by rw[←Int.natCast_succ];exact aq (by omega)
      have dm:=Je B i VS
      have aaN:=af (yo 4 layer B[i] (-1))
      simp only[eF]at aaN
      have hst:(gr layer B).take (i+1)=(gr layer B).take i++[⟨4,layer,B[i],-1⟩]:=by
       rw[List.take_succ_eq_append_getElem (by omega)]
       simp[gr]
      generalize B[i]=bi at*
      rw[aA _ _ _ _ Pf]
      have aH:∀a0 a1 a2 a4 a6 a7 db cS de cK cX a17 iK iL a21 nz a23 a24 a25 a26 o,∀W,W=P++A++(gr layer B).take i→D6 g l L B special layer (P++A) (i+1) ⟨[],[a0,a1,a2,.v (.int .i64 layer),a4,.ref 2 0,a6,a7,.sl (.own 257 3) B.length (B.flatMap eN),.ref 4 0,db,aD .nil 640 48 eF S,.sl (.own 984 48) (W.length+1) (W.flatMap eF++[.v (.int .i64 4),.v (.int .i64 layer),.v (.int .i64 bi),.v (.int .i64 (-1))]),cS,de,cK,cX,a17,iK,iL,.v (.int .i64 ((i+1:Nat):Int)),a21,nz,a23,a24,a25,a26],[some (eG g),none,some [.sl .nil 0 []],none,some [.sl (.own 440 84) L.length ((bd g l L special L.length).flatMap fb)],none,o,none]⟩:=by
       rintro a0 a1 a2 a4 a6 a7 db cS de cK cX a17 iK iL a21 nz a23 a24 a25 a26 o W rfl
       refine⟨a0,a1,a2,a4,a6,a7,db,cS,de,cK,cX,a17,iK,iL,a21,nz,a23,a24,a25,a26,o,984,.inr rfl, ?_⟩
       rw[hst,←List.append_assoc (P++A),MI,hS,aA _ _ _ _ Pf,acY]
       rfl
      replace aH:=fun a0 a1 a2 a4 a6 a7 db cS de cK cX a17 iK iL a21 nz a23 a24 a25 a26 o=>aH a0 a1 a2 a4 a6 a7 db cS de cK cX a17 iK iL a21 nz a23 a24 a25 a26 o _ rfl
      generalize P++A++(gr layer B).take i=W at*
      have MJ:=lE W
      have hXC:=ll W
      have hXS:=fun d=>ot d W
      obtain⟨q1,q2,q3,q4⟩:(W.length+1)*32≤room∧W.length+1≤room∧32≤room∧1≤room:=by unfold room;omega
      rcases hk with rfl|rfl<;>simp[-List.length_flatMap,-Int.natCast_add,VS,akX,w5,dm,aaN,gL,bZ,hit,T.fresh,T.fresh1,T.fresh2,q1,q2,MJ]
      all_goals exact aH _ _ _ _ _ _ _ _ _ _ _ _ _ _ _ _ _ _ _ _ _
     ·have vq:i=B.length:=by omega
      subst vq
      have fL:(gr layer B).take B.length=gr layer B:=by rw[List.take_of_length_le (by simp[gr])]
      rw[fL]at Lz⊢
      have DF:R=Kr (bd g l L special L.length) (P++A++gr layer B++S):=by rw[←hR,List.append_assoc,List.append_assoc]
      rw[DF]
      generalize P++A++gr layer B=W at*
      have MJ:=lE W
      have hXC:=ll W
      have hXS:=fun d=>ot d W
      have hSF:=lE S
      have hSC:=ll S
      have Lc:=fun d=>ot d S
      obtain⟨q1,q2,q3,q4,q5,q6⟩:(W.length+S.length)*32≤room∧W.length+S.length≤room∧S.length*32≤room∧S.length≤room∧W.length*32≤room∧W.length≤room:=by unfold room;omega
      by_cases DD:S=[]
      ·rw[DD,aK]
       rcases hk with rfl|rfl<;>simp[-List.length_flatMap,-Int.natCast_add,adN,fC,bZ,hit,q5,q6,MJ]
       all_goals (rw[Kr];simp[-List.length_flatMap];exact⟨⟨rfl,zC.symm⟩,rfl⟩)
      ·rw[aA _ _ _ _ DD]
       rcases hk with rfl|rfl<;>simp[-List.length_flatMap,-Int.natCast_add,adN,fC,bZ,hit,q1,q2,MJ,hSF]
       all_goals (rw[Kr];simp[-List.length_flatMap,List.flatMap_append];exact⟨⟨rfl,zC.symm⟩,rfl⟩)
end Go.Vi.Sz
end
