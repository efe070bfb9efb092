/-
  A claim's own text, joined by a small program out of: H2, H3, H4, H5, H6, H7, H8, H9, H10.
-/
import Derived.Test.YtodollbkpkpklaaGreatY4
import Derived.Test.YtodollbkpkpklaaGreatY5
set_option linter.unusedVariables false
set_option linter.unusedSimpArgs false
section
set_option maxRecDepth 100000
namespace Go.Vi.Sz
open Go Go.Vi Go.Vi.Zz
@[simp] theorem aqd(s:List UInt8):(ByteArray.mk s.toArray).size=s.length:=by show s.toArray.size=_;simp
theorem Tw{E:Env}{f:FuncId}{g:List T→Option T}{args:List T}{r:T}(hp:E.kF f=some g)(h:g args=some r):Ev E f args r:=⟨1,by simp only[aV,hp,h]⟩
def kC(s:List UInt8):Bool:=decide (1≤s.length)&&decide (s.length≤12)&& !(s==[46])&& !(s==[46,46])&&s.all (fun b=>eX b.toNat)
theorem Qv(s:List UInt8):Ev E pk [.v (.string ⟨s.toArray⟩),.v (.func (.func iB) #[] #[])] (.v (.int .i64 (Lib.idxFunc (fun c=> !eX c) true ⟨s.toArray⟩))):=by
 refine aB (fn:=l5) rfl (by decide) rfl rfl rfl ?_
 have h:dI E jB [.v (.string ⟨s.toArray⟩),.v (.func (.func iB) #[] #[]),.v (.bool true)]=some (.v (.int .i64 (Lib.idxFunc (fun c=> !eX c) true ⟨s.toArray⟩))):=af (Tw (g:=Po) rfl (by simp[Po]))
 simp[l5,h]
theorem zD(s:List UInt8):Ev E pP [.v (.string ⟨s.toArray⟩)] (.v (.bool (kC s))):=by
 refine aB (fn:=ka) rfl (by decide) rfl rfl rfl ?_
 have h:=af (Qv s)
 have hi:decide (Lib.idxFunc (fun c=> !eX c) true ⟨s.toArray⟩< 0)=s.all (fun b=>eX b.toNat):=by
  rw[Bool.eq_iff_iff,decide_eq_true_iff]
  exact Rx s
 have e1:(ByteArray.mk #[46])=⟨[46].toArray⟩:=rfl
 have e2:(ByteArray.mk #[46,46])=⟨[46,46].toArray⟩:=rfl
 unfold kC
 by_cases c1:s.length=0
 ·have:s=[]:=List.length_eq_zero_iff.1 c1
  subst this
  simp[ka,cd]
 have d1:((s.length:Int)==0)=false:=by rw[beq_eq_false_iff_ne];omega
 have f1:1≤s.length:=by omega
 by_cases c2:12< s.length
 ·have f2:¬s.length≤12:=by omega
  have c2:(12:Int)< s.length:=by omega
  simp[ka,cd,d1,c2,f2]
 have f2:s.length≤12:=by omega
 have c2:¬(12:Int)< s.length:=by omega
 cases c3:(s==[46])
 ·cases c4:(s==[46,46])
  ·simp[ka,h,cd,d1,f1,f2,c2,c3,c4,hi,bin_eqs,-beq_eq_false_iff_ne]
  ·simp[ka,cd,d1,f1,f2,c2,c3,c4,bin_eqs,-beq_iff_eq]
 ·simp[ka,cd,d1,f1,f2,c2,c3,bin_eqs,-beq_iff_eq]
theorem VD(b:UInt8):Ev E vA [.v (.int .u8 b.toNat)] (.v (.bool (eX b.toNat))):=by
 refine aB (fn:=qU) rfl (by decide) rfl rfl rfl ?_
 generalize b.toNat=x
 unfold eX
 simp[qU]
 repeat' (first|refine kB (fun h=> ?_) (fun h=> ?_)|refine pg (fun h=> ?_) (fun h=> ?_))<;>simp[*]
 all_goals
  simp only[decide_eq_true_eq,decide_eq_false_iff_not,beq_iff_eq,beq_eq_false_iff_ne,ne_eq]at*
  first
  |omega
  |(rw[Bool.eq_iff_iff];simp only[Bool.or_eq_true,Bool.and_eq_true,decide_eq_true_eq,beq_iff_eq];omega)
def RrI(s:List UInt8)(j:Nat)(σ:St):Prop:=(s.take j).all (fun b=>eX b.toNat)=true∧∃a b c d,σ=⟨[],[.v (.string ⟨s.toArray⟩),a,.v (.int .i64 j),b,c,d],[]⟩
theorem DS(s:List UInt8):Ev E sT [.v (.string ⟨s.toArray⟩)] (.v (.bool (kC s))):=by
 refine aB (fn:=jt) rfl (by decide) rfl rfl rfl ?_
 have e1:(ByteArray.mk #[46])=⟨[46].toArray⟩:=rfl
 have e2:(ByteArray.mk #[46,46])=⟨[46,46].toArray⟩:=rfl
 unfold kC
 by_cases c1:s.length=0
 ·have:s=[]:=List.length_eq_zero_iff.1 c1
  subst this
  simp[jt,cd]
 have d1:¬((s.length:Int)< 1):=by omega
 have f1:1≤s.length:=by omega
 by_cases c2:12< s.length
 ·have f2:¬s.length≤12:=by omega
  have c2:(12:Int)< s.length:=by omega
  simp[jt,cd,d1,c2,f2]
 have f2:s.length≤12:=by omega
 have c2:¬(12:Int)< s.length:=by omega
 cases c3:(s==[46])
 ·cases c4:(s==[46,46])
  ·simp[jt,cd,d1,f1,f2,c2,c3,c4,bin_eqs,-beq_eq_false_iff_ne]
   refine m_loop s.length (RrI s) ⟨rfl,_,_,_,_,rfl⟩ ?_
   rintro j σ hj ⟨Fj,a,b,c,d,rfl⟩
   by_cases hlt:j< s.length
   ·have bh:(j:Int)< s.length:=by omega
    have w4:IntKind.i64.wrap ((j:Int)+1)=((j+1:Nat):Int):=by rw[←Int.natCast_succ];exact aq (by omega)
    have hl:=af (VD s[j])
    have hst:s.take (j+1)=s.take j++[s[j]]:=by rw[List.take_succ_eq_append_getElem hlt]
    have kM:s[j]∈s:=List.getElem_mem hlt
    cases hL:eX s[j].toNat
    ·have hf:s.all (fun b=>eX b.toNat)=false:=by rw[List.all_eq_false];exact⟨_,kM,by simp[hL]⟩
     rw[hL]at hl
     simp[-Int.natCast_add,cd,hlt,bh,hl,hf,-List.all_eq_false]
    ·rw[hL]at hl
     have hn:RrI s (j+1)=RrI s (j+1):=rfl
     simp[-Int.natCast_add,cd,hlt,bh,hl,w4]
     exact⟨by rw[hst,List.all_append,Fj];simp[hL],_,_,_,_,rfl⟩
   ·have:j=s.length:=by omega
    subst this
    rw[List.take_length]at Fj
    simp[cd,Fj,-List.all_eq_true]
  ·simp[jt,cd,d1,f1,f2,c2,c3,c4,bin_eqs,-beq_iff_eq]
 ·simp[jt,cd,d1,f1,f2,c2,c3,bin_eqs,-beq_iff_eq]
end Go.Vi.Sz
end
section
set_option maxRecDepth 100000
namespace Go.Vi.Sz
open Go Go.Vi Go.Vi.Zz
def fP(s:List UInt8):List UInt8:=UInt8.ofNat s.length::(s++List.replicate (13-s.length) 0)
theorem Ao{s:List UInt8}(h:s.length≤13):(fP s).length=14:=by simp[fP];omega
theorem Ap{s:List UInt8}(h:kC s=true):1≤s.length∧s.length≤12:=by
 simp only[kC,Bool.and_eq_true,decide_eq_true_eq]at h
 exact⟨h.1.1.1.1,h.1.1.1.2⟩
theorem aay(s:List UInt8):s.map (fun b=>T.u8 b.toNat)=s.flatMap eB:=by
 induction s with
 |nil=>rfl
 |cons b s ih=>rw[List.map_cons,List.flatMap_cons,ih];rfl
theorem Qw(n:Nat):(List.replicate n (0:UInt8)).flatMap eB=List.replicate n (.v (.int .u8 0)):=by
 induction n with
 |zero=>rfl
 |succ n ih=>rw[List.replicate_succ,List.flatMap_cons,ih,List.replicate_succ];rfl
theorem afj(k:UInt8)(s:List UInt8):setCells (.v (.int .u8 k.toNat)::List.replicate 13 (.v (.int .u8 0))) 1 (s.flatMap eB)=(k::(s++List.replicate (13-s.length) 0)).flatMap eB:=by
 unfold setCells
 rw[bK,Nat.add_comm 1,List.drop_succ_cons,List.drop_replicate,List.flatMap_cons,List.flatMap_append,Qw]
 rfl
theorem Tx(s:List UInt8):Ev E vY [.v (.string ⟨s.toArray⟩)] (if kC s then sl eB (fP s)else .sl .nil 0 []):=by
 refine aB (fn:=sc) rfl (by decide) rfl rfl rfl ?_
 have h:=af (zD s)
 cases hb:kC s
 ·simp[sc,h,hb]
 ·have hl:=Ap hb
  have w8:=wrap_u8 (n:=s.length) (by omega)
  have hp:=Ao (s:=s) (by omega)
  unfold fP at hp⊢
  generalize UInt8.ofNat s.length=k at*
  simp[sc,h,hb,cd,w8,asNat]
  have rD:=afj k s
  simp only[List.reduceReplicate]at rD
  have Ny:min s.length 13=s.length:=by omega
  have fL:(s.flatMap eB).take s.length=s.flatMap eB:=by rw[List.take_of_length_le (by rw[bK];omega)]
  have hP:=bK (k::(s++List.replicate (13-s.length) 0))
  rw[hp]at hP
  have hd:sl eB (k::(s++List.replicate (13-s.length) 0))= .sl .any 14 ((k::(s++List.replicate (13-s.length) 0)).flatMap eB):=by rw[sl,hp]
  rw[hd]
  have bV:=fun bx n=>wy bx n (k::(s++List.replicate (13-s.length) 0))
  generalize (k::(s++List.replicate (13-s.length) 0)).flatMap eB=P at*
  have hm:=aay s
  rw[bE rfl]
  simp[-List.length_flatMap,ae,hm,bK,Ny,fL,rD,hP]
  rw[List.take_of_length_le (by omega)]
  exact bV _ 6
def RpI(s:List UInt8)(P:List UInt8)(j:Nat)(σ:St):Prop:=∃a k c d e,(k=88∨k=200∨k=224)∧σ=⟨[],[.v (.string ⟨s.toArray⟩),a,.sl (.own k 5) (j+1) ((P.take (j+1)).flatMap eB),.v (.int .i64 j),c,d,e],[]⟩
theorem acE(s:List UInt8):Ev E uk [.v (.string ⟨s.toArray⟩)] (if kC s then jD (fP s)else .sl .nil 0 []):=by
 refine aB (fn:=pV) rfl (by decide) rfl rfl rfl ?_
 have h:=af (DS s)
 cases hb:kC s
 ·simp[pV,h,hb]
 ·have hl:=Ap hb
  have w8:=wrap_u8 (n:=s.length) (by omega)
  have hp:=Ao (s:=s) (by omega)
  have hg:∀j,j< 13→(h:j+1< (fP s).length)→(∀hs:j< s.length,s[j]=(fP s)[j+1])∧(¬j< s.length→(fP s)[j+1]=0):=by
   intro j hj h14
   constructor
   ·intro hlt
    simp[fP,hlt]
   ·intro Bm
    simp only[fP,List.getElem_cons_succ]
    rw[List.getElem_append_right (by omega),List.getElem_replicate]
  have h0:(fP s).take 1=[UInt8.ofNat s.length]:=rfl
  generalize fP s=P at*
  generalize UInt8.ofNat s.length=k at*
  simp[pV,h,hb,cd,w8]
  refine m_loop 13 (RpI s P) ⟨_,_,_,_,_,.inl rfl,by rw[h0];rfl⟩ ?_
  rintro j σ hj ⟨a,k',c,d,e,hk,rfl⟩
  by_cases hlt:j< 13
  ·have bh:(j:Int)< 13:=by omega
   have w4:IntKind.i64.wrap ((j:Int)+1)=((j+1:Nat):Int):=by rw[←Int.natCast_succ];exact aq (by omega)
   obtain⟨g1,g2⟩:=hg j hlt (by omega)
   have hst:P.take (j+1+1)=P.take (j+1)++[P[j+1]]:=by rw[List.take_succ_eq_append_getElem]
   have bV:=lq (P.take (j+1))
   have Hg:(P.take (j+1)).length=j+1:=by rw[List.length_take];omega
   have HY:=bK (P.take (j+1))
   rw[Hg]at HY
   have hr:j+1+1≤room:=by unfold room;omega
   have aH:∀a k c d e,(k=88∨k=200∨k=224)→RpI s P (j+1) ⟨[],[.v (.string ⟨s.toArray⟩),a,.sl (.own k 5) (j+1+1) ((P.take (j+1)).flatMap eB++[.v (.int .u8 P[j+1].toNat)]),.v (.int .i64 ((j+1:Nat):Int)),c,d,e],[]⟩:=by
    intro a k c d e hk
    refine⟨a,k,c,d,e,hk, ?_⟩
    rw[hst,List.flatMap_append]
    rfl
   by_cases Qx:j< s.length
   ·have HZ:(j:Int)< s.length:=by omega
    have g1:=g1 Qx
    rcases hk with rfl|rfl|rfl<;>simp[-Int.natCast_add,-List.length_flatMap,bh,hlt,cd,HZ,Qx,g1,HY,hr,w4,hit,aH]
   ·have HZ:¬(j:Int)< s.length:=by omega
    have g2:=g2 Qx
    rw[g2]at aH
    replace aH:∀a k c d e,(k=88∨k=200∨k=224)→RpI s P (j+1) ⟨[],[.v (.string ⟨s.toArray⟩),a,.sl (.own k 5) (j+1+1) ((P.take (j+1)).flatMap eB++[.v (.int .u8 0)]),.v (.int .i64 ((j+1:Nat):Int)),c,d,e],[]⟩:=aH
    rcases hk with rfl|rfl|rfl<;>simp[-Int.natCast_add,-List.length_flatMap,bh,hlt,cd,HZ,HY,hr,w4,hit,aH]
  ·have:j=13:=by omega
   subst this
   have ht:P.take (13+1)=P:=by rw[List.take_of_length_le (by omega)]
   rcases hk with rfl|rfl|rfl<;>simp[ht,jD,hp,List.idxOf?]
end Go.Vi.Sz
end
section
set_option maxRecDepth 100000
namespace Go.Vi.Sz
open Go Go.Vi Go.Vi.Zz
def vg(b:List UInt8):Option (List UInt8):=if(b.headD 0).toNat≤12∧kC ((b.drop 1).take (b.headD 0).toNat)=true∧fP ((b.drop 1).take (b.headD 0).toNat)=b then some ((b.drop 1).take (b.headD 0).toNat)else none
def Ft(o:Option (List UInt8)):T:= .al [.v (.string ⟨(o.getD []).toArray⟩),.v (.bool o.isSome)]
theorem Qy{b:List UInt8}(h:¬((b.headD 0).toNat≤12∧kC ((b.drop 1).take (b.headD 0).toNat)=true∧fP ((b.drop 1).take (b.headD 0).toNat)=b)):vg b=none:=by
 unfold vg;rw[if_neg h]
theorem aaz(b:List UInt8)(hl:b.length=14):Ev E xy [sl eB b] (Ft (vg b)):=by
 refine aB (fn:=oX) rfl (by decide) rfl rfl rfl ?_
 have kY:cp (b.flatMap eB) 0=some (.v (.int .u8 (b.headD 0).toNat)):=by
  rw[show b.headD 0=b[0] by cases b with|nil=>simp at hl|cons x l=>rfl]
  exact xg b 0 (by omega)
 have hlt:=(b.headD 0).toNat_lt
 have hn:=Qy (b:=b)
 unfold Ft
 generalize hk:(b.headD 0).toNat=k at*
 by_cases h1:12< k
 ·rw[hn (by omega)]
  have zE:(12:Int)< k:=by omega
  simp[-List.length_flatMap,oX,hl,kY,zE]
 have zE:¬(12:Int)< k:=by omega
 have w8:IntKind.u8.wrap (1+(k:Int))=((k+1:Nat):Int):=by rw[IntKind.wrap_u8];omega
 have AU:bM .add 5 (.v (.int .u8 1)) (.v (.int .u8 (k:Int)))=some (.v (.int .u8 ((k+1:Nat):Int))):=by
  show some (T.v (Value.int .u8 (IntKind.u8.wrap (1+(k:Int)))))=_
  rw[w8]
 have dh:1≤k+1∧k+1≤14:=by omega
 have hr:=af (zD ((b.drop 1).take k))
 have hp:=af (Tx ((b.drop 1).take k))
 have he:dI E cf [.sl .any (fP ((b.drop 1).take k)).length ((fP ((b.drop 1).take k)).flatMap eB),sl eB b]=some (.v (.bool (decide (fP ((b.drop 1).take k)=b)))):=af (AW _ b)
 have iQ:k+1-1=k:=by omega
 have hs:vg b=if k≤12∧kC ((b.drop 1).take k)=true∧fP ((b.drop 1).take k)=b then some ((b.drop 1).take k)else none:=by unfold vg;rw[hk]
 generalize hS:(b.drop 1).take k=s at*
 simp[-List.length_flatMap,oX,hl,kY,zE,AU,dh,hS,iQ,asNat,-Int.natCast_add,-List.drop_one]
 rw[ub _ _ _ _ s rfl]
 cases hR:kC s
 ·rw[hn (by rw[hR];simp)]
  rw[hR]at hr
  simp[-List.length_flatMap,hr]
 ·rw[hR]at hr hp
  by_cases hq:fP s=b
  ·rw[decide_eq_true hq]at he
   rw[hs,if_pos ⟨by omega,hR,hq⟩]
   rw[if_pos rfl]at hp
   simp only[sl]at hp
   generalize fP s=p at*
   simp[-List.length_flatMap,hr,hp,he,T.fresh,T.fresh2]
  ·rw[decide_eq_false hq]at he
   rw[hn (fun h=>hq h.2.2)]
   rw[if_pos rfl]at hp
   simp only[sl]at hp
   generalize fP s=p at*
   simp[-List.length_flatMap,hr,hp,he,T.fresh,T.fresh2]
def UpI(b:List UInt8)(p:T)(P:List UInt8)(s:List UInt8)(j:Nat)(σ:St):Prop:=P.take j=b.take j∧∃a c d e f g,σ=⟨[],[sl eB b,a,c,.v (.string ⟨s.toArray⟩),p,.v (.int .i64 j),d,e,f,g],[]⟩
theorem VE(b:List UInt8)(hl:b.length=14):Ev E vz [sl eB b] (Ft (vg b)):=by
 refine aB (fn:=nG) rfl (by decide) rfl rfl rfl ?_
 have kY:cp (b.flatMap eB) 0=some (.v (.int .u8 (b.headD 0).toNat)):=by
  rw[show b.headD 0=b[0] by cases b with|nil=>simp at hl|cons x l=>rfl]
  exact xg b 0 (by omega)
 have hlt:=(b.headD 0).toNat_lt
 have hn:=Qy (b:=b)
 unfold Ft
 generalize hk:(b.headD 0).toNat=k at*
 have wk:IntKind.i64.wrap (k:Int)=k:=aq (by omega)
 by_cases h1:12< k
 ·rw[hn (by omega)]
  have zE:(12:Int)< k:=by omega
  simp[-List.length_flatMap,nG,hl,kY,zE,wk]
 have zE:¬(12:Int)< k:=by omega
 have w8:IntKind.i64.wrap (1+(k:Int))=((k+1:Nat):Int):=by rw[show 1+(k:Int)=((k+1:Nat):Int) by omega];exact aq (by omega)
 have dh:1≤k+1∧k+1≤14:=by omega
 have hp:=af (acE ((b.drop 1).take k))
 have iQ:k+1-1=k:=by omega
 have hs:vg b=if k≤12∧kC ((b.drop 1).take k)=true∧fP ((b.drop 1).take k)=b then some ((b.drop 1).take k)else none:=by unfold vg;rw[hk]
 have wP:=fun h=>Ao (s:=(b.drop 1).take k) h
 generalize hS:(b.drop 1).take k=s at*
 simp[-List.length_flatMap,nG,hl,kY,zE,wk,w8,dh,hS,iQ,asNat,-Int.natCast_add,-List.drop_one]
 rw[ub _ _ _ _ s rfl]
 cases hR:kC s
 ·rw[hn (by rw[hR];simp)]
  rw[hR,if_neg (by decide)]at hp
  simp[-List.length_flatMap,hp]
 ·rw[hR,if_pos rfl]at hp
  have wP:=wP (by have:=Ap hR;omega)
  simp only[jD,wP]at hp
  generalize fP s=P at*
  simp[-List.length_flatMap,hp]
  refine m_loop 14 (UpI b (.sl (.own 208 5) 14 (P.flatMap eB)) P s) ⟨rfl,_,_,_,_,_,_,rfl⟩ ?_
  rintro j σ hj ⟨ht,a,c,d,e,f,g,rfl⟩
  by_cases hlt:j< 14
  ·have bh:(j:Int)< 14:=by omega
   have hjP:j< P.length:=by omega
   have hjb:j< b.length:=by omega
   have w4:IntKind.i64.wrap ((j:Int)+1)=((j+1:Nat):Int):=by rw[←Int.natCast_succ];exact aq (by omega)
   have hst:P.take (j+1)=P.take j++[P[j]]:=by rw[List.take_succ_eq_append_getElem hjP]
   have VA:b.take (j+1)=b.take j++[b[j]]:=by rw[List.take_succ_eq_append_getElem hjb]
   have hnP:=xg P j hjP
   have ha:dY 1 (.sl (.own 208 5) 14 (P.flatMap eB)) (.v (.int .i64 (j:Int)))=some (.ptr (P.flatMap eB) (j*1)):=by
    show(if 0≤(j:Int)∧(j:Int).toNat< 14 then some (T.ptr (P.flatMap eB) ((j:Int).toNat*1))else none)=_
    rw[if_pos (by omega),Int.toNat_natCast]
   by_cases he:P[j]=b[j]
   ·simp[-List.length_flatMap,-Int.natCast_add,bh,hlt,w4,he,ha,hnP,hl]
    exact⟨by rw[hst,VA,ht,he],_,_,_,_,_,_,rfl⟩
   ·have hne:¬P=b:=fun h=>he (by subst h;rfl)
    have hb:((P[j].toNat:Int) !=(b[j].toNat:Int))=true:=by
     simp only[bne_iff_ne,ne_eq,Int.natCast_inj]
     exact fun h=>he (UInt8.toNat.inj h)
    rw[hn (fun h=>hne h.2.2)]
    simp[-List.length_flatMap,-Int.natCast_add,bh,hlt,hb,ha,hnP,hl]
  ·have:j=14:=by omega
   subst this
   have he:P=b:=by rw[←List.take_of_length_le (l:=P) (by omega:P.length≤14),ht,List.take_of_length_le (by omega)]
   rw[hs,if_pos ⟨by omega,hR,he⟩]
   simp[-List.length_flatMap]
end Go.Vi.Sz
end
section
set_option maxRecDepth 100000
namespace Go.Vi.Sz
open Go Go.Vi Go.Vi.Zz
structure bQ where
 slot:Int
 ino:Int
 name:List UInt8
deriving DecidableEq
def eE(e:bQ):List T:=[.v (.int .i64 e.slot),.v (.int .i64 e.ino),.v (.string ⟨e.name.toArray⟩)]
def AZ:bQ:=⟨0,0,[]⟩
@[simp] theorem Jb(e:bQ):(eE e).length=3:=rfl
def tB(e:bQ):Bool:=decide (0≤e.slot)&&decide (e.slot< 16)&&decide (0< e.ino)&&decide (e.ino≤65535)&&kC e.name
theorem Ry(e:bQ):Ev E xA [.agg (eE e)] (.v (.bool (tB e))):=by
 refine aB (fn:=ta) rfl (by decide) rfl rfl rfl ?_
 have h:=af (zD e.name)
 unfold tB
 simp[ta,eE]
 repeat' (refine kB (fun h=> ?_) (fun h=> ?_)<;>simp[*])
theorem Qz(e:bQ):Ev E oQ [.agg (eE e)] (.v (.bool (tB e))):=by
 refine aB (fn:=s8) rfl (by decide) rfl rfl rfl ?_
 have h:=af (DS e.name)
 unfold tB
 rw[show decide (0< e.ino)=decide (1≤e.ino)from rfl]
 simp[s8,eE]
 repeat' (refine kB (fun h=> ?_) (fun h=> ?_)<;>simp[*])
def H0(e:bQ):List UInt8:=leB e.ino.toNat 2++fP e.name
theorem E6{e:bQ}(h:tB e=true):(0≤e.slot∧e.slot< 16)∧(0< e.ino∧e.ino≤65535)∧kC e.name=true:=by
 simp only[tB,Bool.and_eq_true,decide_eq_true_eq]at h
 exact⟨⟨h.1.1.1.1,h.1.1.1.2⟩,⟨h.1.1.2,h.1.2⟩,h.2⟩
theorem Mz(e:bQ):Ev E lr [.agg (eE e)] (if tB e then .al [jD (H0 e),.v (.int .i64 0)]else .al [.sl .nil 0 [],.v (.int .i64 1)]):=by
 refine aB (fn:=pd) rfl (by decide) rfl rfl rfl ?_
 have h:=af (Ry e)
 cases hb:tB e
 ·rw[hb]at h
  simp only[eE]at h
  simp[pd,eE,h]
 ·obtain⟨_,hi,hn⟩:=E6 hb
  have hl:=Ap hn
  have hp:=af (Tx e.name)
  have wP:=Ao (s:=e.name) (by omega)
  have ep:=af (JK [] (by simp) e.ino 2 (by omega))
  have hrN:gV e.ino 2=true:=by
   simp only[gV,wid,Bool.and_eq_true,decide_eq_true_eq]
   exact⟨⟨rfl,by omega⟩,Int.lt_of_le_of_lt hi.2 (by decide)⟩
  have e1:zB [] e.ino 2=leB e.ino.toNat 2:=by rw[zB,if_pos hrN];rfl
  rw[e1]at ep
  rw[hn,if_pos rfl]at hp
  rw[hb]at h
  unfold H0
  simp only[eE]at h
  obtain⟨x,y,e2⟩:=AY e.ino.toNat
  rw[e2]at ep⊢
  have bV:=lq (fP e.name)
  have Hg:=bK (fP e.name)
  generalize fP e.name=P at*
  rw[wP]at Hg
  have ep:dI E j2 [.sl .any 0 [],.v (.int .i64 e.ino),.v (.int .i64 2)]=some (.sl (.own 0 5) 2 [.v (.int .u8 x.toNat),.v (.int .u8 y.toNat)]):=ep
  simp only[sl,wP]at hp
  simp[pd,eE,h,ep,hp,wP,Hg,room,hit,-List.length_flatMap,jD,eB,List.idxOf?]
theorem afk(l:List UInt8):leB (mg l) l.length=l:=by
 induction l with
 |nil=>rfl
 |cons b l ih=>
  have hb:=b.toNat_lt
  rw[List.length_cons,leB,mg]
  have h1:(b.toNat+256*mg l)%256=b.toNat:=by omega
  have h2:(b.toNat+256*mg l) / 256=mg l:=by omega
  rw[h1,h2,ih]
  congr 1
  exact UInt8.ofNat_toNat
theorem QA:∀(l:List UInt8),cw (List.replicate l.length .int) (l.flatMap eB) (List.replicate l.length (.v (.int .u8 0)))=some (decide (l=List.replicate l.length 0))
 | []=>rfl
 |b::l=>by
  rw[List.length_cons,List.replicate_succ,List.replicate_succ,List.replicate_succ,List.flatMap_cons]
  simp only[eB,List.cons_append,List.nil_append]
  rw[Rn,QA l]
  rw[Option.map_some,Option.some.injEq,Bool.eq_iff_iff]
  simp only[Bool.and_eq_true,beq_iff_eq,decide_eq_true_eq,List.cons.injEq]
  constructor
  ·rintro⟨h1,h2⟩
   exact⟨UInt8.toNat.inj (by simpa using h1),h2⟩
  ·rintro⟨h1,h2⟩
   exact⟨by rw[h1];rfl,h2⟩
section
variable{E:Env}{k:List Fr}{Q:Out→Prop}{outs:List (Option Nat)}{rest:nQ}(rs vars:List T)(bx:List (Option (List T)))
theorem Ty(a:ag)(len:Nat)(c:List UInt8)(h:a.get ⟨rs,vars,bx⟩=sl eB c)(hn:len≤c.length∧0< c.length):O E ((none,.arrOf len a)::rest) outs k ⟨rs,vars,bx⟩ Q=O E rest outs k ⟨snoc rs (.ptr (c.flatMap eB) 0),vars,bx⟩ Q:=by
 have hr:ae C0 ⟨rs,vars,bx⟩ (.arrOf len a)=some (.ptr (c.flatMap eB) 0,⟨rs,vars,bx⟩):=by
  simp only[ae,h,sl]
  rw[if_pos hn]
 rw[bE rfl,hr,BQ]
end
def Cf:List UInt8:=List.replicate 16 0
def nR(b:List UInt8)(slot:Int):Option (Option bQ):=if b=Cf then some none else match vg (b.drop 2)with
 |some s=>if tB ⟨slot,bf b 0 2,s⟩then some (some ⟨slot,bf b 0 2,s⟩)else none
 |none=>none
def gW(o:Option (Option bQ)):T:= .al [.agg (eE ((o.getD none).getD AZ)),.v (.bool (o.getD none).isSome),.v (.bool o.isSome)]
theorem Gj:eE AZ=[.v (.int .i64 0),.v (.int .i64 0),.v (.string ⟨#[]⟩)]:=rfl
theorem acF{b s:List UInt8}(h:vg b=some s):kC s=true∧fP s=b:=by
 unfold vg at h
 split at h
 ·rename_i hc
  simp only[Option.some.injEq]at h
  subst h
  exact hc.2
 ·cases h
theorem QB{b:List UInt8}(hl:b.length=16){slot:Int}{s:List UInt8}(h:vg (b.drop 2)=some s):H0 ⟨slot,bf b 0 2,s⟩=b:=by
 have h2:=(acF h).2
 have e:leB (mg (b.take 2)) 2=b.take 2:=by
  have:=afk (b.take 2)
  rw[List.length_take,Nat.min_eq_left (by omega)]at this
  exact this
 show leB ((mg (b.take 2):Nat):Int).toNat 2++fP s=b
 rw[Int.toNat_natCast,e,h2,List.take_append_drop]
theorem aaA(b:List UInt8)(hl:b.length=16)(slot:Int):Ev E gP [sl eB b,.v (.int .i64 slot)] (gW (nR b slot)):=by
 refine aB (fn:=jU) rfl (by decide) rfl rfl rfl ?_
 have hz:=QA b
 rw[hl]at hz
 have vO:=af (ni b (by omega) 0 2)
 have L7:AV b 0 2= .al [.v (.int .i64 (bf b 0 2)),.v (.bool true)]:=by
  unfold AV
  rw[hl,if_pos (by rfl)]
  rfl
 rw[L7]at vO
 have xc:=af (aaz (b.drop 2) (by simp;omega))
 have bF:one? true 16 (b.flatMap eB) 0=some (.agg (b.flatMap eB)):=by
  unfold one?
  rw[if_pos rfl,if_pos (by rw[bK];omega),List.drop_zero,List.take_of_length_le (by rw[bK];omega)]
 have KY:ti 1 (sl eB b) (some 2) (some (oK (sl eB b))) (some (oK (sl eB b))) false=some (sl eB (b.drop 2)):=by
  have ht:oK (sl eB b)=b.length:=rfl
  rw[Tt,ht,if_pos (by omega),List.take_of_length_le (by simp)]
 have o8:=Gj
 have bV:=lq b
 have hf:Option.filter T.closed (some (T.agg (b.flatMap eB)))=some (T.agg (b.flatMap eB)):=b7 (by simp[bV])
 unfold nR gW
 rw[show List.replicate 16 (0:UInt8)=Cf from rfl]at hz
 simp only[List.reduceReplicate]at hz
 by_cases h0:b=Cf
 ·rw[decide_eq_true h0]at hz
  rw[if_pos h0]
  simp[-List.length_flatMap,jU,hl]
  rw[Ty _ _ _ _ _ b rfl (by omega)]
  simp[-List.length_flatMap,bF,hz,o8,hf]
 ·rw[decide_eq_false h0]at hz
  rw[if_neg h0]
  simp[-List.length_flatMap,jU,hl]
  rw[Ty _ _ _ _ _ b rfl (by omega)]
  simp[-List.length_flatMap,bF,hz,hf,vO,asNat,KY]
  cases hu:vg (b.drop 2)with
  |none=>
   have ep:=af (Mz ⟨slot,bf b 0 2,[]⟩)
   have pr:tB ⟨slot,bf b 0 2,[]⟩=false:=by simp[tB,kC]
   rw[pr,if_neg (by decide)]at ep
   simp only[eE]at ep
   rw[hu,Ft]at xc
   simp only[Option.getD_none,Option.isSome_none]at xc
   simp[xc,ep,T.fresh,T.fresh2,o8]
  |some s=>
   have ep:=af (Mz ⟨slot,bf b 0 2,s⟩)
   have wS:=QB hl (slot:=slot) hu
   rw[wS]at ep
   have heq:dI E cf [sl eB b,.sl .any b.length (b.flatMap eB)]=some (.v (.bool true)):=af (JG b)
   rw[hu,Ft]at xc
   simp only[eE,jD]at ep
   simp only[Option.getD_some,Option.isSome_some]at xc
   cases hr:tB ⟨slot,bf b 0 2,s⟩
   ·rw[hr,if_neg (by decide)]at ep
    simp[xc,ep,T.fresh,T.fresh2,o8,hr]
   ·rw[hr,if_pos rfl]at ep
    simp[-List.length_flatMap,xc,ep,heq,T.fresh,T.fresh2,hr]
    rfl
theorem VF(b:List UInt8)(hl:b.length=16)(slot:Int):Ev E Ay [sl eB b,.v (.int .i64 slot)] (gW (nR b slot)):=by
 refine aB (fn:=rZ) rfl (by decide) rfl rfl rfl ?_
 have hS:dI E fj [sl eB b,.sl .any 16 (List.replicate 16 (.v (.int .u8 0)))]=some (.v (.bool (decide (b=Cf)))):=af (yz b Cf (by omega))
 have vO:=af (mA b (by omega) 0 2)
 have L7:AV b 0 2= .al [.v (.int .i64 (bf b 0 2)),.v (.bool true)]:=by
  unfold AV
  rw[hl,if_pos (by rfl)]
  rfl
 rw[L7]at vO
 have xc:=af (VE (b.drop 2) (by simp;omega))
 have KY:ti 1 (sl eB b) (some 2) (some (oK (sl eB b))) (some (oK (sl eB b))) false=some (sl eB (b.drop 2)):=by
  have ht:oK (sl eB b)=b.length:=rfl
  rw[Tt,ht,if_pos (by omega),List.take_of_length_le (by simp)]
 have o8:=Gj
 unfold nR gW
 simp only[List.reduceReplicate]at hS
 by_cases h0:b=Cf
 ·rw[decide_eq_true h0]at hS
  rw[if_pos h0]
  simp[-List.length_flatMap,rZ]
  rw[bE rfl]
  simp[ae,asNat,room,hS,o8]
 ·rw[decide_eq_false h0]at hS
  rw[if_neg h0]
  simp[-List.length_flatMap,rZ]
  rw[bE rfl]
  simp[-List.length_flatMap,ae,asNat,room,hS,hl,vO,KY]
  cases hu:vg (b.drop 2)with
  |none=>
   rw[hu,Ft]at xc
   simp only[Option.getD_none,Option.isSome_none]at xc
   simp[xc,o8]
  |some s=>
   have DT:=af (Qz ⟨slot,bf b 0 2,s⟩)
   simp only[eE]at DT
   rw[hu,Ft]at xc
   simp only[Option.getD_some,Option.isSome_some]at xc
   cases hr:tB ⟨slot,bf b 0 2,s⟩
   ·rw[hr]at DT
    simp[xc,DT,T.fresh,T.fresh2,o8,hr]
   ·rw[hr]at DT
    simp[xc,DT,T.fresh,T.fresh2,hr]
    rfl
end Go.Vi.Sz
end
section
set_option maxRecDepth 100000
namespace Go.Vi.Sz
open Go Go.Vi Go.Vi.Zz
structure pJ where
 has:Int
 qF:Int
 red:List UInt8
 ol:Int
 oi:Int
 og:Int
 shown:Int
deriving DecidableEq
def eA(a:pJ):List T:=[.v (.int .i64 a.has),.v (.int .i64 a.qF),.v (.string ⟨a.red.toArray⟩),.v (.int .i64 a.ol),.v (.int .i64 a.oi),.v (.int .i64 a.og),.v (.int .i64 a.shown)]
def oM:pJ:=⟨0,0,[],0,0,0,0⟩
theorem VG(n top:Int):Ev E gZ [.v (.int .i64 n),.v (.int .i64 top)] (.v (.bool (bT n top))):=by
 refine aB (fn:=s9) rfl (by decide) rfl rfl rfl ?_
 unfold bT
 simp[s9]
 repeat' (refine kB (fun h=> ?_) (fun h=> ?_)<;>simp[*])
theorem aaB(n top:Int):Ev E gj [.v (.int .i64 n),.v (.int .i64 top)] (.v (.bool (bT n top))):=by
 refine aB (fn:=s7) rfl (by decide) rfl rfl rfl ?_
 unfold bT
 simp[s7]
 repeat' (refine kB (fun h=> ?_) (fun h=> ?_)<;>simp[*])
def hasB(n:Int)(b:Nat):Bool:=n.toNat / b%2==1
theorem JN(H b:Nat)(hH:H≤31)(hb:b=1∨b=2∨b=4∨b=8):Ev E iZ [.v (.int .i64 H),.v (.int .i64 b)] (.v (.bool (hasB H b))):=by
 refine aB (fn:=wb) rfl (by decide) rfl rfl rfl ?_
 unfold hasB
 rw[Int.toNat_natCast]
 have hq:=RT 3 (a:=H) (b:=b) (by omega) (by omega)
 have hr:bM .rem 3 (.v (.int .i64 ((H / b:Nat):Int))) (.v (.int .i64 2))=some (.v (.int .i64 ((H / b%2:Nat):Int))):=Bl 3 (a:=H / b) (b:=2) (by omega)
 have he:(((H / b%2:Nat):Int)==1)=(H / b%2==1):=by rw[Bool.eq_iff_iff];simp only[beq_iff_eq];omega
 simp[-Int.natCast_ediv,-Int.natCast_emod,wb,hq,hr,he]
def ym(a:pJ):pJ:=⟨a.has,if hasB a.has 1 then a.qF else 0,if hasB a.has 2 then a.red else [],if hasB a.has 4 then a.ol else 0,if hasB a.has 4 then a.oi else 0,if hasB a.has 4 then a.og else 0,if hasB a.has 8 then a.shown else 0⟩
theorem JO(H:Nat)(h:H< 32):bM .andNot 3 (.v (.int .i64 31)) (.v (.int .i64 (H:Int)))=some (.v (.int .i64 ((31-H:Nat):Int)))∧bM .andNot 3 (.v (.int .i64 (H:Int))) (.v (.int .i64 ((31-H:Nat):Int)))=some (.v (.int .i64 (H:Int))):=by
 have hc:H=0∨H=1∨H=2∨H=3∨H=4∨H=5∨H=6∨H=7∨H=8∨H=9∨H=10∨H=11∨H=12∨H=13∨H=14∨H=15∨H=16∨H=17∨H=18∨H=19∨H=20∨H=21∨H=22∨H=23∨H=24∨H=25∨H=26∨H=27∨H=28∨H=29∨H=30∨H=31:=by omega
 rcases hc with rfl|rfl|rfl|rfl|rfl|rfl|rfl|rfl|rfl|rfl|rfl|rfl|rfl|rfl|rfl|rfl|rfl|rfl|rfl|rfl|rfl|rfl|rfl|rfl|rfl|rfl|rfl|rfl|rfl|rfl|rfl|rfl
 all_goals exact⟨rfl,rfl⟩
theorem afl:∀H< 32,((31-H)&&&1=if H / 1%2==1 then 0 else 1)∧((31-H)&&&2=if H / 2%2==1 then 0 else 2)∧((31-H)&&&4=if H / 4%2==1 then 0 else 4)∧((31-H)&&&8=if H / 8%2==1 then 0 else 8):=by decide
theorem afm(a:pJ)(H:Nat)(h:H< 32)(ha:a.has=H):Ev E AF [.agg (eA a),.v (.int .i64 ((31-H:Nat):Int))] (.agg (eA (ym a))):=by
 refine aB (fn:=wg) rfl (by decide) rfl rfl rfl ?_
 obtain⟨t1,t2,t4,t8⟩:=afl H h
 have a1:bM .and 3 (.v (.int .i64 ((31-H:Nat):Int))) (.v (.int .i64 1))=some (.v (.int .i64 (((31-H)&&&1:Nat):Int))):=Bk 3 (a:=31-H) (b:=1) (by omega) (by omega)
 have a2:bM .and 3 (.v (.int .i64 ((31-H:Nat):Int))) (.v (.int .i64 2))=some (.v (.int .i64 (((31-H)&&&2:Nat):Int))):=Bk 3 (a:=31-H) (b:=2) (by omega) (by omega)
 have a4:bM .and 3 (.v (.int .i64 ((31-H:Nat):Int))) (.v (.int .i64 4))=some (.v (.int .i64 (((31-H)&&&4:Nat):Int))):=Bk 3 (a:=31-H) (b:=4) (by omega) (by omega)
 have a8:bM .and 3 (.v (.int .i64 ((31-H:Nat):Int))) (.v (.int .i64 8))=some (.v (.int .i64 (((31-H)&&&8:Nat):Int))):=Bk 3 (a:=31-H) (b:=8) (by omega) (by omega)
 have hn:=(JO H h).2
 rw[t1]at a1
 rw[t2]at a2
 rw[t4]at a4
 rw[t8]at a8
 unfold ym hasB
 rw[ha,Int.toNat_natCast]
 have he:eA a=[.v (.int .i64 H),.v (.int .i64 a.qF),.v (.string ⟨a.red.toArray⟩),.v (.int .i64 a.ol),.v (.int .i64 a.oi),.v (.int .i64 a.og),.v (.int .i64 a.shown)]:=by unfold eA;rw[ha]
 rw[he]
 generalize ((31-H:Nat):Int)=M at*
 cases b1:(H / 1%2==1)<;>cases b2:(H / 2%2==1)<;>cases b4:(H / 4%2==1)<;>cases b8:(H / 8%2==1)<;>rw[b1]at a1<;>rw[b2]at a2<;>rw[b4]at a4<;>rw[b8]at a8<;>simp[wg,a1,a2,a4,a8,hn,eA]
end Go.Vi.Sz
end
section
set_option maxRecDepth 100000
namespace Go.Vi.Sz
open Go Go.Vi Go.Vi.Zz
def VH(a:pJ):Bool:=bT a.has 31&&(bT a.qF 255&&(bT a.shown 65535&&(decide (a.red.length≤24)&&(bT a.ol 255&&(bT a.oi 65535&&bT a.og 268435455)))))
def QC(a:pJ):Bool:=(hasB a.has 1||a.qF==0)&&(hasB a.has 4||(a.ol==0&&(a.oi==0&&a.og==0)))&&(hasB a.has 8||a.shown==0)
def tE(a:pJ):Bool:=VH a&&(QC a&&(hasB a.has 2== !(a.red==[])))
theorem lC{n top:Int}(h:bT n top=true):0≤n∧n≤top:=by
 simpa [bT]using h
theorem acG:∀H< 32,(H&&&2)=if H / 2%2==1 then 2 else 0:=by decide
theorem Rz(a:pJ):Ev E yJ [.agg (eA a)] (.v (.bool (tE a))):=by
 refine aB (fn:=fY) rfl (by decide) rfl rfl rfl ?_
 have hc:∀n top,dI E gZ [.v (.int .i64 n),.v (.int .i64 top)]=some (.v (.bool (bT n top))):=fun n top=>af (VG n top)
 have he:eA a=[.v (.int .i64 a.has),.v (.int .i64 a.qF),.v (.string ⟨a.red.toArray⟩),.v (.int .i64 a.ol),.v (.int .i64 a.oi),.v (.int .i64 a.og),.v (.int .i64 a.shown)]:=rfl
 unfold tE VH
 cases q1:bT a.has 31
 ·simp[fY,he,hc,q1]
 cases q2:bT a.qF 255
 ·simp[fY,he,hc,q1,q2]
 cases q3:bT a.shown 65535
 ·simp[fY,he,hc,q1,q2,q3]
 by_cases q4:a.red.length≤24
 ·have Tz:¬(24:Int)< a.red.length:=by omega
  cases q5:bT a.ol 255
  ·simp[fY,he,hc,q1,q2,q3,q4,Tz,q5,cd]
  cases q6:bT a.oi 65535
  ·simp[fY,he,hc,q1,q2,q3,q4,Tz,q5,q6,cd]
  cases q7:bT a.og 268435455
  ·simp[fY,he,hc,q1,q2,q3,q4,Tz,q5,q6,q7,cd]
  ·obtain⟨h0,h31⟩:=lC q1
   obtain⟨H,hH⟩:∃H:Nat,a.has=H:=⟨a.has.toNat,by omega⟩
   have hlt:H< 32:=by omega
   have hd:=af (afm a H hlt hH)
   have hn:=(JO H hlt).1
   have h2:bM .and 3 (.v (.int .i64 (H:Int))) (.v (.int .i64 2))=some (.v (.int .i64 ((H&&&2:Nat):Int))):=Bk 3 (a:=H) (b:=2) (by omega) (by omega)
   rw[acG H hlt]at h2
   have tO:hasB a.has 2=(H / 2%2==1):=by rw[hH];rfl
   have lQ:bM .and 3 (.v (.int .i64 a.has)) (.v (.int .i64 2))=some (.v (.int .i64 (if hasB a.has 2 then 2 else 0))):=by
    rw[hH,h2,←hH,tO]
    cases (H / 2%2==1)<;>rfl
   have nK:bM .andNot 3 (.v (.int .i64 31)) (.v (.int .i64 a.has))=some (.v (.int .i64 ((31-H:Nat):Int))):=by rw[hH];exact hn
   generalize ((31-H:Nat):Int)=M at*
   have heq:cw [.int,.int,.str,.int,.int,.int,.int] (eA (ym a)) (eA a)=some (QC a&&(hasB a.has 2||(a.red==[]))):=by
    have hs:∀n:Int,(0==n)=(n==0):=fun n=>BEq.comm
    simp[eA,ym,QC]
    cases hasB a.has 1<;>cases hasB a.has 2<;>cases hasB a.has 4<;>cases hasB a.has 8<;>simp[hs]
    all_goals simp only[Bool.and_comm,Bool.and_left_comm]
   have hdc:bj (eA (ym a))=true:=by simp[eA]
   have hdl:rF (eA (ym a))=true:=by simp[eA]
   have hdi:∀d,dz d (eA (ym a))=eA (ym a):=fun d=>by simp[eA]
   rw[he]at hd heq
   generalize eA (ym a)=D at*
   have hbe:(a.red==[])=a.red.isEmpty:=by cases a.red<;>rfl
   rw[hbe]at heq⊢
   cases p1:QC a<;>cases p2:hasB a.has 2<;>cases p3:a.red.isEmpty<;>rw[p1,p2,p3]at heq<;>rw[p2]at lQ<;>simp[fY,he,hc,q1,q2,q3,q4,Tz,q5,q6,q7,cd,nK,hd,hdi,heq,lQ,p3,bin_nes,hbe,-List.isEmpty_iff,-List.isEmpty_eq_false_iff]
 ·have Tz:(24:Int)< a.red.length:=by omega
  simp[fY,he,hc,q1,q2,q3,q4,Tz,cd]
theorem QD(a:pJ):Ev E sR [.agg (eA a)] (.v (.bool (tE a))):=by
 refine aB (fn:=fm) rfl (by decide) rfl rfl rfl ?_
 have hc:∀n top,dI E gj [.v (.int .i64 n),.v (.int .i64 top)]=some (.v (.bool (bT n top))):=fun n top=>af (aaB n top)
 have he:eA a=[.v (.int .i64 a.has),.v (.int .i64 a.qF),.v (.string ⟨a.red.toArray⟩),.v (.int .i64 a.ol),.v (.int .i64 a.oi),.v (.int .i64 a.og),.v (.int .i64 a.shown)]:=rfl
 unfold tE VH
 cases q1:bT a.has 31
 ·simp[fm,he,hc,q1]
 cases q2:bT a.qF 255
 ·simp[fm,he,hc,q1,q2]
 cases q3:bT a.shown 65535
 ·simp[fm,he,hc,q1,q2,q3]
 have q4E:decide (a.red.length≤24)=bT a.red.length 24:=by
  rw[Bool.eq_iff_iff,decide_eq_true_iff]
  simp[bT]
  omega
 rw[q4E]
 cases q4:bT a.red.length 24
 ·simp[fm,he,hc,q1,q2,q3,q4,cd]
 cases q5:bT a.ol 255
 ·simp[fm,he,hc,q1,q2,q3,q4,q5,cd]
 cases q6:bT a.oi 65535
 ·simp[fm,he,hc,q1,q2,q3,q4,q5,q6,cd]
 cases q7:bT a.og 268435455
 ·simp[fm,he,hc,q1,q2,q3,q4,q5,q6,q7,cd]
 obtain⟨h0,h31⟩:=lC q1
 obtain⟨H,hH⟩:∃H:Nat,a.has=H:=⟨a.has.toNat,by omega⟩
 have b1:dI E iZ [.v (.int .i64 a.has),.v (.int .i64 1)]=some (.v (.bool (hasB a.has 1))):=by rw[hH];exact af (JN H 1 (by omega) (by omega))
 have b2:dI E iZ [.v (.int .i64 a.has),.v (.int .i64 2)]=some (.v (.bool (hasB a.has 2))):=by rw[hH];exact af (JN H 2 (by omega) (by omega))
 have b4:dI E iZ [.v (.int .i64 a.has),.v (.int .i64 4)]=some (.v (.bool (hasB a.has 4))):=by rw[hH];exact af (JN H 4 (by omega) (by omega))
 have b8:dI E iZ [.v (.int .i64 a.has),.v (.int .i64 8)]=some (.v (.bool (hasB a.has 8))):=by rw[hH];exact af (JN H 8 (by omega) (by omega))
 have hbe:(a.red==[])=a.red.isEmpty:=by cases a.red<;>rfl
 have hlen:decide (0< a.red.length)= !a.red.isEmpty:=by cases a.red<;>simp
 rw[hbe]
 unfold QC
 clear h0 h31 hH q4E
 generalize hasB a.has 1=B1 at*
 generalize hasB a.has 2=B2 at*
 generalize hasB a.has 4=B4 at*
 generalize hasB a.has 8=B8 at*
 have hs:∀n:Int,(0==n)=(n==0):=fun n=>BEq.comm
 generalize hE:a.red.isEmpty=EE at*
 generalize hO:(a.qF==0)=OO at*
 have hO':(a.qF !=0)= !OO:=by rw[←hO];rfl
 cases B1<;>cases OO<;>cases B2<;>cases EE<;>simp[fm,he,hc,q1,q2,q3,q4,q5,q6,q7,cd,b1,b2,b4,hlen,hO',-List.isEmpty_iff,-List.isEmpty_eq_false_iff]
 all_goals cases B4<;>cases B8<;>simp
 all_goals
  generalize (a.ol==0&&(a.oi==0&&a.og==0))=OR
  cases OR<;>simp[T.bool,b8]
end Go.Vi.Sz
end
section
set_option maxRecDepth 100000
namespace Go.Vi.Sz
open Go Go.Vi Go.Vi.Zz
def jZ(s:List UInt8):List UInt8:=s++List.replicate (24-s.length) 0
theorem Fu{s:List UInt8}(h:s.length≤24):(jZ s).length=24:=by simp[jZ];omega
def kD(a:pJ):List UInt8:=UInt8.ofNat a.has.toNat::UInt8.ofNat a.qF.toNat::UInt8.ofNat a.red.length::jZ a.red
def cT(a:pJ):List UInt8:=kD a++leB a.ol.toNat 1++leB a.oi.toNat 2++leB a.og.toNat 4++leB a.shown.toNat 2
theorem MA{a:pJ}(h:tE a=true):(0≤a.has∧a.has≤31)∧(0≤a.qF∧a.qF≤255)∧(0≤a.shown∧a.shown≤65535)∧a.red.length≤24∧(0≤a.ol∧a.ol≤255)∧(0≤a.oi∧a.oi≤65535)∧(0≤a.og∧a.og≤268435455):=by
 simp only[tE,VH,Bool.and_eq_true,decide_eq_true_eq]at h
 obtain⟨⟨h1,h2,h3,h4,h5,h6,h7⟩,_⟩:=h
 exact⟨lC h1,lC h2,lC h3,h4,lC h5,lC h6,lC h7⟩
theorem A0{a:pJ}(h:a.red.length≤24):(cT a).length=36:=by simp[cT,kD,iO,Fu h]
theorem akU(s:List UInt8):setCells (List.replicate 24 (.v (.int .u8 0))) 0 (s.flatMap eB)=(jZ s).flatMap eB:=by
 unfold setCells jZ
 rw[bK,Nat.zero_add,List.take_zero,List.nil_append,List.drop_replicate,List.flatMap_append,Qw]
theorem VI(B:List UInt8)(hB:B.length≤100)(n:Int)(w:Nat)(hw:w=1∨w=2∨w=4)(h0:0≤n)(h1:n< 2^(8*w))(m:Nat)(hm:B.length=m)(C:List T)(hC:C=B.flatMap eB)(s:Int)(hs:s=w):dI E j2 [.sl .any m C,.v (.int .i64 n),.v (.int .i64 s)]=some (.sl (.own 0 5) (m+w) ((B++leB n.toNat w).flatMap eB)):=by
 subst hm hC hs
 have h4:(2:Int)^(8*w)≤4294967296:=by rcases hw with rfl|rfl|rfl<;>decide
 have ep:=af (JK B (by omega) n w (by omega))
 have hr:gV n w=true:=by
  simp only[gV,wid,Bool.and_eq_true,decide_eq_true_eq]
  refine⟨⟨?_,h0⟩, ?_⟩
  ·rcases hw with rfl|rfl|rfl<;>rfl
  ·rcases hw with rfl|rfl|rfl<;>exact h1
 rw[zB,if_pos hr,jD,List.length_append,iO]at ep
 exact ep
theorem afn(l:List UInt8):(l.flatMap eB).all T.closed=true:=by
 induction l with
 |nil=>rfl
 |cons b l ih=>rw[List.flatMap_cons,List.all_append,ih];rfl
theorem aaC(a:pJ):Ev E Ck [.agg (eA a)] (if tE a then .al [jD (fT (cT a)),.v (.int .i64 0)]else .al [.sl .nil 0 [],.v (.int .i64 1)]):=by
 refine aB (fn:=uB) rfl (by decide) rfl rfl rfl ?_
 have h:=af (Rz a)
 have he:eA a=[.v (.int .i64 a.has),.v (.int .i64 a.qF),.v (.string ⟨a.red.toArray⟩),.v (.int .i64 a.ol),.v (.int .i64 a.oi),.v (.int .i64 a.og),.v (.int .i64 a.shown)]:=rfl
 cases hb:tE a
 ·rw[hb]at h
  rw[he]at h
  simp[uB,he,h]
 ·rw[hb]at h
  rw[he]at h
  obtain⟨g1,g2,g3,g4,g5,g6,g7⟩:=MA hb
  obtain⟨H,hH⟩:∃H:Nat,a.has=H:=⟨a.has.toNat,by omega⟩
  obtain⟨Q,hQ⟩:∃Q:Nat,a.qF=Q:=⟨a.qF.toNat,by omega⟩
  have wH:=wrap_u8 (n:=H) (by omega)
  have wQ:=wrap_u8 (n:=Q) (by omega)
  have wR:=wrap_u8 (n:=a.red.length) (by omega)
  have hd:kD a=UInt8.ofNat H::UInt8.ofNat Q::UInt8.ofNat a.red.length::jZ a.red:=by rw[kD,hH,hQ];rfl
  have rD:=akU a.red
  simp only[List.reduceReplicate]at rD
  have wP:=Fu g4
  have iq:=af (Tv (cT a) (by rw[A0 g4];omega))
  have fS:=A0 g4
  have fB:sl eB (cT a)= .sl .any 36 ((cT a).flatMap eB):=by rw[sl,fS]
  rw[fB]at iq
  have e1:cT a=kD a++leB a.ol.toNat 1++leB a.oi.toNat 2++leB a.og.toNat 4++leB a.shown.toNat 2:=rfl
  have zR:(kD a).length=27:=by rw[hd];simp[wP]
  have p1:=VI (kD a) (by omega) a.ol 1 (by omega) (by omega) (by simp;omega) 27 zR
  have p2:=VI (kD a++leB a.ol.toNat 1) (by simp[zR,iO]) a.oi 2 (by omega) (by omega) (by simp;omega) 28 (by simp[zR,iO]) _ rfl 2 rfl
  have p3:=VI (kD a++leB a.ol.toNat 1++leB a.oi.toNat 2) (by simp[zR,iO]) a.og 4 (by omega) (by omega) (by simp;omega) 30 (by simp[zR,iO]) _ rfl 4 rfl
  have p4:=VI (kD a++leB a.ol.toNat 1++leB a.oi.toNat 2++leB a.og.toNat 4) (by simp[zR,iO]) a.shown 2 (by omega) (by omega) (by simp;omega) 34 (by simp[zR,iO]) _ rfl 2 rfl
  rw[←e1]at p4
  generalize hX2:(kD a++leB a.ol.toNat 1++leB a.oi.toNat 2++leB a.og.toNat 4).flatMap eB=X4 at*
  generalize Lx:(kD a++leB a.ol.toNat 1++leB a.oi.toNat 2).flatMap eB=X3 at*
  generalize Lx:(kD a++leB a.ol.toNat 1).flatMap eB=X2 at*
  generalize cT a=AB at*
  rw[hd]at p1
  have bV:=lq (jZ a.red)
  have Hg:=bK (jZ a.red)
  rw[wP]at Hg
  have p1:=p1 _ rfl 1 rfl
  simp only[List.flatMap_cons,eB,List.cons_append,List.nil_append]at p1
  generalize UInt8.ofNat H=kH at*
  generalize UInt8.ofNat Q=kQ at*
  generalize UInt8.ofNat a.red.length=kR at*
  have htp:((jZ a.red).flatMap eB).take 24=(jZ a.red).flatMap eB:=by rw[List.take_of_length_le (by omega)]
  have Oz:∀s o n c,dJ (.au s o n c) ((jZ a.red).flatMap eB)=true:=fun _ _ _ _=>afn _
  have Ny:min a.red.length 24=a.red.length:=by omega
  have fL:(a.red.flatMap eB).take a.red.length=a.red.flatMap eB:=by rw[List.take_of_length_le (by rw[bK];omega)]
  have hm:=aay a.red
  change setCells _ 0 (a.red.flatMap eB)=(jZ a.red).flatMap eB at rD
  simp[-List.length_flatMap,uB,he,h]
  rw[bE rfl]
  simp[-List.length_flatMap,ae,hm,bK,Ny,fL,rD,hH,hQ,wH,wQ,wR,cd,uc,iP,htp,Oz,Hg,room,hit,p1,p2,p3,p4,iq,jD,List.idxOf?]
end Go.Vi.Sz
end
section
set_option maxRecDepth 100000
namespace Go.Vi.Sz
open Go Go.Vi Go.Vi.Zz
def RaI(X:List T)(s:List UInt8)(K:List T)(P:List UInt8)(j:Nat)(σ:St):Prop:=∃a r k c d,(k=120∨k=248∨k=272)∧σ=⟨[],[a,.ref 0 0,r,.sl (.own k 5) (j+3) (K++(P.take j).flatMap eB),.v (.int .i64 j),c,d],[some X,none]⟩
theorem RA(a:pJ)(hb:tE a=true):Ev E sS [.agg (eA a)] (jD (fT (cT a))):=by
 refine aB (fn:=sZ) rfl (by decide) rfl rfl rfl ?_
 have he:eA a=[.v (.int .i64 a.has),.v (.int .i64 a.qF),.v (.string ⟨a.red.toArray⟩),.v (.int .i64 a.ol),.v (.int .i64 a.oi),.v (.int .i64 a.og),.v (.int .i64 a.shown)]:=rfl
 obtain⟨g1,g2,g3,g4,g5,g6,g7⟩:=MA hb
 have xp:∀n:Int,0≤n→∃N:Nat,n=N:=fun n h=>⟨n.toNat,by omega⟩
 obtain⟨has,qF,red,ol,oi,og,shown⟩:=a
 simp only at g1 g2 g3 g4 g5 g6 g7
 obtain⟨H,rfl⟩:=xp has (by omega)
 obtain⟨Q,rfl⟩:=xp qF (by omega)
 obtain⟨S,rfl⟩:=xp shown (by omega)
 obtain⟨L,rfl⟩:=xp ol (by omega)
 obtain⟨I,rfl⟩:=xp oi (by omega)
 obtain⟨G,rfl⟩:=xp og (by omega)
 have wH:=wrap_u8 (n:=H) (by omega)
 have wQ:=wrap_u8 (n:=Q) (by omega)
 have wR:=wrap_u8 (n:=red.length) (by omega)
 have wL:=wrap_u8 (n:=L) (by omega)
 have bI:=Fq I 2 (by omega) (by decide) (by decide) _ rfl 2 rfl
 have bG:=Fq G 4 (by omega) (by decide) (by decide) _ rfl 4 rfl
 have bS:=Fq S 2 (by omega) (by decide) (by decide) _ rfl 2 rfl
 have lL:leB L 1=[UInt8.ofNat L]:=by simp only[leB];rw[Nat.mod_eq_of_lt (by omega)]
 have hd:cT ⟨H,Q,red,L,I,G,S⟩=UInt8.ofNat H::UInt8.ofNat Q::UInt8.ofNat red.length::(jZ red++[UInt8.ofNat L]++leB I 2++leB G 4++leB S 2):=by
  rw[cT,kD]
  simp only[Int.toNat_natCast,lL]
  rfl
 have fS:=A0 (a:=⟨H,Q,red,L,I,G,S⟩) g4
 have iq:=af (HO (cT ⟨H,Q,red,L,I,G,S⟩) (by omega))
 have fB:sl eB (cT ⟨H,Q,red,L,I,G,S⟩)= .sl .any 36 ((cT ⟨H,Q,red,L,I,G,S⟩).flatMap eB):=by rw[sl,fS]
 rw[fB]at iq
 rw[hd]at iq⊢
 have wP:=Fu g4
 have hg:∀j,j< 24→(h:j< (jZ red).length)→(∀hs:j< red.length,red[j]=(jZ red)[j])∧(¬j< red.length→(jZ red)[j]=0):=by
  intro j hj h14
  constructor
  ·intro hlt
   simp[jZ,hlt]
  ·intro Bm
   simp only[jZ]
   rw[List.getElem_append_right (by omega),List.getElem_replicate]
 have bV:=lq (jZ red)
 have Hg:=bK (jZ red)
 generalize jZ red=P at*
 obtain⟨i0,i1,e⟩:=AY I;rw[e]at bI iq⊢
 obtain⟨q0,q1,q2,q3,e⟩:=ah0 G;rw[e]at bG iq⊢
 obtain⟨s0,s1,e⟩:=AY S;rw[e]at bS iq⊢
 generalize UInt8.ofNat H=kH at*
 generalize UInt8.ofNat Q=kQ at*
 generalize UInt8.ofNat red.length=kR at*
 generalize UInt8.ofNat L=kL at*
 simp only[jD,List.length_cons,List.length_nil,List.flatMap_cons,List.flatMap_nil,List.cons_append,List.nil_append,eB]at bI bG bS
 generalize hSB:jD (fT (kH::kQ::kR::(P++[kL]++[i0,i1]++[q0,q1,q2,q3]++[s0,s1])))=SB at*
 have ape:∃n c,SB= .sl (.own 0 5) n c:=⟨_,_,by rw[←hSB,jD]⟩
 obtain⟨SN,SC,rfl⟩:=ape
 simp only[List.flatMap_append,List.flatMap_cons,List.flatMap_nil,List.cons_append,List.nil_append,List.append_assoc,eB]at iq
 simp[-List.length_flatMap,sZ,he,cd,wH,wQ,wR]
 refine m_loop 24 (RaI _ red [.v (.int .u8 kH.toNat),.v (.int .u8 kQ.toNat),.v (.int .u8 kR.toNat)] P) ⟨_,_,_,_,_,.inl rfl,rfl⟩ ?_
 rintro j σ hj ⟨a,r,k',c,d,hk,rfl⟩
 by_cases hlt:j< 24
 ·have bh:(j:Int)< 24:=by omega
  have w4:IntKind.i64.wrap ((j:Int)+1)=((j+1:Nat):Int):=by rw[←Int.natCast_succ];exact aq (by omega)
  obtain⟨u1,u2⟩:=hg j hlt (by omega)
  have hst:P.take (j+1)=P.take j++[P[j]]:=by rw[List.take_succ_eq_append_getElem]
  have bV:=lq (P.take j)
  have HY:=bK (P.take j)
  have jn:(P.take j).length=j:=by rw[List.length_take];omega
  rw[jn]at HY
  have hr:j+3+1≤room:=by unfold room;omega
  have aH:∀X a r k c d,(k=120∨k=248∨k=272)→RaI X red [.v (.int .u8 kH.toNat),.v (.int .u8 kQ.toNat),.v (.int .u8 kR.toNat)] P (j+1) ⟨[],[a,.ref 0 0,r,.sl (.own k 5) (j+3+1) (.v (.int .u8 kH.toNat):: .v (.int .u8 kQ.toNat):: .v (.int .u8 kR.toNat)::((P.take j).flatMap eB++[.v (.int .u8 P[j].toNat)])),.v (.int .i64 ((j+1:Nat):Int)),c,d],[some X,none]⟩:=by
   intro X a r k c d hk
   refine⟨a,r,k,c,d,hk, ?_⟩
   rw[hst,List.flatMap_append,show j+1+3=j+3+1 by omega]
   rfl
  by_cases Qx:j< red.length
  ·have HZ:(j:Int)< red.length:=by omega
   have u1:=u1 Qx
   rcases hk with rfl|rfl|rfl<;>simp[-Int.natCast_add,-List.length_flatMap,bh,hlt,cd,HZ,Qx,u1,HY,hr,w4,hit,aH]
  ·have HZ:¬(j:Int)< red.length:=by omega
   have u2:=u2 Qx
   rw[u2]at aH
   replace aH:∀X a r k c d,(k=120∨k=248∨k=272)→RaI X red [.v (.int .u8 kH.toNat),.v (.int .u8 kQ.toNat),.v (.int .u8 kR.toNat)] P (j+1) ⟨[],[a,.ref 0 0,r,.sl (.own k 5) (j+3+1) (.v (.int .u8 kH.toNat):: .v (.int .u8 kQ.toNat):: .v (.int .u8 kR.toNat)::((P.take j).flatMap eB++[.v (.int .u8 0)])),.v (.int .i64 ((j+1:Nat):Int)),c,d],[some X,none]⟩:=aH
   rcases hk with rfl|rfl|rfl<;>simp[-Int.natCast_add,-List.length_flatMap,bh,hlt,cd,HZ,HY,hr,w4,hit,aH]
 ·have:j=24:=by omega
  subst this
  have ht:P.take 24=P:=by rw[List.take_of_length_le (by omega)]
  rw[wP]at Hg
  rcases hk with rfl|rfl|rfl<;>simp[-List.length_flatMap,ht,wL,bI,bG,bS,Hg,room,hit,iq,List.idxOf?]
end Go.Vi.Sz
end
section
set_option maxRecDepth 100000
namespace Go.Vi.Sz
open Go Go.Vi Go.Vi.Zz
def aY(b:List UInt8)(k:Nat):UInt8:=b.getD k 0
theorem qM(b:List UInt8)(k:Nat)(h:k< b.length):cp (b.flatMap eB) k=some (.v (.int .u8 (aY b k).toNat)):=by
 rw[xg b k h,aY,List.getD_eq_getElem?_getD,List.getElem?_eq_getElem h,Option.getD_some]
def pL(b:List UInt8):pJ:=⟨(aY b 0).toNat,(aY b 1).toNat,(b.drop 3).take (aY b 2).toNat,(aY b 27).toNat,bf b 28 2,bf b 30 4,bf b 34 2⟩
def zt(b:List UInt8):Option pJ:=if(aY b 2).toNat≤24∧tE (pL b)=true∧b=fT (cT (pL b))then some (pL b)else none
def HK(o:Option pJ):T:= .al [.agg (eA (o.getD oM)),.v (.bool o.isSome)]
theorem TA:eA oM=[.v (.int .i64 0),.v (.int .i64 0),.v (.string ⟨#[]⟩),.v (.int .i64 0),.v (.int .i64 0),.v (.int .i64 0),.v (.int .i64 0)]:=rfl
theorem MB{b:List UInt8}(h:¬((aY b 2).toNat≤24∧tE (pL b)=true∧b=fT (cT (pL b)))):zt b=none:=by
 unfold zt;rw[if_neg h]
theorem Yb(b:List UInt8)(hl:b.length=64):Ev E Cj [sl eB b] (HK (zt b)):=by
 refine aB (fn:=ux) rfl (by decide) rfl rfl rfl ?_
 have b0:=qM b 0 (by omega)
 have b1:=qM b 1 (by omega)
 have b2:=qM b 2 (by omega)
 have QE:=qM b 27 (by omega)
 have g1:=af (ni b (by omega) 28 2)
 have g2:=af (ni b (by omega) 30 4)
 have g3:=af (ni b (by omega) 34 2)
 rw[Gh hl _ _ rfl]at g1 g2 g3
 have h0:=TA
 have hn:=MB (b:=b)
 have l2:=(aY b 2).toNat_lt
 unfold HK
 by_cases h1:24< (aY b 2).toNat
 ·rw[hn (by omega)]
  have zE:(24:Int)< (aY b 2).toNat:=by omega
  simp[-List.length_flatMap,ux,hl,b2,zE,h0]
 have zE:¬(24:Int)< (aY b 2).toNat:=by omega
 have w8:IntKind.u8.wrap (3+((aY b 2).toNat:Int))=(((aY b 2).toNat+3:Nat):Int):=by rw[IntKind.wrap_u8];omega
 have AU:bM .add 5 (.v (.int .u8 3)) (.v (.int .u8 ((aY b 2).toNat:Int)))=some (.v (.int .u8 (((aY b 2).toNat+3:Nat):Int))):=by
  show some (T.v (Value.int .u8 (IntKind.u8.wrap (3+((aY b 2).toNat:Int)))))=_
  rw[w8]
 have ep:=af (aaC (pL b))
 have hx:eA (pL b)=[.v (.int .i64 (aY b 0).toNat),.v (.int .i64 (aY b 1).toNat),.v (.string ⟨((b.drop 3).take (aY b 2).toNat).toArray⟩),.v (.int .i64 (aY b 27).toNat),.v (.int .i64 (bf b 28 2)),.v (.int .i64 (bf b 30 4)),.v (.int .i64 (bf b 34 2))]:=rfl
 have heq:dI E cf [sl eB b,.sl .any (fT (cT (pL b))).length ((fT (cT (pL b))).flatMap eB)]=some (.v (.bool (decide (b=fT (cT (pL b)))))):=af (AW _ _)
 have O4:zt b=if(aY b 2).toNat≤24∧tE (pL b)=true∧b=fT (cT (pL b))then some (pL b)else none:=rfl
 have kY:=nU (aY b 0)
 have mc:=nU (aY b 1)
 have H2:=nU (aY b 27)
 have dh:3≤(aY b 2).toNat+3∧(aY b 2).toNat+3≤64:=by omega
 have iQ:(aY b 2).toNat+3-3=(aY b 2).toNat:=by omega
 generalize pL b=x at*
 generalize (aY b 2).toNat=k2 at*
 generalize (aY b 0).toNat=k0 at*
 generalize (aY b 1).toNat=k1 at*
 generalize (aY b 27).toNat=k27 at*
 generalize bf b 28 2=n1 at*
 generalize bf b 30 4=n2 at*
 generalize bf b 34 2=n3 at*
 generalize hS:(b.drop 3).take k2=s at*
 simp[-List.length_flatMap,ux,hl,b0,b1,b2,zE,kY,mc,AU,asNat,dh,iQ,hS,-Int.natCast_add]
 rw[ub _ _ _ _ s rfl]
 rw[hx]at ep
 cases hR:tE x
 ·rw[hn (by rw[hR];simp)]
  rw[hR,if_neg (by decide)]at ep
  simp[-List.length_flatMap,hl,QE,H2,g1,g2,g3,ep,h0,T.fresh,T.fresh2]
 ·rw[hR,if_pos rfl]at ep
  simp only[jD]at ep
  by_cases hq:b=fT (cT x)
  ·rw[decide_eq_true hq]at heq
   rw[O4,if_pos ⟨by omega,hR,hq⟩]
   generalize fT (cT x)=c at*
   simp[-List.length_flatMap,hl,QE,H2,g1,g2,g3,ep,heq,hx,T.fresh,T.fresh2]
  ·rw[decide_eq_false hq]at heq
   rw[hn (fun hh=>hq hh.2.2)]
   generalize fT (cT x)=c at*
   simp[-List.length_flatMap,hl,QE,H2,g1,g2,g3,ep,heq,h0,T.fresh,T.fresh2]
theorem VJ(b:List UInt8)(hl:b.length=64):Ev E Ax [sl eB b] (HK (zt b)):=by
 refine aB (fn:=rY) rfl (by decide) rfl rfl rfl ?_
 have b0:=qM b 0 (by omega)
 have b1:=qM b 1 (by omega)
 have b2:=qM b 2 (by omega)
 have QE:=qM b 27 (by omega)
 have g1:=af (mA b (by omega) 28 2)
 have g2:=af (mA b (by omega) 30 4)
 have g3:=af (mA b (by omega) 34 2)
 rw[Gh hl _ _ rfl]at g1 g2 g3
 have h0:=TA
 have hn:=MB (b:=b)
 have l2:=(aY b 2).toNat_lt
 unfold HK
 by_cases h1:24< (aY b 2).toNat
 ·rw[hn (by omega)]
  have zE:(24:Int)< (aY b 2).toNat:=by omega
  simp[-List.length_flatMap,rY,hl,b2,zE,h0,nU]
 have zE:¬(24:Int)< (aY b 2).toNat:=by omega
 have w8:IntKind.i64.wrap (3+((aY b 2).toNat:Int))=(((aY b 2).toNat+3:Nat):Int):=by rw[show 3+((aY b 2).toNat:Int)=(((aY b 2).toNat+3:Nat):Int) by omega];exact aq (by omega)
 have DT:=af (QD (pL b))
 have wS:=fun h=>af (RA (pL b) h)
 have tO:=nU (aY b 2)
 have hx:eA (pL b)=[.v (.int .i64 (aY b 0).toNat),.v (.int .i64 (aY b 1).toNat),.v (.string ⟨((b.drop 3).take (aY b 2).toNat).toArray⟩),.v (.int .i64 (aY b 27).toNat),.v (.int .i64 (bf b 28 2)),.v (.int .i64 (bf b 30 4)),.v (.int .i64 (bf b 34 2))]:=rfl
 have heq:dI E fj [sl eB b,.sl .any (fT (cT (pL b))).length ((fT (cT (pL b))).flatMap eB)]=some (.v (.bool (decide (b=fT (cT (pL b)))))):=af (yz _ _ (by omega))
 have O4:zt b=if(aY b 2).toNat≤24∧tE (pL b)=true∧b=fT (cT (pL b))then some (pL b)else none:=rfl
 have kY:=nU (aY b 0)
 have mc:=nU (aY b 1)
 have H2:=nU (aY b 27)
 have dh:3≤(aY b 2).toNat+3∧(aY b 2).toNat+3≤64:=by omega
 have iQ:(aY b 2).toNat+3-3=(aY b 2).toNat:=by omega
 generalize pL b=x at*
 generalize (aY b 2).toNat=k2 at*
 generalize (aY b 0).toNat=k0 at*
 generalize (aY b 1).toNat=k1 at*
 generalize (aY b 27).toNat=k27 at*
 generalize bf b 28 2=n1 at*
 generalize bf b 30 4=n2 at*
 generalize bf b 34 2=n3 at*
 generalize hS:(b.drop 3).take k2=s at*
 simp[-List.length_flatMap,rY,hl,b0,b1,b2,zE,kY,mc,tO,w8,asNat,dh,iQ,hS,-Int.natCast_add]
 rw[ub _ _ _ _ s rfl]
 rw[hx]at DT
 cases hR:tE x
 ·rw[hn (by rw[hR];simp)]
  rw[hR]at DT
  simp[-List.length_flatMap,hl,QE,H2,g1,g2,g3,DT,h0]
 ·rw[hR]at DT
  have wS:=wS hR
  rw[hx]at wS
  simp only[jD]at wS
  by_cases hq:b=fT (cT x)
  ·rw[decide_eq_true hq]at heq
   rw[O4,if_pos ⟨by omega,hR,hq⟩]
   generalize fT (cT x)=c at*
   simp[-List.length_flatMap,hl,QE,H2,g1,g2,g3,DT,wS,heq,hx,T.fresh,T.fresh2]
  ·rw[decide_eq_false hq]at heq
   rw[hn (fun hh=>hq hh.2.2)]
   generalize fT (cT x)=c at*
   simp[-List.length_flatMap,hl,QE,H2,g1,g2,g3,DT,wS,heq,h0,T.fresh,T.fresh2]
end Go.Vi.Sz
end
