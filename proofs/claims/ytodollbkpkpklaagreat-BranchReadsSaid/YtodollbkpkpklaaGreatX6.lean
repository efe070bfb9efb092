/-
  A claim's own text, joined by a small program out of: H2, H3, H4, H5, H6, H7, H8, H9, H10.
-/
import Derived.Test.YtodollbkpkpklaaGreatX4
import Derived.Test.YtodollbkpkpklaaGreatX5
set_option linter.unusedVariables false
set_option linter.unusedSimpArgs false
section
set_option maxRecDepth 100000
namespace Go.Vi.Sz
open Go Go.Vi Go.Vi.Zz
@[simp] theorem apu(s:List UInt8):(ByteArray.mk s.toArray).size=s.length:=by show s.toArray.size=_;simp
theorem Th{E:Env}{f:FuncId}{g:List T→Option T}{args:List T}{r:T}(hp:E.kJ f=some g)(h:g args=some r):Ev E f args r:=⟨1,by simp only[aW,hp,h]⟩
def kc(s:List UInt8):Bool:=decide (1≤s.length)&&decide (s.length≤12)&& !(s==[46])&& !(s==[46,46])&&s.all (fun b=>eK b.toNat)
theorem Qc(s:List UInt8):Ev E oZ [.v (.string ⟨s.toArray⟩),.v (.func (.func ij) #[] #[])] (.v (.int .i64 (Lib.idxFunc (fun c=> !eK c) true ⟨s.toArray⟩))):=by
 refine aC (fn:=lJ) rfl (by decide) rfl rfl rfl ?_
 have h:dC E jm [.v (.string ⟨s.toArray⟩),.v (.func (.func ij) #[] #[]),.v (.bool true)]=some (.v (.int .i64 (Lib.idxFunc (fun c=> !eK c) true ⟨s.toArray⟩))):=af (Th (g:=O3) rfl (by simp[O3]))
 simp[lJ,h]
theorem y6(s:List UInt8):Ev E pB [.v (.string ⟨s.toArray⟩)] (.v (.bool (kc s))):=by
 refine aC (fn:=jT) rfl (by decide) rfl rfl rfl ?_
 have h:=af (Qc s)
 have hi:decide (Lib.idxFunc (fun c=> !eK c) true ⟨s.toArray⟩< 0)=s.all (fun b=>eK b.toNat):=by
  rw[Bool.eq_iff_iff,decide_eq_true_iff]
  exact Rg s
 have e1:(ByteArray.mk #[46])=⟨[46].toArray⟩:=rfl
 have e2:(ByteArray.mk #[46,46])=⟨[46,46].toArray⟩:=rfl
 unfold kc
 by_cases c1:s.length=0
 ·have:s=[]:=List.length_eq_zero_iff.1 c1
  subst this
  simp[jT,cf]
 have d1:((s.length:Int)==0)=false:=by rw[beq_eq_false_iff_ne];omega
 have f1:1≤s.length:=by omega
 by_cases c2:12< s.length
 ·have f2:¬s.length≤12:=by omega
  have c2:(12:Int)< s.length:=by omega
  simp[jT,cf,d1,c2,f2]
 have f2:s.length≤12:=by omega
 have c2:¬(12:Int)< s.length:=by omega
 cases c3:(s==[46])
 ·cases c4:(s==[46,46])
  ·simp[jT,h,cf,d1,f1,f2,c2,c3,c4,hi,bin_eqs,-beq_eq_false_iff_ne]
  ·simp[jT,cf,d1,f1,f2,c2,c3,c4,bin_eqs,-beq_iff_eq]
 ·simp[jT,cf,d1,f1,f2,c2,c3,bin_eqs,-beq_iff_eq]
theorem Vn(b:UInt8):Ev E va [.v (.int .u8 b.toNat)] (.v (.bool (eK b.toNat))):=by
 refine aC (fn:=qI) rfl (by decide) rfl rfl rfl ?_
 generalize b.toNat=x
 unfold eK
 simp[qI]
 repeat' (first|refine j9 (fun h=> ?_) (fun h=> ?_)|refine oV (fun h=> ?_) (fun h=> ?_))<;>simp[*]
 all_goals
  simp only[decide_eq_true_eq,decide_eq_false_iff_not,beq_iff_eq,beq_eq_false_iff_ne,ne_eq]at*
  first
  |omega
  |(rw[Bool.eq_iff_iff];simp only[Bool.or_eq_true,Bool.and_eq_true,decide_eq_true_eq,beq_iff_eq];omega)
def RrI(s:List UInt8)(j:Nat)(σ:St):Prop:=(s.take j).all (fun b=>eK b.toNat)=true∧∃a b c d,σ=⟨[],[.v (.string ⟨s.toArray⟩),a,.v (.int .i64 j),b,c,d],[]⟩
theorem Dn(s:List UInt8):Ev E sx [.v (.string ⟨s.toArray⟩)] (.v (.bool (kc s))):=by
 refine aC (fn:=jg) rfl (by decide) rfl rfl rfl ?_
 have e1:(ByteArray.mk #[46])=⟨[46].toArray⟩:=rfl
 have e2:(ByteArray.mk #[46,46])=⟨[46,46].toArray⟩:=rfl
 unfold kc
 by_cases c1:s.length=0
 ·have:s=[]:=List.length_eq_zero_iff.1 c1
  subst this
  simp[jg,cf]
 have d1:¬((s.length:Int)< 1):=by omega
 have f1:1≤s.length:=by omega
 by_cases c2:12< s.length
 ·have f2:¬s.length≤12:=by omega
  have c2:(12:Int)< s.length:=by omega
  simp[jg,cf,d1,c2,f2]
 have f2:s.length≤12:=by omega
 have c2:¬(12:Int)< s.length:=by omega
 cases c3:(s==[46])
 ·cases c4:(s==[46,46])
  ·simp[jg,cf,d1,f1,f2,c2,c3,c4,bin_eqs,-beq_eq_false_iff_ne]
   refine m_loop s.length (RrI s) ⟨rfl,_,_,_,_,rfl⟩ ?_
   rintro j σ hj ⟨EL,a,b,c,d,rfl⟩
   by_cases hlt:j< s.length
   ·have bd:(j:Int)< s.length:=by omega
    have w4:IntKind.i64.wrap ((j:Int)+1)=((j+1:Nat):Int):=by rw[←Int.natCast_succ];exact au (by omega)
    have hl:=af (Vn s[j])
    have hst:s.take (j+1)=s.take j++[s[j]]:=by rw[List.take_succ_eq_append_getElem hlt]
    have kp:s[j]∈s:=List.getElem_mem hlt
    cases hL:eK s[j].toNat
    ·have hf:s.all (fun b=>eK b.toNat)=false:=by rw[List.all_eq_false];exact⟨_,kp,by simp[hL]⟩
     rw[hL]at hl
     simp[-Int.natCast_add,cf,hlt,bd,hl,hf,-List.all_eq_false]
    ·rw[hL]at hl
     have hn:RrI s (j+1)=RrI s (j+1):=rfl
     simp[-Int.natCast_add,cf,hlt,bd,hl,w4]
     exact⟨by rw[hst,List.all_append,EL];simp[hL],_,_,_,_,rfl⟩
   ·have:j=s.length:=by omega
    subst this
    rw[List.take_length]at EL
    simp[cf,EL,-List.all_eq_true]
  ·simp[jg,cf,d1,f1,f2,c2,c3,c4,bin_eqs,-beq_iff_eq]
 ·simp[jg,cf,d1,f1,f2,c2,c3,bin_eqs,-beq_iff_eq]
end Go.Vi.Sz
end
section
set_option maxRecDepth 100000
namespace Go.Vi.Sz
open Go Go.Vi Go.Vi.Zz
def fD(s:List UInt8):List UInt8:=UInt8.ofNat s.length::(s++List.replicate (13-s.length) 0)
theorem zM{s:List UInt8}(h:s.length≤13):(fD s).length=14:=by simp[fD];omega
theorem zN{s:List UInt8}(h:kc s=true):1≤s.length∧s.length≤12:=by
 simp only[kc,Bool.and_eq_true,decide_eq_true_eq]at h
 exact⟨h.1.1.1.1,h.1.1.1.2⟩
theorem aah(s:List UInt8):s.map (fun b=>T.u8 b.toNat)=s.flatMap eB:=by
 induction s with
 |nil=>rfl
 |cons b s ih=>rw[List.map_cons,List.flatMap_cons,ih];rfl
theorem Qd(n:Nat):(List.replicate n (0:UInt8)).flatMap eB=List.replicate n (.v (.int .u8 0)):=by
 induction n with
 |zero=>rfl
 |succ n ih=>rw[List.replicate_succ,List.flatMap_cons,ih,List.replicate_succ];rfl
theorem aeN(k:UInt8)(s:List UInt8):setCells (.v (.int .u8 k.toNat)::List.replicate 13 (.v (.int .u8 0))) 1 (s.flatMap eB)=(k::(s++List.replicate (13-s.length) 0)).flatMap eB:=by
 unfold setCells
 rw[bV,Nat.add_comm 1,List.drop_succ_cons,List.drop_replicate,List.flatMap_cons,List.flatMap_append,Qd]
 rfl
theorem Ti(s:List UInt8):Ev E vw [.v (.string ⟨s.toArray⟩)] (if kc s then sl eB (fD s)else .sl .nil 0 []):=by
 refine aC (fn:=rN) rfl (by decide) rfl rfl rfl ?_
 have h:=af (y6 s)
 cases hb:kc s
 ·simp[rN,h,hb]
 ·have hl:=zN hb
  have w8:=wrap_u8 (n:=s.length) (by omega)
  have hp:=zM (s:=s) (by omega)
  unfold fD at hp⊢
  generalize UInt8.ofNat s.length=k at*
  simp[rN,h,hb,cf,w8,asNat]
  have rf:=aeN k s
  simp only[List.reduceReplicate]at rf
  have M7:min s.length 13=s.length:=by omega
  have fS:(s.flatMap eB).take s.length=s.flatMap eB:=by rw[List.take_of_length_le (by rw[bV];omega)]
  have hP:=bV (k::(s++List.replicate (13-s.length) 0))
  rw[hp]at hP
  have hd:sl eB (k::(s++List.replicate (13-s.length) 0))= .sl .any 14 ((k::(s++List.replicate (13-s.length) 0)).flatMap eB):=by rw[sl,hp]
  rw[hd]
  have b7:=fun bx n=>Ao bx n (k::(s++List.replicate (13-s.length) 0))
  generalize (k::(s++List.replicate (13-s.length) 0)).flatMap eB=P at*
  have hm:=aah s
  rw[bH rfl]
  simp[-List.length_flatMap,ae,hm,bV,M7,fS,rf,hP]
  rw[List.take_of_length_le (by omega)]
  exact b7 _ 6
def RpI(s:List UInt8)(P:List UInt8)(j:Nat)(σ:St):Prop:=∃a k c d e,(k=88∨k=200∨k=224)∧σ=⟨[],[.v (.string ⟨s.toArray⟩),a,.sl (.own k 5) (j+1) ((P.take (j+1)).flatMap eB),.v (.int .i64 j),c,d,e],[]⟩
theorem acb(s:List UInt8):Ev E tN [.v (.string ⟨s.toArray⟩)] (if kc s then ka (fD s)else .sl .nil 0 []):=by
 refine aC (fn:=pH) rfl (by decide) rfl rfl rfl ?_
 have h:=af (Dn s)
 cases hb:kc s
 ·simp[pH,h,hb]
 ·have hl:=zN hb
  have w8:=wrap_u8 (n:=s.length) (by omega)
  have hp:=zM (s:=s) (by omega)
  have hg:∀j,j< 13→(h:j+1< (fD s).length)→(∀hs:j< s.length,s[j]=(fD s)[j+1])∧(¬j< s.length→(fD s)[j+1]=0):=by
   intro j hj h14
   constructor
   ·intro hlt
    simp[fD,hlt]
   ·intro F6
    simp only[fD,List.getElem_cons_succ]
    rw[List.getElem_append_right (by omega),List.getElem_replicate]
  have h0:(fD s).take 1=[UInt8.ofNat s.length]:=rfl
  generalize fD s=P at*
  generalize UInt8.ofNat s.length=k at*
  simp[pH,h,hb,cf,w8]
  refine m_loop 13 (RpI s P) ⟨_,_,_,_,_,.inl rfl,by rw[h0];rfl⟩ ?_
  rintro j σ hj ⟨a,k',c,d,e,hk,rfl⟩
  by_cases hlt:j< 13
  ·have bd:(j:Int)< 13:=by omega
   have w4:IntKind.i64.wrap ((j:Int)+1)=((j+1:Nat):Int):=by rw[←Int.natCast_succ];exact au (by omega)
   obtain⟨g1,g2⟩:=hg j hlt (by omega)
   have hst:P.take (j+1+1)=P.take (j+1)++[P[j+1]]:=by rw[List.take_succ_eq_append_getElem]
   have b7:=kV (P.take (j+1))
   have GQ:(P.take (j+1)).length=j+1:=by rw[List.length_take];omega
   have Hy:=bV (P.take (j+1))
   rw[GQ]at Hy
   have hr:j+1+1≤room:=by unfold room;omega
   have aI:∀a k c d e,(k=88∨k=200∨k=224)→RpI s P (j+1) ⟨[],[.v (.string ⟨s.toArray⟩),a,.sl (.own k 5) (j+1+1) ((P.take (j+1)).flatMap eB++[.v (.int .u8 P[j+1].toNat)]),.v (.int .i64 ((j+1:Nat):Int)),c,d,e],[]⟩:=by
    intro a k c d e hk
    refine⟨a,k,c,d,e,hk, ?_⟩
    rw[hst,List.flatMap_append]
    rfl
   by_cases Qe:j< s.length
   ·have Hz:(j:Int)< s.length:=by omega
    have g1:=g1 Qe
    rcases hk with rfl|rfl|rfl<;>simp[-Int.natCast_add,-List.length_flatMap,bd,hlt,cf,Hz,Qe,g1,Hy,hr,w4,hit,aI]
   ·have Hz:¬(j:Int)< s.length:=by omega
    have g2:=g2 Qe
    rw[g2]at aI
    replace aI:∀a k c d e,(k=88∨k=200∨k=224)→RpI s P (j+1) ⟨[],[.v (.string ⟨s.toArray⟩),a,.sl (.own k 5) (j+1+1) ((P.take (j+1)).flatMap eB++[.v (.int .u8 0)]),.v (.int .i64 ((j+1:Nat):Int)),c,d,e],[]⟩:=aI
    rcases hk with rfl|rfl|rfl<;>simp[-Int.natCast_add,-List.length_flatMap,bd,hlt,cf,Hz,Hy,hr,w4,hit,aI]
  ·have:j=13:=by omega
   subst this
   have ht:P.take (13+1)=P:=by rw[List.take_of_length_le (by omega)]
   rcases hk with rfl|rfl|rfl<;>simp[ht,ka,hp,List.idxOf?]
end Go.Vi.Sz
end
section
set_option maxRecDepth 100000
namespace Go.Vi.Sz
open Go Go.Vi Go.Vi.Zz
def uQ(b:List UInt8):Option (List UInt8):=if(b.headD 0).toNat≤12∧kc ((b.drop 1).take (b.headD 0).toNat)=true∧fD ((b.drop 1).take (b.headD 0).toNat)=b then some ((b.drop 1).take (b.headD 0).toNat)else none
def EV(o:Option (List UInt8)):T:= .an [.v (.string ⟨(o.getD []).toArray⟩),.v (.bool o.isSome)]
theorem Qf{b:List UInt8}(h:¬((b.headD 0).toNat≤12∧kc ((b.drop 1).take (b.headD 0).toNat)=true∧fD ((b.drop 1).take (b.headD 0).toNat)=b)):uQ b=none:=by
 unfold uQ;rw[if_neg h]
theorem aai(b:List UInt8)(hl:b.length=14):Ev E wN [sl eB b] (EV (uQ b)):=by
 refine aC (fn:=oF) rfl (by decide) rfl rfl rfl ?_
 have kE:cr (b.flatMap eB) 0=some (.v (.int .u8 (b.headD 0).toNat)):=by
  rw[show b.headD 0=b[0] by cases b with|nil=>simp at hl|cons x l=>rfl]
  exact yZ b 0 (by omega)
 have hlt:=(b.headD 0).toNat_lt
 have hn:=Qf (b:=b)
 unfold EV
 generalize hk:(b.headD 0).toNat=k at*
 by_cases h1:12< k
 ·rw[hn (by omega)]
  have y7:(12:Int)< k:=by omega
  simp[-List.length_flatMap,oF,hl,kE,y7]
 have y7:¬(12:Int)< k:=by omega
 have w8:IntKind.u8.wrap (1+(k:Int))=((k+1:Nat):Int):=by rw[IntKind.wrap_u8];omega
 have Am:bO .add 5 (.v (.int .u8 1)) (.v (.int .u8 (k:Int)))=some (.v (.int .u8 ((k+1:Nat):Int))):=by
  show some (T.v (Value.int .u8 (IntKind.u8.wrap (1+(k:Int)))))=_
  rw[w8]
 have dZ:1≤k+1∧k+1≤14:=by omega
 have hr:=af (y6 ((b.drop 1).take k))
 have hp:=af (Ti ((b.drop 1).take k))
 have he:dC E cY [.sl .any (fD ((b.drop 1).take k)).length ((fD ((b.drop 1).take k)).flatMap eB),sl eB b]=some (.v (.bool (decide (fD ((b.drop 1).take k)=b)))):=af (Aq _ b)
 have iI:k+1-1=k:=by omega
 have hs:uQ b=if k≤12∧kc ((b.drop 1).take k)=true∧fD ((b.drop 1).take k)=b then some ((b.drop 1).take k)else none:=by unfold uQ;rw[hk]
 generalize hS:(b.drop 1).take k=s at*
 simp[-List.length_flatMap,oF,hl,kE,y7,Am,dZ,hS,iI,asNat,-Int.natCast_add,-List.drop_one]
 rw[tD _ _ _ _ s rfl]
 cases hR:kc s
 ·rw[hn (by rw[hR];simp)]
  rw[hR]at hr
  simp[-List.length_flatMap,hr]
 ·rw[hR]at hr hp
  by_cases hq:fD s=b
  ·rw[decide_eq_true hq]at he
   rw[hs,if_pos ⟨by omega,hR,hq⟩]
   rw[if_pos rfl]at hp
   simp only[sl]at hp
   generalize fD s=p at*
   simp[-List.length_flatMap,hr,hp,he,T.fresh,T.fresh2]
  ·rw[decide_eq_false hq]at he
   rw[hn (fun h=>hq h.2.2)]
   rw[if_pos rfl]at hp
   simp only[sl]at hp
   generalize fD s=p at*
   simp[-List.length_flatMap,hr,hp,he,T.fresh,T.fresh2]
def UpI(b:List UInt8)(p:T)(P:List UInt8)(s:List UInt8)(j:Nat)(σ:St):Prop:=P.take j=b.take j∧∃a c d e f g,σ=⟨[],[sl eB b,a,c,.v (.string ⟨s.toArray⟩),p,.v (.int .i64 j),d,e,f,g],[]⟩
theorem Vo(b:List UInt8)(hl:b.length=14):Ev E u9 [sl eB b] (EV (uQ b)):=by
 refine aC (fn:=nk) rfl (by decide) rfl rfl rfl ?_
 have kE:cr (b.flatMap eB) 0=some (.v (.int .u8 (b.headD 0).toNat)):=by
  rw[show b.headD 0=b[0] by cases b with|nil=>simp at hl|cons x l=>rfl]
  exact yZ b 0 (by omega)
 have hlt:=(b.headD 0).toNat_lt
 have hn:=Qf (b:=b)
 unfold EV
 generalize hk:(b.headD 0).toNat=k at*
 have wk:IntKind.i64.wrap (k:Int)=k:=au (by omega)
 by_cases h1:12< k
 ·rw[hn (by omega)]
  have y7:(12:Int)< k:=by omega
  simp[-List.length_flatMap,nk,hl,kE,y7,wk]
 have y7:¬(12:Int)< k:=by omega
 have w8:IntKind.i64.wrap (1+(k:Int))=((k+1:Nat):Int):=by rw[show 1+(k:Int)=((k+1:Nat):Int) by omega];exact au (by omega)
 have dZ:1≤k+1∧k+1≤14:=by omega
 have hp:=af (acb ((b.drop 1).take k))
 have iI:k+1-1=k:=by omega
 have hs:uQ b=if k≤12∧kc ((b.drop 1).take k)=true∧fD ((b.drop 1).take k)=b then some ((b.drop 1).take k)else none:=by unfold uQ;rw[hk]
 have vV:=fun h=>zM (s:=(b.drop 1).take k) h
 generalize hS:(b.drop 1).take k=s at*
 simp[-List.length_flatMap,nk,hl,kE,y7,wk,w8,dZ,hS,iI,asNat,-Int.natCast_add,-List.drop_one]
 rw[tD _ _ _ _ s rfl]
 cases hR:kc s
 ·rw[hn (by rw[hR];simp)]
  rw[hR,if_neg (by decide)]at hp
  simp[-List.length_flatMap,hp]
 ·rw[hR,if_pos rfl]at hp
  have vV:=vV (by have:=zN hR;omega)
  simp only[ka,vV]at hp
  generalize fD s=P at*
  simp[-List.length_flatMap,hp]
  refine m_loop 14 (UpI b (.sl (.own 208 5) 14 (P.flatMap eB)) P s) ⟨rfl,_,_,_,_,_,_,rfl⟩ ?_
  rintro j σ hj ⟨ht,a,c,d,e,f,g,rfl⟩
  by_cases hlt:j< 14
  ·have bd:(j:Int)< 14:=by omega
   have hjP:j< P.length:=by omega
   have hjb:j< b.length:=by omega
   have w4:IntKind.i64.wrap ((j:Int)+1)=((j+1:Nat):Int):=by rw[←Int.natCast_succ];exact au (by omega)
   have hst:P.take (j+1)=P.take j++[P[j]]:=by rw[List.take_succ_eq_append_getElem hjP]
   have Vk:b.take (j+1)=b.take j++[b[j]]:=by rw[List.take_succ_eq_append_getElem hjb]
   have hnP:=yZ P j hjP
   have ha:dR 1 (.sl (.own 208 5) 14 (P.flatMap eB)) (.v (.int .i64 (j:Int)))=some (.ptr (P.flatMap eB) (j*1)):=by
    show(if 0≤(j:Int)∧(j:Int).toNat< 14 then some (T.ptr (P.flatMap eB) ((j:Int).toNat*1))else none)=_
    rw[if_pos (by omega),Int.toNat_natCast]
   by_cases he:P[j]=b[j]
   ·simp[-List.length_flatMap,-Int.natCast_add,bd,hlt,w4,he,ha,hnP,hl]
    exact⟨by rw[hst,Vk,ht,he],_,_,_,_,_,_,rfl⟩
   ·have hne:¬P=b:=fun h=>he (by subst h;rfl)
    have hb:((P[j].toNat:Int) !=(b[j].toNat:Int))=true:=by
     simp only[bne_iff_ne,ne_eq,Int.natCast_inj]
     exact fun h=>he (UInt8.toNat.inj h)
    rw[hn (fun h=>hne h.2.2)]
    simp[-List.length_flatMap,-Int.natCast_add,bd,hlt,hb,ha,hnP,hl]
  ·have:j=14:=by omega
   subst this
   have he:P=b:=by rw[←List.take_of_length_le (l:=P) (by omega:P.length≤14),ht,List.take_of_length_le (by omega)]
   rw[hs,if_pos ⟨by omega,hR,he⟩]
   simp[-List.length_flatMap]
end Go.Vi.Sz
end
section
set_option maxRecDepth 100000
namespace Go.Vi.Sz
open Go Go.Vi Go.Vi.Zz
structure bN where
 slot:Int
 ino:Int
 name:List UInt8
deriving DecidableEq
def eE(e:bN):List T:=[.v (.int .i64 e.slot),.v (.int .i64 e.ino),.v (.string ⟨e.name.toArray⟩)]
def Au:bN:=⟨0,0,[]⟩
@[simp] theorem IJ(e:bN):(eE e).length=3:=rfl
def s6(e:bN):Bool:=decide (0≤e.slot)&&decide (e.slot< 16)&&decide (0< e.ino)&&decide (e.ino≤65535)&&kc e.name
theorem Rh(e:bN):Ev E wP [.agg (eE e)] (.v (.bool (s6 e))):=by
 refine aC (fn:=sK) rfl (by decide) rfl rfl rfl ?_
 have h:=af (y6 e.name)
 unfold s6
 simp[sK,eE]
 repeat' (refine j9 (fun h=> ?_) (fun h=> ?_)<;>simp[*])
theorem Qg(e:bN):Ev E oA [.agg (eE e)] (.v (.bool (s6 e))):=by
 refine aC (fn:=sI) rfl (by decide) rfl rfl rfl ?_
 have h:=af (Dn e.name)
 unfold s6
 rw[show decide (0< e.ino)=decide (1≤e.ino)from rfl]
 simp[sI,eE]
 repeat' (refine j9 (fun h=> ?_) (fun h=> ?_)<;>simp[*])
def HA(e:bN):List UInt8:=leB e.ino.toNat 2++fD e.name
theorem Ey{e:bN}(h:s6 e=true):(0≤e.slot∧e.slot< 16)∧(0< e.ino∧e.ino≤65535)∧kc e.name=true:=by
 simp only[s6,Bool.and_eq_true,decide_eq_true_eq]at h
 exact⟨⟨h.1.1.1.1,h.1.1.1.2⟩,⟨h.1.1.2,h.1.2⟩,h.2⟩
theorem L9(e:bN):Ev E kW [.agg (eE e)] (if s6 e then .an [ka (HA e),.v (.int .i64 0)]else .an [.sl .nil 0 [],.v (.int .i64 1)]):=by
 refine aC (fn:=oT) rfl (by decide) rfl rfl rfl ?_
 have h:=af (Rh e)
 cases hb:s6 e
 ·rw[hb]at h
  simp only[eE]at h
  simp[oT,eE,h]
 ·obtain⟨_,hi,hn⟩:=Ey hb
  have hl:=zN hn
  have hp:=af (Ti e.name)
  have vV:=zM (s:=e.name) (by omega)
  have ed:=af (Jl [] (by simp) e.ino 2 (by omega))
  have hrN:gO e.ino 2=true:=by
   simp only[gO,wid,Bool.and_eq_true,decide_eq_true_eq]
   exact⟨⟨rfl,by omega⟩,Int.lt_of_le_of_lt hi.2 (by decide)⟩
  have e1:y4 [] e.ino 2=leB e.ino.toNat 2:=by rw[y4,if_pos hrN];rfl
  rw[e1]at ed
  rw[hn,if_pos rfl]at hp
  rw[hb]at h
  unfold HA
  simp only[eE]at h
  obtain⟨x,y,e2⟩:=As e.ino.toNat
  rw[e2]at ed⊢
  have b7:=kV (fD e.name)
  have GQ:=bV (fD e.name)
  generalize fD e.name=P at*
  rw[vV]at GQ
  have ed:dC E jM [.sl .any 0 [],.v (.int .i64 e.ino),.v (.int .i64 2)]=some (.sl (.own 0 5) 2 [.v (.int .u8 x.toNat),.v (.int .u8 y.toNat)]):=ed
  simp only[sl,vV]at hp
  simp[oT,eE,h,ed,hp,vV,GQ,room,hit,-List.length_flatMap,ka,eB,List.idxOf?]
theorem aeO(l:List UInt8):leB (lV l) l.length=l:=by
 induction l with
 |nil=>rfl
 |cons b l ih=>
  have hb:=b.toNat_lt
  rw[List.length_cons,leB,lV]
  have h1:(b.toNat+256*lV l)%256=b.toNat:=by omega
  have h2:(b.toNat+256*lV l) / 256=lV l:=by omega
  rw[h1,h2,ih]
  congr 1
  exact UInt8.ofNat_toNat
theorem Qh:∀(l:List UInt8),cd (List.replicate l.length .int) (l.flatMap eB) (List.replicate l.length (.v (.int .u8 0)))=some (decide (l=List.replicate l.length 0))
 | []=>rfl
 |b::l=>by
  rw[List.length_cons,List.replicate_succ,List.replicate_succ,List.replicate_succ,List.flatMap_cons]
  simp only[eB,List.cons_append,List.nil_append]
  rw[Q3,Qh l]
  rw[Option.map_some,Option.some.injEq,Bool.eq_iff_iff]
  simp only[Bool.and_eq_true,beq_iff_eq,decide_eq_true_eq,List.cons.injEq]
  constructor
  ·rintro⟨h1,h2⟩
   exact⟨UInt8.toNat.inj (by simpa using h1),h2⟩
  ·rintro⟨h1,h2⟩
   exact⟨by rw[h1];rfl,h2⟩
section
variable{E:Env}{k:List Fr}{Q:Out→Prop}{outs:List (Option Nat)}{rest:nC}(rs vars:List T)(bx:List (Option (List T)))
theorem Tj(a:ag)(len:Nat)(c:List UInt8)(h:a.get ⟨rs,vars,bx⟩=sl eB c)(hn:len≤c.length∧0< c.length):O E ((none,.arrOf len a)::rest) outs k ⟨rs,vars,bx⟩ Q=O E rest outs k ⟨snoc rs (.ptr (c.flatMap eB) 0),vars,bx⟩ Q:=by
 have hr:ae C0 ⟨rs,vars,bx⟩ (.arrOf len a)=some (.ptr (c.flatMap eB) 0,⟨rs,vars,bx⟩):=by
  simp only[ae,h,sl]
  rw[if_pos hn]
 rw[bH rfl,hr,Bn]
end
def BF:List UInt8:=List.replicate 16 0
def nD(b:List UInt8)(slot:Int):Option (Option bN):=if b=BF then some none else match uQ (b.drop 2)with
 |some s=>if s6 ⟨slot,bh b 0 2,s⟩then some (some ⟨slot,bh b 0 2,s⟩)else none
 |none=>none
def gP(o:Option (Option bN)):T:= .an [.agg (eE ((o.getD none).getD Au)),.v (.bool (o.getD none).isSome),.v (.bool o.isSome)]
theorem FP:eE Au=[.v (.int .i64 0),.v (.int .i64 0),.v (.string ⟨#[]⟩)]:=rfl
theorem acd{b s:List UInt8}(h:uQ b=some s):kc s=true∧fD s=b:=by
 unfold uQ at h
 split at h
 ·rename_i hc
  simp only[Option.some.injEq]at h
  subst h
  exact hc.2
 ·cases h
theorem Qi{b:List UInt8}(hl:b.length=16){slot:Int}{s:List UInt8}(h:uQ (b.drop 2)=some s):HA ⟨slot,bh b 0 2,s⟩=b:=by
 have h2:=(acd h).2
 have e:leB (lV (b.take 2)) 2=b.take 2:=by
  have:=aeO (b.take 2)
  rw[List.length_take,Nat.min_eq_left (by omega)]at this
  exact this
 show leB ((lV (b.take 2):Nat):Int).toNat 2++fD s=b
 rw[Int.toNat_natCast,e,h2,List.take_append_drop]
theorem aaj(b:List UInt8)(hl:b.length=16)(slot:Int):Ev E gI [sl eB b,.v (.int .i64 slot)] (gP (nD b slot)):=by
 refine aC (fn:=jE) rfl (by decide) rfl rfl rfl ?_
 have hz:=Qh b
 rw[hl]at hz
 have vo:=af (mM b (by omega) 0 2)
 have LF:Ap b 0 2= .an [.v (.int .i64 (bh b 0 2)),.v (.bool true)]:=by
  unfold Ap
  rw[hl,if_pos (by rfl)]
  rfl
 rw[LF]at vo
 have wm:=af (aai (b.drop 2) (by simp;omega))
 have bq:one? true 16 (b.flatMap eB) 0=some (.agg (b.flatMap eB)):=by
  unfold one?
  rw[if_pos rfl,if_pos (by rw[bV];omega),List.drop_zero,List.take_of_length_le (by rw[bV];omega)]
 have KA:uw 1 (sl eB b) (some 2) (some (o6 (sl eB b))) (some (o6 (sl eB b))) false=some (sl eB (b.drop 2)):=by
  have ht:o6 (sl eB b)=b.length:=rfl
  rw[Te,ht,if_pos (by omega),List.take_of_length_le (by simp)]
 have oQ:=FP
 have b7:=kV b
 have hf:Option.filter T.closed (some (T.agg (b.flatMap eB)))=some (T.agg (b.flatMap eB)):=bJ (by simp[b7])
 unfold nD gP
 rw[show List.replicate 16 (0:UInt8)=BF from rfl]at hz
 simp only[List.reduceReplicate]at hz
 by_cases h0:b=BF
 ·rw[decide_eq_true h0]at hz
  rw[if_pos h0]
  simp[-List.length_flatMap,jE,hl]
  rw[Tj _ _ _ _ _ b rfl (by omega)]
  simp[-List.length_flatMap,bq,hz,oQ,hf]
 ·rw[decide_eq_false h0]at hz
  rw[if_neg h0]
  simp[-List.length_flatMap,jE,hl]
  rw[Tj _ _ _ _ _ b rfl (by omega)]
  simp[-List.length_flatMap,bq,hz,hf,vo,asNat,KA]
  cases hu:uQ (b.drop 2)with
  |none=>
   have ed:=af (L9 ⟨slot,bh b 0 2,[]⟩)
   have o5:s6 ⟨slot,bh b 0 2,[]⟩=false:=by simp[s6,kc]
   rw[o5,if_neg (by decide)]at ed
   simp only[eE]at ed
   rw[hu,EV]at wm
   simp only[Option.getD_none,Option.isSome_none]at wm
   simp[wm,ed,T.fresh,T.fresh2,oQ]
  |some s=>
   have ed:=af (L9 ⟨slot,bh b 0 2,s⟩)
   have zn:=Qi hl (slot:=slot) hu
   rw[zn]at ed
   have heq:dC E cY [sl eB b,.sl .any b.length (b.flatMap eB)]=some (.v (.bool true)):=af (Cu b)
   rw[hu,EV]at wm
   simp only[eE,ka]at ed
   simp only[Option.getD_some,Option.isSome_some]at wm
   cases hr:s6 ⟨slot,bh b 0 2,s⟩
   ·rw[hr,if_neg (by decide)]at ed
    simp[wm,ed,T.fresh,T.fresh2,oQ,hr]
   ·rw[hr,if_pos rfl]at ed
    simp[-List.length_flatMap,wm,ed,heq,T.fresh,T.fresh2,hr]
    rfl
theorem Vp(b:List UInt8)(hl:b.length=16)(slot:Int):Ev E zV [sl eB b,.v (.int .i64 slot)] (gP (nD b slot)):=by
 refine aC (fn:=rK) rfl (by decide) rfl rfl rfl ?_
 have hS:dC E fe [sl eB b,.sl .any 16 (List.replicate 16 (.v (.int .u8 0)))]=some (.v (.bool (decide (b=BF)))):=af (Bs b BF (by omega))
 have vo:=af (mb b (by omega) 0 2)
 have LF:Ap b 0 2= .an [.v (.int .i64 (bh b 0 2)),.v (.bool true)]:=by
  unfold Ap
  rw[hl,if_pos (by rfl)]
  rfl
 rw[LF]at vo
 have wm:=af (Vo (b.drop 2) (by simp;omega))
 have KA:uw 1 (sl eB b) (some 2) (some (o6 (sl eB b))) (some (o6 (sl eB b))) false=some (sl eB (b.drop 2)):=by
  have ht:o6 (sl eB b)=b.length:=rfl
  rw[Te,ht,if_pos (by omega),List.take_of_length_le (by simp)]
 have oQ:=FP
 unfold nD gP
 simp only[List.reduceReplicate]at hS
 by_cases h0:b=BF
 ·rw[decide_eq_true h0]at hS
  rw[if_pos h0]
  simp[-List.length_flatMap,rK]
  rw[bH rfl]
  simp[ae,asNat,room,hS,oQ]
 ·rw[decide_eq_false h0]at hS
  rw[if_neg h0]
  simp[-List.length_flatMap,rK]
  rw[bH rfl]
  simp[-List.length_flatMap,ae,asNat,room,hS,hl,vo,KA]
  cases hu:uQ (b.drop 2)with
  |none=>
   rw[hu,EV]at wm
   simp only[Option.getD_none,Option.isSome_none]at wm
   simp[wm,oQ]
  |some s=>
   have Dp:=af (Qg ⟨slot,bh b 0 2,s⟩)
   simp only[eE]at Dp
   rw[hu,EV]at wm
   simp only[Option.getD_some,Option.isSome_some]at wm
   cases hr:s6 ⟨slot,bh b 0 2,s⟩
   ·rw[hr]at Dp
    simp[wm,Dp,T.fresh,T.fresh2,oQ,hr]
   ·rw[hr]at Dp
    simp[wm,Dp,T.fresh,T.fresh2,hr]
    rfl
end Go.Vi.Sz
end
section
set_option maxRecDepth 100000
namespace Go.Vi.Sz
open Go Go.Vi Go.Vi.Zz
structure pk where
 has:Int
 pX:Int
 red:List UInt8
 ol:Int
 oi:Int
 og:Int
 shown:Int
deriving DecidableEq
def eA(a:pk):List T:=[.v (.int .i64 a.has),.v (.int .i64 a.pX),.v (.string ⟨a.red.toArray⟩),.v (.int .i64 a.ol),.v (.int .i64 a.oi),.v (.int .i64 a.og),.v (.int .i64 a.shown)]
def ou:pk:=⟨0,0,[],0,0,0,0⟩
theorem Vq(n top:Int):Ev E gS [.v (.int .i64 n),.v (.int .i64 top)] (.v (.bool (bQ n top))):=by
 refine aC (fn:=sJ) rfl (by decide) rfl rfl rfl ?_
 unfold bQ
 simp[sJ]
 repeat' (refine j9 (fun h=> ?_) (fun h=> ?_)<;>simp[*])
theorem aak(n top:Int):Ev E fV [.v (.int .i64 n),.v (.int .i64 top)] (.v (.bool (bQ n top))):=by
 refine aC (fn:=sH) rfl (by decide) rfl rfl rfl ?_
 unfold bQ
 simp[sH]
 repeat' (refine j9 (fun h=> ?_) (fun h=> ?_)<;>simp[*])
def hasB(n:Int)(b:Nat):Bool:=n.toNat / b%2==1
theorem Jo(H b:Nat)(hH:H≤31)(hb:b=1∨b=2∨b=4∨b=8):Ev E iP [.v (.int .i64 H),.v (.int .i64 b)] (.v (.bool (hasB H b))):=by
 refine aC (fn:=vz) rfl (by decide) rfl rfl rfl ?_
 unfold hasB
 rw[Int.toNat_natCast]
 have hq:=RB 3 (a:=H) (b:=b) (by omega) (by omega)
 have hr:bO .rem 3 (.v (.int .i64 ((H / b:Nat):Int))) (.v (.int .i64 2))=some (.v (.int .i64 ((H / b%2:Nat):Int))):=Fc 3 (a:=H / b) (b:=2) (by omega)
 have he:(((H / b%2:Nat):Int)==1)=(H / b%2==1):=by rw[Bool.eq_iff_iff];simp only[beq_iff_eq];omega
 simp[-Int.natCast_ediv,-Int.natCast_emod,vz,hq,hr,he]
def xO(a:pk):pk:=⟨a.has,if hasB a.has 1 then a.pX else 0,if hasB a.has 2 then a.red else [],if hasB a.has 4 then a.ol else 0,if hasB a.has 4 then a.oi else 0,if hasB a.has 4 then a.og else 0,if hasB a.has 8 then a.shown else 0⟩
theorem Jp(H:Nat)(h:H< 32):bO .andNot 3 (.v (.int .i64 31)) (.v (.int .i64 (H:Int)))=some (.v (.int .i64 ((31-H:Nat):Int)))∧bO .andNot 3 (.v (.int .i64 (H:Int))) (.v (.int .i64 ((31-H:Nat):Int)))=some (.v (.int .i64 (H:Int))):=by
 have hc:H=0∨H=1∨H=2∨H=3∨H=4∨H=5∨H=6∨H=7∨H=8∨H=9∨H=10∨H=11∨H=12∨H=13∨H=14∨H=15∨H=16∨H=17∨H=18∨H=19∨H=20∨H=21∨H=22∨H=23∨H=24∨H=25∨H=26∨H=27∨H=28∨H=29∨H=30∨H=31:=by omega
 rcases hc with rfl|rfl|rfl|rfl|rfl|rfl|rfl|rfl|rfl|rfl|rfl|rfl|rfl|rfl|rfl|rfl|rfl|rfl|rfl|rfl|rfl|rfl|rfl|rfl|rfl|rfl|rfl|rfl|rfl|rfl|rfl|rfl
 all_goals exact⟨rfl,rfl⟩
theorem aeP:∀H< 32,((31-H)&&&1=if H / 1%2==1 then 0 else 1)∧((31-H)&&&2=if H / 2%2==1 then 0 else 2)∧((31-H)&&&4=if H / 4%2==1 then 0 else 4)∧((31-H)&&&8=if H / 8%2==1 then 0 else 8):=by decide
theorem aeQ(a:pk)(H:Nat)(h:H< 32)(ha:a.has=H):Ev E z6 [.agg (eA a),.v (.int .i64 ((31-H:Nat):Int))] (.agg (eA (xO a))):=by
 refine aC (fn:=vB) rfl (by decide) rfl rfl rfl ?_
 obtain⟨t1,t2,t4,t8⟩:=aeP H h
 have a1:bO .and 3 (.v (.int .i64 ((31-H:Nat):Int))) (.v (.int .i64 1))=some (.v (.int .i64 (((31-H)&&&1:Nat):Int))):=AO 3 (a:=31-H) (b:=1) (by omega) (by omega)
 have a2:bO .and 3 (.v (.int .i64 ((31-H:Nat):Int))) (.v (.int .i64 2))=some (.v (.int .i64 (((31-H)&&&2:Nat):Int))):=AO 3 (a:=31-H) (b:=2) (by omega) (by omega)
 have a4:bO .and 3 (.v (.int .i64 ((31-H:Nat):Int))) (.v (.int .i64 4))=some (.v (.int .i64 (((31-H)&&&4:Nat):Int))):=AO 3 (a:=31-H) (b:=4) (by omega) (by omega)
 have a8:bO .and 3 (.v (.int .i64 ((31-H:Nat):Int))) (.v (.int .i64 8))=some (.v (.int .i64 (((31-H)&&&8:Nat):Int))):=AO 3 (a:=31-H) (b:=8) (by omega) (by omega)
 have hn:=(Jp H h).2
 rw[t1]at a1
 rw[t2]at a2
 rw[t4]at a4
 rw[t8]at a8
 unfold xO hasB
 rw[ha,Int.toNat_natCast]
 have he:eA a=[.v (.int .i64 H),.v (.int .i64 a.pX),.v (.string ⟨a.red.toArray⟩),.v (.int .i64 a.ol),.v (.int .i64 a.oi),.v (.int .i64 a.og),.v (.int .i64 a.shown)]:=by unfold eA;rw[ha]
 rw[he]
 generalize ((31-H:Nat):Int)=M at*
 cases b1:(H / 1%2==1)<;>cases b2:(H / 2%2==1)<;>cases b4:(H / 4%2==1)<;>cases b8:(H / 8%2==1)<;>rw[b1]at a1<;>rw[b2]at a2<;>rw[b4]at a4<;>rw[b8]at a8<;>simp[vB,a1,a2,a4,a8,hn,eA]
end Go.Vi.Sz
end
section
set_option maxRecDepth 100000
namespace Go.Vi.Sz
open Go Go.Vi Go.Vi.Zz
def Vr(a:pk):Bool:=bQ a.has 31&&(bQ a.pX 255&&(bQ a.shown 65535&&(decide (a.red.length≤24)&&(bQ a.ol 255&&(bQ a.oi 65535&&bQ a.og 268435455)))))
def Qj(a:pk):Bool:=(hasB a.has 1||a.pX==0)&&(hasB a.has 4||(a.ol==0&&(a.oi==0&&a.og==0)))&&(hasB a.has 8||a.shown==0)
def s9(a:pk):Bool:=Vr a&&(Qj a&&(hasB a.has 2== !(a.red==[])))
theorem ld{n top:Int}(h:bQ n top=true):0≤n∧n≤top:=by
 simpa [bQ]using h
theorem ace:∀H< 32,(H&&&2)=if H / 2%2==1 then 2 else 0:=by decide
theorem Ri(a:pk):Ev E yc [.agg (eA a)] (.v (.bool (s9 a))):=by
 refine aC (fn:=fL) rfl (by decide) rfl rfl rfl ?_
 have hc:∀n top,dC E gS [.v (.int .i64 n),.v (.int .i64 top)]=some (.v (.bool (bQ n top))):=fun n top=>af (Vq n top)
 have he:eA a=[.v (.int .i64 a.has),.v (.int .i64 a.pX),.v (.string ⟨a.red.toArray⟩),.v (.int .i64 a.ol),.v (.int .i64 a.oi),.v (.int .i64 a.og),.v (.int .i64 a.shown)]:=rfl
 unfold s9 Vr
 cases q1:bQ a.has 31
 ·simp[fL,he,hc,q1]
 cases q2:bQ a.pX 255
 ·simp[fL,he,hc,q1,q2]
 cases q3:bQ a.shown 65535
 ·simp[fL,he,hc,q1,q2,q3]
 by_cases q4:a.red.length≤24
 ·have Tk:¬(24:Int)< a.red.length:=by omega
  cases q5:bQ a.ol 255
  ·simp[fL,he,hc,q1,q2,q3,q4,Tk,q5,cf]
  cases q6:bQ a.oi 65535
  ·simp[fL,he,hc,q1,q2,q3,q4,Tk,q5,q6,cf]
  cases q7:bQ a.og 268435455
  ·simp[fL,he,hc,q1,q2,q3,q4,Tk,q5,q6,q7,cf]
  ·obtain⟨h0,h31⟩:=ld q1
   obtain⟨H,hH⟩:∃H:Nat,a.has=H:=⟨a.has.toNat,by omega⟩
   have hlt:H< 32:=by omega
   have hd:=af (aeQ a H hlt hH)
   have hn:=(Jp H hlt).1
   have h2:bO .and 3 (.v (.int .i64 (H:Int))) (.v (.int .i64 2))=some (.v (.int .i64 ((H&&&2:Nat):Int))):=AO 3 (a:=H) (b:=2) (by omega) (by omega)
   rw[ace H hlt]at h2
   have tn:hasB a.has 2=(H / 2%2==1):=by rw[hH];rfl
   have nr:bO .and 3 (.v (.int .i64 a.has)) (.v (.int .i64 2))=some (.v (.int .i64 (if hasB a.has 2 then 2 else 0))):=by
    rw[hH,h2,←hH,tn]
    cases (H / 2%2==1)<;>rfl
   have nv:bO .andNot 3 (.v (.int .i64 31)) (.v (.int .i64 a.has))=some (.v (.int .i64 ((31-H:Nat):Int))):=by rw[hH];exact hn
   generalize ((31-H:Nat):Int)=M at*
   have heq:cd [.int,.int,.str,.int,.int,.int,.int] (eA (xO a)) (eA a)=some (Qj a&&(hasB a.has 2||(a.red==[]))):=by
    have hs:∀n:Int,(0==n)=(n==0):=fun n=>BEq.comm
    simp[eA,xO,Qj]
    cases hasB a.has 1<;>cases hasB a.has 2<;>cases hasB a.has 4<;>cases hasB a.has 8<;>simp[hs]
    all_goals simp only[Bool.and_comm,Bool.and_left_comm]
   have hdc:bn (eA (xO a))=true:=by simp[eA]
   have hdl:rk (eA (xO a))=true:=by simp[eA]
   have hdi:∀d,dD d (eA (xO a))=eA (xO a):=fun d=>by simp[eA]
   rw[he]at hd heq
   generalize eA (xO a)=D at*
   have IW:(a.red==[])=a.red.isEmpty:=by cases a.red<;>rfl
   rw[IW]at heq⊢
   cases p1:Qj a<;>cases p2:hasB a.has 2<;>cases p3:a.red.isEmpty<;>rw[p1,p2,p3]at heq<;>rw[p2]at nr<;>simp[fL,he,hc,q1,q2,q3,q4,Tk,q5,q6,q7,cf,nv,hd,hdi,heq,nr,p3,bin_nes,IW,-List.isEmpty_iff,-List.isEmpty_eq_false_iff]
 ·have Tk:(24:Int)< a.red.length:=by omega
  simp[fL,he,hc,q1,q2,q3,q4,Tk,cf]
theorem Qk(a:pk):Ev E su [.agg (eA a)] (.v (.bool (s9 a))):=by
 refine aC (fn:=fg) rfl (by decide) rfl rfl rfl ?_
 have hc:∀n top,dC E fV [.v (.int .i64 n),.v (.int .i64 top)]=some (.v (.bool (bQ n top))):=fun n top=>af (aak n top)
 have he:eA a=[.v (.int .i64 a.has),.v (.int .i64 a.pX),.v (.string ⟨a.red.toArray⟩),.v (.int .i64 a.ol),.v (.int .i64 a.oi),.v (.int .i64 a.og),.v (.int .i64 a.shown)]:=rfl
 unfold s9 Vr
 cases q1:bQ a.has 31
 ·simp[fg,he,hc,q1]
 cases q2:bQ a.pX 255
 ·simp[fg,he,hc,q1,q2]
 cases q3:bQ a.shown 65535
 ·simp[fg,he,hc,q1,q2,q3]
 have q4E:decide (a.red.length≤24)=bQ a.red.length 24:=by
  rw[Bool.eq_iff_iff,decide_eq_true_iff]
  simp[bQ]
  omega
 rw[q4E]
 cases q4:bQ a.red.length 24
 ·simp[fg,he,hc,q1,q2,q3,q4,cf]
 cases q5:bQ a.ol 255
 ·simp[fg,he,hc,q1,q2,q3,q4,q5,cf]
 cases q6:bQ a.oi 65535
 ·simp[fg,he,hc,q1,q2,q3,q4,q5,q6,cf]
 cases q7:bQ a.og 268435455
 ·simp[fg,he,hc,q1,q2,q3,q4,q5,q6,q7,cf]
 obtain⟨h0,h31⟩:=ld q1
 obtain⟨H,hH⟩:∃H:Nat,a.has=H:=⟨a.has.toNat,by omega⟩
 have b1:dC E iP [.v (.int .i64 a.has),.v (.int .i64 1)]=some (.v (.bool (hasB a.has 1))):=by rw[hH];exact af (Jo H 1 (by omega) (by omega))
 have b2:dC E iP [.v (.int .i64 a.has),.v (.int .i64 2)]=some (.v (.bool (hasB a.has 2))):=by rw[hH];exact af (Jo H 2 (by omega) (by omega))
 have b4:dC E iP [.v (.int .i64 a.has),.v (.int .i64 4)]=some (.v (.bool (hasB a.has 4))):=by rw[hH];exact af (Jo H 4 (by omega) (by omega))
 have b8:dC E iP [.v (.int .i64 a.has),.v (.int .i64 8)]=some (.v (.bool (hasB a.has 8))):=by rw[hH];exact af (Jo H 8 (by omega) (by omega))
 have IW:(a.red==[])=a.red.isEmpty:=by cases a.red<;>rfl
 have hlen:decide (0< a.red.length)= !a.red.isEmpty:=by cases a.red<;>simp
 rw[IW]
 unfold Qj
 clear h0 h31 hH q4E
 generalize hasB a.has 1=B1 at*
 generalize hasB a.has 2=B2 at*
 generalize hasB a.has 4=B4 at*
 generalize hasB a.has 8=B8 at*
 have hs:∀n:Int,(0==n)=(n==0):=fun n=>BEq.comm
 generalize hE:a.red.isEmpty=EE at*
 generalize hO:(a.pX==0)=OO at*
 have hO':(a.pX !=0)= !OO:=by rw[←hO];rfl
 cases B1<;>cases OO<;>cases B2<;>cases EE<;>simp[fg,he,hc,q1,q2,q3,q4,q5,q6,q7,cf,b1,b2,b4,hlen,hO',-List.isEmpty_iff,-List.isEmpty_eq_false_iff]
 all_goals cases B4<;>cases B8<;>simp
 all_goals
  generalize (a.ol==0&&(a.oi==0&&a.og==0))=OR
  cases OR<;>simp[T.bool,b8]
end Go.Vi.Sz
end
section
set_option maxRecDepth 100000
namespace Go.Vi.Sz
open Go Go.Vi Go.Vi.Zz
def jJ(s:List UInt8):List UInt8:=s++List.replicate (24-s.length) 0
theorem EX{s:List UInt8}(h:s.length≤24):(jJ s).length=24:=by simp[jJ];omega
def ke(a:pk):List UInt8:=UInt8.ofNat a.has.toNat::UInt8.ofNat a.pX.toNat::UInt8.ofNat a.red.length::jJ a.red
def cQ(a:pk):List UInt8:=ke a++leB a.ol.toNat 1++leB a.oi.toNat 2++leB a.og.toNat 4++leB a.shown.toNat 2
theorem Ma{a:pk}(h:s9 a=true):(0≤a.has∧a.has≤31)∧(0≤a.pX∧a.pX≤255)∧(0≤a.shown∧a.shown≤65535)∧a.red.length≤24∧(0≤a.ol∧a.ol≤255)∧(0≤a.oi∧a.oi≤65535)∧(0≤a.og∧a.og≤268435455):=by
 simp only[s9,Vr,Bool.and_eq_true,decide_eq_true_eq]at h
 obtain⟨⟨h1,h2,h3,h4,h5,h6,h7⟩,_⟩:=h
 exact⟨ld h1,ld h2,ld h3,h4,ld h5,ld h6,ld h7⟩
theorem Av{a:pk}(h:a.red.length≤24):(cQ a).length=36:=by simp[cQ,ke,iG,EX h]
theorem akj(s:List UInt8):setCells (List.replicate 24 (.v (.int .u8 0))) 0 (s.flatMap eB)=(jJ s).flatMap eB:=by
 unfold setCells jJ
 rw[bV,Nat.zero_add,List.take_zero,List.nil_append,List.drop_replicate,List.flatMap_append,Qd]
theorem Vs(B:List UInt8)(hB:B.length≤100)(n:Int)(w:Nat)(hw:w=1∨w=2∨w=4)(h0:0≤n)(h1:n< 2^(8*w))(m:Nat)(hm:B.length=m)(C:List T)(hC:C=B.flatMap eB)(s:Int)(hs:s=w):dC E jM [.sl .any m C,.v (.int .i64 n),.v (.int .i64 s)]=some (.sl (.own 0 5) (m+w) ((B++leB n.toNat w).flatMap eB)):=by
 subst hm hC hs
 have h4:(2:Int)^(8*w)≤4294967296:=by rcases hw with rfl|rfl|rfl<;>decide
 have ed:=af (Jl B (by omega) n w (by omega))
 have hr:gO n w=true:=by
  simp only[gO,wid,Bool.and_eq_true,decide_eq_true_eq]
  refine⟨⟨?_,h0⟩, ?_⟩
  ·rcases hw with rfl|rfl|rfl<;>rfl
  ·rcases hw with rfl|rfl|rfl<;>exact h1
 rw[y4,if_pos hr,ka,List.length_append,iG]at ed
 exact ed
theorem aeR(l:List UInt8):(l.flatMap eB).all T.closed=true:=by
 induction l with
 |nil=>rfl
 |cons b l ih=>rw[List.flatMap_cons,List.all_append,ih];rfl
theorem aal(a:pk):Ev E BJ [.agg (eA a)] (if s9 a then .an [ka (gE (cQ a)),.v (.int .i64 0)]else .an [.sl .nil 0 [],.v (.int .i64 1)]):=by
 refine aC (fn:=tW) rfl (by decide) rfl rfl rfl ?_
 have h:=af (Ri a)
 have he:eA a=[.v (.int .i64 a.has),.v (.int .i64 a.pX),.v (.string ⟨a.red.toArray⟩),.v (.int .i64 a.ol),.v (.int .i64 a.oi),.v (.int .i64 a.og),.v (.int .i64 a.shown)]:=rfl
 cases hb:s9 a
 ·rw[hb]at h
  rw[he]at h
  simp[tW,he,h]
 ·rw[hb]at h
  rw[he]at h
  obtain⟨g1,g2,g3,g4,g5,g6,g7⟩:=Ma hb
  obtain⟨H,hH⟩:∃H:Nat,a.has=H:=⟨a.has.toNat,by omega⟩
  obtain⟨Q,hQ⟩:∃Q:Nat,a.pX=Q:=⟨a.pX.toNat,by omega⟩
  have wH:=wrap_u8 (n:=H) (by omega)
  have wQ:=wrap_u8 (n:=Q) (by omega)
  have wR:=wrap_u8 (n:=a.red.length) (by omega)
  have hd:ke a=UInt8.ofNat H::UInt8.ofNat Q::UInt8.ofNat a.red.length::jJ a.red:=by rw[ke,hH,hQ];rfl
  have rf:=akj a.red
  simp only[List.reduceReplicate]at rf
  have vV:=EX g4
  have gV:=af (Tg (cQ a) (by rw[Av g4];omega))
  have fG:=Av g4
  have fY:sl eB (cQ a)= .sl .any 36 ((cQ a).flatMap eB):=by rw[sl,fG]
  rw[fY]at gV
  have e1:cQ a=ke a++leB a.ol.toNat 1++leB a.oi.toNat 2++leB a.og.toNat 4++leB a.shown.toNat 2:=rfl
  have zm:(ke a).length=27:=by rw[hd];simp[vV]
  have p1:=Vs (ke a) (by omega) a.ol 1 (by omega) (by omega) (by simp;omega) 27 zm
  have p2:=Vs (ke a++leB a.ol.toNat 1) (by simp[zm,iG]) a.oi 2 (by omega) (by omega) (by simp;omega) 28 (by simp[zm,iG]) _ rfl 2 rfl
  have p3:=Vs (ke a++leB a.ol.toNat 1++leB a.oi.toNat 2) (by simp[zm,iG]) a.og 4 (by omega) (by omega) (by simp;omega) 30 (by simp[zm,iG]) _ rfl 4 rfl
  have p4:=Vs (ke a++leB a.ol.toNat 1++leB a.oi.toNat 2++leB a.og.toNat 4) (by simp[zm,iG]) a.shown 2 (by omega) (by omega) (by simp;omega) 34 (by simp[zm,iG]) _ rfl 2 rfl
  rw[←e1]at p4
  generalize hX2:(ke a++leB a.ol.toNat 1++leB a.oi.toNat 2++leB a.og.toNat 4).flatMap eB=X4 at*
  generalize K5:(ke a++leB a.ol.toNat 1++leB a.oi.toNat 2).flatMap eB=X3 at*
  generalize K5:(ke a++leB a.ol.toNat 1).flatMap eB=X2 at*
  generalize cQ a=AB at*
  rw[hd]at p1
  have b7:=kV (jJ a.red)
  have GQ:=bV (jJ a.red)
  rw[vV]at GQ
  have p1:=p1 _ rfl 1 rfl
  simp only[List.flatMap_cons,eB,List.cons_append,List.nil_append]at p1
  generalize UInt8.ofNat H=kH at*
  generalize UInt8.ofNat Q=kQ at*
  generalize UInt8.ofNat a.red.length=kR at*
  have htp:((jJ a.red).flatMap eB).take 24=(jJ a.red).flatMap eB:=by rw[List.take_of_length_le (by omega)]
  have hsc:∀s o n c,dE (.av s o n c) ((jJ a.red).flatMap eB)=true:=fun _ _ _ _=>aeR _
  have M7:min a.red.length 24=a.red.length:=by omega
  have fS:(a.red.flatMap eB).take a.red.length=a.red.flatMap eB:=by rw[List.take_of_length_le (by rw[bV];omega)]
  have hm:=aah a.red
  change setCells _ 0 (a.red.flatMap eB)=(jJ a.red).flatMap eB at rf
  simp[-List.length_flatMap,tW,he,h]
  rw[bH rfl]
  simp[-List.length_flatMap,ae,hm,bV,M7,fS,rf,hH,hQ,wH,wQ,wR,cf,tE,iH,htp,hsc,GQ,room,hit,p1,p2,p3,p4,gV,ka,List.idxOf?]
end Go.Vi.Sz
end
section
set_option maxRecDepth 100000
namespace Go.Vi.Sz
open Go Go.Vi Go.Vi.Zz
def RaI(X:List T)(s:List UInt8)(K:List T)(P:List UInt8)(j:Nat)(σ:St):Prop:=∃a r k c d,(k=120∨k=248∨k=272)∧σ=⟨[],[a,.ref 0 0,r,.sl (.own k 5) (j+3) (K++(P.take j).flatMap eB),.v (.int .i64 j),c,d],[some X,none]⟩
theorem Rj(a:pk)(hb:s9 a=true):Ev E sw [.agg (eA a)] (ka (gE (cQ a))):=by
 refine aC (fn:=sF) rfl (by decide) rfl rfl rfl ?_
 have he:eA a=[.v (.int .i64 a.has),.v (.int .i64 a.pX),.v (.string ⟨a.red.toArray⟩),.v (.int .i64 a.ol),.v (.int .i64 a.oi),.v (.int .i64 a.og),.v (.int .i64 a.shown)]:=rfl
 obtain⟨g1,g2,g3,g4,g5,g6,g7⟩:=Ma hb
 have wE:∀n:Int,0≤n→∃N:Nat,n=N:=fun n h=>⟨n.toNat,by omega⟩
 obtain⟨has,pX,red,ol,oi,og,shown⟩:=a
 simp only at g1 g2 g3 g4 g5 g6 g7
 obtain⟨H,rfl⟩:=wE has (by omega)
 obtain⟨Q,rfl⟩:=wE pX (by omega)
 obtain⟨S,rfl⟩:=wE shown (by omega)
 obtain⟨L,rfl⟩:=wE ol (by omega)
 obtain⟨I,rfl⟩:=wE oi (by omega)
 obtain⟨G,rfl⟩:=wE og (by omega)
 have wH:=wrap_u8 (n:=H) (by omega)
 have wQ:=wrap_u8 (n:=Q) (by omega)
 have wR:=wrap_u8 (n:=red.length) (by omega)
 have wL:=wrap_u8 (n:=L) (by omega)
 have bI:=ET I 2 (by omega) (by decide) (by decide) _ rfl 2 rfl
 have bG:=ET G 4 (by omega) (by decide) (by decide) _ rfl 4 rfl
 have bS:=ET S 2 (by omega) (by decide) (by decide) _ rfl 2 rfl
 have lL:leB L 1=[UInt8.ofNat L]:=by simp only[leB];rw[Nat.mod_eq_of_lt (by omega)]
 have hd:cQ ⟨H,Q,red,L,I,G,S⟩=UInt8.ofNat H::UInt8.ofNat Q::UInt8.ofNat red.length::(jJ red++[UInt8.ofNat L]++leB I 2++leB G 4++leB S 2):=by
  rw[cQ,ke]
  simp only[Int.toNat_natCast,lL]
  rfl
 have fG:=Av (a:=⟨H,Q,red,L,I,G,S⟩) g4
 have gV:=af (P7 (cQ ⟨H,Q,red,L,I,G,S⟩) (by omega))
 have fY:sl eB (cQ ⟨H,Q,red,L,I,G,S⟩)= .sl .any 36 ((cQ ⟨H,Q,red,L,I,G,S⟩).flatMap eB):=by rw[sl,fG]
 rw[fY]at gV
 rw[hd]at gV⊢
 have vV:=EX g4
 have hg:∀j,j< 24→(h:j< (jJ red).length)→(∀hs:j< red.length,red[j]=(jJ red)[j])∧(¬j< red.length→(jJ red)[j]=0):=by
  intro j hj h14
  constructor
  ·intro hlt
   simp[jJ,hlt]
  ·intro F6
   simp only[jJ]
   rw[List.getElem_append_right (by omega),List.getElem_replicate]
 have b7:=kV (jJ red)
 have GQ:=bV (jJ red)
 generalize jJ red=P at*
 obtain⟨i0,i1,e⟩:=As I;rw[e]at bI gV⊢
 obtain⟨q0,q1,q2,q3,e⟩:=ahq G;rw[e]at bG gV⊢
 obtain⟨s0,s1,e⟩:=As S;rw[e]at bS gV⊢
 generalize UInt8.ofNat H=kH at*
 generalize UInt8.ofNat Q=kQ at*
 generalize UInt8.ofNat red.length=kR at*
 generalize UInt8.ofNat L=kL at*
 simp only[ka,List.length_cons,List.length_nil,List.flatMap_cons,List.flatMap_nil,List.cons_append,List.nil_append,eB]at bI bG bS
 generalize hSB:ka (gE (kH::kQ::kR::(P++[kL]++[i0,i1]++[q0,q1,q2,q3]++[s0,s1])))=SB at*
 have aov:∃n c,SB= .sl (.own 0 5) n c:=⟨_,_,by rw[←hSB,ka]⟩
 obtain⟨SN,SC,rfl⟩:=aov
 simp only[List.flatMap_append,List.flatMap_cons,List.flatMap_nil,List.cons_append,List.nil_append,List.append_assoc,eB]at gV
 simp[-List.length_flatMap,sF,he,cf,wH,wQ,wR]
 refine m_loop 24 (RaI _ red [.v (.int .u8 kH.toNat),.v (.int .u8 kQ.toNat),.v (.int .u8 kR.toNat)] P) ⟨_,_,_,_,_,.inl rfl,rfl⟩ ?_
 rintro j σ hj ⟨a,r,k',c,d,hk,rfl⟩
 by_cases hlt:j< 24
 ·have bd:(j:Int)< 24:=by omega
  have w4:IntKind.i64.wrap ((j:Int)+1)=((j+1:Nat):Int):=by rw[←Int.natCast_succ];exact au (by omega)
  obtain⟨u1,u2⟩:=hg j hlt (by omega)
  have hst:P.take (j+1)=P.take j++[P[j]]:=by rw[List.take_succ_eq_append_getElem]
  have b7:=kV (P.take j)
  have Hy:=bV (P.take j)
  have jb:(P.take j).length=j:=by rw[List.length_take];omega
  rw[jb]at Hy
  have hr:j+3+1≤room:=by unfold room;omega
  have aI:∀X a r k c d,(k=120∨k=248∨k=272)→RaI X red [.v (.int .u8 kH.toNat),.v (.int .u8 kQ.toNat),.v (.int .u8 kR.toNat)] P (j+1) ⟨[],[a,.ref 0 0,r,.sl (.own k 5) (j+3+1) (.v (.int .u8 kH.toNat):: .v (.int .u8 kQ.toNat):: .v (.int .u8 kR.toNat)::((P.take j).flatMap eB++[.v (.int .u8 P[j].toNat)])),.v (.int .i64 ((j+1:Nat):Int)),c,d],[some X,none]⟩:=by
   intro X a r k c d hk
   refine⟨a,r,k,c,d,hk, ?_⟩
   rw[hst,List.flatMap_append,show j+1+3=j+3+1 by omega]
   rfl
  by_cases Qe:j< red.length
  ·have Hz:(j:Int)< red.length:=by omega
   have u1:=u1 Qe
   rcases hk with rfl|rfl|rfl<;>simp[-Int.natCast_add,-List.length_flatMap,bd,hlt,cf,Hz,Qe,u1,Hy,hr,w4,hit,aI]
  ·have Hz:¬(j:Int)< red.length:=by omega
   have u2:=u2 Qe
   rw[u2]at aI
   replace aI:∀X a r k c d,(k=120∨k=248∨k=272)→RaI X red [.v (.int .u8 kH.toNat),.v (.int .u8 kQ.toNat),.v (.int .u8 kR.toNat)] P (j+1) ⟨[],[a,.ref 0 0,r,.sl (.own k 5) (j+3+1) (.v (.int .u8 kH.toNat):: .v (.int .u8 kQ.toNat):: .v (.int .u8 kR.toNat)::((P.take j).flatMap eB++[.v (.int .u8 0)])),.v (.int .i64 ((j+1:Nat):Int)),c,d],[some X,none]⟩:=aI
   rcases hk with rfl|rfl|rfl<;>simp[-Int.natCast_add,-List.length_flatMap,bd,hlt,cf,Hz,Hy,hr,w4,hit,aI]
 ·have:j=24:=by omega
  subst this
  have ht:P.take 24=P:=by rw[List.take_of_length_le (by omega)]
  rw[vV]at GQ
  rcases hk with rfl|rfl|rfl<;>simp[-List.length_flatMap,ht,wL,bI,bG,bS,GQ,room,hit,gV,List.idxOf?]
end Go.Vi.Sz
end
section
set_option maxRecDepth 100000
namespace Go.Vi.Sz
open Go Go.Vi Go.Vi.Zz
def aZ(b:List UInt8)(k:Nat):UInt8:=b.getD k 0
theorem qA(b:List UInt8)(k:Nat)(h:k< b.length):cr (b.flatMap eB) k=some (.v (.int .u8 (aZ b k).toNat)):=by
 rw[yZ b k h,aZ,List.getD_eq_getElem?_getD,List.getElem?_eq_getElem h,Option.getD_some]
def po(b:List UInt8):pk:=⟨(aZ b 0).toNat,(aZ b 1).toNat,(b.drop 3).take (aZ b 2).toNat,(aZ b 27).toNat,bh b 28 2,bh b 30 4,bh b 34 2⟩
def yS(b:List UInt8):Option pk:=if(aZ b 2).toNat≤24∧s9 (po b)=true∧b=gE (cQ (po b))then some (po b)else none
def Hl(o:Option pk):T:= .an [.agg (eA (o.getD ou)),.v (.bool o.isSome)]
theorem Tl:eA ou=[.v (.int .i64 0),.v (.int .i64 0),.v (.string ⟨#[]⟩),.v (.int .i64 0),.v (.int .i64 0),.v (.int .i64 0),.v (.int .i64 0)]:=rfl
theorem Mb{b:List UInt8}(h:¬((aZ b 2).toNat≤24∧s9 (po b)=true∧b=gE (cQ (po b)))):yS b=none:=by
 unfold yS;rw[if_neg h]
theorem XN(b:List UInt8)(hl:b.length=64):Ev E BI [sl eB b] (Hl (yS b)):=by
 refine aC (fn:=tT) rfl (by decide) rfl rfl rfl ?_
 have b0:=qA b 0 (by omega)
 have b1:=qA b 1 (by omega)
 have b2:=qA b 2 (by omega)
 have Ql:=qA b 27 (by omega)
 have g1:=af (mM b (by omega) 28 2)
 have g2:=af (mM b (by omega) 30 4)
 have g3:=af (mM b (by omega) 34 2)
 rw[FN hl _ _ rfl]at g1 g2 g3
 have h0:=Tl
 have hn:=Mb (b:=b)
 have l2:=(aZ b 2).toNat_lt
 unfold Hl
 by_cases h1:24< (aZ b 2).toNat
 ·rw[hn (by omega)]
  have y7:(24:Int)< (aZ b 2).toNat:=by omega
  simp[-List.length_flatMap,tT,hl,b2,y7,h0]
 have y7:¬(24:Int)< (aZ b 2).toNat:=by omega
 have w8:IntKind.u8.wrap (3+((aZ b 2).toNat:Int))=(((aZ b 2).toNat+3:Nat):Int):=by rw[IntKind.wrap_u8];omega
 have Am:bO .add 5 (.v (.int .u8 3)) (.v (.int .u8 ((aZ b 2).toNat:Int)))=some (.v (.int .u8 (((aZ b 2).toNat+3:Nat):Int))):=by
  show some (T.v (Value.int .u8 (IntKind.u8.wrap (3+((aZ b 2).toNat:Int)))))=_
  rw[w8]
 have ed:=af (aal (po b))
 have hx:eA (po b)=[.v (.int .i64 (aZ b 0).toNat),.v (.int .i64 (aZ b 1).toNat),.v (.string ⟨((b.drop 3).take (aZ b 2).toNat).toArray⟩),.v (.int .i64 (aZ b 27).toNat),.v (.int .i64 (bh b 28 2)),.v (.int .i64 (bh b 30 4)),.v (.int .i64 (bh b 34 2))]:=rfl
 have heq:dC E cY [sl eB b,.sl .any (gE (cQ (po b))).length ((gE (cQ (po b))).flatMap eB)]=some (.v (.bool (decide (b=gE (cQ (po b)))))):=af (Aq _ _)
 have OF:yS b=if(aZ b 2).toNat≤24∧s9 (po b)=true∧b=gE (cQ (po b))then some (po b)else none:=rfl
 have kE:=oP (aZ b 0)
 have lS:=oP (aZ b 1)
 have HB:=oP (aZ b 27)
 have dZ:3≤(aZ b 2).toNat+3∧(aZ b 2).toNat+3≤64:=by omega
 have iI:(aZ b 2).toNat+3-3=(aZ b 2).toNat:=by omega
 generalize po b=x at*
 generalize (aZ b 2).toNat=k2 at*
 generalize (aZ b 0).toNat=k0 at*
 generalize (aZ b 1).toNat=k1 at*
 generalize (aZ b 27).toNat=k27 at*
 generalize bh b 28 2=n1 at*
 generalize bh b 30 4=n2 at*
 generalize bh b 34 2=n3 at*
 generalize hS:(b.drop 3).take k2=s at*
 simp[-List.length_flatMap,tT,hl,b0,b1,b2,y7,kE,lS,Am,asNat,dZ,iI,hS,-Int.natCast_add]
 rw[tD _ _ _ _ s rfl]
 rw[hx]at ed
 cases hR:s9 x
 ·rw[hn (by rw[hR];simp)]
  rw[hR,if_neg (by decide)]at ed
  simp[-List.length_flatMap,hl,Ql,HB,g1,g2,g3,ed,h0,T.fresh,T.fresh2]
 ·rw[hR,if_pos rfl]at ed
  simp only[ka]at ed
  by_cases hq:b=gE (cQ x)
  ·rw[decide_eq_true hq]at heq
   rw[OF,if_pos ⟨by omega,hR,hq⟩]
   generalize gE (cQ x)=c at*
   simp[-List.length_flatMap,hl,Ql,HB,g1,g2,g3,ed,heq,hx,T.fresh,T.fresh2]
  ·rw[decide_eq_false hq]at heq
   rw[hn (fun hh=>hq hh.2.2)]
   generalize gE (cQ x)=c at*
   simp[-List.length_flatMap,hl,Ql,HB,g1,g2,g3,ed,heq,h0,T.fresh,T.fresh2]
theorem Vt(b:List UInt8)(hl:b.length=64):Ev E zU [sl eB b] (Hl (yS b)):=by
 refine aC (fn:=rJ) rfl (by decide) rfl rfl rfl ?_
 have b0:=qA b 0 (by omega)
 have b1:=qA b 1 (by omega)
 have b2:=qA b 2 (by omega)
 have Ql:=qA b 27 (by omega)
 have g1:=af (mb b (by omega) 28 2)
 have g2:=af (mb b (by omega) 30 4)
 have g3:=af (mb b (by omega) 34 2)
 rw[FN hl _ _ rfl]at g1 g2 g3
 have h0:=Tl
 have hn:=Mb (b:=b)
 have l2:=(aZ b 2).toNat_lt
 unfold Hl
 by_cases h1:24< (aZ b 2).toNat
 ·rw[hn (by omega)]
  have y7:(24:Int)< (aZ b 2).toNat:=by omega
  simp[-List.length_flatMap,rJ,hl,b2,y7,h0,oP]
 have y7:¬(24:Int)< (aZ b 2).toNat:=by omega
 have w8:IntKind.i64.wrap (3+((aZ b 2).toNat:Int))=(((aZ b 2).toNat+3:Nat):Int):=by rw[show 3+((aZ b 2).toNat:Int)=(((aZ b 2).toNat+3:Nat):Int) by omega];exact au (by omega)
 have Dp:=af (Qk (po b))
 have zn:=fun h=>af (Rj (po b) h)
 have tn:=oP (aZ b 2)
 have hx:eA (po b)=[.v (.int .i64 (aZ b 0).toNat),.v (.int .i64 (aZ b 1).toNat),.v (.string ⟨((b.drop 3).take (aZ b 2).toNat).toArray⟩),.v (.int .i64 (aZ b 27).toNat),.v (.int .i64 (bh b 28 2)),.v (.int .i64 (bh b 30 4)),.v (.int .i64 (bh b 34 2))]:=rfl
 have heq:dC E fe [sl eB b,.sl .any (gE (cQ (po b))).length ((gE (cQ (po b))).flatMap eB)]=some (.v (.bool (decide (b=gE (cQ (po b)))))):=af (Bs _ _ (by omega))
 have OF:yS b=if(aZ b 2).toNat≤24∧s9 (po b)=true∧b=gE (cQ (po b))then some (po b)else none:=rfl
 have kE:=oP (aZ b 0)
 have lS:=oP (aZ b 1)
 have HB:=oP (aZ b 27)
 have dZ:3≤(aZ b 2).toNat+3∧(aZ b 2).toNat+3≤64:=by omega
 have iI:(aZ b 2).toNat+3-3=(aZ b 2).toNat:=by omega
 generalize po b=x at*
 generalize (aZ b 2).toNat=k2 at*
 generalize (aZ b 0).toNat=k0 at*
 generalize (aZ b 1).toNat=k1 at*
 generalize (aZ b 27).toNat=k27 at*
 generalize bh b 28 2=n1 at*
 generalize bh b 30 4=n2 at*
 generalize bh b 34 2=n3 at*
 generalize hS:(b.drop 3).take k2=s at*
 simp[-List.length_flatMap,rJ,hl,b0,b1,b2,y7,kE,lS,tn,w8,asNat,dZ,iI,hS,-Int.natCast_add]
 rw[tD _ _ _ _ s rfl]
 rw[hx]at Dp
 cases hR:s9 x
 ·rw[hn (by rw[hR];simp)]
  rw[hR]at Dp
  simp[-List.length_flatMap,hl,Ql,HB,g1,g2,g3,Dp,h0]
 ·rw[hR]at Dp
  have zn:=zn hR
  rw[hx]at zn
  simp only[ka]at zn
  by_cases hq:b=gE (cQ x)
  ·rw[decide_eq_true hq]at heq
   rw[OF,if_pos ⟨by omega,hR,hq⟩]
   generalize gE (cQ x)=c at*
   simp[-List.length_flatMap,hl,Ql,HB,g1,g2,g3,Dp,zn,heq,hx,T.fresh,T.fresh2]
  ·rw[decide_eq_false hq]at heq
   rw[hn (fun hh=>hq hh.2.2)]
   generalize gE (cQ x)=c at*
   simp[-List.length_flatMap,hl,Ql,HB,g1,g2,g3,Dp,zn,heq,h0,T.fresh,T.fresh2]
end Go.Vi.Sz
end
