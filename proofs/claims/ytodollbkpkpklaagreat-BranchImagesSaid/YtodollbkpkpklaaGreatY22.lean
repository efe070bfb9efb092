/-
  A claim's own text, joined by a small program out of: H41, H39, H42, H43, H44, H45.
-/
import Derived.Test.YtodollbkpkpklaaGreatY20
import Derived.Test.YtodollbkpkpklaaGreatY21
import Derived.Test.YtodollbkpkpklaaGreatY3
set_option linter.unusedVariables false
set_option linter.unusedSimpArgs false
section
set_option maxRecDepth 100000
set_option maxHeartbeats 20000000
namespace Go.Vi.Sz
open Go Go.Vi Go.Vi.Zz
theorem HM{α:Type}(z:Tag)(hz:z= .nil∨z= .clip)(k e)(enc:α→List T)(A:List α)(η:Nat→Option Nat)(h:η k=some k):(aD z k e enc A).aj some η=aD z k e enc A:=by
 rcases hz with rfl|rfl<;>unfold aD<;>split<;>simp[T.aj,h]
theorem ab8(ρ η)(x:Int×Int):ah ρ η (eP x)=eP x:=by simp[eP,T.aj,ah]
@[simp] theorem akt(d):ra.strip d=ra:=by simp[ra]
@[simp] theorem aku(s)(h8:(s==8)=false)(h2:(s==2)=false):ra.ay s=true:=by simp at h8 h2;simp[ra];omega
theorem Yo(z k s)(A:List (Int×Int)):(aD z k 77 eP A).ay s=true:=by
 have:aR s (A.flatMap eP)=true:=by
  induction A with
  |nil=>simp
  |cons x l ih=>simp[eP,ih]
 unfold aD;split<;>simp[-List.length_flatMap]
theorem Pc(s)(p:Int×Int):aR s (eP p)=true:=by simp[eP]
theorem yf(η):ra.aj some η=ra:=by simp[ra,T.aj,ah]
theorem cV(d B:Nat)(h:∀j,j< 8→hit d (B+j)=false)(F:FM)(hF:F.length≤8):stripL d (dF (pI B) 0 F)=dF (pI B) 0 F:=by
 have:∀(F:FM) (i:Nat),i+F.length≤8→stripL d (dF (pI B) i F)=dF (pI B) i F:=by
  intro F
  induction F with
  |nil=>intro i _;simp[qE]
  |cons p F ih=>
   intro i hi
   rw[eH]
   have h0:=h i (by simp at hi;omega)
   have h1:=ih (i+1) (by simp at hi;omega)
   simp[-List.length_flatMap,pI,h0]
   exact h1
 exact this F 0 (by omega)
theorem Fe(s:Nat)(ζ):∀(F:FM) (i:Nat),aR s (dF ζ i F)=true
 | [],i=>by simp[qE]
 |p::F,i=>by
  rw[eH]
  simp[-List.length_flatMap,Fe s ζ F (i+1)]
theorem Jd(g l L special j):(ej g l L special j).length≤16:=by
 unfold ej
 split
 ·exact(qD g l L _ special 16).2
 ·simp
theorem CX(g l L special layer):∀j,(dU g l L special layer j).length≤16*j:=by
 intro j
 induction j with
 |zero=>simp[dU]
 |succ j ih=>
  have:=Jd g l L special j
  rw[pj,List.length_append,jy,List.length_map]
  omega
theorem Ff(g l L layer):∀n,(cH g l L layer n).length≤n:=by
 intro n
 induction n with
 |zero=>simp[cH]
 |succ n ih=>
  rw[rf,List.length_append]
  unfold CY
  split<;>simp<;>omega
def vx(B:Nat):Prop:=B=456∨B=536∨B=824∨B=1008
theorem tX(d B:Nat)(hB:vx B)(F:FM)(hF:F.length≤8)(hd:(d%2=0∧d≠114∧d≠134∧d≠206∧d≠252)∨(d%2=1∧2032≤d)):stripL d (dF (pI B) 0 F)=dF (pI B) 0 F:=by
 refine cV d B (fun j hj=> ?_) F hF
 unfold vx at hB
 unfold hit
 rcases hd with⟨h0,h⟩|⟨h1,h⟩
 ·rw[if_pos h0,beq_eq_false_iff_ne];omega
 ·rw[if_neg (by omega),beq_eq_false_iff_ne];omega
structure Nf(t:T)(w:T):Prop where
 one:t.one=true
 aU:t.aU=false
 ay:∀s,t.ay s=true
 s2:∀d,(d=262∨d=264∨d=2113)→t.strip d=t
 xG:∀d B n,n≤8→vx B→(d=103∨d=126)→t.aj some (gu d (BU B n))=t
 cells:cellsOf t=some [t]
 cL:t.cL=w
structure adn(t:T)(A:List Int):Prop where
 ay:∀s,t.ay s=true
 xG:∀B n,n≤8→vx B→t.aj some (gu 126 (BU B n))=t
 len:jE false t=some (.v (.int .i64 A.length))
 addr:∀j:Nat,j< A.length→dY 1 t (.v (.int .i64 (j:Int)))=some (.ptr (A.flatMap eN) (j*1))
theorem ado(d B n k:Nat)(hn:n≤8)(hB:vx B)(hk:k=896∨k=897)(hd:d=103∨d=126):gu d (BU B n) k=some k:=by
 refine jc d B n k hn ?_ (by unfold vx at hB;omega)
 unfold hit
 rw[if_pos (by omega),beq_eq_false_iff_ne]
 omega
theorem Yp(A:List bQ):Nf (T.import 112 (aD .nil 0 105 eE A)) (sl eE A):=by
 unfold aD
 split
 ·rename_i h
  subst h
  constructor<;>simp[sl]
 ·rw[G5]
  refine⟨by simp,by simp,fun s=>by simp[-List.length_flatMap],fun d hd=> ?_,fun d B n hn hB hd=> ?_,rfl,by simp[sl]⟩
  ·have:hit d 896=false:=by unfold hit;rcases hd with rfl|rfl|rfl<;>rfl
   simp[-List.length_flatMap,this]
  ·simp only[T.aj]
   rw[ado d B n 896 hn hB (.inl rfl) hd]
theorem Yq(f:Bool)(A:List bQ)(W:List Int)(hf:f=false→W=[]):adn (T.import 112 (if f then .sl (.own (if A=[]then 0 else 1) 3) W.length (W.flatMap eN)else .sl .nil 0 [])) W:=by
 have AU:∀g,∀j:Nat,j< W.length→dY 1 (.sl g W.length (W.flatMap eN)) (.v (.int .i64 (j:Int)))=some (.ptr (W.flatMap eN) (j*1)):=by
  intro g j hj
  show(if 0≤(j:Int)∧(j:Int).toNat< W.length then some (T.ptr (W.flatMap eN) ((j:Int).toNat*1))else none)=_
  rw[if_pos (by omega),Int.toNat_natCast]
 cases f
 ·rw[hf rfl]
  constructor<;>simp[jE]
 ·have hk:∃k,(k=896∨k=897)∧T.import 112 (if true=true then .sl (.own (if A=[]then 0 else 1) 3) W.length (W.flatMap eN)else .sl .nil 0 [])= .sl (.own k 3) W.length (W.flatMap eN):=by
   by_cases hA:A=[]
   ·exact⟨896,.inl rfl,by simp[hA]⟩
   ·exact⟨897,.inr rfl,by simp[hA]⟩
  obtain⟨k,hk,he⟩:=hk
  rw[he]
  refine⟨fun s=>by simp[-List.length_flatMap],fun B n hn hB=> ?_,rfl,AU _⟩
  simp only[T.aj]
  rw[ado 126 B n k hn hB hk (.inr rfl)]
theorem L8(g l L ino special):∀k,rG g l L ino k=false→aG g l L ino special (4*k)=([],[])
 |0,_=>rfl
 |k+1,h=>by
  simp only[rG,Bool.or_eq_false_iff,Option.isSome_eq_false_iff,Option.isNone_iff_eq_none]at h
  rw[CQ special k h.2]
  exact L8 g l L ino special k h.1
abbrev i6(n:Int):T:= .v (.int .i64 n)
def ln(L:List aO)(special:Int)(j:Nat)(ex ex2:List (Nat×T)):List (Nat×T):=[(2,i6 special),(6,.ref 4 0),(8,.ref 6 0),(10,.ref 8 0),(11,ra),(14,.ref 12 0)]++ex++[(30,.sl (.own 288 34) L.length (L.flatMap eI)),(31,i6 L.length),(32,i6 j)]++ex2
def B4(g:bt)(l:List (List UInt8))(L:List aO)(layer:Int)(nodes:List Nd)(o1 o2:Option (List T))(F:FM)(B:Nat):List (Option (List T)):=
 bp 28 0 [(0,some (eG g)),(2,some [i6 layer]),(4,some [bZ]),(6,some [i6 g.lowers,i6 g.aw,i6 g.blocks,i6 g.log,sl eS l,.sl (.own 288 34) L.length (L.flatMap eI)]),(8,some [.aQ 19]),(12,some [aD .nil 1056 84 fb nodes]),(14,o1),(16,o2),(19,some (dF (pI B) 0 F))]
def W4(g:bt)(l:List (List UInt8))(L:List aO)(layer:Int)(nodes:List Nd)(P1 P2 A S:List fO)(vl:List (Nat×T))(o1 o2:Option (List T))(σ:St):Prop:=
 ∃vs F B,Fits 40 0 vl vs∧FI F P1 P2 A S∧vx B∧σ=⟨[],vs,B4 g l L layer nodes o1 o2 F B⟩
def I4(g:bt)(l:List (List UInt8))(L:List aO)(special layer:Int)(P1 P2:List fO)(j:Nat)(σ:St):Prop:=
 ∃o1 o2,Af o1∧Af o2∧W4 g l L layer (bd g l L special j) P1 P2 (cH g l L layer j) (dU g l L special layer j) (ln L special j [] []) o1 o2 σ
noncomputable def Ng:IC:=ec.body.tl.tl.tl.tl.tl.tl.tl.tl.tl.tl.hd.tl.tl
theorem Yr(g:bt)(l:List (List UInt8))(hl:∀b∈l,b.length=64)(L:List aO)(L9:L.length≤24)(Yt:∀x∈L,zp x∧(x.kind=0→x=cz))(special layer:Int)(P1 P2:List fO)(k:List Fr)(Q:Out→Prop)(σ:St)
  (h0:I4 g l L special layer P1 P2 0 σ) (hp:∀σ',I4 g l L special layer P1 P2 L.length σ'→N E k σ' Q):M E Ng (.xX 4::k) σ Q:=by
 show M E (.loop Ng.tl) _ _ _
 refine m_loop L.length _ h0 ?_
 rintro j σ hj ⟨o1,o2,pG,sh,vs,F,B,hv,gD,hB,rfl⟩
 obtain⟨a,rfl⟩:=nc hv
 clear hv h0
 have l3:F.length≤8:=by have:=gD.zu;omega
 have Ma:eG g=[.v (.int .i64 g.lowers),.v (.int .i64 g.aw),.v (.int .i64 g.blocks),.v (.int .i64 g.log)]:=rfl
 have hL:=fun x hx=>(Yt x hx).1
 simp[Af]at pG sh
 by_cases hlt:j< L.length
 ·have bh:(j:Int)< L.length:=by omega
  have w4:IntKind.i64.wrap ((j:Int)+1)=((j+1:Nat):Int):=by rw[←Int.natCast_succ];exact aq (by omega)
  have bF:=uW L j hlt
  have ct:Option.filter T.closed (some (T.agg (eI L[j])))=some (T.agg (eI L[j])):=b7 (by simp)
  obtain⟨U3,adp⟩:=Ym g l L Yt special j hlt
  have eg:L.getD j cz=L[j]:=by rw[List.getD_eq_getElem?_getD,List.getElem?_eq_getElem hlt,Option.getD_some]
  have ahc:=af (aeY g l hl L (by omega) hL ((j+1:Nat):Int))
  have CZ:=af (ab7 g l hl L (by omega) hL ((j+1:Nat):Int))
  have tw:=af (UT g l hl L (by omega) hL ((j+1:Nat):Int) special)
  simp only[iR]at ahc CZ tw
  have hwr:ej g l L special j=if L[j].kind=1 then(aG g l L ((j+1:Nat):Int) special 16).2 else []:=by unfold ej;rw[eg]
  have hdw:T.import 88 (dg (fw g l L ((j+1:Nat):Int)))=dg (fw g l L ((j+1:Nat):Int)):=by
   cases fw g l L ((j+1:Nat):Int)<;>simp[dg]
  have SP:Nf (dg (fw g l L ((j+1:Nat):Int))) (sl eB ((fw g l L ((j+1:Nat):Int)).getD [])):=by
   cases fw g l L ((j+1:Nat):Int)<;>constructor<;>simp[dg,sl]
  have yX:∀d,(dg (fw g l L ((j+1:Nat):Int))).strip d=dg (fw g l L ((j+1:Nat):Int)):=by
   cases fw g l L ((j+1:Nat):Int)<;>simp[dg]
  have Wd:cp (eI L[j]) 0=some (.v (.int .i64 L[j].kind)):=rfl
  have NF:cp (eI L[j]) 1=some (.v (.int .i64 L[j].impure)):=rfl
  have hx2:cp (eI L[j]) 2=some (.v (.int .i64 L[j].nlink)):=rfl
  have hx3:cp (eI L[j]) 3=some (.v (.int .i64 L[j].gen)):=rfl
  have sk:∀s,aR s (eI L[j])=true:=fun s=>by simp
  generalize hx:L[j]=x at*
  generalize hao:rI g l L ((j+1:Nat):Int)=ao at*
  generalize hdo:fw g l L ((j+1:Nat):Int)=dO at*
  generalize dg dO=dt at*
  have Br:=tX 176 B hB F l3 (by omega)
  have Bs:=tX 188 B hB F l3 (by omega)
  have hA:=fun a:pJ=>(show dz 94 (eA a)=[i6 a.has,i6 a.qF,.v (.string ⟨a.red.toArray⟩),i6 a.ol,i6 a.oi,i6 a.og,i6 a.shown] by simp[eA])
  simp[-List.length_flatMap,-Int.natCast_add,hA,Ng,ec,IC.tl,IC.hd,pt,bp,B4,ln,bh,hlt,pG,sh,Fe,C3,bZ,bF,ct,w4,Wd,NF,hx2,hx3,ahc,hdw,SP.one,yX,SP.cells,hit,ng,Br,Bs,CZ]
  generalize uI:ao.getD oM=Fg at*
  refine Pb (J:=W4 g l L layer (bd g l L special j) P1 P2 (cH g l L layer (j+1)) (dU g l L special layer j) (ln L special j [(15,i6 j),(16,.ref 14 0),(17,.ref 16 0)] []) (some (eI x)) (some (nT x dt bZ Fg))) (fun hs=> ?_) (fun hs=> ?_) ?_
  ·have Yu:cH g l L layer (j+1)=cH g l L layer j++[⟨2,layer,((j+1:Nat):Int),-1⟩]:=by
    rw[rf];unfold CY;rw[adp];cases ao<;>simp at hs⊢
   have Yv:(gF 2 F).length≤10000:=by have:=Ff g l L layer j;rw[gD.g2];omega
   have kz:=jc 103 B F.length 288 l3 rfl (by unfold vx at hB;omega)
   have vv:=jc 103 B F.length 1056 l3 rfl (by unfold vx at hB;omega)
   simp[-List.length_flatMap,-Int.natCast_add,w4]
   refine Jc 103 _ _ _ _ _ _ _ F B layer 2 ((j+1:Nat):Int) (-1) rfl rfl rfl rfl rfl rfl rfl gD.zu Yv ?_
   simp[-List.length_flatMap,-Int.natCast_add,SP.xG 103 B F.length l3 hB (.inl rfl),yf,HM,T.aj,ah,kz,vv]
   exact⟨_,_,824,by simp[Fits,ln],Yu▸gD.t2 _,.inr (.inr (.inl rfl)),rfl⟩
  ·have Yu:cH g l L layer (j+1)=cH g l L layer j:=by
    rw[rf];unfold CY;rw[adp];cases ao<;>simp at hs⊢
   simp[-List.length_flatMap,-Int.natCast_add]
   exact⟨_,_,B,by simp[Fits,ln],Yu▸gD,hB,rfl⟩
  clear gD hB l3 Br Bs
  rintro σ ⟨vs,F,B,hv,gD,hB,rfl⟩
  obtain⟨a,rfl⟩:=nc hv
  clear hv
  have l3:F.length≤8:=by have:=gD.zu;omega
  simp[-List.length_flatMap,-Int.natCast_add,pt,bp,B4,ln,Wd]
  refine Pb (J:=fun σ=>∃et,Nf et (sl eE (if x.kind=1 then(aG g l L ((j+1:Nat):Int) special 16).1 else []))∧W4 g l L layer (bd g l L special j) P1 P2 (cH g l L layer (j+1)) (dU g l L special layer (j+1)) (ln L special j [(15,i6 j),(17,.ref 16 0)] []) (some (eI x)) (some (nT x dt et Fg)) σ) (fun hs=> ?_) (fun hs=> ?_) ?_
  ·have kz:x.kind=1:=by simpa using hs
   rw[if_pos kz]at hwr⊢
   have fB:jy g l L special layer j=(ej g l L special j).map fun s=>⟨5,layer,((j+1:Nat):Int),s⟩:=rfl
   have Om:=pj g l L special layer j
   have hwl:=Jd g l L special j
   have aq2:=CX g l L special layer j
   rw[Om]
   generalize jy g l L special layer j=SF at*
   have Lg:=tX 224 B hB F l3 (by omega)
   have het:Nf (T.import 112 (aD .nil 0 105 eE (aG g l L ((j+1:Nat):Int) special 16).1)) (sl eE (aG g l L ((j+1:Nat):Int) special 16).1):=Yp _
   have DP:adn (T.import 112 (if rG g l L ((j+1:Nat):Int) 4 then .sl (.own (if(aG g l L ((j+1:Nat):Int) special 16).1=[]then 0 else 1) 3) (aG g l L ((j+1:Nat):Int) special 16).2.length ((aG g l L ((j+1:Nat):Int) special 16).2.flatMap eN)else .sl .nil 0 [])) (aG g l L ((j+1:Nat):Int) special 16).2:=Yq _ _ _ fun h=>by rw[L8 g l L _ special 4 h]
   have tO:∀f,brT f (aG g l L ((j+1:Nat):Int) special 16)= .al [aD .nil 0 105 eE (aG g l L ((j+1:Nat):Int) special 16).1,if f then .sl (.own (if(aG g l L ((j+1:Nat):Int) special 16).1=[]then 0 else 1) 3) (aG g l L ((j+1:Nat):Int) special 16).2.length ((aG g l L ((j+1:Nat):Int) special 16).2.flatMap eN)else .sl .nil 0 []]:=fun _=>rfl
   rw[tO]at tw
   generalize aD .nil 0 105 eE (aG g l L ((j+1:Nat):Int) special 16).1=et0 at*
   generalize (if rG g l L ((j+1:Nat):Int) 4 then T.sl (.own (if(aG g l L ((j+1:Nat):Int) special 16).1=[]then 0 else 1) 3) (aG g l L ((j+1:Nat):Int) special 16).2.length ((aG g l L ((j+1:Nat):Int) special 16).2.flatMap eN)else .sl .nil 0 [])=wt0 at*
   generalize hei:T.import 112 et0=et at*
   generalize hwi:T.import 112 wt0=wt at*
   have hcD:lZ et=true:=by unfold lZ;rw[het.cells];rfl
   have hcV:ld et=[et]:=by unfold ld;rw[het.cells];rfl
   rw[←hwr]at DP
   generalize ej g l L special j=W at*
   simp[-List.length_flatMap,-Int.natCast_add,w4,tw,het.one,yX,hit,ng,Lg,nT,DP.len,hei,hwi,hcD,hcV,bZ]
   refine m_loop W.length (fun i σ=>W4 g l L layer (bd g l L special j) P1 P2 (cH g l L layer (j+1)) (dU g l L special layer j++SF.take i) (ln L special j [(15,i6 j),(17,.ref 16 0)] [(36,wt),(37,i6 W.length),(38,i6 i)]) (some (eI x)) (some (nT x dt et Fg)) σ) ⟨_,F,B,by simp[Fits,ln],by simpa using gD,hB,rfl⟩ ?_
   clear gD hB l3 Lg
   rintro i σ hi ⟨vs,F,B,hv,gD,hB,rfl⟩
   obtain⟨a,rfl⟩:=nc hv
   clear hv
   have l3:F.length≤8:=by have:=gD.zu;omega
   have N8:SF.length=W.length:=by rw[fB,List.length_map]
   by_cases Mb:i< W.length
   ·have BV:(i:Int)< W.length:=by omega
    have w5:IntKind.i64.wrap ((i:Int)+1)=((i+1:Nat):Int):=by rw[←Int.natCast_succ];exact aq (by omega)
    have dm:=Je W i Mb
    have R8:=DP.addr i Mb
    have an5:Option.filter T.closed (some (T.v (.int .i64 W[i])))=some (T.v (.int .i64 W[i])):=b7 rfl
    have hst:SF.take (i+1)=SF.take i++[⟨5,layer,((j+1:Nat):Int),W[i]⟩]:=by
     rw[List.take_succ_eq_append_getElem (by omega)]
     simp[fB]
    generalize W[i]=wi at*
    have Yv:(gF 5 F).length≤10000:=by rw[gD.g5,List.length_append,List.length_take];omega
    have kz:=jc 126 B F.length 288 l3 rfl (by unfold vx at hB;omega)
    have vv:=jc 126 B F.length 1056 l3 rfl (by unfold vx at hB;omega)
    have hkw:=DP.xG B F.length l3 hB
    have hkd:=SP.xG 126 B F.length l3 hB (.inr rfl)
    have hke:=het.xG 126 B F.length l3 hB (.inr rfl)
    simp[-List.length_flatMap,-Int.natCast_add,pt,bp,B4,ln,BV,R8,dm,an5,w4]
    refine Jc 126 _ _ _ _ _ _ _ F B layer 5 ((j+1:Nat):Int) wi rfl rfl rfl rfl rfl rfl rfl gD.zu Yv ?_
    simp[-List.length_flatMap,-Int.natCast_add,nT,bZ,hkw,hkd,hke,yf,HM,T.aj,ah,kz,vv,w5,Mb]
    exact⟨_,_,1008,by simp[Fits],by rw[hst,←List.append_assoc];exact gD.t5 _,.inr (.inr (.inr rfl)),rfl⟩
   ·have vq:i=W.length:=by omega
    subst vq
    rw[List.take_of_length_le (by omega)]at gD
    simp[-List.length_flatMap,-Int.natCast_add,pt,bp,B4,ln]
    exact⟨et,het,_,F,B,by simp[Fits],gD,hB,rfl⟩
  ·have kz:¬x.kind=1:=by simpa using hs
   rw[if_neg kz]at hwr⊢
   have Yu:dU g l L special layer (j+1)=dU g l L special layer j:=by
    rw[pj];unfold jy;rw[hwr];simp
   simp[-List.length_flatMap,-Int.natCast_add]
   refine⟨bZ, ?_,_,_,B,by simp[Fits,ln],Yu▸gD,hB,rfl⟩
   constructor<;>simp[bZ,sl]
  clear gD hB l3
  rintro σ ⟨et,het,vs,F,B,hv,gD,hB,rfl⟩
  obtain⟨a,rfl⟩:=nc hv
  clear hv
  have l3:F.length≤8:=by have:=gD.zu;omega
  have hM4:=tX 262 B hB F l3 (by omega)
  have hM5:=tX 264 B hB F l3 (by omega)
  have hM6:=tX 2113 B hB F l3 (by omega)
  have ny:(bd g l L special j).length=j:=by simp[bd]
  have hN1:=G6 g l L special j
  rw[U3]at hN1
  simp[-List.length_flatMap,-Int.natCast_add,pt,bp,B4,ln,ng,hit,hM4,het.s2,het.cL,yX,SP.cL,nT]
  have jO:aD .nil 1056 84 fb (bd g l L special (j+1))= .sl (.own 1056 84) (j+1) ((bd g l L special j).flatMap fb++[i6 x.kind,i6 x.impure,i6 x.nlink,i6 x.gen,sl eB (dO.getD []),sl eE (if x.kind=1 then(aG g l L ((j+1:Nat):Int) special 16).1 else []),i6 Fg.has,i6 Fg.qF,.v (.string ⟨Fg.red.toArray⟩),i6 Fg.ol,i6 Fg.oi,i6 Fg.og,i6 Fg.shown]):=by
   rw[hN1,bk,ny];rfl
  have Sk:∀s,aR s (nT x dt et Fg)=true:=fun s=>by simp[nT,SP.ay,het.ay]
  have DQ:(j+1)*144≤4294967296∧j≤4294967295:=by omega
  by_cases hN:bd g l L special j=[]
  ·rw[hN,aK]
   have iY:j=0:=by rw[←ny,hN];rfl
   rw[hN]at jO
   simp[-List.length_flatMap,-Int.natCast_add,room,hit,hM5,het.s2,yX,w4,bZ]
   simp only[I4,W4,B4]
   rw[jO]
   subst iY
   exact⟨_,_,nf sk,nf Sk,_,F,B,by simp[Fits,ln],gD,hB,rfl⟩
  ·rw[aA _ _ _ _ hN,ny]
   simp[-List.length_flatMap,-Int.natCast_add,room,hit,hM5,hM6,HN,ny,het.s2,yX,w4,DQ,bZ]
   simp only[I4,W4,B4]
   rw[jO]
   exact⟨_,_,nf sk,nf Sk,_,F,B,by simp[Fits,ln],gD,hB,rfl⟩
 ·have zr:j=L.length:=by omega
  subst zr
  simp[-List.length_flatMap,-Int.natCast_add,Ng,ec,IC.tl,IC.hd,pt,bp,B4,ln,pG,sh,Fe,C3,bZ]
  refine hp _ ⟨none,none,rb,rb,_,F,B,by simp[Fits,ln],gD,hB,rfl⟩
end Go.Vi.Sz
end
section
set_option maxRecDepth 100000
set_option maxHeartbeats 20000000
namespace Go.Vi.Sz
open Go Go.Vi Go.Vi.Zz
def BD0(g:bt)(l:List (List UInt8))(L:List aO)(Bd:List Int)(special layer:Int)(BT:List (Int×Int))(i:Nat)(σ:St):Prop:=∃a0 a1 a3 a4 a5 a7 a12 cS de cK cX a17 iK iL a20 a21 a25 a26 a27 a28 a29 a30 a31 a32 a33 a34 a35 Yw a37 Yx Yy o F B,(o=none∨∃p,o=some (eP p))∧FI F ((jM layer BT).take i) [] [] []∧vx B∧σ=⟨[],[a0,a1,.v (.int .i64 special),a3,a4,a5,.ref 4 0,a7,.ref 6 0,aD .nil 289 3 eN Bd,.ref 8 0,ra,a12,cS,de,cK,cX,a17,iK,iL,a20,a21,aD .nil 368 77 eP BT,.v (.int .i64 BT.length),.v (.int .i64 i),a25,a26,a27,a28,a29,a30,a31,a32,a33,a34,a35,Yw,a37,Yx,Yy],[some (eG g),none,some [.v (.int .i64 layer)],none,some [bZ],none,some [.v (.int .i64 g.lowers),.v (.int .i64 g.aw),.v (.int .i64 g.blocks),.v (.int .i64 g.log),sl eS l,.sl (.own 288 34) L.length (L.flatMap eI)],none,some [.aQ 19],none,o,none,none,none,none,none,none,none,none,some (dF (pI B) 0 F),none,none,none,none,none,none,none,none]⟩
def BD2(g:bt)(l:List (List UInt8))(L:List aO)(Bd:List Int)(special layer:Int)(BT:List (Int×Int))(i:Nat)(σ:St):Prop:=∃a0 a1 a3 a4 a5 a7 a9 a12 cS de cK cX a17 iK iL a20 a21 nz a23 a24 a25 a29 a30 a31 a32 a33 a34 a35 Yw a37 Yx Yy F B,FI F (jM layer BT) ((gr layer Bd).take i) [] []∧vx B∧σ=⟨[],[a0,a1,.v (.int .i64 special),a3,a4,a5,.ref 4 0,a7,.ref 6 0,a9,.ref 8 0,ra,a12,cS,de,cK,cX,a17,iK,iL,a20,a21,nz,a23,a24,a25,aD .nil 289 3 eN Bd,.v (.int .i64 Bd.length),.v (.int .i64 i),a29,a30,a31,a32,a33,a34,a35,Yw,a37,Yx,Yy],[some (eG g),none,some [.v (.int .i64 layer)],none,some [bZ],none,some [.v (.int .i64 g.lowers),.v (.int .i64 g.aw),.v (.int .i64 g.blocks),.v (.int .i64 g.log),sl eS l,.sl (.own 288 34) L.length (L.flatMap eI)],none,some [.aQ 19],none,none,none,none,none,none,none,none,none,none,some (dF (pI B) 0 F),none,none,none,none,none,none,none,none]⟩
theorem Mc(c:Int):∀F:FM,gG c F=false→gF c F=[]
 | [],_=>rfl
 |p::F,h=>by
  simp only[gG]at h
  simp only[gF]
  split at h
  ·cases h
  ·rename_i hc
   rw[if_neg hc]
   exact Mc c F h
theorem Jf(c:Int)(ζ)(F:FM){bx:List (Option (List T))}{rs vars:List T}{a i:ag}{s:Nat}{rest outs k Q}(ha:a.get ⟨rs,vars,bx⟩= .aQ s)(hi:i.get ⟨rs,vars,bx⟩=i6 c)(hb:ai bx s=some (dF ζ 0 F))
  (h:∀t,t.cL=sl eF (gF c F)→O E rest outs k ⟨snoc rs t,vars,bx⟩ Q):O E ((none,.lookup .int (.sl .nil 0 []) false a i)::rest) outs k ⟨rs,vars,bx⟩ Q:=by
 rw[bE rfl]
 have hf:=UY c ζ F 0
 have n9:bx[s]? =some (some (dF ζ 0 F)):=by
  unfold ai at hb
  cases hh:bx[s]? with
  |none=>rw[hh]at hb;simp at hb
  |some o=>rw[hh]at hb;simp at hb;rw[hb]
 simp only[ae,ha,hi]
 rw[n9]
 simp only[hf]
 cases hh:gG c F
 ·have hg:=Mc c F hh
  simpa using h (.sl .nil 0 []) (by simp[sl,hg])
 ·simpa [-List.length_flatMap]using h (.sl (.own (ζ (0+kS c F)) 48) (gF c F).length ((gF c F).flatMap eF)) (by simp[sl])
theorem ab9(g:bt)(l:List (List UInt8))(L:List aO)(Kp:L≠[])(special layer:Int)(P1 P2:List fO)(hP:P1.length+P2.length+(cH g l L layer L.length).length+(dU g l L special layer L.length).length≤1000)(σ:St)(h0:I4 g l L special layer P1 P2 L.length σ):
  N E [.seq ec.body.tl.tl.tl.tl.tl.tl.tl.tl.tl.tl.tl] σ (OU [.cell 6 true 1,.var 7] [.raw,.raw] (.al [.agg [.sl (.own 0 84) (bd g l L special L.length).length ((bd g l L special L.length).flatMap fb)],.sl .any (P1++cH g l L layer L.length++P2++dU g l L special layer L.length).length ((P1++cH g l L layer L.length++P2++dU g l L special layer L.length).flatMap eF)])):=by
 obtain⟨o1,o2,pG,sh,vs,F,B,hv,gD,hB,rfl⟩:=h0
 obtain⟨a,rfl⟩:=nc hv
 clear hv
 have l3:F.length≤8:=by have:=gD.zu;omega
 simp[-List.length_flatMap,-Int.natCast_add,pt,bp,B4,ln,ec,IC.tl]
 refine Jf 1 (pI B) F rfl rfl rfl fun t1 h1=> ?_
 simp[-List.length_flatMap,-Int.natCast_add]
 refine Jf 2 (pI B) F rfl rfl rfl fun t2 h2=> ?_
 simp[-List.length_flatMap,-Int.natCast_add]
 refine Jf 4 (pI B) F rfl rfl rfl fun t3 h3=> ?_
 simp[-List.length_flatMap,-Int.natCast_add]
 refine Jf 5 (pI B) F rfl rfl rfl fun t4 h4=> ?_
 rw[gD.g1]at h1
 rw[gD.g2]at h2
 rw[gD.g4]at h3
 rw[gD.g5]at h4
 have hM:=tX 288 B hB F l3 (by omega)
 have Bs:=tX 290 B hB F l3 (by omega)
 have hne:bd g l L special L.length≠[]:=fun h=>Kp (List.eq_nil_of_length_eq_zero (by have:=congrArg List.length h;simpa [bd]using this))
 rw[aA _ _ _ _ hne]
 generalize bd g l L special L.length=N at*
 generalize cH g l L layer L.length=A at*
 generalize dU g l L special layer L.length=S at*
 have hcc:=af (Yk [P1,A,P2,S] (by simp;omega) (by simp))
 have hL:[P1,A,P2,S].flatten=P1++A++P2++S:=by simp
 rw[hL]at hcc
 have fB:sl eL [P1,A,P2,S]= .sl .any 4 [.sl .any P1.length (P1.flatMap eF),.sl .any A.length (A.flatMap eF),.sl .any P2.length (P2.flatMap eF),.sl .any S.length (S.flatMap eF)]:=rfl
 rw[fB]at hcc
 generalize P1++A++P2++S=R at*
 simp[-List.length_flatMap,-Int.natCast_add,h1,h2,h3,h4,sl,hcc,hit,bZ,T.eO,T.aj,List.idxOf?]
 subst hL
 simp
theorem Jg(g:bt)(l:List (List UInt8))(hl:∀b∈l,b.length=64)(special layer:Int):
  Ev E je [.agg (eG g),sl eS l,.v (.int .i64 special),.v (.int .i64 layer)]
   (if dG g l then .al [.agg [.sl (.own 0 84) (bd g l (cJ (br g l)) special (cJ (br g l)).length).length ((bd g l (cJ (br g l)) special (cJ (br g l)).length).flatMap fb)],.sl .any (uX g l (cJ (br g l)) special layer (cZ (br g l))).length ((uX g l (cJ (br g l)) special layer (cZ (br g l))).flatMap eF)]else .al [.agg [bZ],bZ]):=by
 refine aB (fn:=ec) rfl (by decide) rfl rfl rfl ?_
 have kX:=af (Yz g l hl)
 have Pd:=af (pK g l (.sl .any 0 []) 0 [] rfl)
 have Ma:eG g=[.v (.int .i64 g.lowers),.v (.int .i64 g.aw),.v (.int .i64 g.blocks),.v (.int .i64 g.log)]:=rfl
 simp only[iR]at Pd
 cases h:dG g l
 ·rw[h]at Pd
  simp[-List.length_flatMap,ec,Pd,bZ,Ma]
  done
 rw[h]at Pd
 rw[h,if_pos rfl]at kX
 rw[if_pos rfl]
 have h':=h
 simp only[dG,Bool.and_eq_true,decide_eq_true_eq]at h'
 have hs:=dq h'.1
 have xU:(br g l).length=g.aw.toNat:=by simp[br];omega
 have YA:(cJ (br g l)).length=g.aw.toNat:=by rw[cJ,List.length_map,xU]
 have X7:(cZ (br g l)).length≤24:=by
  have:∀(A:List (List UInt8)),(cZ A.reverse).length≤A.length:=by
   intro A
   induction A with
   |nil=>simp[cZ]
   |cons a A ih=>
    rw[List.reverse_cons,qG,List.length_append,List.length_cons]
    split<;>simp<;>omega
  have:=this (br g l).reverse
  rw[List.reverse_reverse,List.length_reverse,xU]at this
  omega
 have Yt:=U0 (br g l)
 generalize cJ (br g l)=L at*
 generalize cZ (br g l)=Bd at*
 obtain⟨n,hn⟩:∃n:Nat,g.aw=n:=⟨g.aw.toNat,by omega⟩
 have L9:L.length=n:=by rw[YA,hn];rfl
 have Kp:L≠[]:=by intro hh;rw[hh]at L9;simp at L9;omega
 rw[aA _ _ _ _ Kp]at kX
 have hL:=fun x hx=>(Yt x hx).1
 have pr:=af (ahd L (by omega) hL g.blocks)
 have an6:=zw (bz L) g.blocks (5*L.length) (by rw[mz];omega)
 unfold uX
 generalize lp (bz L) g.blocks (5*L.length)=BT at*
 have an7:=G7 .nil (.inl rfl) 36 Bd
 have an8:=G8 .nil (.inl rfl) 46 BT
 have ahe:=vJ .nil 368 77 eP BT
 have an9:=yg L
 rw[Ma]at kX
 have Ly:∀d,T.import d (.sl (.own 0 34) L.length (L.flatMap eI))= .sl (.own (8*d) 34) L.length (L.flatMap eI):=fun d=>by simp
 generalize hR:T.al [.agg [.sl (.own 0 84) (bd g l L special L.length).length ((bd g l L special L.length).flatMap fb)],.sl .any _ _]=R
 simp[-List.length_flatMap,-Int.natCast_add,ec,Pd,Ma,kX,an7]
 rw[bE rfl]
 simp[-List.length_flatMap,-Int.natCast_add,ae,fC,hit,pr,an8,ahe]
 rw[show T.bq (.func kU) [] [.ref 8 0,.ref 2 0]=ra from rfl]
 refine m_loop BT.length (BD0 g l L Bd special layer BT) ⟨_,_,_,_,_,_,_,_,_,_,_,_,_,_,_,_,_,_,_,_,_,_,_,_,_,_,_,_,_,_,_,none,[],456,.inl rfl,ahb,.inl rfl,rfl⟩ ?_
 rintro i σ hi ⟨a0,a1,a3,a4,a5,a7,a12,cS,de,cK,cX,a17,iK,iL,a20,a21,a25,a26,a27,a28,a29,a30,a31,a32,a33,a34,a35,Yw,a37,Yx,Yy,o,F,B,ho,gD,hB,rfl⟩
 have l3:F.length≤8:=by have:=gD.zu;omega
 have wP:(jM layer BT).length=BT.length:=by simp[jM]
 rw[Ma]
 by_cases hlt:i< BT.length
 ·have bh:(i:Int)< BT.length:=by omega
  have Jh:BT≠[]:=by intro hh;rw[hh]at hlt;simp at hlt
  have w5:IntKind.i64.wrap ((i:Int)+1)=((i+1:Nat):Int):=by rw[←Int.natCast_succ];exact aq (by omega)
  have bF:=tA Ji BT i hlt
  have ei:dY 2 (.sl (.own 368 77) BT.length (BT.flatMap eP)) (.v (.int .i64 (i:Int)))=some (.ptr (BT.flatMap eP) (i*2)):=by
   show(if 0≤(i:Int)∧(i:Int).toNat< BT.length then some (T.ptr (BT.flatMap eP) ((i:Int).toNat*2))else none)=_
   rw[if_pos (by omega),Int.toNat_natCast]
  have ct:Option.filter T.closed (some (T.agg (eP BT[i])))=some (T.agg (eP BT[i])):=b7 (by simp[eP])
  have hst:(jM layer BT).take (i+1)=(jM layer BT).take i++[⟨1,layer,BT[i].1,BT[i].2⟩]:=by
   rw[List.take_succ_eq_append_getElem (by omega)]
   simp[jM]
  generalize BT[i]=ps at*
  have Pe:=gD.t1 ⟨1,layer,ps.1,ps.2⟩
  rw[←hst]at Pe
  have gA:(gF 1 F).length≤10000:=by rw[gD.g1,List.length_take];omega
  have kz:=jc 57 B F.length 288 l3 rfl (by unfold vx at hB;omega)
  have vv:=jc 57 B F.length 289 l3 rfl (by unfold vx at hB;omega)
  have GD:=jc 57 B F.length 368 l3 rfl (by unfold vx at hB;omega)
  have YB:cp (eP ps) 0=some (.v (.int .i64 ps.1)):=rfl
  have hp1:cp (eP ps) 1=some (.v (.int .i64 ps.2)):=rfl
  have yU:rF (eP ps)=true:=rfl
  rw[aA _ _ _ _ Jh]
  rcases ho with rfl|⟨p0,rfl⟩<;>simp[-List.length_flatMap,-Int.natCast_add,bh,hlt,ei,bF,ct,Fe,tY,bZ,YB,hp1,yU,Pc]
  all_goals
   refine Jc 57 _ _ _ _ _ _ _ F B layer 1 ps.1 ps.2 ?_ ?_ ?_ ?_ ?_ ?_ ?_ gD.zu gA ?_
   ·rfl
   ·rfl
   ·rfl
   ·rfl
   ·rfl
   ·rfl
   ·rfl
   simp[-List.length_flatMap,-Int.natCast_add,yf,HM,ab8,T.aj,ah,kz,vv,GD,w5]
   rw[←aA .nil 368 77 eP Jh]
   exact⟨_,_,_,_,_,_,_,_,_,_,_,_,_,_,_,_,_,_,_,_,_,_,_,_,_,_,_,_,_,_,_,some (eP ps),_,456,.inr ⟨ps,rfl⟩,Pe,.inl rfl,rfl⟩
 ·have vq:i=BT.length:=by omega
  subst vq
  rw[List.take_of_length_le (by omega)]at gD
  have akv:=vJ .nil 289 3 eN Bd
  rcases ho with rfl|⟨p0,rfl⟩<;>simp[-List.length_flatMap,-Int.natCast_add,Fe,tY,Yo,bZ,Pc,akv]
  all_goals
   refine m_loop Bd.length (BD2 g l L Bd special layer BT) ⟨_,_,_,_,_,_,_,_,_,_,_,_,_,_,_,_,_,_,_,_,_,_,_,_,_,_,_,_,_,_,_,_,F,B,gD,hB,rfl⟩ ?_
   clear gD hB l3
   rintro i σ hi ⟨a0,a1,a3,a4,a5,a7,a9,a12,cS,de,cK,cX,a17,iK,iL,a20,a21,nz,a23,a24,a25,a29,a30,a31,a32,a33,a34,a35,Yw,a37,Yx,Yy,F,B,gD,hB,rfl⟩
   have l3:F.length≤8:=by have:=gD.zu;omega
   have o7:(gr layer Bd).length=Bd.length:=by simp[gr]
   rw[Ma]
   by_cases hlt:i< Bd.length
   ·have bh:(i:Int)< Bd.length:=by omega
    have Pf:Bd≠[]:=by intro hh;rw[hh]at hlt;simp at hlt
    have w5:IntKind.i64.wrap ((i:Int)+1)=((i+1:Nat):Int):=by rw[←Int.natCast_succ];exact aq (by omega)
    have dm:=Je Bd i hlt
    have ct:Option.filter T.closed (some (T.v (.int .i64 Bd[i])))=some (T.v (.int .i64 Bd[i])):=b7 rfl
    have hst:(gr layer Bd).take (i+1)=(gr layer Bd).take i++[⟨4,layer,Bd[i],-1⟩]:=by
     rw[List.take_succ_eq_append_getElem (by omega)]
     simp[gr]
    generalize Bd[i]=bi at*
    have Pe:=gD.t4 ⟨4,layer,bi,-1⟩
    rw[←hst]at Pe
    have Yv:(gF 4 F).length≤10000:=by rw[gD.g4,List.length_take];omega
    have kz:=jc 67 B F.length 288 l3 rfl (by unfold vx at hB;omega)
    have vv:=jc 67 B F.length 289 l3 rfl (by unfold vx at hB;omega)
    rw[aA _ _ _ _ Pf]
    simp[-List.length_flatMap,-Int.natCast_add,bh,hlt,dm,ct]
    refine Jc 67 _ _ _ _ _ _ _ F B layer 4 bi (-1) ?_ ?_ ?_ ?_ ?_ ?_ ?_ gD.zu Yv ?_
    ·rfl
    ·rfl
    ·rfl
    ·rfl
    ·rfl
    ·rfl
    ·rfl
    simp[-List.length_flatMap,-Int.natCast_add,yf,T.aj,ah,kz,vv,w5]
    rw[←aA .nil 289 3 eN Pf]
    exact⟨_,_,_,_,_,_,_,_,_,_,_,_,_,_,_,_,_,_,_,_,_,_,_,_,_,_,_,_,_,_,_,_,_,536,Pe,.inr (.inl rfl),rfl⟩
   ·have vq:i=Bd.length:=by omega
    subst vq
    rw[List.take_of_length_le (by omega)]at gD
    simp[-List.length_flatMap,-Int.natCast_add]
    refine Yr g l hl L (by omega) Yt special layer (jM layer BT) (gr layer Bd) _ _ _ ⟨none,none,rb,rb,_,F,B,by simp[Fits,ln],gD,hB,rfl⟩ ?_
    subst hR
    exact fun σ' h=>ab9 g l L Kp special layer _ _ (by have:=Ff g l L layer L.length;have:=CX g l L special layer L.length;simp only[jM,gr,List.length_map];omega) σ' h
end Go.Vi.Sz
end
section
set_option maxRecDepth 100000
set_option maxHeartbeats 4000000
namespace Go.Vi.Sz
open Go Go.Vi Go.Vi.Zz
theorem Rr(n:Nd)(h1:n.data.length≤12800)(h2:n.C4.length≤1000000):Ev E tp [.agg (fb n),.agg (fb n)] (.v (.bool true)):=by
 refine aB (fn:=oy) rfl (by decide) rfl rfl rfl ?_
 have hs:=af (yz n.data n.data h1)
 rw[decide_eq_true rfl]at hs
 have he:=af (Yg n.C4 h2)
 simp[-List.length_flatMap,oy,fb,nT]
 rw[hs]
 simp[-List.length_flatMap,he]
theorem Md(N:List Nd)(hn:N.length≤10000)(h1:∀n∈N,n.data.length≤12800)(h2:∀n∈N,n.C4.length≤1000000):Ev E lF [.agg [.sl .any N.length (N.flatMap fb)],.agg [.sl .any N.length (N.flatMap fb)]] (.v (.bool true)):=by
 refine aB (fn:=pR) rfl (by decide) rfl rfl rfl ?_
 simp[-List.length_flatMap,pR]
 refine m_loop N.length (fun j σ=>∃vs,Fits 9 0 [(2,.ref 0 0),(3,.ref 2 0),(5,.v (.int .i64 j))] vs∧σ=⟨[],vs,[some [.sl .any N.length (N.flatMap fb)],none,some [.sl .any N.length (N.flatMap fb)],none]⟩) ⟨_,by simp[Fits],rfl⟩ ?_
 rintro j σ hj ⟨vs,hv,rfl⟩
 obtain⟨a,rfl⟩:=nc hv
 by_cases hlt:j< N.length
 ·have bh:(j:Int)< N.length:=by omega
  have w4:IntKind.i64.wrap ((j:Int)+1)=((j+1:Nat):Int):=by rw[←Int.natCast_succ];exact aq (by omega)
  have ei:=Fa fb 13 N j hlt
  have bF:=tA SQ N j hlt
  have ct:Option.filter T.closed (some (T.agg (fb N[j])))=some (T.agg (fb N[j])):=b7 (by simp)
  have hs:=af (Rr N[j] (h1 _ (List.getElem_mem hlt)) (h2 _ (List.getElem_mem hlt)))
  generalize N[j]=n at*
  have hc:∀bx k,(fb n).mapM (close bx (k+1))=some (fb n):=fun bx k=>by simp[fb,nT]
  have hr:aZ (fb n)=false:=by simp[fb,nT]
  have hst:∀d,stripL d (fb n)=fb n:=fun d=>by simp[fb,nT]
  simp[-List.length_flatMap,-Int.natCast_add,pt,bh,hlt,ei,bF,ct,hs,hc,hr,hst,w4]
  simp[Fits]
 ·have:j=N.length:=by omega
  subst this
  simp[-List.length_flatMap,pt]
end Go.Vi.Sz
end
section
set_option maxRecDepth 100000
set_option maxHeartbeats 8000000
namespace Go.Vi.Sz
open Go Go.Vi Go.Vi.Zz
theorem aca(g l)(h:dG g l=true):(cJ (br g l)).length=g.aw.toNat∧4≤g.aw∧g.aw≤24:=by
 simp only[dG,Bool.and_eq_true,decide_eq_true_eq]at h
 have hs:=dq h.1
 have xU:(br g l).length=g.aw.toNat:=by simp[br];omega
 exact⟨by rw[cJ,List.length_map,xU],hs.2.1.1,hs.2.1.2⟩
theorem acb(S:List (List UInt8)):(cZ S).length≤S.length:=by
 have:∀(A:List (List UInt8)),(cZ A.reverse).length≤A.length:=by
  intro A
  induction A with
  |nil=>simp[cZ]
  |cons a A ih=>
   rw[List.reverse_cons,qG,List.length_append,List.length_cons]
   split<;>simp<;>omega
 have:=this S.reverse
 rwa [List.reverse_reverse,List.length_reverse]at this
theorem YC{g l L ino}(hl:∀b∈l,b.length=64):((fw g l L ino).getD []).length≤256:=by
 unfold fw
 split
 ·rw[Option.getD_some,List.length_take,C6 hl];omega
 ·simp
theorem YD(g l)(hl:∀b∈l,b.length=64)(L special n):∀x∈bd g l L special n,x.data.length≤12800∧x.C4.length≤1000000:=by
 intro x hx
 unfold bd at hx
 rw[List.mem_map]at hx
 obtain⟨I,_,rfl⟩:=hx
 unfold na
 split
 ·simp
 ·have h1:=@YC g l L ((I+1:Nat):Int) hl
  have h2:=(qD g l L ((I+1:Nat):Int) special 16).1
  refine⟨by simp only;omega, ?_⟩
  simp only
  split
  ·omega
  ·simp
theorem YE(g l L special layer Bd)(hL:L.length≤24)(hB:Bd.length≤24):(uX g l L special layer Bd).length≤1000000:=by
 unfold uX
 have h1:=zw (bz L) g.blocks (5*L.length) (by rw[mz];omega)
 have h2:=Ff g l L layer L.length
 have h3:=CX g l L special layer L.length
 simp only[List.length_append,jM,gr,List.length_map]
 omega
end Go.Vi.Sz
end
section
set_option maxRecDepth 100000
set_option maxHeartbeats 8000000
namespace Go.Vi.Sz
open Go Go.Vi Go.Vi.Zz
theorem C7{n:Int}(h0:0≤n)(h:n< 256):IntKind.u8.wrap n=((UInt8.ofNat n.toNat).toNat:Int):=by
 have:=wrap_u8 (n:=n.toNat) (by omega)
 rwa [Int.toNat_of_nonneg h0]at this
def BW(g:bt):List UInt8:=fT [82,84,66,76,1,UInt8.ofNat g.lowers.toNat,UInt8.ofNat g.aw.toNat,UInt8.ofNat g.blocks.toNat,UInt8.ofNat g.log.toNat]
theorem U4(g:bt)(h:la g=true):Ev E mn [.agg (eG g)] (jD (BW g)):=by
 refine aB (fn:=oU) rfl (by decide) rfl rfl rfl ?_
 have hs:=dq h
 have hq:=af (HO [82,84,66,76,1,UInt8.ofNat g.lowers.toNat,UInt8.ofNat g.aw.toNat,UInt8.ofNat g.blocks.toNat,UInt8.ofNat g.log.toNat] (by simp))
 have w1:=C7 (n:=g.lowers) (by omega) (by omega)
 have w2:=C7 (n:=g.aw) (by omega) (by omega)
 have w3:=C7 (n:=g.blocks) (by omega) (by omega)
 have w4:=C7 (n:=g.log) (by omega) (by omega)
 have fB:∀a b c d:UInt8,sl eB [82,84,66,76,1,a,b,c,d]= .sl .any 9 [.v (.int .u8 82),.v (.int .u8 84),.v (.int .u8 66),.v (.int .u8 76),.v (.int .u8 1),.v (.int .u8 a.toNat),.v (.int .u8 b.toNat),.v (.int .u8 c.toNat),.v (.int .u8 d.toNat)]:=fun _ _ _ _=>rfl
 rw[fB]at hq
 unfold BW
 generalize fT _=R at*
 generalize UInt8.ofNat g.lowers.toNat=b1 at*
 generalize UInt8.ofNat g.aw.toNat=b2 at*
 generalize UInt8.ofNat g.blocks.toNat=b3 at*
 generalize UInt8.ofNat g.log.toNat=b4 at*
 simp[-List.length_flatMap,oU,eG,w1,w2,w3,w4,hq,jD]
def gB(bs:List UInt8):bt:=⟨(bs.getD 5 0).toNat,(bs.getD 6 0).toNat,(bs.getD 7 0).toNat,(bs.getD 8 0).toNat⟩
def U5:bt:=⟨0,0,0,0⟩
def Pg(bs:List UInt8):Bool:=decide (64≤bs.length)&&la (gB bs)&&decide (bs.take 64=BW (gB bs))&&decide ((bs.length:Int)=64*dH (gB bs))
def Ag(bs:List UInt8):bt:=if Pg bs then gB bs else U5
theorem Ph(bs:List UInt8):Ev E vV [sl eB bs] (.al [.agg (eG (Ag bs)),.v (.int .i64 (if Pg bs then 0 else 2))]):=by
 refine aB (fn:=pa) rfl (by decide) rfl rfl rfl ?_
 unfold Ag Pg
 by_cases D5:(bs.length:Int)< 64
 ·have Kq:¬64≤bs.length:=by omega
  simp[-List.length_flatMap,pa,D5,Kq,eG,U5]
 have Kq:64≤bs.length:=by omega
 have hb:∀k,k< bs.length→cp (bs.flatMap eB) k=some (.v (.int .u8 (bs.getD k 0).toNat)):=by
  intro k hk
  rw[xg bs k hk,List.getD_eq_getElem?_getD,List.getElem?_eq_getElem hk,Option.getD_some]
 have k5:5< bs.length:=by omega
 have k6:6< bs.length:=by omega
 have k7:7< bs.length:=by omega
 have k8:8< bs.length:=by omega
 have h5:=hb 5 (by omega)
 have h6:=hb 6 (by omega)
 have h7:=hb 7 (by omega)
 have h8:=hb 8 (by omega)
 have hw:=fun b:UInt8=>nU b
 have eC:=af (Ah (gB bs))
 have acd:=af (Me (gB bs))
 cases mX:la (gB bs)
 ·rw[mX,if_neg (by decide)]at eC
  unfold gB at eC
  generalize bs.getD 5 0=c5 at*
  generalize bs.getD 6 0=c6 at*
  generalize bs.getD 7 0=c7 at*
  generalize bs.getD 8 0=c8 at*
  simp only[eG]at eC
  simp[-List.length_flatMap,pa,D5,Kq,h5,h6,h7,h8,k5,k6,k7,k8,hw,eC,eG,U5]
 ·rw[mX,if_pos rfl]at eC
  have wS:=af (U4 (gB bs) mX)
  have hsm:=af (yz (bs.take 64) (BW (gB bs)) (by simp;omega))
  have hlt:=lB mX
  have zU:dH (gB bs)≤1000∧0≤dH (gB bs):=by
   have:=F3 mX
   have:=(dq mX).2.2.2
   unfold dH
   rw[if_pos mX]
   omega
  have DP:IntKind.i64.wrap (64*dH (gB bs))=64*dH (gB bs):=yu (by omega) (by omega)
  have uN:(bs.flatMap eB).take 64=(bs.take 64).flatMap eB:=tZ 64 bs
  generalize BW (gB bs)=R at*
  generalize dH (gB bs)=tt at*
  unfold gB at*
  generalize bs.getD 5 0=c5 at*
  generalize bs.getD 6 0=c6 at*
  generalize bs.getD 7 0=c7 at*
  generalize bs.getD 8 0=c8 at*
  simp only[eG]at eC wS acd
  have hne:((bs.length:Int) !=64*tt)= !decide ((bs.length:Int)=64*tt):=by rw[Bool.eq_iff_iff];simp
  generalize decide ((bs.length:Int)=64*tt)=dt at*
  generalize decide (bs.take 64=R)=dR at*
  have aoa:sl eB (bs.take 64)= .sl .any 64 ((bs.take 64).flatMap eB):=by unfold sl;rw[List.length_take,Nat.min_eq_left Kq]
  rw[aoa,show sl eB R= .sl .any R.length (R.flatMap eB)from rfl]at hsm
  have Oz:ti 1 (sl eB bs) (some 0) (asNat (.v (.int .i64 64))) (some (oK (sl eB bs))) false=some (.sl .any 64 ((bs.take 64).flatMap eB)):=by
   rw[show asNat (.v (.int .i64 64))=some 64 from rfl]
   simp[-List.length_flatMap,sl,Kq,uN]
  cases dR<;>cases dt<;>simp[-List.length_flatMap,pa,D5,Kq,h5,h6,h7,h8,k5,k6,k7,k8,hw,eC,wS,hsm,acd,DP,eG,U5,jD,hne,Oz]
def Jj(bs:List UInt8):Bool:=decide ((bs.length:Int)≤12800)&&decide (bs.length%64=0)&&(!Pg bs||decide ((Ag bs).aw≤24)&&decide ((Ag bs).blocks≤30)&&decide ((Ag bs).lowers≤2))
theorem ace(bs:List UInt8):Ev E xr [sl eB bs,.v (.int .i64 24)] (.v (.bool (Jj bs))):=by
 refine aB (fn:=hY) rfl (by decide) rfl rfl rfl ?_
 have hg:=af (Ph bs)
 unfold Jj
 by_cases hl:(bs.length:Int)≤12800
 ·have Ae:bM .rem 3 (.v (.int .i64 bs.length)) (.v (.int .i64 64))=some (.v (.int .i64 ((bs.length%64:Nat):Int))):=Bl 3 (b:=64) (by omega)
  generalize bs.length%64=q at*
  by_cases hm:q=0
  ·subst hm
   cases hi:Pg bs
   ·rw[hi]at hg
    simp[-List.length_flatMap,hY,hg,hl,Ae,eG]
   ·rw[hi]at hg
    by_cases h1:(Ag bs).aw≤24
    ·by_cases h2:(Ag bs).blocks≤30
     ·simp[-List.length_flatMap,hY,hg,hl,Ae,eG,h1,h2]
     ·simp[-List.length_flatMap,hY,hg,hl,Ae,eG,h1,h2]
    ·simp[-List.length_flatMap,hY,hg,hl,Ae,eG,h1]
  ·have hq0:((q:Int)==0)=false:=by rw[beq_eq_false_iff_ne];omega
   simp[-List.length_flatMap,hY,hg,hl,Ae,hm,hq0]
 ·simp[-List.length_flatMap,hY,hg,hl]
theorem acf(t:TypeId)(a:Nat):bM .rem t (.v (.int .u8 (a:Int))) (.v (.int .u8 5))=some (.v (.int .u8 ((a%5:Nat):Int))):=by
 show(gn (Op.intDiv .rem .u8 (a:Int) 5)).map T.v=_
 unfold Op.intDiv
 rw[if_neg (by omega)]
 show some (T.v (.int .u8 ((a:Int).tmod ((5:Nat):Int))))=_
 rw[Int.ofNat_tmod]
end Go.Vi.Sz
end
section
set_option maxRecDepth 100000
set_option maxHeartbeats 8000000
namespace Go.Vi.Sz
open Go Go.Vi Go.Vi.Zz
def Pj(g:bt)(bs:List UInt8)(layer:Int):Prop:=eo g layer< 0∨(bs.length:Int)≠64*dH g
instance(g bs layer):Decidable (Pj g bs layer):=by unfold Pj;infer_instance
theorem aeZ(bs:List UInt8)(a n:Nat)(h:64*(a+n)≤bs.length):∀b∈iz bs a n,b.length=64:=by
 intro b hb
 unfold iz at hb
 rw[List.mem_map]at hb
 obtain⟨i,hi,rfl⟩:=hb
 rw[List.mem_range]at hi
 rw[List.length_take,List.length_drop]
 omega
theorem U6(g:bt):dG g []=false:=by
 unfold dG
 cases h:la g
 ·rfl
 ·have hs:=dq h
  simp
  omega
theorem YF(g:bt)(bs:List UInt8)(layer:Int)(h:¬Pj g bs layer):dG g (iz bs (eo g layer).toNat (aJ g).toNat)=true∧(∀b∈iz bs (eo g layer).toNat (aJ g).toNat,b.length=64)∧6≤aJ g∧aJ g≤85:=by
 unfold Pj at h
 obtain⟨mX,Wl,fg⟩:=Ai (fun hh=>h (.inl hh))
 have hlen:(bs.length:Int)=64*dH g:=by
  by_cases hh:(bs.length:Int)=64*dH g
  ·exact hh
  ·exact absurd (.inr hh) h
 have hs:=dq mX
 have hy:=lB mX
 have hst:=wx mX (show rv layer 0 g.lowers=true by simp[rv,Wl,fg])
 have acd:dH g=1+(g.lowers+1)*aJ g+g.log:=by unfold dH rJ;rw[if_pos mX]
 have dh:0≤eo g layer∧eo g layer+aJ g≤dH g:=by
  have e1:(g.lowers+1)*aJ g=g.lowers*aJ g+aJ g:=by rw[Int.add_mul,Int.one_mul]
  by_cases h0:layer=0
  ·rw[if_pos h0]at hst
   have:=Int.mul_nonneg (show 0≤g.lowers by omega) (show 0≤aJ g by omega)
   omega
  ·rw[if_neg h0]at hst
   have h2:=Int.mul_nonneg (show 0≤layer-1 by omega) (show 0≤aJ g by omega)
   have h3:=Int.mul_le_mul_of_nonneg_right (show layer-1≤g.lowers by omega) (show 0≤aJ g by omega)
   omega
 refine⟨?_,aeZ _ _ _ (by omega),hy.1,hy.2⟩
 unfold dG
 rw[mX,vL]
 simp only[Bool.true_and,decide_eq_true_eq]
 have:aJ g=1+g.aw+g.blocks:=rfl
 omega
def ImI(g:bt)(bs:List UInt8)(s:UInt8)(j:Nat)(σ:St):Prop:=∃vs o1 o2,Af o1∧Af o2∧Fits 13 0 [(0,sl eB bs),(1,.v (.int .u8 s.toNat)),(3,.ref 0 0),(4,.v (.int .i64 (j:Int)))] vs∧σ=⟨[],vs,bp 6 0 [(0,some (eG g)),(2,o1),(4,o2)]⟩
theorem Jk(Pk:Ev E gh [] (.v (.bool true)))(bs:List UInt8)(s:UInt8):
  Ev E ug [sl eB bs,.v (.int .u8 s.toNat)] (.v (.bool true)):=by
 refine aB (fn:=jh) rfl (by decide) rfl rfl rfl ?_
 have Pk:=af Pk
 have Mf:=af (ace bs)
 have eV:=af (Ph bs)
 cases hi:Jj bs
 ·rw[hi]at Mf
  simp[-List.length_flatMap,jh,Mf,Pk]
 rw[hi]at Mf
 have hl:bs.length≤12800:=by unfold Jj at hi;simp at hi;omega
 generalize Ag bs=g at*
 have Ma:eG g=[.v (.int .i64 g.lowers),.v (.int .i64 g.aw),.v (.int .i64 g.blocks),.v (.int .i64 g.log)]:=rfl
 simp[-List.length_flatMap,jh,Mf,eV]
 refine m_loop 4 (ImI g bs s) ⟨_,none,none,rb,rb,by simp[Fits],rfl⟩ ?_
 rintro j σ hj ⟨vs,o1,o2,pG,sh,hv,rfl⟩
 obtain⟨a,rfl⟩:=nc hv
 simp[Af]at pG sh
 by_cases hlt:j< 4
 ·have bh:(j:Int)≤3:=by omega
  have w4:IntKind.i64.wrap ((j:Int)+1)=((j+1:Nat):Int):=by rw[←Int.natCast_succ];exact aq (by omega)
  have Ae:=acf 5 s.toNat
  have hw8:IntKind.i64.wrap ((s.toNat%5:Nat):Int)=((s.toNat%5:Nat):Int):=aq (by omega)
  have kg:=af (ahf g bs (j:Int) hl)
  have w7:=af (ae0 g bs (j:Int) hl)
  generalize s.toNat%5=sp at*
  by_cases hc:Pj g bs (j:Int)
  ·rw[if_pos (show _∨_ from hc)]at kg w7
   have DQ:=af (Jg g [] (by simp) (sp:Int) (j:Int))
   have Fh:=af (Jl g [] (by simp) (sp:Int) (j:Int))
   rw[U6,if_neg (by decide)]at DQ Fh
   have heq:=af (Fi [] (by simp))
   have hsa:=af (Md [] (by simp) (by simp) (by simp))
   have YG:=af (Ye [] (by simp))
   simp only[sl,List.flatMap_nil,List.length_nil,bZ]at heq hsa YG DQ Fh
   simp[-List.length_flatMap,-Int.natCast_add,pt,bp,bh,hlt,pG,sh,kg,w7,Ae,hw8,DQ,Fh,heq,hsa,YG,w4]
   exact⟨_,_,_,nf (by simp),nf (by simp),by simp[Fits],rfl⟩
  ·rw[if_neg (show ¬(_∨_)from hc)]at kg w7
   obtain⟨hr,D5,hy1,hy2⟩:=YF g bs (j:Int) hc
   have oe:(iz bs (eo g j).toNat (aJ g).toNat).length=(aJ g).toNat:=vL _ _ _
   generalize iz bs (eo g j).toNat (aJ g).toNat=l at*
   have aob:l≠[]:=by intro hh;rw[hh]at oe;simp at oe;omega
   rw[Pm _ aob]at kg w7
   have DQ:=af (Jg g l D5 (sp:Int) (j:Int))
   have Fh:=af (Jl g l D5 (sp:Int) (j:Int))
   rw[hr,if_pos rfl]at DQ Fh
   have heq:=af (Fi l (by omega))
   obtain⟨YA,gA,uL⟩:=aca g l hr
   have X7:(cZ (br g l)).length≤24:=by have:=acb (br g l);rw[cJ,List.length_map]at YA;omega
   have L9:(cJ (br g l)).length≤24:=by omega
   have dm:=YD g l D5 (cJ (br g l)) (sp:Int) (cJ (br g l)).length
   have BF:=YE g l (cJ (br g l)) (sp:Int) (j:Int) (cZ (br g l)) L9 X7
   have hsa:=af (Md (bd g l (cJ (br g l)) (sp:Int) (cJ (br g l)).length) (by simp[bd];omega) (fun n hn=>(dm n hn).1) (fun n hn=>(dm n hn).2))
   have YG:=af (Ye (uX g l (cJ (br g l)) (sp:Int) (j:Int) (cZ (br g l))) BF)
   generalize bd g l (cJ (br g l)) (sp:Int) (cJ (br g l)).length=N at*
   generalize uX g l (cJ (br g l)) (sp:Int) (j:Int) (cZ (br g l))=FF at*
   rw[show sl eF FF= .sl .any FF.length (FF.flatMap eF)from rfl]at YG
   rw[show sl eS l= .sl .any l.length (l.flatMap eS)from rfl]at heq DQ Fh
   simp[-List.length_flatMap,-Int.natCast_add,pt,bp,bh,hlt,pG,sh,kg,w7,Ae,hw8,DQ,Fh,heq,hsa,YG,w4,Kr,hit]
   exact⟨_,_,_,nf (by simp[-List.length_flatMap]),nf (by simp[-List.length_flatMap]),by simp[Fits],rfl⟩
 ·have zr:j=4:=by omega
  subst zr
  simp[-List.length_flatMap,-Int.natCast_add,pt,bp,Pk,pG,sh]
end Go.Vi.Sz
end
