/-
  A claim's own text, joined by a small program out of: H41, H39, H42, H43.
-/
import Derived.Test.YtodollbkpkpklaaGreatX20
import Derived.Test.YtodollbkpkpklaaGreatX21
import Derived.Test.YtodollbkpkpklaaGreatX3
set_option linter.unusedVariables false
set_option linter.unusedSimpArgs false
section
set_option maxRecDepth 100000
set_option maxHeartbeats 20000000
namespace Go.Vi.Sz
open Go Go.Vi Go.Vi.Zz
theorem Hn{α:Type}(z:Tag)(hz:z= .nil∨z= .clip)(k e)(enc:α→List T)(A:List α)(η:Nat→Option Nat)(h:η k=some k):(aB z k e enc A).al some η=aB z k e enc A:=by
 rcases hz with rfl|rfl<;>unfold aB<;>split<;>simp[T.al,h]
theorem abQ(ρ η)(x:Int×Int):ai ρ η (eP x)=eP x:=by simp[eP,T.al,ai]
@[simp] theorem ajT(d):qR.strip d=qR:=by simp[qR]
@[simp] theorem ajU(s)(h8:(s==8)=false)(h2:(s==2)=false):qR.ay s=true:=by simp at h8 h2;simp[qR];omega
theorem X9(z k s)(A:List (Int×Int)):(aB z k 77 eP A).ay s=true:=by
 have:aR s (A.flatMap eP)=true:=by
  induction A with
  |nil=>simp
  |cons x l ih=>simp[eP,ih]
 unfold aB;split<;>simp[-List.length_flatMap]
theorem ON(s)(p:Int×Int):aR s (eP p)=true:=by simp[eP]
theorem xI(η):qR.al some η=qR:=by simp[qR,T.al,ai]
theorem cS(d B:Nat)(h:∀j,j< 8→hit d (B+j)=false)(F:FM)(hF:F.length≤8):stripL d (dB (pj B) 0 F)=dB (pj B) 0 F:=by
 have:∀(F:FM) (i:Nat),i+F.length≤8→stripL d (dB (pj B) i F)=dB (pj B) i F:=by
  intro F
  induction F with
  |nil=>intro i _;simp[pW]
  |cons p F ih=>
   intro i hi
   rw[ew]
   have h0:=h i (by simp at hi;omega)
   have h1:=ih (i+1) (by simp at hi;omega)
   simp[-List.length_flatMap,pj,h0]
   exact h1
 exact this F 0 (by omega)
theorem EG(s:Nat)(ζ):∀(F:FM) (i:Nat),aR s (dB ζ i F)=true
 | [],i=>by simp[pW]
 |p::F,i=>by
  rw[ew]
  simp[-List.length_flatMap,EG s ζ F (i+1)]
theorem IN(g l L special j):(ec g l L special j).length≤16:=by
 unfold ec
 split
 ·exact(pV g l L _ special 16).2
 ·simp
theorem Co(g l L special ah):∀j,(dL g l L special ah j).length≤16*j:=by
 intro j
 induction j with
 |zero=>simp[dL]
 |succ j ih=>
  have:=IN g l L special j
  rw[oX,List.length_append,jl,List.length_map]
  omega
theorem EH(g l L ah):∀n,(cG g l L ah n).length≤n:=by
 intro n
 induction n with
 |zero=>simp[cG]
 |succ n ih=>
  rw[qS,List.length_append]
  unfold Cp
  split<;>simp<;>omega
def u6(B:Nat):Prop:=B=456∨B=536∨B=824∨B=1008
theorem tB(d B:Nat)(hB:u6 B)(F:FM)(hF:F.length≤8)(hd:(d%2=0∧d≠114∧d≠134∧d≠206∧d≠252)∨(d%2=1∧2032≤d)):stripL d (dB (pj B) 0 F)=dB (pj B) 0 F:=by
 refine cS d B (fun j hj=> ?_) F hF
 unfold u6 at hB
 unfold hit
 rcases hd with⟨h0,h⟩|⟨h1,h⟩
 ·rw[if_pos h0,beq_eq_false_iff_ne];omega
 ·rw[if_neg (by omega),beq_eq_false_iff_ne];omega
structure MM(t:T)(w:T):Prop where
 one:t.one=true
 aV:t.aV=false
 ay:∀s,t.ay s=true
 s2:∀d,(d=262∨d=264∨d=2113)→t.strip d=t
 wY:∀d B n,n≤8→u6 B→(d=103∨d=126)→t.al some (gg d (Bq B n))=t
 cells:cellsOf t=some [t]
 cH:t.cH=w
structure acT(t:T)(A:List Int):Prop where
 ay:∀s,t.ay s=true
 wY:∀B n,n≤8→u6 B→t.al some (gg 126 (Bq B n))=t
 len:jo false t=some (.v (.int .i64 A.length))
 addr:∀j:Nat,j< A.length→dR 1 t (.v (.int .i64 (j:Int)))=some (.ptr (A.flatMap eN) (j*1))
theorem acU(d B n k:Nat)(hn:n≤8)(hB:u6 B)(hk:k=896∨k=897)(hd:d=103∨d=126):gg d (Bq B n) k=some k:=by
 refine iS d B n k hn ?_ (by unfold u6 at hB;omega)
 unfold hit
 rw[if_pos (by omega),beq_eq_false_iff_ne]
 omega
theorem Ya(A:List bN):MM (T.import 112 (aB .nil 0 105 eE A)) (sl eE A):=by
 unfold aB
 split
 ·rename_i h
  subst h
  constructor<;>simp[sl]
 ·rw[GF]
  refine⟨by simp,by simp,fun s=>by simp[-List.length_flatMap],fun d hd=> ?_,fun d B n hn hB hd=> ?_,rfl,by simp[sl]⟩
  ·have:hit d 896=false:=by unfold hit;rcases hd with rfl|rfl|rfl<;>rfl
   simp[-List.length_flatMap,this]
  ·simp only[T.al]
   rw[acU d B n 896 hn hB (.inl rfl) hd]
theorem Yb(f:Bool)(A:List bN)(W:List Int)(hf:f=false→W=[]):acT (T.import 112 (if f then .sl (.own (if A=[]then 0 else 1) 3) W.length (W.flatMap eN)else .sl .nil 0 [])) W:=by
 have Am:∀g,∀j:Nat,j< W.length→dR 1 (.sl g W.length (W.flatMap eN)) (.v (.int .i64 (j:Int)))=some (.ptr (W.flatMap eN) (j*1)):=by
  intro g j hj
  show(if 0≤(j:Int)∧(j:Int).toNat< W.length then some (T.ptr (W.flatMap eN) ((j:Int).toNat*1))else none)=_
  rw[if_pos (by omega),Int.toNat_natCast]
 cases f
 ·rw[hf rfl]
  constructor<;>simp[jo]
 ·have hk:∃k,(k=896∨k=897)∧T.import 112 (if true=true then .sl (.own (if A=[]then 0 else 1) 3) W.length (W.flatMap eN)else .sl .nil 0 [])= .sl (.own k 3) W.length (W.flatMap eN):=by
   by_cases hA:A=[]
   ·exact⟨896,.inl rfl,by simp[hA]⟩
   ·exact⟨897,.inr rfl,by simp[hA]⟩
  obtain⟨k,hk,he⟩:=hk
  rw[he]
  refine⟨fun s=>by simp[-List.length_flatMap],fun B n hn hB=> ?_,rfl,Am _⟩
  simp only[T.al]
  rw[acU 126 B n k hn hB hk (.inr rfl)]
theorem LG(g l L ino special):∀k,rm g l L ino k=false→aH g l L ino special (4*k)=([],[])
 |0,_=>rfl
 |k+1,h=>by
  simp only[rm,Bool.or_eq_false_iff,Option.isSome_eq_false_iff,Option.isNone_iff_eq_none]at h
  rw[Ch special k h.2]
  exact LG g l L ino special k h.1
abbrev i6(n:Int):T:= .v (.int .i64 n)
def kT(L:List aO)(special:Int)(j:Nat)(ex ex2:List (Nat×T)):List (Nat×T):=[(2,i6 special),(6,.ref 4 0),(8,.ref 6 0),(10,.ref 8 0),(11,qR),(14,.ref 12 0)]++ex++[(30,.sl (.own 288 34) L.length (L.flatMap eI)),(31,i6 L.length),(32,i6 j)]++ex2
def B4(g:cA)(l:List (List UInt8))(L:List aO)(ah:Int)(nodes:List Nd)(o1 o2:Option (List T))(F:FM)(B:Nat):List (Option (List T)):=
 bp 28 0 [(0,some (eG g)),(2,some [i6 ah]),(4,some [bY]),(6,some [i6 g.lowers,i6 g.aE,i6 g.blocks,i6 g.log,sl eS l,.sl (.own 288 34) L.length (L.flatMap eI)]),(8,some [.aQ 19]),(12,some [aB .nil 1056 84 eU nodes]),(14,o1),(16,o2),(19,some (dB (pj B) 0 F))]
def W4(g:cA)(l:List (List UInt8))(L:List aO)(ah:Int)(nodes:List Nd)(P1 P2 A S:List fC)(vl:List (Nat×T))(o1 o2:Option (List T))(σ:St):Prop:=
 ∃vs F B,Fits 40 0 vl vs∧FI F P1 P2 A S∧u6 B∧σ=⟨[],vs,B4 g l L ah nodes o1 o2 F B⟩
def I4(g:cA)(l:List (List UInt8))(L:List aO)(special ah:Int)(P1 P2:List fC)(j:Nat)(σ:St):Prop:=
 ∃o1 o2,IM o1∧IM o2∧W4 g l L ah (bf g l L special j) P1 P2 (cG g l L ah j) (dL g l L special ah j) (kT L special j [] []) o1 o2 σ
noncomputable def MN:IC:=dW.body.tl.tl.tl.tl.tl.tl.tl.tl.tl.tl.hd.tl.tl
theorem Yc(g:cA)(l:List (List UInt8))(hl:∀b∈l,b.length=64)(L:List aO)(LH:L.length≤24)(OP:∀x∈L,xp x∧(x.kind=0→x=cx))(special ah:Int)(P1 P2:List fC)(k:List Fr)(Q:Out→Prop)(σ:St)
  (h0:I4 g l L special ah P1 P2 0 σ) (hp:∀σ',I4 g l L special ah P1 P2 L.length σ'→N E k σ' Q):M E MN (.xo 4::k) σ Q:=by
 show M E (.loop MN.tl) _ _ _
 refine m_loop L.length _ h0 ?_
 rintro j σ hj ⟨o1,o2,uc,xh,vs,F,B,hv,gu,hB,rfl⟩
 obtain⟨a,rfl⟩:=nQ hv
 clear hv h0
 have lD:F.length≤8:=by have:=gu.yV;omega
 have LI:eG g=[.v (.int .i64 g.lowers),.v (.int .i64 g.aE),.v (.int .i64 g.blocks),.v (.int .i64 g.log)]:=rfl
 have hL:=fun x hx=>(OP x hx).1
 simp[IM]at uc xh
 by_cases hlt:j< L.length
 ·have bd:(j:Int)< L.length:=by omega
  have w4:IntKind.i64.wrap ((j:Int)+1)=((j+1:Nat):Int):=by rw[←Int.natCast_succ];exact au (by omega)
  have bq:=uA L j hlt
  have b9:Option.filter T.closed (some (T.agg (eI L[j])))=some (T.agg (eI L[j])):=bJ (by simp)
  obtain⟨UL,acV⟩:=X7 g l L OP special j hlt
  have ea:L.getD j cx=L[j]:=by rw[List.getD_eq_getElem?_getD,List.getElem?_eq_getElem hlt,Option.getD_some]
  have agC:=af (Su g l hl L (by omega) hL ((j+1:Nat):Int))
  have Cq:=af (abP g l hl L (by omega) hL ((j+1:Nat):Int))
  have sY:=af (UD g l hl L (by omega) hL ((j+1:Nat):Int) special)
  simp only[hY]at agC Cq sY
  have hwr:ec g l L special j=if L[j].kind=1 then(aH g l L ((j+1:Nat):Int) special 16).2 else []:=by unfold ec;rw[ea]
  have hdw:T.import 88 (bZ (dN g l L ((j+1:Nat):Int)))=bZ (dN g l L ((j+1:Nat):Int)):=by
   cases dN g l L ((j+1:Nat):Int)<;>simp[bZ]
  have Sv:MM (bZ (dN g l L ((j+1:Nat):Int))) (sl eB ((dN g l L ((j+1:Nat):Int)).getD [])):=by
   cases dN g l L ((j+1:Nat):Int)<;>constructor<;>simp[bZ,sl]
  have vW:∀d,(bZ (dN g l L ((j+1:Nat):Int))).strip d=bZ (dN g l L ((j+1:Nat):Int)):=by
   cases dN g l L ((j+1:Nat):Int)<;>simp[bZ]
  have VT:cr (eI L[j]) 0=some (.v (.int .i64 L[j].kind)):=rfl
  have Nc:cr (eI L[j]) 1=some (.v (.int .i64 L[j].impure)):=rfl
  have hx2:cr (eI L[j]) 2=some (.v (.int .i64 L[j].nlink)):=rfl
  have hx3:cr (eI L[j]) 3=some (.v (.int .i64 L[j].gen)):=rfl
  have rT:∀s,aR s (eI L[j])=true:=fun s=>by simp
  generalize hx:L[j]=x at*
  generalize hao:rq g l L ((j+1:Nat):Int)=ao at*
  generalize hdo:dN g l L ((j+1:Nat):Int)=dO at*
  generalize bZ dO=dt at*
  have AT:=tB 176 B hB F lD (by omega)
  have AU:=tB 188 B hB F lD (by omega)
  have hA:=fun a:pk=>(show dD 94 (eA a)=[i6 a.has,i6 a.pX,.v (.string ⟨a.red.toArray⟩),i6 a.ol,i6 a.oi,i6 a.og,i6 a.shown] by simp[eA])
  simp[-List.length_flatMap,-Int.natCast_add,hA,MN,dW,IC.tl,IC.hd,pt,bp,B4,kT,bd,hlt,uc,xh,EG,Cs,bY,bq,b9,w4,VT,Nc,hx2,hx3,agC,hdw,Sv.one,vW,Sv.cells,hit,mK,AT,AU,Cq]
  generalize uf:ao.getD ou=EI at*
  refine OM (J:=W4 g l L ah (bf g l L special j) P1 P2 (cG g l L ah (j+1)) (dL g l L special ah j) (kT L special j [(15,i6 j),(16,.ref 14 0),(17,.ref 16 0)] []) (some (eI x)) (some (nF x dt bY EI))) (fun hs=> ?_) (fun hs=> ?_) ?_
  ·have Yd:cG g l L ah (j+1)=cG g l L ah j++[⟨2,ah,((j+1:Nat):Int),-1⟩]:=by
    rw[qS];unfold Cp;rw[acV];cases ao<;>simp at hs⊢
   have Ye:(gw 2 F).length≤10000:=by have:=EH g l L ah j;rw[gu.g2];omega
   have j7:=iS 103 B F.length 288 lD rfl (by unfold u6 at hB;omega)
   have u5:=iS 103 B F.length 1056 lD rfl (by unfold u6 at hB;omega)
   simp[-List.length_flatMap,-Int.natCast_add,w4]
   refine IK 103 _ _ _ _ _ _ _ F B ah 2 ((j+1:Nat):Int) (-1) rfl rfl rfl rfl rfl rfl rfl gu.yV Ye ?_
   simp[-List.length_flatMap,-Int.natCast_add,Sv.wY 103 B F.length lD hB (.inl rfl),xI,Hn,T.al,ai,j7,u5]
   exact⟨_,_,824,by simp[Fits,kT],Yd▸gu.t2 _,.inr (.inr (.inl rfl)),rfl⟩
  ·have Yd:cG g l L ah (j+1)=cG g l L ah j:=by
    rw[qS];unfold Cp;rw[acV];cases ao<;>simp at hs⊢
   simp[-List.length_flatMap,-Int.natCast_add]
   exact⟨_,_,B,by simp[Fits,kT],Yd▸gu,hB,rfl⟩
  clear gu hB lD AT AU
  rintro σ ⟨vs,F,B,hv,gu,hB,rfl⟩
  obtain⟨a,rfl⟩:=nQ hv
  clear hv
  have lD:F.length≤8:=by have:=gu.yV;omega
  simp[-List.length_flatMap,-Int.natCast_add,pt,bp,B4,kT,VT]
  refine OM (J:=fun σ=>∃et,MM et (sl eE (if x.kind=1 then(aH g l L ((j+1:Nat):Int) special 16).1 else []))∧W4 g l L ah (bf g l L special j) P1 P2 (cG g l L ah (j+1)) (dL g l L special ah (j+1)) (kT L special j [(15,i6 j),(17,.ref 16 0)] []) (some (eI x)) (some (nF x dt et EI)) σ) (fun hs=> ?_) (fun hs=> ?_) ?_
  ·have j7:x.kind=1:=by simpa using hs
   rw[if_pos j7]at hwr⊢
   have fY:jl g l L special ah j=(ec g l L special j).map fun s=>⟨5,ah,((j+1:Nat):Int),s⟩:=rfl
   have NW:=oX g l L special ah j
   have hwl:=IN g l L special j
   have aqj:=Co g l L special ah j
   rw[NW]
   generalize jl g l L special ah j=SF at*
   have KP:=tB 224 B hB F lD (by omega)
   have het:MM (T.import 112 (aB .nil 0 105 eE (aH g l L ((j+1:Nat):Int) special 16).1)) (sl eE (aH g l L ((j+1:Nat):Int) special 16).1):=Ya _
   have GB:acT (T.import 112 (if rm g l L ((j+1:Nat):Int) 4 then .sl (.own (if(aH g l L ((j+1:Nat):Int) special 16).1=[]then 0 else 1) 3) (aH g l L ((j+1:Nat):Int) special 16).2.length ((aH g l L ((j+1:Nat):Int) special 16).2.flatMap eN)else .sl .nil 0 [])) (aH g l L ((j+1:Nat):Int) special 16).2:=Yb _ _ _ fun h=>by rw[LG g l L _ special 4 h]
   have tn:∀f,brT f (aH g l L ((j+1:Nat):Int) special 16)= .an [aB .nil 0 105 eE (aH g l L ((j+1:Nat):Int) special 16).1,if f then .sl (.own (if(aH g l L ((j+1:Nat):Int) special 16).1=[]then 0 else 1) 3) (aH g l L ((j+1:Nat):Int) special 16).2.length ((aH g l L ((j+1:Nat):Int) special 16).2.flatMap eN)else .sl .nil 0 []]:=fun _=>rfl
   rw[tn]at sY
   generalize aB .nil 0 105 eE (aH g l L ((j+1:Nat):Int) special 16).1=et0 at*
   generalize (if rm g l L ((j+1:Nat):Int) 4 then T.sl (.own (if(aH g l L ((j+1:Nat):Int) special 16).1=[]then 0 else 1) 3) (aH g l L ((j+1:Nat):Int) special 16).2.length ((aH g l L ((j+1:Nat):Int) special 16).2.flatMap eN)else .sl .nil 0 [])=wt0 at*
   generalize IP:T.import 112 et0=et at*
   generalize hwi:T.import 112 wt0=wt at*
   have hcD:lC et=true:=by unfold lC;rw[het.cells];rfl
   have hcV:kG et=[et]:=by unfold kG;rw[het.cells];rfl
   rw[←hwr]at GB
   generalize ec g l L special j=W at*
   simp[-List.length_flatMap,-Int.natCast_add,w4,sY,het.one,vW,hit,mK,KP,nF,GB.len,IP,hwi,hcD,hcV,bY]
   refine m_loop W.length (fun i σ=>W4 g l L ah (bf g l L special j) P1 P2 (cG g l L ah (j+1)) (dL g l L special ah j++SF.take i) (kT L special j [(15,i6 j),(17,.ref 16 0)] [(36,wt),(37,i6 W.length),(38,i6 i)]) (some (eI x)) (some (nF x dt et EI)) σ) ⟨_,F,B,by simp[Fits,kT],by simpa using gu,hB,rfl⟩ ?_
   clear gu hB lD KP
   rintro i σ hi ⟨vs,F,B,hv,gu,hB,rfl⟩
   obtain⟨a,rfl⟩:=nQ hv
   clear hv
   have lD:F.length≤8:=by have:=gu.yV;omega
   have NJ:SF.length=W.length:=by rw[fY,List.length_map]
   by_cases LJ:i< W.length
   ·have Br:(i:Int)< W.length:=by omega
    have w5:IntKind.i64.wrap ((i:Int)+1)=((i+1:Nat):Int):=by rw[←Int.natCast_succ];exact au (by omega)
    have di:=EC W i LJ
    have RS:=GB.addr i LJ
    have ano:Option.filter T.closed (some (T.v (.int .i64 W[i])))=some (T.v (.int .i64 W[i])):=bJ rfl
    have hst:SF.take (i+1)=SF.take i++[⟨5,ah,((j+1:Nat):Int),W[i]⟩]:=by
     rw[List.take_succ_eq_append_getElem (by omega)]
     simp[fY]
    generalize W[i]=wi at*
    have Ye:(gw 5 F).length≤10000:=by rw[gu.g5,List.length_append,List.length_take];omega
    have j7:=iS 126 B F.length 288 lD rfl (by unfold u6 at hB;omega)
    have u5:=iS 126 B F.length 1056 lD rfl (by unfold u6 at hB;omega)
    have hkw:=GB.wY B F.length lD hB
    have hkd:=Sv.wY 126 B F.length lD hB (.inr rfl)
    have hke:=het.wY 126 B F.length lD hB (.inr rfl)
    simp[-List.length_flatMap,-Int.natCast_add,pt,bp,B4,kT,Br,RS,di,ano,w4]
    refine IK 126 _ _ _ _ _ _ _ F B ah 5 ((j+1:Nat):Int) wi rfl rfl rfl rfl rfl rfl rfl gu.yV Ye ?_
    simp[-List.length_flatMap,-Int.natCast_add,nF,bY,hkw,hkd,hke,xI,Hn,T.al,ai,j7,u5,w5,LJ]
    exact⟨_,_,1008,by simp[Fits],by rw[hst,←List.append_assoc];exact gu.t5 _,.inr (.inr (.inr rfl)),rfl⟩
   ·have uY:i=W.length:=by omega
    subst uY
    rw[List.take_of_length_le (by omega)]at gu
    simp[-List.length_flatMap,-Int.natCast_add,pt,bp,B4,kT]
    exact⟨et,het,_,F,B,by simp[Fits],gu,hB,rfl⟩
  ·have j7:¬x.kind=1:=by simpa using hs
   rw[if_neg j7]at hwr⊢
   have Yd:dL g l L special ah (j+1)=dL g l L special ah j:=by
    rw[oX];unfold jl;rw[hwr];simp
   simp[-List.length_flatMap,-Int.natCast_add]
   refine⟨bY, ?_,_,_,B,by simp[Fits,kT],Yd▸gu,hB,rfl⟩
   constructor<;>simp[bY,sl]
  clear gu hB lD
  rintro σ ⟨et,het,vs,F,B,hv,gu,hB,rfl⟩
  obtain⟨a,rfl⟩:=nQ hv
  clear hv
  have lD:F.length≤8:=by have:=gu.yV;omega
  have hM4:=tB 262 B hB F lD (by omega)
  have hM5:=tB 264 B hB F lD (by omega)
  have hM6:=tB 2113 B hB F lD (by omega)
  have mY:(bf g l L special j).length=j:=by simp[bf]
  have hN1:=GG g l L special j
  rw[UL]at hN1
  simp[-List.length_flatMap,-Int.natCast_add,pt,bp,B4,kT,mK,hit,hM4,het.s2,het.cH,vW,Sv.cH,nF]
  have nG:aB .nil 1056 84 eU (bf g l L special (j+1))= .sl (.own 1056 84) (j+1) ((bf g l L special j).flatMap eU++[i6 x.kind,i6 x.impure,i6 x.nlink,i6 x.gen,sl eB (dO.getD []),sl eE (if x.kind=1 then(aH g l L ((j+1:Nat):Int) special 16).1 else []),i6 EI.has,i6 EI.pX,.v (.string ⟨EI.red.toArray⟩),i6 EI.ol,i6 EI.oi,i6 EI.og,i6 EI.shown]):=by
   rw[hN1,bk,mY];rfl
  have R3:∀s,aR s (nF x dt et EI)=true:=fun s=>by simp[nF,Sv.ay,het.ay]
  have GH:(j+1)*144≤4294967296∧j≤4294967295:=by omega
  by_cases hN:bf g l L special j=[]
  ·rw[hN,aK]
   have la:j=0:=by rw[←mY,hN];rfl
   rw[hN]at nG
   simp[-List.length_flatMap,-Int.natCast_add,room,hit,hM5,het.s2,vW,w4,bY]
   simp only[I4,W4,B4]
   rw[nG]
   subst la
   exact⟨_,_,xH rT,xH R3,_,F,B,by simp[Fits,kT],gu,hB,rfl⟩
  ·rw[aA _ _ _ _ hN,mY]
   simp[-List.length_flatMap,-Int.natCast_add,room,hit,hM5,hM6,Ho,mY,het.s2,vW,w4,GH,bY]
   simp only[I4,W4,B4]
   rw[nG]
   exact⟨_,_,xH rT,xH R3,_,F,B,by simp[Fits,kT],gu,hB,rfl⟩
 ·have yR:j=L.length:=by omega
  subst yR
  simp[-List.length_flatMap,-Int.natCast_add,MN,dW,IC.tl,IC.hd,pt,bp,B4,kT,uc,xh,EG,Cs,bY]
  refine hp _ ⟨none,none,xG,xG,_,F,B,by simp[Fits,kT],gu,hB,rfl⟩
end Go.Vi.Sz
end
section
set_option maxRecDepth 100000
set_option maxHeartbeats 20000000
namespace Go.Vi.Sz
open Go Go.Vi Go.Vi.Zz
def BD0(g:cA)(l:List (List UInt8))(L:List aO)(Bd:List Int)(special ah:Int)(BT:List (Int×Int))(i:Nat)(σ:St):Prop:=∃a0 a1 a3 a4 a5 a7 a12 cP de cJ cX a17 iC iD a20 a21 a25 a26 a27 a28 a29 a30 a31 a32 a33 a34 a35 Yf a37 Yg Yh o F B,(o=none∨∃p,o=some (eP p))∧FI F ((jx ah BT).take i) [] [] []∧u6 B∧σ=⟨[],[a0,a1,.v (.int .i64 special),a3,a4,a5,.ref 4 0,a7,.ref 6 0,aB .nil 289 3 eN Bd,.ref 8 0,qR,a12,cP,de,cJ,cX,a17,iC,iD,a20,a21,aB .nil 368 77 eP BT,.v (.int .i64 BT.length),.v (.int .i64 i),a25,a26,a27,a28,a29,a30,a31,a32,a33,a34,a35,Yf,a37,Yg,Yh],[some (eG g),none,some [.v (.int .i64 ah)],none,some [bY],none,some [.v (.int .i64 g.lowers),.v (.int .i64 g.aE),.v (.int .i64 g.blocks),.v (.int .i64 g.log),sl eS l,.sl (.own 288 34) L.length (L.flatMap eI)],none,some [.aQ 19],none,o,none,none,none,none,none,none,none,none,some (dB (pj B) 0 F),none,none,none,none,none,none,none,none]⟩
def BD2(g:cA)(l:List (List UInt8))(L:List aO)(Bd:List Int)(special ah:Int)(BT:List (Int×Int))(i:Nat)(σ:St):Prop:=∃a0 a1 a3 a4 a5 a7 a9 a12 cP de cJ cX a17 iC iD a20 a21 mZ a23 a24 a25 a29 a30 a31 a32 a33 a34 a35 Yf a37 Yg Yh F B,FI F (jx ah BT) ((gd ah Bd).take i) [] []∧u6 B∧σ=⟨[],[a0,a1,.v (.int .i64 special),a3,a4,a5,.ref 4 0,a7,.ref 6 0,a9,.ref 8 0,qR,a12,cP,de,cJ,cX,a17,iC,iD,a20,a21,mZ,a23,a24,a25,aB .nil 289 3 eN Bd,.v (.int .i64 Bd.length),.v (.int .i64 i),a29,a30,a31,a32,a33,a34,a35,Yf,a37,Yg,Yh],[some (eG g),none,some [.v (.int .i64 ah)],none,some [bY],none,some [.v (.int .i64 g.lowers),.v (.int .i64 g.aE),.v (.int .i64 g.blocks),.v (.int .i64 g.log),sl eS l,.sl (.own 288 34) L.length (L.flatMap eI)],none,some [.aQ 19],none,none,none,none,none,none,none,none,none,none,some (dB (pj B) 0 F),none,none,none,none,none,none,none,none]⟩
theorem LL(c:Int):∀F:FM,gx c F=false→gw c F=[]
 | [],_=>rfl
 |p::F,h=>by
  simp only[gx]at h
  simp only[gw]
  split at h
  ·cases h
  ·rename_i hc
   rw[if_neg hc]
   exact LL c F h
theorem IQ(c:Int)(ζ)(F:FM){bx:List (Option (List T))}{rs vars:List T}{a i:ag}{s:Nat}{rest outs k Q}(ha:a.get ⟨rs,vars,bx⟩= .aQ s)(hi:i.get ⟨rs,vars,bx⟩=i6 c)(hb:aj bx s=some (dB ζ 0 F))
  (h:∀t,t.cH=sl eF (gw c F)→O E rest outs k ⟨snoc rs t,vars,bx⟩ Q):O E ((none,.lookup .int (.sl .nil 0 []) false a i)::rest) outs k ⟨rs,vars,bx⟩ Q:=by
 rw[bH rfl]
 have hf:=UH c ζ F 0
 have nL:bx[s]? =some (some (dB ζ 0 F)):=by
  unfold aj at hb
  cases hh:bx[s]? with
  |none=>rw[hh]at hb;simp at hb
  |some o=>rw[hh]at hb;simp at hb;rw[hb]
 simp only[ae,ha,hi]
 rw[nL]
 simp only[hf]
 cases hh:gx c F
 ·have hg:=LL c F hh
  simpa using h (.sl .nil 0 []) (by simp[sl,hg])
 ·simpa [-List.length_flatMap]using h (.sl (.own (ζ (0+ky c F)) 48) (gw c F).length ((gw c F).flatMap eF)) (by simp[sl])
theorem abR(g:cA)(l:List (List UInt8))(L:List aO)(EJ:L≠[])(special ah:Int)(P1 P2:List fC)(hP:P1.length+P2.length+(cG g l L ah L.length).length+(dL g l L special ah L.length).length≤1000)(σ:St)(h0:I4 g l L special ah P1 P2 L.length σ):
  N E [.seq dW.body.tl.tl.tl.tl.tl.tl.tl.tl.tl.tl.tl] σ (Ov [.cell 6 true 1,.var 7] [.raw,.raw] (.an [.agg [.sl (.own 0 84) (bf g l L special L.length).length ((bf g l L special L.length).flatMap eU)],.sl .any (P1++cG g l L ah L.length++P2++dL g l L special ah L.length).length ((P1++cG g l L ah L.length++P2++dL g l L special ah L.length).flatMap eF)])):=by
 obtain⟨o1,o2,uc,xh,vs,F,B,hv,gu,hB,rfl⟩:=h0
 obtain⟨a,rfl⟩:=nQ hv
 clear hv
 have lD:F.length≤8:=by have:=gu.yV;omega
 simp[-List.length_flatMap,-Int.natCast_add,pt,bp,B4,kT,dW,IC.tl]
 refine IQ 1 (pj B) F rfl rfl rfl fun t1 h1=> ?_
 simp[-List.length_flatMap,-Int.natCast_add]
 refine IQ 2 (pj B) F rfl rfl rfl fun t2 h2=> ?_
 simp[-List.length_flatMap,-Int.natCast_add]
 refine IQ 4 (pj B) F rfl rfl rfl fun t3 h3=> ?_
 simp[-List.length_flatMap,-Int.natCast_add]
 refine IQ 5 (pj B) F rfl rfl rfl fun t4 h4=> ?_
 rw[gu.g1]at h1
 rw[gu.g2]at h2
 rw[gu.g4]at h3
 rw[gu.g5]at h4
 have hM:=tB 288 B hB F lD (by omega)
 have AU:=tB 290 B hB F lD (by omega)
 have hne:bf g l L special L.length≠[]:=fun h=>EJ (List.eq_nil_of_length_eq_zero (by have:=congrArg List.length h;simpa [bf]using this))
 rw[aA _ _ _ _ hne]
 generalize bf g l L special L.length=N at*
 generalize cG g l L ah L.length=A at*
 generalize dL g l L special ah L.length=S at*
 have hcc:=af (X5 [P1,A,P2,S] (by simp;omega) (by simp))
 have hL:[P1,A,P2,S].flatten=P1++A++P2++S:=by simp
 rw[hL]at hcc
 have fY:sl eL [P1,A,P2,S]= .sl .any 4 [.sl .any P1.length (P1.flatMap eF),.sl .any A.length (A.flatMap eF),.sl .any P2.length (P2.flatMap eF),.sl .any S.length (S.flatMap eF)]:=rfl
 rw[fY]at hcc
 generalize P1++A++P2++S=R at*
 simp[-List.length_flatMap,-Int.natCast_add,h1,h2,h3,h4,sl,hcc,hit,bY,T.fa,T.al,List.idxOf?]
 subst hL
 simp
theorem UM(g:cA)(l:List (List UInt8))(hl:∀b∈l,b.length=64)(special ah:Int):
  Ev E iU [.agg (eG g),sl eS l,.v (.int .i64 special),.v (.int .i64 ah)]
   (if ep g l then .an [.agg [.sl (.own 0 84) (bf g l (ct (aU g l)) special (ct (aU g l)).length).length ((bf g l (ct (aU g l)) special (ct (aU g l)).length).flatMap eU)],.sl .any (uB g l (ct (aU g l)) special ah (cT (aU g l))).length ((uB g l (ct (aU g l)) special ah (cT (aU g l))).flatMap eF)]else .an [.agg [bY],bY]):=by
 refine aC (fn:=dW) rfl (by decide) rfl rfl rfl ?_
 have kD:=af (LM g l hl)
 have OQ:=af (pn g l (.sl .any 0 []) 0 [] rfl)
 have LI:eG g=[.v (.int .i64 g.lowers),.v (.int .i64 g.aE),.v (.int .i64 g.blocks),.v (.int .i64 g.log)]:=rfl
 simp only[hY]at OQ
 cases h:ep g l
 ·rw[h]at OQ
  simp[-List.length_flatMap,dW,OQ,bY,LI]
  done
 rw[h]at OQ
 rw[h,if_pos rfl]at kD
 rw[if_pos rfl]
 have h':=h
 simp only[ep,Bool.and_eq_true,decide_eq_true_eq]at h'
 have hs:=mU h'.1
 have xl:(aU g l).length=g.aE.toNat:=by simp[aU];omega
 have OS:(ct (aU g l)).length=g.aE.toNat:=by rw[ct,List.length_map,xl]
 have XJ:(cT (aU g l)).length≤24:=by
  have:∀(A:List (List UInt8)),(cT A.reverse).length≤A.length:=by
   intro A
   induction A with
   |nil=>simp[cT]
   |cons a A ih=>
    rw[List.reverse_cons,pY,List.length_append,List.length_cons]
    split<;>simp<;>omega
  have:=this (aU g l).reverse
  rw[List.reverse_reverse,List.length_reverse,xl]at this
  omega
 have OP:=IL (aU g l)
 generalize ct (aU g l)=L at*
 generalize cT (aU g l)=Bd at*
 obtain⟨n,hn⟩:∃n:Nat,g.aE=n:=⟨g.aE.toNat,by omega⟩
 have LH:L.length=n:=by rw[OS,hn];rfl
 have EJ:L≠[]:=by intro hh;rw[hh]at LH;simp at LH;omega
 rw[aA _ _ _ _ EJ]at kD
 have hL:=fun x hx=>(OP x hx).1
 have o5:=af (agD L (by omega) hL g.blocks)
 have anp:=yW (bu L) g.blocks (5*L.length) (by rw[ma];omega)
 unfold uB
 generalize kU (bu L) g.blocks (5*L.length)=BT at*
 have anq:=GI .nil (.inl rfl) 36 Bd
 have anr:=GJ .nil (.inl rfl) 46 BT
 have agE:=vj .nil 368 77 eP BT
 have ans:=xJ L
 rw[LI]at kD
 have K6:∀d,T.import d (.sl (.own 0 34) L.length (L.flatMap eI))= .sl (.own (8*d) 34) L.length (L.flatMap eI):=fun d=>by simp
 generalize hR:T.an [.agg [.sl (.own 0 84) (bf g l L special L.length).length ((bf g l L special L.length).flatMap eU)],.sl .any _ _]=R
 simp[-List.length_flatMap,-Int.natCast_add,dW,OQ,LI,kD,anq]
 rw[bH rfl]
 simp[-List.length_flatMap,-Int.natCast_add,ae,eV,hit,o5,anr,agE]
 rw[show T.bB (.func kA) [] [.ref 8 0,.ref 2 0]=qR from rfl]
 refine m_loop BT.length (BD0 g l L Bd special ah BT) ⟨_,_,_,_,_,_,_,_,_,_,_,_,_,_,_,_,_,_,_,_,_,_,_,_,_,_,_,_,_,_,_,none,[],456,.inl rfl,agB,.inl rfl,rfl⟩ ?_
 rintro i σ hi ⟨a0,a1,a3,a4,a5,a7,a12,cP,de,cJ,cX,a17,iC,iD,a20,a21,a25,a26,a27,a28,a29,a30,a31,a32,a33,a34,a35,Yf,a37,Yg,Yh,o,F,B,ho,gu,hB,rfl⟩
 have lD:F.length≤8:=by have:=gu.yV;omega
 have vV:(jx ah BT).length=BT.length:=by simp[jx]
 rw[LI]
 by_cases hlt:i< BT.length
 ·have bd:(i:Int)< BT.length:=by omega
  have IS:BT≠[]:=by intro hh;rw[hh]at hlt;simp at hlt
  have w5:IntKind.i64.wrap ((i:Int)+1)=((i+1:Nat):Int):=by rw[←Int.natCast_succ];exact au (by omega)
  have bq:=pS IT BT i hlt
  have dA:dR 2 (.sl (.own 368 77) BT.length (BT.flatMap eP)) (.v (.int .i64 (i:Int)))=some (.ptr (BT.flatMap eP) (i*2)):=by
   show(if 0≤(i:Int)∧(i:Int).toNat< BT.length then some (T.ptr (BT.flatMap eP) ((i:Int).toNat*2))else none)=_
   rw[if_pos (by omega),Int.toNat_natCast]
  have b9:Option.filter T.closed (some (T.agg (eP BT[i])))=some (T.agg (eP BT[i])):=bJ (by simp[eP])
  have hst:(jx ah BT).take (i+1)=(jx ah BT).take i++[⟨1,ah,BT[i].1,BT[i].2⟩]:=by
   rw[List.take_succ_eq_append_getElem (by omega)]
   simp[jx]
  generalize BT[i]=ps at*
  have OT:=gu.t1 ⟨1,ah,ps.1,ps.2⟩
  rw[←hst]at OT
  have gp:(gw 1 F).length≤10000:=by rw[gu.g1,List.length_take];omega
  have j7:=iS 57 B F.length 288 lD rfl (by unfold u6 at hB;omega)
  have u5:=iS 57 B F.length 289 lD rfl (by unfold u6 at hB;omega)
  have Gd:=iS 57 B F.length 368 lD rfl (by unfold u6 at hB;omega)
  have Yi:cr (eP ps) 0=some (.v (.int .i64 ps.1)):=rfl
  have hp1:cr (eP ps) 1=some (.v (.int .i64 ps.2)):=rfl
  have yo:rk (eP ps)=true:=rfl
  rw[aA _ _ _ _ IS]
  rcases ho with rfl|⟨p0,rfl⟩<;>simp[-List.length_flatMap,-Int.natCast_add,bd,hlt,dA,bq,b9,EG,tC,bY,Yi,hp1,yo,ON]
  all_goals
   refine IK 57 _ _ _ _ _ _ _ F B ah 1 ps.1 ps.2 ?_ ?_ ?_ ?_ ?_ ?_ ?_ gu.yV gp ?_
   ·rfl
   ·rfl
   ·rfl
   ·rfl
   ·rfl
   ·rfl
   ·rfl
   simp[-List.length_flatMap,-Int.natCast_add,xI,Hn,abQ,T.al,ai,j7,u5,Gd,w5]
   rw[←aA .nil 368 77 eP IS]
   exact⟨_,_,_,_,_,_,_,_,_,_,_,_,_,_,_,_,_,_,_,_,_,_,_,_,_,_,_,_,_,_,_,some (eP ps),_,456,.inr ⟨ps,rfl⟩,OT,.inl rfl,rfl⟩
 ·have uY:i=BT.length:=by omega
  subst uY
  rw[List.take_of_length_le (by omega)]at gu
  have ajV:=vj .nil 289 3 eN Bd
  rcases ho with rfl|⟨p0,rfl⟩<;>simp[-List.length_flatMap,-Int.natCast_add,EG,tC,X9,bY,ON,ajV]
  all_goals
   refine m_loop Bd.length (BD2 g l L Bd special ah BT) ⟨_,_,_,_,_,_,_,_,_,_,_,_,_,_,_,_,_,_,_,_,_,_,_,_,_,_,_,_,_,_,_,_,F,B,gu,hB,rfl⟩ ?_
   clear gu hB lD
   rintro i σ hi ⟨a0,a1,a3,a4,a5,a7,a9,a12,cP,de,cJ,cX,a17,iC,iD,a20,a21,mZ,a23,a24,a25,a29,a30,a31,a32,a33,a34,a35,Yf,a37,Yg,Yh,F,B,gu,hB,rfl⟩
   have lD:F.length≤8:=by have:=gu.yV;omega
   have oN:(gd ah Bd).length=Bd.length:=by simp[gd]
   rw[LI]
   by_cases hlt:i< Bd.length
   ·have bd:(i:Int)< Bd.length:=by omega
    have OU:Bd≠[]:=by intro hh;rw[hh]at hlt;simp at hlt
    have w5:IntKind.i64.wrap ((i:Int)+1)=((i+1:Nat):Int):=by rw[←Int.natCast_succ];exact au (by omega)
    have di:=EC Bd i hlt
    have b9:Option.filter T.closed (some (T.v (.int .i64 Bd[i])))=some (T.v (.int .i64 Bd[i])):=bJ rfl
    have hst:(gd ah Bd).take (i+1)=(gd ah Bd).take i++[⟨4,ah,Bd[i],-1⟩]:=by
     rw[List.take_succ_eq_append_getElem (by omega)]
     simp[gd]
    generalize Bd[i]=bi at*
    have OT:=gu.t4 ⟨4,ah,bi,-1⟩
    rw[←hst]at OT
    have Ye:(gw 4 F).length≤10000:=by rw[gu.g4,List.length_take];omega
    have j7:=iS 67 B F.length 288 lD rfl (by unfold u6 at hB;omega)
    have u5:=iS 67 B F.length 289 lD rfl (by unfold u6 at hB;omega)
    rw[aA _ _ _ _ OU]
    simp[-List.length_flatMap,-Int.natCast_add,bd,hlt,di,b9]
    refine IK 67 _ _ _ _ _ _ _ F B ah 4 bi (-1) ?_ ?_ ?_ ?_ ?_ ?_ ?_ gu.yV Ye ?_
    ·rfl
    ·rfl
    ·rfl
    ·rfl
    ·rfl
    ·rfl
    ·rfl
    simp[-List.length_flatMap,-Int.natCast_add,xI,T.al,ai,j7,u5,w5]
    rw[←aA .nil 289 3 eN OU]
    exact⟨_,_,_,_,_,_,_,_,_,_,_,_,_,_,_,_,_,_,_,_,_,_,_,_,_,_,_,_,_,_,_,_,_,536,OT,.inr (.inl rfl),rfl⟩
   ·have uY:i=Bd.length:=by omega
    subst uY
    rw[List.take_of_length_le (by omega)]at gu
    simp[-List.length_flatMap,-Int.natCast_add]
    refine Yc g l hl L (by omega) OP special ah (jx ah BT) (gd ah Bd) _ _ _ ⟨none,none,xG,xG,_,F,B,by simp[Fits,kT],gu,hB,rfl⟩ ?_
    subst hR
    exact fun σ' h=>abR g l L EJ special ah _ _ (by have:=EH g l L ah L.length;have:=Co g l L special ah L.length;simp only[jx,gd,List.length_map];omega) σ' h
end Go.Vi.Sz
end
section
set_option maxRecDepth 100000
set_option maxHeartbeats 4000000
namespace Go.Vi.Sz
open Go Go.Vi Go.Vi.Zz
def ow(b:List UInt8):Bool:=decide ((b.length:Int)≠64)
theorem aeu(b:List UInt8):Ev E je [sl eB b] (.v (.bool (ow b))):=by
 refine aC (fn:=sy) rfl (by decide) rfl rfl rfl ?_
 have:ow b=((b.length:Int) !=64):=by unfold ow;rw[Bool.eq_iff_iff];simp
 rw[this]
 simp[-List.length_flatMap,sy]
def FwI(l:List (List UInt8))(j:Nat)(σ:St):Prop:=(l.take j).any ow=false∧∃a b c d,σ=⟨[],[sl eS l,.v (.func (.func je) #[] #[]),a,b,.v (.int .i64 l.length),.v (.int .i64 j),c,d],[]⟩
theorem OV(l:List (List UInt8))(hn:l.length≤60):Ev E jL [sl eS l,.v (.func (.func je) #[] #[])] (.v (.bool (l.any ow))):=by
 obtain⟨i,hi,hix⟩:∃i:Int,decide (0≤i)=l.any ow∧Ev E lj [sl eS l,.v (.func (.func je) #[] #[])] (.v (.int .i64 i)):=by
  refine⟨match l.findIdx? ow with|some n=>(n:Int)|none=> -1, ?_, ?_⟩
  ·cases h:l.findIdx? ow with
   |none=>
    rw[List.findIdx?_eq_none_iff]at h
    have:l.any ow=false:=by rw[List.any_eq_false];intro x hx;rw[h x hx];simp
    rw[this];rfl
   |some n=>
    rw[List.findIdx?_eq_some_iff_getElem]at h
    obtain⟨h1,h2,_⟩:=h
    have:l.any ow=true:=List.any_eq_true.2 ⟨_,List.getElem_mem h1,h2⟩
    rw[this];simp
  ·refine aC (fn:=iW) rfl (by decide) rfl rfl rfl ?_
   simp[-List.length_flatMap,iW]
   refine m_loop l.length (FwI l) ⟨rfl,_,_,_,_,rfl⟩ ?_
   rintro j σ hj ⟨hno,a,b,c,d,rfl⟩
   by_cases hlt:j< l.length
   ·have bd:(j:Int)< l.length:=by omega
    have w4:IntKind.i64.wrap ((j:Int)+1)=((j+1:Nat):Int):=by rw[←Int.natCast_succ];exact au (by omega)
    have hg:=af (aeu l[j])
    have hst:l.take (j+1)=l.take j++[l[j]]:=by rw[List.take_succ_eq_append_getElem hlt]
    have fi:eC (.v (.func (.func je) #[] #[]))=some (je,[],[]):=rfl
    cases hs:ow l[j]
    ·rw[hs]at hg
     simp[-List.length_flatMap,-Int.natCast_add,hlt,bd,fi,hg,w4]
     exact⟨by rw[hst,List.any_append,hno];simp[hs],_,_,_,_,rfl⟩
    ·rw[hs]at hg
     have OW:l.findIdx? ow=some j:=by
      rw[List.findIdx?_eq_some_iff_getElem]
      refine⟨hlt,hs,fun i Ie=> ?_⟩
      rw[List.any_eq_false]at hno
      have:=hno l[i] (by rw[List.mem_iff_getElem];exact⟨i,by rw[List.length_take];omega,by rw[List.getElem_take]⟩)
      simpa using this
     rw[OW]
     simp[-List.length_flatMap,-Int.natCast_add,hlt,bd,fi,hg]
   ·have yR:j=l.length:=by omega
    subst yR
    rw[List.take_of_length_le (Nat.le_refl _)]at hno
    have OW:l.findIdx? ow=none:=by
     rw[List.findIdx?_eq_none_iff]
     rw[List.any_eq_false]at hno
     intro x hx
     simpa using hno x hx
    rw[OW]
    simp[-List.length_flatMap]
 refine aC (fn:=gB) rfl (by decide) rfl rfl rfl ?_
 have h:=af hix
 simp[-List.length_flatMap,gB,h,←hi]
def OX(l:List (List UInt8)):Bool:=decide (l.length≤60)&& !l.any ow
theorem agF(l:List (List UInt8)):Ev E zR [sl eS l] (.v (.bool (OX l))):=by
 refine aC (fn:=rG) rfl (by decide) rfl rfl rfl ?_
 unfold OX
 by_cases h:l.length≤60
 ·have hc:=af (OV l h)
  have hI:(l.length:Int)≤60:=by omega
  simp[-List.length_flatMap,rG,h,hI,hc]
 ·have hI:¬(l.length:Int)≤60:=by omega
  simp[-List.length_flatMap,rG,h,hI]
theorem Yj{l:List (List UInt8)}(h:OX l=true):l.length≤60∧∀b∈l,b.length=64:=by
 unfold OX at h
 simp[ow]at h
 exact⟨h.1,fun b hb=>by have:=h.2 b hb;omega⟩
theorem Q8(n:Nd)(h1:n.data.length≤12800)(h2:n.An.length≤1000000):Ev E sT [.agg (eU n),.agg (eU n)] (.v (.bool true)):=by
 refine aC (fn:=nW) rfl (by decide) rfl rfl rfl ?_
 have hs:=af (Bs n.data n.data h1)
 rw[decide_eq_true rfl]at hs
 have he:=af (XU n.An h2)
 simp[-List.length_flatMap,nW,eU,nF]
 rw[hs]
 simp[-List.length_flatMap,he]
theorem LN(N:List Nd)(hn:N.length≤10000)(h1:∀n∈N,n.data.length≤12800)(h2:∀n∈N,n.An.length≤1000000):Ev E lh [.agg [.sl .any N.length (N.flatMap eU)],.agg [.sl .any N.length (N.flatMap eU)]] (.v (.bool true)):=by
 refine aC (fn:=pD) rfl (by decide) rfl rfl rfl ?_
 simp[-List.length_flatMap,pD]
 refine m_loop N.length (fun j σ=>∃vs,Fits 9 0 [(2,.ref 0 0),(3,.ref 2 0),(5,.v (.int .i64 j))] vs∧σ=⟨[],vs,[some [.sl .any N.length (N.flatMap eU)],none,some [.sl .any N.length (N.flatMap eU)],none]⟩) ⟨_,by simp[Fits],rfl⟩ ?_
 rintro j σ hj ⟨vs,hv,rfl⟩
 obtain⟨a,rfl⟩:=nQ hv
 by_cases hlt:j< N.length
 ·have bd:(j:Int)< N.length:=by omega
  have w4:IntKind.i64.wrap ((j:Int)+1)=((j+1:Nat):Int):=by rw[←Int.natCast_succ];exact au (by omega)
  have dA:=wq eU 13 N j hlt
  have bq:=pS Sw N j hlt
  have b9:Option.filter T.closed (some (T.agg (eU N[j])))=some (T.agg (eU N[j])):=bJ (by simp)
  have hs:=af (Q8 N[j] (h1 _ (List.getElem_mem hlt)) (h2 _ (List.getElem_mem hlt)))
  generalize N[j]=n at*
  have hc:∀bx k,(eU n).mapM (close bx (k+1))=some (eU n):=fun bx k=>by simp[eU,nF]
  have hr:bc (eU n)=false:=by simp[eU,nF]
  have hst:∀d,stripL d (eU n)=eU n:=fun d=>by simp[eU,nF]
  simp[-List.length_flatMap,-Int.natCast_add,pt,bd,hlt,dA,bq,b9,hs,hc,hr,hst,w4]
  simp[Fits]
 ·have:j=N.length:=by omega
  subst this
  simp[-List.length_flatMap,pt]
end Go.Vi.Sz
end
section
set_option maxRecDepth 100000
set_option maxHeartbeats 8000000
namespace Go.Vi.Sz
open Go Go.Vi Go.Vi.Zz
theorem Yk{α:Type}(bx j)(z:Tag)(k e)(enc:α→List T)(A:List α):close bx (j+1) (aB z k e enc A)=some (sl enc A):=by
 unfold aB
 split
 ·rename_i h;subst h;simp[close,sl]
 ·simp[close,sl]
theorem UN{α:Type}(z k e)(enc:α→List T)(A:List α):(aB z k e enc A).aV=false:=by
 unfold aB;split<;>simp
theorem UO{α:Type}(z:Tag)(hz:z= .nil∨z= .clip)(d k e)(hk:k< 8)(enc:α→List T)(A:List α):(aB z k e enc A).import d=aB z (8*d+k) e enc A:=by
 unfold aB
 split
 ·rcases hz with rfl|rfl<;>simp
 ·simp[T.import,hk]
theorem Q9(bx j)(o:Option (List UInt8)):close bx (j+1) (bZ o)=some (sl eB (o.getD [])):=by
 cases o<;>simp[bZ,close,sl]
theorem abS(g l)(h:ep g l=true):(ct (aU g l)).length=g.aE.toNat∧4≤g.aE∧g.aE≤24:=by
 simp only[ep,Bool.and_eq_true,decide_eq_true_eq]at h
 have hs:=mU h.1
 have xl:(aU g l).length=g.aE.toNat:=by simp[aU];omega
 exact⟨by rw[ct,List.length_map,xl],hs.2.1.1,hs.2.1.2⟩
theorem abT(S:List (List UInt8)):(cT S).length≤S.length:=by
 have:∀(A:List (List UInt8)),(cT A.reverse).length≤A.length:=by
  intro A
  induction A with
  |nil=>simp[cT]
  |cons a A ih=>
   rw[List.reverse_cons,pY,List.length_append,List.length_cons]
   split<;>simp<;>omega
 have:=this S.reverse
 rwa [List.reverse_reverse,List.length_reverse]at this
theorem Yl{g l L ino}(hl:∀b∈l,b.length=64):((dN g l L ino).getD []).length≤256:=by
 unfold dN
 split
 ·rw[Option.getD_some,List.length_take,Ct hl];omega
 ·simp
theorem Ym(g l)(hl:∀b∈l,b.length=64)(L special n):∀x∈bf g l L special n,x.data.length≤12800∧x.An.length≤1000000:=by
 intro x hx
 unfold bf at hx
 rw[List.mem_map]at hx
 obtain⟨I,_,rfl⟩:=hx
 unfold mJ
 split
 ·simp
 ·have h1:=@Yl g l L ((I+1:Nat):Int) hl
  have h2:=(pV g l L ((I+1:Nat):Int) special 16).1
  refine⟨by simp only;omega, ?_⟩
  simp only
  split
  ·omega
  ·simp
theorem Yn(g l L special ah Bd)(hL:L.length≤24)(hB:Bd.length≤24):(uB g l L special ah Bd).length≤1000000:=by
 unfold uB
 have h1:=yW (bu L) g.blocks (5*L.length) (by rw[ma];omega)
 have h2:=EH g l L ah L.length
 have h3:=Co g l L special ah L.length
 simp only[List.length_append,jx,gd,List.length_map]
 omega
theorem J0(LO:Ev E fT [] (.v (.bool true)))(g:cA)(l:List (List UInt8))(special ah ino:Int):
  Ev E uS [.agg (eG g),sl eS l,.v (.int .i64 special),.v (.int .i64 ah),.v (.int .i64 ino)] (.v (.bool true)):=by
 refine aC (fn:=gG) rfl (by decide) rfl rfl rfl ?_
 have LO:=af LO
 have OY:=af (agF l)
 cases hf:OX l
 ·rw[hf]at OY
  simp[-List.length_flatMap,gG,OY,LO]
 rw[hf]at OY
 obtain⟨aqw,hl⟩:=Yj hf
 have kD:=af (LM g l hl)
 have OZ:=af (IU g l hl)
 have GH:=af (UM g l hl special ah)
 have IV:=af (UP g l hl special ah)
 have LI:eG g=[.v (.int .i64 g.lowers),.v (.int .i64 g.aE),.v (.int .i64 g.blocks),.v (.int .i64 g.log)]:=rfl
 cases hr:ep g l
 ·rw[hr,if_neg (by decide)]at kD OZ GH IV
  have R4:∀L,dN g l L ino=none:=fun L=>by unfold dN;rw[if_neg (by rw[hr];simp)]
  have IP:=af (XQ [] (by simp))
  have oO:=af (XR [] (by simp))
  have Yo:=af (O0 g l hl [] (by simp) (by simp) ino)
  have O1:=af (Hp g l hl [] (by simp) ino)
  have IW:=af (Cu [])
  have hsa:=af (LN [] (by simp) (by simp) (by simp))
  have Yp:=af (XS [] (by simp))
  rw[R4]at Yo O1
  simp only[sl,List.flatMap_nil,List.length_nil]at IP oO IW hsa Yp
  simp only[bZ,List.flatMap_nil,List.length_nil]at Yo O1
  simp only[bY]at GH IV
  simp[-List.length_flatMap,gG,OY,kD,OZ,IP,oO,Yo,O1,IW,GH,IV,hsa,Yp,LO]
 ·rw[hr,if_pos rfl]at kD OZ GH IV
  obtain⟨OS,gp,ui⟩:=abS g l hr
  have OP:=IL (aU g l)
  have XJ:(cT (aU g l)).length≤24:=by have:=abT (aU g l);rw[ct,List.length_map]at OS;omega
  have LH:(ct (aU g l)).length≤24:=by omega
  have IP:=af (XQ (ct (aU g l)) (by omega))
  have oO:=af (XR (cT (aU g l)) (by omega))
  have Yo:=af (O0 g l hl (ct (aU g l)) (by omega) (fun x hx=>(OP x hx).1) ino)
  have O1:=af (Hp g l hl (ct (aU g l)) (by omega) ino)
  have IW:=af (Cu ((dN g l (ct (aU g l)) ino).getD []))
  have di:∀n∈bf g l (ct (aU g l)) special (ct (aU g l)).length,n.data.length≤12800∧n.An.length≤1000000:=fun n hn=>Ym g l hl _ special _ n hn
  have Ba:=Yn g l (ct (aU g l)) special ah (cT (aU g l)) LH XJ
  have hsa:=af (LN (bf g l (ct (aU g l)) special (ct (aU g l)).length) (by simp[bf];omega) (fun n hn=>(di n hn).1) (fun n hn=>(di n hn).2))
  have Yp:=af (XS (uB g l (ct (aU g l)) special ah (cT (aU g l))) Ba)
  generalize bf g l (ct (aU g l)) special (ct (aU g l)).length=N at*
  generalize uB g l (ct (aU g l)) special ah (cT (aU g l))=FF at*
  generalize dN g l (ct (aU g l)) ino=dO at*
  generalize ct (aU g l)=L at*
  generalize cT (aU g l)=Bd at*
  have EJ:L≠[]:=by intro hh;rw[hh]at OS;simp at OS;omega
  rw[aA _ _ _ _ EJ]at kD OZ
  have vW:∀d,T.strip d (bZ dO)=bZ dO:=fun d=>by cases dO<;>simp[bZ]
  have pQ:(bZ dO).aV=false:=by cases dO<;>simp[bZ]
  have hsI:∀g,(T.sl g L.length (L.flatMap eI)).cH=sl eI L:=fun _=>by simp[sl]
  have heq:sl eI L= .sl .any L.length (L.flatMap eI):=rfl
  rw[heq]at IP
  have ant:sl eF FF= .sl .any FF.length (FF.flatMap eF):=rfl
  rw[ant]at Yp
  have hdi:∀d,T.import d (bZ dO)=bZ dO:=fun d=>by cases dO<;>simp[bZ]
  simp[-List.length_flatMap,gG,OY,kD,OZ,UO,Yk,UN,IP,oO,Yo,O1,IW,hdi,Q9,vW,pQ,hit,eV,GH,IV,hsa,Yp,LO,J1]
end Go.Vi.Sz
end
