/-
  A claim's own text, joined by a small program out of: H31, H32, H33, H34, H40, H35, H36, H37, H38.
-/
import Derived.Test.YtodollbkpkpklaaGreatY7
import Derived.Test.YtodollbkpkpklaaGreatY19
set_option linter.unusedVariables false
set_option linter.unusedSimpArgs false
section
set_option maxRecDepth 100000
namespace Go.Vi.Sz
open Go Go.Vi Go.Vi.Zz
def jo(L:List aO)(special:Int)(st:EW)(e:bQ):EW:=if tj L special e st.1=true then(st.1++[e],st.2)else(st.1,st.2++[e.slot])
def UR(L:List aO)(special:Int)(b:List UInt8)(k:Nat)(st:EW):EW:=(cR b k 4).foldl (jo L special) (st.1,st.2++nr b k 4)
def o6(g:bt)(l:List (List UInt8))(L:List aO)(ino special:Int):Nat→EW
 |0=>([],[])
 |k+1=>match cQ g l L ino (k:Int)with
  |none=>o6 g l L ino special k
  |some b=>UR L special b k (o6 g l L ino special k)
def rG(g:bt)(l:List (List UInt8))(L:List aO)(ino:Int):Nat→Bool
 |0=>false
 |k+1=>rG g l L ino k||(cQ g l L ino (k:Int)).isSome
theorem SG{g l L ino b}(special:Int)(k:Nat)(h:cQ g l L ino (k:Int)=some b)(V X:List Int)(hV:V.Perm ((aG g l L ino special (4*k)).2++X)):
  ∀j,j≤4→((cR b k j).foldl (jo L special) ((aG g l L ino special (4*k)).1,V)).1=(aG g l L ino special (4*k+j)).1∧
   (((cR b k j).foldl (jo L special) ((aG g l L ino special (4*k)).1,V)).2++nr b k j).Perm ((aG g l L ino special (4*k+j)).2++X)
 |0,_=>by
  refine⟨rfl, ?_⟩
  simpa [cR,nr]using hV
 |j+1,hj=>by
  obtain⟨h1,h2⟩:=SG special k h V X hV j (by omega)
  rw[I8 special k j (by omega) h,Ac,E5,List.foldl_append]
  generalize (cR b k j).foldl (jo L special) ((aG g l L ino special (4*k)).1,V)=res at*
  have tw:=fun e=>(HF:nR (mf b j) ((4*k+j:Nat):Int)=some (some e)→_)
  generalize nR (mf b j) ((4*k+j:Nat):Int)=o at*
  generalize aG g l L ino special (4*k+j)=st at*
  obtain⟨A,B⟩:=st
  obtain⟨A',W⟩:=res
  simp only at h1 h2
  subst h1
  have hc:=fun a=>List.perm_iff_count.1 h2 a
  simp only[List.count_append]at hc
  rcases o with _|_|e
  ·refine⟨rfl,List.perm_iff_count.2 fun a=> ?_⟩
   have:=hc a
   simp only[mZ,List.count_append,Option.getD_none,Option.toList_none,List.foldl_nil,Option.isSome_none,Bool.false_eq_true,if_false]at this⊢
   omega
  ·refine⟨rfl, ?_⟩
   simpa [mZ]using h2
  ·have hs:=(tw e rfl).2
   simp only[mZ,Option.getD_some,Option.toList_some,List.foldl_cons,List.foldl_nil,jo,Option.isSome_some,if_true,List.append_nil]
   split
   ·exact⟨rfl,h2⟩
   ·refine⟨rfl,List.perm_iff_count.2 fun a=> ?_⟩
    have:=hc a
    rw[hs]
    simp only[List.count_append]at this⊢
    omega
theorem F1(g l L ino special):∀k,(o6 g l L ino special k).1=(aG g l L ino special (4*k)).1∧(o6 g l L ino special k).2.Perm (aG g l L ino special (4*k)).2
 |0=>⟨rfl,.refl _⟩
 |k+1=>by
  obtain⟨h1,h2⟩:=F1 g l L ino special k
  unfold o6
  cases h:cQ g l L ino (k:Int)with
  |none=>
   rw[CQ special k h]
   exact⟨h1,h2⟩
  |some b=>
   simp only[UR]
   have:=SG special k h ((o6 g l L ino special k).2++nr b k 4) (nr b k 4) (h2.append_right _) 4 (Nat.le_refl _)
   rw[←h1]at this
   exact⟨this.1,(List.perm_append_right_iff _).1 this.2⟩
theorem I9(g l L ino special):∀n,(aG g l L ino special n).2.Pairwise (· ≤·)∧∀z∈(aG g l L ino special n).2,z< (n:Int)
 |0=>by simp[aG]
 |n+1=>by
  obtain⟨h1,h2⟩:=I9 g l L ino special n
  have h3:∀z∈(aG g l L ino special n).2,z< ((n+1:Nat):Int):=fun z hz=>by have:=h2 z hz;omega
  have h4:((aG g l L ino special n).2++[(n:Int)]).Pairwise (· ≤·)∧∀z∈(aG g l L ino special n).2++[(n:Int)],z< ((n+1:Nat):Int):=by
   refine⟨List.pairwise_append.2 ⟨h1,by simp,fun a ha b hb=> ?_⟩,fun z hz=> ?_⟩
   ·simp only[List.mem_singleton]at hb
    subst hb
    have:=h2 a ha
    omega
   ·rcases List.mem_append.1 hz with hz|hz
    ·exact h3 z hz
    ·simp only[List.mem_singleton]at hz
     omega
  unfold aG
  split
  ·exact⟨h1,h3⟩
  ·rename_i o _
   unfold mZ
   split
   ·exact h4
   ·exact⟨h1,h3⟩
   ·split
    ·exact⟨h1,h3⟩
    ·exact h4
theorem US(g l L ino special):(o6 g l L ino special 4).1=(aG g l L ino special 16).1∧l8 (o6 g l L ino special 4).2=(aG g l L ino special 16).2:=
 ⟨(F1 g l L ino special 4).1,OE (F1 g l L ino special 4).2 (I9 g l L ino special 16).1⟩
theorem SH(g l L ino special k):(o6 g l L ino special k).1.length≤4*k∧(o6 g l L ino special k).2.length≤4*k:=by
 obtain⟨h1,h2⟩:=F1 g l L ino special k
 have:=qD g l L ino special (4*k)
 rw[h1,h2.length_eq]
 exact this
theorem L0(L special):∀(es:List bQ) (st:EW),(es.foldl (jo L special) st).1.length≤st.1.length+es.length∧(es.foldl (jo L special) st).2.length≤st.2.length+es.length
 | [],st=>by simp
 |e::es,st=>by
  have:=L0 L special es (jo L special st e)
  have h2:(jo L special st e).1.length≤st.1.length+1∧(jo L special st e).2.length≤st.2.length+1:=by unfold jo;split<;>simp
  simp only[List.foldl_cons,List.length_cons]
  omega
end Go.Vi.Sz
end
section
set_option maxRecDepth 100000
set_option maxHeartbeats 8000000
namespace Go.Vi.Sz
open Go Go.Vi Go.Vi.Zz
theorem O0(b k):∀n,∀e∈cR b k n,tB e=true
 |0,e,h=>by simp[cR]at h
 |n+1,e,h=>by
  rw[Ac,List.mem_append]at h
  rcases h with h|h
  ·exact O0 b k n e h
  ·cases ho:nR (mf b n) ((4*k+n:Nat):Int)with
   |none=>rw[ho]at h;simp at h
   |some o=>
    rw[ho]at h
    cases o with
    |none=>simp at h
    |some e'=>
     simp at h
     subst h
     exact(HF ho).1
theorem Ad(z:Tag)(hz:z= .nil∨z= .clip)(k ρ)(A:List bQ):(aD z k 105 eE A).aj ρ some=aD z k 105 eE A:=by
 rcases hz with rfl|rfl<;>unfold aD<;>split<;>simp[T.aj]
theorem tU(z:Tag)(hz:z= .nil∨z= .clip)(k d)(A:List bQ)(h:hit d k=false):(aD z k 105 eE A).strip d=aD z k 105 eE A:=by
 rcases hz with rfl|rfl<;>unfold aD<;>split<;>simp[-List.length_flatMap,h]
theorem Rp(z:Tag)(hz:z= .nil∨z= .clip)(d)(A:List bQ):(aD z 0 105 eE A).import d=aD z (8*d) 105 eE A:=by
 rcases hz with rfl|rfl<;>unfold aD<;>split<;>simp
theorem O1(d k)(hk:k< 2)(A:List Int):(aD .nil k 3 eN A).import d=aD .nil (8*d+k) 3 eN A:=by
 have:k=0∨k=1:=by omega
 rcases this with rfl|rfl<;>unfold aD<;>split<;>first|rfl|simp
section
variable{E:Env}{k:List Fr}{Q:Out→Prop}{outs:List (Option Nat)}{rest:nQ}(rs vars:List T)(bx:List (Option (List T)))
theorem SI(s e sz bytes:Nat)(zero:List T)(kind:Nat)(a b:ag)(m:Nat)(ys:List T)(ha:a.get ⟨rs,vars,bx⟩= .sl .nil 0 [])(hs:iP bx kind sz zero (b.get ⟨rs,vars,bx⟩)=some (m,ys))(ho:bx[s]? =some none)
  (h:ys.length=m*sz∧m*bytes≤room∧m≤room∧dJ (b.get ⟨rs,vars,bx⟩) ys=true∧s%2=0):
  O E ((none,.appendB s e sz bytes zero kind a b)::rest) outs k ⟨rs,vars,bx⟩ Q=P1 E (some (.au s 0 m (m*sz),⟨rs,vars,bx.set s (some ys)⟩)) rest outs k Q:=by
 have hr:ae C0 ⟨rs,vars,bx⟩ (.appendB s e sz bytes zero kind a b)=some (.au s 0 m (m*sz),⟨rs,vars,bx.set s (some ys)⟩):=by
  simp only[ae,ha,hs,ho]
  rw[if_pos ⟨trivial,h⟩]
 rw[bE rfl,hr]
end
theorem aeR(bx zero z k)(B:List Int):iP bx 0 1 zero (aD z k 3 eN B)=some (B.length,B.flatMap eN):=by
 unfold aD
 split
 ·rename_i h;subst h;rfl
 ·rfl
theorem ab2(z k)(B:List Int)(ys:List T)(h:bj ys=true):dJ (aD z k 3 eN B) ys=true:=by
 unfold aD;split<;>simp[dJ]
def WB(f:Bool)(W:List Int)(x:T)(b4 b6:Option (List T)):Prop:=
 (f=false∧W=[]∧x= .sl .nil 0 []∧b4=none∧b6=none)∨(f=true∧x= .au 4 0 W.length W.length∧b4=some (W.flatMap eN)∧b6=none)∨(f=true∧x= .au 6 0 W.length W.length∧b4=none∧b6=some (W.flatMap eN))
def brT(f:Bool)(w:EW):T:= .al [aD .nil 0 105 eE w.1,if f then .sl (.own (if w.1=[]then 0 else 1) 3) w.2.length (w.2.flatMap eN)else .sl .nil 0 []]
def BrO(g:bt)(l:List (List UInt8))(L:List aO)(ino special:Int)(k:Nat)(σ:St):Prop:=∃a0 a4 a5 a8 a9 db fu a12 cS cK cX a17 iK iL a20 a21 o x b4 b6,(o=none∨∃e,o=some (eE e))∧WB (rG g l L ino k) (o6 g l L ino special k).2 x b4 b6∧
 σ=⟨[],[a0,.v (.int .i64 ino),.v (.int .i64 special),.ref 0 0,a4,a5,aD .nil 416 105 eE (o6 g l L ino special k).1,x,a8,a9,db,fu,a12,cS,.v (.int .i64 k),cK,cX,a17,iK,iL,a20,a21],
  [some (iR g (sl eS l) (.sl .any L.length (L.flatMap eI))),none,o,none,b4,none,b6,none,none,none]⟩
def XZ(g:bt)(l:List (List UInt8))(L:List aO)(ino special:Int)(k:Nat)(P:List bQ)(st0:EW)(j:Nat)(σ:St):Prop:=∃a0 a4 a5 a8 a9 db fu a12 cS cK cX a20 a21 o x b4 b6,(o=none∨∃e,o=some (eE e))∧WB true ((P.take j).foldl (jo L special) st0).2 x b4 b6∧
 σ=⟨[],[a0,.v (.int .i64 ino),.v (.int .i64 special),.ref 0 0,a4,a5,aD .nil 416 105 eE ((P.take j).foldl (jo L special) st0).1,x,a8,a9,db,fu,a12,cS,.v (.int .i64 k),cK,cX,aD .nil 256 105 eE P,.v (.int .i64 P.length),.v (.int .i64 j),a20,a21],
  [some (iR g (sl eS l) (.sl .any L.length (L.flatMap eI))),none,o,none,b4,none,b6,none,none,none]⟩
theorem nu(ρ η)(e:bQ):ah ρ η (eE e)=eE e:=by simp[eE,T.aj,ah]
theorem X0(g:Tag)(L:List bQ)(n:Nat)(h:n< L.length):dY 3 (.sl g L.length (L.flatMap eE)) (.v (.int .i64 (n:Int)))=some (.ptr (L.flatMap eE) (n*3)):=by
 show(if 0≤(n:Int)∧(n:Int).toNat< L.length then some (T.ptr (L.flatMap eE) ((n:Int).toNat*3))else none)=_
 rw[if_pos (by omega),Int.toNat_natCast]
theorem X5(zs:List Int):CH (zs.flatMap eN)=some zs:=by
 induction zs with
 |nil=>rfl
 |cons z zs ih=>
  have:(z::zs).flatMap eN= .v (.int .i64 z)::zs.flatMap eN:=rfl
  rw[this,CH,ih];rfl
theorem ag4(zs:List Int):zs.map int64=zs.flatMap eN:=by
 induction zs with
 |nil=>rfl
 |cons z zs ih=>rw[List.map_cons,ih];rfl
theorem L1:kF (an+gE)=some IP:=by
 unfold kF
 rw[if_neg (by decide),if_neg (by decide),if_neg (by decide),if_pos rfl]
theorem ab3:dI E (an+gE) [.al [.sl .nil 0 []],.al []]=some (.al [.al [],.al []]):=by
 refine af ⟨1, ?_⟩
 simp only[aV,E,L1]
 rfl
theorem ab4(W:List Int)(h:W.length≤1000):dI E (an+gE) [.al [.au 0 0 W.length W.length],.al [.agg (W.flatMap eN),.undef]]=some (.al [.al [],.al [.agg ((l8 W).flatMap eN),.undef]]):=by
 refine af ⟨1, ?_⟩
 simp only[aV,E,L1,IP,X5,Option.bind_some]
 rw[if_pos ⟨ph W,trivial,by omega⟩,ag4]
theorem L2(l:List Int):dZ (l.flatMap eN)=[]:=by
 induction l with
 |nil=>simp
 |cons c l ih=>simp[eN,ih]
theorem L3(l:List Int):gX (l.flatMap eN)=[]:=by
 induction l with
 |nil=>simp
 |cons c l ih=>simp[eN,ih]
theorem CS(k ρ d)(A:List bQ)(h:hit (2*d) k=false):(aD .nil k 105 eE A).aj ρ (gu d [])=aD .nil k 105 eE A:=by
 unfold aD;split<;>simp[T.aj,gu,h]
theorem UT(g:bt)(l:List (List UInt8))(hl:∀b∈l,b.length=64)(L:List aO)(hn:L.length≤10000)(hL:∀x∈L,zp x)(ino special:Int):
  Ev E gv [.agg (iR g (sl eS l) (.sl .any L.length (L.flatMap eI))),.v (.int .i64 ino),.v (.int .i64 special)] (brT (rG g l L ino 4) (aG g l L ino special 16)):=by
 refine aB (fn:=gx) rfl (by decide) rfl rfl rfl ?_
 have jw:=fun k=>af (HG g l L hn hL ino k)
 have X6:=fun(e:bQ) (he:0< e.ino∧e.ino≤65535) (out:List bQ) (ho:out.length≤10000)=>af (aeS g (sl eS l) l.length (l.flatMap eS) rfl (UU l) L hn special e ⟨by omega,he.2⟩ out ho)
 have HH:iR g (sl eS l) (.sl .any L.length (L.flatMap eI))=[.v (.int .i64 g.lowers),.v (.int .i64 g.aw),.v (.int .i64 g.blocks),.v (.int .i64 g.log),sl eS l,.sl .any L.length (L.flatMap eI)]:=rfl
 simp[-List.length_flatMap,gx,HH]
 rw[bE rfl]
 simp[-List.length_flatMap,ae]
 refine abW _ ?_
 simp[-List.length_flatMap]
 refine m_loop 4 (BrO g l L ino special) ⟨_,_,_,_,_,_,_,_,_,_,_,_,_,_,_,_,_,_,_,_,.inl rfl,.inl ⟨rfl,rfl,rfl,rfl,rfl⟩,rfl⟩ ?_
 rintro k σ hk ⟨a0,a4,a5,a8,a9,db,fu,a12,cS,cK,cX,a17,iK,iL,a20,a21,o,x,b4,b6,ho,hW,rfl⟩
 by_cases hlt:k< 4
 ·have hkI:(k:Int)< 4:=by omega
  have w4:IntKind.i64.wrap ((k:Int)+1)=((k+1:Nat):Int):=by rw[←Int.natCast_succ];exact aq (by omega)
  have hb:=jw (k:Int)
  rw[HH]at hb⊢
  cases oc:cQ g l L ino (k:Int)with
  |none=>
   rw[oc]at hb
   simp only[iM]at hb
   have x8:o6 g l L ino special (k+1)=o6 g l L ino special k:=by rw[o6,oc]
   have ag5:rG g l L ino (k+1)=rG g l L ino k:=by rw[rG,oc];simp
   rw[←x8]at hW⊢
   rw[←ag5]at hW
   have aH:∀a0 a4 a5 a8 a9 db fu a12 cS cK cX a17 iK iL a20 a21 o x b4 b6,(o=none∨∃e,o=some (eE e))→WB (rG g l L ino (k+1)) (o6 g l L ino special (k+1)).2 x b4 b6→BrO g l L ino special (k+1) ⟨[],[a0,.v (.int .i64 ino),.v (.int .i64 special),.ref 0 0,a4,a5,aD .nil 416 105 eE (o6 g l L ino special (k+1)).1,x,a8,a9,db,fu,a12,cS,.v (.int .i64 ((k+1:Nat):Int)),cK,cX,a17,iK,iL,a20,a21],[some [.v (.int .i64 g.lowers),.v (.int .i64 g.aw),.v (.int .i64 g.blocks),.v (.int .i64 g.log),sl eS l,.sl .any L.length (L.flatMap eI)],none,o,none,b4,none,b6,none,none,none]⟩:=
    fun a0 a4 a5 a8 a9 db fu a12 cS cK cX a17 iK iL a20 a21 o x b4 b6 ho hW=>⟨a0,a4,a5,a8,a9,db,fu,a12,cS,cK,cX,a17,iK,iL,a20,a21,o,x,b4,b6,ho,hW,rfl⟩
   generalize (o6 g l L ino special (k+1)).2=W at*
   generalize rG g l L ino (k+1)=f at*
   rcases hW with⟨hf,O2,rfl,rfl,rfl⟩|⟨hf,rfl,rfl,rfl⟩|⟨hf,rfl,rfl,rfl⟩<;>rcases ho with rfl|⟨e,rfl⟩<;>simp[-List.length_flatMap,-Int.natCast_add,hkI,hlt,hb,w4,tU,hit,T.fresh,T.fresh1,T.fresh2,gg]
   all_goals first
    |exact aH _ _ _ _ _ _ _ _ _ _ _ _ _ _ _ _ _ _ _ _ (.inl rfl) (.inl ⟨hf,O2,rfl,rfl,rfl⟩)
    |exact aH _ _ _ _ _ _ _ _ _ _ _ _ _ _ _ _ _ _ _ _ (.inr ⟨_,rfl⟩) (.inl ⟨hf,O2,rfl,rfl,rfl⟩)
    |exact aH _ _ _ _ _ _ _ _ _ _ _ _ _ _ _ _ _ _ _ _ (.inl rfl) (.inr (.inl ⟨hf,rfl,rfl,rfl⟩))
    |exact aH _ _ _ _ _ _ _ _ _ _ _ _ _ _ _ _ _ _ _ _ (.inr ⟨_,rfl⟩) (.inr (.inl ⟨hf,rfl,rfl,rfl⟩))
    |exact aH _ _ _ _ _ _ _ _ _ _ _ _ _ _ _ _ _ _ _ _ (.inl rfl) (.inr (.inr ⟨hf,rfl,rfl,rfl⟩))
    |exact aH _ _ _ _ _ _ _ _ _ _ _ _ _ _ _ _ _ _ _ _ (.inr ⟨_,rfl⟩) (.inr (.inr ⟨hf,rfl,rfl,rfl⟩))
  |some b=>
   rw[oc]at hb
   simp only[iM]at hb
   have fS:=tV hl oc
   have OD:=af (ab5 b fS k hlt)
   have UW:o6 g l L ino special (k+1)=UR L special b k (o6 g l L ino special k):=by rw[o6,oc]
   have Ja:rG g l L ino (k+1)=true:=by rw[rG,oc];simp
   have zq:=SH g l L ino special k
   have X7:=HI b k 4
   have hPl:=HJ b k 4
   have tw:=O0 b k 4
   unfold UR at UW
   have NI:=Rp .nil (.inl rfl) 32 (cR b k 4)
   have Wi:=O1 32 (if cR b k 4=[]then 0 else 1) (by split<;>omega) (nr b k 4)
   have pW:(8*32+if cR b k 4=[]then 0 else 1)=256∨(8*32+if cR b k 4=[]then 0 else 1)=257:=by split<;>omega
   rw[ab6]at OD
   generalize (8*32+if cR b k 4=[]then 0 else 1)=kk at*
   have hsB:=fun bx zero=>aeR bx zero .nil kk (nr b k 4)
   have hcB:=ab2 .nil kk (nr b k 4) ((nr b k 4).flatMap eN) (oL _)
   have O3:=ph (nr b k 4)
   have aH:∀a0 a4 a5 a8 a9 db fu a12 cS cK cX a17 iK iL a20 a21 o x b4 b6,(o=none∨∃e,o=some (eE e))→WB (rG g l L ino (k+1)) (o6 g l L ino special (k+1)).2 x b4 b6→BrO g l L ino special (k+1) ⟨[],[a0,.v (.int .i64 ino),.v (.int .i64 special),.ref 0 0,a4,a5,aD .nil 416 105 eE (o6 g l L ino special (k+1)).1,x,a8,a9,db,fu,a12,cS,.v (.int .i64 ((k+1:Nat):Int)),cK,cX,a17,iK,iL,a20,a21],[some [.v (.int .i64 g.lowers),.v (.int .i64 g.aw),.v (.int .i64 g.blocks),.v (.int .i64 g.log),sl eS l,.sl .any L.length (L.flatMap eI)],none,o,none,b4,none,b6,none,none,none]⟩:=
    fun a0 a4 a5 a8 a9 db fu a12 cS cK cX a17 iK iL a20 a21 o x b4 b6 ho hW=>⟨a0,a4,a5,a8,a9,db,fu,a12,cS,cK,cX,a17,iK,iL,a20,a21,o,x,b4,b6,ho,hW,rfl⟩
   generalize nr b k 4=B at*
   generalize hst:o6 g l L ino special k=st at*
   obtain⟨A,W⟩:=st
   simp only at zq UW hW⊢
   have UX:∀a0 a4 a5 a8 a9 db fu a12 cS cK cX a20 a21 o x b4 b6,(o=none∨∃e,o=some (eE e))→WB true (W++B) x b4 b6→XZ g l L ino special k (cR b k 4) (A,W++B) 0 ⟨[],[a0,.v (.int .i64 ino),.v (.int .i64 special),.ref 0 0,a4,a5,aD .nil 416 105 eE A,x,a8,a9,db,fu,a12,cS,.v (.int .i64 k),cK,cX,aD .nil 256 105 eE (cR b k 4),.v (.int .i64 (cR b k 4).length),.v (.int .i64 0),a20,a21],
     [some [.v (.int .i64 g.lowers),.v (.int .i64 g.aw),.v (.int .i64 g.blocks),.v (.int .i64 g.log),sl eS l,.sl .any L.length (L.flatMap eI)],none,o,none,b4,none,b6,none,none,none]⟩:=
    fun a0 a4 a5 a8 a9 db fu a12 cS cK cX a20 a21 o x b4 b6 ho hW=>⟨a0,a4,a5,a8,a9,db,fu,a12,cS,cK,cX,a20,a21,o,x,b4,b6,ho,hW,rfl⟩
   have hWF:=ph W
   obtain⟨r1,r2,r3,r4⟩:(W.length+B.length)*8≤room∧W.length+B.length≤room∧B.length*8≤room∧B.length≤room:=by unfold room;omega
   have SJ:∀d,Option.map (stripL d) o=o:=by rcases ho with rfl|⟨e,rfl⟩<;>intro d<;>simp
   have L4:∀ρ η,Option.map (ah ρ η) o=o:=by rcases ho with rfl|⟨e,rfl⟩<;>intro ρ η<;>simp[nu]
   have hif:(if W=[]∧B=[]then W.length else W.length+B.length)=W.length+B.length:=by
    split
    ·rename_i h;rw[h.1,h.2];rfl
    ·rfl
   have tM:(0< W.length∧W.length=W.length*1∨W.length=0∧(W.length=0∨W.length=1+1)):=by omega
   rcases hW with⟨hf,O2,rfl,rfl,rfl⟩|⟨hf,rfl,rfl,rfl⟩|⟨hf,rfl,rfl,rfl⟩
   case' inl=>
    simp[-List.length_flatMap,-Int.natCast_add,hkI,hlt,hb,OD,NI,Wi,tU,hit,T.fresh,T.fresh1,T.fresh2,SJ]
    rw[SI _ _ _ _ _ _ _ _ _ _ _ B.length (B.flatMap eN)]
    rotate_left
    ·rfl
    ·exact hsB _ _
    ·rfl
    ·exact⟨by rw[O3];omega,r3,r4,hcB,rfl⟩
    simp[-List.length_flatMap,-Int.natCast_add,vJ]
    refine m_loop (cR b k 4).length (XZ g l L ino special k (cR b k 4) (A,W++B)) (UX _ _ _ _ _ _ _ _ _ _ _ _ _ _ _ _ _ ho (.inr (.inl ⟨rfl,by rw[O2,List.nil_append],by rw[O2,List.nil_append],rfl⟩))) ?_
   case' inr.inl=>
    simp[-List.length_flatMap,-Int.natCast_add,hkI,hlt,hb,OD,NI,Wi,tU,hit,T.fresh,T.fresh1,T.fresh2,gg,SJ]
    rw[lD _ _ _ _ _ _ _ _ _ _ _ 4 W.length W.length B.length (B.flatMap eN)]
    rotate_left
    ·exact(some (W.flatMap eN))
    ·rfl
    ·exact hsB _ _
    ·rfl
    ·exact⟨.inl rfl,rfl,tM,by simp[-List.length_flatMap,ai,hWF],by rw[O3];omega,r1,r2,hcB⟩
    have fL:((ai [some [T.v (.int .i64 g.lowers),.v (.int .i64 g.aw),.v (.int .i64 g.blocks),.v (.int .i64 g.log),sl eS l,.sl .any L.length (L.flatMap eI)],none,o,none,some (W.flatMap eN),none,none,none,none,none] 4).getD []).take (W.length*1)=W.flatMap eN:=List.take_of_length_le (by simp[-List.length_flatMap,ai,hWF])
    rw[fL]
    simp[-List.length_flatMap,-Int.natCast_add,vJ,St.drop,L4,Ad,T.aj,ah,fa]
    rw[hif]
    refine m_loop (cR b k 4).length (XZ g l L ino special k (cR b k 4) (A,W++B)) (UX _ _ _ _ _ _ _ _ _ _ _ _ _ _ _ _ _ ho (.inr (.inl ⟨rfl,by rw[List.length_append],by rw[List.flatMap_append],rfl⟩))) ?_
   case' inr.inr=>
    simp[-List.length_flatMap,-Int.natCast_add,hkI,hlt,hb,OD,NI,Wi,tU,hit,T.fresh,T.fresh1,T.fresh2,gg,SJ]
    rw[lD _ _ _ _ _ _ _ _ _ _ _ 6 W.length W.length B.length (B.flatMap eN)]
    rotate_left
    ·exact none
    ·rfl
    ·exact hsB _ _
    ·rfl
    ·exact⟨.inr rfl,rfl,tM,by simp[-List.length_flatMap,ai,hWF],by rw[O3];omega,r1,r2,hcB⟩
    have fL:((ai [some [T.v (.int .i64 g.lowers),.v (.int .i64 g.aw),.v (.int .i64 g.blocks),.v (.int .i64 g.log),sl eS l,.sl .any L.length (L.flatMap eI)],none,o,none,none,none,some (W.flatMap eN),none,none,none] 6).getD []).take (W.length*1)=W.flatMap eN:=List.take_of_length_le (by simp[-List.length_flatMap,ai,hWF])
    rw[fL]
    simp[-List.length_flatMap,-Int.natCast_add,vJ,St.drop,L4,Ad,T.aj,ah,fa]
    rw[hif]
    refine m_loop (cR b k 4).length (XZ g l L ino special k (cR b k 4) (A,W++B)) (UX _ _ _ _ _ _ _ _ _ _ _ _ _ _ _ _ _ ho (.inr (.inl ⟨rfl,by rw[List.length_append],by rw[List.flatMap_append],rfl⟩))) ?_
   all_goals
    rintro j σ hj ⟨a0,a4,a5,a8,a9,db,fu,a12,cS,cK,cX,a20,a21,o,x,b4,b6,ho,hW,rfl⟩
    rw[HH]
    rw[HH]at X6
    by_cases jn:j< (cR b k 4).length
    ·have q9:(j:Int)< (cR b k 4).length:=by omega
     have ag6:cR b k 4≠[]:=by intro hh;rw[hh]at jn;simp at jn
     have w5:IntKind.i64.wrap ((j:Int)+1)=((j+1:Nat):Int):=by rw[←Int.natCast_succ];exact aq (by omega)
     have ei:=X0 (.own 256 105) (cR b k 4) j jn
     have bF:=X8 (cR b k 4) j jn
     have ct:Option.filter T.closed (some (T.agg (eE (cR b k 4)[j])))=some (T.agg (eE (cR b k 4)[j])):=b7 (by simp[eE])
     have he:=tw _ (List.getElem_mem jn)
     have an3:(cR b k 4).take (j+1)=(cR b k 4).take j++[(cR b k 4)[j]]:=by rw[List.take_succ_eq_append_getElem jn]
     generalize (cR b k 4)[j]=e at*
     have hlen:=L0 L special ((cR b k 4).take j) (A,W++B)
     have htl:((cR b k 4).take j).length≤4:=by rw[List.length_take];omega
     have EC:((cR b k 4).take (j+1)).foldl (jo L special) (A,W++B)=jo L special (((cR b k 4).take j).foldl (jo L special) (A,W++B)) e:=by rw[an3,List.foldl_append];rfl
     have tm:∀a0 a4 a5 a8 a9 db fu a12 cS cK cX a20 a21 o x b4 b6 X,(o=none∨∃e,o=some (eE e))→WB true (((cR b k 4).take (j+1)).foldl (jo L special) (A,W++B)).2 x b4 b6→X=aD .nil 416 105 eE (((cR b k 4).take (j+1)).foldl (jo L special) (A,W++B)).1→XZ g l L ino special k (cR b k 4) (A,W++B) (j+1) ⟨[],[a0,.v (.int .i64 ino),.v (.int .i64 special),.ref 0 0,a4,a5,X,x,a8,a9,db,fu,a12,cS,.v (.int .i64 k),cK,cX,.sl (.own 256 105) (cR b k 4).length ((cR b k 4).flatMap eE),.v (.int .i64 (cR b k 4).length),.v (.int .i64 ((j+1:Nat):Int)),a20,a21],[some [.v (.int .i64 g.lowers),.v (.int .i64 g.aw),.v (.int .i64 g.blocks),.v (.int .i64 g.log),sl eS l,.sl .any L.length (L.flatMap eI)],none,o,none,b4,none,b6,none,none,none]⟩:=by
      rintro a0 a4 a5 a8 a9 db fu a12 cS cK cX a20 a21 o x b4 b6 X ho hW rfl
      exact⟨a0,a4,a5,a8,a9,db,fu,a12,cS,cK,cX,a20,a21,o,x,b4,b6,ho,hW,by rw[aA _ _ _ _ ag6];rfl⟩
     rw[EC]at tm
     rw[aA _ _ _ _ ag6]
     generalize ((cR b k 4).take j).foldl (jo L special) (A,W++B)=st at*
     obtain⟨A2,W2⟩:=st
     simp only[List.length_append]at hlen hW tm⊢
     obtain⟨_,lT,_⟩:=E6 he
     have eg:=X6 e lT A2 (by omega)
     have G3:=Kn A2
     have hA2:=CT A2
     have hA4:=fun d=>E7 d A2
     have rH:=ph W2
     obtain⟨r5,r6,r7,r8⟩:(A2.length+1)*32≤room∧A2.length+1≤room∧32≤room∧1≤room:=by unfold room;omega
     obtain⟨q1,q2⟩:(W2.length+1)*8≤room∧W2.length+1≤room:=by unfold room;omega
     have y3:(0< W2.length∧W2.length=W2.length*1∨W2.length=0∧(W2.length=0∨W2.length=1+1)):=by omega
     have mP:cp (eE e) 0=some (.v (.int .i64 e.slot)):=rfl
     cases hG:tj L special e A2
     ·rw[hG]at eg
      have O4:jo L special (A2,W2) e=(A2,W2++[e.slot]):=by unfold jo;rw[hG,if_neg (by decide)]
      rw[O4]at tm
      have hWn:W2.flatMap eN++[T.v (.int .i64 e.slot)]=(W2++[e.slot]).flatMap eN:=by rw[List.flatMap_append];rfl
      by_cases tW:A2=[]
      ·rw[tW]at eg tm⊢
       simp only[List.length_nil,List.flatMap_nil]at eg
       rw[aK]
       rcases hW with⟨hf,_⟩|⟨hf,rfl,rfl,rfl⟩|⟨hf,rfl,rfl,rfl⟩<;>(try cases hf;done)<;>rcases ho with rfl|⟨e0,rfl⟩
       case' inr.inl.inl=>
        simp[-List.length_flatMap,-Int.natCast_add,jn,q9,ei,bF,ct,eg,hit,mP,jv,T.fresh,T.fresh1,T.fresh2,gg]
        rw[lD _ _ _ _ _ _ _ _ _ _ _ 4 W2.length W2.length 1 [.v (.int .i64 e.slot)]]
        rotate_left
        ·exact none
        ·rfl
        ·rfl
        ·rfl
        ·exact⟨.inr rfl,rfl,y3,by simp[-List.length_flatMap,ai,rH],rfl,q1,q2,rfl⟩
        have fL:((ai [some [T.v (.int .i64 g.lowers),.v (.int .i64 g.aw),.v (.int .i64 g.blocks),.v (.int .i64 g.log),sl eS l,.sl .any L.length (L.flatMap eI)],none,some (eE e),none,some (W2.flatMap eN),none,none,none,none,none] 4).getD []).take (W2.length*1)=W2.flatMap eN:=List.take_of_length_le (by simp[-List.length_flatMap,ai,rH])
        rw[fL]
        simp[-List.length_flatMap,-Int.natCast_add,St.drop,w5,T.aj,ah,nu,fa]
       case' inr.inl.inr=>
        simp[-List.length_flatMap,-Int.natCast_add,jn,q9,ei,bF,ct,eg,hit,mP,jv,T.fresh,T.fresh1,T.fresh2,gg]
        rw[lD _ _ _ _ _ _ _ _ _ _ _ 4 W2.length W2.length 1 [.v (.int .i64 e.slot)]]
        rotate_left
        ·exact none
        ·rfl
        ·rfl
        ·rfl
        ·exact⟨.inr rfl,rfl,y3,by simp[-List.length_flatMap,ai,rH],rfl,q1,q2,rfl⟩
        have fL:((ai [some [T.v (.int .i64 g.lowers),.v (.int .i64 g.aw),.v (.int .i64 g.blocks),.v (.int .i64 g.log),sl eS l,.sl .any L.length (L.flatMap eI)],none,some (eE e),none,some (W2.flatMap eN),none,none,none,none,none] 4).getD []).take (W2.length*1)=W2.flatMap eN:=List.take_of_length_le (by simp[-List.length_flatMap,ai,rH])
        rw[fL]
        simp[-List.length_flatMap,-Int.natCast_add,St.drop,w5,T.aj,ah,nu,fa]
       case' inr.inr.inl=>
        simp[-List.length_flatMap,-Int.natCast_add,jn,q9,ei,bF,ct,eg,hit,mP,jv,T.fresh,T.fresh1,T.fresh2,gg]
        rw[lD _ _ _ _ _ _ _ _ _ _ _ 6 W2.length W2.length 1 [.v (.int .i64 e.slot)]]
        rotate_left
        ·exact some (W2.flatMap eN)
        ·rfl
        ·rfl
        ·rfl
        ·exact⟨.inl rfl,rfl,y3,by simp[-List.length_flatMap,ai,rH],rfl,q1,q2,rfl⟩
        have fL:((ai [some [T.v (.int .i64 g.lowers),.v (.int .i64 g.aw),.v (.int .i64 g.blocks),.v (.int .i64 g.log),sl eS l,.sl .any L.length (L.flatMap eI)],none,some (eE e),none,none,none,some (W2.flatMap eN),none,none,none] 6).getD []).take (W2.length*1)=W2.flatMap eN:=List.take_of_length_le (by simp[-List.length_flatMap,ai,rH])
        rw[fL]
        simp[-List.length_flatMap,-Int.natCast_add,St.drop,w5,T.aj,ah,nu,fa]
       case' inr.inr.inr=>
        simp[-List.length_flatMap,-Int.natCast_add,jn,q9,ei,bF,ct,eg,hit,mP,jv,T.fresh,T.fresh1,T.fresh2,gg]
        rw[lD _ _ _ _ _ _ _ _ _ _ _ 6 W2.length W2.length 1 [.v (.int .i64 e.slot)]]
        rotate_left
        ·exact some (W2.flatMap eN)
        ·rfl
        ·rfl
        ·rfl
        ·exact⟨.inl rfl,rfl,y3,by simp[-List.length_flatMap,ai,rH],rfl,q1,q2,rfl⟩
        have fL:((ai [some [T.v (.int .i64 g.lowers),.v (.int .i64 g.aw),.v (.int .i64 g.blocks),.v (.int .i64 g.log),sl eS l,.sl .any L.length (L.flatMap eI)],none,some (eE e),none,none,none,some (W2.flatMap eN),none,none,none] 6).getD []).take (W2.length*1)=W2.flatMap eN:=List.take_of_length_le (by simp[-List.length_flatMap,ai,rH])
        rw[fL]
        simp[-List.length_flatMap,-Int.natCast_add,St.drop,w5,T.aj,ah,nu,fa]
       all_goals exact tm _ _ _ _ _ _ _ _ _ _ _ _ _ _ _ _ _ _ (.inr ⟨e,rfl⟩) (.inr (.inr ⟨rfl,by rw[List.length_append];rfl,rfl,by rw[hWn]⟩)) rfl
      ·rw[aA _ _ _ _ tW]
       rcases hW with⟨hf,_⟩|⟨hf,rfl,rfl,rfl⟩|⟨hf,rfl,rfl,rfl⟩<;>(try cases hf;done)<;>rcases ho with rfl|⟨e0,rfl⟩
       case' inr.inl.inl=>
        simp[-List.length_flatMap,-Int.natCast_add,jn,q9,ei,bF,ct,eg,hit,mP,jv,T.fresh,T.fresh1,T.fresh2,gg]
        rw[lD _ _ _ _ _ _ _ _ _ _ _ 4 W2.length W2.length 1 [.v (.int .i64 e.slot)]]
        rotate_left
        ·exact none
        ·rfl
        ·rfl
        ·rfl
        ·exact⟨.inr rfl,rfl,y3,by simp[-List.length_flatMap,ai,rH],rfl,q1,q2,rfl⟩
        have fL:((ai [some [T.v (.int .i64 g.lowers),.v (.int .i64 g.aw),.v (.int .i64 g.blocks),.v (.int .i64 g.log),sl eS l,.sl .any L.length (L.flatMap eI)],none,some (eE e),none,some (W2.flatMap eN),none,none,none,none,none] 4).getD []).take (W2.length*1)=W2.flatMap eN:=List.take_of_length_le (by simp[-List.length_flatMap,ai,rH])
        rw[fL]
        simp[-List.length_flatMap,-Int.natCast_add,St.drop,w5,T.aj,ah,nu,fa]
       case' inr.inl.inr=>
        simp[-List.length_flatMap,-Int.natCast_add,jn,q9,ei,bF,ct,eg,hit,mP,jv,T.fresh,T.fresh1,T.fresh2,gg]
        rw[lD _ _ _ _ _ _ _ _ _ _ _ 4 W2.length W2.length 1 [.v (.int .i64 e.slot)]]
        rotate_left
        ·exact none
        ·rfl
        ·rfl
        ·rfl
        ·exact⟨.inr rfl,rfl,y3,by simp[-List.length_flatMap,ai,rH],rfl,q1,q2,rfl⟩
        have fL:((ai [some [T.v (.int .i64 g.lowers),.v (.int .i64 g.aw),.v (.int .i64 g.blocks),.v (.int .i64 g.log),sl eS l,.sl .any L.length (L.flatMap eI)],none,some (eE e),none,some (W2.flatMap eN),none,none,none,none,none] 4).getD []).take (W2.length*1)=W2.flatMap eN:=List.take_of_length_le (by simp[-List.length_flatMap,ai,rH])
        rw[fL]
        simp[-List.length_flatMap,-Int.natCast_add,St.drop,w5,T.aj,ah,nu,fa]
       case' inr.inr.inl=>
        simp[-List.length_flatMap,-Int.natCast_add,jn,q9,ei,bF,ct,eg,hit,mP,jv,T.fresh,T.fresh1,T.fresh2,gg]
        rw[lD _ _ _ _ _ _ _ _ _ _ _ 6 W2.length W2.length 1 [.v (.int .i64 e.slot)]]
        rotate_left
        ·exact some (W2.flatMap eN)
        ·rfl
        ·rfl
        ·rfl
        ·exact⟨.inl rfl,rfl,y3,by simp[-List.length_flatMap,ai,rH],rfl,q1,q2,rfl⟩
        have fL:((ai [some [T.v (.int .i64 g.lowers),.v (.int .i64 g.aw),.v (.int .i64 g.blocks),.v (.int .i64 g.log),sl eS l,.sl .any L.length (L.flatMap eI)],none,some (eE e),none,none,none,some (W2.flatMap eN),none,none,none] 6).getD []).take (W2.length*1)=W2.flatMap eN:=List.take_of_length_le (by simp[-List.length_flatMap,ai,rH])
        rw[fL]
        simp[-List.length_flatMap,-Int.natCast_add,St.drop,w5,T.aj,ah,nu,fa]
       case' inr.inr.inr=>
        simp[-List.length_flatMap,-Int.natCast_add,jn,q9,ei,bF,ct,eg,hit,mP,jv,T.fresh,T.fresh1,T.fresh2,gg]
        rw[lD _ _ _ _ _ _ _ _ _ _ _ 6 W2.length W2.length 1 [.v (.int .i64 e.slot)]]
        rotate_left
        ·exact some (W2.flatMap eN)
        ·rfl
        ·rfl
        ·rfl
        ·exact⟨.inl rfl,rfl,y3,by simp[-List.length_flatMap,ai,rH],rfl,q1,q2,rfl⟩
        have fL:((ai [some [T.v (.int .i64 g.lowers),.v (.int .i64 g.aw),.v (.int .i64 g.blocks),.v (.int .i64 g.log),sl eS l,.sl .any L.length (L.flatMap eI)],none,some (eE e),none,none,none,some (W2.flatMap eN),none,none,none] 6).getD []).take (W2.length*1)=W2.flatMap eN:=List.take_of_length_le (by simp[-List.length_flatMap,ai,rH])
        rw[fL]
        simp[-List.length_flatMap,-Int.natCast_add,St.drop,w5,T.aj,ah,nu,fa]
       all_goals exact tm _ _ _ _ _ _ _ _ _ _ _ _ _ _ _ _ _ _ (.inr ⟨e,rfl⟩) (.inr (.inr ⟨rfl,by rw[List.length_append];rfl,rfl,by rw[hWn]⟩)) (aA _ _ _ _ tW).symm
     ·rw[hG]at eg
      have O4:jo L special (A2,W2) e=(A2++[e],W2):=by unfold jo;rw[hG,if_pos rfl]
      rw[O4]at tm
      by_cases tW:A2=[]
      ·rw[tW]at eg tm⊢
       simp only[List.length_nil,List.flatMap_nil]at eg
       rw[aK]
       rcases hW with⟨hf,_⟩|⟨hf,rfl,rfl,rfl⟩|⟨hf,rfl,rfl,rfl⟩<;>(try cases hf;done)<;>rcases ho with rfl|⟨e0,rfl⟩<;>simp[-List.length_flatMap,-Int.natCast_add,jn,q9,ei,bF,ct,eg,w5,hit,jv,T.fresh,T.fresh1,T.fresh2,gg,r7,r8]
       all_goals first
        |exact tm _ _ _ _ _ _ _ _ _ _ _ _ _ _ _ _ _ _ (.inr ⟨e,rfl⟩) (.inr (.inl ⟨rfl,rfl,rfl,rfl⟩)) (by first|(rw[bk];done)|(rw[bk];rfl))
        |exact tm _ _ _ _ _ _ _ _ _ _ _ _ _ _ _ _ _ _ (.inr ⟨e,rfl⟩) (.inr (.inr ⟨rfl,rfl,rfl,rfl⟩)) (by first|(rw[bk];done)|(rw[bk];rfl))
      ·rw[aA _ _ _ _ tW]
       rcases hW with⟨hf,_⟩|⟨hf,rfl,rfl,rfl⟩|⟨hf,rfl,rfl,rfl⟩<;>(try cases hf;done)<;>rcases ho with rfl|⟨e0,rfl⟩<;>simp[-List.length_flatMap,-Int.natCast_add,jn,q9,ei,bF,ct,eg,w5,hit,jv,T.fresh,T.fresh1,T.fresh2,gg,G3,r5,r6]
       all_goals first
        |exact tm _ _ _ _ _ _ _ _ _ _ _ _ _ _ _ _ _ _ (.inr ⟨e,rfl⟩) (.inr (.inl ⟨rfl,rfl,rfl,rfl⟩)) (by first|(rw[bk];done)|(rw[bk];rfl))
        |exact tm _ _ _ _ _ _ _ _ _ _ _ _ _ _ _ _ _ _ (.inr ⟨e,rfl⟩) (.inr (.inr ⟨rfl,rfl,rfl,rfl⟩)) (by first|(rw[bk];done)|(rw[bk];rfl))
    ·have zr:j=(cR b k 4).length:=by omega
     subst zr
     rw[List.take_length,←UW]at hW⊢
     rw[←Ja]at hW
     rcases hW with⟨hf,_⟩|⟨hf,rfl,rfl,rfl⟩|⟨hf,rfl,rfl,rfl⟩
     ·rw[Ja]at hf;cases hf
     ·rcases ho with rfl|⟨e,rfl⟩<;>simp[-List.length_flatMap,-Int.natCast_add,w4,E8,jv]
      all_goals exact aH _ _ _ _ _ _ _ _ _ _ _ _ _ _ _ _ _ _ _ _ (.inl rfl) (.inr (.inl ⟨Ja,rfl,rfl,rfl⟩))
     ·rcases ho with rfl|⟨e,rfl⟩<;>simp[-List.length_flatMap,-Int.natCast_add,w4,E8,jv]
      all_goals exact aH _ _ _ _ _ _ _ _ _ _ _ _ _ _ _ _ _ _ _ _ (.inl rfl) (.inr (.inr ⟨Ja,rfl,rfl,rfl⟩))
 ·have X9:k=4:=by omega
  subst X9
  obtain⟨hs1,hs2⟩:=US g l L ino special
  have hWl:=(SH g l L ino special 4).2
  rw[hs1]
  generalize (aG g l L ino special 16)=w at*
  obtain⟨A,V⟩:=w
  simp only at hs2⊢
  subst hs2
  generalize (o6 g l L ino special 4).2=W at*
  generalize rG g l L ino 4=f at*
  have hsb:=ab4 W (by omega)
  have hso:=ab3
  have fB:=LQ W
  rw[HH]
  have SJ:∀d,Option.map (stripL d) o=o:=by rcases ho with rfl|⟨e,rfl⟩<;>intro d<;>simp
  have L4:∀ρ η,Option.map (ah ρ η) o=o:=by rcases ho with rfl|⟨e,rfl⟩<;>intro ρ η<;>simp[nu]
  unfold brT
  rcases hW with⟨rfl,O2,rfl,rfl,rfl⟩|⟨rfl,rfl,rfl,rfl⟩|⟨rfl,rfl,rfl,rfl⟩
  ·subst O2
   simp[-List.length_flatMap,-Int.natCast_add]
   refine CO _ _ _ ?_
   rw[xd (ss:=[]) (fs:=[]) (r:= .al []) (os:=[]) rfl rfl rfl rfl hso ⟨rfl,rfl,List.nodup_nil,List.nodup_nil,rfl⟩]
   simp[-List.length_flatMap,eJ,jb,iU,L4,CS,hit]
   rw[bE rfl]
   simp[-List.length_flatMap,ae]
   unfold aD
   by_cases hA:A=[]<;>simp[-List.length_flatMap,hA,List.idxOf?]
   all_goals first|rfl|exact⟨rfl,rfl⟩
  ·simp[-List.length_flatMap,-Int.natCast_add]
   refine CO _ _ _ ?_
   rw[xd (ss:=[4]) (fs:=[]) (r:= .al []) (os:=[.agg ((l8 W).flatMap eN),.undef]) (by simp[-List.length_flatMap,ai,L2]) (by simp[-List.length_flatMap,ai,L3]) rfl rfl (by simpa [-List.length_flatMap,iU,fF,List.idxOf?,List.range,List.range.loop,ai,fa]using hsb) (by simp[-List.length_flatMap,dK,ai])]
   simp[-List.length_flatMap,dC,eJ,iU,fF,jb,List.idxOf?,fa,L4,CS,hit]
   rw[←fB]
   generalize l8 W=V at*
   have Ya:=ph V
   have hlen:V.length*1≤((ai [some [T.v (.int .i64 g.lowers),.v (.int .i64 g.aw),.v (.int .i64 g.blocks),.v (.int .i64 g.log),sl eS l,.sl .any L.length (L.flatMap eI)],none,o,none,some (V.flatMap eN),none,none,none,none,none] 4).getD []).length:=by simp[-List.length_flatMap,ai,Ya]
   have fL:((ai [some [T.v (.int .i64 g.lowers),.v (.int .i64 g.aw),.v (.int .i64 g.blocks),.v (.int .i64 g.log),sl eS l,.sl .any L.length (L.flatMap eI)],none,o,none,some (V.flatMap eN),none,none,none,none,none] 4).getD []).take (V.length*1)=V.flatMap eN:=List.take_of_length_le (by simp[-List.length_flatMap,ai,Ya])
   rw[F2 _ _ _ _ _ _ _ 4 V.length V.length rfl (by omega) hlen (by rw[fL,oL]),fL]
   simp[-List.length_flatMap,St.drop,Ad,tU,T.aj,ah,L4,SJ,fa,List.idxOf?,hit]
   unfold aD
   by_cases hA:A=[]<;>simp[-List.length_flatMap,hA]
   all_goals first|rfl|exact⟨rfl,rfl⟩
  ·simp[-List.length_flatMap,-Int.natCast_add]
   refine CO _ _ _ ?_
   rw[xd (ss:=[6]) (fs:=[]) (r:= .al []) (os:=[.agg ((l8 W).flatMap eN),.undef]) (by simp[-List.length_flatMap,ai,L2]) (by simp[-List.length_flatMap,ai,L3]) rfl rfl (by simpa [-List.length_flatMap,iU,fF,List.idxOf?,List.range,List.range.loop,ai,fa]using hsb) (by simp[-List.length_flatMap,dK,ai])]
   simp[-List.length_flatMap,dC,eJ,iU,fF,jb,List.idxOf?,fa,L4,CS,hit]
   rw[←fB]
   generalize l8 W=V at*
   have Ya:=ph V
   have hlen:V.length*1≤((ai [some [T.v (.int .i64 g.lowers),.v (.int .i64 g.aw),.v (.int .i64 g.blocks),.v (.int .i64 g.log),sl eS l,.sl .any L.length (L.flatMap eI)],none,o,none,none,none,some (V.flatMap eN),none,none,none] 6).getD []).length:=by simp[-List.length_flatMap,ai,Ya]
   have fL:((ai [some [T.v (.int .i64 g.lowers),.v (.int .i64 g.aw),.v (.int .i64 g.blocks),.v (.int .i64 g.log),sl eS l,.sl .any L.length (L.flatMap eI)],none,o,none,none,none,some (V.flatMap eN),none,none,none] 6).getD []).take (V.length*1)=V.flatMap eN:=List.take_of_length_le (by simp[-List.length_flatMap,ai,Ya])
   rw[F2 _ _ _ _ _ _ _ 6 V.length V.length rfl (by omega) hlen (by rw[fL,oL]),fL]
   simp[-List.length_flatMap,St.drop,Ad,tU,T.aj,ah,L4,SJ,fa,List.idxOf?,hit]
   unfold aD
   by_cases hA:A=[]<;>simp[-List.length_flatMap,hA]
   all_goals first|rfl|exact⟨rfl,rfl⟩
end Go.Vi.Sz
end
section
set_option maxRecDepth 100000
set_option maxHeartbeats 4000000
namespace Go.Vi.Sz
open Go Go.Vi Go.Vi.Zz
theorem ab7(g:bt)(l:List (List UInt8))(hl:∀b∈l,b.length=64)(L:List aO)(hn:L.length≤10000)(hL:∀x∈L,zp x)(ino:Int):
  Ev E bP [.agg (iR g (sl eS l) (.sl .any L.length (L.flatMap eI))),.v (.int .i64 ino)] (.al [.agg (eA ((rI g l L ino).getD oM)),.v (.bool (rI g l L ino).isSome)]):=by
 refine aB (fn:=cy) rfl (by decide) rfl rfl rfl ?_
 have jw:=af (HG g l L hn hL ino 4)
 have HH:iR g (sl eS l) (.sl .any L.length (L.flatMap eI))=[.v (.int .i64 g.lowers),.v (.int .i64 g.aw),.v (.int .i64 g.blocks),.v (.int .i64 g.log),sl eS l,.sl .any L.length (L.flatMap eI)]:=rfl
 have E9:=fun b (h:b.length=64)=>af (Yb b h)
 have fS:=fun b=>(tV hl:cQ g l L ino 4=some b→_)
 have hz:eA oM=[.v (.int .i64 0),.v (.int .i64 0),.v (.string ⟨#[]⟩),.v (.int .i64 0),.v (.int .i64 0),.v (.int .i64 0),.v (.int .i64 0)]:=rfl
 unfold rI
 rw[HH]at jw⊢
 cases hb:cQ g l L ino 4 with
 |none=>
  rw[hb]at jw
  simp only[iM]at jw
  simp[-List.length_flatMap,cy,jw,hz]
 |some b=>
  rw[hb]at jw
  simp only[iM]at jw
  have hg:=E9 b (fS b hb)
  cases ha:zt b with
  |none=>
   rw[ha]at hg
   simp[-List.length_flatMap,cy,jw,hg,HK,ha,eA]
  |some a=>
   rw[ha]at hg
   simp[-List.length_flatMap,cy,jw,hg,HK,ha,eA]
end Go.Vi.Sz
end
section
set_option maxRecDepth 100000
set_option maxHeartbeats 4000000
namespace Go.Vi.Sz
open Go Go.Vi Go.Vi.Zz
abbrev FM:=List (Int×List fO)
abbrev ML:=List (Int×Nat×List fO)
def eM3(m:Int×Nat×List fO):List T:=[.v (.int .i64 m.1),.sl (.own m.2.1 48) m.2.2.length (m.2.2.flatMap eF)]
def lay(ζ:Nat→Nat):Nat→FM→ML
 |_,[]=>[]
 |i,p::F=>(p.1,ζ i,p.2)::lay ζ (i+1) F
def dF(ζ:Nat→Nat)(i:Nat)(F:FM):List T:=(lay ζ i F).flatMap eM3
theorem qE(ζ i):dF ζ i []=[]:=rfl
theorem eH(ζ i)(p:Int×List fO)(F:FM):dF ζ i (p::F)= .v (.int .i64 p.1):: .sl (.own (ζ i) 48) p.2.length (p.2.flatMap eF)::dF ζ (i+1) F:=rfl
def kS(c:Int):FM→Nat
 | []=>0
 |p::F=>if c=p.1 then 0 else kS c F+1
def gF(c:Int):FM→List fO
 | []=>[]
 |p::F=>if c=p.1 then p.2 else gF c F
def gG(c:Int):FM→Bool
 | []=>false
 |p::F=>if c=p.1 then true else gG c F
def dV(c:Int)(f:fO):FM→FM
 | []=>[(c,[f])]
 |p::F=>if c=p.1 then(c,p.2++[f])::F else p::dV c f F
def vK(ζ:Nat→Nat)(p q:Nat)(j:Nat):Nat:=if j=p then q else ζ j
theorem uV(c k:Int):iA .int (.v (.int .i64 c)) (.v (.int .i64 k))=some (decide (c=k)):=by
 simp[iA]
 rw[Bool.eq_iff_iff];simp
theorem UY(c:Int)(ζ):∀(F:FM) (i:Nat),mB .int (.v (.int .i64 c)) (dF ζ i F)=some (if gG c F then some (.sl (.own (ζ (i+kS c F)) 48) (gF c F).length ((gF c F).flatMap eF))else none)
 | [],i=>rfl
 |p::F,i=>by
  rw[eH,mB,uV,gG,kS,gF]
  by_cases h:c=p.1
  ·simp[h]
  ·rw[decide_eq_false h,Option.bind_some,if_neg (by decide),UY c ζ F (i+1)]
   simp only[if_neg h]
   rw[show i+(kS c F+1)=i+1+kS c F by omega]
theorem O5(d:Nat)(ζ)(h:∀j,hit d (ζ j)=false):∀(F:FM) (i:Nat),stripL d (dF ζ i F)=dF ζ i F
 | [],i=>by simp[qE]
 |p::F,i=>by
  rw[eH]
  simp[-List.length_flatMap,h i,O5 d ζ h F (i+1)]
theorem SK(ζ)(h:∀a b,ζ a=ζ b→a=b)(j:Nat):∀(F:FM) (i:Nat),j< i→stripL (2*ζ j+1) (dF ζ i F)=dF ζ i F
 | [],i,_=>by simp[qE]
 |p::F,i,hj=>by
  have hh:hit (2*ζ j+1) (ζ i)=false:=by
   unfold hit
   rw[if_neg (by omega),beq_eq_false_iff_ne]
   intro e
   have:=h i j (by omega)
   omega
  rw[eH]
  simp[-List.length_flatMap,hh,SK ζ h j F (i+1) (by omega)]
theorem ag7(ζ p q):∀(F:FM) (i:Nat),p< i→dF (vK ζ p q) i F=dF ζ i F
 | [],i,_=>rfl
 |x::F,i,h=>by rw[eH,eH,ag7 ζ p q F (i+1) (by omega),vK,if_neg (by omega)]
theorem Yc(c:Int)(ζ q)(f:fO):∀(F:FM) (i:Nat),gG c F=false→tn .int (.v (.int .i64 c)) (.sl (.own q 48) 1 (eF f)) (dF ζ i F)=some (dF (vK ζ (i+kS c F) q) i (dV c f F))
 | [],i,_=>by
  simp[dF,lay,tn,dV,kS,vK,eM3]
 |p::F,i,h=>by
  rw[gG]at h
  by_cases hc:c=p.1
  ·rw[if_pos hc]at h;cases h
  ·rw[if_neg hc]at h
   rw[eH,tn,uV,decide_eq_false hc,Option.bind_some,if_neg (by decide),Yc c ζ q f F (i+1) h,dV,kS,if_neg hc,if_neg hc,eH]
   rw[show i+(kS c F+1)=i+1+kS c F by omega]
   simp only[Option.map_some]
   rw[vK,if_neg (by omega)]
theorem Yd(c:Int)(ζ q)(WI:∀a b,ζ a=ζ b→a=b)(f:fO):∀(F:FM) (i:Nat),gG c F=true→tn .int (.v (.int .i64 c)) (.sl (.own q 48) ((gF c F).length+1) ((gF c F).flatMap eF++eF f)) (stripL (2*ζ (i+kS c F)+1) (dF ζ i F))=some (dF (vK ζ (i+kS c F) q) i (dV c f F))
 | [],i,h=>by cases h
 |p::F,i,h=>by
  rw[gG]at h
  by_cases hc:c=p.1
  ·have hh:hit (2*ζ i+1) (ζ i)=true:=by
    unfold hit
    rw[if_neg (by omega),beq_iff_eq]
    omega
   rw[eH,dV,kS,gF,if_pos hc,if_pos hc,if_pos hc,Nat.add_zero,eH,ag7 _ _ _ _ _ (by omega)]
   simp[-List.length_flatMap,hh,SK ζ WI i F (i+1) (by omega),tn,uV,hc,vK,eF]
  ·rw[if_neg hc]at h
   have hh:hit (2*ζ (i+1+kS c F)+1) (ζ i)=false:=by
    unfold hit
    rw[if_neg (by omega),beq_eq_false_iff_ne]
    intro e
    have:=WI i (i+1+kS c F) (by omega)
    omega
   have ih:=Yd c ζ q WI f F (i+1) h
   rw[eH,dV,kS,gF,if_neg hc,if_neg hc,if_neg hc,eH,show i+(kS c F+1)=i+1+kS c F by omega]
   simp[-List.length_flatMap,hh,tn,uV,hc,ih,vK]
   intro e
   omega
theorem Nb(ζ):∀(F:FM) (i:Nat),gX (dF ζ i F)=(List.range' i F.length).map ζ
 | [],i=>by simp[qE]
 |p::F,i=>by
  rw[eH]
  simp[-List.length_flatMap,Nb ζ F (i+1),List.range'_succ]
theorem Nc(ζ):∀(F:FM) (i:Nat),dZ (dF ζ i F)=[]
 | [],i=>by simp[qE]
 |p::F,i=>by
  rw[eH]
  simp[-List.length_flatMap,Nc ζ F (i+1)]
theorem BS(ρ η ζ ζ'):∀(F:FM) (i:Nat),(∀j,i≤j→j< i+F.length→η (ζ j)=some (ζ' j))→ah ρ η (dF ζ i F)=dF ζ' i F
 | [],i,_=>by simp[qE]
 |p::F,i,h=>by
  rw[eH,eH]
  have h0:=h i (Nat.le_refl _) (by simp)
  simp[-List.length_flatMap,T.aj,h0]
  exact BS ρ η ζ ζ' F (i+1) (fun j h1 h2=>h j (by omega) (by simp;omega))
theorem Ko(ζ:Nat→Nat)(n:Nat)(h:∀a b,a< n→b< n→ζ a=ζ b→a=b)(j:Nat)(hj:j< n):((List.range' 0 n).map ζ).idxOf? (ζ j)=some j:=by
 rw[List.idxOf?,List.findIdx?_eq_some_iff_getElem]
 refine⟨by simpa using hj,by simp,fun k hk=> ?_⟩
 simp
 intro e
 have:=h k j (by omega) hj e
 omega
theorem L5(c f):∀F:FM,(dV c f F).length≤F.length+1
 | []=>by simp[dV]
 |p::F=>by
  have:=L5 c f F
  rw[dV]
  split<;>simp<;>omega
theorem HL(c f):∀F:FM,(gG c F=true→kS c F< F.length∧(dV c f F).length=F.length)∧(gG c F=false→kS c F=F.length∧(dV c f F).length=F.length+1)
 | []=>by simp[gG,kS,dV]
 |p::F=>by
  obtain⟨h1,h2⟩:=HL c f F
  rw[gG,kS,dV]
  split
  ·simp
  ·refine⟨fun h=> ?_,fun h=> ?_⟩
   ·have:=h1 h;simp;omega
   ·have:=h2 h;simp;omega
end Go.Vi.Sz
end
section
set_option maxRecDepth 100000
set_option maxHeartbeats 4000000
namespace Go.Vi.Sz
open Go Go.Vi Go.Vi.Zz
theorem Fa{α:Type}(enc:α→List T)(sz:Nat)(L:List α)(n:Nat)(h:n< L.length):dY sz (.sl .any L.length (L.flatMap enc)) (.v (.int .i64 (n:Int)))=some (.ptr (L.flatMap enc) (n*sz)):=by
 show(if 0≤(n:Int)∧(n:Int).toNat< L.length then some (T.ptr (L.flatMap enc) ((n:Int).toNat*sz))else none)=_
 rw[if_pos (by omega),Int.toNat_natCast]
def EqO(x y:T)(n:Nat)(j:Nat)(σ:St):Prop:=∃a b c d e,σ=⟨[],[x,y,a,b,c,.v (.int .i64 (n:Int)),.v (.int .i64 (j:Int)),d,e],[]⟩
def Eq8(x y:T)(j:Nat)(σ:St):Prop:=∃a b c d,σ=⟨[],[x,y,a,.v (.int .i64 (j:Int)),b,c,d],[]⟩
theorem Ye(L:List fO)(hl:L.length≤1000000):Ev E jP [sl eF L,sl eF L] (.v (.bool true)):=by
 refine aB (fn:=jR) rfl (by decide) rfl rfl rfl ?_
 simp[-List.length_flatMap,jR,sl]
 refine m_loop L.length (EqO (sl eF L) (sl eF L) L.length) ⟨_,_,_,_,_,rfl⟩ ?_
 rintro j σ hj ⟨a,b,c,d,e,rfl⟩
 by_cases hlt:j< L.length
 ·have bh:(j:Int)< L.length:=by omega
  have w4:IntKind.i64.wrap ((j:Int)+1)=((j+1:Nat):Int):=by rw[←Int.natCast_succ];exact aq (by omega)
  have ei:=Fa eF 4 L j hlt
  have bF:=tA Yf L j hlt
  have ct:Option.filter T.closed (some (T.agg (eF L[j])))=some (T.agg (eF L[j])):=b7 (by simp[eF])
  have heq:cw [.int,.int,.int,.int] (eF L[j]) (eF L[j])=some true:=by simp[eF,cw,uV]
  simp[-List.length_flatMap,-Int.natCast_add,sl,hlt,bh,w4,ei,bF,ct,heq]
  exact⟨_,_,_,_,_,rfl⟩
 ·have:j=L.length:=by omega
  subst this
  simp[-List.length_flatMap,sl]
theorem Yg(L:List bQ)(hl:L.length≤1000000):Ev E yI [sl eE L,sl eE L] (.v (.bool true)):=by
 refine aB (fn:=uz) rfl (by decide) rfl rfl rfl ?_
 simp[-List.length_flatMap,uz,sl]
 refine m_loop L.length (Eq8 (sl eE L) (sl eE L)) ⟨_,_,_,_,rfl⟩ ?_
 rintro j σ hj ⟨a,b,c,d,rfl⟩
 by_cases hlt:j< L.length
 ·have bh:(j:Int)< L.length:=by omega
  have w4:IntKind.i64.wrap ((j:Int)+1)=((j+1:Nat):Int):=by rw[←Int.natCast_succ];exact aq (by omega)
  have ei:=Fa eE 3 L j hlt
  have bF:=tA Jb L j hlt
  have ct:Option.filter T.closed (some (T.agg (eE L[j])))=some (T.agg (eE L[j])):=b7 (by simp[eE])
  have heq:cw [.int,.int,.str] (eE L[j]) (eE L[j])=some true:=by simp[eE,cw,iA]
  simp[-List.length_flatMap,-Int.natCast_add,sl,hlt,bh,w4,ei,bF,ct,heq]
  exact⟨_,_,_,_,rfl⟩
 ·have:j=L.length:=by omega
  subst this
  simp[-List.length_flatMap,sl]
end Go.Vi.Sz
end
section
set_option maxRecDepth 100000
set_option maxHeartbeats 4000000
namespace Go.Vi.Sz
open Go Go.Vi Go.Vi.Zz
def pH(i:Nat):Nat:=8*(ko+i)
theorem aeT(a b:Nat)(h:pH a=pH b):a=b:=by unfold pH at h;omega
theorem adk(j:Nat):hit 38 (pH j)=false:=by
 unfold hit pH ko
 rw[if_pos (by omega),beq_eq_false_iff_ne]
 omega
theorem adl(j:Nat):hit 36 (pH j)=false:=by
 unfold hit pH ko
 rw[if_pos (by omega),beq_eq_false_iff_ne]
 omega
theorem SM(d d2:Nat)(ζ)(h:∀j,hit d2 (ζ j)=false):∀(F:FM) (i:Nat),stripL d2 (stripL d (dF ζ i F))=stripL d (dF ζ i F)
 | [],i=>by simp[qE]
 |p::F,i=>by
  rw[eH]
  cases hh:hit d (ζ i)<;>simp[-List.length_flatMap,hh,h i,SM d d2 ζ h F (i+1)]
theorem O6{p:Nat}(a b:Nat)(h:vK pH p 152 a=vK pH p 152 b):a=b:=by
 unfold vK pH ko at h
 split at h<;>split at h<;>omega
theorem aeU(F:FM)(hF:F.length≤7)(c ino slot layer:Int)(hl:(gF c F).length≤10000):
  Ev E (an+kU) [.al [.v (.int .i64 c),.v (.int .i64 ino),.v (.int .i64 slot),.ref 0 0,.ref 4 0],.al [.agg [.aQ 3],.undef,.undef,.agg (dF pH 0 F),.agg [.v (.int .i64 layer)],.undef]]
   (.al [.al [],.al [.agg [.aQ 3],.undef,.undef,.agg (dF (fun i=>i) 0 (dV c ⟨c,layer,ino,slot⟩ F)),.agg [.v (.int .i64 layer)],.undef]]):=by
 refine FZ (fn:=nB) rfl rfl rfl rfl (by simp) ?_
 have Ae:∀ρ,ah ρ some (dF pH 0 F)=dF pH 0 F:=fun ρ=>BS ρ some pH pH F 0 fun j _ _=>rfl
 have hf:=UY c pH F 0
 have an4:=O5 38 pH adk F 0
 simp[-List.length_flatMap,nB,Ae]
 rw[bE rfl]
 have ag8:=O5 36 pH adl F 0
 have hs2:=fun d=>SM d 38 pH adk F 0
 have hgl:=hl
 obtain⟨r1,r2,r3,r4⟩:((gF c F).length+1)*32≤room∧(gF c F).length+1≤room∧32≤room∧1≤room:=by unfold room;omega
 have hgF:=lE (gF c F)
 have hgC:=ll (gF c F)
 cases hh:gG c F
 ·rw[hh,if_neg (by decide)]at hf
  simp[-List.length_flatMap,ae,hf]
  simp[-List.length_flatMap,ag8,an4,r3,r4]
  rw[bE rfl]
  have hp:=Yc c pH 152 ⟨c,layer,ino,slot⟩ F 0 hh
  simp only[eF]at hp
  simp[-List.length_flatMap,ae,hp]
  generalize dV c ⟨c,layer,ino,slot⟩ F=F' at*
  simp[-List.length_flatMap,fV,ou,uf,vT,fh,mC,fF,List.range,List.range.loop,List.idxOf?,ai,Nc,Nb,T.aj,ah]
  refine BS _ _ _ (fun x=>x) F' 0 fun j _ hj=> ?_
  have h:=Ko (vK pH (kS c F) 152) F'.length (fun a b _ _=>O6 a b) j (by omega)
  rw[List.idxOf?,List.findIdx?_map]at h
  have Yh:(T.aQ 3).eO=[]:=by simp[T.eO]
  simp[Yh,h]
 ·rw[hh,if_pos rfl]at hf
  simp[-List.length_flatMap,ae,hf]
  simp[-List.length_flatMap,adl,ag8,hs2,r1,r2,hgF]
  rw[bE rfl]
  have hp:=Yd c pH 152 aeT ⟨c,layer,ino,slot⟩ F 0 hh
  simp only[eF,Nat.zero_add]at hp
  simp[-List.length_flatMap,ae,hp]
  generalize dV c ⟨c,layer,ino,slot⟩ F=F' at*
  simp[-List.length_flatMap,fV,ou,uf,vT,fh,mC,fF,List.range,List.range.loop,List.idxOf?,ai,Nc,Nb,T.aj,ah]
  refine BS _ _ _ (fun x=>x) F' 0 fun j _ hj=> ?_
  have h:=Ko (vK pH (kS c F) 152) F'.length (fun a b _ _=>O6 a b) j (by omega)
  rw[List.idxOf?,List.findIdx?_map]at h
  have Yh:(T.aQ 3).eO=[]:=by simp[T.eO]
  simp[Yh,h]
end Go.Vi.Sz
end
section
set_option maxRecDepth 100000
set_option maxHeartbeats 4000000
namespace Go.Vi.Sz
open Go Go.Vi Go.Vi.Zz
def zF(n:Nat):List T:=(List.replicate n [T.v (.int .i64 0),T.v (.int .i64 0),T.v (.int .i64 0),T.v (.int .i64 0)]).flatten
theorem ag9(n:Nat):(zF n).length=n*4:=by
 induction n with
 |zero=>rfl
 |succ n ih=>
  have:zF (n+1)=[T.v (.int .i64 0),T.v (.int .i64 0),T.v (.int .i64 0),T.v (.int .i64 0)]++zF n:=by rw[zF,List.replicate_succ,List.flatten_cons];rfl
  rw[this,List.length_append,ih];simp;omega
theorem O7(ρ η)(n:Nat):ah ρ η (zF n)=zF n:=by
 induction n with
 |zero=>simp[zF]
 |succ n ih=>
  have:zF (n+1)=[T.v (.int .i64 0),T.v (.int .i64 0),T.v (.int .i64 0),T.v (.int .i64 0)]++zF n:=by rw[zF,List.replicate_succ,List.flatten_cons];rfl
  rw[this];simp[T.aj,ah,ih]
theorem aeV(n:Nat):dZ (zF n)=[]:=by
 induction n with
 |zero=>simp[zF]
 |succ n ih=>
  have:zF (n+1)=[T.v (.int .i64 0),T.v (.int .i64 0),T.v (.int .i64 0),T.v (.int .i64 0)]++zF n:=by rw[zF,List.replicate_succ,List.flatten_cons];rfl
  rw[this];simp[ih]
theorem aeW(n:Nat):gX (zF n)=[]:=by
 induction n with
 |zero=>simp[zF]
 |succ n ih=>
  have:zF (n+1)=[T.v (.int .i64 0),T.v (.int .i64 0),T.v (.int .i64 0),T.v (.int .i64 0)]++zF n:=by rw[zF,List.replicate_succ,List.flatten_cons];rfl
  rw[this];simp[ih]
theorem aeX(n:Nat)(hn:n≤1000000):Ev E (an+tG) [.al [.sl .nil 0 [],.v (.int .i64 (n:Int))],.al []] (.al [.au 0 0 0 (if n=0 then 0 else 5),.al [.agg (zF n),.undef]]):=by
 refine FZ (fn:=iD) rfl rfl rfl rfl (by simp) ?_
 have mP:¬(n:Int)< 0:=by omega
 have w1:IntKind.i64.wrap ((n:Int)-0)=n:=by rw[Int.sub_zero];exact aq (by omega)
 have w2:IntKind.i64.wrap (n:Int)=n:=aq (by omega)
 have w0:IntKind.i64.wrap 0=0:=rfl
 by_cases h0:n=0
 ·subst h0
  simp[iD]
  rw[bE rfl]
  simp[ae,w0]
  simp[fU,A7,fV,ou,uf,vT,fh,mC,fF,List.range,List.range.loop,List.idxOf?,ai,zF]
  done
 ·have hp:0< n:=by omega
  rw[if_neg h0]
  obtain⟨r1,r2⟩:n*32≤room∧n≤room:=by unfold room;omega
  have R0:=ag9 n
  simp[iD,mP]
  rw[bE rfl]
  simp[ae,w2,w0,hp]
  rw[bE rfl]
  simp[ae,av,asNat]
  rw[SI _ _ _ _ _ _ _ _ _ _ _ n (zF n)]
  rotate_left
  ·rfl
  ·simp[iP,asNat,zF]
  ·rfl
  ·exact⟨R0,r1,r2,rfl,rfl⟩
  simp
  rw[if_neg h0]
  simp[fU,A7,fV,ou,uf,vT,fh,mC,fF,List.range,List.range.loop,List.idxOf?,ai,O7,aeV,aeW]
  done
theorem Yi(ρ η)(l:List fO):ah ρ η (l.flatMap eF)=l.flatMap eF:=by
 induction l with
 |nil=>simp
 |cons c l ih=>simp[eF,ih]
theorem Rq(bx k)(l:List fO):(l.flatMap eF).mapM (close bx (k+1))=some (l.flatMap eF):=by
 induction l with
 |nil=>rfl
 |cons x l ih=>rw[List.flatMap_cons,List.mapM_append,ih,show(eF x).mapM (close bx (k+1))=some (eF x) by simp[eF]];rfl
def eL(A:List fO):List T:=[sl eF A]
@[simp] theorem aha(A:List fO):(eL A).length=1:=rfl
theorem Yj(A:List (List fO))(i:Nat)(h:i< A.length):cp (A.flatMap eL) i=some (sl eF A[i]):=by
 have:=ki aha A i 0 h (by omega)
 rw[Nat.mul_one,Nat.add_zero]at this
 rw[this];rfl
def C1(Ls:List (List fO))(j:Nat)(σ:St):Prop:=∃a1 a3 a4 a5 a9 db fu a12 cS de,
 σ=⟨[],[sl eL Ls,a1,.v (.int .i64 ((Ls.take j).flatten.length:Nat)),a3,a4,a5,sl eL Ls,.v (.int .i64 Ls.length),.v (.int .i64 j),a9,db,fu,a12,cS,de],[none,none,none,none]⟩
def C2(Ls:List (List fO))(j:Nat)(σ:St):Prop:=∃a0 a1 a2 a3 a5 a6 a7 a8 a9 db de c,(c=0∨c=5)∧
 ((j=0∧∃N,σ=⟨[],[a0,a1,a2,a3,.au 0 0 0 c,a5,a6,a7,a8,a9,db,sl eL Ls,.v (.int .i64 Ls.length),.v (.int .i64 j),de],[some (zF N),none,none,none]⟩)∨
 σ=⟨[],[a0,a1,a2,a3,.au 2 0 (Ls.take j).flatten.length (if(Ls.take j).flatten.length=0 then c else(Ls.take j).flatten.length*4),a5,a6,a7,a8,a9,db,sl eL Ls,.v (.int .i64 Ls.length),.v (.int .i64 j),de],[none,none,some ((Ls.take j).flatten.flatMap eF),none]⟩)
theorem L6(Ls:List (List fO))(j:Nat)(h:j< Ls.length):(Ls.take (j+1)).flatten=(Ls.take j).flatten++Ls[j]:=by
 rw[List.take_succ_eq_append_getElem h,List.flatten_append];simp
theorem Fb(Ls:List (List fO)):∀j,(Ls.take j).flatten.length≤Ls.flatten.length:=by
 intro j
 have:Ls.flatten=(Ls.take j).flatten++(Ls.drop j).flatten:=by rw[←List.flatten_append,List.take_append_drop]
 rw[this,List.length_append];omega
theorem Yk(Ls:List (List fO))(hl:Ls.flatten.length≤1000000)(hn:Ls.length≤1000):Ev E gw [sl eL Ls] (.sl .any Ls.flatten.length (Ls.flatten.flatMap eF)):=by
 refine aB (fn:=gy) rfl (by decide) rfl rfl rfl ?_
 simp[-List.length_flatMap,-List.length_flatten,gy,sl]
 refine m_loop Ls.length (C1 Ls) ⟨_,_,_,_,_,_,_,_,_,_,rfl⟩ ?_
 rintro j σ hj ⟨a1,a3,a4,a5,a9,db,fu,a12,cS,de,rfl⟩
 by_cases hlt:j< Ls.length
 ·have bh:(j:Int)< Ls.length:=by omega
  have w4:IntKind.i64.wrap ((j:Int)+1)=((j+1:Nat):Int):=by rw[←Int.natCast_succ];exact aq (by omega)
  have EC:=L6 Ls j hlt
  have hle:=Fb Ls (j+1)
  have L7:=Yj Ls j hlt
  have ct:Option.filter T.closed (some (sl eF Ls[j]))=some (sl eF Ls[j]):=b7 (by simp[-List.length_flatMap,sl])
  have hC1:∀a1 a3 a4 a5 a9 db fu a12 cS de m,m=(((Ls.take j).flatten++Ls[j]).length:Int)→C1 Ls (j+1) ⟨[],[.sl .any Ls.length (Ls.flatMap eL),a1,.v (.int .i64 m),a3,a4,a5,.sl .any Ls.length (Ls.flatMap eL),.v (.int .i64 Ls.length),.v (.int .i64 ((j+1:Nat):Int)),a9,db,fu,a12,cS,de],[none,none,none,none]⟩:=by
   rintro a1 a3 a4 a5 a9 db fu a12 cS de m rfl
   exact⟨a1,a3,a4,a5,a9,db,fu,a12,cS,de,by rw[EC];rfl⟩
  rw[EC,List.length_append]at hle
  have w5:IntKind.i64.wrap ((((Ls.take j).flatten.length:Nat):Int)+(Ls[j].length:Int))=(((Ls.take j).flatten++Ls[j]).length:Int):=by rw[List.length_append,Int.natCast_add,←Int.natCast_add];exact aq (by omega)
  generalize Ls[j]=B at*
  generalize (Ls.take j).flatten=A at*
  have tq:¬(((A++B).length:Nat):Int)< 0:=by omega
  simp[-List.length_flatMap,-List.length_flatten,-Int.natCast_add,-List.length_append,sl,hlt,bh,w4,L7,w5,tq]
  exact hC1 _ _ _ _ _ _ _ _ _ _ _ rfl
 ·have zr:j=Ls.length:=by omega
  subst zr
  rw[List.take_length]
  have hg:=af (aeX Ls.flatten.length (by omega))
  have Ae:=fun ρ η=>O7 ρ η Ls.flatten.length
  have Dz:(if Ls.flatten.length=0 then 0 else 5)=0∨(if Ls.flatten.length=0 then 0 else 5)=5:=by split<;>omega
  generalize hN:Ls.flatten.length=N at*
  generalize (if N=0 then 0 else 5)=c0 at*
  simp[-List.length_flatMap,-List.length_flatten,sl]
  refine Ab _ _ _ ?_
  rw[yd (r:= .au 0 0 0 c0) (os:=[.agg (zF N),.undef]) (by simp) (by simpa using hg) (by simp[-List.length_flatMap,dK])]
  simp[-List.length_flatMap,Ae,dC,eJ]
  refine m_loop Ls.length (C2 Ls) ⟨_,_,_,_,_,_,_,_,_,_,_,c0,Dz,.inl ⟨rfl,N,rfl⟩⟩ ?_
  clear hg Dz
  rintro j σ hj ⟨a0,a1,a2,a3,a5,a6,a7,a8,a9,db,de,c,hc,Xa⟩
  by_cases hlt:j< Ls.length
  ·have bh:(j:Int)< Ls.length:=by omega
   have w4:IntKind.i64.wrap ((j:Int)+1)=((j+1:Nat):Int):=by rw[←Int.natCast_succ];exact aq (by omega)
   have EC:=L6 Ls j hlt
   have hle:=Fb Ls (j+1)
   have L7:=Yj Ls j hlt
   have ct:Option.filter T.closed (some (sl eF Ls[j]))=some (sl eF Ls[j]):=b7 (by simp[-List.length_flatMap,sl])
   have O8:∀a0 a1 a2 a3 a5 a6 a7 a8 a9 db de m k cs,m=((Ls.take j).flatten++Ls[j]).length→k=(if m=0 then c else m*4)→cs=((Ls.take j).flatten++Ls[j]).flatMap eF→C2 Ls (j+1) ⟨[],[a0,a1,a2,a3,.au 2 0 m k,a5,a6,a7,a8,a9,db,.sl .any Ls.length (Ls.flatMap eL),.v (.int .i64 Ls.length),.v (.int .i64 ((j+1:Nat):Int)),de],[none,none,some cs,none]⟩:=by
    rintro a0 a1 a2 a3 a5 a6 a7 a8 a9 db de m k cs rfl rfl rfl
    exact⟨a0,a1,a2,a3,a5,a6,a7,a8,a9,db,de,c,hc,.inr (by rw[EC];rfl)⟩
   rw[EC,List.length_append]at hle
   rcases Xa with⟨rfl,N',rfl⟩|rfl
   ·simp only[List.take_zero,List.flatten_nil,List.nil_append]at O8
    generalize Ls[0]=B at*
    have O3:=lE B
    obtain⟨r1,r2⟩:B.length*32≤room∧B.length≤room:=by unfold room;omega
    simp[-List.length_flatMap,-List.length_flatten,-Int.natCast_add,-List.length_append,sl,hlt,L7]
    rw[lD _ _ _ _ _ _ _ _ _ _ _ 0 0 c B.length (B.flatMap eF)]
    rotate_left
    ·exact none
    ·rfl
    ·rfl
    ·rfl
    ·exact⟨.inr rfl,rfl,.inr ⟨rfl,hc⟩,by simp,O3,by simpa using r1,by simpa using r2,by simp[dJ]⟩
    simp[-List.length_flatMap,-List.length_flatten,-Int.natCast_add,St.drop]
    exact O8 _ _ _ _ _ _ _ _ _ _ _ _ _ _ rfl (by simp) rfl
   ·generalize Ls[j]=B at*
    generalize (Ls.take j).flatten=A at*
    have O3:=lE B
    have O9:=lE A
    obtain⟨r1,r2⟩:(A.length+B.length)*32≤room∧A.length+B.length≤room:=by unfold room;omega
    simp[-List.length_flatMap,-List.length_flatten,-Int.natCast_add,-List.length_append,sl,hlt,bh,L7]
    have hcc:(0< A.length∧(if A=[]then c else A.length*4)=A.length*4∨A.length=0∧((if A=[]then c else A.length*4)=0∨(if A=[]then c else A.length*4)=1+4)):=by
     by_cases h0:A.length=0
     ·right;rw[if_pos (List.eq_nil_of_length_eq_zero h0)];exact⟨h0,hc⟩
     ·left;rw[if_neg (fun hh=>h0 (by rw[hh];rfl))];exact⟨by omega,rfl⟩
    rw[lD _ _ _ _ _ _ _ _ _ _ _ 2 A.length _ B.length (B.flatMap eF)]
    rotate_left
    ·exact some (A.flatMap eF)
    ·rfl
    ·rfl
    ·rfl
    ·exact⟨.inl rfl,rfl,hcc,by simp[-List.length_flatMap,ai,O9],O3,r1,r2,by simp[dJ]⟩
    have fL:((ai [none,none,some (A.flatMap eF),none] 2).getD []).take (A.length*4)=A.flatMap eF:=List.take_of_length_le (by simp[-List.length_flatMap,ai,O9])
    rw[fL]
    simp[-List.length_flatMap,-List.length_flatten,-Int.natCast_add,St.drop,w4,Yi]
    refine O8 _ _ _ _ _ _ _ _ _ _ _ _ _ _ (by rw[List.length_append]) ?_ (by rw[List.flatMap_append])
    by_cases hA:A=[]<;>by_cases hB:B=[]<;>simp[hA,hB]
  ·have zr:j=Ls.length:=by omega
   subst zr
   rw[List.take_length,hN]at Xa
   have hFF:=lE Ls.flatten
   rw[hN]at hFF
   rcases Xa with⟨h0,N',rfl⟩|rfl
   ·have hLs:Ls=[]:=List.eq_nil_of_length_eq_zero h0
    subst hLs
    simp at hN
    subst hN
    simp
   ·simp[-List.length_flatMap,-List.length_flatten]
    by_cases SO:N=0
    ·have:Ls.flatten=[]:=List.eq_nil_of_length_eq_zero (by omega)
     rw[if_pos SO,SO,this];rfl
    ·rw[if_neg SO,if_neg SO,←hFF,List.take_length,Rq];rfl
end Go.Vi.Sz
end
section
set_option maxRecDepth 100000
set_option maxHeartbeats 4000000
namespace Go.Vi.Sz
open Go Go.Vi Go.Vi.Zz
def ra:T:= .bq (.func kU) [] [.ref 8 0,.ref 2 0]
def pI(B i:Nat):Nat:=B+i
def BU(B n:Nat):List Nat:=(List.range' 0 n).map (pI B)
theorem jc(d B n k:Nat)(hn:n≤8)(h1:hit (2*d) k=false)(h2:k< B∨B+8≤k):gu d (BU B n) k=some k:=by
 have hc:(BU B n).contains k=false:=by
  rw[Bool.eq_false_iff]
  intro h
  rw[List.contains_iff_mem]at h
  unfold BU pI at h
  simp at h
  omega
 unfold gu
 rw[hc,h1]
 rfl
section
variable{k:List Fr}{Q:Out→Prop}{outs:List (Option Nat)}{rest:nQ}
theorem Yl{d ad g ar}(rs vars:List T)(bx:List (Option (List T))){f:FuncId}{first cap:List T}(hg:eQ (g.get ⟨rs,vars,bx⟩)=some (f,first,cap))(h:P1 E (ae.ez (CR E) ⟨rs,vars,bx⟩ d ad f (first++ar.map (ag.get ⟨rs,vars,bx⟩)++cap)) rest outs k Q):O E ((none,.callvio d ad g ar)::rest) outs k ⟨rs,vars,bx⟩ Q:=by
 unfold O
 rw[eu]
 obtain⟨p,h1,h2⟩:=h
 obtain⟨n,hn⟩:=LX h1
 refine⟨n,p, ?_,h2⟩
 simp only[ae,hg]
 exact hn
theorem Jc(d:Nat)(g a1 a2 a3:ag)(rs vars:List T)(bx:List (Option (List T)))(F:FM)(B:Nat)(layer c ino slot:Int)(hg:g.get ⟨rs,vars,bx⟩=ra)(h1:a1.get ⟨rs,vars,bx⟩= .v (.int .i64 c))(h2:a2.get ⟨rs,vars,bx⟩= .v (.int .i64 ino))(h3:a3.get ⟨rs,vars,bx⟩= .v (.int .i64 slot))
  (hb8:ai bx 8=some [.aQ 19]) (UZ:ai bx 19=some (dF (pI B) 0 F)) (tO:ai bx 2=some [.v (.int .i64 layer)]) (hF:F.length≤7) (hl:(gF c F).length≤10000)
  (h:P1 E (some (.al [],⟨ah some (gu d (BU B F.length)) rs,ah some (gu d (BU B F.length)) vars,
   (((bx.map (Option.map (ah some (gu d (BU B F.length))))).set 8 (some [.aQ 19])).set 19 (some (dF (pI (8*d)) 0 (dV c ⟨c,layer,ino,slot⟩ F)))).set 2 (some [.v (.int .i64 layer)])⟩)) rest outs k Q):
  O E ((none,.callvio d [] g [a1,a2,a3])::rest) outs k ⟨rs,vars,bx⟩ Q:=by
 refine Yl (f:=kU) (first:=[]) (cap:=[.ref 8 0,.ref 2 0]) rs vars bx (by rw[hg];rfl) ?_
 have ht:=af (aeU F hF c ino slot layer hl)
 have hlen:=(HL c ⟨c,layer,ino,slot⟩ F)
 have hF':(dV c ⟨c,layer,ino,slot⟩ F).length≤8:=by have:=L5 c ⟨c,layer,ino,slot⟩ F;omega
 have R5:gX (dF (pI B) 0 F)=BU B F.length:=Nb _ _ _
 have jH:ah (iU [8,19,2]) (rM (BU B F.length)) (dF (pI B) 0 F)=dF pH 0 F:=BS _ _ _ _ F 0 fun j _ hj=>by
  unfold rM BU
  rw[Ko (pI B) F.length (fun a b _ _ h=>by unfold pI at h;omega) j (by omega)]
  rfl
 have TS:∀ρ,ah ρ (fH d) (dF (fun i=>i) 0 (dV c ⟨c,layer,ino,slot⟩ F))=dF (pI (8*d)) 0 (dV c ⟨c,layer,ino,slot⟩ F):=fun ρ=>BS _ _ _ _ _ 0 fun j _ hj=>by
  unfold fH pI
  rw[if_pos (by omega)]
 have hmr:(T.aQ 19).eO=[]:=by simp[T.eO]
 have i8:List.findIdx? (fun x=>x==8) [8,19,2]=some 0:=rfl
 have i19:List.findIdx? (fun x=>x==19) [8,19,2]=some 1:=rfl
 have i2:List.findIdx? (fun x=>x==2) [8,19,2]=some 2:=rfl
 have FO:∀s,jb [8,19,2] [.agg [.aQ 3],.undef,.undef,.agg (dF (fun i=>i) 0 (dV c ⟨c,layer,ino,slot⟩ F)),.agg [.v (.int .i64 layer)],.undef] s=some s:=by
  intro s
  unfold jb iU
  by_cases h8:s=8
  ·subst h8;rfl
  ·by_cases h19:s=19
   ·subst h19;rfl
   ·by_cases h2:s=2
    ·subst h2;rfl
    ·have:List.idxOf? s [8,19,2]=none:=by
      rw[List.idxOf?,List.findIdx?_eq_none_iff]
      intro x hx
      simp at hx
      rcases hx with rfl|rfl|rfl<;>simp<;>omega
     rw[this];rfl
 rw[xd (ss:=[8,19,2]) (fs:=BU B F.length) (r:= .al []) (os:=[.agg [.aQ 3],.undef,.undef,.agg (dF (fun i=>i) 0 (dV c ⟨c,layer,ino,slot⟩ F)),.agg [.v (.int .i64 layer)],.undef])
  (by simp[hb8,UZ,tO,h1,h2,h3,Nc]) (by simp[hb8,UZ,tO,R5,hmr]) rfl rfl (by simpa [h1,h2,h3,iU,fF,List.idxOf?,List.range,List.range.loop,hb8,UZ,tO,jH,i8,i19,i2]using ht) (by simp[hb8,UZ,tO])]
 rw[show jb [8,19,2] [.agg [.aQ 3],.undef,.undef,.agg (dF (fun i=>i) 0 (dV c ⟨c,layer,ino,slot⟩ F)),.agg [.v (.int .i64 layer)],.undef]=some from funext FO]
 simp[dC,eJ,fF,TS]
 simpa using h
end
end Go.Vi.Sz
end
section
set_option maxRecDepth 100000
set_option maxHeartbeats 4000000
namespace Go.Vi.Sz
open Go Go.Vi Go.Vi.Zz
theorem G4(x:aO)(h:lf x=true):zp x∧(x.kind=0→x=cz):=by
 unfold lf at h
 by_cases h0:x=cz
 ·subst h0
  refine⟨?_,fun _=>rfl⟩
  intro p hp
  simp[iS,cz]at hp
  subst hp
  omega
 ·rw[if_neg h0,Bool.and_eq_true]at h
  obtain⟨h1,h2⟩:=h
  simp[gT,Fc]at h1
  refine⟨?_,fun hk=> ?_⟩
  ·intro p hp
   simp[iS]at hp
   rcases hp with rfl|rfl|rfl|rfl|rfl<;>omega
  ·unfold Pa at h2
   rw[if_neg (by omega),if_neg (by omega),hk]at h2
   simp at h2
theorem U0(S:List (List UInt8)):∀x∈cJ S,zp x∧(x.kind=0→x=cz):=by
 intro x hx
 unfold cJ at hx
 rw[List.mem_map]at hx
 obtain⟨b,_,rfl⟩:=hx
 unfold nS
 split
 ·rename_i h
  exact G4 _ h.1
 ·exact G4 cz (by decide)
theorem U1(g l)(L:List aO)(I:Nat)(hI:I< L.length)(h:L[I]=cz):cQ g l L ((I+1:Nat):Int) 4=none:=by
 unfold cQ
 rw[if_neg]
 rintro⟨_,hv⟩
 have hs:=ye hv
 have hn:numOf ((I+1:Nat):Int) 4=5*I+4:=by unfold numOf;omega
 rw[hn,yy L I 4 hI (by omega),h]at hs
 simp[iS,cz]at hs
theorem Ym(g l)(L:List aO)(hL:∀x∈L,zp x∧(x.kind=0→x=cz))(special:Int)(I:Nat)(hI:I< L.length):
  na g l L special I=⟨L[I],(fw g l L ((I+1:Nat):Int)).getD [],if L[I].kind=1 then(aG g l L ((I+1:Nat):Int) special 16).1 else [],(rI g l L ((I+1:Nat):Int)).getD oM⟩∧
  CU g l L I=(rI g l L ((I+1:Nat):Int)).isSome:=by
 have hg:L.getD I cz=L[I]:=by rw[List.getD_eq_getElem?_getD,List.getElem?_eq_getElem hI,Option.getD_some]
 unfold na CU
 rw[hg]
 by_cases hk:L[I].kind=0
 ·have hx:=(hL L[I] (List.getElem_mem hI)).2 hk
  have hb:=U1 g l L I hI hx
  have hd:fw g l L ((I+1:Nat):Int)=none:=by
   unfold fw
   rw[if_neg]
   rintro⟨_,_,_,h⟩
   rw[show(((I+1:Nat):Int)-1).toNat=I by omega,hg,hk]at h
   omega
  have ha:rI g l L ((I+1:Nat):Int)=some oM:=by unfold rI;rw[hb]
  rw[if_pos hk,if_pos hk,hd,ha,hx,if_neg (by decide)]
  exact⟨rfl,rfl⟩
 ·rw[if_neg hk,if_neg hk]
  exact⟨rfl,rfl⟩
theorem xe(c c':Int)(f:fO):∀F:FM,gF c' (dV c f F)=if c'=c then gF c F++[f]else gF c' F
 | []=>by
  simp only[dV,gF]
  split<;>simp
 |p::F=>by
  have ih:=xe c c' f F
  simp only[dV]
  by_cases h:c=p.1
  ·rw[if_pos h]
   simp only[gF,if_pos h]
   by_cases h2:c'=c
   ·rw[if_pos h2,if_pos h2]
   ·rw[if_neg h2,if_neg h2,if_neg (by omega)]
  ·rw[if_neg h]
   simp only[gF,if_neg h]
   by_cases h2:c'=p.1
   ·rw[if_pos h2,if_neg (by omega),if_pos h2]
   ·rw[if_neg h2,ih,if_neg h2]
theorem xf(c c':Int)(f:fO):∀F:FM,gG c' (dV c f F)=(decide (c'=c)||gG c' F)
 | []=>by
  simp only[dV,gG]
  split<;>simp[*]
 |p::F=>by
  have ih:=xf c c' f F
  simp only[dV]
  by_cases h:c=p.1
  ·rw[if_pos h]
   simp only[gG]
   by_cases h2:c'=c
   ·rw[if_pos h2,if_pos (by omega)];simp[h2]
   ·rw[if_neg h2,if_neg (by omega)];simp[h2]
  ·rw[if_neg h]
   simp only[gG]
   by_cases h2:c'=p.1
   ·rw[if_pos h2,if_pos h2];simp
   ·rw[if_neg h2,ih,if_neg h2]
def n4(F:FM):Nat:=(gG 1 F).toNat+(gG 4 F).toNat+(gG 2 F).toNat+(gG 5 F).toNat
structure FI(F:FM)(p1 p4 p2 p5:List fO):Prop where
 len:F.length≤n4 F
 g1:gF 1 F=p1
 g4:gF 4 F=p4
 g2:gF 2 F=p2
 g5:gF 5 F=p5
theorem FI.zu{F p1 p4 p2 p5}(h:FI F p1 p4 p2 p5):F.length≤7:=by
 have h1:=h.len
 unfold n4 at h1
 have a1:(gG 1 F).toNat≤1:=by cases gG 1 F<;>decide
 have a2:(gG 4 F).toNat≤1:=by cases gG 4 F<;>decide
 have a3:(gG 2 F).toNat≤1:=by cases gG 2 F<;>decide
 have a4:(gG 5 F).toNat≤1:=by cases gG 5 F<;>decide
 omega
theorem CV(c:Int)(f:fO)(F:FM)(h:F.length≤n4 F)(hc:c=1∨c=4∨c=2∨c=5):(dV c f F).length≤n4 (dV c f F):=by
 obtain⟨k1,k2⟩:=HL c f F
 unfold n4 at h⊢
 rw[xf,xf,xf,xf]
 cases hh:gG c F
 ·have:=(k2 hh).2
  rcases hc with rfl|rfl|rfl|rfl<;>rw[hh]at h<;>simp at h⊢<;>omega
 ·have:=(k1 hh).2
  rcases hc with rfl|rfl|rfl|rfl<;>rw[hh]at h<;>simp at h⊢<;>omega
theorem ahb:FI [] [] [] [] []:=⟨Nat.zero_le _,rfl,rfl,rfl,rfl⟩
theorem FI.t1{F p1 p4 p2 p5}(h:FI F p1 p4 p2 p5)(f:fO):FI (dV 1 f F) (p1++[f]) p4 p2 p5:=by
 refine⟨CV 1 f F h.len (by omega), ?_, ?_, ?_, ?_⟩<;>rw[xe]
 ·rw[if_pos rfl,h.g1]
 ·rw[if_neg (by omega),h.g4]
 ·rw[if_neg (by omega),h.g2]
 ·rw[if_neg (by omega),h.g5]
theorem FI.t4{F p1 p4 p2 p5}(h:FI F p1 p4 p2 p5)(f:fO):FI (dV 4 f F) p1 (p4++[f]) p2 p5:=by
 refine⟨CV 4 f F h.len (by omega), ?_, ?_, ?_, ?_⟩<;>rw[xe]
 ·rw[if_neg (by omega),h.g1]
 ·rw[if_pos rfl,h.g4]
 ·rw[if_neg (by omega),h.g2]
 ·rw[if_neg (by omega),h.g5]
theorem FI.t2{F p1 p4 p2 p5}(h:FI F p1 p4 p2 p5)(f:fO):FI (dV 2 f F) p1 p4 (p2++[f]) p5:=by
 refine⟨CV 2 f F h.len (by omega), ?_, ?_, ?_, ?_⟩<;>rw[xe]
 ·rw[if_neg (by omega),h.g1]
 ·rw[if_neg (by omega),h.g4]
 ·rw[if_pos rfl,h.g2]
 ·rw[if_neg (by omega),h.g5]
theorem FI.t5{F p1 p4 p2 p5}(h:FI F p1 p4 p2 p5)(f:fO):FI (dV 5 f F) p1 p4 p2 (p5++[f]):=by
 refine⟨CV 5 f F h.len (by omega), ?_, ?_, ?_, ?_⟩<;>rw[xe]
 ·rw[if_neg (by omega),h.g1]
 ·rw[if_neg (by omega),h.g4]
 ·rw[if_neg (by omega),h.g2]
 ·rw[if_pos rfl,h.g5]
end Go.Vi.Sz
end
