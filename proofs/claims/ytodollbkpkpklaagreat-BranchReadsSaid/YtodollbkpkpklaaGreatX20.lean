/-
  A claim's own text, joined by a small program out of: H31, H32, H33, H34, H40, H35, H36, H37, H38.
-/
import Derived.Test.YtodollbkpkpklaaGreatX7
import Derived.Test.YtodollbkpkpklaaGreatX19
set_option linter.unusedVariables false
set_option linter.unusedSimpArgs false
section
set_option maxRecDepth 100000
namespace Go.Vi.Sz
open Go Go.Vi Go.Vi.Zz
def jc(L:List aO)(special:Int)(st:EW)(e:bN):EW:=if sQ L special e st.1=true then(st.1++[e],st.2)else(st.1,st.2++[e.slot])
def UB(L:List aO)(special:Int)(b:List UInt8)(k:Nat)(st:EW):EW:=(cN b k 4).foldl (jc L special) (st.1,st.2++mS b k 4)
def oM(g:cA)(l:List (List UInt8))(L:List aO)(ino special:Int):Nat→EW
 |0=>([],[])
 |k+1=>match cM g l L ino (k:Int)with
  |none=>oM g l L ino special k
  |some b=>UB L special b k (oM g l L ino special k)
def rm(g:cA)(l:List (List UInt8))(L:List aO)(ino:Int):Nat→Bool
 |0=>false
 |k+1=>rm g l L ino k||(cM g l L ino (k:Int)).isSome
theorem Sl{g l L ino b}(special:Int)(k:Nat)(h:cM g l L ino (k:Int)=some b)(V X:List Int)(hV:V.Perm ((aH g l L ino special (4*k)).2++X)):
  ∀j,j≤4→((cN b k j).foldl (jc L special) ((aH g l L ino special (4*k)).1,V)).1=(aH g l L ino special (4*k+j)).1∧
   (((cN b k j).foldl (jc L special) ((aH g l L ino special (4*k)).1,V)).2++mS b k j).Perm ((aH g l L ino special (4*k+j)).2++X)
 |0,_=>by
  refine⟨rfl, ?_⟩
  simpa [cN,mS]using hV
 |j+1,hj=>by
  obtain⟨h1,h2⟩:=Sl special k h V X hV j (by omega)
  rw[IG special k j (by omega) h,zD,Ex,List.foldl_append]
  generalize (cN b k j).foldl (jc L special) ((aH g l L ino special (4*k)).1,V)=res at*
  have sY:=fun e=>(Hg:nD (lU b j) ((4*k+j:Nat):Int)=some (some e)→_)
  generalize nD (lU b j) ((4*k+j:Nat):Int)=o at*
  generalize aH g l L ino special (4*k+j)=st at*
  obtain⟨A,B⟩:=st
  obtain⟨A',W⟩:=res
  simp only at h1 h2
  subst h1
  have hc:=fun a=>List.perm_iff_count.1 h2 a
  simp only[List.count_append]at hc
  rcases o with _|_|e
  ·refine⟨rfl,List.perm_iff_count.2 fun a=> ?_⟩
   have:=hc a
   simp only[mI,List.count_append,Option.getD_none,Option.toList_none,List.foldl_nil,Option.isSome_none,Bool.false_eq_true,if_false]at this⊢
   omega
  ·refine⟨rfl, ?_⟩
   simpa [mI]using h2
  ·have hs:=(sY e rfl).2
   simp only[mI,Option.getD_some,Option.toList_some,List.foldl_cons,List.foldl_nil,jc,Option.isSome_some,if_true,List.append_nil]
   split
   ·exact⟨rfl,h2⟩
   ·refine⟨rfl,List.perm_iff_count.2 fun a=> ?_⟩
    have:=hc a
    rw[hs]
    simp only[List.count_append]at this⊢
    omega
theorem Fv(g l L ino special):∀k,(oM g l L ino special k).1=(aH g l L ino special (4*k)).1∧(oM g l L ino special k).2.Perm (aH g l L ino special (4*k)).2
 |0=>⟨rfl,.refl _⟩
 |k+1=>by
  obtain⟨h1,h2⟩:=Fv g l L ino special k
  unfold oM
  cases h:cM g l L ino (k:Int)with
  |none=>
   rw[Ch special k h]
   exact⟨h1,h2⟩
  |some b=>
   simp only[UB]
   have:=Sl special k h ((oM g l L ino special k).2++mS b k 4) (mS b k 4) (h2.append_right _) 4 (Nat.le_refl _)
   rw[←h1]at this
   exact⟨this.1,(List.perm_append_right_iff _).1 this.2⟩
theorem IH(g l L ino special):∀n,(aH g l L ino special n).2.Pairwise (· ≤·)∧∀z∈(aH g l L ino special n).2,z< (n:Int)
 |0=>by simp[aH]
 |n+1=>by
  obtain⟨h1,h2⟩:=IH g l L ino special n
  have h3:∀z∈(aH g l L ino special n).2,z< ((n+1:Nat):Int):=fun z hz=>by have:=h2 z hz;omega
  have h4:((aH g l L ino special n).2++[(n:Int)]).Pairwise (· ≤·)∧∀z∈(aH g l L ino special n).2++[(n:Int)],z< ((n+1:Nat):Int):=by
   refine⟨List.pairwise_append.2 ⟨h1,by simp,fun a ha b hb=> ?_⟩,fun z hz=> ?_⟩
   ·simp only[List.mem_singleton]at hb
    subst hb
    have:=h2 a ha
    omega
   ·rcases List.mem_append.1 hz with hz|hz
    ·exact h3 z hz
    ·simp only[List.mem_singleton]at hz
     omega
  unfold aH
  split
  ·exact⟨h1,h3⟩
  ·rename_i o _
   unfold mI
   split
   ·exact h4
   ·exact⟨h1,h3⟩
   ·split
    ·exact⟨h1,h3⟩
    ·exact h4
theorem UC(g l L ino special):(oM g l L ino special 4).1=(aH g l L ino special 16).1∧lO (oM g l L ino special 4).2=(aH g l L ino special 16).2:=
 ⟨(Fv g l L ino special 4).1,Od (Fv g l L ino special 4).2 (IH g l L ino special 16).1⟩
theorem Sm(g l L ino special k):(oM g l L ino special k).1.length≤4*k∧(oM g l L ino special k).2.length≤4*k:=by
 obtain⟨h1,h2⟩:=Fv g l L ino special k
 have:=pV g l L ino special (4*k)
 rw[h1,h2.length_eq]
 exact this
theorem Lx(L special):∀(es:List bN) (st:EW),(es.foldl (jc L special) st).1.length≤st.1.length+es.length∧(es.foldl (jc L special) st).2.length≤st.2.length+es.length
 | [],st=>by simp
 |e::es,st=>by
  have:=Lx L special es (jc L special st e)
  have h2:(jc L special st e).1.length≤st.1.length+1∧(jc L special st e).2.length≤st.2.length+1:=by unfold jc;split<;>simp
  simp only[List.foldl_cons,List.length_cons]
  omega
end Go.Vi.Sz
end
section
set_option maxRecDepth 100000
set_option maxHeartbeats 8000000
namespace Go.Vi.Sz
open Go Go.Vi Go.Vi.Zz
theorem OB(b k):∀n,∀e∈cN b k n,s6 e=true
 |0,e,h=>by simp[cN]at h
 |n+1,e,h=>by
  rw[zD,List.mem_append]at h
  rcases h with h|h
  ·exact OB b k n e h
  ·cases ho:nD (lU b n) ((4*k+n:Nat):Int)with
   |none=>rw[ho]at h;simp at h
   |some o=>
    rw[ho]at h
    cases o with
    |none=>simp at h
    |some e'=>
     simp at h
     subst h
     exact(Hg ho).1
theorem zE(z:Tag)(hz:z= .nil∨z= .clip)(k ρ)(A:List bN):(aB z k 105 eE A).al ρ some=aB z k 105 eE A:=by
 rcases hz with rfl|rfl<;>unfold aB<;>split<;>simp[T.al]
theorem tw(z:Tag)(hz:z= .nil∨z= .clip)(k d)(A:List bN)(h:hit d k=false):(aB z k 105 eE A).strip d=aB z k 105 eE A:=by
 rcases hz with rfl|rfl<;>unfold aB<;>split<;>simp[-List.length_flatMap,h]
theorem Q6(z:Tag)(hz:z= .nil∨z= .clip)(d)(A:List bN):(aB z 0 105 eE A).import d=aB z (8*d) 105 eE A:=by
 rcases hz with rfl|rfl<;>unfold aB<;>split<;>simp
theorem OC(d k)(hk:k< 2)(A:List Int):(aB .nil k 3 eN A).import d=aB .nil (8*d+k) 3 eN A:=by
 have:k=0∨k=1:=by omega
 rcases this with rfl|rfl<;>unfold aB<;>split<;>first|rfl|simp
section
variable{E:Env}{k:List Fr}{Q:Out→Prop}{outs:List (Option Nat)}{rest:nC}(rs vars:List T)(bx:List (Option (List T)))
theorem Sn(s e sz bytes:Nat)(zero:List T)(kind:Nat)(a b:ag)(m:Nat)(ys:List T)(ha:a.get ⟨rs,vars,bx⟩= .sl .nil 0 [])(hs:iH bx kind sz zero (b.get ⟨rs,vars,bx⟩)=some (m,ys))(ho:bx[s]? =some none)
  (h:ys.length=m*sz∧m*bytes≤room∧m≤room∧dE (b.get ⟨rs,vars,bx⟩) ys=true∧s%2=0):
  O E ((none,.appendB s e sz bytes zero kind a b)::rest) outs k ⟨rs,vars,bx⟩ Q=P1 E (some (.av s 0 m (m*sz),⟨rs,vars,bx.set s (some ys)⟩)) rest outs k Q:=by
 have hr:ae C0 ⟨rs,vars,bx⟩ (.appendB s e sz bytes zero kind a b)=some (.av s 0 m (m*sz),⟨rs,vars,bx.set s (some ys)⟩):=by
  simp only[ae,ha,hs,ho]
  rw[if_pos ⟨trivial,h⟩]
 rw[bH rfl,hr]
end
theorem aen(bx zero z k)(B:List Int):iH bx 0 1 zero (aB z k 3 eN B)=some (B.length,B.flatMap eN):=by
 unfold aB
 split
 ·rename_i h;subst h;rfl
 ·rfl
theorem abK(z k)(B:List Int)(ys:List T)(h:bn ys=true):dE (aB z k 3 eN B) ys=true:=by
 unfold aB;split<;>simp[dE]
def WB(f:Bool)(W:List Int)(x:T)(b4 b6:Option (List T)):Prop:=
 (f=false∧W=[]∧x= .sl .nil 0 []∧b4=none∧b6=none)∨(f=true∧x= .av 4 0 W.length W.length∧b4=some (W.flatMap eN)∧b6=none)∨(f=true∧x= .av 6 0 W.length W.length∧b4=none∧b6=some (W.flatMap eN))
def brT(f:Bool)(w:EW):T:= .an [aB .nil 0 105 eE w.1,if f then .sl (.own (if w.1=[]then 0 else 1) 3) w.2.length (w.2.flatMap eN)else .sl .nil 0 []]
def BrO(g:cA)(l:List (List UInt8))(L:List aO)(ino special:Int)(k:Nat)(σ:St):Prop:=∃a0 a4 a5 a8 a9 db fk a12 cP cJ cX a17 iC iD a20 a21 o x b4 b6,(o=none∨∃e,o=some (eE e))∧WB (rm g l L ino k) (oM g l L ino special k).2 x b4 b6∧
 σ=⟨[],[a0,.v (.int .i64 ino),.v (.int .i64 special),.ref 0 0,a4,a5,aB .nil 416 105 eE (oM g l L ino special k).1,x,a8,a9,db,fk,a12,cP,.v (.int .i64 k),cJ,cX,a17,iC,iD,a20,a21],
  [some (hY g (sl eS l) (.sl .any L.length (L.flatMap eI))),none,o,none,b4,none,b6,none,none,none]⟩
def XF(g:cA)(l:List (List UInt8))(L:List aO)(ino special:Int)(k:Nat)(P:List bN)(st0:EW)(j:Nat)(σ:St):Prop:=∃a0 a4 a5 a8 a9 db fk a12 cP cJ cX a20 a21 o x b4 b6,(o=none∨∃e,o=some (eE e))∧WB true ((P.take j).foldl (jc L special) st0).2 x b4 b6∧
 σ=⟨[],[a0,.v (.int .i64 ino),.v (.int .i64 special),.ref 0 0,a4,a5,aB .nil 416 105 eE ((P.take j).foldl (jc L special) st0).1,x,a8,a9,db,fk,a12,cP,.v (.int .i64 k),cJ,cX,aB .nil 256 105 eE P,.v (.int .i64 P.length),.v (.int .i64 j),a20,a21],
  [some (hY g (sl eS l) (.sl .any L.length (L.flatMap eI))),none,o,none,b4,none,b6,none,none,none]⟩
theorem mT(ρ η)(e:bN):ai ρ η (eE e)=eE e:=by simp[eE,T.al,ai]
theorem XG(g:Tag)(L:List bN)(n:Nat)(h:n< L.length):dR 3 (.sl g L.length (L.flatMap eE)) (.v (.int .i64 (n:Int)))=some (.ptr (L.flatMap eE) (n*3)):=by
 show(if 0≤(n:Int)∧(n:Int).toNat< L.length then some (T.ptr (L.flatMap eE) ((n:Int).toNat*3))else none)=_
 rw[if_pos (by omega),Int.toNat_natCast]
theorem XH(zs:List Int):B9 (zs.flatMap eN)=some zs:=by
 induction zs with
 |nil=>rfl
 |cons z zs ih=>
  have:(z::zs).flatMap eN= .v (.int .i64 z)::zs.flatMap eN:=rfl
  rw[this,B9,ih];rfl
theorem agu(zs:List Int):zs.map int64=zs.flatMap eN:=by
 induction zs with
 |nil=>rfl
 |cons z zs ih=>rw[List.map_cons,ih];rfl
theorem Ly:kJ (aq+gv)=some Io:=by
 unfold kJ
 rw[if_neg (by decide),if_neg (by decide),if_neg (by decide),if_pos rfl]
theorem abL:dC E (aq+gv) [.an [.sl .nil 0 []],.an []]=some (.an [.an [],.an []]):=by
 refine af ⟨1, ?_⟩
 simp only[aW,E,Ly]
 rfl
theorem abM(W:List Int)(h:W.length≤1000):dC E (aq+gv) [.an [.av 0 0 W.length W.length],.an [.agg (W.flatMap eN),.undef]]=some (.an [.an [],.an [.agg ((lO W).flatMap eN),.undef]]):=by
 refine af ⟨1, ?_⟩
 simp only[aW,E,Ly,Io,XH,Option.bind_some]
 rw[if_pos ⟨oW W,trivial,by omega⟩,agu]
theorem Lz(l:List Int):eh (l.flatMap eN)=[]:=by
 induction l with
 |nil=>simp
 |cons c l ih=>simp[eN,ih]
theorem LA(l:List Int):gQ (l.flatMap eN)=[]:=by
 induction l with
 |nil=>simp
 |cons c l ih=>simp[eN,ih]
theorem Ci(k ρ d)(A:List bN)(h:hit (2*d) k=false):(aB .nil k 105 eE A).al ρ (gg d [])=aB .nil k 105 eE A:=by
 unfold aB;split<;>simp[T.al,gg,h]
theorem UD(g:cA)(l:List (List UInt8))(hl:∀b∈l,b.length=64)(L:List aO)(hn:L.length≤10000)(hL:∀x∈L,xp x)(ino special:Int):
  Ev E gi [.agg (hY g (sl eS l) (.sl .any L.length (L.flatMap eI))),.v (.int .i64 ino),.v (.int .i64 special)] (brT (rm g l L ino 4) (aH g l L ino special 16)):=by
 refine aC (fn:=gl) rfl (by decide) rfl rfl rfl ?_
 have jj:=fun k=>af (Hh g l L hn hL ino k)
 have XI:=fun(e:bN) (he:0< e.ino∧e.ino≤65535) (out:List bN) (ho:out.length≤10000)=>af (aeo g (sl eS l) l.length (l.flatMap eS) rfl (UE l) L hn special e ⟨by omega,he.2⟩ out ho)
 have Hi:hY g (sl eS l) (.sl .any L.length (L.flatMap eI))=[.v (.int .i64 g.lowers),.v (.int .i64 g.aE),.v (.int .i64 g.blocks),.v (.int .i64 g.log),sl eS l,.sl .any L.length (L.flatMap eI)]:=rfl
 simp[-List.length_flatMap,gl,Hi]
 rw[bH rfl]
 simp[-List.length_flatMap,ae]
 refine abE _ ?_
 simp[-List.length_flatMap]
 refine m_loop 4 (BrO g l L ino special) ⟨_,_,_,_,_,_,_,_,_,_,_,_,_,_,_,_,_,_,_,_,.inl rfl,.inl ⟨rfl,rfl,rfl,rfl,rfl⟩,rfl⟩ ?_
 rintro k σ hk ⟨a0,a4,a5,a8,a9,db,fk,a12,cP,cJ,cX,a17,iC,iD,a20,a21,o,x,b4,b6,ho,hW,rfl⟩
 by_cases hlt:k< 4
 ·have hkI:(k:Int)< 4:=by omega
  have w4:IntKind.i64.wrap ((k:Int)+1)=((k+1:Nat):Int):=by rw[←Int.natCast_succ];exact au (by omega)
  have hb:=jj (k:Int)
  rw[Hi]at hb⊢
  cases nN:cM g l L ino (k:Int)with
  |none=>
   rw[nN]at hb
   simp only[iE]at hb
   have xz:oM g l L ino special (k+1)=oM g l L ino special k:=by rw[oM,nN]
   have agv:rm g l L ino (k+1)=rm g l L ino k:=by rw[rm,nN];simp
   rw[←xz]at hW⊢
   rw[←agv]at hW
   have aI:∀a0 a4 a5 a8 a9 db fk a12 cP cJ cX a17 iC iD a20 a21 o x b4 b6,(o=none∨∃e,o=some (eE e))→WB (rm g l L ino (k+1)) (oM g l L ino special (k+1)).2 x b4 b6→BrO g l L ino special (k+1) ⟨[],[a0,.v (.int .i64 ino),.v (.int .i64 special),.ref 0 0,a4,a5,aB .nil 416 105 eE (oM g l L ino special (k+1)).1,x,a8,a9,db,fk,a12,cP,.v (.int .i64 ((k+1:Nat):Int)),cJ,cX,a17,iC,iD,a20,a21],[some [.v (.int .i64 g.lowers),.v (.int .i64 g.aE),.v (.int .i64 g.blocks),.v (.int .i64 g.log),sl eS l,.sl .any L.length (L.flatMap eI)],none,o,none,b4,none,b6,none,none,none]⟩:=
    fun a0 a4 a5 a8 a9 db fk a12 cP cJ cX a17 iC iD a20 a21 o x b4 b6 ho hW=>⟨a0,a4,a5,a8,a9,db,fk,a12,cP,cJ,cX,a17,iC,iD,a20,a21,o,x,b4,b6,ho,hW,rfl⟩
   generalize (oM g l L ino special (k+1)).2=W at*
   generalize rm g l L ino (k+1)=f at*
   rcases hW with⟨hf,OD,rfl,rfl,rfl⟩|⟨hf,rfl,rfl,rfl⟩|⟨hf,rfl,rfl,rfl⟩<;>rcases ho with rfl|⟨e,rfl⟩<;>simp[-List.length_flatMap,-Int.natCast_add,hkI,hlt,hb,w4,tw,hit,T.fresh,T.fresh1,T.fresh2,fR]
   all_goals first
    |exact aI _ _ _ _ _ _ _ _ _ _ _ _ _ _ _ _ _ _ _ _ (.inl rfl) (.inl ⟨hf,OD,rfl,rfl,rfl⟩)
    |exact aI _ _ _ _ _ _ _ _ _ _ _ _ _ _ _ _ _ _ _ _ (.inr ⟨_,rfl⟩) (.inl ⟨hf,OD,rfl,rfl,rfl⟩)
    |exact aI _ _ _ _ _ _ _ _ _ _ _ _ _ _ _ _ _ _ _ _ (.inl rfl) (.inr (.inl ⟨hf,rfl,rfl,rfl⟩))
    |exact aI _ _ _ _ _ _ _ _ _ _ _ _ _ _ _ _ _ _ _ _ (.inr ⟨_,rfl⟩) (.inr (.inl ⟨hf,rfl,rfl,rfl⟩))
    |exact aI _ _ _ _ _ _ _ _ _ _ _ _ _ _ _ _ _ _ _ _ (.inl rfl) (.inr (.inr ⟨hf,rfl,rfl,rfl⟩))
    |exact aI _ _ _ _ _ _ _ _ _ _ _ _ _ _ _ _ _ _ _ _ (.inr ⟨_,rfl⟩) (.inr (.inr ⟨hf,rfl,rfl,rfl⟩))
  |some b=>
   rw[nN]at hb
   simp only[iE]at hb
   have fG:=tz hl nN
   have Oc:=af (abN b fG k hlt)
   have UF:oM g l L ino special (k+1)=UB L special b k (oM g l L ino special k):=by rw[oM,nN]
   have II:rm g l L ino (k+1)=true:=by rw[rm,nN];simp
   have yQ:=Sm g l L ino special k
   have XJ:=Hj b k 4
   have hPl:=Hk b k 4
   have sY:=OB b k 4
   unfold UB at UF
   have Nh:=Q6 .nil (.inl rfl) 32 (cN b k 4)
   have VY:=OC 32 (if cN b k 4=[]then 0 else 1) (by split<;>omega) (mS b k 4)
   have pI:(8*32+if cN b k 4=[]then 0 else 1)=256∨(8*32+if cN b k 4=[]then 0 else 1)=257:=by split<;>omega
   rw[abO]at Oc
   generalize (8*32+if cN b k 4=[]then 0 else 1)=kk at*
   have hsB:=fun bx zero=>aen bx zero .nil kk (mS b k 4)
   have hcB:=abK .nil kk (mS b k 4) ((mS b k 4).flatMap eN) (ot _)
   have OE:=oW (mS b k 4)
   have aI:∀a0 a4 a5 a8 a9 db fk a12 cP cJ cX a17 iC iD a20 a21 o x b4 b6,(o=none∨∃e,o=some (eE e))→WB (rm g l L ino (k+1)) (oM g l L ino special (k+1)).2 x b4 b6→BrO g l L ino special (k+1) ⟨[],[a0,.v (.int .i64 ino),.v (.int .i64 special),.ref 0 0,a4,a5,aB .nil 416 105 eE (oM g l L ino special (k+1)).1,x,a8,a9,db,fk,a12,cP,.v (.int .i64 ((k+1:Nat):Int)),cJ,cX,a17,iC,iD,a20,a21],[some [.v (.int .i64 g.lowers),.v (.int .i64 g.aE),.v (.int .i64 g.blocks),.v (.int .i64 g.log),sl eS l,.sl .any L.length (L.flatMap eI)],none,o,none,b4,none,b6,none,none,none]⟩:=
    fun a0 a4 a5 a8 a9 db fk a12 cP cJ cX a17 iC iD a20 a21 o x b4 b6 ho hW=>⟨a0,a4,a5,a8,a9,db,fk,a12,cP,cJ,cX,a17,iC,iD,a20,a21,o,x,b4,b6,ho,hW,rfl⟩
   generalize mS b k 4=B at*
   generalize hst:oM g l L ino special k=st at*
   obtain⟨A,W⟩:=st
   simp only at yQ UF hW⊢
   have UG:∀a0 a4 a5 a8 a9 db fk a12 cP cJ cX a20 a21 o x b4 b6,(o=none∨∃e,o=some (eE e))→WB true (W++B) x b4 b6→XF g l L ino special k (cN b k 4) (A,W++B) 0 ⟨[],[a0,.v (.int .i64 ino),.v (.int .i64 special),.ref 0 0,a4,a5,aB .nil 416 105 eE A,x,a8,a9,db,fk,a12,cP,.v (.int .i64 k),cJ,cX,aB .nil 256 105 eE (cN b k 4),.v (.int .i64 (cN b k 4).length),.v (.int .i64 0),a20,a21],
     [some [.v (.int .i64 g.lowers),.v (.int .i64 g.aE),.v (.int .i64 g.blocks),.v (.int .i64 g.log),sl eS l,.sl .any L.length (L.flatMap eI)],none,o,none,b4,none,b6,none,none,none]⟩:=
    fun a0 a4 a5 a8 a9 db fk a12 cP cJ cX a20 a21 o x b4 b6 ho hW=>⟨a0,a4,a5,a8,a9,db,fk,a12,cP,cJ,cX,a20,a21,o,x,b4,b6,ho,hW,rfl⟩
   have hWF:=oW W
   obtain⟨r1,r2,r3,r4⟩:(W.length+B.length)*8≤room∧W.length+B.length≤room∧B.length*8≤room∧B.length≤room:=by unfold room;omega
   have Sp:∀d,Option.map (stripL d) o=o:=by rcases ho with rfl|⟨e,rfl⟩<;>intro d<;>simp
   have LB:∀ρ η,Option.map (ai ρ η) o=o:=by rcases ho with rfl|⟨e,rfl⟩<;>intro ρ η<;>simp[mT]
   have hif:(if W=[]∧B=[]then W.length else W.length+B.length)=W.length+B.length:=by
    split
    ·rename_i h;rw[h.1,h.2];rfl
    ·rfl
   have tj:(0< W.length∧W.length=W.length*1∨W.length=0∧(W.length=0∨W.length=1+1)):=by omega
   rcases hW with⟨hf,OD,rfl,rfl,rfl⟩|⟨hf,rfl,rfl,rfl⟩|⟨hf,rfl,rfl,rfl⟩
   case' inl=>
    simp[-List.length_flatMap,-Int.natCast_add,hkI,hlt,hb,Oc,Nh,VY,tw,hit,T.fresh,T.fresh1,T.fresh2,Sp]
    rw[Sn _ _ _ _ _ _ _ _ _ _ _ B.length (B.flatMap eN)]
    rotate_left
    ·rfl
    ·exact hsB _ _
    ·rfl
    ·exact⟨by rw[OE];omega,r3,r4,hcB,rfl⟩
    simp[-List.length_flatMap,-Int.natCast_add,vj]
    refine m_loop (cN b k 4).length (XF g l L ino special k (cN b k 4) (A,W++B)) (UG _ _ _ _ _ _ _ _ _ _ _ _ _ _ _ _ _ ho (.inr (.inl ⟨rfl,by rw[OD,List.nil_append],by rw[OD,List.nil_append],rfl⟩))) ?_
   case' inr.inl=>
    simp[-List.length_flatMap,-Int.natCast_add,hkI,hlt,hb,Oc,Nh,VY,tw,hit,T.fresh,T.fresh1,T.fresh2,fR,Sp]
    rw[lf _ _ _ _ _ _ _ _ _ _ _ 4 W.length W.length B.length (B.flatMap eN)]
    rotate_left
    ·exact(some (W.flatMap eN))
    ·rfl
    ·exact hsB _ _
    ·rfl
    ·exact⟨.inl rfl,rfl,tj,by simp[-List.length_flatMap,aj,hWF],by rw[OE];omega,r1,r2,hcB⟩
    have fS:((aj [some [T.v (.int .i64 g.lowers),.v (.int .i64 g.aE),.v (.int .i64 g.blocks),.v (.int .i64 g.log),sl eS l,.sl .any L.length (L.flatMap eI)],none,o,none,some (W.flatMap eN),none,none,none,none,none] 4).getD []).take (W.length*1)=W.flatMap eN:=List.take_of_length_le (by simp[-List.length_flatMap,aj,hWF])
    rw[fS]
    simp[-List.length_flatMap,-Int.natCast_add,vj,St.drop,LB,zE,T.al,ai,eR]
    rw[hif]
    refine m_loop (cN b k 4).length (XF g l L ino special k (cN b k 4) (A,W++B)) (UG _ _ _ _ _ _ _ _ _ _ _ _ _ _ _ _ _ ho (.inr (.inl ⟨rfl,by rw[List.length_append],by rw[List.flatMap_append],rfl⟩))) ?_
   case' inr.inr=>
    simp[-List.length_flatMap,-Int.natCast_add,hkI,hlt,hb,Oc,Nh,VY,tw,hit,T.fresh,T.fresh1,T.fresh2,fR,Sp]
    rw[lf _ _ _ _ _ _ _ _ _ _ _ 6 W.length W.length B.length (B.flatMap eN)]
    rotate_left
    ·exact none
    ·rfl
    ·exact hsB _ _
    ·rfl
    ·exact⟨.inr rfl,rfl,tj,by simp[-List.length_flatMap,aj,hWF],by rw[OE];omega,r1,r2,hcB⟩
    have fS:((aj [some [T.v (.int .i64 g.lowers),.v (.int .i64 g.aE),.v (.int .i64 g.blocks),.v (.int .i64 g.log),sl eS l,.sl .any L.length (L.flatMap eI)],none,o,none,none,none,some (W.flatMap eN),none,none,none] 6).getD []).take (W.length*1)=W.flatMap eN:=List.take_of_length_le (by simp[-List.length_flatMap,aj,hWF])
    rw[fS]
    simp[-List.length_flatMap,-Int.natCast_add,vj,St.drop,LB,zE,T.al,ai,eR]
    rw[hif]
    refine m_loop (cN b k 4).length (XF g l L ino special k (cN b k 4) (A,W++B)) (UG _ _ _ _ _ _ _ _ _ _ _ _ _ _ _ _ _ ho (.inr (.inl ⟨rfl,by rw[List.length_append],by rw[List.flatMap_append],rfl⟩))) ?_
   all_goals
    rintro j σ hj ⟨a0,a4,a5,a8,a9,db,fk,a12,cP,cJ,cX,a20,a21,o,x,b4,b6,ho,hW,rfl⟩
    rw[Hi]
    rw[Hi]at XI
    by_cases jb:j< (cN b k 4).length
    ·have qP:(j:Int)< (cN b k 4).length:=by omega
     have agw:cN b k 4≠[]:=by intro hh;rw[hh]at jb;simp at jb
     have w5:IntKind.i64.wrap ((j:Int)+1)=((j+1:Nat):Int):=by rw[←Int.natCast_succ];exact au (by omega)
     have dA:=XG (.own 256 105) (cN b k 4) j jb
     have bq:=XK (cN b k 4) j jb
     have b9:Option.filter T.closed (some (T.agg (eE (cN b k 4)[j])))=some (T.agg (eE (cN b k 4)[j])):=bJ (by simp[eE])
     have he:=sY _ (List.getElem_mem jb)
     have anm:(cN b k 4).take (j+1)=(cN b k 4).take j++[(cN b k 4)[j]]:=by rw[List.take_succ_eq_append_getElem jb]
     generalize (cN b k 4)[j]=e at*
     have hlen:=Lx L special ((cN b k 4).take j) (A,W++B)
     have htl:((cN b k 4).take j).length≤4:=by rw[List.length_take];omega
     have D9:((cN b k 4).take (j+1)).foldl (jc L special) (A,W++B)=jc L special (((cN b k 4).take j).foldl (jc L special) (A,W++B)) e:=by rw[anm,List.foldl_append];rfl
     have sR:∀a0 a4 a5 a8 a9 db fk a12 cP cJ cX a20 a21 o x b4 b6 X,(o=none∨∃e,o=some (eE e))→WB true (((cN b k 4).take (j+1)).foldl (jc L special) (A,W++B)).2 x b4 b6→X=aB .nil 416 105 eE (((cN b k 4).take (j+1)).foldl (jc L special) (A,W++B)).1→XF g l L ino special k (cN b k 4) (A,W++B) (j+1) ⟨[],[a0,.v (.int .i64 ino),.v (.int .i64 special),.ref 0 0,a4,a5,X,x,a8,a9,db,fk,a12,cP,.v (.int .i64 k),cJ,cX,.sl (.own 256 105) (cN b k 4).length ((cN b k 4).flatMap eE),.v (.int .i64 (cN b k 4).length),.v (.int .i64 ((j+1:Nat):Int)),a20,a21],[some [.v (.int .i64 g.lowers),.v (.int .i64 g.aE),.v (.int .i64 g.blocks),.v (.int .i64 g.log),sl eS l,.sl .any L.length (L.flatMap eI)],none,o,none,b4,none,b6,none,none,none]⟩:=by
      rintro a0 a4 a5 a8 a9 db fk a12 cP cJ cX a20 a21 o x b4 b6 X ho hW rfl
      exact⟨a0,a4,a5,a8,a9,db,fk,a12,cP,cJ,cX,a20,a21,o,x,b4,b6,ho,hW,by rw[aA _ _ _ _ agw];rfl⟩
     rw[D9]at sR
     rw[aA _ _ _ _ agw]
     generalize ((cN b k 4).take j).foldl (jc L special) (A,W++B)=st at*
     obtain⟨A2,W2⟩:=st
     simp only[List.length_append]at hlen hW sR⊢
     obtain⟨_,lx,_⟩:=Ey he
     have ea:=XI e lx A2 (by omega)
     have GC:=JY A2
     have hA2:=Cj A2
     have hA4:=fun d=>Ez d A2
     have rp:=oW W2
     obtain⟨r5,r6,r7,r8⟩:(A2.length+1)*32≤room∧A2.length+1≤room∧32≤room∧1≤room:=by unfold room;omega
     obtain⟨q1,q2⟩:(W2.length+1)*8≤room∧W2.length+1≤room:=by unfold room;omega
     have yw:(0< W2.length∧W2.length=W2.length*1∨W2.length=0∧(W2.length=0∨W2.length=1+1)):=by omega
     have mz:cr (eE e) 0=some (.v (.int .i64 e.slot)):=rfl
     cases hG:sQ L special e A2
     ·rw[hG]at ea
      have OF:jc L special (A2,W2) e=(A2,W2++[e.slot]):=by unfold jc;rw[hG,if_neg (by decide)]
      rw[OF]at sR
      have hWn:W2.flatMap eN++[T.v (.int .i64 e.slot)]=(W2++[e.slot]).flatMap eN:=by rw[List.flatMap_append];rfl
      by_cases tA:A2=[]
      ·rw[tA]at ea sR⊢
       simp only[List.length_nil,List.flatMap_nil]at ea
       rw[aK]
       rcases hW with⟨hf,_⟩|⟨hf,rfl,rfl,rfl⟩|⟨hf,rfl,rfl,rfl⟩<;>(try cases hf;done)<;>rcases ho with rfl|⟨e0,rfl⟩
       case' inr.inl.inl=>
        simp[-List.length_flatMap,-Int.natCast_add,jb,qP,dA,bq,b9,ea,hit,mz,ji,T.fresh,T.fresh1,T.fresh2,fR]
        rw[lf _ _ _ _ _ _ _ _ _ _ _ 4 W2.length W2.length 1 [.v (.int .i64 e.slot)]]
        rotate_left
        ·exact none
        ·rfl
        ·rfl
        ·rfl
        ·exact⟨.inr rfl,rfl,yw,by simp[-List.length_flatMap,aj,rp],rfl,q1,q2,rfl⟩
        have fS:((aj [some [T.v (.int .i64 g.lowers),.v (.int .i64 g.aE),.v (.int .i64 g.blocks),.v (.int .i64 g.log),sl eS l,.sl .any L.length (L.flatMap eI)],none,some (eE e),none,some (W2.flatMap eN),none,none,none,none,none] 4).getD []).take (W2.length*1)=W2.flatMap eN:=List.take_of_length_le (by simp[-List.length_flatMap,aj,rp])
        rw[fS]
        simp[-List.length_flatMap,-Int.natCast_add,St.drop,w5,T.al,ai,mT,eR]
       case' inr.inl.inr=>
        simp[-List.length_flatMap,-Int.natCast_add,jb,qP,dA,bq,b9,ea,hit,mz,ji,T.fresh,T.fresh1,T.fresh2,fR]
        rw[lf _ _ _ _ _ _ _ _ _ _ _ 4 W2.length W2.length 1 [.v (.int .i64 e.slot)]]
        rotate_left
        ·exact none
        ·rfl
        ·rfl
        ·rfl
        ·exact⟨.inr rfl,rfl,yw,by simp[-List.length_flatMap,aj,rp],rfl,q1,q2,rfl⟩
        have fS:((aj [some [T.v (.int .i64 g.lowers),.v (.int .i64 g.aE),.v (.int .i64 g.blocks),.v (.int .i64 g.log),sl eS l,.sl .any L.length (L.flatMap eI)],none,some (eE e),none,some (W2.flatMap eN),none,none,none,none,none] 4).getD []).take (W2.length*1)=W2.flatMap eN:=List.take_of_length_le (by simp[-List.length_flatMap,aj,rp])
        rw[fS]
        simp[-List.length_flatMap,-Int.natCast_add,St.drop,w5,T.al,ai,mT,eR]
       case' inr.inr.inl=>
        simp[-List.length_flatMap,-Int.natCast_add,jb,qP,dA,bq,b9,ea,hit,mz,ji,T.fresh,T.fresh1,T.fresh2,fR]
        rw[lf _ _ _ _ _ _ _ _ _ _ _ 6 W2.length W2.length 1 [.v (.int .i64 e.slot)]]
        rotate_left
        ·exact some (W2.flatMap eN)
        ·rfl
        ·rfl
        ·rfl
        ·exact⟨.inl rfl,rfl,yw,by simp[-List.length_flatMap,aj,rp],rfl,q1,q2,rfl⟩
        have fS:((aj [some [T.v (.int .i64 g.lowers),.v (.int .i64 g.aE),.v (.int .i64 g.blocks),.v (.int .i64 g.log),sl eS l,.sl .any L.length (L.flatMap eI)],none,some (eE e),none,none,none,some (W2.flatMap eN),none,none,none] 6).getD []).take (W2.length*1)=W2.flatMap eN:=List.take_of_length_le (by simp[-List.length_flatMap,aj,rp])
        rw[fS]
        simp[-List.length_flatMap,-Int.natCast_add,St.drop,w5,T.al,ai,mT,eR]
       case' inr.inr.inr=>
        simp[-List.length_flatMap,-Int.natCast_add,jb,qP,dA,bq,b9,ea,hit,mz,ji,T.fresh,T.fresh1,T.fresh2,fR]
        rw[lf _ _ _ _ _ _ _ _ _ _ _ 6 W2.length W2.length 1 [.v (.int .i64 e.slot)]]
        rotate_left
        ·exact some (W2.flatMap eN)
        ·rfl
        ·rfl
        ·rfl
        ·exact⟨.inl rfl,rfl,yw,by simp[-List.length_flatMap,aj,rp],rfl,q1,q2,rfl⟩
        have fS:((aj [some [T.v (.int .i64 g.lowers),.v (.int .i64 g.aE),.v (.int .i64 g.blocks),.v (.int .i64 g.log),sl eS l,.sl .any L.length (L.flatMap eI)],none,some (eE e),none,none,none,some (W2.flatMap eN),none,none,none] 6).getD []).take (W2.length*1)=W2.flatMap eN:=List.take_of_length_le (by simp[-List.length_flatMap,aj,rp])
        rw[fS]
        simp[-List.length_flatMap,-Int.natCast_add,St.drop,w5,T.al,ai,mT,eR]
       all_goals exact sR _ _ _ _ _ _ _ _ _ _ _ _ _ _ _ _ _ _ (.inr ⟨e,rfl⟩) (.inr (.inr ⟨rfl,by rw[List.length_append];rfl,rfl,by rw[hWn]⟩)) rfl
      ·rw[aA _ _ _ _ tA]
       rcases hW with⟨hf,_⟩|⟨hf,rfl,rfl,rfl⟩|⟨hf,rfl,rfl,rfl⟩<;>(try cases hf;done)<;>rcases ho with rfl|⟨e0,rfl⟩
       case' inr.inl.inl=>
        simp[-List.length_flatMap,-Int.natCast_add,jb,qP,dA,bq,b9,ea,hit,mz,ji,T.fresh,T.fresh1,T.fresh2,fR]
        rw[lf _ _ _ _ _ _ _ _ _ _ _ 4 W2.length W2.length 1 [.v (.int .i64 e.slot)]]
        rotate_left
        ·exact none
        ·rfl
        ·rfl
        ·rfl
        ·exact⟨.inr rfl,rfl,yw,by simp[-List.length_flatMap,aj,rp],rfl,q1,q2,rfl⟩
        have fS:((aj [some [T.v (.int .i64 g.lowers),.v (.int .i64 g.aE),.v (.int .i64 g.blocks),.v (.int .i64 g.log),sl eS l,.sl .any L.length (L.flatMap eI)],none,some (eE e),none,some (W2.flatMap eN),none,none,none,none,none] 4).getD []).take (W2.length*1)=W2.flatMap eN:=List.take_of_length_le (by simp[-List.length_flatMap,aj,rp])
        rw[fS]
        simp[-List.length_flatMap,-Int.natCast_add,St.drop,w5,T.al,ai,mT,eR]
       case' inr.inl.inr=>
        simp[-List.length_flatMap,-Int.natCast_add,jb,qP,dA,bq,b9,ea,hit,mz,ji,T.fresh,T.fresh1,T.fresh2,fR]
        rw[lf _ _ _ _ _ _ _ _ _ _ _ 4 W2.length W2.length 1 [.v (.int .i64 e.slot)]]
        rotate_left
        ·exact none
        ·rfl
        ·rfl
        ·rfl
        ·exact⟨.inr rfl,rfl,yw,by simp[-List.length_flatMap,aj,rp],rfl,q1,q2,rfl⟩
        have fS:((aj [some [T.v (.int .i64 g.lowers),.v (.int .i64 g.aE),.v (.int .i64 g.blocks),.v (.int .i64 g.log),sl eS l,.sl .any L.length (L.flatMap eI)],none,some (eE e),none,some (W2.flatMap eN),none,none,none,none,none] 4).getD []).take (W2.length*1)=W2.flatMap eN:=List.take_of_length_le (by simp[-List.length_flatMap,aj,rp])
        rw[fS]
        simp[-List.length_flatMap,-Int.natCast_add,St.drop,w5,T.al,ai,mT,eR]
       case' inr.inr.inl=>
        simp[-List.length_flatMap,-Int.natCast_add,jb,qP,dA,bq,b9,ea,hit,mz,ji,T.fresh,T.fresh1,T.fresh2,fR]
        rw[lf _ _ _ _ _ _ _ _ _ _ _ 6 W2.length W2.length 1 [.v (.int .i64 e.slot)]]
        rotate_left
        ·exact some (W2.flatMap eN)
        ·rfl
        ·rfl
        ·rfl
        ·exact⟨.inl rfl,rfl,yw,by simp[-List.length_flatMap,aj,rp],rfl,q1,q2,rfl⟩
        have fS:((aj [some [T.v (.int .i64 g.lowers),.v (.int .i64 g.aE),.v (.int .i64 g.blocks),.v (.int .i64 g.log),sl eS l,.sl .any L.length (L.flatMap eI)],none,some (eE e),none,none,none,some (W2.flatMap eN),none,none,none] 6).getD []).take (W2.length*1)=W2.flatMap eN:=List.take_of_length_le (by simp[-List.length_flatMap,aj,rp])
        rw[fS]
        simp[-List.length_flatMap,-Int.natCast_add,St.drop,w5,T.al,ai,mT,eR]
       case' inr.inr.inr=>
        simp[-List.length_flatMap,-Int.natCast_add,jb,qP,dA,bq,b9,ea,hit,mz,ji,T.fresh,T.fresh1,T.fresh2,fR]
        rw[lf _ _ _ _ _ _ _ _ _ _ _ 6 W2.length W2.length 1 [.v (.int .i64 e.slot)]]
        rotate_left
        ·exact some (W2.flatMap eN)
        ·rfl
        ·rfl
        ·rfl
        ·exact⟨.inl rfl,rfl,yw,by simp[-List.length_flatMap,aj,rp],rfl,q1,q2,rfl⟩
        have fS:((aj [some [T.v (.int .i64 g.lowers),.v (.int .i64 g.aE),.v (.int .i64 g.blocks),.v (.int .i64 g.log),sl eS l,.sl .any L.length (L.flatMap eI)],none,some (eE e),none,none,none,some (W2.flatMap eN),none,none,none] 6).getD []).take (W2.length*1)=W2.flatMap eN:=List.take_of_length_le (by simp[-List.length_flatMap,aj,rp])
        rw[fS]
        simp[-List.length_flatMap,-Int.natCast_add,St.drop,w5,T.al,ai,mT,eR]
       all_goals exact sR _ _ _ _ _ _ _ _ _ _ _ _ _ _ _ _ _ _ (.inr ⟨e,rfl⟩) (.inr (.inr ⟨rfl,by rw[List.length_append];rfl,rfl,by rw[hWn]⟩)) (aA _ _ _ _ tA).symm
     ·rw[hG]at ea
      have OF:jc L special (A2,W2) e=(A2++[e],W2):=by unfold jc;rw[hG,if_pos rfl]
      rw[OF]at sR
      by_cases tA:A2=[]
      ·rw[tA]at ea sR⊢
       simp only[List.length_nil,List.flatMap_nil]at ea
       rw[aK]
       rcases hW with⟨hf,_⟩|⟨hf,rfl,rfl,rfl⟩|⟨hf,rfl,rfl,rfl⟩<;>(try cases hf;done)<;>rcases ho with rfl|⟨e0,rfl⟩<;>simp[-List.length_flatMap,-Int.natCast_add,jb,qP,dA,bq,b9,ea,w5,hit,ji,T.fresh,T.fresh1,T.fresh2,fR,r7,r8]
       all_goals first
        |exact sR _ _ _ _ _ _ _ _ _ _ _ _ _ _ _ _ _ _ (.inr ⟨e,rfl⟩) (.inr (.inl ⟨rfl,rfl,rfl,rfl⟩)) (by first|(rw[bk];done)|(rw[bk];rfl))
        |exact sR _ _ _ _ _ _ _ _ _ _ _ _ _ _ _ _ _ _ (.inr ⟨e,rfl⟩) (.inr (.inr ⟨rfl,rfl,rfl,rfl⟩)) (by first|(rw[bk];done)|(rw[bk];rfl))
      ·rw[aA _ _ _ _ tA]
       rcases hW with⟨hf,_⟩|⟨hf,rfl,rfl,rfl⟩|⟨hf,rfl,rfl,rfl⟩<;>(try cases hf;done)<;>rcases ho with rfl|⟨e0,rfl⟩<;>simp[-List.length_flatMap,-Int.natCast_add,jb,qP,dA,bq,b9,ea,w5,hit,ji,T.fresh,T.fresh1,T.fresh2,fR,GC,r5,r6]
       all_goals first
        |exact sR _ _ _ _ _ _ _ _ _ _ _ _ _ _ _ _ _ _ (.inr ⟨e,rfl⟩) (.inr (.inl ⟨rfl,rfl,rfl,rfl⟩)) (by first|(rw[bk];done)|(rw[bk];rfl))
        |exact sR _ _ _ _ _ _ _ _ _ _ _ _ _ _ _ _ _ _ (.inr ⟨e,rfl⟩) (.inr (.inr ⟨rfl,rfl,rfl,rfl⟩)) (by first|(rw[bk];done)|(rw[bk];rfl))
    ·have yR:j=(cN b k 4).length:=by omega
     subst yR
     rw[List.take_length,←UF]at hW⊢
     rw[←II]at hW
     rcases hW with⟨hf,_⟩|⟨hf,rfl,rfl,rfl⟩|⟨hf,rfl,rfl,rfl⟩
     ·rw[II]at hf;cases hf
     ·rcases ho with rfl|⟨e,rfl⟩<;>simp[-List.length_flatMap,-Int.natCast_add,w4,EA,ji]
      all_goals exact aI _ _ _ _ _ _ _ _ _ _ _ _ _ _ _ _ _ _ _ _ (.inl rfl) (.inr (.inl ⟨II,rfl,rfl,rfl⟩))
     ·rcases ho with rfl|⟨e,rfl⟩<;>simp[-List.length_flatMap,-Int.natCast_add,w4,EA,ji]
      all_goals exact aI _ _ _ _ _ _ _ _ _ _ _ _ _ _ _ _ _ _ _ _ (.inl rfl) (.inr (.inr ⟨II,rfl,rfl,rfl⟩))
 ·have XL:k=4:=by omega
  subst XL
  obtain⟨hs1,hs2⟩:=UC g l L ino special
  have hWl:=(Sm g l L ino special 4).2
  rw[hs1]
  generalize (aH g l L ino special 16)=w at*
  obtain⟨A,V⟩:=w
  simp only at hs2⊢
  subst hs2
  generalize (oM g l L ino special 4).2=W at*
  generalize rm g l L ino 4=f at*
  have hsb:=abM W (by omega)
  have hso:=abL
  have fY:=Ln W
  rw[Hi]
  have Sp:∀d,Option.map (stripL d) o=o:=by rcases ho with rfl|⟨e,rfl⟩<;>intro d<;>simp
  have LB:∀ρ η,Option.map (ai ρ η) o=o:=by rcases ho with rfl|⟨e,rfl⟩<;>intro ρ η<;>simp[mT]
  unfold brT
  rcases hW with⟨rfl,OD,rfl,rfl,rfl⟩|⟨rfl,rfl,rfl,rfl⟩|⟨rfl,rfl,rfl,rfl⟩
  ·subst OD
   simp[-List.length_flatMap,-Int.natCast_add]
   refine Cf _ _ _ ?_
   rw[wo (ss:=[]) (fs:=[]) (r:= .an []) (os:=[]) rfl rfl rfl rfl hso ⟨rfl,rfl,List.nodup_nil,List.nodup_nil,rfl⟩]
   simp[-List.length_flatMap,ey,iR,iL,LB,Ci,hit]
   rw[bH rfl]
   simp[-List.length_flatMap,ae]
   unfold aB
   by_cases hA:A=[]<;>simp[-List.length_flatMap,hA,List.idxOf?]
   all_goals first|rfl|exact⟨rfl,rfl⟩
  ·simp[-List.length_flatMap,-Int.natCast_add]
   refine Cf _ _ _ ?_
   rw[wo (ss:=[4]) (fs:=[]) (r:= .an []) (os:=[.agg ((lO W).flatMap eN),.undef]) (by simp[-List.length_flatMap,aj,Lz]) (by simp[-List.length_flatMap,aj,LA]) rfl rfl (by simpa [-List.length_flatMap,iL,fw,List.idxOf?,List.range,List.range.loop,aj,eR]using hsb) (by simp[-List.length_flatMap,dF,aj])]
   simp[-List.length_flatMap,dw,ey,iL,fw,iR,List.idxOf?,eR,LB,Ci,hit]
   rw[←fY]
   generalize lO W=V at*
   have XM:=oW V
   have hlen:V.length*1≤((aj [some [T.v (.int .i64 g.lowers),.v (.int .i64 g.aE),.v (.int .i64 g.blocks),.v (.int .i64 g.log),sl eS l,.sl .any L.length (L.flatMap eI)],none,o,none,some (V.flatMap eN),none,none,none,none,none] 4).getD []).length:=by simp[-List.length_flatMap,aj,XM]
   have fS:((aj [some [T.v (.int .i64 g.lowers),.v (.int .i64 g.aE),.v (.int .i64 g.blocks),.v (.int .i64 g.log),sl eS l,.sl .any L.length (L.flatMap eI)],none,o,none,some (V.flatMap eN),none,none,none,none,none] 4).getD []).take (V.length*1)=V.flatMap eN:=List.take_of_length_le (by simp[-List.length_flatMap,aj,XM])
   rw[Fw _ _ _ _ _ _ _ 4 V.length V.length rfl (by omega) hlen (by rw[fS,ot]),fS]
   simp[-List.length_flatMap,St.drop,zE,tw,T.al,ai,LB,Sp,eR,List.idxOf?,hit]
   unfold aB
   by_cases hA:A=[]<;>simp[-List.length_flatMap,hA]
   all_goals first|rfl|exact⟨rfl,rfl⟩
  ·simp[-List.length_flatMap,-Int.natCast_add]
   refine Cf _ _ _ ?_
   rw[wo (ss:=[6]) (fs:=[]) (r:= .an []) (os:=[.agg ((lO W).flatMap eN),.undef]) (by simp[-List.length_flatMap,aj,Lz]) (by simp[-List.length_flatMap,aj,LA]) rfl rfl (by simpa [-List.length_flatMap,iL,fw,List.idxOf?,List.range,List.range.loop,aj,eR]using hsb) (by simp[-List.length_flatMap,dF,aj])]
   simp[-List.length_flatMap,dw,ey,iL,fw,iR,List.idxOf?,eR,LB,Ci,hit]
   rw[←fY]
   generalize lO W=V at*
   have XM:=oW V
   have hlen:V.length*1≤((aj [some [T.v (.int .i64 g.lowers),.v (.int .i64 g.aE),.v (.int .i64 g.blocks),.v (.int .i64 g.log),sl eS l,.sl .any L.length (L.flatMap eI)],none,o,none,none,none,some (V.flatMap eN),none,none,none] 6).getD []).length:=by simp[-List.length_flatMap,aj,XM]
   have fS:((aj [some [T.v (.int .i64 g.lowers),.v (.int .i64 g.aE),.v (.int .i64 g.blocks),.v (.int .i64 g.log),sl eS l,.sl .any L.length (L.flatMap eI)],none,o,none,none,none,some (V.flatMap eN),none,none,none] 6).getD []).take (V.length*1)=V.flatMap eN:=List.take_of_length_le (by simp[-List.length_flatMap,aj,XM])
   rw[Fw _ _ _ _ _ _ _ 6 V.length V.length rfl (by omega) hlen (by rw[fS,ot]),fS]
   simp[-List.length_flatMap,St.drop,zE,tw,T.al,ai,LB,Sp,eR,List.idxOf?,hit]
   unfold aB
   by_cases hA:A=[]<;>simp[-List.length_flatMap,hA]
   all_goals first|rfl|exact⟨rfl,rfl⟩
end Go.Vi.Sz
end
section
set_option maxRecDepth 100000
set_option maxHeartbeats 4000000
namespace Go.Vi.Sz
open Go Go.Vi Go.Vi.Zz
theorem abP(g:cA)(l:List (List UInt8))(hl:∀b∈l,b.length=64)(L:List aO)(hn:L.length≤10000)(hL:∀x∈L,xp x)(ino:Int):
  Ev E bM [.agg (hY g (sl eS l) (.sl .any L.length (L.flatMap eI))),.v (.int .i64 ino)] (.an [.agg (eA ((rq g l L ino).getD ou)),.v (.bool (rq g l L ino).isSome)]):=by
 refine aC (fn:=cw) rfl (by decide) rfl rfl rfl ?_
 have jj:=af (Hh g l L hn hL ino 4)
 have Hi:hY g (sl eS l) (.sl .any L.length (L.flatMap eI))=[.v (.int .i64 g.lowers),.v (.int .i64 g.aE),.v (.int .i64 g.blocks),.v (.int .i64 g.log),sl eS l,.sl .any L.length (L.flatMap eI)]:=rfl
 have EB:=fun b (h:b.length=64)=>af (XN b h)
 have fG:=fun b=>(tz hl:cM g l L ino 4=some b→_)
 have hz:eA ou=[.v (.int .i64 0),.v (.int .i64 0),.v (.string ⟨#[]⟩),.v (.int .i64 0),.v (.int .i64 0),.v (.int .i64 0),.v (.int .i64 0)]:=rfl
 unfold rq
 rw[Hi]at jj⊢
 cases hb:cM g l L ino 4 with
 |none=>
  rw[hb]at jj
  simp only[iE]at jj
  simp[-List.length_flatMap,cw,jj,hz]
 |some b=>
  rw[hb]at jj
  simp only[iE]at jj
  have hg:=EB b (fG b hb)
  cases ha:yS b with
  |none=>
   rw[ha]at hg
   simp[-List.length_flatMap,cw,jj,hg,Hl,ha,eA]
  |some a=>
   rw[ha]at hg
   simp[-List.length_flatMap,cw,jj,hg,Hl,ha,eA]
end Go.Vi.Sz
end
section
set_option maxRecDepth 100000
set_option maxHeartbeats 4000000
namespace Go.Vi.Sz
open Go Go.Vi Go.Vi.Zz
abbrev FM:=List (Int×List fC)
abbrev ML:=List (Int×Nat×List fC)
def eM3(m:Int×Nat×List fC):List T:=[.v (.int .i64 m.1),.sl (.own m.2.1 48) m.2.2.length (m.2.2.flatMap eF)]
def lay(ζ:Nat→Nat):Nat→FM→ML
 |_,[]=>[]
 |i,p::F=>(p.1,ζ i,p.2)::lay ζ (i+1) F
def dB(ζ:Nat→Nat)(i:Nat)(F:FM):List T:=(lay ζ i F).flatMap eM3
theorem pW(ζ i):dB ζ i []=[]:=rfl
theorem ew(ζ i)(p:Int×List fC)(F:FM):dB ζ i (p::F)= .v (.int .i64 p.1):: .sl (.own (ζ i) 48) p.2.length (p.2.flatMap eF)::dB ζ (i+1) F:=rfl
def ky(c:Int):FM→Nat
 | []=>0
 |p::F=>if c=p.1 then 0 else ky c F+1
def gw(c:Int):FM→List fC
 | []=>[]
 |p::F=>if c=p.1 then p.2 else gw c F
def gx(c:Int):FM→Bool
 | []=>false
 |p::F=>if c=p.1 then true else gx c F
def dM(c:Int)(f:fC):FM→FM
 | []=>[(c,[f])]
 |p::F=>if c=p.1 then(c,p.2++[f])::F else p::dM c f F
def vk(ζ:Nat→Nat)(p q:Nat)(j:Nat):Nat:=if j=p then q else ζ j
theorem qQ(c k:Int):ig .int (.v (.int .i64 c)) (.v (.int .i64 k))=some (decide (c=k)):=by
 simp[ig]
 rw[Bool.eq_iff_iff];simp
theorem UH(c:Int)(ζ):∀(F:FM) (i:Nat),mc .int (.v (.int .i64 c)) (dB ζ i F)=some (if gx c F then some (.sl (.own (ζ (i+ky c F)) 48) (gw c F).length ((gw c F).flatMap eF))else none)
 | [],i=>rfl
 |p::F,i=>by
  rw[ew,mc,qQ,gx,ky,gw]
  by_cases h:c=p.1
  ·simp[h]
  ·rw[decide_eq_false h,Option.bind_some,if_neg (by decide),UH c ζ F (i+1)]
   simp only[if_neg h]
   rw[show i+(ky c F+1)=i+1+ky c F by omega]
theorem OG(d:Nat)(ζ)(h:∀j,hit d (ζ j)=false):∀(F:FM) (i:Nat),stripL d (dB ζ i F)=dB ζ i F
 | [],i=>by simp[pW]
 |p::F,i=>by
  rw[ew]
  simp[-List.length_flatMap,h i,OG d ζ h F (i+1)]
theorem Sq(ζ)(h:∀a b,ζ a=ζ b→a=b)(j:Nat):∀(F:FM) (i:Nat),j< i→stripL (2*ζ j+1) (dB ζ i F)=dB ζ i F
 | [],i,_=>by simp[pW]
 |p::F,i,hj=>by
  have hh:hit (2*ζ j+1) (ζ i)=false:=by
   unfold hit
   rw[if_neg (by omega),beq_eq_false_iff_ne]
   intro e
   have:=h i j (by omega)
   omega
  rw[ew]
  simp[-List.length_flatMap,hh,Sq ζ h j F (i+1) (by omega)]
theorem agx(ζ p q):∀(F:FM) (i:Nat),p< i→dB (vk ζ p q) i F=dB ζ i F
 | [],i,_=>rfl
 |x::F,i,h=>by rw[ew,ew,agx ζ p q F (i+1) (by omega),vk,if_neg (by omega)]
theorem XO(c:Int)(ζ q)(f:fC):∀(F:FM) (i:Nat),gx c F=false→sS .int (.v (.int .i64 c)) (.sl (.own q 48) 1 (eF f)) (dB ζ i F)=some (dB (vk ζ (i+ky c F) q) i (dM c f F))
 | [],i,_=>by
  simp[dB,lay,sS,dM,ky,vk,eM3]
 |p::F,i,h=>by
  rw[gx]at h
  by_cases hc:c=p.1
  ·rw[if_pos hc]at h;cases h
  ·rw[if_neg hc]at h
   rw[ew,sS,qQ,decide_eq_false hc,Option.bind_some,if_neg (by decide),XO c ζ q f F (i+1) h,dM,ky,if_neg hc,if_neg hc,ew]
   rw[show i+(ky c F+1)=i+1+ky c F by omega]
   simp only[Option.map_some]
   rw[vk,if_neg (by omega)]
theorem XP(c:Int)(ζ q)(Wm:∀a b,ζ a=ζ b→a=b)(f:fC):∀(F:FM) (i:Nat),gx c F=true→sS .int (.v (.int .i64 c)) (.sl (.own q 48) ((gw c F).length+1) ((gw c F).flatMap eF++eF f)) (stripL (2*ζ (i+ky c F)+1) (dB ζ i F))=some (dB (vk ζ (i+ky c F) q) i (dM c f F))
 | [],i,h=>by cases h
 |p::F,i,h=>by
  rw[gx]at h
  by_cases hc:c=p.1
  ·have hh:hit (2*ζ i+1) (ζ i)=true:=by
    unfold hit
    rw[if_neg (by omega),beq_iff_eq]
    omega
   rw[ew,dM,ky,gw,if_pos hc,if_pos hc,if_pos hc,Nat.add_zero,ew,agx _ _ _ _ _ (by omega)]
   simp[-List.length_flatMap,hh,Sq ζ Wm i F (i+1) (by omega),sS,qQ,hc,vk,eF]
  ·rw[if_neg hc]at h
   have hh:hit (2*ζ (i+1+ky c F)+1) (ζ i)=false:=by
    unfold hit
    rw[if_neg (by omega),beq_eq_false_iff_ne]
    intro e
    have:=Wm i (i+1+ky c F) (by omega)
    omega
   have ih:=XP c ζ q Wm f F (i+1) h
   rw[ew,dM,ky,gw,if_neg hc,if_neg hc,if_neg hc,ew,show i+(ky c F+1)=i+1+ky c F by omega]
   simp[-List.length_flatMap,hh,sS,qQ,hc,ih,vk]
   intro e
   omega
theorem MJ(ζ):∀(F:FM) (i:Nat),gQ (dB ζ i F)=(List.range' i F.length).map ζ
 | [],i=>by simp[pW]
 |p::F,i=>by
  rw[ew]
  simp[-List.length_flatMap,MJ ζ F (i+1),List.range'_succ]
theorem MK(ζ):∀(F:FM) (i:Nat),eh (dB ζ i F)=[]
 | [],i=>by simp[pW]
 |p::F,i=>by
  rw[ew]
  simp[-List.length_flatMap,MK ζ F (i+1)]
theorem Bp(ρ η ζ ζ'):∀(F:FM) (i:Nat),(∀j,i≤j→j< i+F.length→η (ζ j)=some (ζ' j))→ai ρ η (dB ζ i F)=dB ζ' i F
 | [],i,_=>by simp[pW]
 |p::F,i,h=>by
  rw[ew,ew]
  have h0:=h i (Nat.le_refl _) (by simp)
  simp[-List.length_flatMap,T.al,h0]
  exact Bp ρ η ζ ζ' F (i+1) (fun j h1 h2=>h j (by omega) (by simp;omega))
theorem JZ(ζ:Nat→Nat)(n:Nat)(h:∀a b,a< n→b< n→ζ a=ζ b→a=b)(j:Nat)(hj:j< n):((List.range' 0 n).map ζ).idxOf? (ζ j)=some j:=by
 rw[List.idxOf?,List.findIdx?_eq_some_iff_getElem]
 refine⟨by simpa using hj,by simp,fun k hk=> ?_⟩
 simp
 intro e
 have:=h k j (by omega) hj e
 omega
theorem LC(c f):∀F:FM,(dM c f F).length≤F.length+1
 | []=>by simp[dM]
 |p::F=>by
  have:=LC c f F
  rw[dM]
  split<;>simp<;>omega
theorem Hm(c f):∀F:FM,(gx c F=true→ky c F< F.length∧(dM c f F).length=F.length)∧(gx c F=false→ky c F=F.length∧(dM c f F).length=F.length+1)
 | []=>by simp[gx,ky,dM]
 |p::F=>by
  obtain⟨h1,h2⟩:=Hm c f F
  rw[gx,ky,dM]
  split
  ·simp
  ·refine⟨fun h=> ?_,fun h=> ?_⟩
   ·have:=h1 h;simp;omega
   ·have:=h2 h;simp;omega
end Go.Vi.Sz
end
section
set_option maxRecDepth 100000
set_option maxHeartbeats 4000000
namespace Go.Vi.Sz
open Go Go.Vi Go.Vi.Zz
theorem wq{α:Type}(enc:α→List T)(sz:Nat)(L:List α)(n:Nat)(h:n< L.length):dR sz (.sl .any L.length (L.flatMap enc)) (.v (.int .i64 (n:Int)))=some (.ptr (L.flatMap enc) (n*sz)):=by
 show(if 0≤(n:Int)∧(n:Int).toNat< L.length then some (T.ptr (L.flatMap enc) ((n:Int).toNat*sz))else none)=_
 rw[if_pos (by omega),Int.toNat_natCast]
def EqO(x y:T)(n:Nat)(j:Nat)(σ:St):Prop:=∃a b c d e,σ=⟨[],[x,y,a,b,c,.v (.int .i64 (n:Int)),.v (.int .i64 (j:Int)),d,e],[]⟩
def Eq8(x y:T)(j:Nat)(σ:St):Prop:=∃a b c d,σ=⟨[],[x,y,a,.v (.int .i64 (j:Int)),b,c,d],[]⟩
theorem XQ(L:List aO)(hl:L.length≤1000000):Ev E nU [sl eI L,sl eI L] (.v (.bool true)):=by
 refine aC (fn:=kK) rfl (by decide) rfl rfl rfl ?_
 simp[-List.length_flatMap,kK,sl]
 refine m_loop L.length (EqO (sl eI L) (sl eI L) L.length) ⟨_,_,_,_,_,rfl⟩ ?_
 rintro j σ hj ⟨a,b,c,d,e,rfl⟩
 by_cases hlt:j< L.length
 ·have bd:(j:Int)< L.length:=by omega
  have w4:IntKind.i64.wrap ((j:Int)+1)=((j+1:Nat):Int):=by rw[←Int.natCast_succ];exact au (by omega)
  have dA:=wq eI 10 L j hlt
  have bq:=pS yU L j hlt
  have b9:Option.filter T.closed (some (T.agg (eI L[j])))=some (T.agg (eI L[j])):=bJ (by simp[eI])
  have heq:cd [.int,.int,.int,.int,.int,.int,.int,.int,.int,.int] (eI L[j]) (eI L[j])=some true:=by simp[eI,cd,qQ]
  simp[-List.length_flatMap,-Int.natCast_add,sl,hlt,bd,w4,dA,bq,b9,heq]
  exact⟨_,_,_,_,_,rfl⟩
 ·have:j=L.length:=by omega
  subst this
  simp[-List.length_flatMap,sl]
theorem XR(L:List Int)(hl:L.length≤1000000):Ev E pq [sl eN L,sl eN L] (.v (.bool true)):=by
 refine aC (fn:=mm) rfl (by decide) rfl rfl rfl ?_
 simp[-List.length_flatMap,mm,sl]
 refine m_loop L.length (EqO (sl eN L) (sl eN L) L.length) ⟨_,_,_,_,_,rfl⟩ ?_
 rintro j σ hj ⟨a,b,c,d,e,rfl⟩
 by_cases hlt:j< L.length
 ·have bd:(j:Int)< L.length:=by omega
  have w4:IntKind.i64.wrap ((j:Int)+1)=((j+1:Nat):Int):=by rw[←Int.natCast_succ];exact au (by omega)
  have dA:=wq eN 1 L j hlt
  have bq:=EC L j hlt
  have b9:Option.filter T.closed (some (T.v (.int .i64 L[j])))=some (T.v (.int .i64 L[j])):=bJ rfl
  have heq:True:=trivial
  simp[-List.length_flatMap,-Int.natCast_add,sl,hlt,bd,w4,dA,bq,b9]
  exact⟨_,_,_,_,_,rfl⟩
 ·have:j=L.length:=by omega
  subst this
  simp[-List.length_flatMap,sl]
theorem XS(L:List fC)(hl:L.length≤1000000):Ev E jz [sl eF L,sl eF L] (.v (.bool true)):=by
 refine aC (fn:=jB) rfl (by decide) rfl rfl rfl ?_
 simp[-List.length_flatMap,jB,sl]
 refine m_loop L.length (EqO (sl eF L) (sl eF L) L.length) ⟨_,_,_,_,_,rfl⟩ ?_
 rintro j σ hj ⟨a,b,c,d,e,rfl⟩
 by_cases hlt:j< L.length
 ·have bd:(j:Int)< L.length:=by omega
  have w4:IntKind.i64.wrap ((j:Int)+1)=((j+1:Nat):Int):=by rw[←Int.natCast_succ];exact au (by omega)
  have dA:=wq eF 4 L j hlt
  have bq:=pS XT L j hlt
  have b9:Option.filter T.closed (some (T.agg (eF L[j])))=some (T.agg (eF L[j])):=bJ (by simp[eF])
  have heq:cd [.int,.int,.int,.int] (eF L[j]) (eF L[j])=some true:=by simp[eF,cd,qQ]
  simp[-List.length_flatMap,-Int.natCast_add,sl,hlt,bd,w4,dA,bq,b9,heq]
  exact⟨_,_,_,_,_,rfl⟩
 ·have:j=L.length:=by omega
  subst this
  simp[-List.length_flatMap,sl]
theorem XU(L:List bN)(hl:L.length≤1000000):Ev E ya [sl eE L,sl eE L] (.v (.bool true)):=by
 refine aC (fn:=tU) rfl (by decide) rfl rfl rfl ?_
 simp[-List.length_flatMap,tU,sl]
 refine m_loop L.length (Eq8 (sl eE L) (sl eE L)) ⟨_,_,_,_,rfl⟩ ?_
 rintro j σ hj ⟨a,b,c,d,rfl⟩
 by_cases hlt:j< L.length
 ·have bd:(j:Int)< L.length:=by omega
  have w4:IntKind.i64.wrap ((j:Int)+1)=((j+1:Nat):Int):=by rw[←Int.natCast_succ];exact au (by omega)
  have dA:=wq eE 3 L j hlt
  have bq:=pS IJ L j hlt
  have b9:Option.filter T.closed (some (T.agg (eE L[j])))=some (T.agg (eE L[j])):=bJ (by simp[eE])
  have heq:cd [.int,.int,.str] (eE L[j]) (eE L[j])=some true:=by simp[eE,cd,ig]
  simp[-List.length_flatMap,-Int.natCast_add,sl,hlt,bd,w4,dA,bq,b9,heq]
  exact⟨_,_,_,_,rfl⟩
 ·have:j=L.length:=by omega
  subst this
  simp[-List.length_flatMap,sl]
end Go.Vi.Sz
end
section
set_option maxRecDepth 100000
set_option maxHeartbeats 4000000
namespace Go.Vi.Sz
open Go Go.Vi Go.Vi.Zz
def ph(i:Nat):Nat:=8*(j1+i)
theorem aep(a b:Nat)(h:ph a=ph b):a=b:=by unfold ph at h;omega
theorem acQ(j:Nat):hit 38 (ph j)=false:=by
 unfold hit ph j1
 rw[if_pos (by omega),beq_eq_false_iff_ne]
 omega
theorem acR(j:Nat):hit 36 (ph j)=false:=by
 unfold hit ph j1
 rw[if_pos (by omega),beq_eq_false_iff_ne]
 omega
theorem Sr(d d2:Nat)(ζ)(h:∀j,hit d2 (ζ j)=false):∀(F:FM) (i:Nat),stripL d2 (stripL d (dB ζ i F))=stripL d (dB ζ i F)
 | [],i=>by simp[pW]
 |p::F,i=>by
  rw[ew]
  cases hh:hit d (ζ i)<;>simp[-List.length_flatMap,hh,h i,Sr d d2 ζ h F (i+1)]
theorem OH{p:Nat}(a b:Nat)(h:vk ph p 152 a=vk ph p 152 b):a=b:=by
 unfold vk ph j1 at h
 split at h<;>split at h<;>omega
theorem aeq(F:FM)(hF:F.length≤7)(c ino slot ah:Int)(hl:(gw c F).length≤10000):
  Ev E (aq+kA) [.an [.v (.int .i64 c),.v (.int .i64 ino),.v (.int .i64 slot),.ref 0 0,.ref 4 0],.an [.agg [.aQ 3],.undef,.undef,.agg (dB ph 0 F),.agg [.v (.int .i64 ah)],.undef]]
   (.an [.an [],.an [.agg [.aQ 3],.undef,.undef,.agg (dB (fun i=>i) 0 (dM c ⟨c,ah,ino,slot⟩ F)),.agg [.v (.int .i64 ah)],.undef]]):=by
 refine Fu (fn:=nc) rfl rfl rfl rfl (by simp) ?_
 have XV:∀ρ,ai ρ some (dB ph 0 F)=dB ph 0 F:=fun ρ=>Bp ρ some ph ph F 0 fun j _ _=>rfl
 have hf:=UH c ph F 0
 have ann:=OG 38 ph acQ F 0
 simp[-List.length_flatMap,nc,XV]
 rw[bH rfl]
 have agy:=OG 36 ph acR F 0
 have hs2:=fun d=>Sr d 38 ph acQ F 0
 have hgl:=hl
 obtain⟨r1,r2,r3,r4⟩:((gw c F).length+1)*32≤room∧(gw c F).length+1≤room∧32≤room∧1≤room:=by unfold room;omega
 have hgF:=lg (gw c F)
 have hgC:=kS (gw c F)
 cases hh:gx c F
 ·rw[hh,if_neg (by decide)]at hf
  simp[-List.length_flatMap,ae,hf]
  simp[-List.length_flatMap,agy,ann,r3,r4]
  rw[bH rfl]
  have hp:=XO c ph 152 ⟨c,ah,ino,slot⟩ F 0 hh
  simp only[eF]at hp
  simp[-List.length_flatMap,ae,hp]
  generalize dM c ⟨c,ah,ino,slot⟩ F=F' at*
  simp[-List.length_flatMap,fJ,nT,tJ,vr,fb,me,fw,List.range,List.range.loop,List.idxOf?,aj,MK,MJ,T.al,ai]
  refine Bp _ _ _ (fun x=>x) F' 0 fun j _ hj=> ?_
  have h:=JZ (vk ph (ky c F) 152) F'.length (fun a b _ _=>OH a b) j (by omega)
  rw[List.idxOf?,List.findIdx?_map]at h
  have XW:(T.aQ 3).fa=[]:=by simp[T.fa]
  simp[XW,h]
 ·rw[hh,if_pos rfl]at hf
  simp[-List.length_flatMap,ae,hf]
  simp[-List.length_flatMap,acR,agy,hs2,r1,r2,hgF]
  rw[bH rfl]
  have hp:=XP c ph 152 aep ⟨c,ah,ino,slot⟩ F 0 hh
  simp only[eF,Nat.zero_add]at hp
  simp[-List.length_flatMap,ae,hp]
  generalize dM c ⟨c,ah,ino,slot⟩ F=F' at*
  simp[-List.length_flatMap,fJ,nT,tJ,vr,fb,me,fw,List.range,List.range.loop,List.idxOf?,aj,MK,MJ,T.al,ai]
  refine Bp _ _ _ (fun x=>x) F' 0 fun j _ hj=> ?_
  have h:=JZ (vk ph (ky c F) 152) F'.length (fun a b _ _=>OH a b) j (by omega)
  rw[List.idxOf?,List.findIdx?_map]at h
  have XW:(T.aQ 3).fa=[]:=by simp[T.fa]
  simp[XW,h]
end Go.Vi.Sz
end
section
set_option maxRecDepth 100000
set_option maxHeartbeats 4000000
namespace Go.Vi.Sz
open Go Go.Vi Go.Vi.Zz
def zF(n:Nat):List T:=(List.replicate n [T.v (.int .i64 0),T.v (.int .i64 0),T.v (.int .i64 0),T.v (.int .i64 0)]).flatten
theorem agz(n:Nat):(zF n).length=n*4:=by
 induction n with
 |zero=>rfl
 |succ n ih=>
  have:zF (n+1)=[T.v (.int .i64 0),T.v (.int .i64 0),T.v (.int .i64 0),T.v (.int .i64 0)]++zF n:=by rw[zF,List.replicate_succ,List.flatten_cons];rfl
  rw[this,List.length_append,ih];simp;omega
theorem OI(ρ η)(n:Nat):ai ρ η (zF n)=zF n:=by
 induction n with
 |zero=>simp[zF]
 |succ n ih=>
  have:zF (n+1)=[T.v (.int .i64 0),T.v (.int .i64 0),T.v (.int .i64 0),T.v (.int .i64 0)]++zF n:=by rw[zF,List.replicate_succ,List.flatten_cons];rfl
  rw[this];simp[T.al,ai,ih]
theorem aer(n:Nat):eh (zF n)=[]:=by
 induction n with
 |zero=>simp[zF]
 |succ n ih=>
  have:zF (n+1)=[T.v (.int .i64 0),T.v (.int .i64 0),T.v (.int .i64 0),T.v (.int .i64 0)]++zF n:=by rw[zF,List.replicate_succ,List.flatten_cons];rfl
  rw[this];simp[ih]
theorem aes(n:Nat):gQ (zF n)=[]:=by
 induction n with
 |zero=>simp[zF]
 |succ n ih=>
  have:zF (n+1)=[T.v (.int .i64 0),T.v (.int .i64 0),T.v (.int .i64 0),T.v (.int .i64 0)]++zF n:=by rw[zF,List.replicate_succ,List.flatten_cons];rfl
  rw[this];simp[ih]
theorem aet(n:Nat)(hn:n≤1000000):Ev E (aq+ta) [.an [.sl .nil 0 [],.v (.int .i64 (n:Int))],.an []] (.an [.av 0 0 0 (if n=0 then 0 else 5),.an [.agg (zF n),.undef]]):=by
 refine Fu (fn:=iu) rfl rfl rfl rfl (by simp) ?_
 have mz:¬(n:Int)< 0:=by omega
 have w1:IntKind.i64.wrap ((n:Int)-0)=n:=by rw[Int.sub_zero];exact au (by omega)
 have w2:IntKind.i64.wrap (n:Int)=n:=au (by omega)
 have w0:IntKind.i64.wrap 0=0:=rfl
 by_cases h0:n=0
 ·subst h0
  simp[iu]
  rw[bH rfl]
  simp[ae,w0]
  simp[gh,AD,fJ,nT,tJ,vr,fb,me,fw,List.range,List.range.loop,List.idxOf?,aj,zF]
  done
 ·have hp:0< n:=by omega
  rw[if_neg h0]
  obtain⟨r1,r2⟩:n*32≤room∧n≤room:=by unfold room;omega
  have RK:=agz n
  simp[iu,mz]
  rw[bH rfl]
  simp[ae,w2,w0,hp]
  rw[bH rfl]
  simp[ae,aw,asNat]
  rw[Sn _ _ _ _ _ _ _ _ _ _ _ n (zF n)]
  rotate_left
  ·rfl
  ·simp[iH,asNat,zF]
  ·rfl
  ·exact⟨RK,r1,r2,rfl,rfl⟩
  simp
  rw[if_neg h0]
  simp[gh,AD,fJ,nT,tJ,vr,fb,me,fw,List.range,List.range.loop,List.idxOf?,aj,OI,aer,aes]
  done
theorem XZ(ρ η)(l:List fC):ai ρ η (l.flatMap eF)=l.flatMap eF:=by
 induction l with
 |nil=>simp
 |cons c l ih=>simp[eF,ih]
theorem Q7(bx k)(l:List fC):(l.flatMap eF).mapM (close bx (k+1))=some (l.flatMap eF):=by
 induction l with
 |nil=>rfl
 |cons x l ih=>rw[List.flatMap_cons,List.mapM_append,ih,show(eF x).mapM (close bx (k+1))=some (eF x) by simp[eF]];rfl
def eL(A:List fC):List T:=[sl eF A]
@[simp] theorem agA(A:List fC):(eL A).length=1:=rfl
theorem X0(A:List (List fC))(i:Nat)(h:i< A.length):cr (A.flatMap eL) i=some (sl eF A[i]):=by
 have:=jY agA A i 0 h (by omega)
 rw[Nat.mul_one,Nat.add_zero]at this
 rw[this];rfl
def C1(Ls:List (List fC))(j:Nat)(σ:St):Prop:=∃a1 a3 a4 a5 a9 db fk a12 cP de,
 σ=⟨[],[sl eL Ls,a1,.v (.int .i64 ((Ls.take j).flatten.length:Nat)),a3,a4,a5,sl eL Ls,.v (.int .i64 Ls.length),.v (.int .i64 j),a9,db,fk,a12,cP,de],[none,none,none,none]⟩
def C2(Ls:List (List fC))(j:Nat)(σ:St):Prop:=∃a0 a1 a2 a3 a5 a6 a7 a8 a9 db de c,(c=0∨c=5)∧
 ((j=0∧∃N,σ=⟨[],[a0,a1,a2,a3,.av 0 0 0 c,a5,a6,a7,a8,a9,db,sl eL Ls,.v (.int .i64 Ls.length),.v (.int .i64 j),de],[some (zF N),none,none,none]⟩)∨
 σ=⟨[],[a0,a1,a2,a3,.av 2 0 (Ls.take j).flatten.length (if(Ls.take j).flatten.length=0 then c else(Ls.take j).flatten.length*4),a5,a6,a7,a8,a9,db,sl eL Ls,.v (.int .i64 Ls.length),.v (.int .i64 j),de],[none,none,some ((Ls.take j).flatten.flatMap eF),none]⟩)
theorem LD(Ls:List (List fC))(j:Nat)(h:j< Ls.length):(Ls.take (j+1)).flatten=(Ls.take j).flatten++Ls[j]:=by
 rw[List.take_succ_eq_append_getElem h,List.flatten_append];simp
theorem ED(Ls:List (List fC)):∀j,(Ls.take j).flatten.length≤Ls.flatten.length:=by
 intro j
 have:Ls.flatten=(Ls.take j).flatten++(Ls.drop j).flatten:=by rw[←List.flatten_append,List.take_append_drop]
 rw[this,List.length_append];omega
theorem X5(Ls:List (List fC))(hl:Ls.flatten.length≤1000000)(hn:Ls.length≤1000):Ev E gj [sl eL Ls] (.sl .any Ls.flatten.length (Ls.flatten.flatMap eF)):=by
 refine aC (fn:=gm) rfl (by decide) rfl rfl rfl ?_
 simp[-List.length_flatMap,-List.length_flatten,gm,sl]
 refine m_loop Ls.length (C1 Ls) ⟨_,_,_,_,_,_,_,_,_,_,rfl⟩ ?_
 rintro j σ hj ⟨a1,a3,a4,a5,a9,db,fk,a12,cP,de,rfl⟩
 by_cases hlt:j< Ls.length
 ·have bd:(j:Int)< Ls.length:=by omega
  have w4:IntKind.i64.wrap ((j:Int)+1)=((j+1:Nat):Int):=by rw[←Int.natCast_succ];exact au (by omega)
  have D9:=LD Ls j hlt
  have hle:=ED Ls (j+1)
  have LF:=X0 Ls j hlt
  have b9:Option.filter T.closed (some (sl eF Ls[j]))=some (sl eF Ls[j]):=bJ (by simp[-List.length_flatMap,sl])
  have hC1:∀a1 a3 a4 a5 a9 db fk a12 cP de m,m=(((Ls.take j).flatten++Ls[j]).length:Int)→C1 Ls (j+1) ⟨[],[.sl .any Ls.length (Ls.flatMap eL),a1,.v (.int .i64 m),a3,a4,a5,.sl .any Ls.length (Ls.flatMap eL),.v (.int .i64 Ls.length),.v (.int .i64 ((j+1:Nat):Int)),a9,db,fk,a12,cP,de],[none,none,none,none]⟩:=by
   rintro a1 a3 a4 a5 a9 db fk a12 cP de m rfl
   exact⟨a1,a3,a4,a5,a9,db,fk,a12,cP,de,by rw[D9];rfl⟩
  rw[D9,List.length_append]at hle
  have w5:IntKind.i64.wrap ((((Ls.take j).flatten.length:Nat):Int)+(Ls[j].length:Int))=(((Ls.take j).flatten++Ls[j]).length:Int):=by rw[List.length_append,Int.natCast_add,←Int.natCast_add];exact au (by omega)
  generalize Ls[j]=B at*
  generalize (Ls.take j).flatten=A at*
  have sU:¬(((A++B).length:Nat):Int)< 0:=by omega
  simp[-List.length_flatMap,-List.length_flatten,-Int.natCast_add,-List.length_append,sl,hlt,bd,w4,LF,w5,sU]
  exact hC1 _ _ _ _ _ _ _ _ _ _ _ rfl
 ·have yR:j=Ls.length:=by omega
  subst yR
  rw[List.take_length]
  have hg:=af (aet Ls.flatten.length (by omega))
  have XV:=fun ρ η=>OI ρ η Ls.flatten.length
  have C6:(if Ls.flatten.length=0 then 0 else 5)=0∨(if Ls.flatten.length=0 then 0 else 5)=5:=by split<;>omega
  generalize hN:Ls.flatten.length=N at*
  generalize (if N=0 then 0 else 5)=c0 at*
  simp[-List.length_flatMap,-List.length_flatten,sl]
  refine zC _ _ _ ?_
  rw[xE (r:= .av 0 0 0 c0) (os:=[.agg (zF N),.undef]) (by simp) (by simpa using hg) (by simp[-List.length_flatMap,dF])]
  simp[-List.length_flatMap,XV,dw,ey]
  refine m_loop Ls.length (C2 Ls) ⟨_,_,_,_,_,_,_,_,_,_,_,c0,C6,.inl ⟨rfl,N,rfl⟩⟩ ?_
  clear hg C6
  rintro j σ hj ⟨a0,a1,a2,a3,a5,a6,a7,a8,a9,db,de,c,hc,WL⟩
  by_cases hlt:j< Ls.length
  ·have bd:(j:Int)< Ls.length:=by omega
   have w4:IntKind.i64.wrap ((j:Int)+1)=((j+1:Nat):Int):=by rw[←Int.natCast_succ];exact au (by omega)
   have D9:=LD Ls j hlt
   have hle:=ED Ls (j+1)
   have LF:=X0 Ls j hlt
   have b9:Option.filter T.closed (some (sl eF Ls[j]))=some (sl eF Ls[j]):=bJ (by simp[-List.length_flatMap,sl])
   have OJ:∀a0 a1 a2 a3 a5 a6 a7 a8 a9 db de m k cs,m=((Ls.take j).flatten++Ls[j]).length→k=(if m=0 then c else m*4)→cs=((Ls.take j).flatten++Ls[j]).flatMap eF→C2 Ls (j+1) ⟨[],[a0,a1,a2,a3,.av 2 0 m k,a5,a6,a7,a8,a9,db,.sl .any Ls.length (Ls.flatMap eL),.v (.int .i64 Ls.length),.v (.int .i64 ((j+1:Nat):Int)),de],[none,none,some cs,none]⟩:=by
    rintro a0 a1 a2 a3 a5 a6 a7 a8 a9 db de m k cs rfl rfl rfl
    exact⟨a0,a1,a2,a3,a5,a6,a7,a8,a9,db,de,c,hc,.inr (by rw[D9];rfl)⟩
   rw[D9,List.length_append]at hle
   rcases WL with⟨rfl,N',rfl⟩|rfl
   ·simp only[List.take_zero,List.flatten_nil,List.nil_append]at OJ
    generalize Ls[0]=B at*
    have OE:=lg B
    obtain⟨r1,r2⟩:B.length*32≤room∧B.length≤room:=by unfold room;omega
    simp[-List.length_flatMap,-List.length_flatten,-Int.natCast_add,-List.length_append,sl,hlt,LF]
    rw[lf _ _ _ _ _ _ _ _ _ _ _ 0 0 c B.length (B.flatMap eF)]
    rotate_left
    ·exact none
    ·rfl
    ·rfl
    ·rfl
    ·exact⟨.inr rfl,rfl,.inr ⟨rfl,hc⟩,by simp,OE,by simpa using r1,by simpa using r2,by simp[dE]⟩
    simp[-List.length_flatMap,-List.length_flatten,-Int.natCast_add,St.drop]
    exact OJ _ _ _ _ _ _ _ _ _ _ _ _ _ _ rfl (by simp) rfl
   ·generalize Ls[j]=B at*
    generalize (Ls.take j).flatten=A at*
    have OE:=lg B
    have OK:=lg A
    obtain⟨r1,r2⟩:(A.length+B.length)*32≤room∧A.length+B.length≤room:=by unfold room;omega
    simp[-List.length_flatMap,-List.length_flatten,-Int.natCast_add,-List.length_append,sl,hlt,bd,LF]
    have hcc:(0< A.length∧(if A=[]then c else A.length*4)=A.length*4∨A.length=0∧((if A=[]then c else A.length*4)=0∨(if A=[]then c else A.length*4)=1+4)):=by
     by_cases h0:A.length=0
     ·right;rw[if_pos (List.eq_nil_of_length_eq_zero h0)];exact⟨h0,hc⟩
     ·left;rw[if_neg (fun hh=>h0 (by rw[hh];rfl))];exact⟨by omega,rfl⟩
    rw[lf _ _ _ _ _ _ _ _ _ _ _ 2 A.length _ B.length (B.flatMap eF)]
    rotate_left
    ·exact some (A.flatMap eF)
    ·rfl
    ·rfl
    ·rfl
    ·exact⟨.inl rfl,rfl,hcc,by simp[-List.length_flatMap,aj,OK],OE,r1,r2,by simp[dE]⟩
    have fS:((aj [none,none,some (A.flatMap eF),none] 2).getD []).take (A.length*4)=A.flatMap eF:=List.take_of_length_le (by simp[-List.length_flatMap,aj,OK])
    rw[fS]
    simp[-List.length_flatMap,-List.length_flatten,-Int.natCast_add,St.drop,w4,XZ]
    refine OJ _ _ _ _ _ _ _ _ _ _ _ _ _ _ (by rw[List.length_append]) ?_ (by rw[List.flatMap_append])
    by_cases hA:A=[]<;>by_cases hB:B=[]<;>simp[hA,hB]
  ·have yR:j=Ls.length:=by omega
   subst yR
   rw[List.take_length,hN]at WL
   have hFF:=lg Ls.flatten
   rw[hN]at hFF
   rcases WL with⟨h0,N',rfl⟩|rfl
   ·have hLs:Ls=[]:=List.eq_nil_of_length_eq_zero h0
    subst hLs
    simp at hN
    subst hN
    simp
   ·simp[-List.length_flatMap,-List.length_flatten]
    by_cases Ss:N=0
    ·have:Ls.flatten=[]:=List.eq_nil_of_length_eq_zero (by omega)
     rw[if_pos Ss,Ss,this];rfl
    ·rw[if_neg Ss,if_neg Ss,←hFF,List.take_length,Q7];rfl
end Go.Vi.Sz
end
section
set_option maxRecDepth 100000
set_option maxHeartbeats 4000000
namespace Go.Vi.Sz
open Go Go.Vi Go.Vi.Zz
def qR:T:= .bB (.func kA) [] [.ref 8 0,.ref 2 0]
def pj(B i:Nat):Nat:=B+i
def Bq(B n:Nat):List Nat:=(List.range' 0 n).map (pj B)
theorem iS(d B n k:Nat)(hn:n≤8)(h1:hit (2*d) k=false)(h2:k< B∨B+8≤k):gg d (Bq B n) k=some k:=by
 have hc:(Bq B n).contains k=false:=by
  rw[Bool.eq_false_iff]
  intro h
  rw[List.contains_iff_mem]at h
  unfold Bq pj at h
  simp at h
  omega
 unfold gg
 rw[hc,h1]
 rfl
section
variable{k:List Fr}{Q:Out→Prop}{outs:List (Option Nat)}{rest:nC}
theorem X6{d ad g ar}(rs vars:List T)(bx:List (Option (List T))){f:FuncId}{first cap:List T}(hg:eC (g.get ⟨rs,vars,bx⟩)=some (f,first,cap))(h:P1 E (ae.eo (CR E) ⟨rs,vars,bx⟩ d ad f (first++ar.map (ag.get ⟨rs,vars,bx⟩)++cap)) rest outs k Q):O E ((none,.callvio d ad g ar)::rest) outs k ⟨rs,vars,bx⟩ Q:=by
 unfold O
 rw[eg]
 obtain⟨p,h1,h2⟩:=h
 obtain⟨n,hn⟩:=Lt h1
 refine⟨n,p, ?_,h2⟩
 simp only[ae,hg]
 exact hn
theorem IK(d:Nat)(g a1 a2 a3:ag)(rs vars:List T)(bx:List (Option (List T)))(F:FM)(B:Nat)(ah c ino slot:Int)(hg:g.get ⟨rs,vars,bx⟩=qR)(h1:a1.get ⟨rs,vars,bx⟩= .v (.int .i64 c))(h2:a2.get ⟨rs,vars,bx⟩= .v (.int .i64 ino))(h3:a3.get ⟨rs,vars,bx⟩= .v (.int .i64 slot))
  (hb8:aj bx 8=some [.aQ 19]) (UI:aj bx 19=some (dB (pj B) 0 F)) (tn:aj bx 2=some [.v (.int .i64 ah)]) (hF:F.length≤7) (hl:(gw c F).length≤10000)
  (h:P1 E (some (.an [],⟨ai some (gg d (Bq B F.length)) rs,ai some (gg d (Bq B F.length)) vars,
   (((bx.map (Option.map (ai some (gg d (Bq B F.length))))).set 8 (some [.aQ 19])).set 19 (some (dB (pj (8*d)) 0 (dM c ⟨c,ah,ino,slot⟩ F)))).set 2 (some [.v (.int .i64 ah)])⟩)) rest outs k Q):
  O E ((none,.callvio d [] g [a1,a2,a3])::rest) outs k ⟨rs,vars,bx⟩ Q:=by
 refine X6 (f:=kA) (first:=[]) (cap:=[.ref 8 0,.ref 2 0]) rs vars bx (by rw[hg];rfl) ?_
 have ht:=af (aeq F hF c ino slot ah hl)
 have hlen:=(Hm c ⟨c,ah,ino,slot⟩ F)
 have hF':(dM c ⟨c,ah,ino,slot⟩ F).length≤8:=by have:=LC c ⟨c,ah,ino,slot⟩ F;omega
 have RP:gQ (dB (pj B) 0 F)=Bq B F.length:=MJ _ _ _
 have js:ai (iL [8,19,2]) (rv (Bq B F.length)) (dB (pj B) 0 F)=dB ph 0 F:=Bp _ _ _ _ F 0 fun j _ hj=>by
  unfold rv Bq
  rw[JZ (pj B) F.length (fun a b _ _ h=>by unfold pj at h;omega) j (by omega)]
  rfl
 have TC:∀ρ,ai ρ (fy d) (dB (fun i=>i) 0 (dM c ⟨c,ah,ino,slot⟩ F))=dB (pj (8*d)) 0 (dM c ⟨c,ah,ino,slot⟩ F):=fun ρ=>Bp _ _ _ _ _ 0 fun j _ hj=>by
  unfold fy pj
  rw[if_pos (by omega)]
 have hmr:(T.aQ 19).fa=[]:=by simp[T.fa]
 have i8:List.findIdx? (fun x=>x==8) [8,19,2]=some 0:=rfl
 have i19:List.findIdx? (fun x=>x==19) [8,19,2]=some 1:=rfl
 have i2:List.findIdx? (fun x=>x==2) [8,19,2]=some 2:=rfl
 have Fh:∀s,iR [8,19,2] [.agg [.aQ 3],.undef,.undef,.agg (dB (fun i=>i) 0 (dM c ⟨c,ah,ino,slot⟩ F)),.agg [.v (.int .i64 ah)],.undef] s=some s:=by
  intro s
  unfold iR iL
  by_cases h8:s=8
  ·subst h8;rfl
  ·by_cases h19:s=19
   ·subst h19;rfl
   ·by_cases h2:s=2
    ·subst h2;rfl
    ·have:List.idxOf? s [8,19,2]=none:=by
      rw[List.idxOf?,List.findIdx?_eq_none_iff]
      intro x hx
      simp at hx
      rcases hx with rfl|rfl|rfl<;>simp<;>omega
     rw[this];rfl
 rw[wo (ss:=[8,19,2]) (fs:=Bq B F.length) (r:= .an []) (os:=[.agg [.aQ 3],.undef,.undef,.agg (dB (fun i=>i) 0 (dM c ⟨c,ah,ino,slot⟩ F)),.agg [.v (.int .i64 ah)],.undef])
  (by simp[hb8,UI,tn,h1,h2,h3,MK]) (by simp[hb8,UI,tn,RP,hmr]) rfl rfl (by simpa [h1,h2,h3,iL,fw,List.idxOf?,List.range,List.range.loop,hb8,UI,tn,js,i8,i19,i2]using ht) (by simp[hb8,UI,tn])]
 rw[show iR [8,19,2] [.agg [.aQ 3],.undef,.undef,.agg (dB (fun i=>i) 0 (dM c ⟨c,ah,ino,slot⟩ F)),.agg [.v (.int .i64 ah)],.undef]=some from funext Fh]
 simp[dw,ey,fw,TC]
 simpa using h
end
end Go.Vi.Sz
end
section
set_option maxRecDepth 100000
set_option maxHeartbeats 4000000
namespace Go.Vi.Sz
open Go Go.Vi Go.Vi.Zz
theorem GD(x:aO)(h:kI x=true):xp x∧(x.kind=0→x=cx):=by
 unfold kI at h
 by_cases h0:x=cx
 ·subst h0
  refine⟨?_,fun _=>rfl⟩
  intro p hp
  simp[iJ,cx]at hp
  subst hp
  omega
 ·rw[if_neg h0,Bool.and_eq_true]at h
  obtain⟨h1,h2⟩:=h
  simp[gM,EF]at h1
  refine⟨?_,fun hk=> ?_⟩
  ·intro p hp
   simp[iJ]at hp
   rcases hp with rfl|rfl|rfl|rfl|rfl<;>omega
  ·unfold OL at h2
   rw[if_neg (by omega),if_neg (by omega),hk]at h2
   simp at h2
theorem IL(S:List (List UInt8)):∀x∈ct S,xp x∧(x.kind=0→x=cx):=by
 intro x hx
 unfold ct at hx
 rw[List.mem_map]at hx
 obtain⟨b,_,rfl⟩:=hx
 unfold nE
 split
 ·rename_i h
  exact GD _ h.1
 ·exact GD cx (by decide)
theorem UJ(g l)(L:List aO)(I:Nat)(hI:I< L.length)(h:L[I]=cx):cM g l L ((I+1:Nat):Int) 4=none:=by
 unfold cM
 rw[if_neg]
 rintro⟨_,hv⟩
 have hs:=xF hv
 have hn:numOf ((I+1:Nat):Int) 4=5*I+4:=by unfold numOf;omega
 rw[hn,xW L I 4 hI (by omega),h]at hs
 simp[iJ,cx]at hs
theorem X7(g l)(L:List aO)(hL:∀x∈L,xp x∧(x.kind=0→x=cx))(special:Int)(I:Nat)(hI:I< L.length):
  mJ g l L special I=⟨L[I],(dN g l L ((I+1:Nat):Int)).getD [],if L[I].kind=1 then(aH g l L ((I+1:Nat):Int) special 16).1 else [],(rq g l L ((I+1:Nat):Int)).getD ou⟩∧
  Ck g l L I=(rq g l L ((I+1:Nat):Int)).isSome:=by
 have hg:L.getD I cx=L[I]:=by rw[List.getD_eq_getElem?_getD,List.getElem?_eq_getElem hI,Option.getD_some]
 unfold mJ Ck
 rw[hg]
 by_cases hk:L[I].kind=0
 ·have hx:=(hL L[I] (List.getElem_mem hI)).2 hk
  have hb:=UJ g l L I hI hx
  have hd:dN g l L ((I+1:Nat):Int)=none:=by
   unfold dN
   rw[if_neg]
   rintro⟨_,_,_,h⟩
   rw[show(((I+1:Nat):Int)-1).toNat=I by omega,hg,hk]at h
   omega
  have ha:rq g l L ((I+1:Nat):Int)=some ou:=by unfold rq;rw[hb]
  rw[if_pos hk,if_pos hk,hd,ha,hx,if_neg (by decide)]
  exact⟨rfl,rfl⟩
 ·rw[if_neg hk,if_neg hk]
  exact⟨rfl,rfl⟩
theorem wu(c c':Int)(f:fC):∀F:FM,gw c' (dM c f F)=if c'=c then gw c F++[f]else gw c' F
 | []=>by
  simp only[dM,gw]
  split<;>simp
 |p::F=>by
  have ih:=wu c c' f F
  simp only[dM]
  by_cases h:c=p.1
  ·rw[if_pos h]
   simp only[gw,if_pos h]
   by_cases h2:c'=c
   ·rw[if_pos h2,if_pos h2]
   ·rw[if_neg h2,if_neg h2,if_neg (by omega)]
  ·rw[if_neg h]
   simp only[gw,if_neg h]
   by_cases h2:c'=p.1
   ·rw[if_pos h2,if_neg (by omega),if_pos h2]
   ·rw[if_neg h2,ih,if_neg h2]
theorem wv(c c':Int)(f:fC):∀F:FM,gx c' (dM c f F)=(decide (c'=c)||gx c' F)
 | []=>by
  simp only[dM,gx]
  split<;>simp[*]
 |p::F=>by
  have ih:=wv c c' f F
  simp only[dM]
  by_cases h:c=p.1
  ·rw[if_pos h]
   simp only[gx]
   by_cases h2:c'=c
   ·rw[if_pos h2,if_pos (by omega)];simp[h2]
   ·rw[if_neg h2,if_neg (by omega)];simp[h2]
  ·rw[if_neg h]
   simp only[gx]
   by_cases h2:c'=p.1
   ·rw[if_pos h2,if_pos h2];simp
   ·rw[if_neg h2,ih,if_neg h2]
def n4(F:FM):Nat:=(gx 1 F).toNat+(gx 4 F).toNat+(gx 2 F).toNat+(gx 5 F).toNat
structure FI(F:FM)(p1 p4 p2 p5:List fC):Prop where
 len:F.length≤n4 F
 g1:gw 1 F=p1
 g4:gw 4 F=p4
 g2:gw 2 F=p2
 g5:gw 5 F=p5
theorem FI.yV{F p1 p4 p2 p5}(h:FI F p1 p4 p2 p5):F.length≤7:=by
 have h1:=h.len
 unfold n4 at h1
 have a1:(gx 1 F).toNat≤1:=by cases gx 1 F<;>decide
 have a2:(gx 4 F).toNat≤1:=by cases gx 4 F<;>decide
 have a3:(gx 2 F).toNat≤1:=by cases gx 2 F<;>decide
 have a4:(gx 5 F).toNat≤1:=by cases gx 5 F<;>decide
 omega
theorem Cm(c:Int)(f:fC)(F:FM)(h:F.length≤n4 F)(hc:c=1∨c=4∨c=2∨c=5):(dM c f F).length≤n4 (dM c f F):=by
 obtain⟨k1,k2⟩:=Hm c f F
 unfold n4 at h⊢
 rw[wv,wv,wv,wv]
 cases hh:gx c F
 ·have:=(k2 hh).2
  rcases hc with rfl|rfl|rfl|rfl<;>rw[hh]at h<;>simp at h⊢<;>omega
 ·have:=(k1 hh).2
  rcases hc with rfl|rfl|rfl|rfl<;>rw[hh]at h<;>simp at h⊢<;>omega
theorem agB:FI [] [] [] [] []:=⟨Nat.zero_le _,rfl,rfl,rfl,rfl⟩
theorem FI.t1{F p1 p4 p2 p5}(h:FI F p1 p4 p2 p5)(f:fC):FI (dM 1 f F) (p1++[f]) p4 p2 p5:=by
 refine⟨Cm 1 f F h.len (by omega), ?_, ?_, ?_, ?_⟩<;>rw[wu]
 ·rw[if_pos rfl,h.g1]
 ·rw[if_neg (by omega),h.g4]
 ·rw[if_neg (by omega),h.g2]
 ·rw[if_neg (by omega),h.g5]
theorem FI.t4{F p1 p4 p2 p5}(h:FI F p1 p4 p2 p5)(f:fC):FI (dM 4 f F) p1 (p4++[f]) p2 p5:=by
 refine⟨Cm 4 f F h.len (by omega), ?_, ?_, ?_, ?_⟩<;>rw[wu]
 ·rw[if_neg (by omega),h.g1]
 ·rw[if_pos rfl,h.g4]
 ·rw[if_neg (by omega),h.g2]
 ·rw[if_neg (by omega),h.g5]
theorem FI.t2{F p1 p4 p2 p5}(h:FI F p1 p4 p2 p5)(f:fC):FI (dM 2 f F) p1 p4 (p2++[f]) p5:=by
 refine⟨Cm 2 f F h.len (by omega), ?_, ?_, ?_, ?_⟩<;>rw[wu]
 ·rw[if_neg (by omega),h.g1]
 ·rw[if_neg (by omega),h.g4]
 ·rw[if_pos rfl,h.g2]
 ·rw[if_neg (by omega),h.g5]
theorem FI.t5{F p1 p4 p2 p5}(h:FI F p1 p4 p2 p5)(f:fC):FI (dM 5 f F) p1 p4 p2 (p5++[f]):=by
 refine⟨Cm 5 f F h.len (by omega), ?_, ?_, ?_, ?_⟩<;>rw[wu]
 ·rw[if_neg (by omega),h.g1]
 ·rw[if_neg (by omega),h.g4]
 ·rw[if_neg (by omega),h.g2]
 ·rw[if_pos rfl,h.g5]
end Go.Vi.Sz
end
