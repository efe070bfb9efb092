/-
  A claim's own text, joined by a small program out of: Vj15b, Vj15c, Vj15d, Vj16, Vj16b, Vj16c, Vj17, Vj18, Vj19, Vj20, Vj20b, Vj21, Vj21b, Vj22, Vj23, Vj24.
-/
import Derived.Test.YtodollbkpkpklaaGreatY15
import Derived.ScopeJumps
import Derived.OrdersIn
set_option linter.unusedVariables false
set_option linter.unusedSimpArgs false
section
namespace Go.Vi
open Go Go.RowKit
section
variable{F:Fence}{n:Nat}{P:Program}{b:Frame}{a:Act}{k:List Item}{cs:List Frame}{w:World}{Q:Exit→Act→World→Prop}
theorem GG{c:Code}:step P (lone (b.atR a (.code (.scope c)::k)) cs w)= .next (lone (b.atR a (.code c:: .inScope c::k)) cs w):=
 step_lone_go (by simp[stepG,stepG.exec,Frame.atR])
theorem DA{c:Code}:step P (lone (b.atR a (.inScope c::k)) cs w)= .next (lone (b.atR a k) cs w):=
 step_lone_go (by simp[stepG,stepG.exec,Frame.atR])
theorem Hx{c rest:Code}(l:Nat)(J:Nat→Act→World→Prop)(N:Nat)(hf:findLabel c l=some rest)
  (first:c.wpIn F n P (Exit.jump l (J N) Q) a w) (j0:∀a w,¬J 0 a w)
  (pass:∀m a w,J (m+1) a w→rest.wpIn F n P (Exit.jump l (J m) Q) a w):(Code.scope c).wpIn F n P Q a w:=by
 intro b k cs GH hb hr
 have hg:gotoIn l (.inScope c::k)=some (.code rest:: .inScope c::k):=by simp[gotoIn,hf]
 have out:∀{m:Machine} {e:Exit} {a1:Act} {w1:World},(∀l',e≠ .goto l')→ArrivesIn (Machine.fenced P F) P m b (.inScope c::k) cs e a1 w1→ArrivesIn (Machine.fenced P F) P m b k cs e a1 w1:=by
  intro m e a1 w1 hne kN
  cases e with
  |normal=>exact StepsIn.trans kN (.one (fenced_calm hb hr rfl) DA)
  |exit id=>exact kN
  |goto l'=>exact absurd rfl (hne l')
  |ret=>exact kN
  |panic ch=>exact kN
  |outgrown=>exact kN
 have key:∀m a w,J m a w→∃e a' w',Q e a' w'∧ArrivesIn (Machine.fenced P F) P (lone (b.atR a (.code rest:: .inScope c::k)) cs w) b k cs e a' w':=by
  intro m
  induction m with
  |zero=>intro a w h;exact absurd h (j0 a w)
  |succ m ih=>
   intro a w hJ
   obtain⟨e,oF,oG,hq,kN⟩:=pass m a w hJ b (.inScope c::k) cs GH hb hr
   cases e with
   |goto l'=>
    obtain⟨rfl,hJ'⟩:=hq
    obtain⟨abk,abl,abm,TY,Kb⟩:=ih oF oG hJ'
    exact⟨abk,abl,abm,TY,.of_steps (kN.1 _ hg) Kb⟩
   |normal=>exact⟨_,oF,oG,hq,out (fun _ h=>by cases h) kN⟩
   |exit id=>exact⟨_,oF,oG,hq,out (fun _ h=>by cases h) kN⟩
   |ret=>exact⟨_,oF,oG,hq,out (fun _ h=>by cases h) kN⟩
   |panic ch=>exact⟨_,oF,oG,hq,out (fun _ h=>by cases h) kN⟩
   |outgrown=>exact⟨_,oF,oG,hq,out (fun _ h=>by cases h) kN⟩
 obtain⟨e,oF,oG,hq,kN⟩:=first b (.inScope c::k) cs GH hb hr
 have h0:StepsIn (Machine.fenced P F) P (lone (b.atR a (.code (.scope c)::k)) cs w) (lone (b.atR a (.code c:: .inScope c::k)) cs w):= .one (fenced_calm hb hr rfl) GG
 cases e with
 |goto l'=>
  obtain⟨rfl,hJ'⟩:=hq
  obtain⟨abk,abl,abm,TY,Kb⟩:=key _ oF oG hJ'
  exact⟨abk,abl,abm,TY,.of_steps (StepsIn.trans h0 (kN.1 _ hg)) Kb⟩
 |normal=>exact⟨_,oF,oG,hq,.of_steps h0 (out (fun _ h=>by cases h) kN)⟩
 |exit id=>exact⟨_,oF,oG,hq,.of_steps h0 (out (fun _ h=>by cases h) kN)⟩
 |ret=>exact⟨_,oF,oG,hq,.of_steps h0 (out (fun _ h=>by cases h) kN)⟩
 |panic ch=>exact⟨_,oF,oG,hq,.of_steps h0 (out (fun _ h=>by cases h) kN)⟩
 |outgrown=>exact⟨_,oF,oG,hq,.of_steps h0 (out (fun _ h=>by cases h) kN)⟩
theorem l7{c:Code}(h:c.wpIn F n P (Exit.noGoto Q) a w):(Code.scope c).wpIn F n P Q a w:=by
 intro b k cs GH hb hr
 obtain⟨e,oF,oG,hq,kN⟩:=h b (.inScope c::k) cs GH hb hr
 have h0:StepsIn (Machine.fenced P F) P (lone (b.atR a (.code (.scope c)::k)) cs w) (lone (b.atR a (.code c:: .inScope c::k)) cs w):= .one (fenced_calm hb hr rfl) GG
 cases e with
 |normal=>exact⟨.normal,oF,oG,hq,StepsIn.trans h0 (StepsIn.trans kN (.one (fenced_calm hb hr rfl) DA))⟩
 |exit id=>exact⟨.exit id,oF,oG,hq,.of_steps h0 kN⟩
 |goto l=>exact hq.elim
 |ret=>exact⟨_,oF,oG,hq,.of_steps h0 kN⟩
 |panic ch=>exact⟨_,oF,oG,hq,.of_steps h0 kN⟩
 |outgrown=>exact⟨_,oF,oG,hq,.of_steps h0 kN⟩
end
end Go.Vi
end
section
namespace Go.Vi
open Go Go.RowKit
section
variable{P:Program}{w:World}{a:Act}{S:Nat→Nat→Prop}
theorem WN{g:Operand}{ps:Array Tmp}{assign body:Code}{Q:Exit→Act→World→Prop}{n gf:Nat}{lb:Array Value}{caps:List T}{ys:List (List T)}
  (hg:a.eval g= .func (.func gf) #[] lb) (Kc:Ht P gf caps ys) (hS:∀b o,S b o→b< w.heap.size) (uN:lb.size=caps.length) (TZ:∀(i:Nat) (x:Value) (t:T),lb[i]? =some x→caps[i]? =some t→ak S w bn cD x t)
  (N7:∀y∈ys,y.length=ps.size) (I:Nat→(Nat→Prop)→World→Prop)
  (h0:∀o,I 0 (fun _=>False) ((w.alloc (.deferred (some []))).alloc (.loop o)))
  (hstep:∀k own tu W W',I k own W→(∀b,own b→w.heap.size+2≤b∧b< W.heap.size)→w.heap.size+2≤W.heap.size→IterStep own tu W W'→I k tu W')
  (BE:∀k y own W (xs:Array Value) m,ys[k]? =some y→I k own W→(∀b,own b→w.heap.size+2≤b∧b< W.heap.size)→(∃r,W.heap[w.heap.size+1]? =some (.loop r))→W.heap[w.heap.size]? =some (.deferred (some []))→xs.size=y.length→
   (∀(i:Nat) (x:Value) (t:T),xs[i]? =some x→y[i]? =some t→ak S W bn cD x t)→
   assign.wpIn (wd (some (w.heap.size+1))) m P (Exit.then (fun a1 W1=>W1.heap[w.heap.size+1]? =W.heap[w.heap.size+1]? ∧∀o,body.wpIn (wd (some (w.heap.size+1))) m P
    (fun e a3 W3=>e= .normal∧W3.heap[w.heap.size+1]? =some (.loop o)∧W3.heap[w.heap.size]? =some (.deferred (some []))∧∀o',I (k+1) own (W3.putObj (w.heap.size+1) (.loop o'))∧zV S own W (W3.putObj (w.heap.size+1) (.loop o')))
    a1 (W1.putObj (w.heap.size+1) (.loop o))) (fun _ _ _=>False)) {tmps:=(ps.zip xs).foldl (fun t (p,v)=>t.setIfInBounds p v) a.tmps,defers:=[]} W)
  (hdone:∀own W o,I ys.length own W→(∀b,own b→w.heap.size+2≤b∧b< W.heap.size)→(∃r,W.heap[w.heap.size+1]? =some (.loop r))→W.heap[w.heap.size]? =some (.deferred (some []))→
   Q .normal {a with defers:=Ew w.heap.size::a.defers} (W.putObj (w.heap.size+1) (.loop o))):
  (Code.rangeFunc g ps assign body).wpIn (wd none) n P Q a w:=by
 obtain⟨jl,Kc⟩:=Kc
 refine wpIn_rangeFunc ?_
 intro fn pZ
 obtain⟨rec,y7⟩:∃rec:LoopState→Option Code→Loop,rec=fun st pe=>{state:=st,pending:=pe,fn,tmps:=a.tmps,params:=ps,assign,body,defers:=w.heap.size}:=⟨_,rfl⟩
 obtain⟨W1,Lz⟩:∃W1,(w.alloc (.deferred (some []))).alloc (.loop (rec .ready none))=W1:=⟨_,rfl⟩
 have amQ:W1.heap.size=w.heap.size+2:=by rw[←Lz];simp
 have hL1:W1.heap[w.heap.size+1]? =some (.loop (rec .ready none)):=by
  rw[←Lz];have:=World.alloc_heap_new (w.alloc (.deferred (some []))) (.loop (rec .ready none));rwa [World.size_alloc]at this
 have hK1:W1.heap[w.heap.size]? =some (.deferred (some [])):=by
  rw[←Lz];exact(Below.heap_alloc _ _ _ (by simp)).trans (World.alloc_heap_new w _)
 have o0:I 0 (fun _=>False) W1:=by rw[←Lz];exact h0 _
 have mc:Below w.heap.size w W1:=by
  rw[←Lz];exact((Below.refl _ w).alloc (Nat.le_refl _) _).alloc (by simp) _
 refine⟨w.heap.size+1,[Ew w.heap.size],W1,{target:= .fn (.func gf) lb,args:=#[.func (.yield (w.heap.size+1)) #[] #[]]},W1,gf,
  #[.func (.yield (w.heap.size+1)) #[] #[]]++lb,W1, ?_, ?_,fun _ _=>trivial, ?_,(fun h=>by cases h), ?_⟩
 ·rw[←Lz,y7];exact run_enterLoop_outer _ _ _ _ _
 ·simp only[resolve,hg]
  simp[go_sem]
 ·simp only[invoke]
  exact Eu jl
 ·refine(Kc (w.heap.size+1) W1 S lb (fun b o h=>by have:=hS b o h;omega) uN (fun i x t hx ht=>(TZ i x t hx ht).grow hS mc)
   (fun k own W=>I k own W∧W.heap[w.heap.size+1]? =some (.loop (rec .ready none))∧W.heap[w.heap.size]? =some (.deferred (some [])))
   (fun k own tu W W' ⟨hi,hl,hk⟩ hb hs=> ?_) (fun k y own W xs hy ⟨hi,hl,hk⟩ hb Lf cj m=> ?_) ⟨o0,hL1,hK1⟩ _).mono ?_
  ·have hlt:=(Array.getElem?_eq_some_iff.1 hl).1
   have hn:∀b,b< w.heap.size+2→¬own b:=fun b hlt h=>by have:=(hb b h).1;omega
   exact⟨hstep k own tu W W' hi (fun b h=>by have:=hb b h;omega) (by omega) hs,(hs.block _ hlt (hn _ (by omega))).trans hl,(hs.block _ (by omega) (hn _ (by omega))).trans hk⟩
  ·have hlt:w.heap.size+1< W.heap.size:=(Array.getElem?_eq_some_iff.1 hl).1
   have yY:=run_yield (P:=P) (args:=xs) hl (by rw[y7,Lf];exact N7 y (List.mem_of_getElem? hy))
   rw[y7]at yY
   refine⟨fn,_,assign,body,yY,roundIn_of_wpIn pZ ?_⟩
   have hr:=BE k y own W xs m hy hi (fun b h=>by have:=hb b h;omega) ⟨_,hl⟩ hk Lf cj
   refine wpIn_mono hr ?_
   rintro e a1 Wa hp
   cases e<;>try exact hp.elim
   obtain⟨hla,ai1⟩:=hp
   have amR:Wa.heap[w.heap.size+1]? =some (.loop (rec .ready none)):=hla.trans hl
   refine⟨_,run_beginRound amR (by rw[y7]), ?_⟩
   refine wpIn_mono (ai1 {rec .ready none with state:= .busy}) ?_
   rintro e a3 W3 ⟨rfl,WO,GD,aH⟩
   have Hy:=run_endRound (P:=P) none WO
   rw[y7]at Hy WO
   obtain⟨hi4,hs4⟩:=aH (rec .ready none)
   refine⟨_,_,Hy,rfl,⟨?_, ?_, ?_⟩, ?_⟩
   ·have:=hi4
    rw[y7]at this
    exact this
   ·rw[World.putObj_heap_same (Array.getElem?_eq_some_iff.1 WO).1,y7]
    rfl
   ·exact(World.putObj_heap_other (by omega)).trans GD
   ·have:=hs4
    rw[y7]at this
    exact this
  ·rintro e W2 ⟨⟨v,rfl⟩,own,oc,hi,hl,hk⟩
   have Hy:=run_endLoop (P:=P) hl (by rw[y7];simp)
   rw[y7]at Hy
   refine⟨none,_,Hy, ?_⟩
   have:=hdone own W2 {rec .ready none with state:= .exhausted} hi (fun b h=>by have:=oc b h;omega) ⟨_,hl⟩ hk
   rw[y7]at this
   exact this
end
end Go.Vi
end
section
namespace Go.Vi
open Go Go.RowKit
section
variable{P:Program}{W:di}{w:World}{S0 S:Nat→Nat→Prop}{β:aX}{φ:bB}{bx:List (Option (List T))}
theorem jm{w:World}{l:Nat}{o:Obj}(o':Obj)(h:w.heap[l]? =some o)(hc:o.isCells=false):cg w (w.putObj l o'):=
 kf (g:=l) (fun b _ hb=>World.putObj_heap_other hb) fun k ⟨cc,e,h1,_⟩=>by rw[h]at h1;cases h1;cases hc
theorem Inv.Sb(h:Inv P W S0 S β φ bx w){w':World}{X':Nat→Prop}{S0':Nat→Nat→Prop}{nb m0:Nat}{β0:aX}(Z:Nat→Prop)
  (hsz:w.heap.size≤w'.heap.size) (hk:∀b,b< w.heap.size→¬Z b→w'.heap[b]? =w.heap[b]?) (hZ:∀b,Z b→W.X b) (ey:∀b o,S b o→∀sp v,w.cell? ⟨b,o,sp⟩=some v→w'.cell? ⟨b,o,sp⟩=some v)
  (hX:∀b,X' b→W.X b∨w.heap.size≤b∨((∀s,β s≠some b)∧∀k x e,φ k=some (x,e)→x.ownBlock≠some b)) (Ez:∀b,X' b→b< w'.heap.size) (h0:∀b o,S0' b o→S b o) (y8:∀b o,S b o→S0' b o∨¬X' b)
  (rC:∀s b,nb≤s→β0 s=some b→β s=some b∨bx[s]? =some none) (nZ:cg w w'):
  Inv P ⟨w',X',nb,β0,m0⟩ S0' S β φ bx w'∧(∀x t φ,ak S w β φ x t→ak S w' β φ x t)∧∀b o,S b o→∀sp v,w.cell? ⟨b,o,sp⟩=some v→w'.cell? ⟨b,o,sp⟩=some v:=by
 have hm:∀x t φ,ak S w β φ x t→ak S w' β φ x t:=fun x t φ hx=>hx.mono (fun _ _=>id) (fun _ _=>id) (fun _ _=>id) ey nZ
 refine⟨⟨⟨rfl,rfl,rfl,Nat.le_refl _,Ez,fun _ _=>rfl,cg.refl _⟩,fun b o hs=>Nat.lt_of_lt_of_le (h.lt b o hs) hsz,fun s b hb=> ?_,h.boxed,h.inj,fun k x e cr=> ?_,h.dS,y8,h0,fun _ _ _ _ _ hv=>hv,rC⟩,hm,ey⟩
 ·obtain⟨h1,h2,cs,h3,h4⟩:=h.box s b hb
  have hlt:=h4.lt
  refine⟨fun hx=> ?_,h2,cs,h3,h4.FP (hk b hlt fun hz=>h1 (hZ b hz)) fun y u=>hm y u φ⟩
  rcases hX b hx with h'|h'|h'
  ·exact h1 h'
  ·omega
  ·exact h'.1 s hb
 ·obtain⟨g,n,c,sz,xs,i,rfl,hi,xH,ho,h1,h2,h3⟩:=h.gm k x e cr
  have hg:=(ho.lt g rfl).2
  refine⟨g,n,c,sz,xs,i,rfl,hi,xH,⟨ho.1, ?_⟩,h1,h2,fun hx=> ?_⟩
  ·rcases ho.2 with⟨h',_⟩|⟨g',cap,cur,Ij,mN,ff,Gz,hr⟩
   ·cases h'
   ·simp only[Value.slice.injEq,Option.some.injEq,Addr.mk.injEq]at mN
    obtain⟨⟨rfl,_⟩,_,rfl⟩:=mN
    exact .inr ⟨g,c,cur,Ij,rfl,ff,(hk g hg fun hz=>h3 (hZ g hz)).trans Gz,hr⟩
  ·rcases hX g hx with h'|h'|h'
   ·exact h3 h'
   ·omega
   ·exact h'.2 k _ e cr rfl
theorem Inv.Sd(h:Inv P W S0 S β φ bx w){w':World}{X':Nat→Prop}{S0':Nat→Nat→Prop}{nb m0:Nat}{β0:aX}(Z:Nat→Prop)
  (hsz:w.heap.size≤w'.heap.size) (hk:∀b,b< w.heap.size→¬Z b→w'.heap[b]? =w.heap[b]?) (hZ:∀b,Z b→W.X b) (ey:∀b o,S b o→∀sp v,w.cell? ⟨b,o,sp⟩=some v→w'.cell? ⟨b,o,sp⟩=some v)
  (hX:∀b,X' b→W.X b∨w.heap.size≤b) (Ez:∀b,X' b→b< w'.heap.size) (h0:∀b o,S0' b o→S b o) (y8:∀b o,S b o→S0' b o∨¬X' b)
  (rC:∀s b,nb≤s→β0 s=some b→β s=some b∨bx[s]? =some none) (nZ:cg w w'):
  Inv P ⟨w',X',nb,β0,m0⟩ S0' S β φ bx w'∧(∀x t φ,ak S w β φ x t→ak S w' β φ x t)∧∀b o,S b o→∀sp v,w.cell? ⟨b,o,sp⟩=some v→w'.cell? ⟨b,o,sp⟩=some v:=
 h.Sb Z hsz hk hZ ey (fun b hb=>(hX b hb).imp id .inl) Ez h0 y8 rC nZ
theorem Inv.It(h:Inv P W S0 S β φ bx w){w':World}{X':Nat→Prop}{S0':Nat→Nat→Prop}{nb m0:Nat}{β0:aX}(Z:Nat→Prop)
  (hsz:w.heap.size≤w'.heap.size) (hk:∀b,b< w.heap.size→¬Z b→w'.heap[b]? =w.heap[b]?) (hZ:∀b,Z b→W.X b∧∀o,¬S b o)
  (hX:∀b,X' b→W.X b∨w.heap.size≤b) (Ez:∀b,X' b→b< w'.heap.size) (h0:∀b o,S0' b o→S b o) (y8:∀b o,S b o→S0' b o∨¬X' b)
  (rC:∀s b,nb≤s→β0 s=some b→β s=some b∨bx[s]? =some none) (nZ:cg w w'):
  Inv P ⟨w',X',nb,β0,m0⟩ S0' S β φ bx w'∧(∀x t φ,ak S w β φ x t→ak S w' β φ x t)∧∀b o,S b o→∀sp v,w.cell? ⟨b,o,sp⟩=some v→w'.cell? ⟨b,o,sp⟩=some v:=
 h.Sd Z hsz hk (fun b hb=>(hZ b hb).1) (fun b o hs sp v hv=>by
  rw[World.cell?_of_block (w:=w) (hk b (h.lt b o hs) fun hz=>(hZ b hz).2 o hs)]
  exact hv) hX Ez h0 y8 rC nZ
theorem Core.inv{X:Nat→Prop}(h:Core P X S β φ bx w)(hX:∀b,X b→b< w.heap.size){m0 nb:Nat}:Inv P ⟨w,X,nb,bn,m0⟩ S S β φ bx w:=
 ⟨⟨rfl,rfl,rfl,Nat.le_refl _,hX,fun _ _=>rfl,cg.refl _⟩,h.lt,h.box,h.boxed,h.inj,h.gm,h.dS,fun _ _ h=> .inl h,fun _ _ h=>h,fun _ _ _ _ _ h=>h,fun s b _ h=>by simp[bn]at h⟩
theorem wW(ss:List Nat)(bx:List (Option (List T)))(s:Nat):(jc ss bx)[s]? =if s< bx.length then some (if ss.contains s then(ai bx s).map (ah (fun s=>if ss.contains s then some s else none) fun _=>none)else none)else none:=by
 unfold jc
 rw[List.getElem?_map]
 by_cases h:s< bx.length
 ·rw[List.getElem?_range h,if_pos h];rfl
 ·rw[List.getElem?_eq_none (by simpa using h),if_neg h];rfl
theorem zW(ss:List Nat)(bx:List (Option (List T)))(s:Nat):(vQ ss bx)[s]? =if s< bx.length then some (if ss.contains s then none else(ai bx s).map (ah (fun s=>if ss.contains s then none else some s) some))else none:=by
 unfold vQ
 rw[List.getElem?_map]
 by_cases h:s< bx.length
 ·rw[List.getElem?_range h,if_pos h];rfl
 ·rw[List.getElem?_eq_none (by simpa using h),if_neg h];rfl
def dv(ss:List Nat)(β:aX):aX:=fun s=>if ss.contains s then β s else none
def p8(ss:List Nat)(β:aX):aX:=fun s=>if ss.contains s then none else β s
theorem Inv.amS(ss:List Nat)(h:Inv P W S0 S β φ bx w){SL:Nat→Nat→Prop}(hS:∀b o,S b o→SL b o)(N8:∀b o,SL b o→ga S (dv ss β) b o):
  (∀(k:Nat) x t u,ak S w β φ x t→close (jc ss bx) k (t.aj (fun s=>if ss.contains s then some s else none) fun _=>none)=some u→ak (ga S (dv ss β)) w bn cD x u)∧
  Inv P W S0 SL (p8 ss β) φ (vQ ss bx) w∧
  (∀x t,ak S w β φ x t→ak SL w (p8 ss β) cD x (t.aj (fun s=>if ss.contains s then none else some s) fun _=>none))∧(∀b o,ga S (dv ss β) b o→S b o∨∃s,dv ss β s=some b∧β s=some b):=by
 have od:∀s b,dv ss β s=some b→ss.contains s=true∧β s=some b:=fun s b hb=>by
  unfold dv at hb
  split at hb
  ·rename_i hs;exact⟨hs,hb⟩
  ·cases hb
 have uN:∀s b,p8 ss β s=some b→ss.contains s=false∧β s=some b:=fun s b hb=>by
  unfold p8 at hb
  split at hb
  ·cases hb
  ·rename_i hs;exact⟨by simpa using hs,hb⟩
 have hm:∀{η:Nat→Option Nat} {φ':bB} x t,(∀k k' p,η k=some k'→φ k=some p→φ' k'=some p)→ak S w β φ x t→ak SL w (p8 ss β) φ' x (t.aj (fun s=>if ss.contains s then none else some s) η):=fun x t N2 hx=>
  (hx.mono hS (fun _ _=>id) (fun _ _=>id) (fun _ _ _ _ _=>id) (cg.refl _)).aj (fun s s' b h1 h2=>by
   split at h1<;>try(cases h1;done)
   rename_i hs
   simp only[Option.some.injEq]at h1
   subst h1
   unfold p8
   rw[if_neg hs];exact h2) (fun s s' h1=>by
   split at h1<;>try(cases h1;done)
   simp only[Option.some.injEq]at h1
   rw[h1]) N2
 refine⟨fun k x t u hx hu=> ?_, ?_,fun x t hx=>hm x t (fun k k' p h=>by cases h) hx,fun b o hb=>hb.imp id fun⟨s,hs⟩=>⟨s,hs,(od s b hs).2⟩⟩
 ·obtain⟨h1,h2⟩:=h.core.relabel (X':=fun _=>False) (bx':=jc ss bx) (ρ:=fun s=>if ss.contains s then some s else none) (ρi:=fun s=>if ss.contains s then some s else none) (η:=fun _=>none) (ηi:=fun _=>none)
   (fun s l=>by
    constructor
    ·intro h;split at h<;>try(cases h;done)
     rename_i hs;simp only[Option.some.injEq]at h;subst h;rw[if_pos hs]
    ·intro h;split at h<;>try(cases h;done)
     rename_i hs;simp only[Option.some.injEq]at h;subst h;rw[if_pos hs])
   (fun k k'=>by simp) (fun s l h=>by(split at h<;>try(cases h;done));simp only[Option.some.injEq]at h;rw[h])
   (fun s l cs h1 h2=>by
    split at h1<;>try(cases h1;done)
    rename_i hs
    simp only[Option.some.injEq]at h1
    subst h1
    rw[wW,if_pos (List.getElem?_eq_some_iff.1 h2).1,if_pos hs,fc.2 h2]
    rfl)
   (fun l b9 hl=>by
    rw[wW]at hl
    split at hl<;>try(cases hl;done)
    simp only[Option.some.injEq]at hl
    split at hl<;>try(cases hl;done)
    rename_i hs
    obtain⟨cs,aF,rfl⟩:=Option.map_eq_some_iff.1 hl
    exact .inr ⟨l,cs,by rw[if_pos hs],fc.1 aF,rfl⟩)
   (fun b hb=>hb.elim)
  have e:(fun l=>((if ss.contains l then some l else none:Option Nat)).bind β)=dv ss β:=by
   funext s
   unfold dv
   split<;>rfl
  rw[e]at h1 h2
  exact AM (h1.inv (fun b hb=>hb.elim) (m0:=0) (nb:=0)) k x _ u (h2 x t hx) hu
 ·refine⟨h.below,fun b o hb=> ?_,fun s b hb=> ?_,fun s cs hs=> ?_,fun s s' b hb ff=>h.inj s s' b (uN s b hb).2 (uN s' b ff).2,fun k x e hk=> ?_,h.dS,fun b o hb=> ?_,fun b o h0=>hS _ _ (h.base b o h0),h.stay,fun s b hn h0=> ?_⟩
  ·rcases N8 _ _ hb with hb|⟨s,hs⟩
   ·exact h.lt b o hb
   ·exact h.wo (od s b hs).2
  ·obtain⟨hs,hb⟩:=uN s b hb
   obtain⟨h1,h2,cs,h3,h4⟩:=h.box s b hb
   refine⟨h1,fun o ho=> ?_,ah (fun s=>if ss.contains s then none else some s) some cs, ?_, ?_⟩
   ·rcases N8 _ _ ho with ho|⟨s',fA⟩
    ·exact h2 o ho
    ·obtain⟨hc,ff⟩:=od s' b fA
     have:=h.inj s s' b hb ff
     subst this
     rw[hs]at hc;cases hc
   ·rw[zW,if_pos (List.getElem?_eq_some_iff.1 h3).1,if_neg (by rw[hs];simp),fc.2 h3]
    rfl
   ·rw[bu]
    exact h4.mono rfl fun y u hy=>hm y u (fun k k' p h1 h2=>by simp only[Option.some.injEq]at h1;subst h1;exact h2) hy
  ·rw[zW]at hs
   split at hs<;>try(cases hs;done)
   simp only[Option.some.injEq]at hs
   split at hs<;>try(cases hs;done)
   rename_i hc
   obtain⟨Is,NO,rfl⟩:=Option.map_eq_some_iff.1 hs
   refine(h.boxed s Is (fc.1 NO)).imp (fun e=>by rw[e];rfl) fun⟨b,hb⟩=>⟨b, ?_⟩
   unfold p8
   rw[if_neg hc];exact hb
  ·obtain⟨g,n,c,sz,xs,i,h1,h2,h3,h4,h5,h6,h7⟩:=h.gm k x e hk
   refine⟨g,n,c,sz,xs,i,h1,h2,h3,h4,fun o ho=> ?_,fun s hs=>h6 s (uN s g hs).2,h7⟩
   rcases N8 _ _ ho with ho|⟨s,hs⟩
   ·exact h5 o ho
   ·exact absurd (od s g hs).2 (h6 s)
  ·rcases N8 _ _ hb with hb|⟨s,hs⟩
   ·exact h.top b o hb
   ·exact .inr (h.box s b (od s b hs).2).1
  ·by_cases hs:ss.contains s=true
   ·refine .inr ?_
    have hlt:s< bx.length:=by
     rcases h.pX s b hn h0 with hb|hb
     ·obtain⟨_,_,cs,h3,_⟩:=h.box s b hb
      exact(List.getElem?_eq_some_iff.1 h3).1
     ·exact(List.getElem?_eq_some_iff.1 hb).1
    rw[zW,if_pos hlt,if_pos hs]
   ·rcases h.pX s b hn h0 with hb|hb
    ·refine .inl ?_
     unfold p8
     rw[if_neg hs];exact hb
    ·refine .inr ?_
     rw[zW,if_pos (List.getElem?_eq_some_iff.1 hb).1,if_neg hs]
     have:ai bx s=none:=by unfold ai;rw[hb];rfl
     rw[this];rfl
theorem wX(ss:List Nat)(TF bx:List (Option (List T)))(s:Nat):(pw ss TF bx)[s]? =if s< bx.length then some (if ss.contains s then ai TF s else ai bx s)else none:=by
 unfold pw
 rw[List.getElem?_map]
 by_cases h:s< bx.length
 ·rw[List.getElem?_range h,if_pos h];rfl
 ·rw[List.getElem?_eq_none (by simpa using h),if_neg h];rfl
theorem Inv.abn(ss:List Nat)(h:Inv P W S0 S β φ bx w){w':World}{Xk X':Nat→Prop}{nb m0:Nat}{β0 β':aX}{S0' S':Nat→Nat→Prop}{φ':bB}{bx':List (Option (List T))}
  (J:Inv P ⟨w',Xk,nb,β0,m0⟩ S0' S' β' φ' bx' w') (Cy:∀s,ss.contains s=true→bx'[s]? =some none) (hS:∀b o,S b o→S' b o)
  (ey:∀b o,S b o→∀sp v,w.cell? ⟨b,o,sp⟩=some v→w'.cell? ⟨b,o,sp⟩=some v) (nZ:cg w w') (jw:∀s b,dv ss β s=some b→w'.heap[b]? =w.heap[b]?)
  (hL:∀s b,dv ss β s=some b→Xk b) (hnS:∀s b o,dv ss β s=some b→¬S' b o) (hX:∀b,X' b→Xk b) (hX2:∀s b,dv ss β s=some b→¬X' b)
  (rC:∀s b,nb≤s→β0 s=some b→β s=some b∨bx[s]? =some none):
  ∃p9,Inv P ⟨w',X',nb,β0,m0⟩ S0' S' p9 φ' (pw ss (jc ss bx) bx') w'∧∀x t ψ,ak S' w' β' ψ x t→ak S' w' p9 ψ x t:=by
 have od:∀s b,dv ss β s=some b→ss.contains s=true∧β s=some b:=fun s b hb=>by
  unfold dv at hb
  split at hb
  ·rename_i hs;exact⟨hs,hb⟩
  ·cases hb
 have hno:∀s b,β' s=some b→ss.contains s=false:=fun s b hb=>by
  obtain⟨_,_,cs,h3,_⟩:=J.box s b hb
  cases hs:ss.contains s with
  |false=>rfl
  |true=>rw[Cy s hs]at h3;cases h3
 obtain⟨p9,ju⟩:∃p9:aX,p9=fun s=>if ss.contains s then dv ss β s else β' s:=⟨_,rfl⟩
 have h1:∀s b,p9 s=some b→(ss.contains s=true∧dv ss β s=some b∧β s=some b)∨(ss.contains s=false∧β' s=some b):=fun s b hb=>by
  rw[ju]at hb
  simp only at hb
  split at hb
  ·rename_i hs;exact .inl ⟨hs,hb,(od s b hb).2⟩
  ·rename_i hs;exact .inr ⟨by simpa using hs,hb⟩
 have h2:∀s b,dv ss β s=some b→p9 s=some b:=fun s b hb=>by rw[ju];simp only;rw[if_pos (od s b hb).1];exact hb
 have h3:∀s b,β' s=some b→p9 s=some b:=fun s b hb=>by rw[ju];simp only;rw[if_neg (by rw[hno s b hb];simp)];exact hb
 have FO:∀s b,dv ss β s=some b→s< bx'.length:=fun s b hb=>(List.getElem?_eq_some_iff.1 (Cy s (od s b hb).1)).1
 have hmk:∀x t,ak S w β φ x t→ak S' w' p9 φ' x (t.aj (fun s=>if ss.contains s then some s else none) fun _=>none):=fun x t hx=>
  (hx.mono (w':=w') hS (fun _ _=>id) (fun _ _=>id) ey nZ).aj (fun s s' b g1 g2=>by
   split at g1<;>try(cases g1;done)
   rename_i hs
   simp only[Option.some.injEq]at g1
   subst g1
   refine h2 s b ?_
   unfold dv
   rw[if_pos hs];exact g2) (fun s s' g1=>by
   split at g1<;>try(cases g1;done)
   simp only[Option.some.injEq]at g1
   rw[g1]) (fun k k' p g1=>by cases g1)
 have xP:∀x t ψ,ak S' w' β' ψ x t→ak S' w' p9 ψ x t:=fun x t ψ hx=>hx.mono (fun _ _=>id) h3 (fun _ _=>id) (fun _ _ _ _ _=>id) (cg.refl _)
 refine⟨p9,⟨⟨rfl,rfl,rfl,Nat.le_refl _,fun b hb=>J.below.lt b (hX b hb),fun _ _=>rfl,cg.refl _⟩,J.lt,fun s b hb=> ?_,fun s cs hs=> ?_,fun s s' b hb ff=> ?_,fun k x e hk=> ?_,J.dS,fun b o hb=> ?_,J.base,fun _ _ _ _ _ hv=>hv,fun s b hn h0=> ?_⟩,xP⟩
 ·rcases h1 s b hb with⟨g1,g2,g3⟩|⟨g1,g2⟩
  ·obtain⟨_,_,cs,k3,k4⟩:=h.box s b g3
   refine⟨hX2 s b g2,fun o=>hnS s b o g2,ah (fun s=>if ss.contains s then some s else none) (fun _=>none) cs, ?_, ?_⟩
   ·rw[wX,if_pos (FO s b g2),if_pos g1]
    unfold ai
    rw[wW,if_pos (List.getElem?_eq_some_iff.1 k3).1,if_pos g1,fc.2 k3]
    rfl
   ·rw[bu]
    exact k4.mono (jw s b g2) hmk
  ·obtain⟨k1,k2,cs,k3,k4⟩:=J.box s b g2
   refine⟨fun hx=>k1 (hX b hx),k2,cs, ?_,k4.FP rfl fun y u=>xP y u φ'⟩
   rw[wX,if_pos (List.getElem?_eq_some_iff.1 k3).1,if_neg (by rw[g1];simp),fc.2 k3]
 ·rw[wX]at hs
  split at hs<;>try(cases hs;done)
  simp only[Option.some.injEq]at hs
  split at hs
  ·rename_i hc
   unfold ai at hs
   rw[wW]at hs
   split at hs<;>try(cases hs;done)
   try rw[if_pos hc]at hs
   simp only[Option.join_some]at hs
   obtain⟨Is,NO,rfl⟩:=Option.map_eq_some_iff.1 hs
   refine(h.boxed s Is (fc.1 NO)).imp (fun e=>by rw[e];rfl) fun⟨b,hb⟩=>⟨b,h2 s b ?_⟩
   unfold dv
   rw[if_pos hc];exact hb
  ·exact(J.boxed s cs (fc.1 hs)).imp id fun⟨b,hb⟩=>⟨b,h3 s b hb⟩
 ·rcases h1 s b hb with⟨g1,g2,g3⟩|⟨g1,g2⟩<;>rcases h1 s' b ff with⟨k1,k2,k3⟩|⟨k1,k2⟩
  ·exact h.inj s s' b g3 k3
  ·exact absurd (hL s b g2) (J.box s' b k2).1
  ·exact absurd (hL s' b k2) (J.box s b g2).1
  ·exact J.inj s s' b g2 k2
 ·obtain⟨g,n,c,sz,xs,i,k1,k2,k3,k4,k5,k6,k7⟩:=J.gm k x e hk
  refine⟨g,n,c,sz,xs,i,k1,k2,k3,k4,k5,fun s hs=> ?_,fun hx=>k7 (hX g hx)⟩
  rcases h1 s g hs with⟨g1,g2,g3⟩|⟨g1,g2⟩
  ·exact k7 (hL s g g2)
  ·exact k6 s g2
 ·exact(J.top b o hb).imp id fun hn hx=>hn (hX b hx)
 ·by_cases hs:ss.contains s=true
  ·rcases rC s b hn h0 with hb|hb
   ·refine .inl (h2 s b ?_)
    unfold dv
    rw[if_pos hs];exact hb
   ·refine .inr ?_
    rw[wX,if_pos (List.getElem?_eq_some_iff.1 (Cy s hs)).1,if_pos hs]
    unfold ai
    rw[wW,if_pos (List.getElem?_eq_some_iff.1 hb).1,if_pos hs]
    have:ai bx s=none:=by unfold ai;rw[hb];rfl
    rw[this];rfl
  ·rcases J.pX s b hn h0 with hb|hb
   ·exact .inl (h3 s b hb)
   ·refine .inr ?_
    rw[wX,if_pos (List.getElem?_eq_some_iff.1 hb).1,if_neg hs]
    have:ai bx' s=none:=by unfold ai;rw[hb];rfl
    rw[this]
def iI(K:Nat)(β:aX):aX:=fun s=>if K≤s then β (s-K)else none
theorem CB(K:Nat)(bx:List (Option (List T)))(s:Nat):(dD K bx)[s]? =if K≤s then(bx[s-K]?).map (Option.map (ah (fun s=>some (s+K)) some))else some none:=by
 unfold dD
 rw[List.getElem?_append]
 simp only[List.length_replicate]
 by_cases h:K≤s
 ·rw[if_neg (by omega),if_pos h,List.getElem?_map]
 ·rw[if_pos (by omega),if_neg h,List.getElem?_replicate,if_pos (by omega)]
theorem y9(K:Nat)(bx:List (Option (List T)))(s:Nat):(bD K bx)[s]? =(bx[s+K]?).map (Option.map (ah (fun s=>if K≤s then some (s-K)else none) some)):=by
 unfold bD
 rw[List.getElem?_map,List.getElem?_drop,Nat.add_comm]
theorem Core.shift{X:Nat→Prop}(h:Core P X S β φ bx w){K:Nat}(hK:K%2=0):Core P X S (iI K β) φ (dD K bx) w∧∀x t,ak S w β φ x t→ak S w (iI K β) φ x (t.aj (fun s=>some (s+K)) some):=by
 obtain⟨h1,h2⟩:=h.relabel (X':=X) (bx':=dD K bx) (ρ:=fun s=>some (s+K)) (ρi:=fun s=>if K≤s then some (s-K)else none) (η:=some) (ηi:=some)
  (fun l s=>by
   simp only[Option.some.injEq]
   constructor
   ·intro h;subst h;rw[if_pos (by omega)];congr 1;omega
   ·intro h;split at h
    ·simp only[Option.some.injEq]at h;omega
    ·cases h)
  (fun k k'=>by simp[eq_comm]) (fun l s h=>by simp only[Option.some.injEq]at h;omega)
  (fun l s cs h1 h2=>by
   simp only[Option.some.injEq]at h1
   subst h1
   rw[CB,if_pos (by omega),Nat.add_sub_cancel,h2]
   rfl)
  (fun s b9 h=>by
   rw[CB]at h
   split at h
   ·obtain⟨o,ho,h⟩:=Option.map_eq_some_iff.1 h
    obtain⟨cs,rfl,rfl⟩:=Option.map_eq_some_iff.1 h
    exact .inr ⟨s-K,cs,by congr 1;omega,ho,rfl⟩
   ·cases h)
  (fun b hb=> .inl hb)
 have e:(fun l=>((if K≤l then some (l-K)else none:Option Nat)).bind β)=iI K β:=by
  funext s
  unfold iI
  split<;>rfl
 rw[e]at h1 h2
 exact⟨h1,h2⟩
theorem Core.aev{X:Nat→Prop}(h:Core P X S β φ bx w){K:Nat}(hK:K%2=0):Core P X S (fun s=>β (s+K)) φ (bD K bx) w:=by
 obtain⟨h1,_⟩:=h.relabel (X':=X) (bx':=bD K bx) (ρ:=fun s=>if K≤s then some (s-K)else none) (ρi:=fun s=>some (s+K)) (η:=some) (ηi:=some)
  (fun l s=>by
   simp only[Option.some.injEq]
   constructor
   ·intro h;split at h
    ·simp only[Option.some.injEq]at h;omega
    ·cases h
   ·intro h;subst h;rw[if_pos (by omega)];congr 1;omega)
  (fun k k'=>by simp[eq_comm]) (fun l s h=>by
   split at h<;>try(cases h;done)
   simp only[Option.some.injEq]at h;omega)
  (fun l s cs h1 h2=>by
   split at h1<;>try(cases h1;done)
   simp only[Option.some.injEq]at h1
   subst h1
   rw[y9,Nat.sub_add_cancel (by assumption),h2]
   rfl)
  (fun s b9 h=>by
   rw[y9]at h
   obtain⟨o,ho,h⟩:=Option.map_eq_some_iff.1 h
   obtain⟨cs,rfl,rfl⟩:=Option.map_eq_some_iff.1 h
   exact .inr ⟨s+K,cs,by rw[if_pos (by omega)];congr 1;omega,ho,rfl⟩)
  (fun b hb=> .inl hb)
 exact h1
theorem GI{vm:List Nat}{nt:Nat}(EA:vm.Nodup):∀(ps:List Nat) (is:List Nat) (xs:List Value) (y:List T) (tmps:Array Value) (vars:List T),tmps.size=nt→(∀p∈ps,p< nt)→ps.mapM (vm.idxOf? ·)=some is→xs.length=y.length→y.length=ps.length→
  (∀(i:Nat) (x:Value) (t:T),xs[i]? =some x→y[i]? =some t→ak S w β φ x t)→(∀(i s:Nat) (u:T),vm[i]? =some s→vars[i]? =some u→ak S w β φ (tmps.getD s undef) u)→
  (cM is y vars).length=vars.length∧((ps.zip xs).foldl (fun t (p,v)=>t.setIfInBounds p v) tmps).size=nt∧
   ∀(i s:Nat) (u:T),vm[i]? =some s→(cM is y vars)[i]? =some u→ak S w β φ (((ps.zip xs).foldl (fun t (p,v)=>t.setIfInBounds p v) tmps).getD s undef) u
 | [],is,xs,y,tmps,vars,hsz,_,wY,_,hy,_,hv=>by
  simp only[List.mapM_nil,Option.pure_def,Option.some.injEq]at wY
  subst wY
  have:cM [] y vars=vars:=by cases y<;>rfl
  rw[this]
  exact⟨rfl,by simpa using hsz,by simpa using hv⟩
 |p::ps,is,xs,y,tmps,vars,hsz,hlt,wY,hx,hy,hr,hv=>by
  simp only[List.mapM_cons,Option.bind_eq_bind,Option.pure_def]at wY
  obtain⟨i0,hi0,wY⟩:=Option.bind_eq_some_iff.1 wY
  obtain⟨is',amT,wY⟩:=Option.bind_eq_some_iff.1 wY
  simp only[Option.some.injEq]at wY
  subst wY
  cases y with
  |nil=>simp at hy
  |cons t y=>
  cases xs with
  |nil=>simp at hx
  |cons x xs=>
   simp only[cM,List.zip_cons_cons,List.foldl_cons]
   have hi:vm[i0]? =some p:=fz hi0
   have hp:=hlt p (by simp)
   have key:∀(i s:Nat) (u:T),vm[i]? =some s→(vars.set i0 t)[i]? =some u→ak S w β φ ((tmps.setIfInBounds p x).getD s undef) u:=fun i s u hs hu=>by
    rw[List.getElem?_set]at hu
    split at hu
    ·rename_i he
     subst he
     rw[hi]at hs
     simp only[Option.some.injEq]at hs
     subst hs
     split at hu<;>try(cases hu;done)
     simp only[Option.some.injEq]at hu
     subst hu
     rw[AO (by omega)]
     exact hr 0 x t rfl rfl
    ·rename_i hne
     have N7:p≠s:=fun e=>by
      subst e
      obtain⟨g1,g2⟩:=List.getElem?_eq_some_iff.1 hi
      obtain⟨g3,g4⟩:=List.getElem?_eq_some_iff.1 hs
      exact hne ((List.getElem_inj EA).1 (g2.trans g4.symm))
     rw[getD_set_ne N7]
     exact hv i s u hs hu
   obtain⟨h1,h2,h3⟩:=GI EA ps is' xs y (tmps.setIfInBounds p x) (vars.set i0 t) (by simpa using hsz) (fun q hq=>hlt q (by simp[hq])) amT (by simpa using hx) (by simpa using hy)
    (fun i x t hx ht=>hr (i+1) x t (by simpa using hx) (by simpa using ht)) key
   exact⟨by rw[h1];simp,h2,h3⟩
end
end Go.Vi
end
section
namespace Go.Vi
open Go Go.RowKit
section
variable{P:Program}{W:di}{w:World}{S0 S:Nat→Nat→Prop}{β:aX}{φ:bB}{a:Act}{o:Oper}{σ:St}{nt:Nat}{vm bm:List Nat}
structure Ext(S0:Nat→Nat→Prop)(W W2:di):Prop where
 X:∀b,W.X b→W2.X b
 lz:N9 W W2.w
 nb:W2.nb=W.nb
 β0:W2.β0=W.β0
 m0:W2.m0=W.m0
 stay:∀b o,S0 b o→∀sp v,W.w.cell? ⟨b,o,sp⟩=some v→W2.w.cell? ⟨b,o,sp⟩=some v
theorem Ext.refl{S0:Nat→Nat→Prop}{W:di}(h:∀k,W.X k→k< W.w.heap.size):Ext S0 W W:=
 ⟨fun _ h=>h,⟨rfl,rfl,rfl,Nat.le_refl _,h,fun _ _=>rfl,cg.refl _⟩,rfl,rfl,rfl,fun _ _ _ _ _ h=>h⟩
theorem Ext.trans{S0:Nat→Nat→Prop}{W W2 W3:di}(h:Ext S0 W W2)(k:Ext S0 W2 W3):Ext S0 W W3:=
 ⟨fun b hb=>k.X b (h.X b hb),⟨k.lz.os.trans h.lz.os,k.lz.tape.trans h.lz.tape,k.lz.output.trans h.lz.output,Nat.le_trans h.lz.size k.lz.size,h.lz.lt,fun b hb=>(k.lz.block b (h.X b hb)).trans (h.lz.block b hb),h.lz.room.trans k.lz.room⟩,
  k.nb.trans h.nb,k.β0.trans h.β0,k.m0.trans h.m0,fun b o h0 sp v hv=>k.stay b o h0 sp v (h.stay b o h0 sp v hv)⟩
def pq(P:Program)(W:di)(S0:Nat→Nat→Prop)(nt:Nat)(vm:List Nat)(σ:St)(a:Act)(w:World):Prop:=∃W2 S β φ,Ext S0 W W2∧bY P W2 S0 S β φ nt vm [] σ a w
def mU(P:Program)(bN:List Nat→Array Oper→List (Option (Nat×Bool)×IOp)→Bool):Prop:=
 ∀(C:FuncId→List T→Option T) (io:FuncId→Nat) (W:di) (w:World) (S0 S:Nat→Nat→Prop) (β:aX) (φ:bB) (nt:Nat) (vm bm:List Nat) (id:Nat) (ops:Array Oper) (il:List (Option (Nat×Bool)×IOp)) (σ σ':St) (a:Act) (Q:Exit→Act→World→Prop) (rn:Option Nat) (n:Nat),
  (∀f args r,C f args=some r→Sound P f args r)→2*bm.length≤W.nb→bN vm ops il=true→bY P W S0 S β φ nt vm [] σ a w→kc P io nt vm bm [] ops.toList=some il→eZ C σ il=some σ'→
  (∀S' β' φ' a' w',bY P W S0 S' β' φ' nt vm (ops.toList.map (·.dst)) σ' a' w'→a'.defers=a.defers→Q .normal a' w')→(Code.region id ops true).wpIn (wd rn) n P Q a w
theorem bY.fin{Kd:List (Option Nat)}(h:bY P W S0 S β φ nt vm Kd σ a w):bY P W S0 S β φ nt vm [] ⟨[],fJ σ.rs σ.vars (vm.map (qV Kd)),σ.boxes⟩ a w:=by
 refine⟨h.inv,h.nd,h.size,by simp[fJ,h.pn],rfl,fun i s u hi _ hu=> ?_,fun j s u hj=>by simp at hj,fun j j' s hj=>by simp at hj⟩
 simp only[fJ,List.getElem?_zipWith]at hu
 simp only[List.getElem?_map,hi,Option.map_some]at hu
 cases hv:σ.vars[i]? with
 |none=>rw[hv]at hu;simp at hu
 |some v=>
  rw[hv]at hu
  simp only[Option.some.injEq]at hu
  cases hl:qV Kd s with
  |none=>
   rw[hl]at hu
   simp only at hu
   subst hu
   exact h.vars i s v hi (Ex hl) hv
  |some j=>
   rw[hl]at hu
   simp only at hu
   subst hu
   have hj:=y6 hl
   have hlt:j< σ.rs.length:=by rw[h.p7];exact(List.getElem?_eq_some_iff.1 hj).1
   exact h.uM j s _ hj (by simp[List.getD_eq_getElem?_getD,hlt])
theorem Hz:∀(vs:List Nat) (vars:List T),bY P W S0 S β φ nt vm [] {σ with vars:=vars} a w→bY P W S0 S β φ nt vm [] {σ with vars:=er vs vars} a w
 | [],vars,h=>h
 |v::vs,vars,h=>by
  refine Hz vs (vars.set v .undef) ⟨h.inv,h.nd,h.size,by simpa using h.pn,h.p7,fun i s u hi hn hu=> ?_,h.uM,h.AN⟩
  simp only[List.getElem?_set]at hu
  split at hu
  ·split at hu
   ·simp only[Option.some.injEq]at hu;subst hu;exact .undef ..
   ·cases hu
  ·exact h.vars i s u hi hn hu
theorem HA:∀(ss:List Nat) {σ σ':St} {β:aX},bY P W S0 S β φ nt vm [] σ a w→cB ss σ=some σ'→∃β',bY P W S0 S β' φ nt vm [] σ' a w
 | [],σ,σ',β,h,hf=>by
  simp only[cB,Option.some.injEq]at hf
  subst hf
  exact⟨β,h⟩
 |s::ss,σ,σ',β,h,hf=>by
  simp only[cB]at hf
  split at hf<;>try(cases hf;done)
  rename_i hn
  simp only[St.ay,Bool.and_eq_true,qX,List.all_eq_true]at hn
  obtain⟨⟨_,hnv⟩,dm⟩:=hn
  let β':aX:=fun k=>if k=s then none else β k
  have ju:∀s' b,s'≠s→β s'=some b→β' s'=some b:=fun s' b hne hb=>by simp[β',hne,hb]
  have T0:∀s' b,β' s'=some b→s'≠s∧β s'=some b:=fun s' b hb=>by
   simp only[β']at hb
   split at hb
   ·cases hb
   ·rename_i hne;exact⟨hne,hb⟩
  refine HA ss (β:=β') (σ:={σ with boxes:=σ.boxes.set s none}) ⟨⟨h.inv.below,h.inv.lt,fun s' b hb=> ?_,fun s' cs hs=> ?_,fun s1 s2 b h1 h2=>h.inv.inj s1 s2 b (T0 _ _ h1).2 (T0 _ _ h2).2,fun k x e hk=> ?_,h.inv.dS,h.inv.top,h.inv.base,h.inv.stay,fun s' b nK h0=> ?_⟩,h.nd,h.size,h.pn,h.p7,fun i s' u hi nK hu=> ?_,fun j s' u hj=>by simp at hj,h.AN⟩ hf
  ·obtain⟨hne,hb⟩:=T0 _ _ hb
   obtain⟨h1,h2,cs,h3,h4⟩:=h.inv.box s' b hb
   have aF:=dm _ (List.mem_of_getElem? h3)
   simp only[List.all_eq_true,qX]at aF
   refine⟨h1,h2,cs,by simp only[List.getElem?_set,if_neg (fun h=>hne h.symm:¬s=s')];exact h3, ?_⟩
   refine⟨fun hp=> ?_,fun hp=> ?_⟩
   ·obtain⟨c,e,g1,g2,g3,g4⟩:=h4.1 hp
    exact⟨c,e,g1,g2,g3,fun i x t hx ht=>(g4 i x t hx ht).ay (aF t (List.mem_of_getElem? ht)) ju⟩
   ·obtain⟨es,ck,g1,g2⟩:=h4.2 hp
    refine⟨es,ck,g1, ?_⟩
    have:∀{es:List MapEntry} {ts:List T},fZ S w β φ es ts→(∀t∈ts,t.ay s=true)→fZ S w β' φ es ts:=fun h=>by
     induction h with
     |nil=>exact fun _=> .nil
     |cons e es k v ts hk hv h ih=>
      intro iy
      exact .cons _ _ _ _ _ (hk.ay (iy k (by simp)) ju) (hv.ay (iy v (by simp)) ju) (ih fun t ht=>iy t (by simp[ht]))
    exact⟨this g2.1 aF,g2.2⟩
  ·simp only[List.getElem?_set]at hs
   split at hs
   ·split at hs<;>cases hs
   ·rename_i hne
    exact(h.inv.boxed s' cs hs).imp id fun⟨b,hb⟩=>⟨b,ju _ _ (fun h=>hne h.symm) hb⟩
  ·obtain⟨g,n,c,sz,xs,i,h1,h2,h3,h4,h5,h6,h7⟩:=h.inv.gm k x e hk
   exact⟨g,n,c,sz,xs,i,h1,h2,h3,h4,h5,fun s' fA=>h6 s' (T0 _ _ fA).2,h7⟩
  ·by_cases hne:s'=s
   ·subst hne
    rcases h.inv.pX s' b nK h0 with hb|hb
    ·obtain⟨_,_,cs,h3,_⟩:=h.inv.box s' b hb
     have:=(List.getElem?_eq_some_iff.1 h3).1
     exact .inr (by simp[this])
    ·have:=(List.getElem?_eq_some_iff.1 hb).1
     exact .inr (by simp[this])
   ·rcases h.inv.pX s' b nK h0 with hb|hb
    ·exact .inl (ju _ _ hne hb)
    ·exact .inr (by simp only[List.getElem?_set,if_neg (fun h=>hne h.symm:¬s=s')];exact hb)
  ·exact(h.vars i s' u hi nK hu).ay (hnv u (List.mem_of_getElem? hu)) ju
def gC(j:Nat):Exit:=if j< cE then .exit j else .goto (j-cE)
def zX(P:Program)(W:di)(S0:Nat→Nat→Prop)(nt:Nat)(vm:List Nat)(Q:Exit→Act→World→Prop):Out→Prop
 | .norm σ=>∀a w,pq P W S0 nt vm σ a w→Q .normal a w
 | .exit id σ=>∀a w,pq P W S0 nt vm σ a w→Q (gC id) a w
 | .ret σ=>∀a w,pq P W S0 nt vm σ a w→Q .ret a w
theorem zX.mono{Q Q':Exit→Act→World→Prop}{o:Out}(h:zX P W S0 nt vm Q o)(hq:∀e a w,Q e a w→Q' e a w):zX P W S0 nt vm Q' o:=by
 cases o with
 |norm σ=>exact fun a w hc=>hq _ _ _ (h a w hc)
 |exit id σ=>exact fun a w hc=>hq _ _ _ (h a w hc)
 |ret σ=>exact fun a w hc=>hq _ _ _ (h a w hc)
theorem pq.kill{vs:List Nat}(h:pq P W S0 nt vm σ a w):pq P W S0 nt vm {σ with vars:=er vs σ.vars} a w:=by
 obtain⟨W2,S,β,φ,h1,h2⟩:=h
 exact⟨W2,S,β,φ,h1,Hz vs σ.vars h2⟩
theorem pq.free{ss:List Nat}{σ':St}(h:pq P W S0 nt vm σ a w)(hf:cB ss σ=some σ'):pq P W S0 nt vm σ' a w:=by
 obtain⟨W2,S,β,φ,h1,h2⟩:=h
 obtain⟨β',h3⟩:=HA ss h2 hf
 exact⟨W2,S,β',φ,h1,h3⟩
theorem GJ{C:FuncId→List T→Option T}{N:Nat}{kv kb:List Nat}{ia:IC}{σ:St}:exec C N (.seq (.kill kv) (.seq (.free kb) ia)) σ=(cB kb {σ with vars:=er kv σ.vars}).bind fun az=>exec C N ia az:=by
 simp only[exec]
 cases cB kb {σ with vars:=er kv σ.vars}<;>rfl
theorem Inv.T1{W2:di}{bx:List (Option (List T))}(h:Inv P W2 S0 S β φ bx w)(hE:Ext S0 W W2):Inv P W S0 S β φ bx w:=by
 refine⟨⟨h.below.os.trans hE.lz.os,h.below.tape.trans hE.lz.tape,h.below.output.trans hE.lz.output,Nat.le_trans hE.lz.size h.below.size,hE.lz.lt,fun k hk=>(h.below.block k (hE.X k hk)).trans (hE.lz.block k hk),hE.lz.room.trans h.below.room⟩,h.lt,
  fun s b hb=> ?_,h.boxed,h.inj,fun k x e hk=> ?_,h.dS,fun b o hs=>(h.top b o hs).imp id fun hn hx=>hn (hE.X b hx),h.base,fun b o h0 sp v hv=>h.stay b o h0 sp v (hE.stay b o h0 sp v hv),fun s b hn h0=> ?_⟩
 ·obtain⟨h1,h2,h3⟩:=h.box s b hb
  exact⟨fun hx=>h1 (hE.X b hx),h2,h3⟩
 ·obtain⟨g,n,c,sz,xs,i,h1,h2,h3,h4,h5,h6,h7⟩:=h.gm k x e hk
  exact⟨g,n,c,sz,xs,i,h1,h2,h3,h4,h5,h6,fun hx=>h7 (hE.X g hx)⟩
 ·exact h.pX s b (by rw[hE.nb];exact hn) (by rw[hE.β0];exact h0)
end
end Go.Vi
end
section
namespace Go.Vi
open Go Go.RowKit
section
variable{P:Program}{W:di}{w:World}{S0 S:Nat→Nat→Prop}{β:aX}{φ:bB}{a:Act}{σ:St}{nt:Nat}{vm bm:List Nat}
theorem EB{run:St→Option Out}{K:Nat}{is:List Nat}:∀(ys:List (List T)) (vars:List T) (bx:List (Option (List T))) (Se:St),ml run K is (ys.map T.al) vars bx=some Se→
  ∃(V:Nat→List T) (B:Nat→List (Option (List T))),V 0=vars∧B 0=bx∧Se=⟨[],V ys.length,B ys.length⟩∧∀k y,ys[k]? =some y→y.length=is.length∧
   ∃σ',run ⟨[],cM is y (ah (fun s=>some (s+K)) (fun _=>none) (V k)),dD K (B k)⟩=some (.norm σ')∧B (k+1)=bD K σ'.boxes∧V (k+1)=fv (bD K σ'.boxes) (V k)
 | [],vars,bx,Se,h=>by
  simp only[List.map_nil,ml,Option.some.injEq]at h
  exact⟨fun _=>vars,fun _=>bx,rfl,rfl,h.symm,fun k y hy=>by simp at hy⟩
 |y::ys,vars,bx,Se,h=>by
  simp only[List.map_cons,ml]at h
  split at h<;>try(cases h;done)
  rename_i hl
  split at h<;>try(cases h;done)
  rename_i σ' hrun
  obtain⟨V,B,h1,h2,h3,h4⟩:=EB ys _ _ Se h
  refine⟨fun k=>match k with|0=>vars|k+1=>V k,fun k=>match k with|0=>bx|k+1=>B k,rfl,rfl,h3,fun k z hz=> ?_⟩
  cases k with
  |zero=>
   simp only[List.getElem?_cons_zero,Option.some.injEq]at hz
   subst hz
   exact⟨hl,σ',hrun,h2,h1⟩
  |succ k=>
   simp only[List.getElem?_cons_succ]at hz
   exact h4 k z hz
theorem Oa{x:Value}{u:T}{f:FuncId}{first cap:List T}(hx:ak S w β φ x u)(hg:eQ u=some (f,first,cap)):
  ∃xs ys:Array Value,x= .func (.func f) xs ys∧xs.size=first.length∧ys.size=cap.length∧∀(i:Nat) (y:Value) (t:T),ys[i]? =some y→cap[i]? =some t→ak S w β φ y t:=by
 unfold eQ at hg
 split at hg
 ·rename_i f' a b
  split at hg<;>try(cases hg;done)
  rename_i Bx
  simp only[Option.some.injEq,Prod.mk.injEq]at hg
  obtain⟨rfl,rfl,rfl⟩:=hg
  have:=cA hx
  subst this
  exact⟨a,b,rfl,by simpa using Bx.1,by simpa using Bx.2,fun i y t _ ht=>by simp at ht⟩
 ·simp only[Option.some.injEq,Prod.mk.injEq]at hg
  obtain⟨rfl,rfl,rfl⟩:=hg
  cases hx with
  |bq _ _ _ xs ys _ _ hx hy _ k=>exact⟨xs,ys,rfl,hx,hy,k⟩
 ·cases hg
theorem AP{ss:List Nat}{β:aX}{s b:Nat}(hb:dv ss β s=some b):ss.contains s=true∧β s=some b:=by
 unfold dv at hb
 split at hb
 ·rename_i hs;exact⟨hs,hb⟩
 ·cases hb
theorem WQ{SL SR:Nat→Nat→Prop}{W:World}{β β':aX}{φ φ':bB}{x:Value}{t:T}(h:ak SL W β φ x t)(ht:scal t=true):ak SR W β' φ' x t:=by
 cases t<;>simp only[scal]at ht<;>try(cases ht;done)
 ·cases h;exact .v ..
 ·rename_i ts
  cases h with
  |agg _ _ xs _ hl h1 h=>
  refine .agg _ _ _ _ hl h1 fun i y u hy hu=> ?_
  have:=List.all_eq_true.1 ht u (List.mem_of_getElem? hu)
  have h2:=h i y u hy hu
  cases u<;>simp only[T.A4]at this<;>try(cases this;done)
  cases h2;exact .v ..
theorem WR{ys:List (List T)}(h:vR (ys.map T.al)=true):∀y∈ys,∀t∈y,scal t=true:=fun y hy t ht=>by
 unfold vR at h
 rw[List.all_map,List.all_eq_true]at h
 have:=h y hy
 simp only[Function.comp]at this
 exact List.all_eq_true.1 this t ht
set_option maxHeartbeats 1000000 in
theorem Q2{C:FuncId→List T→Option T}(hC:∀f args r,C f args=some r→Sound P f args r){N n:Nat}{g:Operand}{d:ag}{ps:Array Tmp}{is:List Nat}{ca cb:Code}{ia ib:IC}{out:Out}{Q:Exit→Act→World→Prop}
  (EA:vm.Nodup) (N7:ps.toList.all (· < nt)=true) (hd:lP vm [] g=some d) (wY:ps.toList.mapM (vm.idxOf? ·)=some is)
  (za:∀{W:di} {S0:Nat→Nat→Prop} {rn:Option Nat} {n:Nat} {σ:St} {out:Out} {a:Act} {w:World} {Q:Exit→Act→World→Prop},2*bm.length≤W.nb→W.m0≤W.w.heap.size→exec C N ia σ=some out→pq P W S0 nt vm σ a w→zX P W S0 nt vm Q out→ca.wpIn (wd rn) n P Q a w)
  (Sf:∀{W:di} {S0:Nat→Nat→Prop} {rn:Option Nat} {n:Nat} {σ:St} {out:Out} {a:Act} {w:World} {Q:Exit→Act→World→Prop},2*bm.length≤W.nb→W.m0≤W.w.heap.size→exec C N ib σ=some out→pq P W S0 nt vm σ a w→zX P W S0 nt vm Q out→cb.wpIn (wd rn) n P Q a w)
  (nI:W.m0≤W.w.heap.size) (he:exec C N (.range (2*bm.length) d is ia ib) σ=some out) (hc:pq P W S0 nt vm σ a w) (hQ:zX P W S0 nt vm Q out):
  (Code.rangeFunc g ps ca cb).wpIn (wd none) n P Q a w:=by
 generalize hK:2*bm.length=K at he za Sf
 have WS:K%2=0:=by omega
 simp only[exec]at he
 split at he<;>try(cases he;done)
 rename_i f caps fD
 generalize reach σ.boxes 10000 [] (dZ caps)=ss at he
 obtain⟨cs,aF,he⟩:=Option.bind_eq_some_iff.1 he
 split at he<;>try(cases he;done)
 rename_i Iu hCr
 obtain⟨Se,hre,rfl⟩:=Option.map_eq_some_iff.1 he
 have hSq:=hC _ _ _ hCr
 unfold Sound at hSq
 rw[if_neg (Nat.not_lt.2 (Nat.le_add_right _ _))]at hSq
 obtain⟨b9,ys,e1,e2,Kc⟩:=hSq.resolve_left fun⟨_,_,_,_,e1,_⟩=>by simp at e1
 simp only[List.cons.injEq,T.al.injEq,and_true]at e1 e2
 subst e1 e2
 rw[Nat.add_sub_cancel_left]at Kc
 obtain⟨V,B,hV0,DB,rfl,Iv⟩:=EB ys _ _ _ hre
 obtain⟨W2,S,β,φ,hE,hR⟩:=hc
 obtain⟨xs0,lb,Bm,abo,uN,amU⟩:=Oa (hR.opd g d hd) fD
 have abo:xs0=#[]:=by simpa using abo
 subst abo
 obtain⟨SR,Lb,hSR,T2,hLb,agw,T3,ac8,ai2⟩:∃(SR:Nat→Nat→Prop) (Lb:Nat→Prop),(∀b o,S b o→SR b o)∧(∀b o,SR b o→ga S (dv ss β) b o)∧(∀b,Lb b→∃s,dv ss β s=some b∧β s=some b)∧(∀b,Lb b→∀o,¬SR b o)∧
   (∀b o,ga S (dv ss β) b o→SR b o∨Lb b)∧(∀y∈ys,∀t∈y,∀W x,ak (ga S (dv ss β)) W bn cD x t→ak SR W bn cD x t)∧(vR (ys.map T.al)=true→∀s b,dv ss β s=some b→Lb b):=by
  by_cases hs:vR (ys.map T.al)=true
  ·exact⟨S,fun b=>∃s,dv ss β s=some b∧β s=some b,fun _ _ h=>h,fun _ _ h=> .inl h,fun _ h=>h,fun b ⟨s,_,hb⟩ o=>(hR.inv.box s b hb).2.1 o,fun b o h=>h.imp id fun⟨s,h⟩=>⟨s,h,(AP h).2⟩,
    fun y hy t ht W x hx=>WQ hx (WR hs y hy t ht),fun _ s b h=>⟨s,h,(AP h).2⟩⟩
  ·exact⟨ga S (dv ss β),fun _=>False,fun _ _ h=> .inl h,fun _ _ h=>h,fun _ h=>h.elim,fun _ h=>h.elim,fun _ _ h=> .inl h,fun _ _ _ _ _ _ h=>h,fun h=>absurd h hs⟩
 obtain⟨hclose,Iw,Ob,N8⟩:=hR.inv.amS ss hSR T2
 have uO:∀b,Lb b→b< w.heap.size∧¬W2.X b∧(∀s,p8 ss β s≠some b)∧∀k x e,φ k=some (x,e)→x.ownBlock≠some b:=fun b hb=>by
  obtain⟨s,h1,h2⟩:=hLb b hb
  refine⟨hR.inv.wo h2,(hR.inv.box s b h2).1,fun s' h3=> ?_,fun k x e hk he=> ?_⟩
  ·unfold p8 at h3
   split at h3<;>try(cases h3;done)
   rename_i hs
   have:=hR.inv.inj s s' b h2 h3
   subst this
   exact hs (AP h1).1
  ·obtain⟨g,n,c,sz,xs,i,rfl,_,_,_,_,h6,_⟩:=hR.inv.gm k x e hk
   simp only[Value.ownBlock,Option.some.injEq]at he
   subst he
   exact h6 s h2
 generalize WT:ga S (dv ss β)=SL at hclose N8 T3 ac8 T2
 generalize p8 ss β=βo at Iw Ob uO
 have FQ:∀b o,SR b o→b< w.heap.size:=Iw.lt
 have ac9:∀b o,SL b o→b< w.heap.size:=fun b o h=>(T3 b o h).elim (FQ b o) fun h=>(uO b h).1
 have agx:∀b o,SR b o→S0 b o∨¬W2.X b:=Iw.top
 have Oc:∀b,W2.X b→b< w.heap.size:=fun b hb=>Nat.lt_of_lt_of_le (hR.inv.below.lt b hb) hR.inv.below.size
 obtain⟨bV,_⟩:=du aF
 let Xk:(Nat→Prop)→Nat→Prop:=fun own b=>W2.X b∨b=w.heap.size∨b=w.heap.size+1∨own b∨Lb b
 let I:Nat→(Nat→Prop)→World→Prop:=fun k own Wk=>N9 W2 Wk∧w.heap.size+2≤Wk.heap.size∧(∀b o,SL b o→∀sp v,w.cell? ⟨b,o,sp⟩=some v→Wk.cell? ⟨b,o,sp⟩=some v)∧(∀b,Lb b→Wk.heap[b]? =w.heap[b]?)∧cg w Wk∧
  ∃S' β' φ',Inv P ⟨Wk,Xk own,0,bn,0⟩ SR S' β' φ' (B k) Wk∧(∀s b,W2.nb≤s→W2.β0 s=some b→β' s=some b∨(B k)[s]? =some none)∧
   (∀(i s:Nat) (u:T),vm[i]? =some s→(V k)[i]? =some u→ak S' Wk β' cD (a.tmps.getD s undef) u)∧(V k).length=vm.length
 refine WN (S:=SL) Bm Kc ac9 (by rw[uN];rw[bu,List.length_map]at bV;exact bV) (fun i x t hx ht=> ?_) (fun y hy=> ?_) I (fun o=> ?_) (fun k own tu Wk Wk' WU oc hsz hst=> ?_) (fun k y own Wk xs m hy WU oc hl hD Lf cj=> ?_) (fun own Wk o WU oc hl hD=> ?_)
 ·obtain⟨q,hq,hcq⟩:=mapM_map aF i t ht
  rw[bu,List.getElem?_map]at hq
  obtain⟨t0,ht0,rfl⟩:=Option.map_eq_some_iff.1 hq
  exact hclose 8 x t0 t (amU i x t0 hx ht0) hcq
 ·obtain⟨k,hk⟩:=List.mem_iff_getElem?.1 hy
  obtain⟨h1,_⟩:=Iv k y hk
  rw[h1]
  obtain⟨h2,_⟩:=du wY
  simpa using h2.symm
 ·
  have mc:Below w.heap.size w ((w.alloc (.deferred (some []))).alloc (.loop o)):=((Below.refl _ w).alloc (Nat.le_refl _) _).alloc (by simp) _
  have hsz:((w.alloc (.deferred (some []))).alloc (.loop o)).heap.size=w.heap.size+2:=by simp
  obtain⟨J,hm,ey⟩:=Iw.Sb (w':=(w.alloc (.deferred (some []))).alloc (.loop o)) (X':=Xk fun _=>False) (S0':=SR) (nb:=0) (m0:=0) (β0:=bn) (fun _=>False) (by omega) (fun b hb _=>mc.block b hb) (fun b hb=>hb.elim)
   (fun b o hs sp v hv=>(mc.cell (p:=⟨b,o,sp⟩) (FQ b o hs)).trans hv)
   (fun b hb=>by
           rcases hb with h|h|h|h|h
           ·exact .inl h
           ·exact .inr (.inl (by omega))
           ·exact .inr (.inl (by omega))
           ·exact h.elim
           ·exact .inr (.inr (uO b h).2.2))
   (fun b hb=>by
           rcases hb with h|h|h|h|h
           ·have:=Oc b h;omega
           ·omega
           ·omega
           ·exact h.elim
           ·have:=(uO b h).1;omega)
   (fun _ _ h=>h) (fun _ _ h=> .inl h) (fun s b _ h=>by simp[bn]at h) (iF mc.block)
  rw[←DB]at J
  refine⟨(Iw.grow mc).below,by omega,fun b o hs sp v hv=>(mc.cell (p:=⟨b,o,sp⟩) (ac9 b o hs)).trans hv,fun b hb=>mc.block b (uO b hb).1,iF mc.block,SR,βo,φ,J,fun s b hn h0=> ?_,fun i s u hi hu=> ?_, ?_⟩
  ·rw[DB];exact Iw.pX s b hn h0
  ·rw[hV0,bu,List.getElem?_map]at hu
   obtain⟨u0,WV,rfl⟩:=Option.map_eq_some_iff.1 hu
   exact hm _ _ _ (Ob _ _ (hR.vars i s u0 hi (by simp) WV))
  ·rw[hV0,bu,List.length_map];exact hR.pn
 ·
  obtain⟨hB,T4,ey,WW,WX,S',β',φ',J,rC,hV,Sg⟩:=WU
  have ke:∀b o,own b→¬S' b o:=fun b o hb hs=>by
   rcases J.top b o hs with h|h
   ·have h1:=FQ b o h;have h2:=(oc b hb).1;omega
   ·exact h (.inr (.inr (.inr (.inl hb))))
  have ada:∀b,Lb b→Wk'.heap[b]? =Wk.heap[b]? :=fun b hb=>hst.block b (by have:=(uO b hb).1;omega) fun ho=>by have h1:=(uO b hb).1;have h2:=(oc b ho).1;omega
  obtain⟨J',hm,hcell'⟩:=J.It (w':=Wk') (X':=Xk tu) (S0':=SR) (nb:=0) (m0:=0) (β0:=bn) own hst.size (fun b hb hn=>hst.block b hb hn) (fun b hb=>⟨.inr (.inr (.inr (.inl hb))),fun o=>ke b o hb⟩)
   (fun b hb=>by
           rcases hb with h|h|h|h|h
           ·exact .inl (.inl h)
           ·exact .inl (.inr (.inl h))
           ·exact .inl (.inr (.inr (.inl h)))
           ·rcases hst.new b h with h'|h'
            ·exact .inl (.inr (.inr (.inr (.inl h'))))
            ·exact .inr h'.1
           ·exact .inl (.inr (.inr (.inr (.inr h)))))
   (fun b hb=>by
    have h1:=hst.size
    rcases hb with h|h|h|h|h
    ·have:=Oc b h;omega
    ·omega
    ·omega
    ·rcases hst.new b h with h'|h'
     ·have:=(oc b h').2;omega
     ·exact h'.2
    ·have:=(uO b h).1;omega)
   J.base (fun b o hs=>(J.top b o hs).imp id fun hn hx=>hn (by
    rcases hx with h|h|h|h|h
    ·exact .inl h
    ·exact .inr (.inl h)
    ·exact .inr (.inr (.inl h))
    ·rcases hst.new b h with h'|h'
     ·exact .inr (.inr (.inr (.inl h')))
     ·have:=J.lt b o hs;omega
    ·exact .inr (.inr (.inr (.inr h))))) (fun s b _ h=>by simp[bn]at h) hst.room
  refine⟨⟨hst.os.trans hB.os,hst.tape.trans hB.tape,hst.output.trans hB.output,Nat.le_trans hB.size hst.size,hB.lt,fun b hb=> ?_,hB.room.trans hst.room⟩,Nat.le_trans T4 hst.size,fun b o hs sp v hv=> ?_,fun b hb=>(ada b hb).trans (WW b hb),WX.trans hst.room,S',β',φ',J',rC,fun i s u hi hu=>hm _ _ _ (hV i s u hi hu),Sg⟩
  ·have hlt:=Oc b hb
   exact(hst.block b (by omega) fun ff=>by have:=(oc b ff).1;omega).trans (hB.block b hb)
  ·rcases T3 b o hs with h|h
   ·exact hcell' b o (J.base b o h) sp v (ey b o hs sp v hv)
   ·rw[World.cell?_of_block (w:=Wk) (ada b h)]
    exact ey b o hs sp v hv
 ·
  obtain⟨rl,hl⟩:=hl
  obtain⟨hB,T4,ey,WW,WX,S',β',φ',J,rC,hV,Sg⟩:=WU
  obtain⟨mb,σ',hrun,zb,hV1⟩:=Iv k y hy
  split at hrun<;>try(cases hrun;done)
  rename_i az h1
  obtain⟨kA,hrel⟩:=J.core.shift WS
  let LA:di:=⟨Wk,Xk own,K,fun s=>(iI K β' s).or (if K≤s∧W2.nb≤s-K then W2.β0 (s-K)else none),0⟩
  have Ez:∀b,Xk own b→b< Wk.heap.size:=J.below.lt
  have ai3:∀s,(B k)[s]? =some none→β' s=none:=fun s hs=>by
   cases hb:β' s with
   |none=>rfl
   |some b=>
    obtain⟨_,_,cs,h3,_⟩:=J.box s b hb
    rw[hs]at h3;cases h3
  have o0:Inv P LA S' S' (iI K β') φ' (dD K (B k)) Wk:=
   ⟨⟨rfl,rfl,rfl,Nat.le_refl _,Ez,fun _ _=>rfl,cg.refl _⟩,kA.lt,kA.box,kA.boxed,kA.inj,kA.gm,kA.dS,fun _ _ h=> .inl h,fun _ _ h=>h,fun _ _ _ _ _ h=>h,fun s b hn h0=>by
    simp only[LA]at hn h0
    cases hb:iI K β' s with
    |some b'=>rw[hb]at h0;exact .inl (by simpa using h0)
    |none=>
     rw[hb]at h0
     simp only[Option.none_or]at h0
     split at h0<;>try(cases h0;done)
     rename_i hs
     rcases rC (s-K) b hs.2 h0 with h|h
     ·simp only[iI,if_pos hn]at hb
      rw[hb]at h;cases h
     ·refine .inr ?_
      rw[CB,if_pos hn,h];rfl⟩
  have ai4:∀x t,ak S' Wk β' cD x t→ak S' Wk (iI K β') φ' x (t.aj (fun s=>some (s+K)) fun _=>none):=fun x t hx=>hx.aj (fun s s' b h1 h2=>by
    simp only[Option.some.injEq]at h1
    subst h1
    simp only[iI,Nat.le_add_left,if_true,Nat.add_sub_cancel]
    exact h2) (fun s s' h1=>by simp only[Option.some.injEq]at h1;omega) (fun k k' p h=>by cases h)
  have amV:is.length=ps.size:=by
   obtain⟨h2,_⟩:=du wY
   simpa using h2.symm
  have htm:=hR.size
  obtain⟨Od,amW,l6⟩:=GI (S:=S') (w:=Wk) (β:=iI K β') (φ:=φ') EA ps.toList is xs.toList y a.tmps (ah (fun s=>some (s+K)) (fun _=>none) (V k)) htm
   (fun p hp=>by have:=List.all_eq_true.1 N7 p hp;simpa using this) wY (by simpa using Lf) (by rw[mb,amV];simp) (fun i x t hx ht=>(ac8 y (List.mem_of_getElem? hy) t (List.mem_of_getElem? ht) _ _ (cj i x t (by simpa using hx) ht)).mono J.base (fun s b h=>by simp[bn]at h) (fun k p h=>by simp[cD]at h) (fun _ _ _ _ _ h=>h) (cg.refl _))
   (fun i s u hi hu=>by
    rw[bu,List.getElem?_map]at hu
    obtain⟨u0,WV,rfl⟩:=Option.map_eq_some_iff.1 hu
    exact ai4 _ _ (hV i s u0 hi WV))
  have ai5:(ps.zip xs).foldl (fun t (p,v)=>t.setIfInBounds p v) a.tmps=(ps.toList.zip xs.toList).foldl (fun t (p,v)=>t.setIfInBounds p v) a.tmps:=by
   rw[←Array.foldl_toList,Array.toList_zip]
  rw[ai5]
  have hR1:bY P LA S' S' (iI K β') φ' nt vm [] ⟨[],cM is y (ah (fun s=>some (s+K)) (fun _=>none) (V k)),dD K (B k)⟩ {tmps:=(ps.toList.zip xs.toList).foldl (fun t (p,v)=>t.setIfInBounds p v) a.tmps,defers:=[]} Wk:=
   ⟨o0,⟨[],by simp,rfl,by simp⟩,amW,by rw[Od,bu,List.length_map];exact Sg,rfl,fun i s u hi _ hu=>l6 i s u hi hu,fun j s u hj=>by simp at hj,fun j j' s hj=>by simp at hj⟩
  have oe:w.heap.size+1< Wk.heap.size:=(Array.getElem?_eq_some_iff.1 hl).1
  refine za (W:=LA) (S0:=S') (by show K≤K;exact Nat.le_refl _) (Nat.zero_le _) h1 ⟨LA,S',_,_,Ext.refl Ez,hR1⟩ fun a1 W1 kg=> ?_
  obtain⟨W3,S3,β3,φ3,Sh,uP⟩:=kg
  have Ix:=uP.inv.T1 Sh
  refine⟨Ix.below.block _ (.inr (.inr (.inl rfl))),fun o=> ?_⟩
  have fg:W1.heap[w.heap.size+1]? =some (.loop rl):=(Ix.below.block _ (.inr (.inr (.inl rfl)))).trans hl
  have amX:w.heap.size+1< W1.heap.size:=(Array.getElem?_eq_some_iff.1 fg).1
  have xU:∀o,¬S' (w.heap.size+1) o:=fun o hs=>by
   rcases J.top _ o hs with h|h
   ·have:=FQ _ o h;omega
   ·exact h (.inr (.inr (.inl rfl)))
  have Oe:W3.X (w.heap.size+1):=Sh.X _ (.inr (.inr (.inl rfl)))
  let w2:=W1.putObj (w.heap.size+1) (.loop o)
  have jN:∀b,b≠w.heap.size+1→w2.heap[b]? =W1.heap[b]? :=fun b hb=>World.putObj_heap_other hb
  obtain⟨J2,LB,agy⟩:=uP.inv.It (w':=w2) (X':=W3.X) (S0':=S') (nb:=W3.nb) (m0:=0) (β0:=W3.β0) (fun b=>b=w.heap.size+1) (by simp[w2]) (fun b _ hb=>jN b hb)
   (fun b hb=>by subst hb;exact⟨Oe,fun o' hs=>by
                   rcases uP.inv.top _ o' hs with h|h
                   ·exact xU o' h
                   ·exact h Oe⟩)
   (fun b hb=> .inl hb) (fun b hb=>by have h1:=uP.inv.below.lt b hb;have h2:=uP.inv.below.size;simp[w2];omega) uP.inv.base uP.inv.top uP.inv.pX (jm _ fg rfl)
  let Wb:di:=⟨w2,W3.X,W3.nb,W3.β0,0⟩
  have Iy:bY P Wb S' S3 β3 φ3 nt vm [] az a1 w2:=by
   obtain⟨Ds,g1,g2,g3⟩:=uP.nd
   refine⟨J2,⟨Ds,g1,g2,fun D' LC=> ?_⟩,uP.size,uP.pn,uP.p7,fun i s u hi hn hu=>LB _ _ _ (uP.vars i s u hi hn hu),fun j s u hj hu=>LB _ _ _ (uP.uM j s u hj hu),uP.AN⟩
   obtain⟨e1,e2,e3⟩:=g3 D' LC
   have e4:=(uP.inv.below.block D' e1).trans e2
   refine⟨e1, ?_,Nat.zero_le _⟩
   show w2.heap[D']? =_
   rw[jN D' fun e=>by subst e;rw[fg]at e4;cases e4]
   exact e4
  refine Sf (W:=Wb) (S0:=S') (by show K≤W3.nb;rw[Sh.nb];exact Nat.le_refl _) (Nat.zero_le _) hrun ⟨Wb,S3,β3,φ3,Ext.refl J2.below.lt,Iy⟩ fun a3 W4 hc3=> ?_
  obtain⟨W5,S5,β5,φ5,hE5,hR5⟩:=hc3
  have wZ:=hR5.inv.T1 hE5
  have T5:∀b,Xk own b→W3.X b:=Sh.X
  have jw:∀b,Xk own b→b≠w.heap.size+1→W4.heap[b]? =Wk.heap[b]? :=fun b hb hne=>((wZ.below.block b (T5 b hb)).trans (jN b hne)).trans (Ix.below.block b hb)
  have Si:W4.heap[w.heap.size+1]? =some (.loop o):=(wZ.below.block _ Oe).trans (World.putObj_heap_same amX)
  have aq7:w.heap.size+1< W4.heap.size:=(Array.getElem?_eq_some_iff.1 Si).1
  refine⟨rfl,Si,(jw _ (.inr (.inl rfl)) (by omega)).trans hD,fun o'=> ?_⟩
  let w4:=W4.putObj (w.heap.size+1) (.loop o')
  have hw4:∀b,b≠w.heap.size+1→w4.heap[b]? =W4.heap[b]? :=fun b hb=>World.putObj_heap_other hb
  have agz:=wZ.core.aev WS
  have hXb:∀b,Wb.X b→b< W4.heap.size:=fun b hb=>Nat.lt_of_lt_of_le (wZ.below.lt b hb) wZ.below.size
  have hI6:Inv P ⟨W4,Wb.X,0,bn,0⟩ S5 S5 (fun s=>β5 (s+K)) φ5 (bD K σ'.boxes) W4:=agz.inv hXb
  have Lc:∀b o,SR b o→S5 b o:=fun b o h=>wZ.base b o (J.base b o h)
  obtain⟨J4,hm4,agA⟩:=hI6.It (w':=w4) (X':=Xk own) (S0':=SR) (nb:=0) (m0:=0) (β0:=bn) (fun b=>b=w.heap.size+1) (by simp[w4]) (fun b _ hb=>hw4 b hb)
   (fun b hb=>by subst hb;exact⟨Oe,fun o'' hs=>by
                   rcases wZ.top _ o'' hs with h|h
                   ·exact xU o'' h
                   ·exact h Oe⟩)
   (fun b hb=> .inl (T5 b hb)) (fun b hb=>by have:=hXb b (T5 b hb);simp[w4];omega) Lc
   (fun b o hs=>by
    rcases wZ.top b o hs with h|h
    ·exact J.top b o h
    ·exact .inr fun hx=>h (T5 b hx)) (fun s b _ h=>by simp[bn]at h) (jm _ Si rfl)
  have adb:∀s b,LA.β0 (s+K)=some b→β5 (s+K)=some b∨(bD K σ'.boxes)[s]? =some none:=fun s b h0=>by
   have h0':Wb.β0 (s+K)=some b:=by show W3.β0 (s+K)=some b;rw[Sh.β0];exact h0
   rcases wZ.pX (s+K) b (by show W3.nb≤s+K;rw[Sh.nb];exact Nat.le_add_left _ _) h0' with h|h
   ·exact .inl h
   ·refine .inr ?_
    rw[y9,h];rfl
  have agB:∀s b,β' s=some b→LA.β0 (s+K)=some b:=fun s b hb=>by
   show(iI K β' (s+K)).or _=some b
   simp only[iI,Nat.le_add_left,if_true,Nat.add_sub_cancel,hb,Option.some_or]
  have WY:∀b o,S' b o→∀sp v,Wk.cell? ⟨b,o,sp⟩=some v→w4.cell? ⟨b,o,sp⟩=some v:=fun b o hs sp v hv=>
   agA b o (wZ.base b o hs) sp v (wZ.stay b o hs sp v (agy b o (uP.inv.base b o hs) sp v (Ix.stay b o hs sp v hv)))
  have T6:cg Wk w4:=((Ix.below.room.trans (jm _ fg rfl)).trans wZ.below.room).trans (jm _ Si rfl)
  have LD:w4.os=Wk.os∧w4.tape=Wk.tape∧w4.output=Wk.output:=⟨(wZ.below.os).trans Ix.below.os,(wZ.below.tape).trans Ix.below.tape,(wZ.below.output).trans Ix.below.output⟩
  have abp:Wk.heap.size≤w4.heap.size:=by
   have h1:=Ix.below.size
   have h2:=wZ.below.size
   simp only[Wb,w2,LA,World.putObj_size]at h1 h2
   simp[w4];omega
  have ade:∀b,Lb b→w4.heap[b]? =Wk.heap[b]? :=fun b hb=>by
   have h1:=(uO b hb).1
   exact(hw4 b (by omega)).trans (jw b (.inr (.inr (.inr (.inr hb)))) (by omega))
  have WZ:∀b o,SL b o→∀sp v,Wk.cell? ⟨b,o,sp⟩=some v→w4.cell? ⟨b,o,sp⟩=some v:=fun b o hs sp v hv=>by
   rcases T3 b o hs with h|h
   ·exact WY b o (J.base b o h) sp v hv
   ·rw[World.cell?_of_block (w:=Wk) (ade b h)]
    exact hv
  refine⟨⟨⟨LD.1.trans hB.os,LD.2.1.trans hB.tape,LD.2.2.trans hB.output,Nat.le_trans hB.size abp,hB.lt,fun b hb=> ?_,hB.room.trans T6⟩,Nat.le_trans T4 abp,fun b o hs sp v hv=>WZ b o hs sp v (ey b o hs sp v hv),fun b hb=>(ade b hb).trans (WW b hb),WX.trans T6,S5,fun s=>β5 (s+K),φ5, ?_,fun s b hn h0=> ?_,fun i s u hi hu=> ?_, ?_⟩,⟨LD.1,LD.2.1,LD.2.2,abp,fun b hb=> ?_,T6,fun b o hs=>WZ b o hs⟩⟩
  ·have hlt:=Oc b hb
   exact((hw4 b (by omega)).trans (jw b (.inl hb) (by omega))).trans (hB.block b hb)
  ·rw[zb];exact J4
  ·rw[zb]
   refine adb s b ?_
   rcases rC s b hn h0 with h|h
   ·exact agB s b h
   ·show(iI K β' (s+K)).or (if K≤s+K∧W2.nb≤s+K-K then W2.β0 (s+K-K)else none)=some b
    have:iI K β' (s+K)=none:=by
     simp only[iI,Nat.le_add_left,if_true,Nat.add_sub_cancel]
     exact ai3 s h
    rw[this,Option.none_or,Nat.add_sub_cancel,if_pos ⟨Nat.le_add_left _ _,hn⟩]
    exact h0
  ·rw[hV1,fv,bu,List.getElem?_map]at hu
   obtain⟨u0,WV,rfl⟩:=Option.map_eq_some_iff.1 hu
   have h2:=(hV i s u0 hi WV).mono (S':=S5) (w':=w4) (β':=β') (φ':=cD) (fun b o h=>wZ.base b o h) (fun _ _ h=>h) (fun _ _ h=>h) WY T6
   refine h2.aj (fun s1 s2 b g1 g2=> ?_) (fun s1 s2 g1=> ?_) (fun k k' p g=>by cases g)
   ·split at g1<;>try(cases g1;done)
    rename_i hsm
    simp only[Option.some.injEq]at g1
    subst g1
    rcases adb s1 b (agB s1 b g2)with h|h
    ·exact h
    ·unfold ai at hsm
     rw[h]at hsm
     cases hsm
   ·split at g1<;>try(cases g1;done)
    simp only[Option.some.injEq]at g1
    rw[g1]
  ·rw[hV1,fv,bu,List.length_map];exact Sg
  ·have h3:=(oc b hb).1
   exact(hw4 b (by omega)).trans (jw b (.inr (.inr (.inr (.inl hb)))) (by omega))
 ·
  obtain⟨rl,hl⟩:=hl
  obtain⟨hB,T4,ey,WW,WX,S',β',φ',J,rC,hV,Sg⟩:=WU
  have oe:w.heap.size+1< Wk.heap.size:=(Array.getElem?_eq_some_iff.1 hl).1
  let w':=Wk.putObj (w.heap.size+1) (.loop o)
  have DC:∀b,b≠w.heap.size+1→w'.heap[b]? =Wk.heap[b]? :=fun b hb=>World.putObj_heap_other hb
  have DD:∀b o,S0 b o→SR b o:=fun b o h=>Iw.base b o h
  obtain⟨J',hm,hcell'⟩:=J.It (w':=w') (X':=Xk own) (S0':=S0) (nb:=W2.nb) (m0:=W2.m0) (β0:=W2.β0) (fun b=>b=w.heap.size+1) (by simp[w']) (fun b _ hb=>DC b hb)
   (fun b hb=>by subst hb;exact⟨.inr (.inr (.inl rfl)),fun o' hs=>by
                   rcases J.top _ o' hs with h|h
                   ·have:=FQ _ o' h;omega
                   ·exact h (.inr (.inr (.inl rfl)))⟩)
   (fun b hb=> .inl hb) (fun b hb=>by have:=J.below.lt b hb;simpa [w']using this) (fun b o h=>J.base b o (DD b o h))
   (fun b o hs=>by
    rcases J.top b o hs with h|h
    ·rcases agx b o h with h'|h'
     ·exact .inl h'
     ·refine .inr fun hx=> ?_
      have hlt:=FQ b o h
      rcases hx with hx|hx|hx|hx|hx
      ·exact h' hx
      ·omega
      ·omega
      ·have:=(oc b hx).1;omega
      ·exact agw b hx o h
    ·exact .inr h) rC (jm _ hl rfl)
  have iE:∀b o,SR b o→∀sp v,w.cell? ⟨b,o,sp⟩=some v→w'.cell? ⟨b,o,sp⟩=some v:=fun b o hs sp v hv=>hcell' b o (J.base b o hs) sp v (ey b o (by
   rw[←WT];rw[←WT]at T2;exact T2 b o hs) sp v hv)
  have amY:∀GK:Nat→Prop,(∀b,W2.X b→GK b)→Ext S0 W ⟨w',GK,W2.nb,W2.β0,W2.m0⟩:=fun GK T7=>by
   refine⟨fun b hb=>T7 b (hE.X b hb), ?_,hE.nb,hE.β0,hE.m0,fun b o h0 sp v hv=>iE b o (DD b o h0) sp v (hR.inv.stay b o h0 sp v (hE.stay b o h0 sp v hv))⟩
   refine⟨hB.os.trans hE.lz.os,hB.tape.trans hE.lz.tape,hB.output.trans hE.lz.output, ?_,hE.lz.lt,fun b hb=> ?_,(hE.lz.room.trans hB.room).trans (jm _ hl rfl)⟩
   ·have h1:=hE.lz.size
    have h2:=hB.size
    show _≤w'.heap.size
    simp only[w',World.putObj_size]
    omega
   ·have hlt:=Oc b (hE.X b hb)
    exact((DC b (by omega)).trans (hB.block b (hE.X b hb))).trans (hE.lz.block b hb)
  have aH:∀(GK:Nat→Prop) (p9:aX) (abq:List (Option (List T))),(∀b,W2.X b→GK b)→GK w.heap.size→Inv P ⟨w',GK,W2.nb,W2.β0,W2.m0⟩ S0 S' p9 φ' abq w'→(∀x t,ak S' w' β' cD x t→ak S' w' p9 cD x t)→
    pq P W S0 nt vm ⟨[],V ys.length,abq⟩ {a with defers:=Ew w.heap.size::a.defers} w':=fun GK p9 abq T7 hXs J'' abr=>by
   refine⟨⟨w',GK,W2.nb,W2.β0,W2.m0⟩,S',p9,φ',amY GK T7, ?_⟩
   obtain⟨Ds,g1,g2,g3⟩:=hR.nd
   refine⟨J'',⟨w.heap.size::Ds,List.nodup_cons.2 ⟨fun hm=> ?_,g1⟩,by simp[g2],fun D' LC=> ?_⟩,hR.size,Sg,rfl,fun i s u hi _ hu=> ?_,fun j s u hj=>by simp at hj,fun j j' s hj=>by simp at hj⟩
   ·have:=Oc _ (g3 _ hm).1;omega
   ·rcases List.mem_cons.1 LC with rfl|LC
    ·refine⟨hXs,(DC _ (by omega)).trans hD, ?_⟩
     have h1:=hE.lz.size
     have h2:=hR.inv.below.size
     show W2.m0≤_
     rw[hE.m0]
     omega
    ·obtain⟨e1,e2,e3⟩:=g3 D' LC
     have hlt:=Oc _ e1
     exact⟨T7 _ e1,((DC _ (by omega)).trans (hB.block D' e1)).trans e2,e3⟩
   ·exact(abr _ _ (hm _ _ _ (hV i s u hi hu))).mono (fun _ _ h=>h) (fun _ _ h=>h) (fun k p h=>by simp[cD]at h) (fun _ _ _ _ _ h=>h) (cg.refl _)
  by_cases hg:(vR (ys.map T.al)&&ss.all fun s=>dK (B ys.length) s)=true
  ·rw[if_pos hg]at hQ
   obtain⟨gA,uL⟩:=Bool.and_eq_true_iff.1 hg
   have hk:=ai2 gA
   have vr:∀s b,dv ss β s=some b→w'.heap[b]? =w.heap[b]? :=fun s b hb=>by
    have h1:=(uO b (hk s b hb)).1
    exact(DC b (by omega)).trans (WW b (hk s b hb))
   have amZ:∀b o,S b o→S' b o:=fun b o h=>J.base b o (hSR b o h)
   obtain⟨p9,J'',abr⟩:=hR.inv.abn ss J' (X':=fun b=>W2.X b∨b=w.heap.size∨b=w.heap.size+1∨own b) (fun s hs=>y4 (List.all_eq_true.1 uL s (List.contains_iff_mem.1 hs))) amZ (fun b o hs=>iE b o (hSR b o hs))
    (WX.trans (jm _ hl rfl)) vr (fun s b hb=> .inr (.inr (.inr (.inr (hk s b hb))))) (fun s b o hb hs=>by
     rcases J.top b o hs with h|h
     ·exact agw b (hk s b hb) o h
     ·exact h (.inr (.inr (.inr (.inr (hk s b hb)))))) (fun b hb=>by
     rcases hb with h|h|h|h
     ·exact .inl h
     ·exact .inr (.inl h)
     ·exact .inr (.inr (.inl h))
     ·exact .inr (.inr (.inr (.inl h)))) (fun s b hb hx=>by
     have h0:=uO b (hk s b hb)
     rcases hx with h|h|h|h
     ·exact h0.2.1 h
     ·omega
     ·omega
     ·have:=(oc b h).1;omega) hR.inv.pX
   exact hQ _ _ (aH _ _ _ (fun b hb=> .inl hb) (.inr (.inl rfl)) J'' fun x t=>abr x t cD)
  ·rw[if_neg hg]at hQ
   exact hQ _ _ (aH _ _ _ (fun b hb=> .inl hb) (.inr (.inl rfl)) J' fun x t h=>h)
end
end Go.Vi
end
section
namespace Go.Vi
open Go Go.RowKit
section
variable{P:Program}{nt:Nat}{vm bm:List Nat}
theorem Iz{C:FuncId→List T→Option T}(hC:∀f args r,C f args=some r→Sound P f args r){io:FuncId→Nat}{bN:List Nat→Array Oper→List (Option (Nat×Bool)×IOp)→Bool}(hD:mU P bN)(N:Nat):∀(m:Nat) (c:Code) {W:di} {S0:Nat→Nat→Prop} {rn:Option Nat} {n:Nat} {h h':Hints} {ic:IC} {σ:St} {out:Out} {a:Act} {w:World} {Q:Exit→Act→World→Prop},
  2*bm.length≤W.nb→W.m0≤W.w.heap.size→(rn=none∨ew c=true)→bC P io nt vm bm bN m c h=some (ic,h')→exec C N ic σ=some out→pq P W S0 nt vm σ a w→zX P W S0 nt vm Q out→c.wpIn (wd rn) n P Q a w:=by
 intro m
 induction m with
 |zero=>intro c W S0 rn n h h' ic σ out a w Q _ _ _ hl;simp[bC]at hl
 |succ m ih=>
 intro c W S0 rn n h h' ic σ out a w Q dm nI IA hl he hc hQ
 cases c with
 |skip=>
  simp only[bC,Option.some.injEq,Prod.mk.injEq]at hl
  obtain⟨rfl,rfl⟩:=hl
  simp only[exec,Option.some.injEq]at he
  subst he
  exact wpIn_skip (hQ _ _ hc)
 |label l=>
  simp only[bC,Option.some.injEq,Prod.mk.injEq]at hl
  obtain⟨rfl,rfl⟩:=hl
  simp only[exec,Option.some.injEq]at he
  subst he
  exact wpIn_label (hQ _ _ hc)
 |exit id=>
  simp only[bC]at hl
  split at hl<;>try(cases hl;done)
  rename_i IB
  simp only[Option.some.injEq,Prod.mk.injEq]at hl
  obtain⟨rfl,rfl⟩:=hl
  simp only[exec,Option.some.injEq]at he
  subst he
  have:=hQ _ _ hc
  simp only[gC,IB,if_true]at this
  exact wpIn_exit this
 |goto l=>
  simp only[bC,Option.some.injEq,Prod.mk.injEq]at hl
  obtain⟨rfl,rfl⟩:=hl
  simp only[exec,Option.some.injEq]at he
  subst he
  have:=hQ _ _ hc
  simp only[gC,show ¬(cE+l< cE) by omega,if_false,Nat.add_sub_cancel_left]at this
  exact wpIn_goto this
 |ret=>
  simp only[bC,Option.some.injEq,Prod.mk.injEq]at hl
  obtain⟨rfl,rfl⟩:=hl
  simp only[exec,Option.some.injEq]at he
  subst he
  exact wpIn_ret (hQ _ _ hc)
 |region id ops draw=>
  simp only[bC]at hl
  by_cases DE:(kc P io nt vm bm [] ops.toList).isNone=true
  ·rw[if_pos DE]at hl
   simp only[Option.some.injEq,Prod.mk.injEq]at hl
   obtain⟨rfl,rfl⟩:=hl
   simp[exec]at he
  rw[if_neg DE]at hl
  obtain⟨l,yR,hl⟩:=Option.bind_eq_some_iff.1 hl
  split at hl<;>try(cases hl;done)
  rename_i sn
  simp only[Option.some.injEq,Prod.mk.injEq]at hl
  obtain⟨rfl,rfl⟩:=hl
  simp only[exec,wA]at he
  obtain⟨az,Sj,rfl⟩:=Option.map_eq_some_iff.1 he
  obtain⟨fK,lT,he3⟩:=Option.bind_eq_some_iff.1 Sj
  simp only[Option.some.injEq]at he3
  subst he3
  obtain⟨W2,S,β,φ,hE,hR⟩:=hc
  have T8:2*bm.length≤W2.nb:=by rw[hE.nb];exact dm
  have vo:σ.rs=[]:=List.length_eq_zero_iff.1 (by simpa using hR.p7)
  have DF:bY P W2 S0 S β φ nt vm [] {σ with rs:=[]} a w:=by
   have:({σ with rs:=[]}:St)=σ:=by rw[←vo]
   rw[this];exact hR
  have fin:∀S' β' φ' a' w',bY P W2 S0 S' β' φ' nt vm (ops.toList.map (·.dst)) fK a' w'→Q .normal a' w':=fun S' β' φ' a' w' h=>hQ _ _ ⟨_,_,_,_,hE,h.fin⟩
  cases draw with
  |false=>exact wpIn_region_list (Ey hC T8 ops.toList [] (by simp) DF (by simpa using yR) lT fin)
  |true=>
   simp only[Bool.true_and,Bool.not_eq_true',Bool.not_eq_false]at sn
   exact hD C io W2 w S0 S β φ nt vm bm id ops l _ fK a Q rn n hC T8 sn DF yR lT fun S' β' φ' a' w' h _=>fin S' β' φ' a' w' h
 |seq x y=>
  have sk:rn=none∨ew x=true:=IA.imp (fun h=>h) fun h=>by simp only[ew,Bool.and_eq_true]at h;exact h.1
  have yY:rn=none∨ew y=true:=IA.imp (fun h=>h) fun h=>by simp only[ew,Bool.and_eq_true]at h;exact h.2
  simp only[bC,Option.bind_eq_bind]at hl
  obtain⟨⟨ia,h1⟩,fg,hl⟩:=Option.bind_eq_some_iff.1 hl
  obtain⟨⟨ib,h2⟩,nx,hl⟩:=Option.bind_eq_some_iff.1 hl
  simp only[Option.some.injEq,Prod.mk.injEq]at hl
  obtain⟨rfl,rfl⟩:=hl
  simp only[exec]at he
  refine wpIn_seq ?_
  split at he
  ·rename_i az h1
   exact ih x dm nI sk fg h1 hc fun a' w' sf=>ih y dm nI yY nx he sf hQ
  ·rename_i hne
   refine ih x dm nI sk fg he hc ?_
   cases out with
   |norm az=>exact absurd he (hne az)
   |exit id az=>
    intro a w hc
    have:=hQ a w hc
    unfold gC at this⊢
    split<;>simp_all [Exit.then]
   |ret az=>exact fun a w hc=>hQ a w hc
 |cond c x y=>
  have sk:rn=none∨ew x=true:=IA.imp (fun h=>h) fun h=>by simp only[ew,Bool.and_eq_true]at h;exact h.1
  have yY:rn=none∨ew y=true:=IA.imp (fun h=>h) fun h=>by simp only[ew,Bool.and_eq_true]at h;exact h.2
  simp only[bC,Option.bind_eq_bind]at hl
  obtain⟨d,hd,hl⟩:=Option.bind_eq_some_iff.1 hl
  obtain⟨⟨ia,h1⟩,fg,hl⟩:=Option.bind_eq_some_iff.1 hl
  obtain⟨⟨ib,h2⟩,nx,hl⟩:=Option.bind_eq_some_iff.1 hl
  simp only[Option.some.injEq,Prod.mk.injEq]at hl
  obtain⟨rfl,rfl⟩:=hl
  simp only[exec]at he
  split at he<;>try(cases he;done)
  rename_i t ht
  obtain⟨W2,S,β,φ,hE,hR⟩:=hc
  have hv:=cA (ht▸hR.opd c d hd)
  refine wpIn_cond hv ?_
  cases t with
  |true=>exact ih x dm nI sk fg (by simpa using he) ⟨W2,S,β,φ,hE,hR⟩ hQ
  |false=>exact ih y dm nI yY nx (by simpa using he) ⟨W2,S,β,φ,hE,hR⟩ hQ
 |block id x=>
  have sk:rn=none∨ew x=true:=IA.imp (fun h=>h) fun h=>by simpa only[ew]using h
  simp only[bC,Option.bind_eq_bind]at hl
  obtain⟨⟨ia,h1⟩,fg,hl⟩:=Option.bind_eq_some_iff.1 hl
  simp only at hl
  split at hl<;>try(cases hl;done)
  rename_i IB
  simp only[Option.some.injEq,Prod.mk.injEq]at hl
  obtain⟨rfl,rfl⟩:=hl
  simp only[exec]at he
  refine wpIn_block ?_
  have key:∀j a w,j≠id→Q (gC j) a w→Exit.inBlock id Q (gC j) a w:=fun j a w hj h=>by
   unfold gC at h⊢
   split
   ·rename_i hlt
    simp only[hlt,if_true]at h
    simp only[Exit.inBlock]
    rw[if_neg hj]
    exact h
   ·rename_i hlt
    simp only[hlt,if_false]at h
    exact h
  split at he
  ·rename_i j az h1
   refine ih x dm nI sk fg h1 hc fun a' w' sf=> ?_
   split at he
   ·rename_i hj
    simp only[Option.some.injEq]at he
    subst he hj
    simp only[gC,IB,if_true,Exit.inBlock]
    exact hQ _ _ sf
   ·rename_i hj
    simp only[Option.some.injEq]at he
    subst he
    exact key _ _ _ hj (hQ _ _ sf)
  ·rename_i hne
   refine ih x dm nI sk fg he hc ?_
   cases out with
   |norm az=>exact fun a w hc=>hQ a w hc
   |exit id az=>exact absurd he (hne id az)
   |ret az=>exact fun a w hc=>hQ a w hc
 |loop x=>
  have sk:rn=none∨ew x=true:=IA.imp (fun h=>h) fun h=>by simpa only[ew]using h
  cases h with
  |nil=>simp[bC]at hl
  |cons hd h=>
  obtain⟨vs,ss⟩:=hd
  simp only[bC,Option.bind_eq_bind]at hl
  obtain⟨⟨ia,h1⟩,fg,hl⟩:=Option.bind_eq_some_iff.1 hl
  simp only[Option.some.injEq,Prod.mk.injEq]at hl
  obtain⟨rfl,rfl⟩:=hl
  generalize vs.filterMap (vm.idxOf? ·)=kv at he
  generalize ((ss.filterMap (mM bm ·)).flatMap fun s=>[s,s+1])=kb at he
  simp only[exec]at he
  refine wpIn_loop_rounds N ?_
  suffices key:∀q σ a w,pv (exec C N (.seq (.kill kv) (.seq (.free kb) ia))) q σ=some out→pq P W S0 nt vm σ a w→Code.roundsIn (wd rn) n P x Q q a w from key N σ a w he hc
  intro q
  induction q with
  |zero=>intro σ a w he _;simp[pv]at he
  |succ q ihn=>
   intro σ a w he hc
   rw[roundsIn_succ]
   simp only[pv]at he
   rw[GJ]at he
   cases BF:cB kb {σ with vars:=er kv σ.vars}with
   |none=>rw[BF]at he;simp at he
   |some az=>
    rw[BF]at he
    simp only[Option.bind_some]at he
    have kg:=(hc.kill (vs:=kv)).free BF
    split at he
    ·rename_i fK h2
     exact ih x dm nI sk fg h2 kg fun a' w' sf=>ihn fK a' w' he sf
    ·rename_i hne
     refine ih x dm nI sk fg he kg ?_
     cases out with
     |norm fK=>exact absurd he (hne fK)
     |exit id az=>
      intro a w hc
      have:=hQ a w hc
      unfold gC at this⊢
      split<;>simp_all [Exit.then]
     |ret az=>exact fun a w hc=>hQ a w hc
 |scope x=>
  have sk:rn=none∨ew x=true:=IA.imp (fun h=>h) fun h=>by simp only[ew,Bool.and_eq_true]at h;exact h.2
  simp only[bC]at hl
  split at hl
  ·simp only[Option.bind_eq_bind]at hl
   obtain⟨⟨ia,h1⟩,fg,hl⟩:=Option.bind_eq_some_iff.1 hl
   simp only[Option.some.injEq,Prod.mk.injEq]at hl
   obtain⟨rfl,rfl⟩:=hl
   simp only[exec]at he
   split at he
   ·rename_i j az h1
    split at he<;>try(cases he;done)
    rename_i hj
    simp only[Option.some.injEq]at he
    subst he
    refine l7 (ih x dm nI sk fg h1 hc fun a w hc=> ?_)
    have:=hQ a w hc
    simp only[gC,hj,if_true]at this⊢
    exact this
   ·rename_i hne
    refine l7 (ih x dm nI sk fg he hc ?_)
    cases out with
    |norm az=>exact fun a w hc=>hQ a w hc
    |ret az=>exact fun a w hc=>hQ a w hc
    |exit id az=>exact absurd he (hne id az)
  ·rename_i l hgo
   have agC:∀y,rn=none∨ew y=true:=fun y=> .inl (IA.resolve_right fun h=>by simp[ew,hgo]at h)
   split at hl<;>try(cases hl;done)
   rename_i rest vs ss h2 ct
   simp only[Option.bind_eq_bind]at hl
   obtain⟨⟨ia,h1⟩,fg,hl⟩:=Option.bind_eq_some_iff.1 hl
   obtain⟨⟨ib,h2⟩,nx,hl⟩:=Option.bind_eq_some_iff.1 hl
   simp only[Option.some.injEq,Prod.mk.injEq]at hl
   obtain⟨rfl,rfl⟩:=hl
   generalize vs.filterMap (vm.idxOf? ·)=kv at he
   generalize ((ss.filterMap (mM bm ·)).flatMap fun s=>[s,s+1])=kb at he
   simp only[exec]at he
   have IB:¬(cE+l< cE):=by omega
   have leave:∀(f:St→Option Out) (o:Option Out) (J:Act→World→Prop),(match o with
     |some (.exit j σ')=>if j=cE+l then f σ' else if j< cE then some (.exit j σ')else none
     |o=>o)=some out→(∀az,f az=some out→∀a w,pq P W S0 nt vm az a w→J a w)→∀o1,o=some o1→zX P W S0 nt vm (Exit.jump l J Q) o1:=by
    intro f o J ho hJ o1 h1
    subst h1
    cases o1 with
    |norm az=>simp only[Option.some.injEq]at ho;subst ho;exact fun a w hc=>hQ a w hc
    |ret az=>simp only[Option.some.injEq]at ho;subst ho;exact fun a w hc=>hQ a w hc
    |exit j az=>
     simp only at ho
     intro a w hc
     by_cases hj:j=cE+l
     ·rw[if_pos hj]at ho
      subst hj
      simp only[gC,IB,if_false,Nat.add_sub_cancel_left]
      exact⟨rfl,hJ az ho a w hc⟩
     ·rw[if_neg hj]at ho
      split at ho<;>try(cases ho;done)
      rename_i hlt
      simp only[Option.some.injEq]at ho
      subst ho
      have:=hQ a w hc
      simp only[gC,hlt,if_true]at this⊢
      exact this
   let J:Nat→Act→World→Prop:=fun q a w=>∃az,sJ (exec C N (.seq (.kill kv) (.seq (.free kb) ib))) (cE+l) q az=some out∧pq P W S0 nt vm az a w
   refine Hx l J N ct ?_ (fun a w ⟨az,h1,_⟩=>by simp[sJ]at h1) fun q a w ⟨az,h1,kg⟩=> ?_
   ·cases hx:exec C N ia σ with
    |none=>rw[hx]at he;simp at he
    |some o1=>
     exact ih x dm nI sk fg hx hc (leave (fun σ'=>sJ (exec C N (.seq (.kill kv) (.seq (.free kb) ib))) (cE+l) N σ') _ (J N) he (fun az h1 a w hc=>⟨az,h1,hc⟩) o1 hx)
   ·simp only[sJ]at h1
    rw[GJ]at h1
    cases BF:cB kb {az with vars:=er kv az.vars}with
    |none=>rw[BF]at h1;simp at h1
    |some fK=>
     rw[BF]at h1
     simp only[Option.bind_some]at h1
     have w7:=(kg.kill (vs:=kv)).free BF
     cases hx:exec C N ib fK with
     |none=>rw[hx]at h1;simp at h1
     |some o1=>
      exact ih rest dm nI (agC rest) nx hx w7 (leave (fun σ'=>sJ (exec C N (.seq (.kill kv) (.seq (.free kb) ib))) (cE+l) q σ') _ (J q) h1 (fun w9 h3 a w hc=>⟨w9,h3,hc⟩) o1 hx)
 |rangeFunc g ps x y=>
  have am0:rn=none:=IA.resolve_right fun h=>by simp[ew]at h
  subst am0
  simp only[bC,Option.bind_eq_bind]at hl
  obtain⟨d,hd,hl⟩:=Option.bind_eq_some_iff.1 hl
  obtain⟨is,wY,hl⟩:=Option.bind_eq_some_iff.1 hl
  split at hl<;>try(cases hl;done)
  rename_i eC
  obtain⟨EA,N7,EC,hny⟩:=eC
  obtain⟨⟨ia,h1⟩,fg,hl⟩:=Option.bind_eq_some_iff.1 hl
  obtain⟨⟨ib,h2⟩,nx,hl⟩:=Option.bind_eq_some_iff.1 hl
  simp only[Option.some.injEq,Prod.mk.injEq]at hl
  obtain⟨rfl,rfl⟩:=hl
  exact Q2 hC EA N7 hd wY (fun g1 g2=>ih x g1 g2 (.inr EC) fg) (fun g1 g2=>ih y g1 g2 (.inr hny) nx) nI he hc hQ
 |refuse _=>simp[bC]at hl
end
end Go.Vi
end
section
namespace Go.Vi
open Go Go.RowKit
section
variable{P:Program}{W:di}{w:World}{S0 S:Nat→Nat→Prop}{β:aX}{φ:bB}{a:Act}{o:Oper}{σ:St}{nt:Nat}{vm bm:List Nat}
theorem Of{w w':World}{nb m0:Nat}{β0:aX}{S':Nat→Nat→Prop}{bx:List (Option (List T))}(hI:Inv P ⟨w,fun b=>b< w.heap.size,nb,β0,m0⟩ S S' β φ bx w'){x:Value}{t r:T}(hx:ak S' w' β φ x t)(hr:kp bx t=some r):WG P S w w' x r:=by
 have y8:∀b o,S' b o→S b o∨w.heap.size≤b:=fun b o h=>(hI.top b o h).imp id fun h=>Nat.le_of_not_lt h
 simp only[kp]at hr
 by_cases hh:t.aU=true
 ·rw[if_pos hh]at hr
  refine⟨ga S' β,cD,fun b o h=> ?_,fun b o h=> ?_,AM hI 8 x t r hx hr,fun k x e hk=>by simp[cD]at hk,fun k k' x x' e e' hk=>by simp[cD]at hk⟩
  ·rcases h with h|⟨s,hs⟩
   ·exact y8 b o h
   ·exact .inr (Nat.le_of_not_lt (hI.box s b hs).1)
  ·rcases h with h|⟨s,hs⟩
   ·exact hI.lt b o h
   ·exact hI.wo hs
 rw[if_neg hh]at hr
 split at hr<;>try(cases hr;done)
 rename_i hn
 simp only[Option.some.injEq]at hr
 subst hr
 refine⟨S',fun i=>(t.eO[i]?).bind φ,y8,hI.lt,hx.aj (fun s s' b h=>by cases h) (fun s s' h=>by cases h) (fun k k' p h1 h2=> ?_),fun k x e hk=> ?_,fun k k' x x' e e' hk cr hne=> ?_⟩
 ·simp[fz h1,h2]
 ·obtain⟨j,_,hk⟩:=Option.bind_eq_some_iff.1 hk
  obtain⟨g,n,c,sz,xs,i,h1,h2,h3,h4,h5,h6,h7⟩:=hI.gm j x e hk
  exact⟨g,n,c,sz,xs,i,h1,h2,h3,h4,h5,fun s=>by simp[bn],h7⟩
 ·obtain⟨j,hj,hk⟩:=Option.bind_eq_some_iff.1 hk
  obtain⟨j',tK,cr⟩:=Option.bind_eq_some_iff.1 cr
  refine hI.dS j j' x x' e e' hk cr fun h=>hne ?_
  subst h
  obtain⟨h1,h2⟩:=List.getElem?_eq_some_iff.1 hj
  obtain⟨uF,lQ⟩:=List.getElem?_eq_some_iff.1 tK
  exact(List.getElem_inj hn).1 (h2.trans lQ.symm)
def FR(tmps:Array Value):ResultVar→Sem Value
 | .tmp t=>pure (tmps.getD t undef)
 | .cell a t=>do loadVar t (←asAddr (tmps.getD a undef))
theorem W0(hI:Inv P W S0 S β φ σ.boxes w)(l6:∀(i s:Nat) (u:T),vm[i]? =some s→σ.vars[i]? =some u→ak S w β φ (a.tmps.getD s undef) u){r:ResultVar}{ir:Ar}{t:T}(hl:Bj P vm r=some ir)(hr:vS σ ir=some t):∃x,(FR a.tmps r).run P w= .ok x w∧ak S w β φ x t:=by
 have idx:∀{s i},vm.idxOf? s=some i→vm[i]? =some s:=fun {s i} hi=>by
  rw[List.idxOf?,List.findIdx?_eq_some_iff_getElem]at hi
  obtain⟨hi,h1,_⟩:=hi
  simp only[beq_iff_eq]at h1
  simp[hi,h1]
 cases r with
 |tmp s=>
  simp only[Bj]at hl
  obtain⟨i,hi,rfl⟩:=Option.map_eq_some_iff.1 hl
  simp only[vS]at hr
  exact⟨_,rfl,l6 i s t (idx hi) hr⟩
 |cell s ty=>
  simp only[Bj,Option.bind_eq_bind]at hl
  obtain⟨⟨g,n⟩,hg,hl⟩:=Option.bind_eq_some_iff.1 hl
  obtain⟨i,hi,hl⟩:=Option.bind_eq_some_iff.1 hl
  simp only[Option.some.injEq]at hl
  subst hl
  simp only[vS]at hr
  split at hr<;>try(cases hr;done)
  rename_i s' off hv
  split at hr<;>try(cases hr;done)
  rename_i cs hb
  have hx:=l6 i s _ (idx hi) hv
  obtain⟨y,h1,h2⟩:=Cx (u:=T.ref s' off) (t:=t) hI hg hx (by simp[hb,hr])
  refine⟨y, ?_,h2⟩
  generalize oY:a.tmps.getD s undef=xv at hx h1
  cases hx with
  |ref _ _ s' off b ff _=>
   simp only[FR,oY,Sem.run_bind,asAddr]
   simpa [Instr.loadAt,Instr.sureAddr]using h1
theorem DG(hI:Inv P W S0 S β φ σ.boxes w)(l6:∀(i s:Nat) (u:T),vm[i]? =some s→σ.vars[i]? =some u→ak S w β φ (a.tmps.getD s undef) u):∀(rs:List ResultVar) {GL:List Ar} {ts:List T},rs.mapM (Bj P vm)=some GL→GL.mapM (vS σ)=some ts→
  ∃vs:List Value,(rs.mapM (FR a.tmps)).run P w= .ok vs w∧vs.length=ts.length∧∀(i:Nat) (x:Value) (t:T),vs[i]? =some x→ts[i]? =some t→ak S w β φ x t
 | [],GL,ts,hl,hr=>by
  simp only[List.mapM_nil,Option.pure_def,Option.some.injEq]at hl
  subst hl
  simp only[List.mapM_nil,Option.pure_def,Option.some.injEq]at hr
  subst hr
  exact⟨[],by simp,rfl,fun i x t hx=>by simp at hx⟩
 |r::rs,GL,ts,hl,hr=>by
  simp only[List.mapM_cons,Option.bind_eq_bind,Option.pure_def]at hl
  obtain⟨ir,h1,hl⟩:=Option.bind_eq_some_iff.1 hl
  obtain⟨aq8,h2,hl⟩:=Option.bind_eq_some_iff.1 hl
  simp only[Option.some.injEq]at hl
  subst hl
  simp only[List.mapM_cons,Option.bind_eq_bind,Option.pure_def]at hr
  obtain⟨t,h3,hr⟩:=Option.bind_eq_some_iff.1 hr
  obtain⟨Gy,h4,hr⟩:=Option.bind_eq_some_iff.1 hr
  simp only[Option.some.injEq]at hr
  subst hr
  obtain⟨x,hx,cj⟩:=W0 hI l6 h1 h3
  obtain⟨vs,xR,hlen,ij⟩:=DG hI l6 rs h2 h4
  refine⟨x::vs,by simp[hx,xR],by simp[hlen],fun i y u hy hu=> ?_⟩
  cases i with
  |zero=>simp at hy hu;subst hy;subst hu;exact cj
  |succ i=>simp at hy hu;exact ij i y u hy hu
theorem Og{x:Value}{t:T}(i:Nat)(c:CM)(h:ak S w β φ x t):ak S w β φ x (A7 i c t):=by
 have Hv:∀(u:T),t= .sl .nil 0 []→(x= .slice none 0 0→ak S w β φ x u)→ak S w β φ x u:=fun u ht hu=>by
  refine hu ?_
  subst ht
  generalize hq:T.sl .nil 0 []=q at h
  cases h with
  |nil=>rfl
  |sl _ _ g ad n c cs f cG hg aF hr=>
   cases hq
   rcases hg with(h'|h')|⟨h',_⟩|⟨k,e',h',_⟩<;>cases h'
  |_=>cases hq
 unfold A7
 split
 ·exact h
 ·exact h.cL
 ·exact Hv _ rfl fun hx=>by subst hx;exact .nil _ _ _ rfl
 ·exact h
 ·exact Hv _ rfl fun hx=>by subst hx;exact .iv ..
 ·exact h
theorem ED:∀(cs:List CM) (ts:List T) (i:Nat),(fU i cs ts).length=ts.length∧∀(j:Nat) (t':T),(fU i cs ts)[j]? =some t'→∃t,ts[j]? =some t∧∀x,ak S w β φ x t→ak S w β φ x t'
 | [],ts,i=>⟨by simp[fU],fun j t' h=>⟨t',by simpa [fU]using h,fun _ h=>h⟩⟩
 |_::_,[],i=>⟨by simp[fU],fun j t' h=>by simp[fU]at h⟩
 |c::cs,t::ts,i=>by
  obtain⟨h1,h2⟩:=ED cs ts (i+1)
  refine⟨by simp[fU,h1],fun j t' h=> ?_⟩
  cases j with
  |zero=>simp[fU]at h;subst h;exact⟨t,rfl,fun x hx=>Og i c hx⟩
  |succ j=>simp only[fU,List.getElem?_cons_succ]at h⊢;exact h2 j t' h
theorem DH(hI:Inv P W S0 S β φ σ.boxes w)(l6:∀(i s:Nat) (u:T),vm[i]? =some s→σ.vars[i]? =some u→ak S w β φ (a.tmps.getD s undef) u){fn:Func}{GL:List Ar}{cm:List CM}{t:T}(hl:fn.results.toList.mapM (Bj P vm)=some GL)(hr:c9 σ GL cm=some t):
  ∃x,(results fn a.tmps).run P w= .ok x w∧ak S w β φ x t:=by
 simp only[c9,Option.bind_eq_bind]at hr
 obtain⟨ts0,zU,hr⟩:=Option.bind_eq_some_iff.1 hr
 obtain⟨vs,xR,aqH,agD⟩:=DG hI l6 _ hl zU
 obtain⟨bV,aF⟩:=ED (S:=S) (w:=w) (β:=β) (φ:=φ) cm ts0 0
 generalize fU 0 cm ts0=ts at hr bV aF
 have hlen:vs.length=ts.length:=by omega
 have ij:∀(i:Nat) (x:Value) (t:T),vs[i]? =some x→ts[i]? =some t→ak S w β φ x t:=fun i x t hx ht=>by
  obtain⟨t0,ht0,hc⟩:=aF i t ht
  exact hc x (agD i x t0 hx ht0)
 have hrun:(results fn a.tmps).run P w= .ok (if h:vs.toArray.size=1 then vs.toArray[0]else .tuple vs.toArray) w:=by
  have:results fn a.tmps=(do
   let vs←fn.results.mapM (FR a.tmps)
   pure (if h:vs.size=1 then vs[0]else .tuple vs)):=by
   unfold results
   congr 1
  rw[this,Array.mapM_eq_mapM_toList]
  simp[xR]
 refine⟨_,hrun, ?_⟩
 split at hr
 ·rename_i t'
  simp only[Option.some.injEq]at hr
  subst hr
  match vs,hlen,ij with
  | [v],_,ij=>simpa using ij 0 v t' (by simp) (by simp)
 ·rename_i Gy hne
  simp only[Option.some.injEq]at hr
  subst hr
  rw[dif_neg]
  ·exact .al _ _ _ _ (by simpa using hlen) fun i x t hx ht=>ij i x t (by simpa using hx) ht
  ·intro h1
   have:ts.length=1:=by rw[←hlen];simpa using h1
   obtain⟨t,rfl⟩:=List.length_eq_one_iff.1 this
   exact hne t rfl
theorem Inv.W6{bx:List (Option (List T))}{D:Nat}{d:Option (List Deferred)}(o':Obj)(h:Inv P W S0 S β φ bx w)(hD:w.heap[D]? =some (.deferred d))(hX:¬W.X D):
  Inv P W S0 S β φ bx (w.putObj D o')∧∀x t,ak S w β φ x t→ak S (w.putObj D o') β φ x t:=by
 have hg:=mT w D o'
 have EF:∀k,k< w.heap.size→k≠D→(w.putObj D o').heap[k]? =w.heap[k]? :=fun k hk hne=>hg.block k hk (by simpa using hne)
 have ey:∀b o,S b o→∀sp v,w.cell? ⟨b,o,sp⟩=some v→(w.putObj D o').cell? ⟨b,o,sp⟩=some v:=fun b o hS sp v hv=>by
  have hne:b≠D:=fun e=>by
   subst e
   simp[World.cell?,hD]at hv
  rw[World.cell?_of_block (w:=w) (EF b (h.lt _ _ hS) hne)]
  exact hv
 have hm:∀x t,ak S w β φ x t→ak S (w.putObj D o') β φ x t:=fun x t hx=>hx.mono (fun _ _=>id) (fun _ _=>id) (fun _ _=>id) ey (jm o' hD rfl)
 refine⟨⟨h.below.step hg (fun k e=>by cases e;exact hX) (jm o' hD rfl),fun b o hs=>by have:=h.lt b o hs;simpa using this,fun s b hb=> ?_,h.boxed,h.inj,fun k x e hk=> ?_,h.dS,h.top,h.base,fun b o h0 sp v hv=>ey b o (h.base b o h0) sp v (h.stay b o h0 sp v hv),h.pX⟩,hm⟩
 ·obtain⟨h1,h2,cs,h3,h4⟩:=h.box s b hb
  have hne:b≠D:=fun e=>by
   subst e
   rcases(by omega:s%2=0∨s%2=1)with hp|hp
   ·obtain⟨_,_,g1,_⟩:=h4.1 hp;rw[hD]at g1;cases g1
   ·obtain⟨_,_,g1,_⟩:=h4.2 hp;rw[hD]at g1;cases g1
  exact⟨h1,h2,cs,h3,h4.FP (EF b h4.lt hne) hm⟩
 ·obtain⟨g,n,c,sz,xs,i,rfl,hi,hsz,ho,h1,h2⟩:=h.gm k x e hk
  have hne:g≠D:=fun e=>by
   subst e
   rcases ho.2 with⟨h',_⟩|⟨g',cap,cur,Ij,mN,_,Gz,_⟩
   ·cases h'
   ·simp only[Value.slice.injEq,Option.some.injEq,Addr.mk.injEq]at mN
    obtain⟨⟨rfl,_⟩,_,rfl⟩:=mN
    rw[hD]at Gz
    cases Gz
  exact⟨g,n,c,sz,xs,i,rfl,hi,hsz,ho.kept hg (.inr (by simpa [Value.ownBlock]using hne)),h1,h2⟩
theorem W7{fn:Func}{tmps:Array Value}{R:Ending→World→Prop}{n:Nat}:∀(Ds:List Nat) (w:World),Ds.Nodup→(∀D∈Ds,w.heap[D]? =some (.deferred (some []))∧¬W.X D)→Inv P W S0 S β φ σ.boxes w→
  (∀(s:Nat) (u:T),(∃i:Nat,vm[i]? =some s∧σ.vars[i]? =some u)→ak S w β φ (tmps.getD s undef) u)→
  (∀w',Inv P W S0 S β φ σ.boxes w'→(∀(s:Nat) (u:T),(∃i:Nat,vm[i]? =some s∧σ.vars[i]? =some u)→ak S w' β φ (tmps.getD s undef) u)→∃v,(results fn tmps).run P w'= .ok v w'∧R (.returned v) w')→
  LeavesInM (wd none) n P fn tmps R (Ds.map Ew) .returning w
 | [],w,_,_,hI,hv,hR=>by
  simp only[List.map_nil,LeavesInM,LeavesIn]
  exact hR w hI hv
 |D::Ds,w,hn,hD,hI,hv,hR=>by
  obtain⟨mS,zY⟩:=List.nodup_cons.1 hn
  obtain⟨h1,h2⟩:=hD D (by simp)
  obtain⟨xV,hm⟩:=hI.W6 (.deferred none) h1 h2
  simp only[List.map_cons,LeavesInM]
  refine⟨by simp,.inl ⟨D,_,rfl,run_takeDeferred h1,W7 Ds _ zY (fun D' LC=> ?_) xV (fun s u h=>hm _ _ (hv s u h)) hR⟩⟩
  obtain⟨g1,g2⟩:=hD D' (by simp[LC])
  exact⟨(World.putObj_heap_other (r:=D) (k:=D') (fun e:D'=D=>mS (e▸LC))).trans g1,g2⟩
theorem x7{C:FuncId→List T→Option T}(hC:∀f args r,C f args=some r→Sound P f args r){io:FuncId→Nat}{bN:List Nat→Array Oper→List (Option (Nat×Bool)×IOp)→Bool}(hD:mU P bN){N f:Nat}{fn:Func}{fR:aC}{h:Hints}{canon:List CM}{split:Bool}
  (hf:P.funcs[f]? =some fn) (hn:(fn.name== "runtime.NumGoroutine")=false) (hl:lower P io bN vm bm h canon split fn=some fR):
  fR.eK=bm.length∧jG P f=true∧∀{args:List T} {bx:List (Option (List T))} {vs:Array Value} {t:T},args.length=fR.nparams→Inv P W S S β φ bx w→W.w=w→W.m0=w.heap.size→2*bm.length≤W.nb→vs.size=args.length→
  (∀(i:Nat) (x:Value) (t:T),vs[i]? =some x→args[i]? =some t→ak S w β φ x t)→
  (exec C N fR.body ⟨[],args++List.replicate (fR.kj-fR.nparams) .undef,bx⟩=some (.norm σ)∨exec C N fR.body ⟨[],args++List.replicate (fR.kj-fR.nparams) .undef,bx⟩=some (.ret σ))→
  c9 σ fR.results fR.canon=some t→Calls P f vs w fun e w'=>∃x S' β' φ',e= .returned x∧Inv P W S S' β' φ' σ.boxes w'∧ak S' w' β' φ' x t:=by
 unfold lower at hl
 simp only at hl
 split at hl<;>try(cases hl;done)
 rename_i c hb
 split at hl<;>try(cases hl;done)
 rename_i eC
 obtain⟨EA,hbm,oD,iy⟩:=eC
 simp only[Option.bind_eq_bind]at hl
 obtain⟨⟨ic,h'⟩,wO,hl⟩:=Option.bind_eq_some_iff.1 hl
 obtain⟨GL,abt,hl⟩:=Option.bind_eq_some_iff.1 hl
 simp only[Option.some.injEq]at hl
 subst hl
 refine⟨rfl,by simp[jG,hf,hb,hn],fun {args bx vs t} hlen hI hWw nI dm Od ij hex vo=> ?_⟩
 simp only at hlen hex vo
 generalize hp:fn.params.size+fn.nfree=p at oD hlen hex
 have am1:p≤vm.length:=by
  have:=congrArg List.length oD
  simp only[List.length_take,List.length_range]at this
  omega
 have Oh:∀i,i< p→vm[i]? =some i:=by
  intro i hi
  have:(vm.take p)[i]? =some i:=by rw[oD];simp[hi]
  rw[List.getElem?_take]at this
  simpa [hi]using this
 have DE:p≤fn.ntmps:=by
  by_cases h0:p=0
  ·omega
  ·have:=Oh (p-1) (by omega)
   have hm:=List.mem_of_getElem? this
   simp only[List.all_eq_true,decide_eq_true_eq]at iy
   have:=iy _ hm
   omega
 have hR:bY P W S S β φ fn.ntmps vm [] ⟨[],args++List.replicate (vm.length-p) .undef,bx⟩ {tmps:=vs++Array.replicate (fn.ntmps-vs.size) undef,defers:=[]} w:=by
  refine⟨hI,⟨[],by simp,rfl,by simp⟩,by simp;omega,by simp;omega,rfl,fun i s u hi _ hu=> ?_,fun j s u hj=>by simp at hj,fun j j' s hj=>by simp at hj⟩
  rw[List.getElem?_append]at hu
  split at hu
  ·rename_i hlt
   have:=Oh i (by omega)
   rw[this]at hi
   simp only[Option.some.injEq]at hi
   subst hi
   refine ij i _ u ?_ hu
   simp only[Array.getD_eq_getD_getElem?]
   rw[Array.getElem?_append_left (by omega)]
   simp[show i< vs.size by omega]
  ·rw[List.getElem?_replicate]at hu
   split at hu
   ·simp only[Option.some.injEq]at hu;subst hu;exact .undef ..
   ·cases hu
 have hE:Ext S W W:=Ext.refl hI.below.lt
 refine(callsIn_wide (n:=3)).1 (callsIn_of_wp_marks (F:=wd none) hf hb trivial ?_)
 have fin:∀a' w',pq P W S fn.ntmps vm σ a' w'→LeavesInM (wd none) 3 P fn a'.tmps (fun e w'=>∃x S' β' φ',e= .returned x∧Inv P W S S' β' φ' σ.boxes w'∧ak S' w' β' φ' x t) a'.defers .returning w':=by
  rintro a' w' ⟨W2,S',β',φ',hE2,Iy⟩
  obtain⟨Ds,mS,zY,hn3⟩:=Iy.nd
  rw[zY]
  have o0:=Iy.inv.T1 hE2
  refine W7 Ds w' mS (fun D hD=> ?_) o0 (fun s u ⟨i,h1,h2⟩=>Iy.vars i s u h1 (by simp) h2) fun w2 hI2 hv2=> ?_
  ·obtain⟨g1,g2,g3⟩:=hn3 D hD
   refine⟨(Iy.inv.below.block D g1).trans g2,fun hx=> ?_⟩
   have:=o0.below.lt D hx
   rw[hE2.m0,nI,←hWw]at g3
   omega
  ·obtain⟨x,hx,cj⟩:=DH (a:=a') hI2 (fun i s u h1 h2=>hv2 s u ⟨i,h1,h2⟩) abt vo
   exact⟨x,hx,x,S',β',φ',rfl,hI2,cj⟩
 rcases hex with hex|hex
 ·exact Iz hC hD N 400 c dm (by rw[nI,hWw];exact Nat.le_refl _) (.inl rfl) wO hex ⟨W,S,β,φ,hE,hR⟩ fun a' w' hc=>fin a' w' hc
 ·exact Iz hC hD N 400 c dm (by rw[nI,hWw];exact Nat.le_refl _) (.inl rfl) wO hex ⟨W,S,β,φ,hE,hR⟩ fun a' w' hc=>fin a' w' hc
end
end Go.Vi
end
section
namespace Go.Vi
open Go Go.RowKit
def IOp.pure:IOp→Bool
 | .sliceA ..| .bsliceB ..| .alloc ..| .box ..| .load ..| .store ..| .mkSlice ..| .mkBox ..| .mkCap ..| .bslice ..| .append ..| .copy ..| .call ..| .callv ..| .clearS ..| .appendB ..| .mkMap ..| .lookup ..| .mapUpdate ..| .lenM ..| .thaw ..| .callnew ..| .callio ..| .callvio ..=>false
 |_=>true
def IOp.quiet:IOp→Bool
 | .load ..| .lookup ..| .lenM ..| .sliceA ..=>true
 |o=>o.pure
def quietVal(get:ag→T)(bx:List (Option (List T))):IOp→Option T
 | .mv a=>some (get a)
 | .pick c a b=>match get c with| .v (.bool t)=>some (if t then get a else get b)|_=>none
 | .bin op t a b=>bM op t (get a) (get b)
 | .eqb neg a b=>match get a,get b with| .v (.bool x),.v (.bool y)=>some (T.bool ((x==y) !=neg))|_,_=>none
 | .eqa neg ks a b=>match get a,get b with
  | .agg xs,.agg ys=>(cw ks xs ys).map fun e=>T.bool (e !=neg)
  |_,_=>none
 | .eqnil neg a=>match get a with
  | .sl .nil _ _=>some (T.bool (!neg))
  | .sl .l9 _ _=>some (T.bool neg)
  | .sl _ n _=>if 0< n then some (T.bool neg)else none
  | .au _ _ n _=>if 0< n then some (T.bool neg)else none
  |_=>none
 | .un op a=>match get a with| .v x=>(gn (Op.unary op x)).map fun y=> .v y|_=>none
 | .toInt k a=>match get a with
  | .v (.int _ n)=>some (.v (.int k (k.wrap n)))
  | .v (.float s b)=>(gn (Conv.floatToInt s b k)).map fun y=> .v y
  |_=>none
 | .toFloat k a=>match get a with| .v (.int _ n)=>some (.v (.float k (k.nearest n)))|_=>none
 | .toStr a=>match get a with
  | .sl _ n cs=>if n=cs.length then(bytesOf cs).map fun b=> .str ⟨b.toArray⟩else none
  |_=>none
 | .build zero parts=>(df get zero parts).map fun cs=> .agg cs
 | .field isAgg off n a=>match get a with| .agg cs=>one? isAgg n cs off|_=>none
 | .indexA len sz isAgg a i=>match get a,asNat (get i)with
  | .agg cs,some i=>if i< len then one? isAgg sz cs (i*sz)else none
  |_,_=>none
 | .indexS a i=>match get a,asNat (get i)with
  | .v (.string s),some i=>(s.data[i]?).map fun b=> .u8 b.toNat
  |_,_=>none
 | .extract a i=>match get a with| .al ts=>ts[i]? |_=>none
 | .load isAgg n a=>match get a with
  | .ref s off=>match bx[s]? with
   |some (some cs)=>one? isAgg n cs off
   |_=>none
  | .ptr cs off=>(one? isAgg n cs off).filter T.closed
  |_=>none
 | .faddr off a=>match get a with
  | .ref s o=>some (.ref s (o+off))
  | .ptr cs o=>some (.ptr cs (o+off))
  |_=>none
 | .iaddrA len sz a i=>match get a,asNat (get i)with
  | .ref s o,some i=>if i< len then some (.ref s (o+i*sz))else none
  | .ptr cs o,some i=>if i< len then some (.ptr cs (o+i*sz))else none
  |_,_=>none
 | .iaddrS sz a i=>match get a,asNat (get i)with
  | .sl _ n cs,some i=>if i< n then some (.ptr cs (i*sz))else none
  | .au s o n _,some i=>if i< n then some (.ref s (o+i*sz))else none
  |_,_=>none
 | .sliceS a lo hi=>match get a with
  | .v (.string s)=>do
   let h←av get s.size hi
   let l←av get 0 lo
   if l≤h∧h≤s.size then some (.str (s.extract l h))else none
  |_=>none
 | .sliceT sz a lo hi mx=>match get a with
  | .sl g n cs=>do
   let h←av get n hi
   let l←av get 0 lo
   let m←av get n mx
   if l≤h∧h≤m∧m≤n then some (.sl (if g= .nil then .nil else if mx.isSome∧h=m then .clip else .any) (h-l) ((cs.drop (l*sz)).take ((h-l)*sz)))
   else none
  | .au s o n c=>do
   let h←av get n hi
   let l←av get 0 lo
   let m←av get n mx
   if l≤h∧h≤m∧m≤n∧(n=0∨n*sz=c)then some (.au s (o+l*sz) (h-l) (if h=l then(if n=0 then c else 1+sz)else(h-l)*sz))else none
  |_=>none
 | .sliceA len sz a lo hi=>match get a with
  | .ref s o=>do
   let h←av get len hi
   let l←av get 0 lo
   match bx[s]? with
   |some (some cs)=>if l≤h∧h≤len∧o+len*sz≤cs.length then some (.au s (o+l*sz) (h-l) (if h=l then 1 else(h-l)*sz))else none
   |_=>none
  |_=>none
 | .arrOf len a=>match get a with
  | .au s o n _=>if len≤n∧0< n then some (.ref s o)else none
  | .sl _ n cs=>if len≤n∧0< n then some (.ptr cs 0)else none
  |_=>none
 | .lookup k zero ok a i=>match get a with
  | .aQ s=>match bx[s]? with
   |some (some cs)=>(mB k (get i) cs).map fun r=>match r with
    |some v=>if ok then .al [v,T.bool true]else v
    |none=>if ok then .al [zero,T.bool false]else zero
   |_=>none
  |_=>none
 | .lenM a=>match get a with
  | .aQ s=>match bx[s]? with
   |some (some cs)=>some (T.int (cs.length / 2:Nat))
   |_=>none
  |_=>none
 | .len str a=>jE str (get a)
 | .capS a=>match get a with
  | .sl .nil _ _=>some (T.int 0)
  | .sl .clip n _=>some (T.int n)
  | .au _ _ 0 0=>some (T.int 0)
  |_=>none
 | .minMax mx as=>match as.map get with
  | .v (.int k x)::rest=>(nD mx x rest).map fun r=> .v (.int k r)
  |_=>none
 | .part k a=>match get a with
  | .v (.complex f re im)=>some (.v (.float f (if k=0 then re else im)))
  |_=>none
 | .cplx a b=>match get a,get b with
  | .v (.float k re),.v (.float k' im)=>if k=k' then some (.v (.complex k re im))else none
  |_,_=>none
 | .mkFunc fn first cap=>some (.bq fn (first.map get) (cap.map get))
 | .nilCheck a=>match get a with
  | .ref s o=>some (.ref s o)
  | .ptr cs o=>some (.ptr cs o)
  | .bq (.func f) a b=>some (.bq (.func f) a b)
  | .v (.func (.func f) a b)=>some (.v (.func (.func f) a b))
  |_=>none
 |_=>none
theorem lA{C:FuncId→List T→Option T}{σ:St}{o:IOp}(h:o.quiet=true):ae C σ o=(quietVal (ag.get σ) σ.boxes o).map (·,σ):=by
 cases o<;>try(simp[IOp.quiet,IOp.pure]at h;done)
 case sliceS a lo hi=>
  simp only[ae,quietVal]
  generalize ag.get σ a=u
  cases u<;>try rfl
  rename_i x
  cases x<;>try rfl
  rename_i s
  simp only
  cases av (ag.get σ) s.size hi<;>try rfl
  cases av (ag.get σ) 0 lo<;>try rfl
  simp only[Option.bind_eq_bind,Option.bind_some]
  split<;>rfl
 case sliceA len sz a lo hi=>
  simp only[ae,quietVal]
  generalize ag.get σ a=u
  cases u<;>try rfl
  simp only
  rename_i s o
  cases av (ag.get σ) len hi<;>try rfl
  cases av (ag.get σ) 0 lo<;>try rfl
  simp only[Option.bind_eq_bind,Option.bind_some]
  cases σ.boxes[s]? with
  |none=>rfl
  |some ob=>
   cases ob with
   |none=>rfl
   |some cs=>simp only;split<;>rfl
 case sliceT sz a lo hi mx=>
  simp only[ae,quietVal]
  generalize ag.get σ a=u
  cases u<;>try rfl
  ·rename_i g n cs
   simp only
   cases av (ag.get σ) n hi<;>try rfl
   cases av (ag.get σ) 0 lo<;>try rfl
   cases av (ag.get σ) n mx<;>try rfl
   simp only[Option.bind_eq_bind,Option.bind_some]
   split<;>rfl
  ·rename_i s o n c
   simp only
   cases av (ag.get σ) n hi<;>try rfl
   cases av (ag.get σ) 0 lo<;>try rfl
   cases av (ag.get σ) n mx<;>try rfl
   simp only[Option.bind_eq_bind,Option.bind_some]
   split<;>rfl
 case load g n a=>
  simp only[ae,quietVal]
  generalize a.get σ=u
  cases u<;>try rfl
  rename_i s off
  simp only
  cases σ.boxes[s]? with
  |none=>rfl
  |some ob=>cases ob<;>rfl
 case pick c a b=>
  simp only[ae,quietVal]
  generalize ag.get σ c=u
  cases u<;>try rfl
  rename_i x
  cases x<;>rfl
 case eqb neg a b=>
  simp only[ae,quietVal]
  generalize ag.get σ a=u
  generalize ag.get σ b=v
  cases u<;>try rfl
  rename_i x
  cases x<;>try rfl
  cases v<;>try rfl
  rename_i y
  cases y<;>rfl
 case eqa neg ks a b=>
  simp only[ae,quietVal]
  generalize ag.get σ a=u
  generalize ag.get σ b=v
  cases u<;>try rfl
  cases v<;>try rfl
  simp only[Option.map_map];rfl
 case eqnil neg a=>
  simp only[ae,quietVal]
  generalize ag.get σ a=u
  cases u<;>try rfl
  ·rename_i g n cs
   cases g<;>first|rfl|(simp only;split<;>rfl)
  ·simp only;split<;>rfl
 case lookup k zero ok a i=>
  simp only[ae,quietVal]
  generalize a.get σ=u
  cases u<;>try rfl
  rename_i s
  simp only
  cases σ.boxes[s]? with
  |none=>rfl
  |some ob=>
   cases ob with
   |none=>rfl
   |some cs=>
    simp only
    cases mB k (ag.get σ i) cs with
    |none=>rfl
    |some r=>cases r<;>rfl
 case lenM a=>
  simp only[ae,quietVal]
  generalize a.get σ=u
  cases u<;>try rfl
  rename_i s
  simp only
  cases σ.boxes[s]? with
  |none=>rfl
  |some ob=>cases ob<;>rfl
 case capS a=>
  simp only[ae,quietVal]
  generalize a.get σ=u
  cases u<;>try rfl
  ·rename_i g n cs
   cases g<;>rfl
  ·rename_i s o n c
   cases n<;>cases c<;>rfl
 case un op a=>
  simp only[ae,quietVal]
  generalize ag.get σ a=u
  cases u<;>try rfl
  simp only[Option.map_map];rfl
 case toInt k a=>
  simp only[ae,quietVal]
  generalize ag.get σ a=u
  cases u<;>try rfl
  rename_i x
  cases x<;>try rfl
  simp only[Option.map_map];rfl
 case toFloat k a=>
  simp only[ae,quietVal]
  generalize ag.get σ a=u
  cases u<;>try rfl
  rename_i x
  cases x<;>rfl
 case toStr a=>
  simp only[ae,quietVal]
  generalize ag.get σ a=u
  cases u<;>try rfl
  simp only
  split<;>try rfl
  simp only[Option.map_map];rfl
 case field g off n a=>
  simp only[ae,quietVal]
  generalize ag.get σ a=u
  cases u<;>rfl
 case indexA len sz g a i=>
  simp only[ae,quietVal]
  generalize ag.get σ a=u
  generalize asNat (ag.get σ i)=j
  cases u<;>try rfl
  cases j<;>try rfl
  simp only
  split<;>rfl
 case indexS a i=>
  simp only[ae,quietVal]
  generalize ag.get σ a=u
  generalize asNat (ag.get σ i)=j
  cases u<;>try rfl
  rename_i x
  cases x<;>try rfl
  cases j<;>try rfl
  simp only[Option.map_map];rfl
 case extract a i=>
  simp only[ae,quietVal]
  generalize ag.get σ a=u
  cases u<;>rfl
 case faddr off a=>
  simp only[ae,quietVal]
  generalize ag.get σ a=u
  cases u<;>rfl
 case iaddrA len sz a i=>
  simp only[ae,quietVal]
  generalize ag.get σ a=u
  generalize asNat (ag.get σ i)=j
  cases u<;>try rfl
  all_goals
   cases j<;>try rfl
   simp only
   split<;>rfl
 case iaddrS sz a i=>
  simp only[ae,quietVal]
  generalize ag.get σ a=u
  generalize asNat (ag.get σ i)=j
  cases u<;>try rfl
  all_goals
   cases j<;>try rfl
   simp only
   split<;>rfl
 case arrOf len a=>
  simp only[ae,quietVal]
  generalize ag.get σ a=u
  cases u<;>try rfl
  all_goals
   simp only
   split<;>rfl
 case minMax mx as=>
  simp only[ae,quietVal]
  generalize as.map (ag.get σ)=us
  cases us<;>try rfl
  rename_i u us
  cases u<;>try rfl
  rename_i x
  cases x<;>try rfl
  simp only[Option.map_map];rfl
 case part k a=>
  simp only[ae,quietVal]
  generalize ag.get σ a=u
  cases u<;>try rfl
  rename_i x
  cases x<;>rfl
 case cplx a b=>
  simp only[ae,quietVal]
  generalize ag.get σ a=u
  generalize ag.get σ b=v
  cases u<;>try rfl
  rename_i x
  cases x<;>try rfl
  cases v<;>try rfl
  rename_i y
  cases y<;>try rfl
  simp only
  split<;>rfl
 case nilCheck a=>
  simp only[ae,quietVal]
  generalize ag.get σ a=u
  cases u<;>try rfl
  ·rename_i x
   cases x<;>try rfl
   rename_i f _ _
   cases f<;>rfl
  ·rename_i f _ _
   cases f<;>rfl
 all_goals
  simp only[ae,quietVal]<;>first
   |rfl
   |simp only[Option.map_map,Function.comp_def]
theorem fillT_congr{get get':ag→T}:∀(ps:List (Nat×Nat×ag)) (cs:List T),(∀x∈ps.map (fun p=>p.2.2),get' x=get x)→df get' cs ps=df get cs ps
 | [],cs,_=>rfl
 |(off,n,a)::ps,cs,h=>by
  simp only[df]
  rw[h a (by simp)]
  cases cellsOf (get a)with
  |none=>rfl
  |some ns=>
   simp only[Option.bind_eq_bind,Option.bind_some]
   split
   ·exact fillT_congr ps _ fun x hx=>h x (by simp at hx⊢;exact .inr hx)
   ·rfl
theorem lU{get get':ag→T}{d:Nat}{x:Option ag}(h:∀y∈x.toList,get' y=get y):av get' d x=av get d x:=by
 cases x with
 |none=>rfl
 |some y=>simp only[av];rw[h y (by simp)]
theorem map_congr'{get get':ag→T}{as:List ag}(h:∀x∈as,get' x=get x):as.map get'=as.map get:=List.map_congr_left h
theorem nN{get get':ag→T}{bx:List (Option (List T))}{o:IOp}(h:∀x∈o.reads,get' x=get x):quietVal get' bx o=quietVal get bx o:=by
 cases o
 case build zero ps=>simp only[quietVal];rw[fillT_congr ps zero h]
 case minMax mx as=>simp only[quietVal];rw[map_congr' (as:=as) h]
 case mkFunc fn a b=>
  simp only[quietVal]
  rw[map_congr' (as:=a) fun x hx=>h x (by simp[IOp.reads,hx]),map_congr' (as:=b) fun x hx=>h x (by simp[IOp.reads,hx])]
 case sliceS a lo hi=>
  simp only[IOp.reads,List.mem_cons,List.mem_append]at h
  simp only[quietVal]
  rw[h a (.inl rfl)]
  simp only[fun d=>lU (d:=d) (x:=lo) (get:=get) (get':=get') fun y hy=>h y (.inr (.inl hy)),fun d=>lU (d:=d) (x:=hi) (get:=get) (get':=get') fun y hy=>h y (.inr (.inr hy))]
 case sliceA len sz a lo hi=>
  simp only[IOp.reads,List.mem_cons,List.mem_append]at h
  simp only[quietVal]
  rw[h a (.inl rfl)]
  simp only[fun d=>lU (d:=d) (x:=lo) (get:=get) (get':=get') fun y hy=>h y (.inr (.inl hy)),fun d=>lU (d:=d) (x:=hi) (get:=get) (get':=get') fun y hy=>h y (.inr (.inr hy))]
 case sliceT sz a lo hi mx=>
  simp only[IOp.reads,List.mem_cons,List.mem_append]at h
  simp only[quietVal]
  rw[h a (.inl rfl)]
  simp only[fun d=>lU (d:=d) (x:=lo) (get:=get) (get':=get') fun y hy=>h y (.inr (.inl hy)),fun d=>lU (d:=d) (x:=hi) (get:=get) (get':=get') fun y hy=>h y (.inr (.inr (.inl hy))),fun d=>lU (d:=d) (x:=mx) (get:=get) (get':=get') fun y hy=>h y (.inr (.inr (.inr hy)))]
 all_goals
  simp only[IOp.reads,List.mem_cons,List.not_mem_nil,or_false,forall_eq_or_imp,forall_eq,List.mem_singleton]at h
  simp only[quietVal,h]
end Go.Vi
end
section
namespace Go.Vi
open Go Go.RowKit
mutual
theorem uQ(d:Nat):∀t:T,t.closed=true→t.strip d=t
 | .undef,_=>rfl
 | .v _,_=>rfl
 | .sl g n cs,h=>by cases g<;>first|rfl|simp[T.closed]at h
 | .ptr ..,_=>rfl
 | .ref ..,_=>rfl
 | .au ..,_=>rfl
 | .aQ ..,_=>rfl
 | .agg ts,h=>by simp only[T.strip];rw[kO d ts (by simpa [T.closed]using h)]
 | .al ts,h=>by simp only[T.strip];rw[kO d ts (by simpa [T.closed]using h)]
 | .bq f a b,h=>by
  simp only[T.closed,Bool.and_eq_true]at h
  simp only[T.strip];rw[kO d a h.1,kO d b h.2]
theorem kO(d:Nat):∀ts:List T,bj ts=true→stripL d ts=ts
 | [],_=>rfl
 |t::ts,h=>by
  simp only[bj,Bool.and_eq_true]at h
  simp only[stripL];rw[uQ d t h.1,kO d ts h.2]
end
def cV(d:Nat)(bx:List (Option (List T))):List (Option (List T)):=bx.map (Option.map (stripL d))
theorem W8(d:Nat)(t:T):(t.strip d).one=t.one:=by
 cases t<;>try rfl
 rename_i g n cs
 cases g<;>rfl
theorem BG{d:Nat}{t:T}{x:Value}:t.strip d= .v x↔t= .v x:=by
 cases t with
 |sl g n cs=>cases g<;>simp[T.strip]
 |_=>simp[T.strip]
theorem so(d:Nat)(t:T):asNat (t.strip d)=asNat t:=by
 cases t<;>try rfl
 rename_i g n cs
 cases g<;>rfl
theorem CC(d:Nat)(g:Bool)(n:Nat)(cs:List T)(off:Nat):one? g n (stripL d cs) off=(one? g n cs off).map (T.strip d):=by
 unfold one?
 cases g with
 |true=>
  simp only[if_true,aE,List.length_map]
  split
  ·simp[T.strip,aE,List.map_take,List.map_drop]
  ·rfl
 |false=>simp[aE]
theorem DI(d:Nat)(t:T):cellsOf (t.strip d)=(cellsOf t).map (stripL d):=by
 cases t<;>try rfl
 rename_i g n cs
 cases g<;>rfl
theorem Ke(d:Nat)(cs:List T)(off:Nat)(ns:List T):setCells (stripL d cs) off (stripL d ns)=stripL d (setCells cs off ns):=by
 simp[setCells,aE,List.map_take,List.map_drop]
theorem xK(d:Nat)(ts:List T):(stripL d ts).length=ts.length:=by simp[aE]
theorem ID(d:Nat)(ts:List T):(stripL d ts).all T.one=ts.all T.one:=by
 induction ts with
 |nil=>rfl
 |cons t ts ih=>simp[stripL,W8,ih]
theorem GM(d:Nat){get:ag→T}:∀(ps:List (Nat×Nat×ag)) (cs:List T),df (fun x=>(get x).strip d) (stripL d cs) ps=(df get cs ps).map (stripL d)
 | [],cs=>rfl
 |(off,n,a)::ps,cs=>by
  simp only[df]
  rw[DI]
  cases cellsOf (get a)with
  |none=>rfl
  |some ns=>
   simp only[Option.bind_eq_bind,Option.map_some,Option.bind_some,xK,ID]
   split
   ·rw[Ke,GM d ps]
   ·rfl
theorem zd(d:Nat){get:ag→T}{k:Nat}(x:Option ag):av (fun x=>(get x).strip d) k x=av get k x:=by
 cases x with
 |none=>rfl
 |some y=>simp only[av,so]
theorem EG(d:Nat)(k:LK)(a b:T):iA k (a.strip d) (b.strip d)=iA k a b:=by
 have h:∀t:T,(∃x,t= .v x)∨((∀x,t≠ .v x)∧∀x,t.strip d≠ .v x):=fun t=>by
  cases t with
  |v x=>exact .inl ⟨x,rfl⟩
  |_=>refine .inr ⟨by simp,fun x h=> ?_⟩;rw[BG]at h;cases h
 have hn:∀(k:LK) (a b:T),(∀x,a≠ .v x)→iA k a b=none:=fun k a b h=>by
  cases a<;>first|exact absurd rfl (h _)|(cases k<;>rfl)
 have nK:∀(k:LK) (a b:T),(∀x,b≠ .v x)→iA k a b=none:=fun k a b h=>by
  cases b<;>first|exact absurd rfl (h _)|(cases k<;>cases a<;>first|rfl|(rename_i x;cases x<;>rfl))
 rcases h a with⟨x,rfl⟩|⟨h1,h2⟩
 ·rcases h b with⟨y,rfl⟩|⟨h3,h4⟩
  ·rfl
  ·rw[nK _ _ _ h3,nK _ _ _ h4]
 ·rw[hn _ _ _ h1,hn _ _ _ h2]
theorem DJ(d:Nat):∀(ks:List LK) (xs ys:List T),cw ks (stripL d xs) (stripL d ys)=cw ks xs ys
 | [],[],[]=>rfl
 | [],[],_::_=>rfl
 | [],_::_,[]=>rfl
 | [],_::_,_::_=>rfl
 |_::_,[],[]=>rfl
 |_::_,[],_::_=>rfl
 |_::_,_::_,[]=>rfl
 |k::ks,a::as,b::bs=>by simp only[stripL,cw,EG,DJ d ks]
theorem EH(d:Nat)(mx:Bool):∀(ts:List T) (acc:Int),nD mx acc (stripL d ts)=nD mx acc ts
 | [],acc=>rfl
 |t::ts,acc=>by
  simp only[stripL]
  cases t<;>try rfl
  ·rename_i x
   simp only[T.strip]
   cases x<;>try rfl
   simp only[nD]
   rw[EH d mx ts]
  ·rename_i g n cs
   cases g<;>rfl
theorem T9(d:Nat)(str:Bool)(t:T):jE str (t.strip d)=jE str t:=by
 cases t<;>try rfl
 rename_i g n cs
 cases g<;>rfl
theorem Ua(d:Nat)(op:BinOp)(ty:TypeId)(a b:T):bM op ty (a.strip d) (b.strip d)=bM op ty a b:=by
 have hn:∀(a b:T),(∀x,a≠ .v x)→bM op ty a b=none:=fun a b h=>by
  cases a<;>first|exact absurd rfl (h _)|rfl
 have nK:∀(a b:T),(∀x,b≠ .v x)→bM op ty a b=none:=fun a b h=>by
  cases b<;>first|exact absurd rfl (h _)|(cases a<;>rfl)
 by_cases h1:∃x,a= .v x
 ·obtain⟨x,rfl⟩:=h1
  by_cases h2:∃x,b= .v x
  ·obtain⟨y,rfl⟩:=h2;rfl
  ·rw[nK _ b fun x h=>h2 ⟨x,h⟩,nK _ (b.strip d) fun x h=>h2 ⟨x,BG.1 h⟩]
 ·rw[hn a _ fun x h=>h1 ⟨x,h⟩,hn (a.strip d) _ fun x h=>h1 ⟨x,BG.1 h⟩]
theorem agE{op:BinOp}{ty:TypeId}{a b t:T}(h:bM op ty a b=some t)(d:Nat):t.strip d=t:=by
 unfold bM at h
 split at h
 ·split at h
  ·obtain⟨x,_,rfl⟩:=Option.map_eq_some_iff.1 h;rfl
  ·cases h
 ·cases h
theorem GN(d:Nat)(k:LK)(key:T):∀cs:List T,mB k (key.strip d) (stripL d cs)=(mB k key cs).map (Option.map (T.strip d))
 | []=>rfl
 | [_]=>rfl
 |a::v::cs=>by
  simp only[stripL,mB,EG]
  cases iA k key a with
  |none=>rfl
  |some e=>
   simp only[Option.bind_some]
   split
   ·rfl
   ·exact GN d k key cs
def kZ:IOp→Bool
 | .build zero _| .alloc _ zero| .bslice _ _ _ _ zero _=>bj zero
 | .lookup _ zero _ _ _=>zero.closed
 |_=>true
theorem BH(d:Nat){get:ag→T}{bx:List (Option (List T))}{o:IOp}(hz:kZ o=true):quietVal (fun x=>(get x).strip d) (cV d bx) o=(quietVal get bx o).map (T.strip d):=by
 cases o<;>try rfl
 case pick c a b=>
  simp only[quietVal]
  generalize get c=u
  cases u<;>try rfl
  ·rename_i x
   simp only[T.strip]
   cases x<;>try rfl
   simp only[Option.map_some]
   split<;>rfl
  ·rename_i g n cs
   cases g<;>rfl
 case bin op t a b=>
  simp only[quietVal,Ua]
  cases h:bM op t (get a) (get b)with
  |none=>rfl
  |some r=>simp[agE h]
 case eqb neg a b=>
  simp only[quietVal]
  generalize get a=u
  generalize get b=v
  cases u<;>try rfl
  ·rename_i x
   simp only[T.strip]
   cases x<;>try rfl
   cases v<;>try rfl
   ·rename_i y
    simp only[T.strip]
    cases y<;>rfl
   ·rename_i g n cs
    cases g<;>rfl
  ·rename_i g n cs
   cases g<;>rfl
 case eqa neg ks a b=>
  simp only[quietVal]
  generalize get a=u
  generalize get b=v
  cases u<;>try rfl
  ·rename_i g n cs
   cases g<;>rfl
  ·rename_i xs
   cases v<;>try rfl
   ·rename_i g n cs
    cases g<;>rfl
   ·rename_i ys
    simp only[T.strip,DJ,Option.map_map]
    rfl
 case eqnil neg a=>
  simp only[quietVal]
  generalize get a=u
  cases u<;>try rfl
  ·rename_i g n cs
   cases g<;>try rfl
   ·simp only[T.strip];split<;>rfl
   ·simp only[T.strip];split<;>rfl
   ·rename_i k e
    by_cases h:hit d k=true
    ·simp only[T.strip,h,if_true];split<;>rfl
    ·simp only[T.strip,h];simp only[Bool.false_eq_true,if_false];split<;>rfl
  ·simp only[T.strip];split<;>rfl
 case lookup k zero ok a i=>
  simp only[quietVal]
  generalize get a=u
  cases u<;>try rfl
  ·rename_i g n cs
   cases g<;>rfl
  ·rename_i s
   simp only[T.strip,cV,List.getElem?_map]
   cases bx[s]? with
   |none=>rfl
   |some ob=>
    cases ob with
    |none=>rfl
    |some cs=>
     simp only[Option.map_some,GN,Option.map_map]
     refine congrArg (fun f=>Option.map f (mB k (get i) cs)) (funext fun r=> ?_)
     have oZ:zero.strip d=zero:=uQ d zero (by simpa [kZ]using hz)
     cases r<;>cases ok<;>simp[T.strip,stripL,oZ]
 case capS a=>
  simp only[quietVal]
  generalize get a=u
  cases u<;>try rfl
  ·rename_i g n cs
   cases g with
   |own k e=>
    simp only[T.strip]
    cases hit d k<;>rfl
   |_=>rfl
  ·rename_i s o n c
   cases n<;>cases c<;>rfl
 case lenM a=>
  simp only[quietVal]
  generalize get a=u
  cases u<;>try rfl
  ·rename_i g n cs
   cases g<;>rfl
  ·rename_i s
   simp only[T.strip,cV,List.getElem?_map]
   cases bx[s]? with
   |none=>rfl
   |some ob=>
    cases ob with
    |none=>rfl
    |some cs=>simp only[Option.map_some,xK,T.strip]
 case un op a=>
  simp only[quietVal]
  generalize get a=u
  cases u<;>try rfl
  ·simp only[T.strip,Option.map_map];rfl
  ·rename_i g n cs
   cases g<;>rfl
 case toInt k a=>
  simp only[quietVal]
  generalize get a=u
  cases u<;>try rfl
  ·rename_i x
   simp only[T.strip]
   cases x<;>try rfl
   simp only[Option.map_map];rfl
  ·rename_i g n cs
   cases g<;>rfl
 case toFloat k a=>
  simp only[quietVal]
  generalize get a=u
  cases u<;>try rfl
  ·rename_i x
   simp only[T.strip]
   cases x<;>rfl
  ·rename_i g n cs
   cases g<;>rfl
 case toStr a=>
  simp only[quietVal]
  generalize get a=u
  cases u<;>try rfl
  rename_i g n cs
  cases g<;>simp only[T.strip]<;>split<;>first|rfl|(simp only[Option.map_map];rfl)
 case build zero ps=>
  simp only[quietVal]
  have oZ:stripL d zero=zero:=kO d zero (by simpa [kZ]using hz)
  have:=GM d (get:=get) ps zero
  rw[oZ]at this
  rw[this]
  simp only[Option.map_map];rfl
 case field g off n a=>
  simp only[quietVal]
  generalize get a=u
  cases u<;>try rfl
  ·rename_i g n cs
   cases g<;>rfl
  ·simp only[T.strip,CC]
 case indexA len sz g a i=>
  simp only[quietVal,so]
  generalize get a=u
  generalize asNat (get i)=j
  cases u<;>try rfl
  ·rename_i g n cs
   cases g<;>rfl
  ·cases j<;>try rfl
   simp only[T.strip,CC]
   split<;>rfl
 case indexS a i=>
  simp only[quietVal,so]
  generalize get a=u
  generalize asNat (get i)=j
  cases u<;>try rfl
  ·rename_i x
   simp only[T.strip]
   cases x<;>try rfl
   cases j<;>try rfl
   simp only[Option.map_map];rfl
  ·rename_i g n cs
   cases g<;>rfl
 case extract a i=>
  simp only[quietVal]
  generalize get a=u
  cases u<;>try rfl
  ·rename_i g n cs
   cases g<;>rfl
  ·simp[T.strip,aE]
 case load g n a=>
  simp only[quietVal]
  generalize get a=u
  cases u<;>try rfl
  ·rename_i g n cs
   cases g<;>rfl
  ·rename_i cs off
   simp only[T.strip]
   cases h:one? g n cs off with
   |none=>rfl
   |some t=>
    by_cases hc:t.closed=true
    ·simp[Option.filter,hc,uQ d t hc]
    ·simp[Option.filter,hc]
  ·rename_i s off
   simp only[T.strip,cV,List.getElem?_map]
   cases bx[s]? with
   |none=>rfl
   |some ob=>
    cases ob with
    |none=>rfl
    |some cs=>simp only[Option.map_some,CC]
 case faddr off a=>
  simp only[quietVal]
  generalize get a=u
  cases u<;>try rfl
  rename_i g n cs
  cases g<;>rfl
 case iaddrA len sz a i=>
  simp only[quietVal,so]
  generalize get a=u
  generalize asNat (get i)=j
  cases u<;>try rfl
  ·rename_i g n cs
   cases g<;>rfl
  all_goals
   cases j<;>try rfl
   simp only[T.strip]
   split<;>rfl
 case iaddrS sz a i=>
  simp only[quietVal,so]
  generalize get a=u
  generalize asNat (get i)=j
  cases u<;>try rfl
  ·rename_i g n cs
   cases j<;>cases g<;>simp only[T.strip]<;>first|rfl|(split<;>rfl)
  ·cases j<;>try rfl
   simp only[T.strip]
   split<;>rfl
 case sliceS a lo hi=>
  simp only[quietVal,zd]
  generalize get a=u
  cases u<;>try rfl
  ·rename_i x
   simp only[T.strip]
   cases x<;>try rfl
   rename_i s
   simp only
   cases av get s.size hi<;>try rfl
   cases av get 0 lo<;>try rfl
   simp only[Option.bind_eq_bind,Option.bind_some]
   split<;>rfl
  ·rename_i g n cs
   cases g<;>rfl
 case sliceA len sz a lo hi=>
  simp only[quietVal,zd]
  generalize get a=u
  cases u<;>try rfl
  ·rename_i g n cs
   cases g<;>rfl
  ·rename_i s o
   simp only[T.strip,cV,List.getElem?_map]
   cases av get len hi<;>try rfl
   cases av get 0 lo<;>try rfl
   simp only[Option.bind_eq_bind,Option.bind_some]
   cases bx[s]? with
   |none=>rfl
   |some ob=>
    cases ob with
    |none=>rfl
    |some cs=>simp only[Option.map_some,xK];split<;>rfl
 case sliceT sz a lo hi mx=>
  simp only[quietVal,zd]
  generalize get a=u
  cases u<;>try rfl
  ·rename_i g n cs
   have key:∀g:Tag,(do
     let h←av get n hi
     let l←av get 0 lo
     let m←av get n mx
     if l≤h∧h≤m∧m≤n then some (T.sl (if g= .nil then .nil else if mx.isSome∧h=m then .clip else .any) (h-l) ((cs.drop (l*sz)).take ((h-l)*sz)))
     else none)=Option.map (T.strip d) (do
     let h←av get n hi
     let l←av get 0 lo
     let m←av get n mx
     if l≤h∧h≤m∧m≤n then some (T.sl (if g= .nil then .nil else if mx.isSome∧h=m then .clip else .any) (h-l) ((cs.drop (l*sz)).take ((h-l)*sz)))
     else none):=by
    intro g
    cases av get n hi<;>try rfl
    cases av get 0 lo<;>try rfl
    cases av get n mx<;>try rfl
    simp only[Option.bind_eq_bind,Option.bind_some]
    split<;>try rfl
    simp only[Option.map_some,Option.some.injEq]
    split<;>first|rfl|(split<;>rfl)
   cases g with
   |own k e=>
    simp only[T.strip]
    have h1:=key .any
    split<;>simpa using h1
   |nil=>exact key .nil
   |any=>exact key .any
   |l9=>exact key .l9
   |clip=>exact key .clip
  ·simp only[T.strip]
   rename_i s o n c
   cases av get n hi<;>try rfl
   cases av get 0 lo<;>try rfl
   cases av get n mx<;>try rfl
   simp only[Option.bind_eq_bind,Option.bind_some]
   split<;>rfl
 case arrOf len a=>
  simp only[quietVal]
  generalize get a=u
  cases u<;>try rfl
  ·rename_i g n cs
   cases g<;>simp only[T.strip]<;>split<;>rfl
  ·simp only[T.strip]
   split<;>rfl
 case len str a=>
  simp only[quietVal,T9]
  generalize get a=u
  cases u<;>try rfl
  all_goals simp only[jE]
  ·rename_i x
   cases x<;>try rfl
   simp only;split<;>rfl
  all_goals split<;>rfl
 case minMax mx as=>
  simp only[quietVal]
  have:as.map (fun x=>(get x).strip d)=stripL d (as.map get):=by simp[aE,Function.comp_def]
  rw[this]
  generalize as.map get=us
  cases us<;>try rfl
  rename_i u us
  simp only[stripL]
  cases u<;>try rfl
  ·rename_i x
   simp only[T.strip]
   cases x<;>try rfl
   simp only[EH,Option.map_map];rfl
  ·rename_i g n cs
   cases g<;>rfl
 case part k a=>
  simp only[quietVal]
  generalize get a=u
  cases u<;>try rfl
  ·rename_i x
   simp only[T.strip]
   cases x<;>try rfl
  ·rename_i g n cs
   cases g<;>rfl
 case cplx a b=>
  simp only[quietVal]
  generalize get a=u
  generalize get b=v
  cases u<;>try rfl
  ·rename_i x
   simp only[T.strip]
   cases x<;>try rfl
   cases v<;>try rfl
   ·rename_i y
    simp only[T.strip]
    cases y<;>try rfl
    simp only
    split<;>rfl
   ·rename_i g n cs
    cases g<;>rfl
  ·rename_i g n cs
   cases g<;>rfl
 case mkFunc fn a b=>
  simp only[quietVal,Option.map_some,T.strip,aE,List.map_map]
  rfl
 case nilCheck a=>
  simp only[quietVal]
  generalize get a=u
  cases u<;>try rfl
  ·rename_i x
   simp only[T.strip]
   cases x<;>try rfl
   rename_i f _ _
   cases f<;>rfl
  ·rename_i g n cs
   cases g<;>rfl
  ·rename_i f _ _
   cases f<;>rfl
end Go.Vi
end
section
namespace Go.Vi
open Go Go.RowKit
def jq:List Nat→T→T
 | [],t=>t
 |d::ds,t=>jq ds (t.strip d)
def St.aN:List Nat→St→St
 | [],σ=>σ
 |d::ds,σ=>St.aN ds (σ.strip d)
theorem xa:∀(ds:List Nat) (σ:St),(σ.aN ds).rs=σ.rs.map (jq ds)
 | [],σ=>by simp[St.aN,show jq []=id from funext fun _=>rfl]
 |d::ds,σ=>by
  simp only[St.aN]
  rw[xa ds]
  simp only[St.strip,aE,List.map_map]
  rfl
theorem sq:∀(ds:List Nat) (σ:St),(σ.aN ds).vars=σ.vars.map (jq ds)
 | [],σ=>by simp[St.aN,show jq []=id from funext fun _=>rfl]
 |d::ds,σ=>by
  simp only[St.aN]
  rw[sq ds]
  simp only[St.strip,aE,List.map_map]
  rfl
theorem ze:∀(ds:List Nat) (σ σ':St),σ.boxes=σ'.boxes→(σ.aN ds).boxes=(σ'.aN ds).boxes
 | [],σ,σ',h=>h
 |d::ds,σ,σ',h=>by
  simp only[St.aN]
  exact ze ds _ _ (by simp only[St.strip,h])
theorem mV(ds:List Nat)(σ:St)(p:Nat)(t:T):St.aN ds {σ with rs:=σ.rs.set p t}={σ.aN ds with rs:=(σ.aN ds).rs.set p (jq ds t)}:=by
 have h1:=xa ds {σ with rs:=σ.rs.set p t}
 have h2:=sq ds {σ with rs:=σ.rs.set p t}
 have h3:=ze ds {σ with rs:=σ.rs.set p t} σ rfl
 have h4:=xa ds σ
 have h5:=sq ds σ
 generalize St.aN ds {σ with rs:=σ.rs.set p t}=a at*
 generalize St.aN ds σ=b at*
 cases a;cases b
 simp only at h1 h2 h3 h4 h5
 subst h1 h2 h3 h4 h5
 simp[List.map_set]
theorem uR(ds:List Nat):jq ds T.bJ=T.bJ:=by
 induction ds with
 |nil=>rfl
 |cons d ds ih=>exact ih
def ag.cOk:ag→Bool
 | .c t=>t.closed
 |_=>true
def jI(o:IOp):Bool:=o.reads.all ag.cOk
def ag.W9(p:Nat):ag→Bool
 | .r i=>i==p
 |_=>false
theorem vF{σ:St}{p:Nat}{t:T}{x:ag}(h:x.W9 p=false):x.get {σ with rs:=σ.rs.set p t}=x.get σ:=by
 cases x<;>try rfl
 rename_i i
 simp only[ag.W9,beq_eq_false_iff_ne,ne_eq]at h
 simp only[ag.get,List.getD_eq_getElem?_getD,List.getElem?_set,if_neg (fun h'=>h h'.symm:¬p=i)]
theorem tQ{σ:St}{d:Nat}{x:ag}(h:x.cOk=true):x.get (σ.strip d)=(x.get σ).strip d:=by
 cases x with
 |c t=>exact(uQ d t h).symm
 |r i=>
  simp only[ag.get,St.strip,List.getD_eq_getElem?_getD,aE,List.getElem?_map]
  cases σ.rs[i]? <;>rfl
 |x i=>
  simp only[ag.get,St.strip,List.getD_eq_getElem?_getD,aE,List.getElem?_map]
  cases σ.vars[i]? <;>rfl
theorem Q3{C:FuncId→List T→Option T}{σ:St}{o:IOp}{d:Nat}(hq:o.quiet=true)(hz:kZ o=true)(hc:jI o=true):
  ae C (σ.strip d) o=(ae C σ o).map fun p=>(p.1.strip d,p.2.strip d):=by
 rw[lA hq,lA hq]
 have h1:quietVal (ag.get (σ.strip d)) (σ.strip d).boxes o=quietVal (fun x=>(x.get σ).strip d) (cV d σ.boxes) o:=by
  refine nN fun x hx=>tQ ?_
  simp only[jI,List.all_eq_true]at hc
  exact hc x hx
 rw[h1,BH d hz]
 cases quietVal (ag.get σ) σ.boxes o<;>rfl
theorem zf{C:FuncId→List T→Option T}{o:IOp}(hq:o.quiet=true)(hz:kZ o=true)(hc:jI o=true):∀(ds:List Nat) (σ:St),
  ae C (σ.aN ds) o=(ae C σ o).map fun p=>(jq ds p.1,p.2.aN ds)
 | [],σ=>by simp[St.aN,jq]
 |d::ds,σ=>by
  simp only[St.aN]
  rw[zf hq hz hc ds,Q3 hq hz hc]
  simp only[Option.map_map]
  rfl
theorem uS{C:FuncId→List T→Option T}{σ az:St}{o:IOp}{t:T}(hq:o.quiet=true)(h:ae C σ o=some (t,az)):az=σ:=by
 rw[lA hq]at h
 obtain⟨x,_,hx⟩:=Option.map_eq_some_iff.1 h
 simp only[Prod.mk.injEq]at hx
 exact hx.2.symm
theorem CD{get:ag→T}{bx bx':List (Option (List T))}{o:IOp}(hp:o.pure=true):quietVal get bx o=quietVal get bx' o:=by
 cases o<;>first|rfl|simp[IOp.pure]at hp
def IOp.eW:IOp→Bool
 | .bsliceB ..| .alloc ..| .box ..| .mkBox ..| .store ..| .copy ..| .clearS ..| .appendB ..| .mkMap ..| .mapUpdate ..| .thaw ..| .callnew ..| .callio ..| .callvio ..=>false
 |_=>true
def IOp.EI:IOp→Bool
 | .appendB ..| .thaw ..| .callnew ..| .callio ..| .callvio ..=>true
 |_=>false
theorem oo{C:FuncId→List T→Option T}{σ az:St}{o:IOp}{t:T}(hld:o.EI=false)(hr:ae C σ o=some (t,az)):∃ds bx,(o.quiet=true∨o.eW=false→ds=[])∧(o.eW=true→bx=σ.boxes)∧az=St.aN ds {σ with boxes:=bx}∧
  ∀rs vars,(∀x∈o.reads,x.get ⟨rs,vars,σ.boxes⟩=x.get σ)→ae C ⟨rs,vars,σ.boxes⟩ o=some (t,St.aN ds ⟨rs,vars,bx⟩):=by
 by_cases hq:o.quiet=true
 ·have x8:=uS hq hr
  rw[x8]at hr⊢
  refine⟨[],σ.boxes,fun _=>rfl,fun _=>rfl,rfl,fun rs vars h=> ?_⟩
  rw[lA hq]at hr⊢
  rw[nN (get:=ag.get σ) h]
  obtain⟨x,hx,tR⟩:=Option.map_eq_some_iff.1 hr
  simp only[Prod.mk.injEq]at tR
  obtain⟨rfl,_⟩:=tR
  simp only[hx,Option.map_some]
  rfl
 ·have cW:∀{d f as},ae.cW C σ d f as=some (t,az)→az=St.aN [2*d] σ∧∀rs vars,ae.cW C ⟨rs,vars,σ.boxes⟩ d f as=some (t,St.aN [2*d] ⟨rs,vars,σ.boxes⟩):=by
   intro d f as hr
   simp only[ae.cW,Option.bind_eq_bind]at hr
   obtain⟨cs,aF,hr⟩:=Option.bind_eq_some_iff.1 hr
   obtain⟨r,xS,hr⟩:=Option.bind_eq_some_iff.1 hr
   split at hr<;>try(cases hr;done)
   rename_i lS
   simp only[Option.some.injEq,Prod.mk.injEq]at hr
   obtain⟨rfl,rfl⟩:=hr
   refine⟨rfl,fun rs vars=> ?_⟩
   simp only[ae.cW,Option.bind_eq_bind,aF,Option.bind_some,xS,if_neg lS]
   rfl
  cases o<;>try(exact absurd rfl hq)
  all_goals try(simp[IOp.EI]at hld;done)
  case alloc s zero=>
   simp only[ae]at hr
   split at hr<;>try(cases hr;done)
   rename_i hb
   split at hr<;>try(cases hr;done)
   rename_i h1
   simp only[Option.some.injEq,Prod.mk.injEq]at hr
   obtain⟨rfl,rfl⟩:=hr
   exact⟨[],σ.boxes.set s (some zero),fun _=>rfl,fun h=>by simp[IOp.eW]at h,rfl,fun rs vars h=>by simp only[ae,hb,if_pos h1];rfl⟩
  case box s a=>
   simp only[ae]at hr
   split at hr<;>try(cases hr;done)
   rename_i cs hb hc
   split at hr<;>try(cases hr;done)
   rename_i h1
   simp only[Option.some.injEq,Prod.mk.injEq]at hr
   obtain⟨rfl,rfl⟩:=hr
   refine⟨[],σ.boxes.set s (some cs),fun _=>rfl,fun h=>by simp[IOp.eW]at h,rfl,fun rs vars h=> ?_⟩
   simp only[IOp.reads,List.mem_singleton,forall_eq]at h
   simp only[ae,hb,h,hc,h1,if_true]
   rfl
  case store n a b=>
   simp only[ae]at hr
   split at hr<;>try(cases hr;done)
   rename_i s off ns ha hn
   split at hr<;>try(cases hr;done)
   rename_i cs hb
   split at hr<;>try(cases hr;done)
   rename_i h1
   simp only[Option.some.injEq,Prod.mk.injEq]at hr
   obtain⟨rfl,rfl⟩:=hr
   refine⟨[],σ.boxes.set s (some (setCells cs off ns)),fun _=>rfl,fun h=>by simp[IOp.eW]at h,rfl,fun rs vars h=> ?_⟩
   simp only[IOp.reads,List.mem_cons,List.not_mem_nil,or_false,forall_eq_or_imp,forall_eq]at h
   simp only[ae,hb,h,ha,hn]
   rw[if_pos h1]
   rfl
  case copy sz a b=>
   simp only[ae]at hr
   split at hr<;>try(cases hr;done)
   rename_i s o n c m ys ha cI
   split at hr<;>try(cases hr;done)
   rename_i cs hb
   split at hr<;>try(cases hr;done)
   rename_i h1
   simp only[Option.some.injEq,Prod.mk.injEq]at hr
   obtain⟨rfl,rfl⟩:=hr
   refine⟨[],σ.boxes.set s (some (setCells cs o (ys.take (min m n*sz)))),fun _=>rfl,fun h=>by simp[IOp.eW]at h,rfl,fun rs vars h=> ?_⟩
   simp only[IOp.reads,List.mem_cons,List.not_mem_nil,or_false,forall_eq_or_imp,forall_eq]at h
   simp only[ae,hb,h,ha]
   rw[cI]
   simp only[hb]
   rw[if_pos h1]
   rfl
  case mkSlice d e sz bytes zero n=>
   simp only[ae]at hr
   split at hr<;>try(cases hr;done)
   rename_i k hk
   split at hr<;>try(cases hr;done)
   rename_i h1
   simp only[Option.some.injEq,Prod.mk.injEq]at hr
   obtain⟨rfl,rfl⟩:=hr
   refine⟨[2*d],σ.boxes,fun h=>absurd h (by simp[IOp.quiet,IOp.pure,IOp.eW]),fun _=>rfl,rfl,fun rs vars h=> ?_⟩
   simp only[IOp.reads,List.mem_singleton,forall_eq]at h
   simp only[ae,h,hk]
   rw[if_pos h1]
   rfl
  case bsliceB s sz len zero ps=>
   simp only[ae]at hr
   split at hr<;>try(cases hr;done)
   rename_i hb
   obtain⟨cs,aF,hr⟩:=Option.bind_eq_some_iff.1 hr
   split at hr<;>try(cases hr;done)
   rename_i h1
   simp only[Option.some.injEq,Prod.mk.injEq]at hr
   obtain⟨rfl,rfl⟩:=hr
   refine⟨[],σ.boxes.set s (some cs),fun _=>rfl,fun h=>by simp[IOp.eW]at h,rfl,fun rs vars h=> ?_⟩
   simp only[ae,hb]
   rw[fillT_congr (get:=ag.get σ) ps _ fun x hx=>h x hx,aF,Option.bind_some,if_pos h1]
   rfl
  case mkCap d e bytes n=>
   simp only[ae]at hr
   split at hr<;>try(cases hr;done)
   rename_i k hk
   split at hr<;>try(cases hr;done)
   rename_i h1
   simp only[Option.some.injEq,Prod.mk.injEq]at hr
   obtain⟨rfl,rfl⟩:=hr
   refine⟨[2*d],σ.boxes,fun h=>absurd h (by simp[IOp.quiet,IOp.pure,IOp.eW]),fun _=>rfl,rfl,fun rs vars h=> ?_⟩
   simp only[IOp.reads,List.mem_singleton,forall_eq]at h
   simp only[ae,h,hk]
   rw[if_pos h1]
   rfl
  case mkBox s sz bytes zero n=>
   simp only[ae]at hr
   split at hr<;>try(cases hr;done)
   rename_i k hk hb
   split at hr<;>try(cases hr;done)
   rename_i h1
   simp only[Option.some.injEq,Prod.mk.injEq]at hr
   obtain⟨rfl,rfl⟩:=hr
   refine⟨[],σ.boxes.set s (some (List.replicate k zero).flatten),fun _=>rfl,fun h=>by simp[IOp.eW]at h,rfl,fun rs vars h=> ?_⟩
   simp only[IOp.reads,List.mem_singleton,forall_eq]at h
   simp only[ae,h,hk,hb]
   rw[if_pos h1]
   rfl
  case bslice d e sz len zero ps=>
   simp only[ae,Option.bind_eq_bind]at hr
   obtain⟨cs,aF,hr⟩:=Option.bind_eq_some_iff.1 hr
   split at hr<;>try(cases hr;done)
   rename_i h1
   simp only[Option.some.injEq,Prod.mk.injEq]at hr
   obtain⟨rfl,rfl⟩:=hr
   refine⟨[2*d],σ.boxes,fun h=>absurd h (by simp[IOp.quiet,IOp.pure,IOp.eW]),fun _=>rfl,rfl,fun rs vars h=> ?_⟩
   simp only[ae,Option.bind_eq_bind]
   rw[fillT_congr (get:=fun a=>(ag.get σ a).cL) ps _ fun x hx=>by simp only[h x hx],aF,Option.bind_some,if_pos h1]
   rfl
  case append d e sz bytes zero kind a b=>
   simp only[ae]at hr
   split at hr<;>try(cases hr;done)
   rename_i g n xs m ys ha cI
   split at hr<;>try(cases hr;done)
   rename_i h1
   have fin:∀(ds:List Nat) (r:T),(∀σ':St,(match(generalizing:=false) g with
    | .own k e'=>if e'=e then some (.sl (.own (8*d) e) (n+m) (xs++ys),(σ'.strip (2*k+1)).strip (2*d))else none
    | .nil=>if n=0 then some (.sl (.own (8*d) e) m ys,σ'.strip (2*d))else none
    | .clip=>if m=0 then(if n=0 then some (.sl (.own (8*d) e) 0 [],σ'.strip (2*d))else none)else some (.sl (.own (8*d) e) (n+m) (xs++ys),σ'.strip (2*d))
    | .l9=>if m=0 then some (.sl .any n xs,σ')else none
    | .any=>if m=0 then some (.sl .any n xs,σ')else none:Option (T×St))=some (r,St.aN ds σ'))→t=r→az=St.aN ds σ→∃ds bx,((IOp.append d e sz bytes zero kind a b).quiet=true∨(IOp.append d e sz bytes zero kind a b).eW=false→ds=[])∧((IOp.append d e sz bytes zero kind a b).eW=true→bx=σ.boxes)∧az=St.aN ds {σ with boxes:=bx}∧
     ∀rs vars,(∀x∈(IOp.append d e sz bytes zero kind a b).reads,x.get ⟨rs,vars,σ.boxes⟩=x.get σ)→ae C ⟨rs,vars,σ.boxes⟩ (IOp.append d e sz bytes zero kind a b)=some (t,St.aN ds ⟨rs,vars,bx⟩):=by
    intro ds r iy ht Xa
    subst ht
    refine⟨ds,σ.boxes,fun h=>absurd h (by simp[IOp.quiet,IOp.pure,IOp.eW]),fun _=>rfl,Xa,fun rs vars h=> ?_⟩
    simp only[IOp.reads,List.mem_cons,List.not_mem_nil,or_false,forall_eq_or_imp,forall_eq]at h
    simp only[ae,h,ha]
    rw[cI]
    simp only
    rw[if_pos h1]
    exact iy ⟨rs,vars,σ.boxes⟩
   cases g with
   |nil=>
    simp only at hr
    split at hr<;>try(cases hr;done)
    rename_i hm
    simp only[Option.some.injEq,Prod.mk.injEq]at hr
    exact fin [2*d] _ (fun σ'=>by simp only[if_pos hm];rfl) hr.1.symm hr.2.symm
   |clip=>
    simp only at hr
    split at hr
    ·rename_i hm
     split at hr<;>try(cases hr;done)
     rename_i hn
     simp only[Option.some.injEq,Prod.mk.injEq]at hr
     exact fin [2*d] _ (fun σ'=>by simp only[if_pos hm,if_pos hn];rfl) hr.1.symm hr.2.symm
    ·rename_i hm
     simp only[Option.some.injEq,Prod.mk.injEq]at hr
     exact fin [2*d] _ (fun σ'=>by simp only[if_neg hm];rfl) hr.1.symm hr.2.symm
   |l9=>
    simp only at hr
    split at hr<;>try(cases hr;done)
    rename_i hm
    simp only[Option.some.injEq,Prod.mk.injEq]at hr
    exact fin [] _ (fun σ'=>by simp only[if_pos hm];rfl) hr.1.symm hr.2.symm
   |any=>
    simp only at hr
    split at hr<;>try(cases hr;done)
    rename_i hm
    simp only[Option.some.injEq,Prod.mk.injEq]at hr
    exact fin [] _ (fun σ'=>by simp only[if_pos hm];rfl) hr.1.symm hr.2.symm
   |own k e'=>
    simp only at hr
    split at hr<;>try(cases hr;done)
    rename_i hm
    simp only[Option.some.injEq,Prod.mk.injEq]at hr
    exact fin [2*k+1,2*d] _ (fun σ'=>by simp only[if_pos hm];rfl) hr.1.symm hr.2.symm
  case clearS sz zero a=>
   simp only[ae]at hr
   split at hr<;>try(cases hr;done)
   rename_i s o n c ha
   split at hr<;>try(cases hr;done)
   rename_i cs hb
   split at hr<;>try(cases hr;done)
   rename_i h1
   simp only[Option.some.injEq,Prod.mk.injEq]at hr
   obtain⟨rfl,rfl⟩:=hr
   refine⟨[],σ.boxes.set s (some (setCells cs o (List.replicate n zero).flatten)),fun _=>rfl,fun h=>by simp[IOp.eW]at h,rfl,fun rs vars h=> ?_⟩
   simp only[IOp.reads,List.mem_singleton,forall_eq]at h
   simp only[ae,hb,h,ha]
   rw[if_pos h1]
   rfl
  case mkMap s=>
   simp only[ae]at hr
   split at hr<;>try(cases hr;done)
   rename_i hb
   split at hr<;>try(cases hr;done)
   rename_i h1
   simp only[Option.some.injEq,Prod.mk.injEq]at hr
   obtain⟨rfl,rfl⟩:=hr
   exact⟨[],σ.boxes.set s (some []),fun _=>rfl,fun h=>by simp[IOp.eW]at h,rfl,fun rs vars h=>by simp only[ae,hb,if_pos h1];rfl⟩
  case mapUpdate k a i x=>
   simp only[ae]at hr
   split at hr<;>try(cases hr;done)
   rename_i s ha
   split at hr<;>try(cases hr;done)
   rename_i cs hb
   obtain⟨b9,hp,hr⟩:=Option.map_eq_some_iff.1 hr
   simp only[Prod.mk.injEq]at hr
   obtain⟨rfl,rfl⟩:=hr
   refine⟨[],σ.boxes.set s (some b9),fun _=>rfl,fun h=>by simp[IOp.eW]at h,rfl,fun rs vars h=> ?_⟩
   simp only[IOp.reads,List.mem_cons,List.not_mem_nil,or_false,forall_eq_or_imp,forall_eq]at h
   simp only[ae,hb,h,ha,hp]
   rfl
  case call d f as=>
   simp only[ae]at hr
   obtain⟨h1,h2⟩:=cW hr
   refine⟨[2*d],σ.boxes,fun h=>absurd h (by simp[IOp.quiet,IOp.pure,IOp.eW]),fun _=>rfl,h1,fun rs vars h=> ?_⟩
   simp only[ae]
   rw[map_congr' (get:=ag.get σ) (as:=as) h]
   exact h2 rs vars
  case callv d f as=>
   simp only[ae]at hr
   split at hr<;>try(cases hr;done)
   rename_i f' first cap hf
   obtain⟨h1,h2⟩:=cW hr
   refine⟨[2*d],σ.boxes,fun h=>absurd h (by simp[IOp.quiet,IOp.pure,IOp.eW]),fun _=>rfl,h1,fun rs vars h=> ?_⟩
   simp only[ae]
   rw[h f (by simp[IOp.reads]),hf,map_congr' (get:=ag.get σ) (as:=as) fun x hx=>h x (by simp[IOp.reads,hx])]
   exact h2 rs vars
structure vG(F:T→T):Prop where
 undef:F .undef= .undef
 v:∀x,F (.v x)= .v x
 inv:∀t x,F t= .v x→t= .v x
theorem Kf:vG id:=⟨rfl,fun _=>rfl,fun _ _ h=>h⟩
theorem CE(d:Nat):vG (T.strip d):=⟨rfl,fun _=>rfl,fun t x h=>BG.1 h⟩
theorem Q4(ds:List Nat):vG (jq ds):=by
 refine⟨?_,fun x=> ?_, ?_⟩
 ·induction ds with
  |nil=>rfl
  |cons d ds ih=>exact ih
 ·induction ds with
  |nil=>rfl
  |cons d ds ih=>exact ih
 ·induction ds with
  |nil=>exact fun t x h=>h
  |cons d ds ih=>exact fun t x h=>BG.1 (ih _ x h)
theorem CF(ρ η:Nat→Option Nat):vG (T.aj ρ η):=by
 refine⟨rfl,fun _=>rfl,fun t x h=> ?_⟩
 cases t with
 |v y=>exact h
 |sl g n cs=>cases g<;>cases h
 |ref s o=>simp only[T.aj]at h;split at h<;>cases h
 |au s o n c=>simp only[T.aj]at h;split at h<;>cases h
 |aQ s=>simp only[T.aj]at h;split at h<;>cases h
 |_=>cases h
def IOp.asks:IOp→List Nat
 | .callnew _ ad _ _=>ad++ad.map (· +1)
 |_=>[]
theorem abu{o:IOp}(h:o.EI=false):o.asks=[]:=by
 cases o<;>first|rfl|(simp[IOp.EI]at h;done)
theorem Xb{F G:T→T}(hF:vG F)(hG:vG G):vG (F∘G):=⟨by simp[hG.undef,hF.undef],fun x=>by simp[hG.v,hF.v],fun t x h=>hG.inv _ _ (hF.inv _ _ h)⟩
theorem zZ{C:FuncId→List T→Option T}{σ az:St}{o:IOp}{t:T}(hr:ae C σ o=some (t,az)):∃(F:T→T) (bx:List (Option (List T))),vG F∧az=⟨σ.rs.map F,σ.vars.map F,bx⟩∧(∀s∈o.asks,σ.ay s=true)∧
  ∀rs vars,(∀x∈o.reads,x.get ⟨rs,vars,σ.boxes⟩=x.get σ)→(∀s∈o.asks,aR s rs=true∧aR s vars=true)→ae C ⟨rs,vars,σ.boxes⟩ o=some (t,⟨rs.map F,vars.map F,bx⟩):=by
 have mk:∀{σ':St},σ'=⟨σ'.rs,σ'.vars,σ'.boxes⟩:=fun {σ'}=>rfl
 have dL:∀{d ad f as},ae.dL C σ d ad f as=some (t,az)→∃(F:T→T) (bx:List (Option (List T))),vG F∧az=⟨σ.rs.map F,σ.vars.map F,bx⟩∧(∀s∈ad++ad.map (· +1),σ.ay s=true)∧
   ∀rs vars,(∀s∈ad++ad.map (· +1),aR s rs=true∧aR s vars=true)→ae.dL C ⟨rs,vars,σ.boxes⟩ d ad f as=some (t,⟨rs.map F,vars.map F,bx⟩):=by
  intro d ad f as hr
  unfold ae.dL at hr
  split at hr<;>try(cases hr;done)
  rename_i Sk
  split at hr<;>try(cases hr;done)
  rename_i r outs hC
  split at hr<;>try(cases hr;done)
  rename_i h1
  simp only[Option.some.injEq,Prod.mk.injEq]at hr
  obtain⟨rfl,rfl⟩:=hr
  have hno:∀s∈ad++ad.map (· +1),σ.ay s=true:=fun s hs=>by
   have h2:=h1.2.1
   simp only[List.all_eq_true,Bool.and_eq_true]at h2
   simp only[List.mem_append,List.mem_map]at hs
   rcases hs with hs|⟨s',hs,rfl⟩
   ·exact(h2 s hs).1.2
   ·exact(h2 s' hs).2
  refine⟨T.strip (2*d),eJ (dC [] ad) (fH d) (outs.map eD) 0 (σ.strip (2*d)).boxes,CE _, ?_,hno,fun rs vars tv=> ?_⟩
  ·simp only[St.strip,aE]
  ·unfold ae.dL
   rw[if_neg Sk,hC]
   simp only
   have agF:∀s∈ad++ad.map (· +1),St.ay s ⟨rs,vars,σ.boxes⟩=true:=fun s hs=>by
    have g1:=hno s hs
    have g2:=tv s hs
    simp only[St.ay,Bool.and_eq_true]at g1⊢
    exact⟨g2,g1.2⟩
   rw[if_pos ⟨h1.1,by
    have h2:=h1.2.1
    simp only[List.all_eq_true,Bool.and_eq_true]at h2⊢
    intro s hs
    exact⟨⟨(h2 s hs).1.1,agF s (by simp[hs])⟩,agF (s+1) (by simp[hs])⟩,h1.2.2⟩]
   simp only[St.strip,aE]
 have ez:∀{d ad f as},ae.ez C σ d ad f as=some (t,az)→∃(F:T→T) (bx:List (Option (List T))),vG F∧az=⟨σ.rs.map F,σ.vars.map F,bx⟩∧
   ∀rs vars,ae.ez C ⟨rs,vars,σ.boxes⟩ d ad f as=some (t,⟨rs.map F,vars.map F,bx⟩):=by
  intro d ad f as hr
  unfold ae.ez at hr
  simp only at hr
  split at hr<;>try(cases hr;done)
  rename_i r outs hC
  split at hr<;>try(cases hr;done)
  rename_i h1
  simp only[Option.some.injEq,Prod.mk.injEq]at hr
  obtain⟨rfl,rfl⟩:=hr
  let ss:=reach σ.boxes 10000 [] (dZ as)
  let fs:=ss.flatMap fun s=>gX ((ai σ.boxes s).getD [])
  refine⟨T.aj (jb ss outs) (gu d fs),eJ (dC ss ad) (fH d) (outs.map eD) 0 (σ.boxes.map (Option.map (ah (jb ss outs) (gu d fs)))),CF _ _, ?_,fun rs vars=> ?_⟩
  ·simp only[bu,ss,fs]
  ·unfold ae.ez
   simp only
   rw[hC]
   simp only
   rw[if_pos h1]
   simp only[bu,ss,fs]
 by_cases hl:o.EI=false
 ·obtain⟨ds,bx,_,_,rfl,he⟩:=oo hl hr
  refine⟨jq ds,(St.aN ds {σ with boxes:=bx}).boxes,Q4 ds, ?_,(fun s hs=>by rw[abu hl]at hs;cases hs),fun rs vars h _=> ?_⟩
  ·have h1:=xa ds {σ with boxes:=bx}
   have h2:=sq ds {σ with boxes:=bx}
   generalize St.aN ds {σ with boxes:=bx}=a at*
   cases a
   simp only at h1 h2
   subst h1 h2
   rfl
  ·rw[he rs vars h]
   have h1:=xa ds ⟨rs,vars,bx⟩
   have h2:=sq ds ⟨rs,vars,bx⟩
   have h3:=ze ds ⟨rs,vars,bx⟩ {σ with boxes:=bx} rfl
   generalize St.aN ds ⟨rs,vars,bx⟩=a at*
   cases a
   simp only at h1 h2 h3
   subst h1 h2
   rw[h3]
 ·cases o<;>try(exact absurd rfl hl)
  case appendB s e sz bytes zero kind a b=>
   simp only[ae]at hr
   split at hr<;>try(cases hr;done)
   ·rename_i g n xs m ys ha cI hb
    split at hr<;>try(cases hr;done)
    rename_i h1
    have fin:∀(F:T→T) (bx:List (Option (List T))),vG F→az=⟨σ.rs.map F,σ.vars.map F,bx⟩→(∀rs vars,(match(generalizing:=false) g with
      | .own k e'=>if e'=e∧0< m then some (T.au s 0 m (m*sz),({St.strip (2*k+1) ⟨rs,vars,σ.boxes⟩with boxes:=(St.strip (2*k+1) ⟨rs,vars,σ.boxes⟩).boxes.set s (some ys)}:St))else none
      | .nil=>some (.au s 0 m (m*sz),{(⟨rs,vars,σ.boxes⟩:St)with boxes:=σ.boxes.set s (some ys)})
      | .clip=>some (.au s 0 m (m*sz),{(⟨rs,vars,σ.boxes⟩:St)with boxes:=σ.boxes.set s (some ys)})
      |_=>none)=some (t,⟨rs.map F,vars.map F,bx⟩))→∃(F:T→T) (bx:List (Option (List T))),vG F∧az=⟨σ.rs.map F,σ.vars.map F,bx⟩∧(∀s∈(IOp.appendB s e sz bytes zero kind a b).asks,σ.ay s=true)∧
      ∀rs vars,(∀x∈(IOp.appendB s e sz bytes zero kind a b).reads,x.get ⟨rs,vars,σ.boxes⟩=x.get σ)→(∀s∈(IOp.appendB s e sz bytes zero kind a b).asks,aR s rs=true∧aR s vars=true)→ae C ⟨rs,vars,σ.boxes⟩ (IOp.appendB s e sz bytes zero kind a b)=some (t,⟨rs.map F,vars.map F,bx⟩):=by
     intro F bx h2 h4 h5
     refine⟨F,bx,h2,h4,(fun s hs=>by simp[IOp.asks]at hs),fun rs vars h _=> ?_⟩
     simp only[IOp.reads,List.mem_cons,List.not_mem_nil,or_false,forall_eq_or_imp,forall_eq]at h
     simp only[ae,h,ha]
     rw[cI,hb]
     simp only
     rw[if_pos h1]
     exact h5 rs vars
    cases g<;>simp only at hr<;>try(cases hr;done)
    ·simp only[Option.some.injEq,Prod.mk.injEq]at hr
     obtain⟨rfl,rfl⟩:=hr
     exact fin id (σ.boxes.set s (some ys)) Kf (by simp) fun rs vars=>by simp
    ·simp only[Option.some.injEq,Prod.mk.injEq]at hr
     obtain⟨rfl,rfl⟩:=hr
     exact fin id (σ.boxes.set s (some ys)) Kf (by simp) fun rs vars=>by simp
    ·rename_i k e'
     split at hr<;>try(cases hr;done)
     rename_i he
     simp only[Option.some.injEq,Prod.mk.injEq]at hr
     obtain⟨rfl,rfl⟩:=hr
     exact fin (T.strip (2*k+1)) ((σ.strip (2*k+1)).boxes.set s (some ys)) (CE _) (by simp only[St.strip,aE]) fun rs vars=>by
      simp only[if_pos he,St.strip,aE]
   ·rename_i s' o' n cn m ys old ha cI hb
    split at hr<;>try(cases hr;done)
    rename_i h1
    simp only[Option.some.injEq,Prod.mk.injEq]at hr
    obtain⟨rfl,rfl⟩:=hr
    refine⟨T.aj (fun x=>if x=s' then none else some x) some,(σ.drop s').boxes.set s (some (ah (fun x=>if x=s' then none else some x) some (((ai σ.boxes s').getD []).take (n*sz))++ys)),CF _ _,by simp only[St.drop,bu],(fun s hs=>by simp[IOp.asks]at hs),fun rs vars h _=> ?_⟩
    simp only[IOp.reads,List.mem_cons,List.not_mem_nil,or_false,forall_eq_or_imp,forall_eq]at h
    simp only[ae,h,ha]
    rw[cI,hb]
    simp only
    rw[if_pos h1]
    simp only[St.drop,bu]
  case thaw d e sz a=>
   simp only[ae]at hr
   split at hr
   ·rename_i s o n c ha
    split at hr<;>try(cases hr;done)
    rename_i h1
    simp only[Option.some.injEq,Prod.mk.injEq]at hr
    obtain⟨rfl,rfl⟩:=hr
    refine⟨T.strip (2*d)∘T.aj (fun x=>if x=s then none else some x) some,((σ.drop s).strip (2*d)).boxes,Xb (CE _) (CF _ _),by simp only[St.drop,St.strip,bu,aE,List.map_map],(fun s hs=>by simp[IOp.asks]at hs),fun rs vars h _=> ?_⟩
    simp only[IOp.reads,List.mem_cons,List.not_mem_nil,or_false,forall_eq_or_imp,forall_eq]at h
    simp only[ae,h,ha]
    rw[if_pos h1]
    simp only[St.drop,St.strip,bu,aE,List.map_map]
   ·rename_i hne
    simp only[Option.some.injEq,Prod.mk.injEq]at hr
    obtain⟨rfl,rfl⟩:=hr
    refine⟨id,σ.boxes,Kf,by simp,(fun s hs=>by simp[IOp.asks]at hs),fun rs vars h _=> ?_⟩
    simp only[IOp.reads,List.mem_cons,List.not_mem_nil,or_false,forall_eq_or_imp,forall_eq]at h
    simp only[ae,h]
    generalize a.get σ=u at hne
    cases u<;>first|(simp;done)|exact absurd rfl (hne _ _ _ _)
  case callnew d ad f as=>
   simp only[ae]at hr
   obtain⟨F,bx,h1,h3,h5,h4⟩:=dL hr
   refine⟨F,bx,h1,h3,h5,fun rs vars h tv=> ?_⟩
   simp only[ae]
   rw[map_congr' (get:=ag.get σ) (as:=as) h]
   exact h4 rs vars tv
  case callio d ad f as=>
   simp only[ae]at hr
   obtain⟨F,bx,h1,h3,h4⟩:=ez hr
   refine⟨F,bx,h1,h3,(fun s hs=>by simp[IOp.asks]at hs),fun rs vars h _=> ?_⟩
   simp only[ae]
   rw[map_congr' (get:=ag.get σ) (as:=as) h]
   exact h4 rs vars
  case callvio d ad f as=>
   simp only[ae]at hr
   split at hr<;>try(cases hr;done)
   rename_i f' first cap hf
   obtain⟨F,bx,h1,h3,h4⟩:=ez hr
   refine⟨F,bx,h1,h3,(fun s hs=>by simp[IOp.asks]at hs),fun rs vars h _=> ?_⟩
   simp only[ae]
   rw[h f (by simp[IOp.reads]),hf,map_congr' (get:=ag.get σ) (as:=as) fun x hx=>h x (by simp[IOp.reads,hx])]
   exact h4 rs vars
end Go.Vi
end
section
namespace Go.Vi
open Go Go.RowKit
theorem mapM_mono{α γ:Type}{f g:α→Option γ}(h:∀x y,f x=some y→g x=some y):∀(xs:List α) (ys:List γ),xs.mapM f=some ys→xs.mapM g=some ys
 | [],ys,hh=>by simpa using hh
 |x::xs,ys,hh=>by
  simp only[List.mapM_cons,Option.bind_eq_bind,Option.pure_def]at hh⊢
  obtain⟨y,h1,hh⟩:=Option.bind_eq_some_iff.1 hh
  obtain⟨Lp,h2,hh⟩:=Option.bind_eq_some_iff.1 hh
  rw[h x y h1,Option.bind_some,mapM_mono h xs Lp h2]
  exact hh
theorem EJ{bx:List (Option (List T))}{s s':Nat}{v:Option (List T)}{cs:List T}(hs:bx[s]? =some none)(h:bx[s']? =some (some cs)):(bx.set s v)[s']? =some (some cs):=by
 have:s≠s':=fun he=>by subst he;rw[hs]at h;cases h
 rw[List.getElem?_set,if_neg this]
 exact h
theorem Xc{bx:List (Option (List T))}{s:Nat}{v:Option (List T)}(hs:bx[s]? =some none):∀(k:Nat) (t u:T),close bx k t=some u→close (bx.set s v) k t=some u:=by
 intro k
 induction k with
 |zero=>intro t u h;simp[close]at h
 |succ k ih=>
  intro t u h
  cases t with
  |sl g n cs=>cases g<;>exact h
  |ref s' off=>
   simp only[close]at h⊢
   split at h<;>try(cases h;done)
   rename_i cs aF
   rw[EJ hs aF]
   obtain⟨b9,h1,rfl⟩:=Option.map_eq_some_iff.1 h
   simp only[mapM_mono ih cs b9 h1,Option.map_some]
  |au s' off n c=>
   simp only[close]at h⊢
   split at h
   ·rename_i h0;rw[if_pos h0];exact h
   rename_i h0
   rw[if_neg h0]
   split at h<;>try(cases h;done)
   rename_i cs aF
   rw[EJ hs aF]
   obtain⟨b9,h1,rfl⟩:=Option.map_eq_some_iff.1 h
   simp only[mapM_mono ih _ b9 h1,Option.map_some]
  |agg ts=>
   simp only[close]at h⊢
   obtain⟨b9,h1,rfl⟩:=Option.map_eq_some_iff.1 h
   simp only[mapM_mono ih ts b9 h1,Option.map_some]
  |al ts=>
   simp only[close]at h⊢
   obtain⟨b9,h1,rfl⟩:=Option.map_eq_some_iff.1 h
   simp only[mapM_mono ih ts b9 h1,Option.map_some]
  |bq f a b=>
   simp only[close,Option.bind_eq_bind,Option.pure_def]at h⊢
   obtain⟨a',h1,h⟩:=Option.bind_eq_some_iff.1 h
   obtain⟨b',h2,h⟩:=Option.bind_eq_some_iff.1 h
   rw[mapM_mono ih a a' h1,Option.bind_some,mapM_mono ih b b' h2]
   exact h
  |_=>exact h
theorem oH{γ:Type}{f g:T→Option γ}{d:Nat}(h:∀t,f (t.strip d)=g t):∀ts:List T,(stripL d ts).mapM f=ts.mapM g
 | []=>rfl
 |t::ts=>by simp only[stripL,List.mapM_cons,h,oH h ts]
theorem Q5(d:Nat)(bx:List (Option (List T))):∀(k:Nat) (t:T),close (cV d bx) k (t.strip d)=close bx k t:=by
 intro k
 induction k with
 |zero=>intro t;rfl
 |succ k ih=>
  intro t
  cases t with
  |sl g n cs=>
   cases g<;>rfl
  |ref s off=>
   simp only[T.strip,close,cV,List.getElem?_map]
   cases bx[s]? with
   |none=>rfl
   |some ob=>
    cases ob with
    |none=>rfl
    |some cs=>
     simp only[Option.map_some]
     have:=oH (f:=close (cV d bx) k) (g:=close bx k) (d:=d) ih cs
     simp only[cV]at this
     rw[this]
  |au s off n c=>
   simp only[T.strip,close,cV,List.getElem?_map]
   split
   ·rfl
   cases bx[s]? with
   |none=>rfl
   |some ob=>
    cases ob with
    |none=>rfl
    |some cs=>
     simp only[Option.map_some]
     have:=oH (f:=close (cV d bx) k) (g:=close bx k) (d:=d) ih ((cs.drop off).take c)
     simp only[cV]at this
     rw[←this]
     simp only[aE,List.map_take,List.map_drop]
  |agg ts=>simp only[T.strip,close,oH ih]
  |al ts=>simp only[T.strip,close,oH ih]
  |bq f a b=>simp only[T.strip,close,oH ih]
  |_=>rfl
mutual
theorem zg(d:Nat):∀t:T,(t.strip d).aU=t.aU
 | .undef=>rfl
 | .v _=>rfl
 | .sl g n cs=>by cases g<;>rfl
 | .ptr ..=>rfl
 | .ref ..=>rfl
 | .au ..=>rfl
 | .aQ ..=>rfl
 | .agg ts=>by simp only[T.strip,T.aU,mw d ts]
 | .al ts=>by simp only[T.strip,T.aU,mw d ts]
 | .bq f a b=>by simp only[T.strip,T.aU,mw d a,mw d b]
theorem mw(d:Nat):∀ts:List T,aZ (stripL d ts)=aZ ts
 | []=>rfl
 |t::ts=>by simp only[stripL,aZ,zg d t,mw d ts]
end
mutual
theorem qY(d:Nat):∀t:T,(t.strip d).cL=t.cL
 | .undef=>rfl
 | .v _=>rfl
 | .sl g n cs=>by
  cases g<;>rfl
 | .ptr ..=>rfl
 | .ref ..=>rfl
 | .au ..=>rfl
 | .aQ ..=>rfl
 | .agg ts=>by simp only[T.strip,T.cL,sr d ts]
 | .al ts=>by simp only[T.strip,T.cL,sr d ts]
 | .bq f a b=>by simp only[T.strip,T.cL,sr d a,sr d b]
theorem sr(d:Nat):∀ts:List T,jx (stripL d ts)=jx ts
 | []=>rfl
 |t::ts=>by simp only[stripL,jx,qY d t,sr d ts]
end
theorem GO(d:Nat)(t:T):(t.strip d).fG=t.fG:=by
 cases t with
 |sl g n cs=>
  cases g with
  |own k e=>simp only[T.strip];cases hit d k<;>rfl
  |_=>rfl
 |agg ts=>exact qY d (.agg ts)
 |al ts=>exact qY d (.al ts)
 |bq f a b=>exact qY d (.bq f a b)
 |_=>rfl
theorem FT(d k:Nat):hit (2*d) k=(k / 8==d):=by
 unfold hit
 rw[if_pos (by omega),show 2*d / 2=d by omega]
mutual
theorem EK{d d':Nat}(h:d≠d'):∀t:T,(t.import d).strip (2*d')=t.import d
 | .undef=>rfl
 | .v _=>rfl
 | .sl g n cs=>by
  cases g<;>try rfl
  rename_i k e
  simp only[T.import]
  by_cases hk:k< 8
  ·rw[if_pos hk]
   simp only[T.strip]
   rw[FT,if_neg (by simp;omega)]
  ·rw[if_neg hk];rfl
 | .ptr ..=>rfl
 | .ref ..=>rfl
 | .au ..=>rfl
 | .aQ ..=>rfl
 | .agg ts=>by simp only[T.import,T.strip,o5 h ts]
 | .al ts=>by simp only[T.import,T.strip,o5 h ts]
 | .bq f a b=>by simp only[T.import,T.strip,o5 h a,o5 h b]
theorem o5{d d':Nat}(h:d≠d'):∀ts:List T,stripL (2*d') (dz d ts)=dz d ts
 | []=>rfl
 |t::ts=>by simp only[dz,stripL,EK h t,o5 h ts]
end
theorem tS(d k:Nat)(e:TypeId)(n:Nat)(cs:List T):T.strip d (.sl (.own k e) n cs)= .sl (if hit d k then .any else .own k e) n cs:=rfl
theorem EL(d n:Nat)(cs:List T):T.strip d (.sl .any n cs)= .sl .any n cs:=rfl
theorem Kg(d d' k:Nat)(e:TypeId)(n:Nat)(cs:List T):T.strip d' (T.strip d (.sl (.own k e) n cs))=T.strip d (T.strip d' (.sl (.own k e) n cs)):=by
 rw[tS,tS]
 by_cases h:hit d k=true
 ·rw[if_pos h,EL]
  by_cases h':hit d' k=true
  ·rw[if_pos h',EL]
  ·rw[if_neg h',tS,if_pos h]
 ·rw[if_neg h,tS]
  by_cases h':hit d' k=true
  ·rw[if_pos h',EL]
  ·rw[if_neg h',tS,if_neg h]
mutual
theorem Ub(d d':Nat):∀t:T,(t.strip d).strip d'=(t.strip d').strip d
 | .undef=>rfl
 | .v _=>rfl
 | .sl g n cs=>by
  cases g<;>first|rfl|exact Kg d d' _ _ n cs
 | .ptr ..=>rfl
 | .ref ..=>rfl
 | .au ..=>rfl
 | .aQ ..=>rfl
 | .agg ts=>by simp only[T.strip,ja d d' ts]
 | .al ts=>by simp only[T.strip,ja d d' ts]
 | .bq f a b=>by simp only[T.strip,ja d d' a,ja d d' b]
theorem ja(d d':Nat):∀ts:List T,stripL d' (stripL d ts)=stripL d (stripL d' ts)
 | []=>rfl
 |t::ts=>by simp only[stripL,Ub d d' t,ja d d' ts]
end
theorem xL(d d':Nat)(σ:St):(σ.strip d).strip d'=(σ.strip d').strip d:=by
 simp only[St.strip,ja d d',List.map_map,St.mk.injEq,true_and]
 refine List.map_congr_left fun o _=> ?_
 cases o with
 |none=>rfl
 |some cs=>simp[ja d d' cs]
def IOp.gm:IOp→Option Nat
 | .call d _ _| .callv d _ _| .bslice d _ _ _ _ _=>some d
 |_=>none
theorem GP{C:FuncId→List T→Option T}{σ:St}{d d':Nat}{f:FuncId}{as:List T}:ae.cW C (σ.strip d') d f (stripL d' as)=(ae.cW C σ d f as).map fun p=>(p.1,p.2.strip d'):=by
 have h1:(stripL d' as).mapM (close (σ.strip d').boxes 6)=as.mapM (close σ.boxes 6):=oH (Q5 d' σ.boxes 6) as
 simp only[ae.cW,h1,mw,Option.bind_eq_bind]
 cases as.mapM (close σ.boxes 6)with
 |none=>rfl
 |some cs=>
  simp only[Option.bind_some]
  cases ue C f cs with
  |none=>rfl
  |some r=>
   simp only[Option.bind_some]
   split
   ·rfl
   ·simp only[Option.map_some,xL d' (2*d)]
theorem Kh(d:Nat)(t:T):eQ (t.strip d)=(eQ t).map fun p=>(p.1,stripL d p.2.1,stripL d p.2.2):=by
 cases t<;>try rfl
 ·rename_i x
  simp only[T.strip]
  cases x<;>try rfl
  rename_i fn a b
  cases fn<;>try rfl
  simp only[eQ]
  split<;>rfl
 ·rename_i g n cs
  cases g<;>rfl
 ·rename_i fn a b
  cases fn<;>rfl
theorem LF{C:FuncId→List T→Option T}{σ:St}{o:IOp}{d d':Nat}(hf:o.gm=some d)(hz:kZ o=true)(hc:jI o=true):
  ae C (σ.strip d') o=(ae C σ o).map fun p=>(p.1,p.2.strip d'):=by
 simp only[jI,List.all_eq_true]at hc
 have eV:∀x∈o.reads,x.get (σ.strip d')=(x.get σ).strip d':=fun x hx=>tQ (hc x hx)
 cases o<;>simp only[IOp.gm,Option.some.injEq]at hf<;>try(cases hf;done)
 ·subst hf
  rename_i e sz len zero ps
  simp only[ae,Option.bind_eq_bind]
  have h1:df (fun a=>(ag.get (σ.strip d') a).cL) (List.replicate len zero).flatten ps=df (fun a=>(ag.get σ a).cL) (List.replicate len zero).flatten ps:=
   fillT_congr ps _ fun x hx=>by simp only[eV x hx,qY]
  rw[h1]
  cases df (fun a=>(ag.get σ a).cL) (List.replicate len zero).flatten ps with
  |none=>rfl
  |some cs=>
   simp only[Option.bind_some]
   split
   ·simp only[Option.map_some,xL d' _]
   ·rfl
 ·subst hf
  rename_i f as
  simp only[ae]
  rw[show as.map (ag.get (σ.strip d'))=stripL d' (as.map (ag.get σ)) by rw[aE,List.map_map];exact List.map_congr_left eV]
  exact GP
 ·subst hf
  rename_i f as
  simp only[ae]
  rw[eV f (by simp[IOp.reads]),Kh]
  cases eQ (f.get σ)with
  |none=>rfl
  |some p=>
   obtain⟨f',first,cap⟩:=p
   simp only[Option.map_some]
   rw[show stripL d' first++as.map (ag.get (σ.strip d'))++stripL d' cap=stripL d' (first++as.map (ag.get σ)++cap) by
    simp only[aE,List.map_append,List.map_map]
    congr 2
    exact List.map_congr_left fun x hx=>eV x (by simp[IOp.reads,hx])]
   exact GP
theorem tT{C:FuncId→List T→Option T}{σ σ':St}{o:IOp}{d:Nat}{t:T}(hf:o.gm=some d)(h:ae C σ o=some (t,σ')):σ'=σ.strip (2*d)∧∀d',d≠d'→t.strip (2*d')=t:=by
 have cW:∀{f as},ae.cW C σ d f as=some (t,σ')→σ'=σ.strip (2*d)∧∀d',d≠d'→t.strip (2*d')=t:=by
  intro f as hr
  simp only[ae.cW,Option.bind_eq_bind]at hr
  obtain⟨cs,aF,hr⟩:=Option.bind_eq_some_iff.1 hr
  obtain⟨r,xS,hr⟩:=Option.bind_eq_some_iff.1 hr
  split at hr<;>try(cases hr;done)
  simp only[Option.some.injEq,Prod.mk.injEq]at hr
  obtain⟨rfl,rfl⟩:=hr
  exact⟨rfl,fun d' hd=>EK hd r⟩
 cases o<;>simp only[IOp.gm,Option.some.injEq]at hf<;>try(cases hf;done)
 ·subst hf
  simp only[ae,Option.bind_eq_bind]at h
  obtain⟨cs,aF,h⟩:=Option.bind_eq_some_iff.1 h
  split at h<;>try(cases h;done)
  simp only[Option.some.injEq,Prod.mk.injEq]at h
  obtain⟨rfl,rfl⟩:=h
  refine⟨rfl,fun d' hd=> ?_⟩
  split
  ·rfl
  ·simp only[T.strip]
   rw[FT,if_neg (by simp;omega)]
 ·subst hf
  simp only[ae]at h
  exact cW h
 ·subst hf
  simp only[ae]at h
  split at h<;>try(cases h;done)
  exact cW h
def IOp.CG:IOp→Bool
 | .alloc ..| .box ..=>true
 |_=>false
def IOp.looksOnly:IOp→Bool
 | .load ..| .call ..| .callv ..=>true
 |_=>false
theorem Xd{C:FuncId→List T→Option T}{σ:St}{o:IOp}{d:Nat}(hn:o.CG=true)(hz:kZ o=true)(hc:jI o=true):
  ae C (σ.strip d) o=(ae C σ o).map fun p=>(p.1,p.2.strip d):=by
 simp only[jI,List.all_eq_true]at hc
 cases o<;>try(simp[IOp.CG]at hn;done)
 ·rename_i s zero
  simp only[ae,St.strip,List.getElem?_map]
  cases σ.boxes[s]? with
  |none=>rfl
  |some ob=>
   cases ob with
   |some cs=>rfl
   |none=>
    simp only[Option.map_some,Option.map_none]
    split
    ·simp only[Option.map_some,St.strip,List.map_set]
     rw[kO d zero (by simpa [kZ]using hz)]
    ·rfl
 ·rename_i s a
  have hg:a.get (σ.strip d)=(a.get σ).strip d:=tQ (hc a (by simp[IOp.reads]))
  simp only[ae]
  rw[hg,DI]
  simp only[St.strip,List.getElem?_map]
  cases σ.boxes[s]? with
  |none=>rfl
  |some ob=>
   cases ob with
   |some cs=>rfl
   |none=>
    cases cellsOf (a.get σ)with
    |none=>rfl
    |some cs=>
     simp only[Option.map_some,Option.map_none,ID]
     split
     ·simp only[Option.map_some,St.strip,List.map_set]
     ·rfl
theorem IE{C:FuncId→List T→Option T}{o:IOp}(hn:o.CG=true)(hz:kZ o=true)(hc:jI o=true):∀(ds:List Nat) (σ:St),
  ae C (σ.aN ds) o=(ae C σ o).map fun p=>(p.1,p.2.aN ds)
 | [],σ=>by simp[St.aN]
 |d::ds,σ=>by
  simp only[St.aN]
  rw[IE hn hz hc ds,Xd hn hz hc]
  simp only[Option.map_map]
  rfl
theorem Xe{C:FuncId→List T→Option T}{σ σ':St}{o:IOp}{t:T}(hn:o.CG=true)(h:ae C σ o=some (t,σ')):(∃s v,σ.boxes[s]? =some none∧σ'={σ with boxes:=σ.boxes.set s v})∧∀ds,jq ds t=t:=by
 have hs:∀(s:Nat) (ds:List Nat),jq ds (.ref s 0)= .ref s 0:=fun s ds=>by
  induction ds with
  |nil=>rfl
  |cons d ds ih=>exact ih
 cases o<;>try(simp[IOp.CG]at hn;done)
 ·rename_i s zero
  simp only[ae]at h
  split at h<;>try(cases h;done)
  rename_i hb
  split at h<;>try(cases h;done)
  simp only[Option.some.injEq,Prod.mk.injEq]at h
  obtain⟨rfl,rfl⟩:=h
  exact⟨⟨s,_,hb,rfl⟩,hs s⟩
 ·rename_i s a
  simp only[ae]at h
  split at h<;>try(cases h;done)
  rename_i hb _
  split at h<;>try(cases h;done)
  simp only[Option.some.injEq,Prod.mk.injEq]at h
  obtain⟨rfl,rfl⟩:=h
  exact⟨⟨s,_,hb,rfl⟩,hs s⟩
theorem Oi{C:FuncId→List T→Option T}{o:IOp}(ho:o.looksOnly=true):∃ds,∀(az:St) (t1:T) (fK:St),ae C az o=some (t1,fK)→fK=St.aN ds az:=by
 have IF:∀{az fK:St} {t1 d f as},ae.cW C az d f as=some (t1,fK)→fK=St.aN [2*d] az:=by
  intro az fK t1 d f as hr
  simp only[ae.cW,Option.bind_eq_bind]at hr
  obtain⟨cs,aF,hr⟩:=Option.bind_eq_some_iff.1 hr
  obtain⟨r,xS,hr⟩:=Option.bind_eq_some_iff.1 hr
  split at hr<;>try(cases hr;done)
  simp only[Option.some.injEq,Prod.mk.injEq]at hr
  exact hr.2.symm
 cases o<;>try(simp[IOp.looksOnly]at ho;done)
 ·exact⟨[],fun az t1 fK h=>uS rfl h⟩
 ·rename_i d f as
  exact⟨[2*d],fun az t1 fK h=>IF (by simpa only[ae]using h)⟩
 ·rename_i d f as
  refine⟨[2*d],fun az t1 fK h=> ?_⟩
  simp only[ae]at h
  split at h<;>try(cases h;done)
  exact IF h
theorem Xf{C:FuncId→List T→Option T}{σ σ':St}{o:IOp}{t:T}{s:Nat}{v:Option (List T)}(ho:o.looksOnly=true)(hs:σ.boxes[s]? =some none)(h:ae C σ o=some (t,σ')):
  ∃ds,(∀az:St,∀t1 fK,ae C az o=some (t1,fK)→fK=St.aN ds az)∧ae C {σ with boxes:=σ.boxes.set s v} o=some (t,St.aN ds {σ with boxes:=σ.boxes.set s v}):=by
 have get_eq:∀x:ag,x.get {σ with boxes:=σ.boxes.set s v}=x.get σ:=fun x=>by cases x<;>rfl
 have IF:∀{az fK:St} {t1 d f as},ae.cW C az d f as=some (t1,fK)→fK=St.aN [2*d] az:=by
  intro az fK t1 d f as hr
  simp only[ae.cW,Option.bind_eq_bind]at hr
  obtain⟨cs,aF,hr⟩:=Option.bind_eq_some_iff.1 hr
  obtain⟨r,xS,hr⟩:=Option.bind_eq_some_iff.1 hr
  split at hr<;>try(cases hr;done)
  simp only[Option.some.injEq,Prod.mk.injEq]at hr
  exact hr.2.symm
 have cW:∀{d f as},ae.cW C σ d f as=some (t,σ')→ae.cW C {σ with boxes:=σ.boxes.set s v} d f as=some (t,St.aN [2*d] {σ with boxes:=σ.boxes.set s v}):=by
  intro d f as hr
  simp only[ae.cW,Option.bind_eq_bind]at hr
  obtain⟨cs,aF,hr⟩:=Option.bind_eq_some_iff.1 hr
  obtain⟨r,xS,hr⟩:=Option.bind_eq_some_iff.1 hr
  split at hr<;>try(cases hr;done)
  rename_i lS
  simp only[Option.some.injEq,Prod.mk.injEq]at hr
  obtain⟨rfl,rfl⟩:=hr
  have:=mapM_mono (Xc (v:=v) hs 6) as cs aF
  simp only[ae.cW,Option.bind_eq_bind,this,Option.bind_some,xS,if_neg lS]
  rfl
 cases o<;>try(simp[IOp.looksOnly]at ho;done)
 ·rename_i g n a
  refine⟨[],fun az t1 fK h=>uS rfl h, ?_⟩
  simp only[ae,get_eq]at h⊢
  split at h
  ·rename_i s' off ha
   split at h<;>try(cases h;done)
   rename_i cs aF
   rw[EJ hs aF]
   obtain⟨x,hx,tR⟩:=Option.map_eq_some_iff.1 h
   simp only[Prod.mk.injEq]at tR
   obtain⟨rfl,_⟩:=tR
   simp only[hx,Option.map_some];rfl
  ·obtain⟨x,hx,tR⟩:=Option.map_eq_some_iff.1 h
   simp only[Prod.mk.injEq]at tR
   obtain⟨rfl,_⟩:=tR
   simp only[hx,Option.map_some];rfl
  ·cases h
 ·rename_i d f as
  refine⟨[2*d],fun az t1 fK h=>IF (by simpa only[ae]using h), ?_⟩
  simp only[ae]at h⊢
  rw[show as.map (ag.get {σ with boxes:=σ.boxes.set s v})=as.map (ag.get σ)from List.map_congr_left fun x _=>get_eq x]
  exact cW h
 ·rename_i d f as
  refine⟨[2*d],fun az t1 fK h=> ?_, ?_⟩
  ·simp only[ae]at h
   split at h<;>try(cases h;done)
   exact IF h
  ·simp only[ae,get_eq]at h⊢
   split at h<;>try(cases h;done)
   rw[show as.map (ag.get {σ with boxes:=σ.boxes.set s v})=as.map (ag.get σ)from List.map_congr_left fun x _=>get_eq x]
   exact cW h
end Go.Vi
end
section
namespace Go.Vi
open Go Go.RowKit
abbrev bQ:=Nat×Option (Nat×Bool)×IOp
def bW(C:FuncId→List T→Option T)(σ:St)(e:bQ):Option St:=
 (bU σ.rs e.2.1).bind fun go=>
  if go then(ae C σ e.2.2).bind fun p=>some {p.2 with rs:=p.2.rs.set e.1 p.1}
  else some {σ with rs:=σ.rs.set e.1 T.bJ}
def tg(C:FuncId→List T→Option T):List bQ→St→Option St
 | [],σ=>some σ
 |e::es,σ=>(bW C σ e).bind (tg C es)
def bQ.looks(e:bQ)(p:Nat):Bool:=e.2.2.reads.any (ag.W9 p)||(match e.2.1 with|some (j,_)=>j==p|none=>false)
def FU(o:IOp):Bool:=o.quiet&&kZ o&&jI o
def Xg(o1 o2:IOp):Bool:=(FU o1&&(o1.pure||o2.eW))||(FU o2&&(o2.pure||o1.eW))||
 (o1.looksOnly&&(o2.CG&&kZ o2&&jI o2))||
 (match o1.gm,o2.gm with|some d1,some d2=>d1 !=d2&&(kZ o1&&jI o1)&&(kZ o2&&jI o2)|_,_=>false)
def FV(e1 e2:bQ):Bool:=e1.1 !=e2.1&& !(e2.looks e1.1)&& !(e1.looks e2.1)&&(!e1.2.2.EI&& !e2.2.2.EI)&&Xg e1.2.2 e2.2.2
theorem dP{rs:List T}{g:Option (Nat×Bool)}{p:Nat}{t:T}(h:∀j b,g=some (j,b)→j≠p):bU (rs.set p t) g=bU rs g:=by
 cases g with
 |none=>rfl
 |some q=>
  obtain⟨j,b⟩:=q
  simp only[bU,List.getElem?_set,if_neg (fun h'=>h j b rfl h'.symm:¬p=j)]
theorem th{rs:List T}{g:Option (Nat×Bool)}(d:Nat):bU (stripL d rs) g=bU rs g:=by
 cases g with
 |none=>rfl
 |some q=>
  obtain⟨j,b⟩:=q
  simp only[bU,aE,List.getElem?_map]
  cases rs[j]? with
  |none=>rfl
  |some t=>
   simp only[Option.map_some]
   cases t<;>try rfl
   rename_i g n cs
   cases g<;>rfl
theorem nO:∀(ds:List Nat) {σ:St} {g:Option (Nat×Bool)},bU (σ.aN ds).rs g=bU σ.rs g
 | [],σ,g=>rfl
 |d::ds,σ,g=>by
  simp only[St.aN]
  rw[nO ds]
  exact th d
theorem x9{e:bQ}{p:Nat}(h:e.looks p=false):(∀x∈e.2.2.reads,x.W9 p=false)∧∀j b,e.2.1=some (j,b)→j≠p:=by
 simp only[bQ.looks,Bool.or_eq_false_iff,List.any_eq_false,Bool.not_eq_true]at h
 refine⟨h.1,fun j b hg hj=> ?_⟩
 have:=h.2
 rw[hg]at this
 simp[hj]at this
theorem xb{C:FuncId→List T→Option T}{σ:St}{o:IOp}{t:T}{ds:List Nat}{bx:List (Option (List T))}
  (h:∀rs vars,(∀x∈o.reads,x.get ⟨rs,vars,σ.boxes⟩=x.get σ)→ae C ⟨rs,vars,σ.boxes⟩ o=some (t,St.aN ds ⟨rs,vars,bx⟩)) {p:Nat} (hp:∀x∈o.reads,x.W9 p=false) (u:T):
  ae C {σ with rs:=σ.rs.set p u} o=some (t,St.aN ds {σ with rs:=σ.rs.set p u,boxes:=bx}):=
 h (σ.rs.set p u) σ.vars fun x hx=>vF (hp x hx)
theorem ft{rs:List T}{p q:Nat}{t u:T}(h:p≠q):(rs.set p t).set q u=(rs.set q u).set p t:=List.set_comm _ _ h
theorem abv{C:FuncId→List T→Option T}{σ az fK:St}{e1 e2:bQ}(hs:FV e1 e2=true)(h1:bW C σ e1=some az)(h2:bW C az e2=some fK):
  ∃EN,bW C σ e2=some EN∧bW C EN e1=some fK:=by
 obtain⟨p1,g1,o1⟩:=e1
 obtain⟨p2,g2,o2⟩:=e2
 simp only[FV,Bool.and_eq_true,bne_iff_ne,ne_eq,Bool.not_eq_true']at hs
 obtain⟨⟨⟨⟨hp,nx⟩,fg⟩,Oj,Ol⟩,hc⟩:=hs
 obtain⟨dN,uL⟩:=x9 nx
 obtain⟨fq,gA⟩:=x9 fg
 simp only at hp fq dN gA uL hc Oj Ol
 have vu:¬p2=p1:=fun h=>hp h.symm
 simp only[bW]at h1 h2
 obtain⟨go1,vw,h1⟩:=Option.bind_eq_some_iff.1 h1
 obtain⟨go2,jN,h2⟩:=Option.bind_eq_some_iff.1 h2
 cases go1 with
 |false=>
  simp only[Bool.false_eq_true,if_false,Option.some.injEq]at h1
  subst h1
  rw[dP uL]at jN
  cases go2 with
  |false=>
   simp only[Bool.false_eq_true,if_false,Option.some.injEq]at h2
   subst h2
   refine⟨{σ with rs:=σ.rs.set p2 T.bJ},by simp[bW,jN], ?_⟩
   simp only[bW,dP gA,vw,Option.bind_some,Bool.false_eq_true,if_false,ft hp]
  |true=>
   simp only[if_true]at h2
   obtain⟨⟨t2,w9⟩,h3,h2⟩:=Option.bind_eq_some_iff.1 h2
   simp only[Option.some.injEq]at h2
   subst h2
   obtain⟨DK,b2,_,_,rfl,lT⟩:=oo Ol h3
   have h4:ae C σ o2=some (t2,St.aN DK {σ with boxes:=b2}):=lT σ.rs σ.vars fun x hx=>(vF (dN x hx)).symm
   refine⟨_,by simp only[bW,jN,Option.bind_some,if_true,h4];rfl, ?_⟩
   simp only[bW]
   rw[dP gA,nO]
   simp only[vw,Option.bind_some,Bool.false_eq_true,if_false,Option.some.injEq]
   have:=mV DK {σ with boxes:=b2} p1 T.bJ
   simp only[uR]at this
   rw[this]
   simp only[ft hp]
 |true=>
  simp only[if_true]at h1
  obtain⟨⟨t1,w9⟩,h3,h1⟩:=Option.bind_eq_some_iff.1 h1
  simp only[Option.some.injEq]at h1
  subst h1
  obtain⟨DL,b1,hq1,mc,rfl,Sj⟩:=oo Oj h3
  simp only at jN h2
  rw[dP uL,nO]at jN
  simp only at jN
  cases go2 with
  |false=>
   simp only[Bool.false_eq_true,if_false,Option.some.injEq]at h2
   subst h2
   refine⟨{σ with rs:=σ.rs.set p2 T.bJ},by simp[bW,jN], ?_⟩
   have h4:=xb Sj fq T.bJ
   simp only[bW,dP gA,vw,Option.bind_some,if_true,h4,Option.some.injEq]
   have:=mV DL {σ with boxes:=b1} p2 T.bJ
   simp only[uR]at this
   rw[this]
   simp only[ft vu]
  |true=>
   simp only[if_true]at h2
   obtain⟨⟨t2,σ4⟩,h4,h2⟩:=Option.bind_eq_some_iff.1 h2
   simp only[Option.some.injEq]at h2
   subst h2
   obtain⟨DK,b2,R1,tO,rfl,lT⟩:=oo Ol h4
   simp only at lT tO h4
   have h5:ae C (St.aN DL {σ with boxes:=b1}) o2=some (t2,St.aN DK {St.aN DL {σ with boxes:=b1}with boxes:=b2}):=
    lT (St.aN DL {σ with boxes:=b1}).rs (St.aN DL {σ with boxes:=b1}).vars fun x hx=>(vF (dN x hx)).symm
   simp only[Xg,Bool.or_eq_true,Bool.and_eq_true]at hc
   rcases hc with((⟨Xh,DM⟩|⟨Xh,DM⟩)|⟨yR,⟨xI,hz⟩,LG⟩)|Uc
   ·
    simp only[FU,Bool.and_eq_true]at Xh
    obtain⟨⟨hq,hz⟩,LG⟩:=Xh
    obtain rfl:=hq1 (.inl hq)
    have hb:b1=σ.boxes:=mc (by cases o1<;>first|rfl|simp[IOp.quiet,IOp.pure]at hq)
    subst hb
    simp only[St.aN]at*
    have h6:ae C σ o2=some (t2,St.aN DK {σ with boxes:=b2}):=h5
    refine⟨_,by simp only[bW,jN,Option.bind_some,if_true,h6];rfl, ?_⟩
    have h7:ae C {σ with boxes:=b2} o1=some (t1,{σ with boxes:=b2}):=by
     rcases DM with hpp|GQ
     ·rw[lA hq]at h3⊢
      obtain⟨x,hx,tR⟩:=Option.map_eq_some_iff.1 h3
      simp only[Prod.mk.injEq]at tR
      obtain⟨rfl,_⟩:=tR
      have:quietVal (ag.get {σ with boxes:=b2}) b2 o1=quietVal (ag.get σ) σ.boxes o1:=by
       rw[CD (bx:=b2) (bx':=σ.boxes) hpp]
       exact nN fun x _=>by cases x<;>rfl
      simp only[this,hx,Option.map_some]
     ·have:=tO GQ
      subst this
      exact h3
    have h8:ae C (St.aN DK {σ with boxes:=b2}) o1=some (jq DK t1,St.aN DK {σ with boxes:=b2}):=by
     rw[zf hq hz LG,h7];rfl
    obtain⟨ds,bx,yX,n9,hst,he⟩:=oo Oj h8
    obtain rfl:=yX (.inl hq)
    have am2:=n9 (by cases o1<;>first|rfl|simp[IOp.quiet,IOp.pure]at hq)
    subst am2
    have h9:=xb he fq t2
    simp only[bW]
    rw[dP gA,nO]
    simp only[vw,Option.bind_some,if_true]
    simp only[St.aN]at h9
    rw[h9]
    simp only[Option.bind_some,Option.some.injEq]
    have:=mV DK {σ with boxes:=b2} p1 t1
    simp only at this
    rw[this]
    simp only[ft hp]
   ·
    simp only[FU,Bool.and_eq_true]at Xh
    obtain⟨⟨hq,hz⟩,LG⟩:=Xh
    obtain rfl:=R1 (.inl hq)
    have fS:o2.eW=true:=by cases o2<;>first|rfl|simp[IOp.quiet,IOp.pure]at hq
    have hb:=tO fS
    subst hb
    simp only[St.aN]at*
    have h6:∃rr,ae C {σ with boxes:=b1} o2=some (rr,{σ with boxes:=b1})∧t2=jq DL rr:=by
     have LH:ae C (St.aN DL {σ with boxes:=b1}) o2=some (t2,St.aN DL {σ with boxes:=b1}):=h5
     rw[zf hq hz LG]at LH
     obtain⟨⟨x,σx⟩,hx,tR⟩:=Option.map_eq_some_iff.1 LH
     have:=uS hq hx
     subst this
     simp only[Prod.mk.injEq]at tR
     exact⟨x,hx,tR.1.symm⟩
    obtain⟨rr,h6,rfl⟩:=h6
    have h7:ae C σ o2=some (rr,σ):=by
     rcases DM with hpp|GQ
     ·rw[lA hq]at h6⊢
      obtain⟨x,hx,tR⟩:=Option.map_eq_some_iff.1 h6
      simp only[Prod.mk.injEq]at tR
      obtain⟨rfl,_⟩:=tR
      have:quietVal (ag.get σ) σ.boxes o2=quietVal (ag.get {σ with boxes:=b1}) b1 o2:=by
       rw[CD (bx:=b1) (bx':=σ.boxes) hpp]
       exact nN fun x _=>by cases x<;>rfl
      simp only at hx
      simp only[this,hx,Option.map_some]
     ·have:=mc GQ
      subst this
      exact h6
    refine⟨{σ with rs:=σ.rs.set p2 rr},by simp only[bW,jN,Option.bind_some,if_true,h7], ?_⟩
    have h8:=xb Sj fq rr
    simp only[bW]
    rw[dP gA]
    simp only[vw,Option.bind_some,if_true,h8,Option.some.injEq]
    have:=mV DL {σ with boxes:=b1} p2 rr
    simp only at this
    rw[this]
    simp only[ft vu]
   ·
    have dm:o2.eW=false:=by cases o2<;>first|rfl|simp[IOp.CG]at xI
    obtain rfl:=R1 (.inr dm)
    have hb:=mc (by cases o1<;>first|rfl|simp[IOp.looksOnly]at yR)
    subst hb
    obtain⟨ds,hu⟩:=Oi (C:=C) yR
    have hS:St.aN DL σ=St.aN ds σ:=hu _ _ _ h3
    have LH:ae C (St.aN ds σ) o2=some (t2,{St.aN ds σ with boxes:=b2}):=by rw[←hS];exact h5
    rw[IE xI hz LG]at LH
    obtain⟨⟨rr,σ5⟩,h6,h7⟩:=Option.map_eq_some_iff.1 LH
    simp only[Prod.mk.injEq]at h7
    obtain⟨rfl,h7⟩:=h7
    obtain⟨⟨s,v,hsb,rfl⟩,hst⟩:=Xe xI h6
    refine⟨_,by simp only[bW,jN,Option.bind_some,if_true,h6];rfl, ?_⟩
    obtain⟨_,_,h9⟩:=Xf (v:=v) yR hsb h3
    obtain⟨Ll,b',_,_,_,he⟩:=oo Oj h9
    have LI:=xb he fq rr
    have RV:=hu _ _ _ LI
    rw[RV]at LI
    simp only at LI
    simp only[bW]
    rw[dP gA]
    simp only[vw,Option.bind_some,if_true]
    rw[LI]
    simp only[Option.bind_some,Option.some.injEq]
    have h13:=mV ds {σ with boxes:=σ.boxes.set s v} p2 rr
    simp only at h13
    rw[h13,hst ds,h7]
    simp only[St.aN]
    have h14:St.aN DL {rs:=σ.rs,vars:=σ.vars,boxes:=σ.boxes}=St.aN ds σ:=hS
    rw[h14,ft vu]
   ·
    split at Uc<;>try(cases Uc;done)
    rename_i d1 d2 GF BD
    simp only[Bool.and_eq_true,bne_iff_ne,ne_eq]at Uc
    obtain⟨⟨hdd,hz1,kg⟩,y3,w7⟩:=Uc
    obtain⟨Om,ht1⟩:=tT GF h3
    have hw3:=(tT BD h4).1
    have ht2:=(tT BD h4).2
    have LH:ae C (σ.strip (2*d1)) o2=some (t2,(σ.strip (2*d1)).strip (2*d2)):=by
     have:=h5
     rw[Om]at this
     rw[this,(tT BD this).1]
    rw[LF BD y3 w7]at LH
    obtain⟨⟨rr,σ5⟩,h6,h7⟩:=Option.map_eq_some_iff.1 LH
    simp only[Prod.mk.injEq]at h7
    obtain⟨rfl,h7⟩:=h7
    obtain⟨rfl,_⟩:=tT BD h6
    refine⟨_,by simp only[bW,jN,Option.bind_some,if_true,h6];rfl, ?_⟩
    have h8:ae C (σ.strip (2*d2)) o1=some (t1,(σ.strip (2*d1)).strip (2*d2)):=by
     rw[LF GF hz1 kg,h3,Om];rfl
    obtain⟨Ll,b',_,_,_,he⟩:=oo Oj h8
    have LI:=xb he fq rr
    have RV:=(tT GF LI).1
    rw[RV]at LI
    simp only[bW]
    rw[dP gA]
    have hwd:bU (σ.strip (2*d2)).rs g1=bU σ.rs g1:=th (2*d2)
    rw[hwd]
    simp only[vw,Option.bind_some,if_true]
    rw[LI]
    simp only[Option.bind_some,Option.some.injEq]
    rw[hw3]
    have e1:=mV [2*d1] (σ.strip (2*d2)) p2 rr
    have e2:=mV [2*d2] (σ.strip (2*d1)) p1 t1
    simp only[St.aN,jq]at e1 e2
    rw[e1,Om,e2,ht1 d2 hdd,ht2 d1 (fun h=>hdd h.symm),xL (2*d1) (2*d2),ft vu]
end Go.Vi
end
section
namespace Go.Vi
open Go Go.RowKit
mutual
theorem zh(s:Nat):∀t:T,t.closed=true→t.ay s=true
 | .undef,_=>rfl
 | .v _,_=>rfl
 | .sl ..,_=>rfl
 | .ptr ..,_=>rfl
 | .ref ..,h| .au ..,h| .aQ ..,h=>by simp[T.closed]at h
 | .agg ts,h=>by simp only[T.closed]at h;simp only[T.ay];exact my s ts h
 | .al ts,h=>by simp only[T.closed]at h;simp only[T.ay];exact my s ts h
 | .bq f a b,h=>by
  simp only[T.closed,Bool.and_eq_true]at h
  simp only[T.ay,my s a h.1,my s b h.2,Bool.and_self]
theorem my(s:Nat):∀ts:List T,bj ts=true→aR s ts=true
 | [],_=>rfl
 |t::ts,h=>by
  simp only[bj,Bool.and_eq_true]at h
  simp only[aR,zh s t h.1,my s ts h.2,Bool.and_self]
end
mutual
theorem Q6(s d:Nat):∀t:T,(t.strip d).ay s=t.ay s
 | .undef=>rfl
 | .v _=>rfl
 | .sl g n cs=>by cases g<;>rfl
 | .ptr ..=>rfl
 | .ref ..=>rfl
 | .au ..=>rfl
 | .aQ ..=>rfl
 | .agg ts=>by simp only[T.strip,T.ay,lV s d ts]
 | .al ts=>by simp only[T.strip,T.ay,lV s d ts]
 | .bq f a b=>by simp only[T.strip,T.ay,lV s d a,lV s d b]
theorem lV(s d:Nat):∀ts:List T,aR s (stripL d ts)=aR s ts
 | []=>rfl
 |t::ts=>by simp only[stripL,aR,Q6 s d t,lV s d ts]
end
theorem Q7(s d:Nat)(σ:St):(σ.strip d).ay s=σ.ay s:=by
 simp only[St.ay,St.strip,lV,List.all_map]
 congr 2
 funext o
 cases o with
 |none=>rfl
 |some cs=>simp[lV]
theorem oI{s:Nat}{ts:List T}:aR s ts=true↔∀t∈ts,t.ay s=true:=by
 rw[qX,List.all_eq_true]
theorem IG{s p:Nat}{rs:List T}{t:T}(h:aR s rs=true)(ht:t.ay s=true):aR s (rs.set p t)=true:=by
 rw[oI]at h⊢
 intro u hu
 rcases List.mem_or_eq_of_mem_set hu with h1|rfl
 ·exact h u h1
 ·exact ht
theorem LJ{σ:St}{s:Nat}{x:ag}(h:σ.ay s=true)(hc:x.cOk=true):(x.get σ).ay s=true:=by
 simp only[St.ay,Bool.and_eq_true,oI]at h
 obtain⟨⟨h1,h2⟩,_⟩:=h
 have key:∀(ts:List T) i,(∀t∈ts,t.ay s=true)→(ts.getD i .undef).ay s=true:=fun ts i h=>by
  simp only[List.getD_eq_getElem?_getD]
  cases hi:ts[i]? with
  |none=>rfl
  |some t=>exact h t (List.mem_of_getElem? hi)
 cases x with
 |c t=>exact zh s t hc
 |r i=>exact key _ _ h1
 |x i=>exact key _ _ h2
theorem Ud{s:Nat}{g:Bool}{n:Nat}{cs:List T}{off:Nat}{t:T}(h:aR s cs=true)(ht:one? g n cs off=some t):t.ay s=true:=by
 rw[oI]at h
 unfold one? at ht
 split at ht
 ·split at ht<;>try(cases ht;done)
  simp only[Option.some.injEq]at ht
  subst ht
  simp only[T.ay,oI]
  exact fun t ht=>h t (List.mem_of_mem_drop (List.mem_of_mem_take ht))
 ·exact h t (List.mem_of_getElem? ht)
theorem GR{s:Nat}{get:ag→T}:∀(ps:List (Nat×Nat×ag)) (cells cs:List T),aR s cells=true→(∀x∈ps.map (fun p=>p.2.2),(get x).ay s=true)→df get cells ps=some cs→aR s cs=true
 | [],cells,cs,h,_,hf=>by simp only[df,Option.some.injEq]at hf;subst hf;exact h
 |(off,n,a)::ps,cells,cs,h,hp,hf=>by
  simp only[df,Option.bind_eq_bind]at hf
  obtain⟨ns,hns,hf⟩:=Option.bind_eq_some_iff.1 hf
  split at hf<;>try(cases hf;done)
  refine GR ps _ cs ?_ (fun x hx=>hp x (by simp at hx⊢;exact .inr hx)) hf
  have ha:=hp a (by simp)
  have hn:aR s ns=true:=by
   generalize get a=u at hns ha
   cases u<;>simp only[cellsOf,Option.some.injEq]at hns<;>try(cases hns;done)
   all_goals subst hns
   all_goals first
    |(simp[aR,ha];done)
    |simpa [T.ay]using ha
  rw[oI]at h hn⊢
  intro t ht
  simp only[setCells,List.mem_append]at ht
  rcases ht with(ht|ht)|ht
  ·exact h t (List.mem_of_mem_take ht)
  ·exact hn t ht
  ·exact h t (List.mem_of_mem_drop ht)
def mW(d:Nat)(o:IOp):Bool:=kZ o&&jI o&&(match o with
 | .mv _| .build ..| .load ..| .bin ..| .len ..=>true
 | .bslice d2 ..=>d2 !=d
 |_=>false)
def Ue:IOp→IOp→Bool
 | .callnew d _ _ _,o=>mW d o
 |_,_=>false
theorem Xi{s:Nat}{get:ag→T}{bx:List (Option (List T))}{o:IOp}{t:T}{d:Nat}(hb:mW d o=true)(hq:o.quiet=true)(hg:∀x∈o.reads,(get x).ay s=true)(n9:∀(i:Nat) cs,bx[i]? =some (some cs)→aR s cs=true)(h:quietVal get bx o=some t):t.ay s=true:=by
 unfold mW at hb
 simp only[Bool.and_eq_true]at hb
 obtain⟨⟨hz,hc⟩,hm⟩:=hb
 cases o<;>try(simp at hm;done)
 case mv a=>
  simp only[quietVal,Option.some.injEq]at h
  subst h
  exact hg a (by simp[IOp.reads])
 case build zero ps=>
  simp only[quietVal]at h
  obtain⟨cs,aF,rfl⟩:=Option.map_eq_some_iff.1 h
  simp only[T.ay]
  exact GR ps zero cs (my s zero (by simpa [kZ]using hz)) hg aF
 case load g n a=>
  simp only[quietVal]at h
  split at h
  ·split at h<;>try(cases h;done)
   rename_i cs aF
   exact Ud (n9 _ cs aF) h
  ·obtain⟨h1,h2⟩:=Option.filter_eq_some_iff.1 h
   exact zh s t h2
  ·cases h
 case bin op ty a b=>
  simp only[quietVal]at h
  unfold bM at h
  split at h<;>try(cases h;done)
  split at h<;>try(cases h;done)
  obtain⟨x,_,rfl⟩:=Option.map_eq_some_iff.1 h
  rfl
 case len str a=>
  simp only[quietVal]at h
  unfold jE at h
  split at h<;>try(cases h;done)
  all_goals
   split at h<;>try(cases h;done)
   simp only[Option.some.injEq]at h
   subst h
   rfl
 case bslice=>simp[IOp.quiet,IOp.pure]at hq
theorem Q8{C:FuncId→List T→Option T}{σ az:St}{d f:Nat}{ad:List Nat}{as:List T}{t:T}(hr:ae.dL C σ d ad f as=some (t,az)):
  ∃r outs,t=T.aj (dC [] ad) (fH d) r∧az=⟨stripL (2*d) σ.rs,stripL (2*d) σ.vars,eJ (dC [] ad) (fH d) outs 0 (cV (2*d) σ.boxes)⟩∧(∀s∈ad++ad.map (· +1),σ.ay s=true)∧
   ∀(σ':St) (BC:List T),BC.map T.fG=as.map T.fG→aZ BC=aZ as→(∀s,dK σ'.boxes s=dK σ.boxes s)→(∀s∈ad++ad.map (· +1),σ'.ay s=true)→
    ae.dL C σ' d ad f BC=some (t,⟨stripL (2*d) σ'.rs,stripL (2*d) σ'.vars,eJ (dC [] ad) (fH d) outs 0 (cV (2*d) σ'.boxes)⟩):=by
 unfold ae.dL at hr
 split at hr<;>try(cases hr;done)
 rename_i Sk
 split at hr<;>try(cases hr;done)
 rename_i r outs hC
 split at hr<;>try(cases hr;done)
 rename_i h1
 simp only[Option.some.injEq,Prod.mk.injEq]at hr
 obtain⟨rfl,rfl⟩:=hr
 have h2:=h1.2.1
 simp only[List.all_eq_true,Bool.and_eq_true]at h2
 refine⟨r,outs.map eD,rfl,rfl,fun s hs=> ?_,fun σ' BC has Hw Et hno=> ?_⟩
 ·simp only[List.mem_append,List.mem_map]at hs
  rcases hs with hs|⟨s',hs,rfl⟩
  ·exact(h2 s hs).1.2
  ·exact(h2 s' hs).2
 ·unfold ae.dL
  have e:(BC.map fun t=>t.fG.aj (iU []) fun _=>none)=as.map fun t=>t.fG.aj (iU []) fun _=>none:=by
   have:=congrArg (List.map fun t=>T.aj (iU []) (fun _=>none) t) has
   simpa [List.map_map,Function.comp_def]using this
  rw[Hw,if_neg Sk,e,hC]
  simp only
  rw[if_pos ⟨h1.1,by
   simp only[List.all_eq_true,Bool.and_eq_true]
   intro s hs
   refine⟨⟨⟨⟨(h2 s hs).1.1.1.1, ?_⟩, ?_⟩,hno s (by simp[hs])⟩,hno (s+1) (by simp[hs])⟩
   ·rw[Et];exact(h2 s hs).1.1.1.2
   ·rw[Et];exact(h2 s hs).1.1.2,h1.2.2⟩]
  rfl
mutual
theorem z6{d d2:Nat}(h:d2≠d)(ρ:Nat→Option Nat):∀t:T,(t.aj ρ (fH d)).strip (2*d2)=t.aj ρ (fH d)
 | .undef=>rfl
 | .v _=>rfl
 | .sl g n cs=>by
  cases g<;>try rfl
  rename_i k e
  simp only[T.aj,fH]
  by_cases hk:k< 8
  ·rw[if_pos hk]
   simp only[T.strip]
   rw[FT,if_neg (by simp;omega)]
  ·rw[if_neg hk];rfl
 | .ptr ..=>rfl
 | .ref s o=>by simp only[T.aj];split<;>rfl
 | .au s o n c=>by simp only[T.aj];split<;>rfl
 | .aQ s=>by simp only[T.aj];split<;>rfl
 | .agg ts=>by simp only[T.aj,T.strip,jJ h ρ ts]
 | .al ts=>by simp only[T.aj,T.strip,jJ h ρ ts]
 | .bq f a b=>by simp only[T.aj,T.strip,jJ h ρ a,jJ h ρ b]
theorem jJ{d d2:Nat}(h:d2≠d)(ρ:Nat→Option Nat):∀ts:List T,stripL (2*d2) (ah ρ (fH d) ts)=ah ρ (fH d) ts
 | []=>rfl
 |t::ts=>by simp only[ah,stripL,z6 h ρ t,jJ h ρ ts]
end
theorem GS{d d2:Nat}(h:d2≠d)(back:Nat→Option Nat):∀(os:List (Option (List T))) (l:Nat) (bx:List (Option (List T))),cV (2*d2) (eJ back (fH d) os l bx)=eJ back (fH d) os l (cV (2*d2) bx)
 | [],_,_=>rfl
 |o::os,l,bx=>by
  simp only[eJ]
  rw[GS h back os]
  congr 1
  cases back l with
  |none=>rfl
  |some s=>
   simp only[cV,List.map_set]
   congr 1
   cases o with
   |none=>rfl
   |some cs=>simp only[Option.map_some,jJ h]
theorem Q9(d d':Nat)(bx:List (Option (List T))):cV d' (cV d bx)=cV d (cV d' bx):=by
 simp only[cV,List.map_map]
 refine List.map_congr_left fun o _=> ?_
 cases o with
 |none=>rfl
 |some cs=>simp[ja d d' cs]
theorem MT(d:Nat)(bx:List (Option (List T)))(s:Nat):dK (cV d bx) s=dK bx s:=by
 unfold dK cV
 rw[List.getElem?_map]
 cases bx[s]? with
 |none=>rfl
 |some o=>cases o<;>rfl
theorem Uf{ad:List Nat}{l s:Nat}(h:dC [] ad l=some s):s∈ad++ad.map (· +1):=by
 unfold dC at h
 simp only[List.length_nil,Nat.not_lt_zero,if_false,Nat.sub_zero]at h
 obtain⟨a,ha,rfl⟩:=Option.map_eq_some_iff.1 h
 have hm:=List.mem_of_getElem? ha
 simp only[List.mem_append,List.mem_map]
 rcases Nat.mod_two_eq_zero_or_one l with h0|h0
 ·rw[h0];exact .inl hm
 ·rw[h0];exact .inr ⟨a,hm,rfl⟩
def FW(e1 e2:bQ):Bool:=e1.1 !=e2.1&& !(e2.looks e1.1)&& !(e1.looks e2.1)&&Ue e1.2.2 e2.2.2
set_option maxHeartbeats 1000000 in
theorem abw{C:FuncId→List T→Option T}{σ az fK:St}{e1 e2:bQ}(hs:FW e1 e2=true)(h1:bW C σ e1=some az)(h2:bW C az e2=some fK):
  ∃EN,bW C σ e2=some EN∧bW C EN e1=some fK:=by
 obtain⟨p1,g1,o1⟩:=e1
 obtain⟨p2,g2,o2⟩:=e2
 simp only[FW,Bool.and_eq_true,bne_iff_ne,ne_eq,Bool.not_eq_true']at hs
 obtain⟨⟨⟨hp,nx⟩,fg⟩,hc⟩:=hs
 obtain⟨dN,uL⟩:=x9 nx
 obtain⟨fq,gA⟩:=x9 fg
 simp only at hp fq dN gA uL hc
 have vu:¬p2=p1:=fun h=>hp h.symm
 cases o1<;>try(simp[Ue]at hc;done)
 rename_i d ad f as
 simp only[Ue]at hc
 have hz:kZ o2=true:=by simp only[mW,Bool.and_eq_true]at hc;exact hc.1.1
 have LG:jI o2=true:=by simp only[mW,Bool.and_eq_true]at hc;exact hc.1.2
 have Ol:o2.EI=false:=by cases o2<;>first|rfl|simp[mW]at hc
 have abx:∀x∈o2.reads,x.cOk=true:=fun x hx=>by
  simp only[jI,List.all_eq_true]at LG
  exact LG x hx
 simp only[IOp.reads]at fq
 simp only[bW]at h1 h2
 obtain⟨go1,vw,h1⟩:=Option.bind_eq_some_iff.1 h1
 obtain⟨go2,jN,h2⟩:=Option.bind_eq_some_iff.1 h2
 cases go1 with
 |false=>
  simp only[Bool.false_eq_true,if_false,Option.some.injEq]at h1
  subst h1
  rw[dP uL]at jN
  cases go2 with
  |false=>
   simp only[Bool.false_eq_true,if_false,Option.some.injEq]at h2
   subst h2
   refine⟨{σ with rs:=σ.rs.set p2 T.bJ},by simp[bW,jN], ?_⟩
   simp only[bW,dP gA,vw,Option.bind_some,Bool.false_eq_true,if_false,ft hp]
  |true=>
   simp only[if_true]at h2
   obtain⟨⟨t2,w9⟩,h3,h2⟩:=Option.bind_eq_some_iff.1 h2
   simp only[Option.some.injEq]at h2
   subst h2
   obtain⟨DK,b2,_,_,rfl,lT⟩:=oo Ol h3
   have h4:ae C σ o2=some (t2,St.aN DK {σ with boxes:=b2}):=lT σ.rs σ.vars fun x hx=>(vF (dN x hx)).symm
   refine⟨_,by simp only[bW,jN,Option.bind_some,if_true,h4];rfl, ?_⟩
   simp only[bW]
   rw[dP gA,nO]
   simp only[vw,Option.bind_some,Bool.false_eq_true,if_false,Option.some.injEq]
   have:=mV DK {σ with boxes:=b2} p1 T.bJ
   simp only[uR]at this
   rw[this]
   simp only[ft hp]
 |true=>
  simp only[if_true]at h1
  obtain⟨⟨t1,w9⟩,h3,h1⟩:=Option.bind_eq_some_iff.1 h1
  simp only[Option.some.injEq]at h1
  subst h1
  simp only[ae]at h3
  obtain⟨r,outs,ht1,rfl,tv,aby⟩:=Q8 h3
  simp only at jN h2
  rw[dP uL,th]at jN
  have hsk:stripL (2*d) (σ.rs.set p2 T.bJ)=(stripL (2*d) σ.rs).set p2 T.bJ:=by rw[aE,aE,List.map_set];rfl
  have Ug:∀t,as.map (ag.get {σ with rs:=σ.rs.set p2 t})=as.map (ag.get σ):=fun t=>List.map_congr_left fun x hx=>vF (fq x hx)
  have Xj:∀t:T,(∀s∈ad++ad.map (· +1),t.ay s=true)→∀s∈ad++ad.map (· +1),St.ay s {σ with rs:=σ.rs.set p2 t}=true:=fun t ht s hs=>by
   have:=tv s hs
   simp only[St.ay,Bool.and_eq_true]at this⊢
   exact⟨⟨IG this.1.1 (ht s hs),this.1.2⟩,this.2⟩
  cases go2 with
  |false=>
   simp only[Bool.false_eq_true,if_false,Option.some.injEq]at h2
   subst h2
   refine⟨{σ with rs:=σ.rs.set p2 T.bJ},by simp[bW,jN], ?_⟩
   have h5:=aby {σ with rs:=σ.rs.set p2 T.bJ} (as.map (ag.get {σ with rs:=σ.rs.set p2 T.bJ})) (by rw[Ug]) (by rw[Ug]) (fun s=>rfl) (Xj T.bJ fun s _=>rfl)
   simp only[bW,ae]
   rw[dP gA]
   simp only[vw,Option.bind_some,if_true,h5,Option.some.injEq]
   rw[hsk,ft vu]
  |true=>
   simp only[if_true]at h2
   obtain⟨⟨t2,σ4⟩,h4,h2⟩:=Option.bind_eq_some_iff.1 h2
   simp only[Option.some.injEq]at h2
   subst h2
   have eV:∀x∈o2.reads,x.get ⟨(stripL (2*d) σ.rs).set p1 t1,stripL (2*d) σ.vars,eJ (dC [] ad) (fH d) outs 0 (cV (2*d) σ.boxes)⟩=(x.get σ).strip (2*d):=fun x hx=>by
    rw[←tQ (abx x hx)]
    exact vF (σ:=⟨stripL (2*d) σ.rs,stripL (2*d) σ.vars,eJ (dC [] ad) (fH d) outs 0 (cV (2*d) σ.boxes)⟩) (dN x hx)|>.trans (by cases x<;>rfl)
   by_cases hq:o2.quiet=true
   ·
    have x8:=uS hq h4
    subst x8
    rw[lA hq]at h4
    obtain⟨x2,hx2,tR⟩:=Option.map_eq_some_iff.1 h4
    simp only[Prod.mk.injEq]at tR
    obtain⟨rfl,_⟩:=tR
    rw[nN (get:=fun x=>(x.get σ).strip (2*d)) eV]at hx2
    have hx3:quietVal (fun x=>(x.get σ).strip (2*d)) (cV (2*d) σ.boxes) o2=some x2:=by
     rw[←hx2]
     by_cases hpu:o2.pure=true
     ·exact CD hpu
     ·cases o2 with
      |load g n a=>
       simp only[quietVal]
       have hna:∀s∈ad++ad.map (· +1),(a.get σ).ay s=true:=fun s hs=>LJ (tv s hs) (abx a (by simp[IOp.reads]))
       generalize a.get σ=u at hna
       cases u<;>try rfl
       ·rename_i g' n' b9;cases g'<;>rfl
       ·rename_i s off
        simp only[T.strip]
        have Ir:(eJ (dC [] ad) (fH d) outs 0 (cV (2*d) σ.boxes))[s]? =(cV (2*d) σ.boxes)[s]? :=x6 outs 0 _ fun l' _ _ hb=>by
         have:=hna s (Uf hb)
         simp[T.ay]at this
        rw[Ir]
      |_=>first|exact absurd rfl hpu|(simp[mW]at hc;done)|(simp[IOp.quiet,IOp.pure]at hq;done)
    rw[BH (2*d) hz]at hx3
    obtain⟨rr,agG,rfl⟩:=Option.map_eq_some_iff.1 hx3
    have h6:ae C σ o2=some (rr,σ):=by rw[lA hq,agG];rfl
    refine⟨{σ with rs:=σ.rs.set p2 rr},by simp only[bW,jN,Option.bind_some,if_true,h6], ?_⟩
    have zY:∀s∈ad++ad.map (· +1),rr.ay s=true:=fun s hs=>by
     refine Xi hc hq (fun x hx=>LJ (tv s hs) (abx x hx)) (fun i cs aF=> ?_) agG
     have:=tv s hs
     simp only[St.ay,Bool.and_eq_true,List.all_eq_true]at this
     exact this.2 _ (List.mem_of_getElem? aF)
    have h5:=aby {σ with rs:=σ.rs.set p2 rr} (as.map (ag.get {σ with rs:=σ.rs.set p2 rr})) (by rw[Ug]) (by rw[Ug]) (fun s=>rfl) (Xj rr zY)
    simp only[bW,ae]
    rw[dP gA]
    simp only[vw,Option.bind_some,if_true,h5,Option.some.injEq]
    have e:stripL (2*d) (σ.rs.set p2 rr)=(stripL (2*d) σ.rs).set p2 (rr.strip (2*d)):=by rw[aE,aE,List.map_set]
    rw[e,ft vu]
   ·
    cases o2 with
    |bslice d2 e sz len zero ps=>
     have hdd:d2≠d:=by simp only[mW,Bool.and_eq_true,bne_iff_ne]at hc;exact hc.2
     simp only[ae,Option.bind_eq_bind]at h4
     obtain⟨cs,aF,h4⟩:=Option.bind_eq_some_iff.1 h4
     split at h4<;>try(cases h4;done)
     rename_i eC
     simp only[Option.some.injEq,Prod.mk.injEq]at h4
     obtain⟨rfl,rfl⟩:=h4
     rw[fillT_congr (get:=fun a=>(ag.get σ a).cL) ps _ fun x hx=>by simp only[eV x hx,qY]]at aF
     have h6:ae C σ (.bslice d2 e sz len zero ps)=some (.sl (if len=0 then .clip else .own (8*d2) e) len cs,σ.strip (2*d2)):=by
      simp only[ae,Option.bind_eq_bind,aF,Option.bind_some,if_pos eC]
     refine⟨_,by simp only[bW,jN,Option.bind_some,if_true,h6];rfl, ?_⟩
     have adf:as.map (ag.get {σ.strip (2*d2)with rs:=(σ.strip (2*d2)).rs.set p2 (.sl (if len=0 then .clip else .own (8*d2) e) len cs)})=as.map (ag.get (σ.strip (2*d2))):=List.map_congr_left fun x hx=>vF (fq x hx)
     have hw:∀x:ag,(x.get (σ.strip (2*d2))).fG=(x.get σ).fG∧(x.get (σ.strip (2*d2))).aU=(x.get σ).aU:=fun x=>by
      cases x with
      |c t=>exact⟨rfl,rfl⟩
      |r i=>rw[tQ (x:= .r i) rfl,GO,zg];exact⟨rfl,rfl⟩
      |x i=>rw[tQ (x:= .x i) rfl,GO,zg];exact⟨rfl,rfl⟩
     have Eh:∀as:List ag,aZ (as.map (ag.get (σ.strip (2*d2))))=aZ (as.map (ag.get σ)):=fun as=>by
      induction as with
      |nil=>rfl
      |cons x as ih=>simp only[List.map_cons,aZ,ih,(hw x).2]
     have h5:=aby {σ.strip (2*d2)with rs:=(σ.strip (2*d2)).rs.set p2 (.sl (if len=0 then .clip else .own (8*d2) e) len cs)} (as.map (ag.get {σ.strip (2*d2)with rs:=(σ.strip (2*d2)).rs.set p2 (.sl (if len=0 then .clip else .own (8*d2) e) len cs)}))
      (by rw[adf,List.map_map,List.map_map];exact List.map_congr_left fun x _=>(hw x).1) (by rw[adf];exact Eh as) (fun s=>MT (2*d2) σ.boxes s) (fun s hs=>by
       have:=tv s hs
       rw[←Q7 s (2*d2)]at this
       simp only[St.ay,Bool.and_eq_true]at this⊢
       exact⟨⟨IG this.1.1 rfl,this.1.2⟩,this.2⟩)
     simp only[bW,ae]
     have hwd:bU ((σ.strip (2*d2)).rs.set p2 (.sl (if len=0 then .clip else .own (8*d2) e) len cs)) g1=bU σ.rs g1:=by rw[dP gA];exact th (2*d2)
     rw[hwd]
     simp only[vw,Option.bind_some,if_true]
     rw[h5]
     simp only[Option.bind_some,Option.some.injEq,St.strip]
     have e1:T.strip (2*d) (.sl (if len=0 then .clip else .own (8*d2) e) len cs)= .sl (if len=0 then .clip else .own (8*d2) e) len cs:=by
      by_cases h0:len=0
      ·rw[if_pos h0];rfl
      ·rw[if_neg h0]
       simp only[T.strip]
       rw[FT,if_neg (by simp;omega)]
     have e2:t1.strip (2*d2)=t1:=by rw[ht1];exact z6 hdd _ r
     have e3:stripL (2*d) ((stripL (2*d2) σ.rs).set p2 (.sl (if len=0 then .clip else .own (8*d2) e) len cs))=(stripL (2*d) (stripL (2*d2) σ.rs)).set p2 (.sl (if len=0 then .clip else .own (8*d2) e) len cs):=by
      rw[aE (2*d),List.map_set,e1,←aE]
     have e4:stripL (2*d2) ((stripL (2*d) σ.rs).set p1 t1)=(stripL (2*d2) (stripL (2*d) σ.rs)).set p1 t1:=by
      rw[aE (2*d2),List.map_set,e2,←aE]
     have e5:List.map (Option.map (stripL (2*d2))) (eJ (dC [] ad) (fH d) outs 0 (cV (2*d) σ.boxes))=eJ (dC [] ad) (fH d) outs 0 (cV (2*d) (List.map (Option.map (stripL (2*d2))) σ.boxes)):=by
      have:=GS hdd (dC [] ad) outs 0 (cV (2*d) σ.boxes)
      rw[Q9]at this
      exact this
     rw[e3,e4,e5,ja (2*d) (2*d2),ja (2*d) (2*d2) σ.vars,ft vu]
    |_=>first|exact absurd rfl hq|(simp[mW]at hc;done)
def BI(e1 e2:bQ):Bool:=FV e1 e2||FW e1 e2
theorem On{e1 e2:bQ}(h:BI e1 e2=true):e2.looks e1.1=false:=by
 simp only[BI,FV,FW,Bool.or_eq_true,Bool.and_eq_true,Bool.not_eq_true']at h
 rcases h with h|h
 ·exact h.1.1.1.2
 ·exact h.1.1.2
theorem Xl{C:FuncId→List T→Option T}{σ az fK:St}{e1 e2:bQ}(hs:BI e1 e2=true)(h1:bW C σ e1=some az)(h2:bW C az e2=some fK):
  ∃EN,bW C σ e2=some EN∧bW C EN e1=some fK:=by
 simp only[BI,Bool.or_eq_true]at hs
 rcases hs with h|h
 ·exact abv h h1 h2
 ·exact abw h h1 h2
theorem front{C:FuncId→List T→Option T}{e:bQ}{l2:List bQ}{σ':St}:∀(l1:List bQ) (σ:St),(∀x∈l1,BI x e=true)→tg C (l1++e::l2) σ=some σ'→∃az,bW C σ e=some az∧tg C (l1++l2) az=some σ'
 | [],σ,_,h=>by
  simp only[List.nil_append,tg]at h⊢
  exact Option.bind_eq_some_iff.1 h
 |x::l1,σ,hx,h=>by
  simp only[List.cons_append,tg]at h
  obtain⟨az,h1,h⟩:=Option.bind_eq_some_iff.1 h
  obtain⟨fK,h2,h3⟩:=front l1 az (fun y hy=>hx y (by simp[hy])) h
  obtain⟨w9,h4,h5⟩:=Xl (hx x (by simp)) h1 h2
  exact⟨w9,h4,by simp only[List.cons_append,tg,h5,Option.bind_some,h3]⟩
end Go.Vi
end
section
namespace Go.Vi
open Go Go.RowKit
def cF:Nat→List (Option (Nat×Bool)×IOp)→List bQ
 |_,[]=>[]
 |k,(g,o)::r=>(k,g,o)::cF (k+1) r
theorem Ra{rs pad:List T}{g:Option (Nat×Bool)}{go:Bool}(h:bU rs g=some go):bU (rs++pad) g=some go:=by
 cases g with
 |none=>exact h
 |some q=>
  obtain⟨j,b⟩:=q
  simp only[bU]at h⊢
  by_cases hj:j< rs.length
  ·rw[List.getElem?_append_left hj];exact h
  ·rw[List.getElem?_eq_none (by omega)]at h;cases h
theorem zj{C:FuncId→List T→Option T}{σ':St}:∀(il:List (Option (Nat×Bool)×IOp)) (σ:St),eZ C σ il=some σ'→tg C (cF σ.rs.length il) {σ with rs:=σ.rs++List.replicate il.length .undef}=some σ'
 | [],σ,h=>by
  simp only[eZ,Option.some.injEq]at h
  subst h
  simp[cF,tg]
 |(g,o)::il,σ,h=>by
  simp only[eZ]at h
  obtain⟨go,hw,h⟩:=Option.bind_eq_some_iff.1 h
  have rD:∀(rs:List T) (t:T) (k:Nat),rs.length=k→(rs++List.replicate (il.length+1) T.undef).set k t=(rs++[t])++List.replicate il.length T.undef:=by
   intro rs t k hk
   subst hk
   rw[List.set_append_right _ _ (Nat.le_refl _)]
   simp[List.replicate_succ]
  have DC:=Ra (pad:=List.replicate (il.length+1) T.undef) hw
  cases go with
  |true=>
   simp only[if_true]at h
   obtain⟨⟨t,az⟩,h1,h⟩:=Option.bind_eq_some_iff.1 h
   obtain⟨F,bx,hF,rfl,tv,he⟩:=zZ h1
   have h2:=he (σ.rs++List.replicate (il.length+1) T.undef) σ.vars (fun x _=>by
    cases x with
    |x i=>rfl
    |c t=>rfl
    |r i=>
     simp only[ag.get,List.getD_eq_getElem?_getD,List.getElem?_append,List.getElem?_replicate]
     by_cases hi:i< σ.rs.length
     ·rw[if_pos hi]
     ·rw[if_neg hi,List.getElem?_eq_none (by omega:σ.rs.length≤i)]
      split<;>rfl) (fun s hs=>by
     have:=tv s hs
     simp only[St.ay,Bool.and_eq_true]at this
     refine⟨?_,this.1.2⟩
     rw[oI]at this⊢
     intro t ht
     rcases List.mem_append.1 ht with h|h
     ·exact this.1.1 t h
     ·rw[(List.mem_replicate.1 h).2];rfl)
   have ih:=zj il _ h
   simp only[cF,tg,bW,List.length_cons,DC,Option.bind_some,if_true,h2]
   rw[List.map_append,List.map_replicate,hF.undef,rD _ _ _ (by simp)]
   simp only[List.length_append,List.length_map,List.length_singleton]at ih
   exact ih
  |false=>
   simp only[Bool.false_eq_true,if_false]at h
   have ih:=zj il _ h
   simp only[cF,tg,bW,List.length_cons,DC,Option.bind_some,Bool.false_eq_true,if_false]
   rw[rD _ _ _ rfl]
   simp only[List.length_append,List.length_singleton]at ih
   exact ih
section
variable{P:Program}{W:di}{w:World}{S0 S:Nat→Nat→Prop}{β:aX}{φ:bB}{a:Act}{o:Oper}{σ:St}{nt:Nat}{vm bm:List Nat}
theorem put_defers(a:Act)(d:Option Nat)(x:Value):(a.put d x).defers=a.defers:=by cases d<;>rfl
theorem bY.putAt{done:List (Option Nat)}(h:bY P W S0 S β φ nt vm done σ a w){i:Nat}{dst:Option Nat}(hi:done[i]? =some none)(hd:∀s,dst=some s→some s ∉ done∧s< nt){t:T}{x:Value}(hx:ak S w β φ x t):
  bY P W S0 S β φ nt vm (done.set i dst) {σ with rs:=σ.rs.set i t} (a.put dst x) w:=by
 have hlt:i< done.length:=(List.getElem?_eq_some_iff.1 hi).1
 have Ka:∀s',some s'≠dst→(a.put dst x).tmps.getD s' undef=a.tmps.getD s' undef:=by
  intro s' fA
  cases dst with
  |none=>rfl
  |some s=>simp only[Act.put];exact getD_set_ne (by intro h;subst h;exact fA rfl)
 have key:∀(j s:Nat),(done.set i dst)[j]? =some (some s)→(j≠i∧done[j]? =some (some s))∨(j=i∧dst=some s):=by
  intro j s hj
  rw[List.getElem?_set]at hj
  split at hj
  ·rename_i LL
   simp only[hlt,if_true,Option.some.injEq]at hj
   exact .inr ⟨LL.symm,hj⟩
  ·rename_i LL;exact .inl ⟨fun h=>LL h.symm,hj⟩
 refine⟨h.inv, ?_, ?_,h.pn,by simp[h.p7],fun v s u hv hn hu=> ?_,fun j s u hj hu=> ?_,fun j j' s hj tK=> ?_⟩
 ·obtain⟨Ds,h1,h2,h3⟩:=h.nd
  exact⟨Ds,h1,by cases dst<;>simpa [Act.put]using h2,h3⟩
 ·cases dst<;>simp[Act.put,h.size]
 ·have h1:some s≠dst:=fun he=>hn (by rw[he];exact List.mem_of_getElem? (i:=i) (by simp[hlt]))
  have h2:some s ∉ done:=fun hm=>hn (by
   obtain⟨k,hk⟩:=List.mem_iff_getElem?.1 hm
   have EO:i≠k:=fun he=>by subst he;rw[hi]at hk;cases hk
   exact List.mem_of_getElem? (i:=k) (by rw[List.getElem?_set,if_neg EO];exact hk))
  rw[Ka s h1]
  exact h.vars v s u hv h2 hu
 ·rcases key j s hj with⟨hne,tK⟩|⟨rfl,rfl⟩
  ·simp only[List.getElem?_set,if_neg (fun h=>hne h.symm:¬i=j)]at hu
   rw[Ka s (fun he=>(hd s he.symm).1 (List.mem_of_getElem? tK))]
   exact h.uM j s u tK hu
  ·simp only[List.getElem?_set,if_true]at hu
   split at hu<;>try(cases hu;done)
   simp only[Option.some.injEq]at hu
   subst hu
   simp only[Act.put]
   rw[AO (by rw[h.size];exact(hd s rfl).2)]
   exact hx
 ·rcases key j s hj with⟨hne,h1⟩|⟨h1,uF⟩<;>rcases key j' s tK with⟨Ka,h2⟩|⟨h2,lQ⟩
  ·exact h.AN j j' s h1 h2
  ·exact absurd (List.mem_of_getElem? h1) (hd s lQ).1
  ·exact absurd (List.mem_of_getElem? h2) (hd s uF).1
  ·omega
theorem bY.grow{done:List (Option Nat)}{w':World}(h:bY P W S0 S β φ nt vm done σ a w)(hb:Below w.heap.size w w'):bY P W S0 S β φ nt vm done σ a w':=
 ⟨h.inv.grow hb,h.nd,h.size,h.pn,h.p7,fun i s u hi hn hu=>(h.vars i s u hi hn hu).grow h.inv.lt hb,fun j s u hj hu=>(h.uM j s u hj hu).grow h.inv.lt hb,h.AN⟩
theorem Uh{C:FuncId→List T→Option T}(hC:∀f args r,C f args=some r→Sound P f args r){ops:Array Oper}{done pre:List (Option Nat)}{i:Nat}{io:IOp}{iom:FuncId→Nat}{az:St}(dm:2*bm.length≤W.nb){rn:Option Nat}{n:Nat}{K:Act→World→Prop}{Q:Exit→Act→World→Prop}
  (h:bY P W S0 S β φ nt vm done σ a w) (po:ops[i]? =some o) (Oo:oB P iom vm bm pre o=some io)
  (abc:∀k s,pre[k]? =some (some s)→done[k]? =some (some s)∨σ.rs.getD k .undef= .undef)
  (iQ:∀(j s:Nat),done[j]? =some (some s)→(ops[j]?).bind (·.dst)=some s)
  (am3:∀v s,ag.x v∈io.reads→vm[v]? =some s→some s ∉ done)
  (hni:done[i]? =some none) (hd:∀s,o.dst=some s→some s ∉ done∧s< nt)
  (hg:∀j b,o.guard=some (j,b)→((done[j]?).join).isSome=true)
  (hs:bW C σ (i,o.guard,io)=some az)
  (hK:∀S' β' φ' a' w',bY P W S0 S' β' φ' nt vm (done.set i o.dst) az a' w'→a'.defers=a.defers→K a' w'):wpOpIn (wd rn) n P ops Q i K a w:=by
 simp only[bW]at hs
 obtain⟨go,hw,hs⟩:=Option.bind_eq_some_iff.1 hs
 have ai6:=Cz h iQ hg hw
 unfold wpOpIn
 simp only[po,ai6]
 cases go with
 |false=>
  simp only[Bool.false_eq_true,if_false,Option.some.injEq]at hs⊢
  subst hs
  exact⟨fun _ _=>trivial,hK _ _ _ _ _ (h.putAt hni hd (.v ..)) (put_defers _ _ _)⟩
 |true=>
  simp only[if_true]at hs⊢
  obtain⟨⟨t,fK⟩,h1,hs⟩:=Option.bind_eq_some_iff.1 hs
  simp only[Option.some.injEq]at hs
  subst hs
  obtain⟨F,bx,hF,rfl,tv,he⟩:=zZ h1
  let vs:List T:=List.zipWith (fun s t=>if some s∈done then T.undef else t) vm σ.vars
  let w9:St:=⟨σ.rs,vs,σ.boxes⟩
  have xR:∀(v s:Nat) (u:T),vm[v]? =some s→σ.vars[v]? =some u→vs[v]? =some (if some s∈done then T.undef else u):=by
   intro v s u hv hu
   simp[vs,List.getElem?_zipWith,hv,hu]
  have agH:∀(v:Nat) (u:T),vs[v]? =some u→∃s u',vm[v]? =some s∧σ.vars[v]? =some u'∧u=if some s∈done then T.undef else u':=by
   intro v u hu
   simp only[vs,List.getElem?_zipWith]at hu
   split at hu<;>try(cases hu;done)
   rename_i s u' hv ly
   simp only[Option.some.injEq]at hu
   exact⟨s,u',hv,ly,hu.symm⟩
  have h3:bY P W S0 S β φ nt vm done w9 a w:=by
   refine⟨h.inv,h.nd,h.size,by simp[w9,vs,h.pn],h.p7,fun v s u hv hn hu=> ?_,h.uM,h.AN⟩
   obtain⟨s',u',Bw,ly,rfl⟩:=agH v u hu
   rw[hv]at Bw
   simp only[Option.some.injEq]at Bw
   subst Bw
   rw[if_neg hn]
   exact h.vars v s u' hv hn ly
  have hop:∀x d,lP vm pre x=some d→ak S w β φ (a.eval x) (d.get w9):=by
   intro x d hx
   cases x with
   |tmp s=>
    simp only[lP]at hx
    split at hx
    ·rename_i k hk
     simp only[Option.some.injEq]at hx
     subst hx
     have cr:=y6 hk
     simp only[ag.get,Act.eval]
     rcases abc k s cr with hdn|xc
     ·have hlt:k< σ.rs.length:=by rw[h.p7];exact(List.getElem?_eq_some_iff.1 hdn).1
      exact h.uM k s _ hdn (by simp[w9,List.getD_eq_getElem?_getD,hlt])
     ·simp only[w9];rw[xc];exact .undef ..
    ·obtain⟨v,hv,rfl⟩:=Option.map_eq_some_iff.1 hx
     rw[List.idxOf?,List.findIdx?_eq_some_iff_getElem]at hv
     obtain⟨hv,agI,_⟩:=hv
     simp only[beq_iff_eq]at agI
     have EA:vm[v]? =some s:=by simp[hv,agI]
     have hlt:v< σ.vars.length:=by rw[h.pn];exact hv
     have:=xR v s _ EA (List.getElem?_eq_getElem hlt)
     simp only[ag.get,Act.eval,w9,List.getD_eq_getElem?_getD,this,Option.getD_some]
     split
     ·exact .undef ..
     ·rename_i hn
      exact h.vars v s _ EA hn (List.getElem?_eq_getElem hlt)
   |const v=>
    simp only[lP]at hx
    split at hx
    ·rename_i hk
     simp only[Option.some.injEq]at hx
     subst hx
     exact sg v hk
    ·cases hx
   |func f=>
    simp only[lP,Option.some.injEq]at hx
    subst hx
    exact .v ..
   |global g=>simp[lP]at hx
  have hrun:ae C w9 io=some (t,⟨σ.rs.map F,vs.map F,bx⟩):=he σ.rs vs (fun x hx=>by
   cases x with
   |r k=>rfl
   |c u=>rfl
   |x v=>
    simp only[ag.get,List.getD_eq_getElem?_getD]
    cases hv:vm[v]? with
    |none=>
     have h4:σ.vars.length≤v:=by rw[h.pn];exact List.getElem?_eq_none_iff.1 hv
     have h5:vs.length≤v:=by rw[show vs.length=vm.length by simp[vs,h.pn]];exact List.getElem?_eq_none_iff.1 hv
     rw[List.getElem?_eq_none h4,List.getElem?_eq_none h5]
    |some s=>
     have hlt:v< σ.vars.length:=by rw[h.pn];exact(List.getElem?_eq_some_iff.1 hv).1
     rw[xR v s _ hv (List.getElem?_eq_getElem hlt),if_neg (am3 v s hx hv),List.getElem?_eq_getElem hlt]) (fun s hs=>by
    have:=tv s hs
    simp only[St.ay,Bool.and_eq_true]at this
    refine⟨this.1.1, ?_⟩
    have h2:=this.1.2
    rw[oI]at h2⊢
    intro t ht
    obtain⟨v,hv⟩:=List.mem_iff_getElem?.1 ht
    obtain⟨s',u',hv1,ly,rfl⟩:=agH v t hv
    split
    ·rfl
    ·exact h2 _ (List.mem_of_getElem? ly))
  have fin:∀x w',ax P W S0 S β φ w w9 ⟨σ.rs.map F,vs.map F,bx⟩ t x w'→K (a.put o.dst x) w':=by
   intro x w' ⟨S',β',φ',adj,hx,hI,hm,vo,l6⟩
   simp only[w9]at vo l6
   have Iy:bY P W S0 S' β' φ' nt vm done ⟨σ.rs.map F,σ.vars.map F,bx⟩ a w':=by
    refine⟨hI,h.nd,h.size,by simp[h.pn],by simp[h.p7],fun v s u hv hn hu=> ?_,fun j s u hj hu=> ?_,h.AN⟩
    ·simp only[List.getElem?_map]at hu
     obtain⟨u',ly,rfl⟩:=Option.map_eq_some_iff.1 hu
     have h1:=xR v s u' hv ly
     rw[if_neg hn]at h1
     have h2:=hm _ _ (h3.vars v s u' hv hn h1)
     have h4:F u'=adj u':=by
      have:=congrArg (·[v]?) l6
      simp only[List.getElem?_map,h1,Option.map_some,Option.some.injEq]at this
      exact this
     rw[h4];exact h2
    ·simp only[List.getElem?_map]at hu
     obtain⟨u',ly,rfl⟩:=Option.map_eq_some_iff.1 hu
     have h2:=hm _ _ (h3.uM j s u' hj ly)
     have h4:F u'=adj u':=by
      have:=congrArg (·[j]?) vo
      simp only[List.getElem?_map,ly,Option.map_some,Option.some.injEq]at this
      exact this
     rw[h4];exact h2
   exact hK _ _ _ _ _ (Iy.putAt hni hd hx) (put_defers _ _ _)
  by_cases hc:∃c f,o.op= .call c∧c.callee= .value f
  ·obtain⟨c,f,ho,hcv⟩:=hc
   exact y5 hC h3.inv dm hop Oo ho hcv hrun fin
  ·obtain⟨x,w',Ui,hA⟩:=Hr (a:=a) (o:=o) h3.inv dm hop Oo (fun c f ho hcv=>hc ⟨c,f,ho,hcv⟩) hrun
   exact Ui.wpIn (sm Oo) (fin _ _ hA)
end
end Go.Vi
end
section
namespace Go.Vi
open Go Go.RowKit
def direct(ops:Array Oper)(i:Nat):List Nat:=
 match ops[i]? with
 |some o=>(o.after.toList.filter (Region.binds .any)).map (·.on)
 |none=>[]
def ahead(ops:Array Oper):List (List Nat):=
 (List.range ops.size).foldl (fun tb i=>tb++[((direct ops i)++(direct ops i).flatMap fun k=>tb.getD k []).eraseDups]) []
def agJ(ops:Array Oper)(tb:List (List Nat)):Bool:=
 (List.range ops.size).all fun i=>(direct ops i).all (fun k=>decide (k< i))&&(tb.getD i []).all fun j=>(direct ops i).contains j||(direct ops i).any fun k=>(tb.getD k []).contains j
def Ki(tb:List (List Nat))(es:List bQ):Bool:=
 es.all fun e2=>es.all fun e1=> !(decide (e1.1< e2.1))||(tb.getD e2.1 []).contains e1.1||BI e1 e2
def Xm(vm:List Nat)(ops:Array Oper)(tb:List (List Nat))(es:List bQ):Bool:=
 es.all fun e=>e.2.2.reads.all fun x=>match x with
  | .x v=>match vm[v]? with
   |some s=>(List.range ops.size).all fun j=>j==e.1||(ops[j]?).bind (·.dst) !=some s||(tb.getD j []).contains e.1
   |none=>true
  |_=>true
def bN(vm:List Nat)(ops:Array Oper)(l:List (Option (Nat×Bool)×IOp)):Bool:=
 let tb:=ahead ops
 agJ ops tb&&Ki tb (cF 0 l)&&Xm vm ops tb (cF 0 l)
theorem nP:∀(il:List (Option (Nat×Bool)×IOp)) (k i:Nat) (g:Option (Nat×Bool)) (io:IOp),(i,g,io)∈cF k il↔k≤i∧il[i-k]? =some (g,io)
 | [],k,i,g,io=>by simp[cF]
 |(g',o')::il,k,i,g,io=>by
  simp only[cF,List.mem_cons,Prod.mk.injEq,nP il (k+1)]
  constructor
  ·rintro(⟨rfl,rfl,rfl⟩|⟨h1,h2⟩)
   ·simp
   ·refine⟨by omega, ?_⟩
    rw[show i-k=(i-(k+1))+1 by omega]
    simpa using h2
  ·rintro⟨h1,h2⟩
   by_cases h:i=k
   ·subst h
    simp at h2
    exact .inl ⟨rfl,h2.1.symm,h2.2.symm⟩
   ·refine .inr ⟨by omega, ?_⟩
    rw[show i-k=(i-(k+1))+1 by omega]at h2
    simpa using h2
theorem IH:∀(il:List (Option (Nat×Bool)×IOp)) (k i:Nat) (g:Option (Nat×Bool)) (io:IOp),(i,g,io)∈cF k il→
  ∃l1 l2,cF k il=l1++(i,g,io)::l2∧(∀e∈l1,e.1< i)∧∀e∈l2,i< e.1
 | [],k,i,g,io,h=>by simp[cF]at h
 |(g',o')::il,k,i,g,io,h=>by
  simp only[cF,List.mem_cons,Prod.mk.injEq]at h
  rcases h with⟨rfl,rfl,rfl⟩|h
  ·refine⟨[],cF (i+1) il,by simp[cF],by simp,fun e he=> ?_⟩
   have:=(nP il (i+1) e.1 e.2.1 e.2.2).1 he
   omega
  ·obtain⟨l1,l2,h1,h2,h3⟩:=IH il (k+1) i g io h
   refine⟨(k,g',o')::l1,l2,by simp[cF,h1],fun e he=> ?_,h3⟩
   have hk:=((nP il (k+1) i g io).1 h).1
   simp only[List.mem_cons]at he
   rcases he with rfl|he
   ·simp only;omega
   ·exact h2 e he
theorem AQ{P:Program}{iom:FuncId→Nat}{nt:Nat}{vm bm:List Nat}:∀(rest pre:List Oper) {il:List (Option (Nat×Bool)×IOp)},kc P iom nt vm bm (pre.map (·.dst)) rest=some il→
  il.length=rest.length∧∀(i:Nat) (o:Oper),rest[i]? =some o→∃io,il[i]? =some (o.guard,io)∧oB P iom vm bm ((pre++rest.take i).map (·.dst)) o=some io∧tJ nt ((pre++rest.take i).map (·.dst)) o=false
 | [],pre,il,h=>by
  simp only[kc,Option.some.injEq]at h
  subst h
  exact⟨rfl,fun i o ho=>by simp at ho⟩
 |o'::rest,pre,il,h=>by
  unfold kc at h
  split at h<;>try(cases h;done)
  rename_i hb
  obtain⟨i',hi,h⟩:=Option.bind_eq_some_iff.1 h
  obtain⟨r,hr,h⟩:=Option.bind_eq_some_iff.1 h
  simp only[Option.some.injEq]at h
  subst h
  have xS:kc P iom nt vm bm ((pre++[o']).map (·.dst)) rest=some r:=by simpa using hr
  obtain⟨h1,h2⟩:=AQ rest (pre++[o']) xS
  refine⟨by simp[h1],fun i o ho=> ?_⟩
  cases i with
  |zero=>
   simp at ho
   subst ho
   exact⟨i',by simp,by simpa using hi,by simpa using hb⟩
  |succ i=>
   simp at ho
   obtain⟨io,h3,h4,h5⟩:=h2 i o ho
   exact⟨io,by simpa using h3,by simpa using h4,by simpa using h5⟩
def lW(ops:Array Oper)(bO:Array Bool):List (Option Nat):=(List.range ops.size).map fun k=>if bO.getD k true then(ops[k]?).bind (·.dst)else none
theorem jX(ops:Array Oper)(bO:Array Bool)(k:Nat)(hk:k< ops.size):(lW ops bO)[k]? =some (if bO.getD k true then(ops[k]?).bind (·.dst)else none):=by
 simp[lW,hk]
theorem z7{ops:Array Oper}{bO:Array Bool}{k:Nat}{x:Option Nat}(h:(lW ops bO)[k]? =some x):k< ops.size:=by
 have:=(List.getElem?_eq_some_iff.1 h).1
 simpa [lW]using this
theorem oJ{bO:Array Bool}{i k:Nat}(hi:i< bO.size):(bO.setIfInBounds i true).getD k true=(if k=i then true else bO.getD k true):=by
 simp only[Array.getD_eq_getD_getElem?,Array.getElem?_setIfInBounds]
 by_cases h:k=i
 ·subst h;simp[hi]
 ·rw[if_neg (fun h':i=k=>h h'.symm),if_neg h]
theorem Uj{ops:Array Oper}{bO:Array Bool}{i:Nat}(hi:i< ops.size)(hs:bO.size=ops.size):lW ops (bO.setIfInBounds i true)=(lW ops bO).set i ((ops[i]?).bind (·.dst)):=by
 refine List.ext_getElem? fun k=> ?_
 by_cases hk:k< ops.size
 ·rw[jX _ _ _ hk,oJ (by omega),List.getElem?_set]
  by_cases h:k=i
  ·subst h;simp[lW,hk]
  ·rw[if_neg h,if_neg (fun h':i=k=>h h'.symm),jX _ _ _ hk]
 ·rw[List.getElem?_eq_none (by simp[lW];omega),List.getElem?_eq_none (by simp[lW];omega)]
section
variable{P:Program}{W:di}{w:World}{S0 S:Nat→Nat→Prop}{β:aX}{φ:bB}{a:Act}{o:Oper}{σ:St}{nt:Nat}{vm bm:List Nat}
theorem Oq{C:FuncId→List T→Option T}{σ az:St}{e:bQ}(h:bW C σ e=some az){k:Nat}(hk:k≠e.1)(hu:σ.rs.getD k .undef= .undef):az.rs.getD k .undef= .undef:=by
 simp only[bW]at h
 obtain⟨go,_,h⟩:=Option.bind_eq_some_iff.1 h
 rw[List.getD_eq_getElem?_getD]at hu⊢
 cases go with
 |false=>
  simp only[Bool.false_eq_true,if_false,Option.some.injEq]at h
  subst h
  simp only[List.getElem?_set,if_neg (fun h':e.1=k=>hk h'.symm)]
  exact hu
 |true=>
  simp only[if_true]at h
  obtain⟨⟨t,fK⟩,h1,h⟩:=Option.bind_eq_some_iff.1 h
  simp only[Option.some.injEq]at h
  subst h
  obtain⟨F,bx,hF,rfl,_,_⟩:=zZ h1
  simp only[List.getElem?_set,if_neg (fun h':e.1=k=>hk h'.symm),List.getElem?_map]
  cases hc:σ.rs[k]? with
  |none=>rfl
  |some u=>
   rw[hc]at hu
   simp only[Option.getD_some]at hu
   subst hu
   simp[hF.undef]
theorem Xn{C:FuncId→List T→Option T}(hC:∀f args r,C f args=some r→Sound P f args r){iom:FuncId→Nat}(dm:2*bm.length≤W.nb){rn:Option Nat}{m:Nat}{ops:Array Oper}{il:List (Option (Nat×Bool)×IOp)}{σ':St}{Q:Exit→Act→World→Prop}
  (hl:kc P iom nt vm bm [] ops.toList=some il) (mX:bN vm ops il=true) {D0:List Deferred} (hQ:∀S' β' φ' a' w',bY P W S0 S' β' φ' nt vm (ops.toList.map (·.dst)) σ' a' w'→a'.defers=D0→Q .normal a' w'):
  ∀(n:Nat) (bO:Array Bool) (S:Nat→Nat→Prop) (β:aX) (φ:bB) (σ:St) (a:Act) (w:World),a.defers=D0→bO.size=ops.size→((cF 0 il).filter fun e=> !bO.getD e.1 true).length=n→
   (∀k,k< ops.size→bO.getD k true=true→∀j∈(ahead ops).getD k [],j< ops.size∧bO.getD j true=true)→
   bY P W S0 S β φ nt vm (lW ops bO) σ a w→(∀k,k< ops.size→bO.getD k true=false→σ.rs.getD k .undef= .undef)→
   tg C ((cF 0 il).filter fun e=> !bO.getD e.1 true) σ=some σ'→wpAnyIn (wd rn) m P .any ops Q n bO a w:=by
 simp only[bN,Bool.and_eq_true]at mX
 obtain⟨⟨Xo,ER⟩,l6⟩:=mX
 generalize ahead ops=tb at Xo ER l6
 simp only[agJ,List.all_eq_true,List.mem_range,Bool.and_eq_true,decide_eq_true_eq,Bool.or_eq_true,List.any_eq_true,List.contains_iff_mem]at Xo
 obtain⟨hlen,Iv⟩:=AQ (P:=P) (iom:=iom) (nt:=nt) (vm:=vm) (bm:=bm) ops.toList [] (by simpa using hl)
 simp only[List.nil_append,Array.length_toList]at hlen Iv
 have tw:∀i,i< ops.size→∃o io,ops[i]? =some o∧(i,o.guard,io)∈cF 0 il∧oB P iom vm bm ((ops.toList.take i).map (·.dst)) o=some io∧tJ nt ((ops.toList.take i).map (·.dst)) o=false:=by
  intro i hi
  obtain⟨io,h1,h2,h3⟩:=Iv i ops[i] (by simp[hi])
  exact⟨ops[i],io,by simp[hi],(nP il 0 i _ io).2 ⟨by omega,by simpa using h1⟩,h2,h3⟩
 have agK:∀(bO:Array Bool),Region.ready .any ops bO=[]→bO.size=ops.size→∀i,i< ops.size→bO.getD i true=true:=by
  intro bO hr hsz i
  induction i using Nat.strongRecOn with
  |_ i ih=>
   intro hi
   cases Ot:bO.getD i true with
   |true=>rfl
   |false=>
    exfalso
    obtain⟨o,io,ho,_⟩:=tw i hi
    have kM:i∈Region.ready .any ops bO:=by
     simp only[Region.ready,List.mem_filter,List.mem_range,hi,true_and,Ot,ho,Option.map_some,Option.getD_some,Bool.not_false,Bool.true_and,Array.all_eq_true',Bool.or_eq_true,Bool.not_eq_true']
     intro e he
     cases hb:Region.binds .any e with
     |false=>exact .inl rfl
     |true=>
      refine .inr ?_
      have hd:e.on∈direct ops i:=by
       simp only[direct,ho,List.mem_map,List.mem_filter]
       exact⟨e,⟨by simpa using he,hb⟩,rfl⟩
      have hlt:=(Xo i hi).1 e.on hd
      have:=ih e.on hlt (by omega)
      rw[Array.getD_eq_getD_getElem?]at this⊢
      rw[Array.getElem?_eq_getElem (by omega)]at this⊢
      exact this
    rw[hr]at kM
    cases kM
 intro n
 induction n with
 |zero=>
  intro bO S β φ σ a w Xp hsz hn M5 hR hU hrun
  have zk:(cF 0 il).filter (fun e=> !bO.getD e.1 true)=[]:=List.length_eq_zero_iff.1 hn
  have iy:∀i,i< ops.size→bO.getD i true=true:=by
   intro i hi
   obtain⟨o,io,_,hm,_⟩:=tw i hi
   rw[List.filter_eq_nil_iff]at zk
   have:=zk _ hm
   simpa using this
  rw[zk]at hrun
  simp only[tg,Option.some.injEq]at hrun
  subst hrun
  refine⟨?_,hQ _ _ _ _ _ (?_:bY P W S0 S β φ nt vm (ops.toList.map (·.dst)) σ a w) Xp⟩
  ·rw[Region.ready,List.filter_eq_nil_iff]
   intro i hi
   simp[iy i (by simpa using hi)]
  ·have:lW ops bO=ops.toList.map (·.dst):=by
    refine List.ext_getElem? fun k=> ?_
    by_cases hk:k< ops.size
    ·rw[jX _ _ _ hk,iy k hk];simp[hk]
    ·rw[List.getElem?_eq_none (by simp[lW];omega),List.getElem?_eq_none (by simp;omega)]
   rw[←this];exact hR
 |succ n ih=>
  intro bO S β φ σ a w Xp hsz hn M5 hR hU hrun
  refine⟨fun hr=> ?_,fun i hi=> ?_⟩
  ·exfalso
   have iy:=agK bO hr hsz
   have:(cF 0 il).filter (fun e=> !bO.getD e.1 true)=[]:=by
    rw[List.filter_eq_nil_iff]
    intro e he
    have:=((nP il 0 e.1 e.2.1 e.2.2).1 he).2
    have hlt:=(List.getElem?_eq_some_iff.1 this).1
    simp[iy e.1 (by omega)]
   rw[this]at hn
   simp at hn
  ·simp only[Region.ready,List.mem_filter,List.mem_range,Bool.and_eq_true,Bool.not_eq_true']at hi
   obtain⟨hi,Ot,Xq⟩:=hi
   obtain⟨o,io,ho,hm,Oo,pr⟩:=tw i hi
   simp only[ho,Option.map_some,Option.getD_some,Array.all_eq_true',Bool.or_eq_true,Bool.not_eq_true']at Xq
   have abz:∀k∈direct ops i,k< ops.size∧bO.getD k true=true:=by
    intro k hk
    have hlt:=(Xo i hi).1 k hk
    simp only[direct,ho,List.mem_map,List.mem_filter]at hk
    obtain⟨e,⟨he,hb⟩,rfl⟩:=hk
    refine⟨by omega, ?_⟩
    have:=Xq e (by simpa using he)
    rcases this with h|h
    ·rw[h]at hb;cases hb
    ·rw[Array.getD_eq_getD_getElem?]at h⊢
     rw[Array.getElem?_eq_getElem (by omega)]at h⊢
     exact h
   have abA:∀j∈tb.getD i [],j< ops.size∧bO.getD j true=true:=by
    intro j hj
    rcases(Xo i hi).2 j hj with h|⟨k,hk,hjk⟩
    ·exact abz j h
    ·exact M5 k (abz k hk).1 (abz k hk).2 j hjk
   obtain⟨l1,l2,Ou,fg,nx⟩:=IH il 0 i o.guard io hm
   have hf:(cF 0 il).filter (fun e=> !bO.getD e.1 true)=l1.filter (fun e=> !bO.getD e.1 true)++(i,o.guard,io)::l2.filter (fun e=> !bO.getD e.1 true):=by
    rw[Ou,List.filter_append,List.filter_cons_of_pos (by simp[Ot])]
   have Sl:(cF 0 il).filter (fun e=> !(bO.setIfInBounds i true).getD e.1 true)=l1.filter (fun e=> !bO.getD e.1 true)++l2.filter (fun e=> !bO.getD e.1 true):=by
    rw[Ou,List.filter_append,List.filter_cons_of_neg (by rw[oJ (by omega)];simp)]
    congr 1
    ·refine List.filter_congr fun e he=> ?_
     rw[oJ (by omega),if_neg (by have:=fg e he;omega)]
    ·refine List.filter_congr fun e he=> ?_
     rw[oJ (by omega),if_neg (by have:=nx e he;omega)]
   rw[hf]at hrun hn
   obtain⟨az,hs1,ai7⟩:=front _ σ (fun e he=>by
    simp only[List.mem_filter,Bool.not_eq_true']at he
    have kM:e∈cF 0 il:=by rw[Ou];simp[he.1]
    simp only[Ki,List.all_eq_true,Bool.or_eq_true,Bool.not_eq_true',decide_eq_false_iff_not,List.contains_iff_mem]at ER
    rcases ER _ hm e kM with(h|h)|h
    ·exact absurd (fg e he.1) h
    ·have:=(abA e.1 h).2
     rw[he.2]at this
     cases this
    ·exact h) hrun
   have hdn:∀s,o.dst=some s→some s ∉ lW ops bO∧s< nt:=by
    intro s hs
    have hb:∀j o',ops[j]? =some o'→tJ nt ((ops.toList.take j).map (·.dst)) o'=false:=fun j o' zP=>by
     have hj:j< ops.size:=(Array.getElem?_eq_some_iff.1 zP).1
     obtain⟨o2,_,sh,_,_,hb⟩:=tw j hj
     rw[zP]at sh
     simp only[Option.some.injEq]at sh
     subst sh
     exact hb
    have By:∀j o',ops[j]? =some o'→o'.dst=some s→some s ∉ (ops.toList.take j).map (·.dst)∧s< nt:=by
     intro j o' zP fA
     have:=hb j o' zP
     simp only[tJ,fA,Bool.or_eq_false_iff,Bool.not_eq_false',decide_eq_true_eq]at this
     refine⟨fun hm=> ?_,this.1.2⟩
     have h2:=this.1.1
     rw[List.contains_iff_mem.2 hm]at h2
     cases h2
    refine⟨fun hm=> ?_,(By i o ho hs).2⟩
    obtain⟨k,hk⟩:=List.mem_iff_getElem?.1 hm
    have ES:=z7 hk
    rw[jX _ _ _ ES]at hk
    simp only[Option.some.injEq]at hk
    split at hk<;>try(cases hk;done)
    rename_i vr
    have EO:k≠i:=fun h=>by subst h;rw[Ot]at vr;cases vr
    obtain⟨ok,mX,agL⟩:=Option.bind_eq_some_iff.1 hk
    have take:∀p q op,p< q→ops[p]? =some op→op.dst=some s→some s∈(ops.toList.take q).map (·.dst):=by
     intro p q op Lj hop LD
     refine List.mem_map.2 ⟨op,List.mem_of_getElem? (i:=p) ?_,LD⟩
     rw[List.getElem?_take,if_pos Lj]
     simpa using hop
    rcases Nat.lt_or_gt_of_ne EO with h|h
    ·exact(By i o ho hs).1 (take k i ok h mX agL)
    ·exact(By k ok mX agL).1 (take i k o h ho hs)
   refine Uh hC dm hR ho Oo (fun k s hk=> ?_) (fun j s hj=> ?_) (fun v s hx hv kM=> ?_) (by rw[jX _ _ _ hi,Ot];rfl) hdn (fun j b hg=> ?_) hs1 fun S' β' φ' a' w' DF ha'=> ?_
   ·rw[List.getElem?_map,Option.map_eq_some_iff]at hk
    obtain⟨q,hq,Dx⟩:=hk
    rw[List.getElem?_take]at hq
    split at hq<;>try(cases hq;done)
    rename_i EO
    have ES:k< ops.size:=by omega
    have GB:ops[k]? =some q:=by simpa using hq
    cases GU:bO.getD k true with
    |true=>exact .inl (by rw[jX _ _ _ ES,GU,GB];simp[Dx])
    |false=>exact .inr (hU k ES GU)
   ·have Uk:=z7 hj
    rw[jX _ _ _ Uk]at hj
    simp only[Option.some.injEq]at hj
    split at hj
    ·exact hj
    ·cases hj
   ·obtain⟨k,hk⟩:=List.mem_iff_getElem?.1 kM
    have ES:=z7 hk
    rw[jX _ _ _ ES]at hk
    simp only[Option.some.injEq]at hk
    split at hk<;>try(cases hk;done)
    rename_i vr
    have EO:k≠i:=fun h=>by subst h;rw[Ot]at vr;cases vr
    simp only[Xm,List.all_eq_true]at l6
    have:=l6 _ hm _ hx
    simp only[hv,List.all_eq_true,List.mem_range,Bool.or_eq_true,beq_iff_eq,bne_iff_ne,ne_eq,List.contains_iff_mem]at this
    rcases this k ES with(h|h)|h
    ·exact EO h
    ·exact h hk
    ·have:=(M5 k ES vr i h).2
     rw[Ot]at this
     cases this
   ·
    simp only[tJ,hg,Bool.or_eq_false_iff,Bool.not_eq_false']at pr
    have h2:=pr.2
    have hji:j< i:=by
     by_cases h:j< i
     ·exact h
     ·rw[List.getElem?_eq_none (by simp;omega)]at h2
      simp at h2
    have Uk:j< ops.size:=by omega
    obtain⟨oj,ioj,hoj,hmj,_,_⟩:=tw j Uk
    have II:bO.getD j true=true:=by
     simp only[Ki,List.all_eq_true,Bool.or_eq_true,Bool.not_eq_true',decide_eq_false_iff_not,List.contains_iff_mem]at ER
     rcases ER _ hm _ hmj with(h|h)|h
     ·exact absurd hji h
     ·exact(abA j h).2
     ·exfalso
      have h3:=On h
      simp[bQ.looks,hg]at h3
    rw[jX _ _ _ Uk,II,hoj]
    simp only[if_true,Option.bind_some,Option.join_some]
    rw[List.getElem?_map,List.getElem?_take,if_pos hji]at h2
    have am4:ops.toList[j]? =some oj:=by simpa using hoj
    rw[am4]at h2
    simpa using h2
   ·refine ih (bO.setIfInBounds i true) S' β' φ' az a' w' (ha'.trans Xp) (by simp[hsz]) ?_ ?_ ?_ ?_ ?_
    ·rw[Sl]
     simp only[List.length_append,List.length_cons]at hn⊢
     omega
    ·intro k hk vr j hj
     rw[oJ (by omega)]at vr
     rw[oJ (by omega)]
     by_cases EO:k=i
     ·subst EO
      have:=abA j hj
      refine⟨this.1, ?_⟩
      rw[this.2];simp
     ·rw[if_neg EO]at vr
      have:=M5 k hk vr j hj
      refine⟨this.1, ?_⟩
      rw[this.2];simp
    ·rw[Uj hi hsz,ho];exact DF
    ·intro k hk vr
     rw[oJ (by omega)]at vr
     split at vr
     ·cases vr
     ·rename_i EO
      exact Oq hs1 EO (hU k hk vr)
    ·rw[Sl];exact ai7
theorem Xr(hm:P.follows .mixedOrders=true):mU P bN:=by
 intro C iom W w S0 S β φ nt vm bm id ops il σ σ' a Q rn m hC dm mX hR hl hr hQ
 refine wpIn_region_any hm ?_
 have hb:Below w.heap.size w {w with drawn:=w.drawn+1}:=⟨rfl,rfl,rfl,Nat.le_refl _,fun _ _=>rfl⟩
 have hR:=hR.grow hb
 have vo:σ.rs=[]:=List.length_eq_zero_iff.1 (by simpa using hR.p7)
 have hrun:=zj il σ hr
 obtain⟨hlen,_⟩:=AQ (P:=P) (iom:=iom) (nt:=nt) (vm:=vm) (bm:=bm) ops.toList [] (by simpa using hl)
 simp only[Array.length_toList]at hlen
 rw[vo,hlen]at hrun
 simp only[List.length_nil,List.nil_append]at hrun
 have Ov:∀k,k< ops.size→(Array.replicate ops.size false).getD k true=false:=fun k hk=>by simp[Array.getD_eq_getD_getElem?,hk]
 have adg:(cF 0 il).filter (fun e=> !(Array.replicate ops.size false).getD e.1 true)=cF 0 il:=by
  rw[List.filter_eq_self]
  intro e he
  have:=((nP il 0 e.1 e.2.1 e.2.2).1 he).2
  have hlt:=(List.getElem?_eq_some_iff.1 this).1
  rw[Ov e.1 (by omega)];rfl
 have Ow:∀(l:List (Option (Nat×Bool)×IOp)) k,(cF k l).length=l.length:=by
  intro l
  induction l with
  |nil=>intro k;rfl
  |cons x l ih=>intro k;obtain⟨g,o⟩:=x;simp[cF,ih]
 refine Xn hC dm hl mX hQ ops.size (Array.replicate ops.size false) S β φ {σ with rs:=List.replicate ops.size .undef} a _ rfl (by simp) (by rw[adg,Ow,hlen]) (fun k hk h=> ?_) ?_ (fun k hk _=> ?_) (by rw[adg];exact hrun)
 ·rw[Ov k hk]at h;cases h
 ·have IJ:∀(k:Nat) (x:Option Nat),(lW ops (Array.replicate ops.size false))[k]? =some x→x=none:=by
   intro k x hk
   have hlt:=z7 hk
   rw[jX _ _ _ hlt,Ov k hlt]at hk
   simpa using hk.symm
  refine⟨hR.inv,hR.nd,hR.size,hR.pn,by simp[lW],fun v s u hv _ hu=>hR.vars v s u hv (by simp) hu,fun j s u hj=> ?_,fun j j' s hj=> ?_⟩
  ·cases IJ j _ hj
  ·cases IJ j _ hj
 ·simp[List.getD_eq_getElem?_getD,hk]
end
end Go.Vi
end
section
namespace Go.Vi
open Go Go.RowKit
def cu(l':Nat)(t:T):T:=if fi t then yT l' else t
def St.cu(l':Nat)(σ:St):St:=⟨σ.rs.map (Vi.cu l'),σ.vars.map (Vi.cu l'),σ.boxes⟩
def Out.cu(l':Nat):Out→Out
 | .norm σ=> .norm (σ.cu l')
 | .exit j σ=> .exit j (σ.cu l')
 | .ret σ=> .ret (σ.cu l')
theorem FX{t:T}(h:fi t=true):∃l a b,t= .v (.func (.yield l) a b):=by
 unfold fi at h
 split at h
 ·exact⟨_,_,_,rfl⟩
 ·cases h
theorem pf{l':Nat}{t:T}(h:fi t=false):cu l' t=t:=by unfold cu;rw[h];rfl
theorem yr{l':Nat}{t:T}(h:fi t=true):cu l' t=yT l':=by unfold cu;rw[h];rfl
theorem Ox{F:T→T}(hF:vG F)(l':Nat)(t:T):F (cu l' t)=cu l' (F t):=by
 cases h:fi t with
 |true=>
  obtain⟨l,a,b,rfl⟩:=FX h
  rw[yr h,hF.v,yr h]
  exact hF.v _
 |false=>
  rw[pf h,pf]
  cases h2:fi (F t)with
  |false=>rfl
  |true=>
   obtain⟨l,a,b,h3⟩:=FX h2
   have:=hF.inv _ _ h3
   rw[this]at h
   cases h
theorem zl(l':Nat)(ts:List T)(i:Nat):(ts.map (cu l')).getD i .undef=cu l' (ts.getD i .undef):=by
 simp only[List.getD_eq_getElem?_getD,List.getElem?_map]
 cases ts[i]? <;>rfl
theorem BJ{l':Nat}{σ:St}{x:ag}(h:fi (x.get σ)=false):x.get (σ.cu l')=x.get σ:=by
 cases x with
 |c t=>rfl
 |r i=>simp only[ag.get,St.cu,zl]at h⊢;exact pf h
 |x i=>simp only[ag.get,St.cu,zl]at h⊢;exact pf h
theorem Oy{l':Nat}{σ:St}{x:ag}(h:∀t,x≠ .c t):x.get (σ.cu l')=cu l' (x.get σ):=by
 cases x with
 |c t=>exact absurd rfl (h t)
 |r i=>simp only[ag.get,St.cu,zl]
 |x i=>simp only[ag.get,St.cu,zl]
theorem GV(s l':Nat)(ts:List T):aR s (ts.map (cu l'))=aR s ts:=by
 induction ts with
 |nil=>rfl
 |cons t ts ih=>
  simp only[List.map_cons,aR,ih]
  cases h:fi t with
  |true=>
   obtain⟨l,a,b,rfl⟩:=FX h
   rw[yr h];rfl
  |false=>rw[pf h]
theorem qZ{C:FuncId→List T→Option T}{σ:St}{o:IOp}{p:T×St×List (List T)}(l':Nat)(h:mD C σ o=some p):mD C (σ.cu l') o=some (cu l' p.1,p.2.1.cu l',p.2.2)∧p.2.2=[]∧ae C σ o=some (p.1,p.2.1):=by
 unfold mD at h
 split at h<;>try(cases h;done)
 rename_i hr
 obtain⟨⟨t,az⟩,h1,h⟩:=Option.bind_eq_some_iff.1 h
 split at h<;>try(cases h;done)
 rename_i hy
 simp only[Option.some.injEq]at h
 subst h
 simp only[List.all_eq_true,Bool.not_eq_true']at hr
 obtain⟨F,bx,hF,rfl,tv,he⟩:=zZ h1
 have h2:ae C (σ.cu l') o=some (t,⟨(σ.rs.map (cu l')).map F,(σ.vars.map (cu l')).map F,bx⟩):=he _ _ (fun x hx=>BJ (hr x hx)) fun s hs=>by
  have:=tv s hs
  simp only[St.ay,Bool.and_eq_true]at this
  rw[GV,GV];exact this.1
 have h3:(⟨(σ.rs.map (cu l')).map F,(σ.vars.map (cu l')).map F,bx⟩:St)=St.cu l' ⟨σ.rs.map F,σ.vars.map F,bx⟩:=by
  simp only[St.cu,List.map_map,St.mk.injEq,and_true]
  exact⟨List.map_congr_left fun t _=>Ox hF l' t,List.map_congr_left fun t _=>Ox hF l' t⟩
 refine⟨?_,rfl,h1⟩
 unfold mD
 rw[if_pos (by simp only[List.all_eq_true,Bool.not_eq_true'];intro x hx;rw[BJ (hr x hx)];exact hr x hx),h2]
 simp only[Option.bind_some]
 rw[if_neg hy,h3,pf (by simpa using hy)]
theorem aew{C:FuncId→List T→Option T}{l:Nat}{σ:St}{o:IOp}{p:T×St×List (List T)}(l':Nat)(h:rN C l σ o=some p):rN C l' (σ.cu l') o=some (cu l' p.1,p.2.1.cu l',p.2.2):=by
 unfold rN at h
 split at h
 ·rename_i d f as
  split at h
  ·rename_i hy
   split at h<;>try(cases h;done)
   rename_i cG
   have hg:f.get (σ.cu l')=yT l':=by rw[Oy cG,yr hy]
   unfold A8 at h
   split at h<;>try(cases h;done)
   split at h<;>try(cases h;done)
   rename_i eC
   obtain⟨_,_,_,hs,hn⟩:=eC
   simp only[Option.some.injEq]at h
   subst h
   have has:as.map (ag.get (σ.cu l'))=as.map (ag.get σ):=List.map_congr_left fun x hx=>by
    simp only[List.all_eq_true,List.mem_map,forall_exists_index,and_imp,forall_apply_eq_imp_iff₂,Bool.not_eq_true']at hn
    exact BJ (hn x hx)
   unfold rN
   simp only
   rw[hg,if_pos (show fi (yT l')=true from rfl),has]
   unfold A8 yT
   simp only
   rw[if_pos ⟨trivial,rfl,rfl,hs,hn⟩]
   rfl
  ·rename_i hy
   have:=qZ l' h
   unfold rN
   simp only
   rw[BJ (by simpa using hy),if_neg hy]
   exact this.1
 ·rename_i t
  split at h<;>try(cases h;done)
  rename_i hy
  simp only[Option.some.injEq]at h
  subst h
  show(if fi t=true then none else some (t,σ.cu l',[]))=_
  rw[if_neg hy,pf (by simpa using hy)]
 ·rename_i a cG
  simp only[Option.some.injEq]at h
  subst h
  unfold rN
  split
  ·rename_i h1;cases h1
  ·rename_i h1;cases h1;exact absurd rfl (cG _)
  ·rename_i h1 h2;cases h2
   rw[Oy fun t ht=>cG t (by rw[ht])]
  ·rename_i h1 h2 h3;exact absurd rfl (h3 a)
 ·rename_i h1 h2 h3
  have:=qZ l' h
  unfold rN
  split
  ·exact absurd rfl (h1 _ _ _)
  ·exact absurd rfl (h2 _)
  ·exact absurd rfl (h3 _)
  ·exact this.1
theorem Rb(l':Nat)(rs:List T)(g:Option (Nat×Bool)):bU (rs.map (cu l')) g=bU rs g:=by
 cases g with
 |none=>rfl
 |some q=>
  obtain⟨j,b⟩:=q
  simp only[bU,List.getElem?_map]
  cases rs[j]? with
  |none=>rfl
  |some t=>
   simp only[Option.map_some]
   cases h:fi t with
   |true=>
    obtain⟨l,a,b',rfl⟩:=FX h
    rw[yr h];rfl
   |false=>rw[pf h]
theorem HB{C:FuncId→List T→Option T}{l:Nat}(l':Nat):∀(il:List (Option (Nat×Bool)×IOp)) (σ:St) (q:St×List (List T)),nm C l σ il=some q→nm C l' (σ.cu l') il=some (q.1.cu l',q.2)
 | [],σ,q,h=>by
  simp only[nm,Option.some.injEq]at h⊢
  subst h;rfl
 |(g,o)::il,σ,q,h=>by
  simp only[nm]at h⊢
  obtain⟨go,hg,h⟩:=Option.bind_eq_some_iff.1 h
  rw[show(σ.cu l').rs=σ.rs.map (cu l')from rfl,Rb,hg]
  simp only[Option.bind_some]
  cases go with
  |true=>
   simp only[if_true]at h⊢
   obtain⟨p,hp,h⟩:=Option.bind_eq_some_iff.1 h
   obtain⟨q',hq,rfl⟩:=Option.map_eq_some_iff.1 h
   have h2:=HB l' il _ _ hq
   rw[aew l' hp]
   simp only[Option.bind_some]
   have e:({p.2.1.cu l' with rs:=(p.2.1.cu l').rs++[cu l' p.1]}:St)=St.cu l' {p.2.1 with rs:=p.2.1.rs++[p.1]}:=by simp[St.cu]
   rw[e,h2]
   rfl
  |false=>
   simp only[Bool.false_eq_true,if_false]at h⊢
   have h2:=HB l' il _ _ h
   have e:({σ.cu l' with rs:=σ.rs.map (cu l')++[T.bJ]}:St)=St.cu l' {σ with rs:=σ.rs++[T.bJ]}:=by simp[St.cu,Vi.cu,fi,T.bJ,Go.undef]
   rw[e,h2]
theorem LM(l':Nat):cu l' .undef= .undef:=rfl
theorem Ul(s l':Nat)(ts:List T):aR s (ts.map (cu l'))=aR s ts:=by
 induction ts with
 |nil=>rfl
 |cons t ts ih=>
  simp only[List.map_cons,aR,ih]
  cases h:fi t with
  |true=>
   obtain⟨l,a,b,rfl⟩:=FX h
   rw[yr h];rfl
  |false=>rw[pf h]
theorem DN(l':Nat):∀(ss:List Nat) (σ σ':St),cB ss σ=some σ'→cB ss (σ.cu l')=some (σ'.cu l')
 | [],σ,σ',h=>by
  simp only[cB,Option.some.injEq]at h⊢
  subst h;rfl
 |s::ss,σ,σ',h=>by
  simp only[cB]at h⊢
  split at h<;>try(cases h;done)
  rename_i hn
  have e:(σ.cu l').ay s=σ.ay s:=by simp only[St.ay,St.cu,Ul]
  rw[e,if_pos hn]
  exact DN l' ss _ _ h
theorem ET(l':Nat):∀(vs:List Nat) (vars:List T),er vs (vars.map (cu l'))=(er vs vars).map (cu l')
 | [],_=>rfl
 |v::vs,vars=>by
  simp only[er]
  rw[←ET l' vs,List.map_set,LM]
theorem Um(l':Nat)(rs vars:List T)(outs:List (Option Nat)):fJ (rs.map (cu l')) (vars.map (cu l')) outs=(fJ rs vars outs).map (cu l'):=by
 unfold fJ
 rw[List.zipWith_map_left,List.map_zipWith]
 congr 1
 funext t o
 cases o with
 |none=>rfl
 |some j=>exact zl l' rs j
theorem abB(l':Nat)(σ:St)(c:ag)(t:Bool)(h:c.get σ= .v (.bool t)):c.get (σ.cu l')= .v (.bool t):=by
 rw[BJ (by rw[h];rfl),h]
theorem LN{f f':St→Option (Out×List (List T))}{l':Nat}(hf:∀σ q,f σ=some q→f' (σ.cu l')=some (q.1.cu l',q.2)):∀(n:Nat) (σ:St) (q:Out×List (List T)),kr f n σ=some q→kr f' n (σ.cu l')=some (q.1.cu l',q.2)
 |0,σ,q,h=>by simp[kr]at h
 |n+1,σ,q,h=>by
  simp only[kr]at h⊢
  split at h
  ·rename_i σ' ys h1
   obtain⟨q',hq,rfl⟩:=Option.map_eq_some_iff.1 h
   rw[hf _ _ h1]
   simp only[Out.cu,LN hf n _ _ hq,Option.map_some]
  ·rename_i hne
   rw[hf _ _ h]
   obtain⟨o,ys⟩:=q
   cases o with
   |norm σ'=>exact absurd h (hne σ' ys)
   |exit j σ'=>rfl
   |ret σ'=>rfl
theorem Xs{C:FuncId→List T→Option T}{l N:Nat}(l':Nat):∀(ic:IC) (σ:St) (q:Out×List (List T)),aS C l N ic σ=some q→aS C l' N ic (σ.cu l')=some (q.1.cu l',q.2):=by
 intro ic
 induction ic with
 |skip=>intro σ q h;simp only[aS,Option.some.injEq]at h⊢;subst h;rfl
 |A5 r=>
  intro σ q h
  simp only[aS]at h⊢
  obtain⟨q',hq,h⟩:=Option.bind_eq_some_iff.1 h
  split at h<;>try(cases h;done)
  rename_i sn
  simp only[Option.some.injEq]at h
  subst h
  have:=HB l' _ _ _ hq
  have e:({σ.cu l' with rs:=[]}:St)=St.cu l' {σ with rs:=[]}:=rfl
  rw[e,this]
  simp only[Option.bind_some]
  rw[if_neg sn]
  simp only[Out.cu,St.cu,Um,List.map_nil]
 |seq a b za Sf=>
  intro σ q h
  simp only[aS]at h⊢
  split at h
  ·rename_i σ' ys h1
   obtain⟨q',hq,rfl⟩:=Option.map_eq_some_iff.1 h
   rw[za _ _ h1]
   simp only[Out.cu,Sf _ _ hq,Option.map_some]
  ·rename_i hne
   rw[za _ _ h]
   obtain⟨o,ys⟩:=q
   cases o with
   |norm σ'=>exact absurd h (hne σ' ys)
   |exit j σ'=>rfl
   |ret σ'=>rfl
 |cond c a b za Sf=>
  intro σ q h
  simp only[aS]at h⊢
  split at h<;>try(cases h;done)
  rename_i t ht
  rw[abB l' σ c t ht]
  cases t with
  |true=>exact za _ _ (by simpa using h)
  |false=>exact Sf _ _ (by simpa using h)
 |block id a za=>
  intro σ q h
  simp only[aS]at h⊢
  split at h
  ·rename_i j σ' ys h1
   rw[za _ _ h1]
   simp only[Out.cu]
   split at h
   ·rename_i hj;rw[if_pos hj];simp only[Option.some.injEq]at h⊢;subst h;rfl
   ·rename_i hj;rw[if_neg hj];simp only[Option.some.injEq]at h⊢;subst h;rfl
  ·rename_i hne
   rw[za _ _ h]
   obtain⟨o,ys⟩:=q
   cases o with
   |norm σ'=>rfl
   |exit j σ'=>exact absurd h (hne j σ' ys)
   |ret σ'=>rfl
 |loop a za=>
  intro σ q h
  simp only[aS]at h⊢
  exact LN za N σ q h
 |kT a za=>
  intro σ q h
  simp only[aS]at h⊢
  split at h
  ·rename_i j σ' ys h1
   rw[za _ _ h1]
   simp only[Out.cu]
   split at h<;>try(cases h;done)
   rename_i hj;rw[if_pos hj];simp only[Option.some.injEq]at h⊢;subst h;rfl
  ·rename_i hne
   rw[za _ _ h]
   obtain⟨o,ys⟩:=q
   cases o with
   |norm σ'=>rfl
   |exit j σ'=>exact absurd h (hne j σ' ys)
   |ret σ'=>rfl
 |exit id=>intro σ q h;simp only[aS,Option.some.injEq]at h⊢;subst h;rfl
 |ret=>intro σ q h;simp only[aS,Option.some.injEq]at h⊢;subst h;rfl
 |kill vs=>
  intro σ q h
  simp only[aS,Option.some.injEq]at h⊢
  subst h
  simp only[Out.cu,St.cu,ET]
 |free ss=>
  intro σ q h
  simp only[aS]at h⊢
  obtain⟨σ',h1,rfl⟩:=Option.map_eq_some_iff.1 h
  rw[DN l' _ _ _ h1]
  rfl
 |jumps id a b=>intro σ q h;simp[aS]at h
 |range K g ps a b=>intro σ q h;simp[aS]at h
theorem Un{C:FuncId→List T→Option T}{N l:Nat}{fn:aC}{caps:List T}{ys:List (List T)}(h:rO C N l fn caps=some ys)(l':Nat):rO C N l' fn caps=some ys:=by
 unfold rO at h⊢
 split at h<;>try(cases h;done)
 rename_i eC
 rw[if_pos eC]
 have TZ:caps.map (cu l')=caps:=by
  conv=>rhs;rw[←List.map_id caps]
  refine List.map_congr_left fun t ht=> ?_
  have:=List.all_eq_true.1 eC.2.1 t ht
  exact pf (by simpa using this)
 have key:∀q,aS C l N fn.body ⟨[],yT l::caps++List.replicate (fn.kj-fn.nparams) .undef,List.replicate (2*fn.eK) none⟩=some q→
   aS C l' N fn.body ⟨[],yT l'::caps++List.replicate (fn.kj-fn.nparams) .undef,List.replicate (2*fn.eK) none⟩=some (q.1.cu l',q.2):=fun q hq=>by
  have:=Xs l' _ _ _ hq
  simp only[St.cu,List.map_nil,List.cons_append,List.map_cons,List.map_append,TZ,List.map_replicate,LM]at this
  exact this
 split at h<;>try(cases h;done)
 ·rename_i σ Lp h1
  rw[key _ h1]
  exact h
 ·rename_i σ Lp h1
  rw[key _ h1]
  exact h
end Go.Vi
end
