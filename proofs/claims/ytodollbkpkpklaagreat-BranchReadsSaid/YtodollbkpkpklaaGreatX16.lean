/-
  A claim's own text, joined by a small program out of: Vj15b, Vj15c, Vj15d, Vj16, Vj16b, Vj16c, Vj17, Vj18, Vj19, Vj20, Vj20b, Vj21, Vj21b, Vj22, Vj23, Vj24.
-/
import Derived.Test.YtodollbkpkpklaaGreatX15
import Derived.ScopeJumps
import Derived.OrdersIn
set_option linter.unusedVariables false
set_option linter.unusedSimpArgs false
section
namespace Go.Vi
open Go Go.RowKit
section
variable{F:Fence}{n:Nat}{P:Program}{b:Frame}{a:Act}{k:List Item}{cs:List Frame}{w:World}{Q:Exit→Act→World→Prop}
theorem Gf{c:Code}:step P (lone (b.atR a (.code (.scope c)::k)) cs w)= .next (lone (b.atR a (.code c:: .inScope c::k)) cs w):=
 step_lone_go (by simp[stepG,stepG.exec,Frame.atR])
theorem C7{c:Code}:step P (lone (b.atR a (.inScope c::k)) cs w)= .next (lone (b.atR a k) cs w):=
 step_lone_go (by simp[stepG,stepG.exec,Frame.atR])
theorem G7{c rest:Code}(l:Nat)(J:Nat→Act→World→Prop)(N:Nat)(hf:findLabel c l=some rest)
  (first:c.wpIn F n P (Exit.jump l (J N) Q) a w) (j0:∀a w,¬J 0 a w)
  (pass:∀m a w,J (m+1) a w→rest.wpIn F n P (Exit.jump l (J m) Q) a w):(Code.scope c).wpIn F n P Q a w:=by
 intro b k cs Gg hb hr
 have hg:gotoIn l (.inScope c::k)=some (.code rest:: .inScope c::k):=by simp[gotoIn,hf]
 have out:∀{m:Machine} {e:Exit} {a1:Act} {w1:World},(∀l',e≠ .goto l')→ArrivesIn (Machine.fenced P F) P m b (.inScope c::k) cs e a1 w1→ArrivesIn (Machine.fenced P F) P m b k cs e a1 w1:=by
  intro m e a1 w1 hne kr
  cases e with
  |normal=>exact StepsIn.trans kr (.one (fenced_calm hb hr rfl) C7)
  |exit id=>exact kr
  |goto l'=>exact absurd rfl (hne l')
  |ret=>exact kr
  |panic ch=>exact kr
  |outgrown=>exact kr
 have key:∀m a w,J m a w→∃e a' w',Q e a' w'∧ArrivesIn (Machine.fenced P F) P (lone (b.atR a (.code rest:: .inScope c::k)) cs w) b k cs e a' w':=by
  intro m
  induction m with
  |zero=>intro a w h;exact absurd h (j0 a w)
  |succ m ih=>
   intro a w hJ
   obtain⟨e,oc,od,hq,kr⟩:=pass m a w hJ b (.inScope c::k) cs Gg hb hr
   cases e with
   |goto l'=>
    obtain⟨rfl,hJ'⟩:=hq
    obtain⟨aa2,aa3,aa4,TI,JL⟩:=ih oc od hJ'
    exact⟨aa2,aa3,aa4,TI,.of_steps (kr.1 _ hg) JL⟩
   |normal=>exact⟨_,oc,od,hq,out (fun _ h=>by cases h) kr⟩
   |exit id=>exact⟨_,oc,od,hq,out (fun _ h=>by cases h) kr⟩
   |ret=>exact⟨_,oc,od,hq,out (fun _ h=>by cases h) kr⟩
   |panic ch=>exact⟨_,oc,od,hq,out (fun _ h=>by cases h) kr⟩
   |outgrown=>exact⟨_,oc,od,hq,out (fun _ h=>by cases h) kr⟩
 obtain⟨e,oc,od,hq,kr⟩:=first b (.inScope c::k) cs Gg hb hr
 have h0:StepsIn (Machine.fenced P F) P (lone (b.atR a (.code (.scope c)::k)) cs w) (lone (b.atR a (.code c:: .inScope c::k)) cs w):= .one (fenced_calm hb hr rfl) Gf
 cases e with
 |goto l'=>
  obtain⟨rfl,hJ'⟩:=hq
  obtain⟨aa2,aa3,aa4,TI,JL⟩:=key _ oc od hJ'
  exact⟨aa2,aa3,aa4,TI,.of_steps (StepsIn.trans h0 (kr.1 _ hg)) JL⟩
 |normal=>exact⟨_,oc,od,hq,.of_steps h0 (out (fun _ h=>by cases h) kr)⟩
 |exit id=>exact⟨_,oc,od,hq,.of_steps h0 (out (fun _ h=>by cases h) kr)⟩
 |ret=>exact⟨_,oc,od,hq,.of_steps h0 (out (fun _ h=>by cases h) kr)⟩
 |panic ch=>exact⟨_,oc,od,hq,.of_steps h0 (out (fun _ h=>by cases h) kr)⟩
 |outgrown=>exact⟨_,oc,od,hq,.of_steps h0 (out (fun _ h=>by cases h) kr)⟩
theorem lN{c:Code}(h:c.wpIn F n P (Exit.noGoto Q) a w):(Code.scope c).wpIn F n P Q a w:=by
 intro b k cs Gg hb hr
 obtain⟨e,oc,od,hq,kr⟩:=h b (.inScope c::k) cs Gg hb hr
 have h0:StepsIn (Machine.fenced P F) P (lone (b.atR a (.code (.scope c)::k)) cs w) (lone (b.atR a (.code c:: .inScope c::k)) cs w):= .one (fenced_calm hb hr rfl) Gf
 cases e with
 |normal=>exact⟨.normal,oc,od,hq,StepsIn.trans h0 (StepsIn.trans kr (.one (fenced_calm hb hr rfl) C7))⟩
 |exit id=>exact⟨.exit id,oc,od,hq,.of_steps h0 kr⟩
 |goto l=>exact hq.elim
 |ret=>exact⟨_,oc,od,hq,.of_steps h0 kr⟩
 |panic ch=>exact⟨_,oc,od,hq,.of_steps h0 kr⟩
 |outgrown=>exact⟨_,oc,od,hq,.of_steps h0 kr⟩
end
end Go.Vi
end
section
namespace Go.Vi
open Go Go.RowKit
section
variable{P:Program}{w:World}{a:Act}{S:Nat→Nat→Prop}
theorem Ws{g:Operand}{ps:Array Tmp}{assign body:Code}{Q:Exit→Act→World→Prop}{n gf:Nat}{lb:Array Value}{caps:List T}{ys:List (List T)}
  (hg:a.eval g= .func (.func gf) #[] lb) (JM:G3 P gf caps ys) (hS:∀b o,S b o→b< w.heap.size) (D2:lb.size=caps.length) (TJ:∀(i:Nat) (x:Value) (t:T),lb[i]? =some x→caps[i]? =some t→ak S w bj cz x t)
  (NI:∀y∈ys,y.length=ps.size) (I:Nat→(Nat→Prop)→World→Prop)
  (h0:∀o,I 0 (fun _=>False) ((w.alloc (.deferred (some []))).alloc (.loop o)))
  (hstep:∀k own sW W W',I k own W→(∀b,own b→w.heap.size+2≤b∧b< W.heap.size)→w.heap.size+2≤W.heap.size→IterStep own sW W W'→I k sW W')
  (A9:∀k y own W (xs:Array Value) m,ys[k]? =some y→I k own W→(∀b,own b→w.heap.size+2≤b∧b< W.heap.size)→(∃r,W.heap[w.heap.size+1]? =some (.loop r))→W.heap[w.heap.size]? =some (.deferred (some []))→xs.size=y.length→
   (∀(i:Nat) (x:Value) (t:T),xs[i]? =some x→y[i]? =some t→ak S W bj cz x t)→
   assign.wpIn (wd (some (w.heap.size+1))) m P (Exit.then (fun a1 W1=>W1.heap[w.heap.size+1]? =W.heap[w.heap.size+1]? ∧∀o,body.wpIn (wd (some (w.heap.size+1))) m P
    (fun e a3 W3=>e= .normal∧W3.heap[w.heap.size+1]? =some (.loop o)∧W3.heap[w.heap.size]? =some (.deferred (some []))∧∀o',I (k+1) own (W3.putObj (w.heap.size+1) (.loop o'))∧zq S own W (W3.putObj (w.heap.size+1) (.loop o')))
    a1 (W1.putObj (w.heap.size+1) (.loop o))) (fun _ _ _=>False)) {tmps:=(ps.zip xs).foldl (fun t (p,v)=>t.setIfInBounds p v) a.tmps,defers:=[]} W)
  (hdone:∀own W o,I ys.length own W→(∀b,own b→w.heap.size+2≤b∧b< W.heap.size)→(∃r,W.heap[w.heap.size+1]? =some (.loop r))→W.heap[w.heap.size]? =some (.deferred (some []))→
   Q .normal {a with defers:=DY w.heap.size::a.defers} (W.putObj (w.heap.size+1) (.loop o))):
  (Code.rangeFunc g ps assign body).wpIn (wd none) n P Q a w:=by
 obtain⟨iZ,JM⟩:=JM
 refine wpIn_rangeFunc ?_
 intro fn pL
 obtain⟨rec,yA⟩:∃rec:LoopState→Option Code→Loop,rec=fun st pe=>{state:=st,pending:=pe,fn,tmps:=a.tmps,params:=ps,assign,body,defers:=w.heap.size}:=⟨_,rfl⟩
 obtain⟨W1,K7⟩:∃W1,(w.alloc (.deferred (some []))).alloc (.loop (rec .ready none))=W1:=⟨_,rfl⟩
 have ama:W1.heap.size=w.heap.size+2:=by rw[←K7];simp
 have hL1:W1.heap[w.heap.size+1]? =some (.loop (rec .ready none)):=by
  rw[←K7];have:=World.alloc_heap_new (w.alloc (.deferred (some []))) (.loop (rec .ready none));rwa [World.size_alloc]at this
 have hK1:W1.heap[w.heap.size]? =some (.deferred (some [])):=by
  rw[←K7];exact(Below.heap_alloc _ _ _ (by simp)).trans (World.alloc_heap_new w _)
 have oI:I 0 (fun _=>False) W1:=by rw[←K7];exact h0 _
 have lS:Below w.heap.size w W1:=by
  rw[←K7];exact((Below.refl _ w).alloc (Nat.le_refl _) _).alloc (by simp) _
 refine⟨w.heap.size+1,[DY w.heap.size],W1,{target:= .fn (.func gf) lb,args:=#[.func (.yield (w.heap.size+1)) #[] #[]]},W1,gf,
  #[.func (.yield (w.heap.size+1)) #[] #[]]++lb,W1, ?_, ?_,fun _ _=>trivial, ?_,(fun h=>by cases h), ?_⟩
 ·rw[←K7,yA];exact run_enterLoop_outer _ _ _ _ _
 ·simp only[resolve,hg]
  simp[go_sem]
 ·simp only[invoke]
  exact DX iZ
 ·refine(JM (w.heap.size+1) W1 S lb (fun b o h=>by have:=hS b o h;omega) D2 (fun i x t hx ht=>(TJ i x t hx ht).grow hS lS)
   (fun k own W=>I k own W∧W.heap[w.heap.size+1]? =some (.loop (rec .ready none))∧W.heap[w.heap.size]? =some (.deferred (some [])))
   (fun k own sW W W' ⟨hi,hl,hk⟩ hb hs=> ?_) (fun k y own W xs hy ⟨hi,hl,hk⟩ hb KO cj m=> ?_) ⟨oI,hL1,hK1⟩ _).mono ?_
  ·have hlt:=(Array.getElem?_eq_some_iff.1 hl).1
   have hn:∀b,b< w.heap.size+2→¬own b:=fun b hlt h=>by have:=(hb b h).1;omega
   exact⟨hstep k own sW W W' hi (fun b h=>by have:=hb b h;omega) (by omega) hs,(hs.block _ hlt (hn _ (by omega))).trans hl,(hs.block _ (by omega) (hn _ (by omega))).trans hk⟩
  ·have hlt:w.heap.size+1< W.heap.size:=(Array.getElem?_eq_some_iff.1 hl).1
   have yr:=run_yield (P:=P) (args:=xs) hl (by rw[yA,KO];exact NI y (List.mem_of_getElem? hy))
   rw[yA]at yr
   refine⟨fn,_,assign,body,yr,roundIn_of_wpIn pL ?_⟩
   have hr:=A9 k y own W xs m hy hi (fun b h=>by have:=hb b h;omega) ⟨_,hl⟩ hk KO cj
   refine wpIn_mono hr ?_
   rintro e a1 Wa hp
   cases e<;>try exact hp.elim
   obtain⟨hla,air⟩:=hp
   have amb:Wa.heap[w.heap.size+1]? =some (.loop (rec .ready none)):=hla.trans hl
   refine⟨_,run_beginRound amb (by rw[yA]), ?_⟩
   refine wpIn_mono (air {rec .ready none with state:= .busy}) ?_
   rintro e a3 W3 ⟨rfl,Wt,Gd,aI⟩
   have G8:=run_endRound (P:=P) none Wt
   rw[yA]at G8 Wt
   obtain⟨hi4,hs4⟩:=aI (rec .ready none)
   refine⟨_,_,G8,rfl,⟨?_, ?_, ?_⟩, ?_⟩
   ·have:=hi4
    rw[yA]at this
    exact this
   ·rw[World.putObj_heap_same (Array.getElem?_eq_some_iff.1 Wt).1,yA]
    rfl
   ·exact(World.putObj_heap_other (by omega)).trans Gd
   ·have:=hs4
    rw[yA]at this
    exact this
  ·rintro e W2 ⟨⟨v,rfl⟩,own,nN,hi,hl,hk⟩
   have G8:=run_endLoop (P:=P) hl (by rw[yA];simp)
   rw[yA]at G8
   refine⟨none,_,G8, ?_⟩
   have:=hdone own W2 {rec .ready none with state:= .exhausted} hi (fun b h=>by have:=nN b h;omega) ⟨_,hl⟩ hk
   rw[yA]at this
   exact this
end
end Go.Vi
end
section
namespace Go.Vi
open Go Go.RowKit
section
variable{P:Program}{W:dg}{w:World}{S0 S:Nat→Nat→Prop}{β:aY}{φ:bw}{bx:List (Option (List T))}
theorem ja{w:World}{l:Nat}{o:Obj}(o':Obj)(h:w.heap[l]? =some o)(hc:o.isCells=false):cg w (w.putObj l o'):=
 jW (g:=l) (fun b _ hb=>World.putObj_heap_other hb) fun k ⟨cc,e,h1,_⟩=>by rw[h]at h1;cases h1;cases hc
theorem Inv.RV(h:Inv P W S0 S β φ bx w){w':World}{X':Nat→Prop}{S0':Nat→Nat→Prop}{nb m0:Nat}{β0:aY}(Z:Nat→Prop)
  (hsz:w.heap.size≤w'.heap.size) (hk:∀b,b< w.heap.size→¬Z b→w'.heap[b]? =w.heap[b]?) (hZ:∀b,Z b→W.X b) (ej:∀b o,S b o→∀sp v,w.cell? ⟨b,o,sp⟩=some v→w'.cell? ⟨b,o,sp⟩=some v)
  (hX:∀b,X' b→W.X b∨w.heap.size≤b∨((∀s,β s≠some b)∧∀k x e,φ k=some (x,e)→x.ownBlock≠some b)) (D3:∀b,X' b→b< w'.heap.size) (h0:∀b o,S0' b o→S b o) (yB:∀b o,S b o→S0' b o∨¬X' b)
  (rb:∀s b,nb≤s→β0 s=some b→β s=some b∨bx[s]? =some none) (nK:cg w w'):
  Inv P ⟨w',X',nb,β0,m0⟩ S0' S β φ bx w'∧(∀x t φ,ak S w β φ x t→ak S w' β φ x t)∧∀b o,S b o→∀sp v,w.cell? ⟨b,o,sp⟩=some v→w'.cell? ⟨b,o,sp⟩=some v:=by
 have hm:∀x t φ,ak S w β φ x t→ak S w' β φ x t:=fun x t φ hx=>hx.mono (fun _ _=>id) (fun _ _=>id) (fun _ _=>id) ej nK
 refine⟨⟨⟨rfl,rfl,rfl,Nat.le_refl _,D3,fun _ _=>rfl,cg.refl _⟩,fun b o hs=>Nat.lt_of_lt_of_le (h.lt b o hs) hsz,fun s b hb=> ?_,h.boxed,h.inj,fun k x e cp=> ?_,h.dK,yB,h0,fun _ _ _ _ _ hv=>hv,rb⟩,hm,ej⟩
 ·obtain⟨h1,h2,cs,h3,h4⟩:=h.box s b hb
  have hlt:=h4.lt
  refine⟨fun hx=> ?_,h2,cs,h3,h4.Fi (hk b hlt fun hz=>h1 (hZ b hz)) fun y u=>hm y u φ⟩
  rcases hX b hx with h'|h'|h'
  ·exact h1 h'
  ·omega
  ·exact h'.1 s hb
 ·obtain⟨g,n,c,sz,xs,i,rfl,hi,wZ,ho,h1,h2,h3⟩:=h.fX k x e cp
  have hg:=(ho.lt g rfl).2
  refine⟨g,n,c,sz,xs,i,rfl,hi,wZ,⟨ho.1, ?_⟩,h1,h2,fun hx=> ?_⟩
  ·rcases ho.2 with⟨h',_⟩|⟨g',cap,cur,HQ,mw,eZ,F9,hr⟩
   ·cases h'
   ·simp only[Value.slice.injEq,Option.some.injEq,Addr.mk.injEq]at mw
    obtain⟨⟨rfl,_⟩,_,rfl⟩:=mw
    exact .inr ⟨g,c,cur,HQ,rfl,eZ,(hk g hg fun hz=>h3 (hZ g hz)).trans F9,hr⟩
  ·rcases hX g hx with h'|h'|h'
   ·exact h3 h'
   ·omega
   ·exact h'.2 k _ e cp rfl
theorem Inv.RW(h:Inv P W S0 S β φ bx w){w':World}{X':Nat→Prop}{S0':Nat→Nat→Prop}{nb m0:Nat}{β0:aY}(Z:Nat→Prop)
  (hsz:w.heap.size≤w'.heap.size) (hk:∀b,b< w.heap.size→¬Z b→w'.heap[b]? =w.heap[b]?) (hZ:∀b,Z b→W.X b) (ej:∀b o,S b o→∀sp v,w.cell? ⟨b,o,sp⟩=some v→w'.cell? ⟨b,o,sp⟩=some v)
  (hX:∀b,X' b→W.X b∨w.heap.size≤b) (D3:∀b,X' b→b< w'.heap.size) (h0:∀b o,S0' b o→S b o) (yB:∀b o,S b o→S0' b o∨¬X' b)
  (rb:∀s b,nb≤s→β0 s=some b→β s=some b∨bx[s]? =some none) (nK:cg w w'):
  Inv P ⟨w',X',nb,β0,m0⟩ S0' S β φ bx w'∧(∀x t φ,ak S w β φ x t→ak S w' β φ x t)∧∀b o,S b o→∀sp v,w.cell? ⟨b,o,sp⟩=some v→w'.cell? ⟨b,o,sp⟩=some v:=
 h.RV Z hsz hk hZ ej (fun b hb=>(hX b hb).imp id .inl) D3 h0 yB rb nK
theorem Inv.HZ(h:Inv P W S0 S β φ bx w){w':World}{X':Nat→Prop}{S0':Nat→Nat→Prop}{nb m0:Nat}{β0:aY}(Z:Nat→Prop)
  (hsz:w.heap.size≤w'.heap.size) (hk:∀b,b< w.heap.size→¬Z b→w'.heap[b]? =w.heap[b]?) (hZ:∀b,Z b→W.X b∧∀o,¬S b o)
  (hX:∀b,X' b→W.X b∨w.heap.size≤b) (D3:∀b,X' b→b< w'.heap.size) (h0:∀b o,S0' b o→S b o) (yB:∀b o,S b o→S0' b o∨¬X' b)
  (rb:∀s b,nb≤s→β0 s=some b→β s=some b∨bx[s]? =some none) (nK:cg w w'):
  Inv P ⟨w',X',nb,β0,m0⟩ S0' S β φ bx w'∧(∀x t φ,ak S w β φ x t→ak S w' β φ x t)∧∀b o,S b o→∀sp v,w.cell? ⟨b,o,sp⟩=some v→w'.cell? ⟨b,o,sp⟩=some v:=
 h.RW Z hsz hk (fun b hb=>(hZ b hb).1) (fun b o hs sp v hv=>by
  rw[World.cell?_of_block (w:=w) (hk b (h.lt b o hs) fun hz=>(hZ b hz).2 o hs)]
  exact hv) hX D3 h0 yB rb nK
theorem Core.inv{X:Nat→Prop}(h:Core P X S β φ bx w)(hX:∀b,X b→b< w.heap.size){m0 nb:Nat}:Inv P ⟨w,X,nb,bj,m0⟩ S S β φ bx w:=
 ⟨⟨rfl,rfl,rfl,Nat.le_refl _,hX,fun _ _=>rfl,cg.refl _⟩,h.lt,h.box,h.boxed,h.inj,h.fX,h.dK,fun _ _ h=> .inl h,fun _ _ h=>h,fun _ _ _ _ _ h=>h,fun s b _ h=>by simp[bj]at h⟩
theorem vY(ss:List Nat)(bx:List (Option (List T)))(s:Nat):(iS ss bx)[s]? =if s< bx.length then some (if ss.contains s then(aj bx s).map (ai (fun s=>if ss.contains s then some s else none) fun _=>none)else none)else none:=by
 unfold iS
 rw[List.getElem?_map]
 by_cases h:s< bx.length
 ·rw[List.getElem?_range h,if_pos h];rfl
 ·rw[List.getElem?_eq_none (by simpa using h),if_neg h];rfl
theorem zr(ss:List Nat)(bx:List (Option (List T)))(s:Nat):(xr ss bx)[s]? =if s< bx.length then some (if ss.contains s then none else(aj bx s).map (ai (fun s=>if ss.contains s then none else some s) some))else none:=by
 unfold xr
 rw[List.getElem?_map]
 by_cases h:s< bx.length
 ·rw[List.getElem?_range h,if_pos h];rfl
 ·rw[List.getElem?_eq_none (by simpa using h),if_neg h];rfl
def dq(ss:List Nat)(β:aY):aY:=fun s=>if ss.contains s then β s else none
def pN(ss:List Nat)(β:aY):aY:=fun s=>if ss.contains s then none else β s
theorem Inv.amc(ss:List Nat)(h:Inv P W S0 S β φ bx w){SL:Nat→Nat→Prop}(hS:∀b o,S b o→SL b o)(NJ:∀b o,SL b o→fP S (dq ss β) b o):
  (∀(k:Nat) x t u,ak S w β φ x t→close (iS ss bx) k (t.al (fun s=>if ss.contains s then some s else none) fun _=>none)=some u→ak (fP S (dq ss β)) w bj cz x u)∧
  Inv P W S0 SL (pN ss β) φ (xr ss bx) w∧
  (∀x t,ak S w β φ x t→ak SL w (pN ss β) cz x (t.al (fun s=>if ss.contains s then none else some s) fun _=>none))∧(∀b o,fP S (dq ss β) b o→S b o∨∃s,dq ss β s=some b∧β s=some b):=by
 have nO:∀s b,dq ss β s=some b→ss.contains s=true∧β s=some b:=fun s b hb=>by
  unfold dq at hb
  split at hb
  ·rename_i hs;exact⟨hs,hb⟩
  ·cases hb
 have D2:∀s b,pN ss β s=some b→ss.contains s=false∧β s=some b:=fun s b hb=>by
  unfold pN at hb
  split at hb
  ·cases hb
  ·rename_i hs;exact⟨by simpa using hs,hb⟩
 have hm:∀{η:Nat→Option Nat} {φ':bw} x t,(∀k k' p,η k=some k'→φ k=some p→φ' k'=some p)→ak S w β φ x t→ak SL w (pN ss β) φ' x (t.al (fun s=>if ss.contains s then none else some s) η):=fun x t NB hx=>
  (hx.mono hS (fun _ _=>id) (fun _ _=>id) (fun _ _ _ _ _=>id) (cg.refl _)).al (fun s s' b h1 h2=>by
   split at h1<;>try(cases h1;done)
   rename_i hs
   simp only[Option.some.injEq]at h1
   subst h1
   unfold pN
   rw[if_neg hs];exact h2) (fun s s' h1=>by
   split at h1<;>try(cases h1;done)
   simp only[Option.some.injEq]at h1
   rw[h1]) NB
 refine⟨fun k x t u hx hu=> ?_, ?_,fun x t hx=>hm x t (fun k k' p h=>by cases h) hx,fun b o hb=>hb.imp id fun⟨s,hs⟩=>⟨s,hs,(nO s b hs).2⟩⟩
 ·obtain⟨h1,h2⟩:=h.core.relabel (X':=fun _=>False) (bx':=iS ss bx) (ρ:=fun s=>if ss.contains s then some s else none) (ρi:=fun s=>if ss.contains s then some s else none) (η:=fun _=>none) (ηi:=fun _=>none)
   (fun s l=>by
    constructor
    ·intro h;split at h<;>try(cases h;done)
     rename_i hs;simp only[Option.some.injEq]at h;subst h;rw[if_pos hs]
    ·intro h;split at h<;>try(cases h;done)
     rename_i hs;simp only[Option.some.injEq]at h;subst h;rw[if_pos hs])
   (fun k k'=>by simp) (fun s l h=>by(split at h<;>try(cases h;done));simp only[Option.some.injEq]at h;rw[h])
   (fun s l cs h1 h2=>by
    split at h1<;>try(cases h1;done)
    rename_i hs
    simp only[Option.some.injEq]at h1
    subst h1
    rw[vY,if_pos (List.getElem?_eq_some_iff.1 h2).1,if_pos hs,eX.2 h2]
    rfl)
   (fun l bW hl=>by
    rw[vY]at hl
    split at hl<;>try(cases hl;done)
    simp only[Option.some.injEq]at hl
    split at hl<;>try(cases hl;done)
    rename_i hs
    obtain⟨cs,aG,rfl⟩:=Option.map_eq_some_iff.1 hl
    exact .inr ⟨l,cs,by rw[if_pos hs],eX.1 aG,rfl⟩)
   (fun b hb=>hb.elim)
  have e:(fun l=>((if ss.contains l then some l else none:Option Nat)).bind β)=dq ss β:=by
   funext s
   unfold dq
   split<;>rfl
  rw[e]at h1 h2
  exact Ae (h1.inv (fun b hb=>hb.elim) (m0:=0) (nb:=0)) k x _ u (h2 x t hx) hu
 ·refine⟨h.below,fun b o hb=> ?_,fun s b hb=> ?_,fun s cs hs=> ?_,fun s s' b hb eZ=>h.inj s s' b (D2 s b hb).2 (D2 s' b eZ).2,fun k x e hk=> ?_,h.dK,fun b o hb=> ?_,fun b o h0=>hS _ _ (h.base b o h0),h.stay,fun s b hn h0=> ?_⟩
  ·rcases NJ _ _ hb with hb|⟨s,hs⟩
   ·exact h.lt b o hb
   ·exact h.vE (nO s b hs).2
  ·obtain⟨hs,hb⟩:=D2 s b hb
   obtain⟨h1,h2,cs,h3,h4⟩:=h.box s b hb
   refine⟨h1,fun o ho=> ?_,ai (fun s=>if ss.contains s then none else some s) some cs, ?_, ?_⟩
   ·rcases NJ _ _ ho with ho|⟨s',ft⟩
    ·exact h2 o ho
    ·obtain⟨hc,eZ⟩:=nO s' b ft
     have:=h.inj s s' b hb eZ
     subst this
     rw[hs]at hc;cases hc
   ·rw[zr,if_pos (List.getElem?_eq_some_iff.1 h3).1,if_neg (by rw[hs];simp),eX.2 h3]
    rfl
   ·rw[br]
    exact h4.mono rfl fun y u hy=>hm y u (fun k k' p h1 h2=>by simp only[Option.some.injEq]at h1;subst h1;exact h2) hy
  ·rw[zr]at hs
   split at hs<;>try(cases hs;done)
   simp only[Option.some.injEq]at hs
   split at hs<;>try(cases hs;done)
   rename_i hc
   obtain⟨HY,No,rfl⟩:=Option.map_eq_some_iff.1 hs
   refine(h.boxed s HY (eX.1 No)).imp (fun e=>by rw[e];rfl) fun⟨b,hb⟩=>⟨b, ?_⟩
   unfold pN
   rw[if_neg hc];exact hb
  ·obtain⟨g,n,c,sz,xs,i,h1,h2,h3,h4,h5,h6,h7⟩:=h.fX k x e hk
   refine⟨g,n,c,sz,xs,i,h1,h2,h3,h4,fun o ho=> ?_,fun s hs=>h6 s (D2 s g hs).2,h7⟩
   rcases NJ _ _ ho with ho|⟨s,hs⟩
   ·exact h5 o ho
   ·exact absurd (nO s g hs).2 (h6 s)
  ·rcases NJ _ _ hb with hb|⟨s,hs⟩
   ·exact h.top b o hb
   ·exact .inr (h.box s b (nO s b hs).2).1
  ·by_cases hs:ss.contains s=true
   ·refine .inr ?_
    have hlt:s< bx.length:=by
     rcases h.pJ s b hn h0 with hb|hb
     ·obtain⟨_,_,cs,h3,_⟩:=h.box s b hb
      exact(List.getElem?_eq_some_iff.1 h3).1
     ·exact(List.getElem?_eq_some_iff.1 hb).1
    rw[zr,if_pos hlt,if_pos hs]
   ·rcases h.pJ s b hn h0 with hb|hb
    ·refine .inl ?_
     unfold pN
     rw[if_neg hs];exact hb
    ·refine .inr ?_
     rw[zr,if_pos (List.getElem?_eq_some_iff.1 hb).1,if_neg hs]
     have:aj bx s=none:=by unfold aj;rw[hb];rfl
     rw[this];rfl
theorem vZ(ss:List Nat)(Tq bx:List (Option (List T)))(s:Nat):(o8 ss Tq bx)[s]? =if s< bx.length then some (if ss.contains s then aj Tq s else aj bx s)else none:=by
 unfold o8
 rw[List.getElem?_map]
 by_cases h:s< bx.length
 ·rw[List.getElem?_range h,if_pos h];rfl
 ·rw[List.getElem?_eq_none (by simpa using h),if_neg h];rfl
theorem Inv.aa5(ss:List Nat)(h:Inv P W S0 S β φ bx w){w':World}{Xk X':Nat→Prop}{nb m0:Nat}{β0 β':aY}{S0' S':Nat→Nat→Prop}{φ':bw}{bx':List (Option (List T))}
  (J:Inv P ⟨w',Xk,nb,β0,m0⟩ S0' S' β' φ' bx' w') (BW:∀s,ss.contains s=true→bx'[s]? =some none) (hS:∀b o,S b o→S' b o)
  (ej:∀b o,S b o→∀sp v,w.cell? ⟨b,o,sp⟩=some v→w'.cell? ⟨b,o,sp⟩=some v) (nK:cg w w') (jj:∀s b,dq ss β s=some b→w'.heap[b]? =w.heap[b]?)
  (hL:∀s b,dq ss β s=some b→Xk b) (hnS:∀s b o,dq ss β s=some b→¬S' b o) (hX:∀b,X' b→Xk b) (hX2:∀s b,dq ss β s=some b→¬X' b)
  (rb:∀s b,nb≤s→β0 s=some b→β s=some b∨bx[s]? =some none):
  ∃pO,Inv P ⟨w',X',nb,β0,m0⟩ S0' S' pO φ' (o8 ss (iS ss bx) bx') w'∧∀x t ψ,ak S' w' β' ψ x t→ak S' w' pO ψ x t:=by
 have nO:∀s b,dq ss β s=some b→ss.contains s=true∧β s=some b:=fun s b hb=>by
  unfold dq at hb
  split at hb
  ·rename_i hs;exact⟨hs,hb⟩
  ·cases hb
 have hno:∀s b,β' s=some b→ss.contains s=false:=fun s b hb=>by
  obtain⟨_,_,cs,h3,_⟩:=J.box s b hb
  cases hs:ss.contains s with
  |false=>rfl
  |true=>rw[BW s hs]at h3;cases h3
 obtain⟨pO,jh⟩:∃pO:aY,pO=fun s=>if ss.contains s then dq ss β s else β' s:=⟨_,rfl⟩
 have h1:∀s b,pO s=some b→(ss.contains s=true∧dq ss β s=some b∧β s=some b)∨(ss.contains s=false∧β' s=some b):=fun s b hb=>by
  rw[jh]at hb
  simp only at hb
  split at hb
  ·rename_i hs;exact .inl ⟨hs,hb,(nO s b hb).2⟩
  ·rename_i hs;exact .inr ⟨by simpa using hs,hb⟩
 have h2:∀s b,dq ss β s=some b→pO s=some b:=fun s b hb=>by rw[jh];simp only;rw[if_pos (nO s b hb).1];exact hb
 have h3:∀s b,β' s=some b→pO s=some b:=fun s b hb=>by rw[jh];simp only;rw[if_neg (by rw[hno s b hb];simp)];exact hb
 have Fh:∀s b,dq ss β s=some b→s< bx'.length:=fun s b hb=>(List.getElem?_eq_some_iff.1 (BW s (nO s b hb).1)).1
 have hmk:∀x t,ak S w β φ x t→ak S' w' pO φ' x (t.al (fun s=>if ss.contains s then some s else none) fun _=>none):=fun x t hx=>
  (hx.mono (w':=w') hS (fun _ _=>id) (fun _ _=>id) ej nK).al (fun s s' b g1 g2=>by
   split at g1<;>try(cases g1;done)
   rename_i hs
   simp only[Option.some.injEq]at g1
   subst g1
   refine h2 s b ?_
   unfold dq
   rw[if_pos hs];exact g2) (fun s s' g1=>by
   split at g1<;>try(cases g1;done)
   simp only[Option.some.injEq]at g1
   rw[g1]) (fun k k' p g1=>by cases g1)
 have xf:∀x t ψ,ak S' w' β' ψ x t→ak S' w' pO ψ x t:=fun x t ψ hx=>hx.mono (fun _ _=>id) h3 (fun _ _=>id) (fun _ _ _ _ _=>id) (cg.refl _)
 refine⟨pO,⟨⟨rfl,rfl,rfl,Nat.le_refl _,fun b hb=>J.below.lt b (hX b hb),fun _ _=>rfl,cg.refl _⟩,J.lt,fun s b hb=> ?_,fun s cs hs=> ?_,fun s s' b hb eZ=> ?_,fun k x e hk=> ?_,J.dK,fun b o hb=> ?_,J.base,fun _ _ _ _ _ hv=>hv,fun s b hn h0=> ?_⟩,xf⟩
 ·rcases h1 s b hb with⟨g1,g2,g3⟩|⟨g1,g2⟩
  ·obtain⟨_,_,cs,k3,k4⟩:=h.box s b g3
   refine⟨hX2 s b g2,fun o=>hnS s b o g2,ai (fun s=>if ss.contains s then some s else none) (fun _=>none) cs, ?_, ?_⟩
   ·rw[vZ,if_pos (Fh s b g2),if_pos g1]
    unfold aj
    rw[vY,if_pos (List.getElem?_eq_some_iff.1 k3).1,if_pos g1,eX.2 k3]
    rfl
   ·rw[br]
    exact k4.mono (jj s b g2) hmk
  ·obtain⟨k1,k2,cs,k3,k4⟩:=J.box s b g2
   refine⟨fun hx=>k1 (hX b hx),k2,cs, ?_,k4.Fi rfl fun y u=>xf y u φ'⟩
   rw[vZ,if_pos (List.getElem?_eq_some_iff.1 k3).1,if_neg (by rw[g1];simp),eX.2 k3]
 ·rw[vZ]at hs
  split at hs<;>try(cases hs;done)
  simp only[Option.some.injEq]at hs
  split at hs
  ·rename_i hc
   unfold aj at hs
   rw[vY]at hs
   split at hs<;>try(cases hs;done)
   try rw[if_pos hc]at hs
   simp only[Option.join_some]at hs
   obtain⟨HY,No,rfl⟩:=Option.map_eq_some_iff.1 hs
   refine(h.boxed s HY (eX.1 No)).imp (fun e=>by rw[e];rfl) fun⟨b,hb⟩=>⟨b,h2 s b ?_⟩
   unfold dq
   rw[if_pos hc];exact hb
  ·exact(J.boxed s cs (eX.1 hs)).imp id fun⟨b,hb⟩=>⟨b,h3 s b hb⟩
 ·rcases h1 s b hb with⟨g1,g2,g3⟩|⟨g1,g2⟩<;>rcases h1 s' b eZ with⟨k1,k2,k3⟩|⟨k1,k2⟩
  ·exact h.inj s s' b g3 k3
  ·exact absurd (hL s b g2) (J.box s' b k2).1
  ·exact absurd (hL s' b k2) (J.box s b g2).1
  ·exact J.inj s s' b g2 k2
 ·obtain⟨g,n,c,sz,xs,i,k1,k2,k3,k4,k5,k6,k7⟩:=J.fX k x e hk
  refine⟨g,n,c,sz,xs,i,k1,k2,k3,k4,k5,fun s hs=> ?_,fun hx=>k7 (hX g hx)⟩
  rcases h1 s g hs with⟨g1,g2,g3⟩|⟨g1,g2⟩
  ·exact k7 (hL s g g2)
  ·exact k6 s g2
 ·exact(J.top b o hb).imp id fun hn hx=>hn (hX b hx)
 ·by_cases hs:ss.contains s=true
  ·rcases rb s b hn h0 with hb|hb
   ·refine .inl (h2 s b ?_)
    unfold dq
    rw[if_pos hs];exact hb
   ·refine .inr ?_
    rw[vZ,if_pos (List.getElem?_eq_some_iff.1 (BW s hs)).1,if_pos hs]
    unfold aj
    rw[vY,if_pos (List.getElem?_eq_some_iff.1 hb).1,if_pos hs]
    have:aj bx s=none:=by unfold aj;rw[hb];rfl
    rw[this];rfl
  ·rcases J.pJ s b hn h0 with hb|hb
   ·exact .inl (h3 s b hb)
   ·refine .inr ?_
    rw[vZ,if_pos (List.getElem?_eq_some_iff.1 hb).1,if_neg hs]
    have:aj bx' s=none:=by unfold aj;rw[hb];rfl
    rw[this]
def iA(K:Nat)(β:aY):aY:=fun s=>if K≤s then β (s-K)else none
theorem BZ(K:Nat)(bx:List (Option (List T)))(s:Nat):(dS K bx)[s]? =if K≤s then(bx[s-K]?).map (Option.map (ai (fun s=>some (s+K)) some))else some none:=by
 unfold dS
 rw[List.getElem?_append]
 simp only[List.length_replicate]
 by_cases h:K≤s
 ·rw[if_neg (by omega),if_pos h,List.getElem?_map]
 ·rw[if_pos (by omega),if_neg h,List.getElem?_replicate,if_pos (by omega)]
theorem yC(K:Nat)(bx:List (Option (List T)))(s:Nat):(bK K bx)[s]? =(bx[s+K]?).map (Option.map (ai (fun s=>if K≤s then some (s-K)else none) some)):=by
 unfold bK
 rw[List.getElem?_map,List.getElem?_drop,Nat.add_comm]
theorem Core.shift{X:Nat→Prop}(h:Core P X S β φ bx w){K:Nat}(hK:K%2=0):Core P X S (iA K β) φ (dS K bx) w∧∀x t,ak S w β φ x t→ak S w (iA K β) φ x (t.al (fun s=>some (s+K)) some):=by
 obtain⟨h1,h2⟩:=h.relabel (X':=X) (bx':=dS K bx) (ρ:=fun s=>some (s+K)) (ρi:=fun s=>if K≤s then some (s-K)else none) (η:=some) (ηi:=some)
  (fun l s=>by
   simp only[Option.some.injEq]
   constructor
   ·intro h;subst h;rw[if_pos (by omega)];congr 1;omega
   ·intro h;split at h
    ·simp only[Option.some.injEq]at h;omega
    ·cases h)
  (fun k k'=>by simp[eq_comm]) (fun l s h=>by simp only[Option.some.injEq]at h;omega)
  (fun l s cs h1 h2=>by
   simp only[Option.some.injEq]at h1
   subst h1
   rw[BZ,if_pos (by omega),Nat.add_sub_cancel,h2]
   rfl)
  (fun s bW h=>by
   rw[BZ]at h
   split at h
   ·obtain⟨o,ho,h⟩:=Option.map_eq_some_iff.1 h
    obtain⟨cs,rfl,rfl⟩:=Option.map_eq_some_iff.1 h
    exact .inr ⟨s-K,cs,by congr 1;omega,ho,rfl⟩
   ·cases h)
  (fun b hb=> .inl hb)
 have e:(fun l=>((if K≤l then some (l-K)else none:Option Nat)).bind β)=iA K β:=by
  funext s
  unfold iA
  split<;>rfl
 rw[e]at h1 h2
 exact⟨h1,h2⟩
theorem Core.ad1{X:Nat→Prop}(h:Core P X S β φ bx w){K:Nat}(hK:K%2=0):Core P X S (fun s=>β (s+K)) φ (bK K bx) w:=by
 obtain⟨h1,_⟩:=h.relabel (X':=X) (bx':=bK K bx) (ρ:=fun s=>if K≤s then some (s-K)else none) (ρi:=fun s=>some (s+K)) (η:=some) (ηi:=some)
  (fun l s=>by
   simp only[Option.some.injEq]
   constructor
   ·intro h;split at h
    ·simp only[Option.some.injEq]at h;omega
    ·cases h
   ·intro h;subst h;rw[if_pos (by omega)];congr 1;omega)
  (fun k k'=>by simp[eq_comm]) (fun l s h=>by
   split at h<;>try(cases h;done)
   simp only[Option.some.injEq]at h;omega)
  (fun l s cs h1 h2=>by
   split at h1<;>try(cases h1;done)
   simp only[Option.some.injEq]at h1
   subst h1
   rw[yC,Nat.sub_add_cancel (by assumption),h2]
   rfl)
  (fun s bW h=>by
   rw[yC]at h
   obtain⟨o,ho,h⟩:=Option.map_eq_some_iff.1 h
   obtain⟨cs,rfl,rfl⟩:=Option.map_eq_some_iff.1 h
   exact .inr ⟨s+K,cs,by rw[if_pos (by omega)];congr 1;omega,ho,rfl⟩)
  (fun b hb=> .inl hb)
 exact h1
theorem Gh{vm:List Nat}{nt:Nat}(D5:vm.Nodup):∀(ps:List Nat) (is:List Nat) (xs:List Value) (y:List T) (tmps:Array Value) (vars:List T),tmps.size=nt→(∀p∈ps,p< nt)→ps.mapM (vm.idxOf? ·)=some is→xs.length=y.length→y.length=ps.length→
  (∀(i:Nat) (x:Value) (t:T),xs[i]? =some x→y[i]? =some t→ak S w β φ x t)→(∀(i s:Nat) (u:T),vm[i]? =some s→vars[i]? =some u→ak S w β φ (tmps.getD s undef) u)→
  (cV is y vars).length=vars.length∧((ps.zip xs).foldl (fun t (p,v)=>t.setIfInBounds p v) tmps).size=nt∧
   ∀(i s:Nat) (u:T),vm[i]? =some s→(cV is y vars)[i]? =some u→ak S w β φ (((ps.zip xs).foldl (fun t (p,v)=>t.setIfInBounds p v) tmps).getD s undef) u
 | [],is,xs,y,tmps,vars,hsz,_,wa,_,hy,_,hv=>by
  simp only[List.mapM_nil,Option.pure_def,Option.some.injEq]at wa
  subst wa
  have:cV [] y vars=vars:=by cases y<;>rfl
  rw[this]
  exact⟨rfl,by simpa using hsz,by simpa using hv⟩
 |p::ps,is,xs,y,tmps,vars,hsz,hlt,wa,hx,hy,hr,hv=>by
  simp only[List.mapM_cons,Option.bind_eq_bind,Option.pure_def]at wa
  obtain⟨i0,hi0,wa⟩:=Option.bind_eq_some_iff.1 wa
  obtain⟨is',amd,wa⟩:=Option.bind_eq_some_iff.1 wa
  simp only[Option.some.injEq]at wa
  subst wa
  cases y with
  |nil=>simp at hy
  |cons t y=>
  cases xs with
  |nil=>simp at hx
  |cons x xs=>
   simp only[cV,List.zip_cons_cons,List.foldl_cons]
   have hi:vm[i0]? =some p:=fq hi0
   have hp:=hlt p (by simp)
   have key:∀(i s:Nat) (u:T),vm[i]? =some s→(vars.set i0 t)[i]? =some u→ak S w β φ ((tmps.setIfInBounds p x).getD s undef) u:=fun i s u hs hu=>by
    rw[List.getElem?_set]at hu
    split at hu
    ·rename_i he
     subst he
     rw[hi]at hs
     simp only[Option.some.injEq]at hs
     subst hs
     split at hu<;>try(cases hu;done)
     simp only[Option.some.injEq]at hu
     subst hu
     rw[Ag (by omega)]
     exact hr 0 x t rfl rfl
    ·rename_i hne
     have NI:p≠s:=fun e=>by
      subst e
      obtain⟨g1,g2⟩:=List.getElem?_eq_some_iff.1 hi
      obtain⟨g3,g4⟩:=List.getElem?_eq_some_iff.1 hs
      exact hne ((List.getElem_inj D5).1 (g2.trans g4.symm))
     rw[getD_set_ne NI]
     exact hv i s u hs hu
   obtain⟨h1,h2,h3⟩:=Gh D5 ps is' xs y (tmps.setIfInBounds p x) (vars.set i0 t) (by simpa using hsz) (fun q hq=>hlt q (by simp[hq])) amd (by simpa using hx) (by simpa using hy)
    (fun i x t hx ht=>hr (i+1) x t (by simpa using hx) (by simpa using ht)) key
   exact⟨by rw[h1];simp,h2,h3⟩
end
end Go.Vi
end
section
namespace Go.Vi
open Go Go.RowKit
section
variable{P:Program}{W:dg}{w:World}{S0 S:Nat→Nat→Prop}{β:aY}{φ:bw}{a:Act}{o:Oper}{σ:St}{nt:Nat}{vm bm:List Nat}
structure Ext(S0:Nat→Nat→Prop)(W W2:dg):Prop where
 X:∀b,W.X b→W2.X b
 jX:NK W W2.w
 nb:W2.nb=W.nb
 β0:W2.β0=W.β0
 m0:W2.m0=W.m0
 stay:∀b o,S0 b o→∀sp v,W.w.cell? ⟨b,o,sp⟩=some v→W2.w.cell? ⟨b,o,sp⟩=some v
theorem Ext.refl{S0:Nat→Nat→Prop}{W:dg}(h:∀k,W.X k→k< W.w.heap.size):Ext S0 W W:=
 ⟨fun _ h=>h,⟨rfl,rfl,rfl,Nat.le_refl _,h,fun _ _=>rfl,cg.refl _⟩,rfl,rfl,rfl,fun _ _ _ _ _ h=>h⟩
theorem Ext.trans{S0:Nat→Nat→Prop}{W W2 W3:dg}(h:Ext S0 W W2)(k:Ext S0 W2 W3):Ext S0 W W3:=
 ⟨fun b hb=>k.X b (h.X b hb),⟨k.jX.os.trans h.jX.os,k.jX.tape.trans h.jX.tape,k.jX.output.trans h.jX.output,Nat.le_trans h.jX.size k.jX.size,h.jX.lt,fun b hb=>(k.jX.block b (h.X b hb)).trans (h.jX.block b hb),h.jX.room.trans k.jX.room⟩,
  k.nb.trans h.nb,k.β0.trans h.β0,k.m0.trans h.m0,fun b o h0 sp v hv=>k.stay b o h0 sp v (h.stay b o h0 sp v hv)⟩
def o4(P:Program)(W:dg)(S0:Nat→Nat→Prop)(nt:Nat)(vm:List Nat)(σ:St)(a:Act)(w:World):Prop:=∃W2 S β φ,Ext S0 W W2∧bX P W2 S0 S β φ nt vm [] σ a w
def mE(P:Program)(bE:List Nat→Array Oper→List (Option (Nat×Bool)×IOp)→Bool):Prop:=
 ∀(C:FuncId→List T→Option T) (io:FuncId→Nat) (W:dg) (w:World) (S0 S:Nat→Nat→Prop) (β:aY) (φ:bw) (nt:Nat) (vm bm:List Nat) (id:Nat) (ops:Array Oper) (il:List (Option (Nat×Bool)×IOp)) (σ σ':St) (a:Act) (Q:Exit→Act→World→Prop) (rn:Option Nat) (n:Nat),
  (∀f args r,C f args=some r→Sound P f args r)→2*bm.length≤W.nb→bE vm ops il=true→bX P W S0 S β φ nt vm [] σ a w→jU P io nt vm bm [] ops.toList=some il→eQ C σ il=some σ'→
  (∀S' β' φ' a' w',bX P W S0 S' β' φ' nt vm (ops.toList.map (·.dst)) σ' a' w'→a'.defers=a.defers→Q .normal a' w')→(Code.region id ops true).wpIn (wd rn) n P Q a w
theorem bX.fin{JN:List (Option Nat)}(h:bX P W S0 S β φ nt vm JN σ a w):bX P W S0 S β φ nt vm [] ⟨[],fz σ.rs σ.vars (vm.map (qJ JN)),σ.boxes⟩ a w:=by
 refine⟨h.inv,h.nd,h.size,by simp[fz,h.o0],rfl,fun i s u hi _ hu=> ?_,fun j s u hj=>by simp at hj,fun j j' s hj=>by simp at hj⟩
 simp only[fz,List.getElem?_zipWith]at hu
 simp only[List.getElem?_map,hi,Option.map_some]at hu
 cases hv:σ.vars[i]? with
 |none=>rw[hv]at hu;simp at hu
 |some v=>
  rw[hv]at hu
  simp only[Option.some.injEq]at hu
  cases hl:qJ JN s with
  |none=>
   rw[hl]at hu
   simp only at hu
   subst hu
   exact h.vars i s v hi (DZ hl) hv
  |some j=>
   rw[hl]at hu
   simp only at hu
   subst hu
   have hj:=yz hl
   have hlt:j< σ.rs.length:=by rw[h.pM];exact(List.getElem?_eq_some_iff.1 hj).1
   exact h.uj j s _ hj (by simp[List.getD_eq_getElem?_getD,hlt])
theorem G9:∀(vs:List Nat) (vars:List T),bX P W S0 S β φ nt vm [] {σ with vars:=vars} a w→bX P W S0 S β φ nt vm [] {σ with vars:=ef vs vars} a w
 | [],vars,h=>h
 |v::vs,vars,h=>by
  refine G9 vs (vars.set v .undef) ⟨h.inv,h.nd,h.size,by simpa using h.o0,h.pM,fun i s u hi hn hu=> ?_,h.uj,h.Af⟩
  simp only[List.getElem?_set]at hu
  split at hu
  ·split at hu
   ·simp only[Option.some.injEq]at hu;subst hu;exact .undef ..
   ·cases hu
  ·exact h.vars i s u hi hn hu
theorem Ha:∀(ss:List Nat) {σ σ':St} {β:aY},bX P W S0 S β φ nt vm [] σ a w→cB ss σ=some σ'→∃β',bX P W S0 S β' φ nt vm [] σ' a w
 | [],σ,σ',β,h,hf=>by
  simp only[cB,Option.some.injEq]at hf
  subst hf
  exact⟨β,h⟩
 |s::ss,σ,σ',β,h,hf=>by
  simp only[cB]at hf
  split at hf<;>try(cases hf;done)
  rename_i hn
  simp only[St.ay,Bool.and_eq_true,qL,List.all_eq_true]at hn
  obtain⟨⟨_,hnv⟩,di⟩:=hn
  let β':aY:=fun k=>if k=s then none else β k
  have jh:∀s' b,s'≠s→β s'=some b→β' s'=some b:=fun s' b hne hb=>by simp[β',hne,hb]
  have TK:∀s' b,β' s'=some b→s'≠s∧β s'=some b:=fun s' b hb=>by
   simp only[β']at hb
   split at hb
   ·cases hb
   ·rename_i hne;exact⟨hne,hb⟩
  refine Ha ss (β:=β') (σ:={σ with boxes:=σ.boxes.set s none}) ⟨⟨h.inv.below,h.inv.lt,fun s' b hb=> ?_,fun s' cs hs=> ?_,fun s1 s2 b h1 h2=>h.inv.inj s1 s2 b (TK _ _ h1).2 (TK _ _ h2).2,fun k x e hk=> ?_,h.inv.dK,h.inv.top,h.inv.base,h.inv.stay,fun s' b nv h0=> ?_⟩,h.nd,h.size,h.o0,h.pM,fun i s' u hi nv hu=> ?_,fun j s' u hj=>by simp at hj,h.Af⟩ hf
  ·obtain⟨hne,hb⟩:=TK _ _ hb
   obtain⟨h1,h2,cs,h3,h4⟩:=h.inv.box s' b hb
   have aG:=di _ (List.mem_of_getElem? h3)
   simp only[List.all_eq_true,qL]at aG
   refine⟨h1,h2,cs,by simp only[List.getElem?_set,if_neg (fun h=>hne h.symm:¬s=s')];exact h3, ?_⟩
   refine⟨fun hp=> ?_,fun hp=> ?_⟩
   ·obtain⟨c,e,g1,g2,g3,g4⟩:=h4.1 hp
    exact⟨c,e,g1,g2,g3,fun i x t hx ht=>(g4 i x t hx ht).ay (aG t (List.mem_of_getElem? ht)) jh⟩
   ·obtain⟨es,ck,g1,g2⟩:=h4.2 hp
    refine⟨es,ck,g1, ?_⟩
    have:∀{es:List MapEntry} {ts:List T},fO S w β φ es ts→(∀t∈ts,t.ay s=true)→fO S w β' φ es ts:=fun h=>by
     induction h with
     |nil=>exact fun _=> .nil
     |cons e es k v ts hk hv h ih=>
      intro gZ
      exact .cons _ _ _ _ _ (hk.ay (gZ k (by simp)) jh) (hv.ay (gZ v (by simp)) jh) (ih fun t ht=>gZ t (by simp[ht]))
    exact⟨this g2.1 aG,g2.2⟩
  ·simp only[List.getElem?_set]at hs
   split at hs
   ·split at hs<;>cases hs
   ·rename_i hne
    exact(h.inv.boxed s' cs hs).imp id fun⟨b,hb⟩=>⟨b,jh _ _ (fun h=>hne h.symm) hb⟩
  ·obtain⟨g,n,c,sz,xs,i,h1,h2,h3,h4,h5,h6,h7⟩:=h.inv.fX k x e hk
   exact⟨g,n,c,sz,xs,i,h1,h2,h3,h4,h5,fun s' ft=>h6 s' (TK _ _ ft).2,h7⟩
  ·by_cases hne:s'=s
   ·subst hne
    rcases h.inv.pJ s' b nv h0 with hb|hb
    ·obtain⟨_,_,cs,h3,_⟩:=h.inv.box s' b hb
     have:=(List.getElem?_eq_some_iff.1 h3).1
     exact .inr (by simp[this])
    ·have:=(List.getElem?_eq_some_iff.1 hb).1
     exact .inr (by simp[this])
   ·rcases h.inv.pJ s' b nv h0 with hb|hb
    ·exact .inl (jh _ _ hne hb)
    ·exact .inr (by simp only[List.getElem?_set,if_neg (fun h=>hne h.symm:¬s=s')];exact hb)
  ·exact(h.vars i s' u hi nv hu).ay (hnv u (List.mem_of_getElem? hu)) jh
def gr(j:Nat):Exit:=if j< cD then .exit j else .goto (j-cD)
def zt(P:Program)(W:dg)(S0:Nat→Nat→Prop)(nt:Nat)(vm:List Nat)(Q:Exit→Act→World→Prop):Out→Prop
 | .norm σ=>∀a w,o4 P W S0 nt vm σ a w→Q .normal a w
 | .exit id σ=>∀a w,o4 P W S0 nt vm σ a w→Q (gr id) a w
 | .ret σ=>∀a w,o4 P W S0 nt vm σ a w→Q .ret a w
theorem zt.mono{Q Q':Exit→Act→World→Prop}{o:Out}(h:zt P W S0 nt vm Q o)(hq:∀e a w,Q e a w→Q' e a w):zt P W S0 nt vm Q' o:=by
 cases o with
 |norm σ=>exact fun a w hc=>hq _ _ _ (h a w hc)
 |exit id σ=>exact fun a w hc=>hq _ _ _ (h a w hc)
 |ret σ=>exact fun a w hc=>hq _ _ _ (h a w hc)
theorem o4.kill{vs:List Nat}(h:o4 P W S0 nt vm σ a w):o4 P W S0 nt vm {σ with vars:=ef vs σ.vars} a w:=by
 obtain⟨W2,S,β,φ,h1,h2⟩:=h
 exact⟨W2,S,β,φ,h1,G9 vs σ.vars h2⟩
theorem o4.free{ss:List Nat}{σ':St}(h:o4 P W S0 nt vm σ a w)(hf:cB ss σ=some σ'):o4 P W S0 nt vm σ' a w:=by
 obtain⟨W2,S,β,φ,h1,h2⟩:=h
 obtain⟨β',h3⟩:=Ha ss h2 hf
 exact⟨W2,S,β',φ,h1,h3⟩
theorem Gi{C:FuncId→List T→Option T}{N:Nat}{kv kb:List Nat}{ia:IC}{σ:St}:exec C N (.seq (.kill kv) (.seq (.free kb) ia)) σ=(cB kb {σ with vars:=ef kv σ.vars}).bind fun az=>exec C N ia az:=by
 simp only[exec]
 cases cB kb {σ with vars:=ef kv σ.vars}<;>rfl
theorem Inv.TL{W2:dg}{bx:List (Option (List T))}(h:Inv P W2 S0 S β φ bx w)(hE:Ext S0 W W2):Inv P W S0 S β φ bx w:=by
 refine⟨⟨h.below.os.trans hE.jX.os,h.below.tape.trans hE.jX.tape,h.below.output.trans hE.jX.output,Nat.le_trans hE.jX.size h.below.size,hE.jX.lt,fun k hk=>(h.below.block k (hE.X k hk)).trans (hE.jX.block k hk),hE.jX.room.trans h.below.room⟩,h.lt,
  fun s b hb=> ?_,h.boxed,h.inj,fun k x e hk=> ?_,h.dK,fun b o hs=>(h.top b o hs).imp id fun hn hx=>hn (hE.X b hx),h.base,fun b o h0 sp v hv=>h.stay b o h0 sp v (hE.stay b o h0 sp v hv),fun s b hn h0=> ?_⟩
 ·obtain⟨h1,h2,h3⟩:=h.box s b hb
  exact⟨fun hx=>h1 (hE.X b hx),h2,h3⟩
 ·obtain⟨g,n,c,sz,xs,i,h1,h2,h3,h4,h5,h6,h7⟩:=h.fX k x e hk
  exact⟨g,n,c,sz,xs,i,h1,h2,h3,h4,h5,h6,fun hx=>h7 (hE.X g hx)⟩
 ·exact h.pJ s b (by rw[hE.nb];exact hn) (by rw[hE.β0];exact h0)
end
end Go.Vi
end
section
namespace Go.Vi
open Go Go.RowKit
section
variable{P:Program}{W:dg}{w:World}{S0 S:Nat→Nat→Prop}{β:aY}{φ:bw}{a:Act}{σ:St}{nt:Nat}{vm bm:List Nat}
theorem D7{run:St→Option Out}{K:Nat}{is:List Nat}:∀(ys:List (List T)) (vars:List T) (bx:List (Option (List T))) (RX:St),lY run K is (ys.map T.an) vars bx=some RX→
  ∃(V:Nat→List T) (B:Nat→List (Option (List T))),V 0=vars∧B 0=bx∧RX=⟨[],V ys.length,B ys.length⟩∧∀k y,ys[k]? =some y→y.length=is.length∧
   ∃σ',run ⟨[],cV is y (ai (fun s=>some (s+K)) (fun _=>none) (V k)),dS K (B k)⟩=some (.norm σ')∧B (k+1)=bK K σ'.boxes∧V (k+1)=fH (bK K σ'.boxes) (V k)
 | [],vars,bx,RX,h=>by
  simp only[List.map_nil,lY,Option.some.injEq]at h
  exact⟨fun _=>vars,fun _=>bx,rfl,rfl,h.symm,fun k y hy=>by simp at hy⟩
 |y::ys,vars,bx,RX,h=>by
  simp only[List.map_cons,lY]at h
  split at h<;>try(cases h;done)
  rename_i hl
  split at h<;>try(cases h;done)
  rename_i σ' hrun
  obtain⟨V,B,h1,h2,h3,h4⟩:=D7 ys _ _ RX h
  refine⟨fun k=>match k with|0=>vars|k+1=>V k,fun k=>match k with|0=>bx|k+1=>B k,rfl,rfl,h3,fun k z hz=> ?_⟩
  cases k with
  |zero=>
   simp only[List.getElem?_cons_zero,Option.some.injEq]at hz
   subst hz
   exact⟨hl,σ',hrun,h2,h1⟩
  |succ k=>
   simp only[List.getElem?_cons_succ]at hz
   exact h4 k z hz
theorem NL{x:Value}{u:T}{f:FuncId}{first cap:List T}(hx:ak S w β φ x u)(hg:eC u=some (f,first,cap)):
  ∃xs ys:Array Value,x= .func (.func f) xs ys∧xs.size=first.length∧ys.size=cap.length∧∀(i:Nat) (y:Value) (t:T),ys[i]? =some y→cap[i]? =some t→ak S w β φ y t:=by
 unfold eC at hg
 split at hg
 ·rename_i f' a b
  split at hg<;>try(cases hg;done)
  rename_i A1
  simp only[Option.some.injEq,Prod.mk.injEq]at hg
  obtain⟨rfl,rfl,rfl⟩:=hg
  have:=cy hx
  subst this
  exact⟨a,b,rfl,by simpa using A1.1,by simpa using A1.2,fun i y t _ ht=>by simp at ht⟩
 ·simp only[Option.some.injEq,Prod.mk.injEq]at hg
  obtain⟨rfl,rfl,rfl⟩:=hg
  cases hx with
  |bB _ _ _ xs ys _ _ hx hy _ k=>exact⟨xs,ys,rfl,hx,hy,k⟩
 ·cases hg
theorem Ah{ss:List Nat}{β:aY}{s b:Nat}(hb:dq ss β s=some b):ss.contains s=true∧β s=some b:=by
 unfold dq at hb
 split at hb
 ·rename_i hs;exact⟨hs,hb⟩
 ·cases hb
theorem Wu{SL SR:Nat→Nat→Prop}{W:World}{β β':aY}{φ φ':bw}{x:Value}{t:T}(h:ak SL W β φ x t)(ht:scal t=true):ak SR W β' φ' x t:=by
 cases t<;>simp only[scal]at ht<;>try(cases ht;done)
 ·cases h;exact .v ..
 ·rename_i ts
  cases h with
  |agg _ _ xs _ hl h1 h=>
  refine .agg _ _ _ _ hl h1 fun i y u hy hu=> ?_
  have:=List.all_eq_true.1 ht u (List.mem_of_getElem? hu)
  have h2:=h i y u hy hu
  cases u<;>simp only[T.Ay]at this<;>try(cases this;done)
  cases h2;exact .v ..
theorem Wv{ys:List (List T)}(h:y8 (ys.map T.an)=true):∀y∈ys,∀t∈y,scal t=true:=fun y hy t ht=>by
 unfold y8 at h
 rw[List.all_map,List.all_eq_true]at h
 have:=h y hy
 simp only[Function.comp]at this
 exact List.all_eq_true.1 this t ht
set_option maxHeartbeats 1000000 in
theorem QJ{C:FuncId→List T→Option T}(hC:∀f args r,C f args=some r→Sound P f args r){N n:Nat}{g:Operand}{d:ag}{ps:Array Tmp}{is:List Nat}{ca cb:Code}{ia ib:IC}{out:Out}{Q:Exit→Act→World→Prop}
  (D5:vm.Nodup) (NI:ps.toList.all (· < nt)=true) (hd:lq vm [] g=some d) (wa:ps.toList.mapM (vm.idxOf? ·)=some is)
  (yD:∀{W:dg} {S0:Nat→Nat→Prop} {rn:Option Nat} {n:Nat} {σ:St} {out:Out} {a:Act} {w:World} {Q:Exit→Act→World→Prop},2*bm.length≤W.nb→W.m0≤W.w.heap.size→exec C N ia σ=some out→o4 P W S0 nt vm σ a w→zt P W S0 nt vm Q out→ca.wpIn (wd rn) n P Q a w)
  (RY:∀{W:dg} {S0:Nat→Nat→Prop} {rn:Option Nat} {n:Nat} {σ:St} {out:Out} {a:Act} {w:World} {Q:Exit→Act→World→Prop},2*bm.length≤W.nb→W.m0≤W.w.heap.size→exec C N ib σ=some out→o4 P W S0 nt vm σ a w→zt P W S0 nt vm Q out→cb.wpIn (wd rn) n P Q a w)
  (np:W.m0≤W.w.heap.size) (he:exec C N (.range (2*bm.length) d is ia ib) σ=some out) (hc:o4 P W S0 nt vm σ a w) (hQ:zt P W S0 nt vm Q out):
  (Code.rangeFunc g ps ca cb).wpIn (wd none) n P Q a w:=by
 generalize hK:2*bm.length=K at he yD RY
 have Ww:K%2=0:=by omega
 simp only[exec]at he
 split at he<;>try(cases he;done)
 rename_i f caps fi
 generalize reach σ.boxes 10000 [] (eh caps)=ss at he
 obtain⟨cs,aG,he⟩:=Option.bind_eq_some_iff.1 he
 split at he<;>try(cases he;done)
 rename_i H0 hCr
 obtain⟨RX,hre,rfl⟩:=Option.map_eq_some_iff.1 he
 have hSq:=hC _ _ _ hCr
 unfold Sound at hSq
 rw[if_neg (Nat.not_lt.2 (Nat.le_add_right _ _))]at hSq
 obtain⟨bW,ys,e1,e2,JM⟩:=hSq.resolve_left fun⟨_,_,_,_,e1,_⟩=>by simp at e1
 simp only[List.cons.injEq,T.an.injEq,and_true]at e1 e2
 subst e1 e2
 rw[Nat.add_sub_cancel_left]at JM
 obtain⟨V,B,hV0,C8,rfl,H2⟩:=D7 ys _ _ _ hre
 obtain⟨W2,S,β,φ,hE,hR⟩:=hc
 obtain⟨xs0,lb,F6,aa6,D2,ame⟩:=NL (hR.opd g d hd) fi
 have aa6:xs0=#[]:=by simpa using aa6
 subst aa6
 obtain⟨SR,Lb,hSR,TM,hLb,afV,TN,acH,ais⟩:∃(SR:Nat→Nat→Prop) (Lb:Nat→Prop),(∀b o,S b o→SR b o)∧(∀b o,SR b o→fP S (dq ss β) b o)∧(∀b,Lb b→∃s,dq ss β s=some b∧β s=some b)∧(∀b,Lb b→∀o,¬SR b o)∧
   (∀b o,fP S (dq ss β) b o→SR b o∨Lb b)∧(∀y∈ys,∀t∈y,∀W x,ak (fP S (dq ss β)) W bj cz x t→ak SR W bj cz x t)∧(y8 (ys.map T.an)=true→∀s b,dq ss β s=some b→Lb b):=by
  by_cases hs:y8 (ys.map T.an)=true
  ·exact⟨S,fun b=>∃s,dq ss β s=some b∧β s=some b,fun _ _ h=>h,fun _ _ h=> .inl h,fun _ h=>h,fun b ⟨s,_,hb⟩ o=>(hR.inv.box s b hb).2.1 o,fun b o h=>h.imp id fun⟨s,h⟩=>⟨s,h,(Ah h).2⟩,
    fun y hy t ht W x hx=>Wu hx (Wv hs y hy t ht),fun _ s b h=>⟨s,h,(Ah h).2⟩⟩
  ·exact⟨fP S (dq ss β),fun _=>False,fun _ _ h=> .inl h,fun _ _ h=>h,fun _ h=>h.elim,fun _ h=>h.elim,fun _ _ h=> .inl h,fun _ _ _ _ _ _ h=>h,fun h=>absurd h hs⟩
 obtain⟨hclose,H3,NM,NJ⟩:=hR.inv.amc ss hSR TM
 have uk:∀b,Lb b→b< w.heap.size∧¬W2.X b∧(∀s,pN ss β s≠some b)∧∀k x e,φ k=some (x,e)→x.ownBlock≠some b:=fun b hb=>by
  obtain⟨s,h1,h2⟩:=hLb b hb
  refine⟨hR.inv.vE h2,(hR.inv.box s b h2).1,fun s' h3=> ?_,fun k x e hk he=> ?_⟩
  ·unfold pN at h3
   split at h3<;>try(cases h3;done)
   rename_i hs
   have:=hR.inv.inj s s' b h2 h3
   subst this
   exact hs (Ah h1).1
  ·obtain⟨g,n,c,sz,xs,i,rfl,_,_,_,_,h6,_⟩:=hR.inv.fX k x e hk
   simp only[Value.ownBlock,Option.some.injEq]at he
   subst he
   exact h6 s h2
 generalize Wx:fP S (dq ss β)=SL at hclose NJ TN acH TM
 generalize pN ss β=βo at H3 NM uk
 have Fj:∀b o,SR b o→b< w.heap.size:=H3.lt
 have acI:∀b o,SL b o→b< w.heap.size:=fun b o h=>(TN b o h).elim (Fj b o) fun h=>(uk b h).1
 have afW:∀b o,SR b o→S0 b o∨¬W2.X b:=H3.top
 have NN:∀b,W2.X b→b< w.heap.size:=fun b hb=>Nat.lt_of_lt_of_le (hR.inv.below.lt b hb) hR.inv.below.size
 obtain⟨b7,_⟩:=dp aG
 let Xk:(Nat→Prop)→Nat→Prop:=fun own b=>W2.X b∨b=w.heap.size∨b=w.heap.size+1∨own b∨Lb b
 let I:Nat→(Nat→Prop)→World→Prop:=fun k own Wk=>NK W2 Wk∧w.heap.size+2≤Wk.heap.size∧(∀b o,SL b o→∀sp v,w.cell? ⟨b,o,sp⟩=some v→Wk.cell? ⟨b,o,sp⟩=some v)∧(∀b,Lb b→Wk.heap[b]? =w.heap[b]?)∧cg w Wk∧
  ∃S' β' φ',Inv P ⟨Wk,Xk own,0,bj,0⟩ SR S' β' φ' (B k) Wk∧(∀s b,W2.nb≤s→W2.β0 s=some b→β' s=some b∨(B k)[s]? =some none)∧
   (∀(i s:Nat) (u:T),vm[i]? =some s→(V k)[i]? =some u→ak S' Wk β' cz (a.tmps.getD s undef) u)∧(V k).length=vm.length
 refine Ws (S:=SL) F6 JM acI (by rw[D2];rw[br,List.length_map]at b7;exact b7) (fun i x t hx ht=> ?_) (fun y hy=> ?_) I (fun o=> ?_) (fun k own sW Wk Wk' Wy nN hsz hst=> ?_) (fun k y own Wk xs m hy Wy nN hl hD KO cj=> ?_) (fun own Wk o Wy nN hl hD=> ?_)
 ·obtain⟨q,hq,hcq⟩:=mapM_map aG i t ht
  rw[br,List.getElem?_map]at hq
  obtain⟨t0,ht0,rfl⟩:=Option.map_eq_some_iff.1 hq
  exact hclose 8 x t0 t (ame i x t0 hx ht0) hcq
 ·obtain⟨k,hk⟩:=List.mem_iff_getElem?.1 hy
  obtain⟨h1,_⟩:=H2 k y hk
  rw[h1]
  obtain⟨h2,_⟩:=dp wa
  simpa using h2.symm
 ·
  have lS:Below w.heap.size w ((w.alloc (.deferred (some []))).alloc (.loop o)):=((Below.refl _ w).alloc (Nat.le_refl _) _).alloc (by simp) _
  have hsz:((w.alloc (.deferred (some []))).alloc (.loop o)).heap.size=w.heap.size+2:=by simp
  obtain⟨J,hm,ej⟩:=H3.RV (w':=(w.alloc (.deferred (some []))).alloc (.loop o)) (X':=Xk fun _=>False) (S0':=SR) (nb:=0) (m0:=0) (β0:=bj) (fun _=>False) (by omega) (fun b hb _=>lS.block b hb) (fun b hb=>hb.elim)
   (fun b o hs sp v hv=>(lS.cell (p:=⟨b,o,sp⟩) (Fj b o hs)).trans hv)
   (fun b hb=>by
           rcases hb with h|h|h|h|h
           ·exact .inl h
           ·exact .inr (.inl (by omega))
           ·exact .inr (.inl (by omega))
           ·exact h.elim
           ·exact .inr (.inr (uk b h).2.2))
   (fun b hb=>by
           rcases hb with h|h|h|h|h
           ·have:=NN b h;omega
           ·omega
           ·omega
           ·exact h.elim
           ·have:=(uk b h).1;omega)
   (fun _ _ h=>h) (fun _ _ h=> .inl h) (fun s b _ h=>by simp[bj]at h) (iw lS.block)
  rw[←C8]at J
  refine⟨(H3.grow lS).below,by omega,fun b o hs sp v hv=>(lS.cell (p:=⟨b,o,sp⟩) (acI b o hs)).trans hv,fun b hb=>lS.block b (uk b hb).1,iw lS.block,SR,βo,φ,J,fun s b hn h0=> ?_,fun i s u hi hu=> ?_, ?_⟩
  ·rw[C8];exact H3.pJ s b hn h0
  ·rw[hV0,br,List.getElem?_map]at hu
   obtain⟨u0,Wz,rfl⟩:=Option.map_eq_some_iff.1 hu
   exact hm _ _ _ (NM _ _ (hR.vars i s u0 hi (by simp) Wz))
  ·rw[hV0,br,List.length_map];exact hR.o0
 ·
  obtain⟨hB,TO,ej,WA,WC,S',β',φ',J,rb,hV,RZ⟩:=Wy
  have jV:∀b o,own b→¬S' b o:=fun b o hb hs=>by
   rcases J.top b o hs with h|h
   ·have h1:=Fj b o h;have h2:=(nN b hb).1;omega
   ·exact h (.inr (.inr (.inr (.inl hb))))
  have acJ:∀b,Lb b→Wk'.heap[b]? =Wk.heap[b]? :=fun b hb=>hst.block b (by have:=(uk b hb).1;omega) fun ho=>by have h1:=(uk b hb).1;have h2:=(nN b ho).1;omega
  obtain⟨J',hm,hcell'⟩:=J.HZ (w':=Wk') (X':=Xk sW) (S0':=SR) (nb:=0) (m0:=0) (β0:=bj) own hst.size (fun b hb hn=>hst.block b hb hn) (fun b hb=>⟨.inr (.inr (.inr (.inl hb))),fun o=>jV b o hb⟩)
   (fun b hb=>by
           rcases hb with h|h|h|h|h
           ·exact .inl (.inl h)
           ·exact .inl (.inr (.inl h))
           ·exact .inl (.inr (.inr (.inl h)))
           ·rcases hst.new b h with h'|h'
            ·exact .inl (.inr (.inr (.inr (.inl h'))))
            ·exact .inr h'.1
           ·exact .inl (.inr (.inr (.inr (.inr h)))))
   (fun b hb=>by
    have h1:=hst.size
    rcases hb with h|h|h|h|h
    ·have:=NN b h;omega
    ·omega
    ·omega
    ·rcases hst.new b h with h'|h'
     ·have:=(nN b h').2;omega
     ·exact h'.2
    ·have:=(uk b h).1;omega)
   J.base (fun b o hs=>(J.top b o hs).imp id fun hn hx=>hn (by
    rcases hx with h|h|h|h|h
    ·exact .inl h
    ·exact .inr (.inl h)
    ·exact .inr (.inr (.inl h))
    ·rcases hst.new b h with h'|h'
     ·exact .inr (.inr (.inr (.inl h')))
     ·have:=J.lt b o hs;omega
    ·exact .inr (.inr (.inr (.inr h))))) (fun s b _ h=>by simp[bj]at h) hst.room
  refine⟨⟨hst.os.trans hB.os,hst.tape.trans hB.tape,hst.output.trans hB.output,Nat.le_trans hB.size hst.size,hB.lt,fun b hb=> ?_,hB.room.trans hst.room⟩,Nat.le_trans TO hst.size,fun b o hs sp v hv=> ?_,fun b hb=>(acJ b hb).trans (WA b hb),WC.trans hst.room,S',β',φ',J',rb,fun i s u hi hu=>hm _ _ _ (hV i s u hi hu),RZ⟩
  ·have hlt:=NN b hb
   exact(hst.block b (by omega) fun eZ=>by have:=(nN b eZ).1;omega).trans (hB.block b hb)
  ·rcases TN b o hs with h|h
   ·exact hcell' b o (J.base b o h) sp v (ej b o hs sp v hv)
   ·rw[World.cell?_of_block (w:=Wk) (acJ b h)]
    exact ej b o hs sp v hv
 ·
  obtain⟨rl,hl⟩:=hl
  obtain⟨hB,TO,ej,WA,WC,S',β',φ',J,rb,hV,RZ⟩:=Wy
  obtain⟨lR,σ',hrun,yE,hV1⟩:=H2 k y hy
  split at hrun<;>try(cases hrun;done)
  rename_i az h1
  obtain⟨j8,hrel⟩:=J.core.shift Ww
  let K8:dg:=⟨Wk,Xk own,K,fun s=>(iA K β' s).or (if K≤s∧W2.nb≤s-K then W2.β0 (s-K)else none),0⟩
  have D3:∀b,Xk own b→b< Wk.heap.size:=J.below.lt
  have ait:∀s,(B k)[s]? =some none→β' s=none:=fun s hs=>by
   cases hb:β' s with
   |none=>rfl
   |some b=>
    obtain⟨_,_,cs,h3,_⟩:=J.box s b hb
    rw[hs]at h3;cases h3
  have oI:Inv P K8 S' S' (iA K β') φ' (dS K (B k)) Wk:=
   ⟨⟨rfl,rfl,rfl,Nat.le_refl _,D3,fun _ _=>rfl,cg.refl _⟩,j8.lt,j8.box,j8.boxed,j8.inj,j8.fX,j8.dK,fun _ _ h=> .inl h,fun _ _ h=>h,fun _ _ _ _ _ h=>h,fun s b hn h0=>by
    simp only[K8]at hn h0
    cases hb:iA K β' s with
    |some b'=>rw[hb]at h0;exact .inl (by simpa using h0)
    |none=>
     rw[hb]at h0
     simp only[Option.none_or]at h0
     split at h0<;>try(cases h0;done)
     rename_i hs
     rcases rb (s-K) b hs.2 h0 with h|h
     ·simp only[iA,if_pos hn]at hb
      rw[hb]at h;cases h
     ·refine .inr ?_
      rw[BZ,if_pos hn,h];rfl⟩
  have aiu:∀x t,ak S' Wk β' cz x t→ak S' Wk (iA K β') φ' x (t.al (fun s=>some (s+K)) fun _=>none):=fun x t hx=>hx.al (fun s s' b h1 h2=>by
    simp only[Option.some.injEq]at h1
    subst h1
    simp only[iA,Nat.le_add_left,if_true,Nat.add_sub_cancel]
    exact h2) (fun s s' h1=>by simp only[Option.some.injEq]at h1;omega) (fun k k' p h=>by cases h)
  have amf:is.length=ps.size:=by
   obtain⟨h2,_⟩:=dp wa
   simpa using h2.symm
  have htm:=hR.size
  obtain⟨NO,amg,lM⟩:=Gh (S:=S') (w:=Wk) (β:=iA K β') (φ:=φ') D5 ps.toList is xs.toList y a.tmps (ai (fun s=>some (s+K)) (fun _=>none) (V k)) htm
   (fun p hp=>by have:=List.all_eq_true.1 NI p hp;simpa using this) wa (by simpa using KO) (by rw[lR,amf];simp) (fun i x t hx ht=>(acH y (List.mem_of_getElem? hy) t (List.mem_of_getElem? ht) _ _ (cj i x t (by simpa using hx) ht)).mono J.base (fun s b h=>by simp[bj]at h) (fun k p h=>by simp[cz]at h) (fun _ _ _ _ _ h=>h) (cg.refl _))
   (fun i s u hi hu=>by
    rw[br,List.getElem?_map]at hu
    obtain⟨u0,Wz,rfl⟩:=Option.map_eq_some_iff.1 hu
    exact aiu _ _ (hV i s u0 hi Wz))
  have aiv:(ps.zip xs).foldl (fun t (p,v)=>t.setIfInBounds p v) a.tmps=(ps.toList.zip xs.toList).foldl (fun t (p,v)=>t.setIfInBounds p v) a.tmps:=by
   rw[←Array.foldl_toList,Array.toList_zip]
  rw[aiv]
  have hR1:bX P K8 S' S' (iA K β') φ' nt vm [] ⟨[],cV is y (ai (fun s=>some (s+K)) (fun _=>none) (V k)),dS K (B k)⟩ {tmps:=(ps.toList.zip xs.toList).foldl (fun t (p,v)=>t.setIfInBounds p v) a.tmps,defers:=[]} Wk:=
   ⟨oI,⟨[],by simp,rfl,by simp⟩,amg,by rw[NO,br,List.length_map];exact RZ,rfl,fun i s u hi _ hu=>lM i s u hi hu,fun j s u hj=>by simp at hj,fun j j' s hj=>by simp at hj⟩
  have pP:w.heap.size+1< Wk.heap.size:=(Array.getElem?_eq_some_iff.1 hl).1
  refine yD (W:=K8) (S0:=S') (by show K≤K;exact Nat.le_refl _) (Nat.zero_le _) h1 ⟨K8,S',_,_,Ext.refl D3,hR1⟩ fun a1 W1 nw=> ?_
  obtain⟨W3,S3,β3,φ3,R0,um⟩:=nw
  have H4:=um.inv.TL R0
  refine⟨H4.below.block _ (.inr (.inr (.inl rfl))),fun o=> ?_⟩
  have fu:W1.heap[w.heap.size+1]? =some (.loop rl):=(H4.below.block _ (.inr (.inr (.inl rfl)))).trans hl
  have amh:w.heap.size+1< W1.heap.size:=(Array.getElem?_eq_some_iff.1 fu).1
  have xl:∀o,¬S' (w.heap.size+1) o:=fun o hs=>by
   rcases J.top _ o hs with h|h
   ·have:=Fj _ o h;omega
   ·exact h (.inr (.inr (.inl rfl)))
  have NP:W3.X (w.heap.size+1):=R0.X _ (.inr (.inr (.inl rfl)))
  let w2:=W1.putObj (w.heap.size+1) (.loop o)
  have jy:∀b,b≠w.heap.size+1→w2.heap[b]? =W1.heap[b]? :=fun b hb=>World.putObj_heap_other hb
  obtain⟨J2,K9,afX⟩:=um.inv.HZ (w':=w2) (X':=W3.X) (S0':=S') (nb:=W3.nb) (m0:=0) (β0:=W3.β0) (fun b=>b=w.heap.size+1) (by simp[w2]) (fun b _ hb=>jy b hb)
   (fun b hb=>by subst hb;exact⟨NP,fun o' hs=>by
                   rcases um.inv.top _ o' hs with h|h
                   ·exact xl o' h
                   ·exact h NP⟩)
   (fun b hb=> .inl hb) (fun b hb=>by have h1:=um.inv.below.lt b hb;have h2:=um.inv.below.size;simp[w2];omega) um.inv.base um.inv.top um.inv.pJ (ja _ fu rfl)
  let Wb:dg:=⟨w2,W3.X,W3.nb,W3.β0,0⟩
  have H5:bX P Wb S' S3 β3 φ3 nt vm [] az a1 w2:=by
   obtain⟨Ds,g1,g2,g3⟩:=um.nd
   refine⟨J2,⟨Ds,g1,g2,fun D' La=> ?_⟩,um.size,um.o0,um.pM,fun i s u hi hn hu=>K9 _ _ _ (um.vars i s u hi hn hu),fun j s u hj hu=>K9 _ _ _ (um.uj j s u hj hu),um.Af⟩
   obtain⟨e1,e2,e3⟩:=g3 D' La
   have e4:=(um.inv.below.block D' e1).trans e2
   refine⟨e1, ?_,Nat.zero_le _⟩
   show w2.heap[D']? =_
   rw[jy D' fun e=>by subst e;rw[fu]at e4;cases e4]
   exact e4
  refine RY (W:=Wb) (S0:=S') (by show K≤W3.nb;rw[R0.nb];exact Nat.le_refl _) (Nat.zero_le _) hrun ⟨Wb,S3,β3,φ3,Ext.refl J2.below.lt,H5⟩ fun a3 W4 hc3=> ?_
  obtain⟨W5,S5,β5,φ5,hE5,hR5⟩:=hc3
  have wb:=hR5.inv.TL hE5
  have TP:∀b,Xk own b→W3.X b:=R0.X
  have jj:∀b,Xk own b→b≠w.heap.size+1→W4.heap[b]? =Wk.heap[b]? :=fun b hb hne=>((wb.below.block b (TP b hb)).trans (jy b hne)).trans (H4.below.block b hb)
  have R1:W4.heap[w.heap.size+1]? =some (.loop o):=(wb.below.block _ NP).trans (World.putObj_heap_same amh)
  have aqo:w.heap.size+1< W4.heap.size:=(Array.getElem?_eq_some_iff.1 R1).1
  refine⟨rfl,R1,(jj _ (.inr (.inl rfl)) (by omega)).trans hD,fun o'=> ?_⟩
  let w4:=W4.putObj (w.heap.size+1) (.loop o')
  have hw4:∀b,b≠w.heap.size+1→w4.heap[b]? =W4.heap[b]? :=fun b hb=>World.putObj_heap_other hb
  have afY:=wb.core.ad1 Ww
  have hXb:∀b,Wb.X b→b< W4.heap.size:=fun b hb=>Nat.lt_of_lt_of_le (wb.below.lt b hb) wb.below.size
  have hI6:Inv P ⟨W4,Wb.X,0,bj,0⟩ S5 S5 (fun s=>β5 (s+K)) φ5 (bK K σ'.boxes) W4:=afY.inv hXb
  have KM:∀b o,SR b o→S5 b o:=fun b o h=>wb.base b o (J.base b o h)
  obtain⟨J4,hm4,afZ⟩:=hI6.HZ (w':=w4) (X':=Xk own) (S0':=SR) (nb:=0) (m0:=0) (β0:=bj) (fun b=>b=w.heap.size+1) (by simp[w4]) (fun b _ hb=>hw4 b hb)
   (fun b hb=>by subst hb;exact⟨NP,fun o'' hs=>by
                   rcases wb.top _ o'' hs with h|h
                   ·exact xl o'' h
                   ·exact h NP⟩)
   (fun b hb=> .inl (TP b hb)) (fun b hb=>by have:=hXb b (TP b hb);simp[w4];omega) KM
   (fun b o hs=>by
    rcases wb.top b o hs with h|h
    ·exact J.top b o h
    ·exact .inr fun hx=>h (TP b hx)) (fun s b _ h=>by simp[bj]at h) (ja _ R1 rfl)
  have acK:∀s b,K8.β0 (s+K)=some b→β5 (s+K)=some b∨(bK K σ'.boxes)[s]? =some none:=fun s b h0=>by
   have h0':Wb.β0 (s+K)=some b:=by show W3.β0 (s+K)=some b;rw[R0.β0];exact h0
   rcases wb.pJ (s+K) b (by show W3.nb≤s+K;rw[R0.nb];exact Nat.le_add_left _ _) h0' with h|h
   ·exact .inl h
   ·refine .inr ?_
    rw[yC,h];rfl
  have af0:∀s b,β' s=some b→K8.β0 (s+K)=some b:=fun s b hb=>by
   show(iA K β' (s+K)).or _=some b
   simp only[iA,Nat.le_add_left,if_true,Nat.add_sub_cancel,hb,Option.some_or]
  have WD:∀b o,S' b o→∀sp v,Wk.cell? ⟨b,o,sp⟩=some v→w4.cell? ⟨b,o,sp⟩=some v:=fun b o hs sp v hv=>
   afZ b o (wb.base b o hs) sp v (wb.stay b o hs sp v (afX b o (um.inv.base b o hs) sp v (H4.stay b o hs sp v hv)))
  have TQ:cg Wk w4:=((H4.below.room.trans (ja _ fu rfl)).trans wb.below.room).trans (ja _ R1 rfl)
  have Lc:w4.os=Wk.os∧w4.tape=Wk.tape∧w4.output=Wk.output:=⟨(wb.below.os).trans H4.below.os,(wb.below.tape).trans H4.below.tape,(wb.below.output).trans H4.below.output⟩
  have aa7:Wk.heap.size≤w4.heap.size:=by
   have h1:=H4.below.size
   have h2:=wb.below.size
   simp only[Wb,w2,K8,World.putObj_size]at h1 h2
   simp[w4];omega
  have acL:∀b,Lb b→w4.heap[b]? =Wk.heap[b]? :=fun b hb=>by
   have h1:=(uk b hb).1
   exact(hw4 b (by omega)).trans (jj b (.inr (.inr (.inr (.inr hb)))) (by omega))
  have WE:∀b o,SL b o→∀sp v,Wk.cell? ⟨b,o,sp⟩=some v→w4.cell? ⟨b,o,sp⟩=some v:=fun b o hs sp v hv=>by
   rcases TN b o hs with h|h
   ·exact WD b o (J.base b o h) sp v hv
   ·rw[World.cell?_of_block (w:=Wk) (acL b h)]
    exact hv
  refine⟨⟨⟨Lc.1.trans hB.os,Lc.2.1.trans hB.tape,Lc.2.2.trans hB.output,Nat.le_trans hB.size aa7,hB.lt,fun b hb=> ?_,hB.room.trans TQ⟩,Nat.le_trans TO aa7,fun b o hs sp v hv=>WE b o hs sp v (ej b o hs sp v hv),fun b hb=>(acL b hb).trans (WA b hb),WC.trans TQ,S5,fun s=>β5 (s+K),φ5, ?_,fun s b hn h0=> ?_,fun i s u hi hu=> ?_, ?_⟩,⟨Lc.1,Lc.2.1,Lc.2.2,aa7,fun b hb=> ?_,TQ,fun b o hs=>WE b o hs⟩⟩
  ·have hlt:=NN b hb
   exact((hw4 b (by omega)).trans (jj b (.inl hb) (by omega))).trans (hB.block b hb)
  ·rw[yE];exact J4
  ·rw[yE]
   refine acK s b ?_
   rcases rb s b hn h0 with h|h
   ·exact af0 s b h
   ·show(iA K β' (s+K)).or (if K≤s+K∧W2.nb≤s+K-K then W2.β0 (s+K-K)else none)=some b
    have:iA K β' (s+K)=none:=by
     simp only[iA,Nat.le_add_left,if_true,Nat.add_sub_cancel]
     exact ait s h
    rw[this,Option.none_or,Nat.add_sub_cancel,if_pos ⟨Nat.le_add_left _ _,hn⟩]
    exact h0
  ·rw[hV1,fH,br,List.getElem?_map]at hu
   obtain⟨u0,Wz,rfl⟩:=Option.map_eq_some_iff.1 hu
   have h2:=(hV i s u0 hi Wz).mono (S':=S5) (w':=w4) (β':=β') (φ':=cz) (fun b o h=>wb.base b o h) (fun _ _ h=>h) (fun _ _ h=>h) WD TQ
   refine h2.al (fun s1 s2 b g1 g2=> ?_) (fun s1 s2 g1=> ?_) (fun k k' p g=>by cases g)
   ·split at g1<;>try(cases g1;done)
    rename_i hsm
    simp only[Option.some.injEq]at g1
    subst g1
    rcases acK s1 b (af0 s1 b g2)with h|h
    ·exact h
    ·unfold aj at hsm
     rw[h]at hsm
     cases hsm
   ·split at g1<;>try(cases g1;done)
    simp only[Option.some.injEq]at g1
    rw[g1]
  ·rw[hV1,fH,br,List.length_map];exact RZ
  ·have h3:=(nN b hb).1
   exact(hw4 b (by omega)).trans (jj b (.inr (.inr (.inr (.inl hb)))) (by omega))
 ·
  obtain⟨rl,hl⟩:=hl
  obtain⟨hB,TO,ej,WA,WC,S',β',φ',J,rb,hV,RZ⟩:=Wy
  have pP:w.heap.size+1< Wk.heap.size:=(Array.getElem?_eq_some_iff.1 hl).1
  let w':=Wk.putObj (w.heap.size+1) (.loop o)
  have C9:∀b,b≠w.heap.size+1→w'.heap[b]? =Wk.heap[b]? :=fun b hb=>World.putObj_heap_other hb
  have Da:∀b o,S0 b o→SR b o:=fun b o h=>H3.base b o h
  obtain⟨J',hm,hcell'⟩:=J.HZ (w':=w') (X':=Xk own) (S0':=S0) (nb:=W2.nb) (m0:=W2.m0) (β0:=W2.β0) (fun b=>b=w.heap.size+1) (by simp[w']) (fun b _ hb=>C9 b hb)
   (fun b hb=>by subst hb;exact⟨.inr (.inr (.inl rfl)),fun o' hs=>by
                   rcases J.top _ o' hs with h|h
                   ·have:=Fj _ o' h;omega
                   ·exact h (.inr (.inr (.inl rfl)))⟩)
   (fun b hb=> .inl hb) (fun b hb=>by have:=J.below.lt b hb;simpa [w']using this) (fun b o h=>J.base b o (Da b o h))
   (fun b o hs=>by
    rcases J.top b o hs with h|h
    ·rcases afW b o h with h'|h'
     ·exact .inl h'
     ·refine .inr fun hx=> ?_
      have hlt:=Fj b o h
      rcases hx with hx|hx|hx|hx|hx
      ·exact h' hx
      ·omega
      ·omega
      ·have:=(nN b hx).1;omega
      ·exact afV b hx o h
    ·exact .inr h) rb (ja _ hl rfl)
  have iv:∀b o,SR b o→∀sp v,w.cell? ⟨b,o,sp⟩=some v→w'.cell? ⟨b,o,sp⟩=some v:=fun b o hs sp v hv=>hcell' b o (J.base b o hs) sp v (ej b o (by
   rw[←Wx];rw[←Wx]at TM;exact TM b o hs) sp v hv)
  have ami:∀Gj:Nat→Prop,(∀b,W2.X b→Gj b)→Ext S0 W ⟨w',Gj,W2.nb,W2.β0,W2.m0⟩:=fun Gj TR=>by
   refine⟨fun b hb=>TR b (hE.X b hb), ?_,hE.nb,hE.β0,hE.m0,fun b o h0 sp v hv=>iv b o (Da b o h0) sp v (hR.inv.stay b o h0 sp v (hE.stay b o h0 sp v hv))⟩
   refine⟨hB.os.trans hE.jX.os,hB.tape.trans hE.jX.tape,hB.output.trans hE.jX.output, ?_,hE.jX.lt,fun b hb=> ?_,(hE.jX.room.trans hB.room).trans (ja _ hl rfl)⟩
   ·have h1:=hE.jX.size
    have h2:=hB.size
    show _≤w'.heap.size
    simp only[w',World.putObj_size]
    omega
   ·have hlt:=NN b (hE.X b hb)
    exact((C9 b (by omega)).trans (hB.block b (hE.X b hb))).trans (hE.jX.block b hb)
  have aI:∀(Gj:Nat→Prop) (pO:aY) (aa8:List (Option (List T))),(∀b,W2.X b→Gj b)→Gj w.heap.size→Inv P ⟨w',Gj,W2.nb,W2.β0,W2.m0⟩ S0 S' pO φ' aa8 w'→(∀x t,ak S' w' β' cz x t→ak S' w' pO cz x t)→
    o4 P W S0 nt vm ⟨[],V ys.length,aa8⟩ {a with defers:=DY w.heap.size::a.defers} w':=fun Gj pO aa8 TR hXs J'' aa9=>by
   refine⟨⟨w',Gj,W2.nb,W2.β0,W2.m0⟩,S',pO,φ',ami Gj TR, ?_⟩
   obtain⟨Ds,g1,g2,g3⟩:=hR.nd
   refine⟨J'',⟨w.heap.size::Ds,List.nodup_cons.2 ⟨fun hm=> ?_,g1⟩,by simp[g2],fun D' La=> ?_⟩,hR.size,RZ,rfl,fun i s u hi _ hu=> ?_,fun j s u hj=>by simp at hj,fun j j' s hj=>by simp at hj⟩
   ·have:=NN _ (g3 _ hm).1;omega
   ·rcases List.mem_cons.1 La with rfl|La
    ·refine⟨hXs,(C9 _ (by omega)).trans hD, ?_⟩
     have h1:=hE.jX.size
     have h2:=hR.inv.below.size
     show W2.m0≤_
     rw[hE.m0]
     omega
    ·obtain⟨e1,e2,e3⟩:=g3 D' La
     have hlt:=NN _ e1
     exact⟨TR _ e1,((C9 _ (by omega)).trans (hB.block D' e1)).trans e2,e3⟩
   ·exact(aa9 _ _ (hm _ _ _ (hV i s u hi hu))).mono (fun _ _ h=>h) (fun _ _ h=>h) (fun k p h=>by simp[cz]at h) (fun _ _ _ _ _ h=>h) (cg.refl _)
  by_cases hg:(y8 (ys.map T.an)&&ss.all fun s=>dF (B ys.length) s)=true
  ·rw[if_pos hg]at hQ
   obtain⟨gp,ui⟩:=Bool.and_eq_true_iff.1 hg
   have hk:=ais gp
   have uZ:∀s b,dq ss β s=some b→w'.heap[b]? =w.heap[b]? :=fun s b hb=>by
    have h1:=(uk b (hk s b hb)).1
    exact(C9 b (by omega)).trans (WA b (hk s b hb))
   have amj:∀b o,S b o→S' b o:=fun b o h=>J.base b o (hSR b o h)
   obtain⟨pO,J'',aa9⟩:=hR.inv.aa5 ss J' (X':=fun b=>W2.X b∨b=w.heap.size∨b=w.heap.size+1∨own b) (fun s hs=>yx (List.all_eq_true.1 ui s (List.contains_iff_mem.1 hs))) amj (fun b o hs=>iv b o (hSR b o hs))
    (WC.trans (ja _ hl rfl)) uZ (fun s b hb=> .inr (.inr (.inr (.inr (hk s b hb))))) (fun s b o hb hs=>by
     rcases J.top b o hs with h|h
     ·exact afV b (hk s b hb) o h
     ·exact h (.inr (.inr (.inr (.inr (hk s b hb)))))) (fun b hb=>by
     rcases hb with h|h|h|h
     ·exact .inl h
     ·exact .inr (.inl h)
     ·exact .inr (.inr (.inl h))
     ·exact .inr (.inr (.inr (.inl h)))) (fun s b hb hx=>by
     have h0:=uk b (hk s b hb)
     rcases hx with h|h|h|h
     ·exact h0.2.1 h
     ·omega
     ·omega
     ·have:=(nN b h).1;omega) hR.inv.pJ
   exact hQ _ _ (aI _ _ _ (fun b hb=> .inl hb) (.inr (.inl rfl)) J'' fun x t=>aa9 x t cz)
  ·rw[if_neg hg]at hQ
   exact hQ _ _ (aI _ _ _ (fun b hb=> .inl hb) (.inr (.inl rfl)) J' fun x t h=>h)
end
end Go.Vi
end
section
namespace Go.Vi
open Go Go.RowKit
section
variable{P:Program}{nt:Nat}{vm bm:List Nat}
theorem H6{C:FuncId→List T→Option T}(hC:∀f args r,C f args=some r→Sound P f args r){io:FuncId→Nat}{bE:List Nat→Array Oper→List (Option (Nat×Bool)×IOp)→Bool}(hD:mE P bE)(N:Nat):∀(m:Nat) (c:Code) {W:dg} {S0:Nat→Nat→Prop} {rn:Option Nat} {n:Nat} {h h':Hints} {ic:IC} {σ:St} {out:Out} {a:Act} {w:World} {Q:Exit→Act→World→Prop},
  2*bm.length≤W.nb→W.m0≤W.w.heap.size→(rn=none∨ei c=true)→bz P io nt vm bm bE m c h=some (ic,h')→exec C N ic σ=some out→o4 P W S0 nt vm σ a w→zt P W S0 nt vm Q out→c.wpIn (wd rn) n P Q a w:=by
 intro m
 induction m with
 |zero=>intro c W S0 rn n h h' ic σ out a w Q _ _ _ hl;simp[bz]at hl
 |succ m ih=>
 intro c W S0 rn n h h' ic σ out a w Q di np H7 hl he hc hQ
 cases c with
 |skip=>
  simp only[bz,Option.some.injEq,Prod.mk.injEq]at hl
  obtain⟨rfl,rfl⟩:=hl
  simp only[exec,Option.some.injEq]at he
  subst he
  exact wpIn_skip (hQ _ _ hc)
 |label l=>
  simp only[bz,Option.some.injEq,Prod.mk.injEq]at hl
  obtain⟨rfl,rfl⟩:=hl
  simp only[exec,Option.some.injEq]at he
  subst he
  exact wpIn_label (hQ _ _ hc)
 |exit id=>
  simp only[bz]at hl
  split at hl<;>try(cases hl;done)
  rename_i H8
  simp only[Option.some.injEq,Prod.mk.injEq]at hl
  obtain⟨rfl,rfl⟩:=hl
  simp only[exec,Option.some.injEq]at he
  subst he
  have:=hQ _ _ hc
  simp only[gr,H8,if_true]at this
  exact wpIn_exit this
 |goto l=>
  simp only[bz,Option.some.injEq,Prod.mk.injEq]at hl
  obtain⟨rfl,rfl⟩:=hl
  simp only[exec,Option.some.injEq]at he
  subst he
  have:=hQ _ _ hc
  simp only[gr,show ¬(cD+l< cD) by omega,if_false,Nat.add_sub_cancel_left]at this
  exact wpIn_goto this
 |ret=>
  simp only[bz,Option.some.injEq,Prod.mk.injEq]at hl
  obtain⟨rfl,rfl⟩:=hl
  simp only[exec,Option.some.injEq]at he
  subst he
  exact wpIn_ret (hQ _ _ hc)
 |region id ops draw=>
  simp only[bz]at hl
  by_cases Db:(jU P io nt vm bm [] ops.toList).isNone=true
  ·rw[if_pos Db]at hl
   simp only[Option.some.injEq,Prod.mk.injEq]at hl
   obtain⟨rfl,rfl⟩:=hl
   simp[exec]at he
  rw[if_neg Db]at hl
  obtain⟨l,ym,hl⟩:=Option.bind_eq_some_iff.1 hl
  split at hl<;>try(cases hl;done)
  rename_i pQ
  simp only[Option.some.injEq,Prod.mk.injEq]at hl
  obtain⟨rfl,rfl⟩:=hl
  simp only[exec,vK]at he
  obtain⟨az,R2,rfl⟩:=Option.map_eq_some_iff.1 he
  obtain⟨fB,lx,he3⟩:=Option.bind_eq_some_iff.1 R2
  simp only[Option.some.injEq]at he3
  subst he3
  obtain⟨W2,S,β,φ,hE,hR⟩:=hc
  have TS:2*bm.length≤W2.nb:=by rw[hE.nb];exact di
  have uW:σ.rs=[]:=List.length_eq_zero_iff.1 (by simpa using hR.pM)
  have Dc:bX P W2 S0 S β φ nt vm [] {σ with rs:=[]} a w:=by
   have:({σ with rs:=[]}:St)=σ:=by rw[←uW]
   rw[this];exact hR
  have fin:∀S' β' φ' a' w',bX P W2 S0 S' β' φ' nt vm (ops.toList.map (·.dst)) fB a' w'→Q .normal a' w':=fun S' β' φ' a' w' h=>hQ _ _ ⟨_,_,_,_,hE,h.fin⟩
  cases draw with
  |false=>exact wpIn_region_list (D1 hC TS ops.toList [] (by simp) Dc (by simpa using ym) lx fin)
  |true=>
   simp only[Bool.true_and,Bool.not_eq_true',Bool.not_eq_false]at pQ
   exact hD C io W2 w S0 S β φ nt vm bm id ops l _ fB a Q rn n hC TS pQ Dc ym lx fun S' β' φ' a' w' h _=>fin S' β' φ' a' w' h
 |seq x y=>
  have rT:rn=none∨ei x=true:=H7.imp (fun h=>h) fun h=>by simp only[ei,Bool.and_eq_true]at h;exact h.1
  have yr:rn=none∨ei y=true:=H7.imp (fun h=>h) fun h=>by simp only[ei,Bool.and_eq_true]at h;exact h.2
  simp only[bz,Option.bind_eq_bind]at hl
  obtain⟨⟨ia,h1⟩,fu,hl⟩:=Option.bind_eq_some_iff.1 hl
  obtain⟨⟨ib,h2⟩,mX,hl⟩:=Option.bind_eq_some_iff.1 hl
  simp only[Option.some.injEq,Prod.mk.injEq]at hl
  obtain⟨rfl,rfl⟩:=hl
  simp only[exec]at he
  refine wpIn_seq ?_
  split at he
  ·rename_i az h1
   exact ih x di np rT fu h1 hc fun a' w' rP=>ih y di np yr mX he rP hQ
  ·rename_i hne
   refine ih x di np rT fu he hc ?_
   cases out with
   |norm az=>exact absurd he (hne az)
   |exit id az=>
    intro a w hc
    have:=hQ a w hc
    unfold gr at this⊢
    split<;>simp_all [Exit.then]
   |ret az=>exact fun a w hc=>hQ a w hc
 |cond c x y=>
  have rT:rn=none∨ei x=true:=H7.imp (fun h=>h) fun h=>by simp only[ei,Bool.and_eq_true]at h;exact h.1
  have yr:rn=none∨ei y=true:=H7.imp (fun h=>h) fun h=>by simp only[ei,Bool.and_eq_true]at h;exact h.2
  simp only[bz,Option.bind_eq_bind]at hl
  obtain⟨d,hd,hl⟩:=Option.bind_eq_some_iff.1 hl
  obtain⟨⟨ia,h1⟩,fu,hl⟩:=Option.bind_eq_some_iff.1 hl
  obtain⟨⟨ib,h2⟩,mX,hl⟩:=Option.bind_eq_some_iff.1 hl
  simp only[Option.some.injEq,Prod.mk.injEq]at hl
  obtain⟨rfl,rfl⟩:=hl
  simp only[exec]at he
  split at he<;>try(cases he;done)
  rename_i t ht
  obtain⟨W2,S,β,φ,hE,hR⟩:=hc
  have hv:=cy (ht▸hR.opd c d hd)
  refine wpIn_cond hv ?_
  cases t with
  |true=>exact ih x di np rT fu (by simpa using he) ⟨W2,S,β,φ,hE,hR⟩ hQ
  |false=>exact ih y di np yr mX (by simpa using he) ⟨W2,S,β,φ,hE,hR⟩ hQ
 |block id x=>
  have rT:rn=none∨ei x=true:=H7.imp (fun h=>h) fun h=>by simpa only[ei]using h
  simp only[bz,Option.bind_eq_bind]at hl
  obtain⟨⟨ia,h1⟩,fu,hl⟩:=Option.bind_eq_some_iff.1 hl
  simp only at hl
  split at hl<;>try(cases hl;done)
  rename_i H8
  simp only[Option.some.injEq,Prod.mk.injEq]at hl
  obtain⟨rfl,rfl⟩:=hl
  simp only[exec]at he
  refine wpIn_block ?_
  have key:∀j a w,j≠id→Q (gr j) a w→Exit.inBlock id Q (gr j) a w:=fun j a w hj h=>by
   unfold gr at h⊢
   split
   ·rename_i hlt
    simp only[hlt,if_true]at h
    simp only[Exit.inBlock]
    rw[if_neg hj]
    exact h
   ·rename_i hlt
    simp only[hlt,if_false]at h
    exact h
  split at he
  ·rename_i j az h1
   refine ih x di np rT fu h1 hc fun a' w' rP=> ?_
   split at he
   ·rename_i hj
    simp only[Option.some.injEq]at he
    subst he hj
    simp only[gr,H8,if_true,Exit.inBlock]
    exact hQ _ _ rP
   ·rename_i hj
    simp only[Option.some.injEq]at he
    subst he
    exact key _ _ _ hj (hQ _ _ rP)
  ·rename_i hne
   refine ih x di np rT fu he hc ?_
   cases out with
   |norm az=>exact fun a w hc=>hQ a w hc
   |exit id az=>exact absurd he (hne id az)
   |ret az=>exact fun a w hc=>hQ a w hc
 |loop x=>
  have rT:rn=none∨ei x=true:=H7.imp (fun h=>h) fun h=>by simpa only[ei]using h
  cases h with
  |nil=>simp[bz]at hl
  |cons hd h=>
  obtain⟨vs,ss⟩:=hd
  simp only[bz,Option.bind_eq_bind]at hl
  obtain⟨⟨ia,h1⟩,fu,hl⟩:=Option.bind_eq_some_iff.1 hl
  simp only[Option.some.injEq,Prod.mk.injEq]at hl
  obtain⟨rfl,rfl⟩:=hl
  generalize vs.filterMap (vm.idxOf? ·)=kv at he
  generalize ((ss.filterMap (mu bm ·)).flatMap fun s=>[s,s+1])=kb at he
  simp only[exec]at he
  refine wpIn_loop_rounds N ?_
  suffices key:∀q σ a w,o7 (exec C N (.seq (.kill kv) (.seq (.free kb) ia))) q σ=some out→o4 P W S0 nt vm σ a w→Code.roundsIn (wd rn) n P x Q q a w from key N σ a w he hc
  intro q
  induction q with
  |zero=>intro σ a w he _;simp[o7]at he
  |succ q ihn=>
   intro σ a w he hc
   rw[roundsIn_succ]
   simp only[o7]at he
   rw[Gi]at he
   cases Ba:cB kb {σ with vars:=ef kv σ.vars}with
   |none=>rw[Ba]at he;simp at he
   |some az=>
    rw[Ba]at he
    simp only[Option.bind_some]at he
    have nw:=(hc.kill (vs:=kv)).free Ba
    split at he
    ·rename_i fB h2
     exact ih x di np rT fu h2 nw fun a' w' rP=>ihn fB a' w' he rP
    ·rename_i hne
     refine ih x di np rT fu he nw ?_
     cases out with
     |norm fB=>exact absurd he (hne fB)
     |exit id az=>
      intro a w hc
      have:=hQ a w hc
      unfold gr at this⊢
      split<;>simp_all [Exit.then]
     |ret az=>exact fun a w hc=>hQ a w hc
 |scope x=>
  have rT:rn=none∨ei x=true:=H7.imp (fun h=>h) fun h=>by simp only[ei,Bool.and_eq_true]at h;exact h.2
  simp only[bz]at hl
  split at hl
  ·simp only[Option.bind_eq_bind]at hl
   obtain⟨⟨ia,h1⟩,fu,hl⟩:=Option.bind_eq_some_iff.1 hl
   simp only[Option.some.injEq,Prod.mk.injEq]at hl
   obtain⟨rfl,rfl⟩:=hl
   simp only[exec]at he
   split at he
   ·rename_i j az h1
    split at he<;>try(cases he;done)
    rename_i hj
    simp only[Option.some.injEq]at he
    subst he
    refine lN (ih x di np rT fu h1 hc fun a w hc=> ?_)
    have:=hQ a w hc
    simp only[gr,hj,if_true]at this⊢
    exact this
   ·rename_i hne
    refine lN (ih x di np rT fu he hc ?_)
    cases out with
    |norm az=>exact fun a w hc=>hQ a w hc
    |ret az=>exact fun a w hc=>hQ a w hc
    |exit id az=>exact absurd he (hne id az)
  ·rename_i l hgo
   have af1:∀y,rn=none∨ei y=true:=fun y=> .inl (H7.resolve_right fun h=>by simp[ei,hgo]at h)
   split at hl<;>try(cases hl;done)
   rename_i rest vs ss h2 b9
   simp only[Option.bind_eq_bind]at hl
   obtain⟨⟨ia,h1⟩,fu,hl⟩:=Option.bind_eq_some_iff.1 hl
   obtain⟨⟨ib,h2⟩,mX,hl⟩:=Option.bind_eq_some_iff.1 hl
   simp only[Option.some.injEq,Prod.mk.injEq]at hl
   obtain⟨rfl,rfl⟩:=hl
   generalize vs.filterMap (vm.idxOf? ·)=kv at he
   generalize ((ss.filterMap (mu bm ·)).flatMap fun s=>[s,s+1])=kb at he
   simp only[exec]at he
   have H8:¬(cD+l< cD):=by omega
   have leave:∀(f:St→Option Out) (o:Option Out) (J:Act→World→Prop),(match o with
     |some (.exit j σ')=>if j=cD+l then f σ' else if j< cD then some (.exit j σ')else none
     |o=>o)=some out→(∀az,f az=some out→∀a w,o4 P W S0 nt vm az a w→J a w)→∀o1,o=some o1→zt P W S0 nt vm (Exit.jump l J Q) o1:=by
    intro f o J ho hJ o1 h1
    subst h1
    cases o1 with
    |norm az=>simp only[Option.some.injEq]at ho;subst ho;exact fun a w hc=>hQ a w hc
    |ret az=>simp only[Option.some.injEq]at ho;subst ho;exact fun a w hc=>hQ a w hc
    |exit j az=>
     simp only at ho
     intro a w hc
     by_cases hj:j=cD+l
     ·rw[if_pos hj]at ho
      subst hj
      simp only[gr,H8,if_false,Nat.add_sub_cancel_left]
      exact⟨rfl,hJ az ho a w hc⟩
     ·rw[if_neg hj]at ho
      split at ho<;>try(cases ho;done)
      rename_i hlt
      simp only[Option.some.injEq]at ho
      subst ho
      have:=hQ a w hc
      simp only[gr,hlt,if_true]at this⊢
      exact this
   let J:Nat→Act→World→Prop:=fun q a w=>∃az,sk (exec C N (.seq (.kill kv) (.seq (.free kb) ib))) (cD+l) q az=some out∧o4 P W S0 nt vm az a w
   refine G7 l J N b9 ?_ (fun a w ⟨az,h1,_⟩=>by simp[sk]at h1) fun q a w ⟨az,h1,nw⟩=> ?_
   ·cases hx:exec C N ia σ with
    |none=>rw[hx]at he;simp at he
    |some o1=>
     exact ih x di np rT fu hx hc (leave (fun σ'=>sk (exec C N (.seq (.kill kv) (.seq (.free kb) ib))) (cD+l) N σ') _ (J N) he (fun az h1 a w hc=>⟨az,h1,hc⟩) o1 hx)
   ·simp only[sk]at h1
    rw[Gi]at h1
    cases Ba:cB kb {az with vars:=ef kv az.vars}with
    |none=>rw[Ba]at h1;simp at h1
    |some fB=>
     rw[Ba]at h1
     simp only[Option.bind_some]at h1
     have D8:=(nw.kill (vs:=kv)).free Ba
     cases hx:exec C N ib fB with
     |none=>rw[hx]at h1;simp at h1
     |some o1=>
      exact ih rest di np (af1 rest) mX hx D8 (leave (fun σ'=>sk (exec C N (.seq (.kill kv) (.seq (.free kb) ib))) (cD+l) q σ') _ (J q) h1 (fun we h3 a w hc=>⟨we,h3,hc⟩) o1 hx)
 |rangeFunc g ps x y=>
  have amk:rn=none:=H7.resolve_right fun h=>by simp[ei]at h
  subst amk
  simp only[bz,Option.bind_eq_bind]at hl
  obtain⟨d,hd,hl⟩:=Option.bind_eq_some_iff.1 hl
  obtain⟨is,wa,hl⟩:=Option.bind_eq_some_iff.1 hl
  split at hl<;>try(cases hl;done)
  rename_i fA
  obtain⟨D5,NI,D9,hny⟩:=fA
  obtain⟨⟨ia,h1⟩,fu,hl⟩:=Option.bind_eq_some_iff.1 hl
  obtain⟨⟨ib,h2⟩,mX,hl⟩:=Option.bind_eq_some_iff.1 hl
  simp only[Option.some.injEq,Prod.mk.injEq]at hl
  obtain⟨rfl,rfl⟩:=hl
  exact QJ hC D5 NI hd wa (fun g1 g2=>ih x g1 g2 (.inr D9) fu) (fun g1 g2=>ih y g1 g2 (.inr hny) mX) np he hc hQ
 |refuse _=>simp[bz]at hl
end
end Go.Vi
end
section
namespace Go.Vi
open Go Go.RowKit
section
variable{P:Program}{W:dg}{w:World}{S0 S:Nat→Nat→Prop}{β:aY}{φ:bw}{a:Act}{o:Oper}{σ:St}{nt:Nat}{vm bm:List Nat}
theorem NQ{w w':World}{nb m0:Nat}{β0:aY}{S':Nat→Nat→Prop}{bx:List (Option (List T))}(hI:Inv P ⟨w,fun b=>b< w.heap.size,nb,β0,m0⟩ S S' β φ bx w'){x:Value}{t r:T}(hx:ak S' w' β φ x t)(hr:j2 bx t=some r):Wj P S w w' x r:=by
 have yB:∀b o,S' b o→S b o∨w.heap.size≤b:=fun b o h=>(hI.top b o h).imp id fun h=>Nat.le_of_not_lt h
 simp only[j2]at hr
 by_cases hh:t.aV=true
 ·rw[if_pos hh]at hr
  refine⟨fP S' β,cz,fun b o h=> ?_,fun b o h=> ?_,Ae hI 8 x t r hx hr,fun k x e hk=>by simp[cz]at hk,fun k k' x x' e e' hk=>by simp[cz]at hk⟩
  ·rcases h with h|⟨s,hs⟩
   ·exact yB b o h
   ·exact .inr (Nat.le_of_not_lt (hI.box s b hs).1)
  ·rcases h with h|⟨s,hs⟩
   ·exact hI.lt b o h
   ·exact hI.vE hs
 rw[if_neg hh]at hr
 split at hr<;>try(cases hr;done)
 rename_i hn
 simp only[Option.some.injEq]at hr
 subst hr
 refine⟨S',fun i=>(t.fa[i]?).bind φ,yB,hI.lt,hx.al (fun s s' b h=>by cases h) (fun s s' h=>by cases h) (fun k k' p h1 h2=> ?_),fun k x e hk=> ?_,fun k k' x x' e e' hk cp hne=> ?_⟩
 ·simp[fq h1,h2]
 ·obtain⟨j,_,hk⟩:=Option.bind_eq_some_iff.1 hk
  obtain⟨g,n,c,sz,xs,i,h1,h2,h3,h4,h5,h6,h7⟩:=hI.fX j x e hk
  exact⟨g,n,c,sz,xs,i,h1,h2,h3,h4,h5,fun s=>by simp[bj],h7⟩
 ·obtain⟨j,hj,hk⟩:=Option.bind_eq_some_iff.1 hk
  obtain⟨j',th,cp⟩:=Option.bind_eq_some_iff.1 cp
  refine hI.dK j j' x x' e e' hk cp fun h=>hne ?_
  subst h
  obtain⟨h1,h2⟩:=List.getElem?_eq_some_iff.1 hj
  obtain⟨ua,nr⟩:=List.getElem?_eq_some_iff.1 th
  exact(List.getElem_inj hn).1 (h2.trans nr.symm)
def Fk(tmps:Array Value):ResultVar→Sem Value
 | .tmp t=>pure (tmps.getD t undef)
 | .cell a t=>do loadVar t (←asAddr (tmps.getD a undef))
theorem WG(hI:Inv P W S0 S β φ σ.boxes w)(lM:∀(i s:Nat) (u:T),vm[i]? =some s→σ.vars[i]? =some u→ak S w β φ (a.tmps.getD s undef) u){r:ResultVar}{ir:zP}{t:T}(hl:AN P vm r=some ir)(hr:vq σ ir=some t):∃x,(Fk a.tmps r).run P w= .ok x w∧ak S w β φ x t:=by
 have idx:∀{s i},vm.idxOf? s=some i→vm[i]? =some s:=fun {s i} hi=>by
  rw[List.idxOf?,List.findIdx?_eq_some_iff_getElem]at hi
  obtain⟨hi,h1,_⟩:=hi
  simp only[beq_iff_eq]at h1
  simp[hi,h1]
 cases r with
 |tmp s=>
  simp only[AN]at hl
  obtain⟨i,hi,rfl⟩:=Option.map_eq_some_iff.1 hl
  simp only[vq]at hr
  exact⟨_,rfl,lM i s t (idx hi) hr⟩
 |cell s ty=>
  simp only[AN,Option.bind_eq_bind]at hl
  obtain⟨⟨g,n⟩,hg,hl⟩:=Option.bind_eq_some_iff.1 hl
  obtain⟨i,hi,hl⟩:=Option.bind_eq_some_iff.1 hl
  simp only[Option.some.injEq]at hl
  subst hl
  simp only[vq]at hr
  split at hr<;>try(cases hr;done)
  rename_i s' off hv
  split at hr<;>try(cases hr;done)
  rename_i cs hb
  have hx:=lM i s _ (idx hi) hv
  obtain⟨y,h1,h2⟩:=BV (u:=T.ref s' off) (t:=t) hI hg hx (by simp[hb,hr])
  refine⟨y, ?_,h2⟩
  generalize oG:a.tmps.getD s undef=xv at hx h1
  cases hx with
  |ref _ _ s' off b eZ _=>
   simp only[Fk,oG,Sem.run_bind,asAddr]
   simpa [Instr.loadAt,Instr.sureAddr]using h1
theorem Dd(hI:Inv P W S0 S β φ σ.boxes w)(lM:∀(i s:Nat) (u:T),vm[i]? =some s→σ.vars[i]? =some u→ak S w β φ (a.tmps.getD s undef) u):∀(rs:List ResultVar) {Gk:List zP} {ts:List T},rs.mapM (AN P vm)=some Gk→Gk.mapM (vq σ)=some ts→
  ∃vs:List Value,(rs.mapM (Fk a.tmps)).run P w= .ok vs w∧vs.length=ts.length∧∀(i:Nat) (x:Value) (t:T),vs[i]? =some x→ts[i]? =some t→ak S w β φ x t
 | [],Gk,ts,hl,hr=>by
  simp only[List.mapM_nil,Option.pure_def,Option.some.injEq]at hl
  subst hl
  simp only[List.mapM_nil,Option.pure_def,Option.some.injEq]at hr
  subst hr
  exact⟨[],by simp,rfl,fun i x t hx=>by simp at hx⟩
 |r::rs,Gk,ts,hl,hr=>by
  simp only[List.mapM_cons,Option.bind_eq_bind,Option.pure_def]at hl
  obtain⟨ir,h1,hl⟩:=Option.bind_eq_some_iff.1 hl
  obtain⟨aqp,h2,hl⟩:=Option.bind_eq_some_iff.1 hl
  simp only[Option.some.injEq]at hl
  subst hl
  simp only[List.mapM_cons,Option.bind_eq_bind,Option.pure_def]at hr
  obtain⟨t,h3,hr⟩:=Option.bind_eq_some_iff.1 hr
  obtain⟨AZ,h4,hr⟩:=Option.bind_eq_some_iff.1 hr
  simp only[Option.some.injEq]at hr
  subst hr
  obtain⟨x,hx,cj⟩:=WG hI lM h1 h3
  obtain⟨vs,xi,hlen,gU⟩:=Dd hI lM rs h2 h4
  refine⟨x::vs,by simp[hx,xi],by simp[hlen],fun i y u hy hu=> ?_⟩
  cases i with
  |zero=>simp at hy hu;subst hy;subst hu;exact cj
  |succ i=>simp at hy hu;exact gU i y u hy hu
theorem NR{x:Value}{t:T}(i:Nat)(c:CM)(h:ak S w β φ x t):ak S w β φ x (AD i c t):=by
 have G5:∀(u:T),t= .sl .nil 0 []→(x= .slice none 0 0→ak S w β φ x u)→ak S w β φ x u:=fun u ht hu=>by
  refine hu ?_
  subst ht
  generalize hq:T.sl .nil 0 []=q at h
  cases h with
  |nil=>rfl
  |sl _ _ g ad n c cs f cF hg aG hr=>
   cases hq
   rcases hg with(h'|h')|⟨h',_⟩|⟨k,e',h',_⟩<;>cases h'
  |_=>cases hq
 unfold AD
 split
 ·exact h
 ·exact h.cH
 ·exact G5 _ rfl fun hx=>by subst hx;exact .nil _ _ _ rfl
 ·exact h
 ·exact G5 _ rfl fun hx=>by subst hx;exact .gX ..
 ·exact h
theorem Ea:∀(cs:List CM) (ts:List T) (i:Nat),(gh i cs ts).length=ts.length∧∀(j:Nat) (t':T),(gh i cs ts)[j]? =some t'→∃t,ts[j]? =some t∧∀x,ak S w β φ x t→ak S w β φ x t'
 | [],ts,i=>⟨by simp[gh],fun j t' h=>⟨t',by simpa [gh]using h,fun _ h=>h⟩⟩
 |_::_,[],i=>⟨by simp[gh],fun j t' h=>by simp[gh]at h⟩
 |c::cs,t::ts,i=>by
  obtain⟨h1,h2⟩:=Ea cs ts (i+1)
  refine⟨by simp[gh,h1],fun j t' h=> ?_⟩
  cases j with
  |zero=>simp[gh]at h;subst h;exact⟨t,rfl,fun x hx=>NR i c hx⟩
  |succ j=>simp only[gh,List.getElem?_cons_succ]at h⊢;exact h2 j t' h
theorem De(hI:Inv P W S0 S β φ σ.boxes w)(lM:∀(i s:Nat) (u:T),vm[i]? =some s→σ.vars[i]? =some u→ak S w β φ (a.tmps.getD s undef) u){fn:Func}{Gk:List zP}{cm:List CM}{t:T}(hl:fn.results.toList.mapM (AN P vm)=some Gk)(hr:c9 σ Gk cm=some t):
  ∃x,(results fn a.tmps).run P w= .ok x w∧ak S w β φ x t:=by
 simp only[c9,Option.bind_eq_bind]at hr
 obtain⟨ts0,A0,hr⟩:=Option.bind_eq_some_iff.1 hr
 obtain⟨vs,xi,apY,af2⟩:=Dd hI lM _ hl A0
 obtain⟨b7,aG⟩:=Ea (S:=S) (w:=w) (β:=β) (φ:=φ) cm ts0 0
 generalize gh 0 cm ts0=ts at hr b7 aG
 have hlen:vs.length=ts.length:=by omega
 have gU:∀(i:Nat) (x:Value) (t:T),vs[i]? =some x→ts[i]? =some t→ak S w β φ x t:=fun i x t hx ht=>by
  obtain⟨t0,ht0,hc⟩:=aG i t ht
  exact hc x (af2 i x t0 hx ht0)
 have hrun:(results fn a.tmps).run P w= .ok (if h:vs.toArray.size=1 then vs.toArray[0]else .tuple vs.toArray) w:=by
  have:results fn a.tmps=(do
   let vs←fn.results.mapM (Fk a.tmps)
   pure (if h:vs.size=1 then vs[0]else .tuple vs)):=by
   unfold results
   congr 1
  rw[this,Array.mapM_eq_mapM_toList]
  simp[xi]
 refine⟨_,hrun, ?_⟩
 split at hr
 ·rename_i t'
  simp only[Option.some.injEq]at hr
  subst hr
  match vs,hlen,gU with
  | [v],_,gU=>simpa using gU 0 v t' (by simp) (by simp)
 ·rename_i AZ hne
  simp only[Option.some.injEq]at hr
  subst hr
  rw[dif_neg]
  ·exact .an _ _ _ _ (by simpa using hlen) fun i x t hx ht=>gU i x t (by simpa using hx) ht
  ·intro h1
   have:ts.length=1:=by rw[←hlen];simpa using h1
   obtain⟨t,rfl⟩:=List.length_eq_one_iff.1 this
   exact hne t rfl
theorem Inv.WH{bx:List (Option (List T))}{D:Nat}{d:Option (List Deferred)}(o':Obj)(h:Inv P W S0 S β φ bx w)(hD:w.heap[D]? =some (.deferred d))(hX:¬W.X D):
  Inv P W S0 S β φ bx (w.putObj D o')∧∀x t,ak S w β φ x t→ak S (w.putObj D o') β φ x t:=by
 have hg:=mD w D o'
 have Eb:∀k,k< w.heap.size→k≠D→(w.putObj D o').heap[k]? =w.heap[k]? :=fun k hk hne=>hg.block k hk (by simpa using hne)
 have ej:∀b o,S b o→∀sp v,w.cell? ⟨b,o,sp⟩=some v→(w.putObj D o').cell? ⟨b,o,sp⟩=some v:=fun b o hS sp v hv=>by
  have hne:b≠D:=fun e=>by
   subst e
   simp[World.cell?,hD]at hv
  rw[World.cell?_of_block (w:=w) (Eb b (h.lt _ _ hS) hne)]
  exact hv
 have hm:∀x t,ak S w β φ x t→ak S (w.putObj D o') β φ x t:=fun x t hx=>hx.mono (fun _ _=>id) (fun _ _=>id) (fun _ _=>id) ej (ja o' hD rfl)
 refine⟨⟨h.below.step hg (fun k e=>by cases e;exact hX) (ja o' hD rfl),fun b o hs=>by have:=h.lt b o hs;simpa using this,fun s b hb=> ?_,h.boxed,h.inj,fun k x e hk=> ?_,h.dK,h.top,h.base,fun b o h0 sp v hv=>ej b o (h.base b o h0) sp v (h.stay b o h0 sp v hv),h.pJ⟩,hm⟩
 ·obtain⟨h1,h2,cs,h3,h4⟩:=h.box s b hb
  have hne:b≠D:=fun e=>by
   subst e
   rcases(by omega:s%2=0∨s%2=1)with hp|hp
   ·obtain⟨_,_,g1,_⟩:=h4.1 hp;rw[hD]at g1;cases g1
   ·obtain⟨_,_,g1,_⟩:=h4.2 hp;rw[hD]at g1;cases g1
  exact⟨h1,h2,cs,h3,h4.Fi (Eb b h4.lt hne) hm⟩
 ·obtain⟨g,n,c,sz,xs,i,rfl,hi,hsz,ho,h1,h2⟩:=h.fX k x e hk
  have hne:g≠D:=fun e=>by
   subst e
   rcases ho.2 with⟨h',_⟩|⟨g',cap,cur,HQ,mw,_,F9,_⟩
   ·cases h'
   ·simp only[Value.slice.injEq,Option.some.injEq,Addr.mk.injEq]at mw
    obtain⟨⟨rfl,_⟩,_,rfl⟩:=mw
    rw[hD]at F9
    cases F9
  exact⟨g,n,c,sz,xs,i,rfl,hi,hsz,ho.kept hg (.inr (by simpa [Value.ownBlock]using hne)),h1,h2⟩
theorem WI{fn:Func}{tmps:Array Value}{R:Ending→World→Prop}{n:Nat}:∀(Ds:List Nat) (w:World),Ds.Nodup→(∀D∈Ds,w.heap[D]? =some (.deferred (some []))∧¬W.X D)→Inv P W S0 S β φ σ.boxes w→
  (∀(s:Nat) (u:T),(∃i:Nat,vm[i]? =some s∧σ.vars[i]? =some u)→ak S w β φ (tmps.getD s undef) u)→
  (∀w',Inv P W S0 S β φ σ.boxes w'→(∀(s:Nat) (u:T),(∃i:Nat,vm[i]? =some s∧σ.vars[i]? =some u)→ak S w' β φ (tmps.getD s undef) u)→∃v,(results fn tmps).run P w'= .ok v w'∧R (.returned v) w')→
  LeavesInM (wd none) n P fn tmps R (Ds.map DY) .returning w
 | [],w,_,_,hI,hv,hR=>by
  simp only[List.map_nil,LeavesInM,LeavesIn]
  exact hR w hI hv
 |D::Ds,w,hn,hD,hI,hv,hR=>by
  obtain⟨mC,zu⟩:=List.nodup_cons.1 hn
  obtain⟨h1,h2⟩:=hD D (by simp)
  obtain⟨xm,hm⟩:=hI.WH (.deferred none) h1 h2
  simp only[List.map_cons,LeavesInM]
  refine⟨by simp,.inl ⟨D,_,rfl,run_takeDeferred h1,WI Ds _ zu (fun D' La=> ?_) xm (fun s u h=>hm _ _ (hv s u h)) hR⟩⟩
  obtain⟨g1,g2⟩:=hD D' (by simp[La])
  exact⟨(World.putObj_heap_other (r:=D) (k:=D') (fun e:D'=D=>mC (e▸La))).trans g1,g2⟩
theorem xy{C:FuncId→List T→Option T}(hC:∀f args r,C f args=some r→Sound P f args r){io:FuncId→Nat}{bE:List Nat→Array Oper→List (Option (Nat×Bool)×IOp)→Bool}(hD:mE P bE){N f:Nat}{fn:Func}{fF:aD}{h:Hints}{canon:List CM}{split:Bool}
  (hf:P.funcs[f]? =some fn) (hn:(fn.name== "runtime.NumGoroutine")=false) (hl:lower P io bE vm bm h canon split fn=some fF):
  fF.ez=bm.length∧jr P f=true∧∀{args:List T} {bx:List (Option (List T))} {vs:Array Value} {t:T},args.length=fF.nparams→Inv P W S S β φ bx w→W.w=w→W.m0=w.heap.size→2*bm.length≤W.nb→vs.size=args.length→
  (∀(i:Nat) (x:Value) (t:T),vs[i]? =some x→args[i]? =some t→ak S w β φ x t)→
  (exec C N fF.body ⟨[],args++List.replicate (fF.jZ-fF.nparams) .undef,bx⟩=some (.norm σ)∨exec C N fF.body ⟨[],args++List.replicate (fF.jZ-fF.nparams) .undef,bx⟩=some (.ret σ))→
  c9 σ fF.results fF.canon=some t→Calls P f vs w fun e w'=>∃x S' β' φ',e= .returned x∧Inv P W S S' β' φ' σ.boxes w'∧ak S' w' β' φ' x t:=by
 unfold lower at hl
 simp only at hl
 split at hl<;>try(cases hl;done)
 rename_i c hb
 split at hl<;>try(cases hl;done)
 rename_i fA
 obtain⟨D5,hbm,n9,gZ⟩:=fA
 simp only[Option.bind_eq_bind]at hl
 obtain⟨⟨ic,h'⟩,vU,hl⟩:=Option.bind_eq_some_iff.1 hl
 obtain⟨Gk,aba,hl⟩:=Option.bind_eq_some_iff.1 hl
 simp only[Option.some.injEq]at hl
 subst hl
 refine⟨rfl,by simp[jr,hf,hb,hn],fun {args bx vs t} hlen hI hWw np di NO gU hex uW=> ?_⟩
 simp only at hlen hex uW
 generalize hp:fn.params.size+fn.nfree=p at n9 hlen hex
 have aml:p≤vm.length:=by
  have:=congrArg List.length n9
  simp only[List.length_take,List.length_range]at this
  omega
 have NS:∀i,i< p→vm[i]? =some i:=by
  intro i hi
  have:(vm.take p)[i]? =some i:=by rw[n9];simp[hi]
  rw[List.getElem?_take]at this
  simpa [hi]using this
 have Db:p≤fn.ntmps:=by
  by_cases h0:p=0
  ·omega
  ·have:=NS (p-1) (by omega)
   have hm:=List.mem_of_getElem? this
   simp only[List.all_eq_true,decide_eq_true_eq]at gZ
   have:=gZ _ hm
   omega
 have hR:bX P W S S β φ fn.ntmps vm [] ⟨[],args++List.replicate (vm.length-p) .undef,bx⟩ {tmps:=vs++Array.replicate (fn.ntmps-vs.size) undef,defers:=[]} w:=by
  refine⟨hI,⟨[],by simp,rfl,by simp⟩,by simp;omega,by simp;omega,rfl,fun i s u hi _ hu=> ?_,fun j s u hj=>by simp at hj,fun j j' s hj=>by simp at hj⟩
  rw[List.getElem?_append]at hu
  split at hu
  ·rename_i hlt
   have:=NS i (by omega)
   rw[this]at hi
   simp only[Option.some.injEq]at hi
   subst hi
   refine gU i _ u ?_ hu
   simp only[Array.getD_eq_getD_getElem?]
   rw[Array.getElem?_append_left (by omega)]
   simp[show i< vs.size by omega]
  ·rw[List.getElem?_replicate]at hu
   split at hu
   ·simp only[Option.some.injEq]at hu;subst hu;exact .undef ..
   ·cases hu
 have hE:Ext S W W:=Ext.refl hI.below.lt
 refine(callsIn_wide (n:=3)).1 (callsIn_of_wp_marks (F:=wd none) hf hb trivial ?_)
 have fin:∀a' w',o4 P W S fn.ntmps vm σ a' w'→LeavesInM (wd none) 3 P fn a'.tmps (fun e w'=>∃x S' β' φ',e= .returned x∧Inv P W S S' β' φ' σ.boxes w'∧ak S' w' β' φ' x t) a'.defers .returning w':=by
  rintro a' w' ⟨W2,S',β',φ',hE2,H5⟩
  obtain⟨Ds,mC,zu,hn3⟩:=H5.nd
  rw[zu]
  have oI:=H5.inv.TL hE2
  refine WI Ds w' mC (fun D hD=> ?_) oI (fun s u ⟨i,h1,h2⟩=>H5.vars i s u h1 (by simp) h2) fun w2 hI2 hv2=> ?_
  ·obtain⟨g1,g2,g3⟩:=hn3 D hD
   refine⟨(H5.inv.below.block D g1).trans g2,fun hx=> ?_⟩
   have:=oI.below.lt D hx
   rw[hE2.m0,np,←hWw]at g3
   omega
  ·obtain⟨x,hx,cj⟩:=De (a:=a') hI2 (fun i s u h1 h2=>hv2 s u ⟨i,h1,h2⟩) aba uW
   exact⟨x,hx,x,S',β',φ',rfl,hI2,cj⟩
 rcases hex with hex|hex
 ·exact H6 hC hD N 400 c di (by rw[np,hWw];exact Nat.le_refl _) (.inl rfl) vU hex ⟨W,S,β,φ,hE,hR⟩ fun a' w' hc=>fin a' w' hc
 ·exact H6 hC hD N 400 c di (by rw[np,hWw];exact Nat.le_refl _) (.inl rfl) vU hex ⟨W,S,β,φ,hE,hR⟩ fun a' w' hc=>fin a' w' hc
end
end Go.Vi
end
section
namespace Go.Vi
open Go Go.RowKit
def IOp.pure:IOp→Bool
 | .sliceA ..| .bsliceB ..| .alloc ..| .box ..| .load ..| .store ..| .mkSlice ..| .mkBox ..| .mkCap ..| .bslice ..| .append ..| .copy ..| .call ..| .callv ..| .clearS ..| .appendB ..| .mkMap ..| .lookup ..| .mapUpdate ..| .lenM ..| .thaw ..| .callnew ..| .callio ..| .callvio ..=>false
 |_=>true
def IOp.quiet:IOp→Bool
 | .load ..| .lookup ..| .lenM ..| .sliceA ..=>true
 |o=>o.pure
def quietVal(get:ag→T)(bx:List (Option (List T))):IOp→Option T
 | .mv a=>some (get a)
 | .pick c a b=>match get c with| .v (.bool t)=>some (if t then get a else get b)|_=>none
 | .bin op t a b=>bO op t (get a) (get b)
 | .eqb neg a b=>match get a,get b with| .v (.bool x),.v (.bool y)=>some (T.bool ((x==y) !=neg))|_,_=>none
 | .eqa neg ks a b=>match get a,get b with
  | .agg xs,.agg ys=>(cd ks xs ys).map fun e=>T.bool (e !=neg)
  |_,_=>none
 | .eqnil neg a=>match get a with
  | .sl .nil _ _=>some (T.bool (!neg))
  | .sl .lP _ _=>some (T.bool neg)
  | .sl _ n _=>if 0< n then some (T.bool neg)else none
  | .av _ _ n _=>if 0< n then some (T.bool neg)else none
  |_=>none
 | .un op a=>match get a with| .v x=>(gy (Op.unary op x)).map fun y=> .v y|_=>none
 | .toInt k a=>match get a with
  | .v (.int _ n)=>some (.v (.int k (k.wrap n)))
  | .v (.float s b)=>(gy (Conv.floatToInt s b k)).map fun y=> .v y
  |_=>none
 | .toFloat k a=>match get a with| .v (.int _ n)=>some (.v (.float k (k.nearest n)))|_=>none
 | .toStr a=>match get a with
  | .sl _ n cs=>if n=cs.length then(bytesOf cs).map fun b=> .str ⟨b.toArray⟩else none
  |_=>none
 | .build zero parts=>(df get zero parts).map fun cs=> .agg cs
 | .field isAgg off n a=>match get a with| .agg cs=>one? isAgg n cs off|_=>none
 | .indexA len sz isAgg a i=>match get a,asNat (get i)with
  | .agg cs,some i=>if i< len then one? isAgg sz cs (i*sz)else none
  |_,_=>none
 | .indexS a i=>match get a,asNat (get i)with
  | .v (.string s),some i=>(s.data[i]?).map fun b=> .u8 b.toNat
  |_,_=>none
 | .extract a i=>match get a with| .an ts=>ts[i]? |_=>none
 | .load isAgg n a=>match get a with
  | .ref s off=>match bx[s]? with
   |some (some cs)=>one? isAgg n cs off
   |_=>none
  | .ptr cs off=>(one? isAgg n cs off).filter T.closed
  |_=>none
 | .faddr off a=>match get a with
  | .ref s o=>some (.ref s (o+off))
  | .ptr cs o=>some (.ptr cs (o+off))
  |_=>none
 | .iaddrA len sz a i=>match get a,asNat (get i)with
  | .ref s o,some i=>if i< len then some (.ref s (o+i*sz))else none
  | .ptr cs o,some i=>if i< len then some (.ptr cs (o+i*sz))else none
  |_,_=>none
 | .iaddrS sz a i=>match get a,asNat (get i)with
  | .sl _ n cs,some i=>if i< n then some (.ptr cs (i*sz))else none
  | .av s o n _,some i=>if i< n then some (.ref s (o+i*sz))else none
  |_,_=>none
 | .sliceS a lo hi=>match get a with
  | .v (.string s)=>do
   let h←aw get s.size hi
   let l←aw get 0 lo
   if l≤h∧h≤s.size then some (.str (s.extract l h))else none
  |_=>none
 | .sliceT sz a lo hi mx=>match get a with
  | .sl g n cs=>do
   let h←aw get n hi
   let l←aw get 0 lo
   let m←aw get n mx
   if l≤h∧h≤m∧m≤n then some (.sl (if g= .nil then .nil else if mx.isSome∧h=m then .clip else .any) (h-l) ((cs.drop (l*sz)).take ((h-l)*sz)))
   else none
  | .av s o n c=>do
   let h←aw get n hi
   let l←aw get 0 lo
   let m←aw get n mx
   if l≤h∧h≤m∧m≤n∧(n=0∨n*sz=c)then some (.av s (o+l*sz) (h-l) (if h=l then(if n=0 then c else 1+sz)else(h-l)*sz))else none
  |_=>none
 | .sliceA len sz a lo hi=>match get a with
  | .ref s o=>do
   let h←aw get len hi
   let l←aw get 0 lo
   match bx[s]? with
   |some (some cs)=>if l≤h∧h≤len∧o+len*sz≤cs.length then some (.av s (o+l*sz) (h-l) (if h=l then 1 else(h-l)*sz))else none
   |_=>none
  |_=>none
 | .arrOf len a=>match get a with
  | .av s o n _=>if len≤n∧0< n then some (.ref s o)else none
  | .sl _ n cs=>if len≤n∧0< n then some (.ptr cs 0)else none
  |_=>none
 | .lookup k zero ok a i=>match get a with
  | .aQ s=>match bx[s]? with
   |some (some cs)=>(mc k (get i) cs).map fun r=>match r with
    |some v=>if ok then .an [v,T.bool true]else v
    |none=>if ok then .an [zero,T.bool false]else zero
   |_=>none
  |_=>none
 | .lenM a=>match get a with
  | .aQ s=>match bx[s]? with
   |some (some cs)=>some (T.int (cs.length / 2:Nat))
   |_=>none
  |_=>none
 | .len str a=>jo str (get a)
 | .capS a=>match get a with
  | .sl .nil _ _=>some (T.int 0)
  | .sl .clip n _=>some (T.int n)
  | .av _ _ 0 0=>some (T.int 0)
  |_=>none
 | .minMax mx as=>match as.map get with
  | .v (.int k x)::rest=>(ng mx x rest).map fun r=> .v (.int k r)
  |_=>none
 | .part k a=>match get a with
  | .v (.complex f re im)=>some (.v (.float f (if k=0 then re else im)))
  |_=>none
 | .cplx a b=>match get a,get b with
  | .v (.float k re),.v (.float k' im)=>if k=k' then some (.v (.complex k re im))else none
  |_,_=>none
 | .mkFunc fn first cap=>some (.bB fn (first.map get) (cap.map get))
 | .nilCheck a=>match get a with
  | .ref s o=>some (.ref s o)
  | .ptr cs o=>some (.ptr cs o)
  | .bB (.func f) a b=>some (.bB (.func f) a b)
  | .v (.func (.func f) a b)=>some (.v (.func (.func f) a b))
  |_=>none
 |_=>none
theorem k8{C:FuncId→List T→Option T}{σ:St}{o:IOp}(h:o.quiet=true):ae C σ o=(quietVal (ag.get σ) σ.boxes o).map (·,σ):=by
 cases o<;>try(simp[IOp.quiet,IOp.pure]at h;done)
 case sliceS a lo hi=>
  simp only[ae,quietVal]
  generalize ag.get σ a=u
  cases u<;>try rfl
  rename_i x
  cases x<;>try rfl
  rename_i s
  simp only
  cases aw (ag.get σ) s.size hi<;>try rfl
  cases aw (ag.get σ) 0 lo<;>try rfl
  simp only[Option.bind_eq_bind,Option.bind_some]
  split<;>rfl
 case sliceA len sz a lo hi=>
  simp only[ae,quietVal]
  generalize ag.get σ a=u
  cases u<;>try rfl
  simp only
  rename_i s o
  cases aw (ag.get σ) len hi<;>try rfl
  cases aw (ag.get σ) 0 lo<;>try rfl
  simp only[Option.bind_eq_bind,Option.bind_some]
  cases σ.boxes[s]? with
  |none=>rfl
  |some ob=>
   cases ob with
   |none=>rfl
   |some cs=>simp only;split<;>rfl
 case sliceT sz a lo hi mx=>
  simp only[ae,quietVal]
  generalize ag.get σ a=u
  cases u<;>try rfl
  ·rename_i g n cs
   simp only
   cases aw (ag.get σ) n hi<;>try rfl
   cases aw (ag.get σ) 0 lo<;>try rfl
   cases aw (ag.get σ) n mx<;>try rfl
   simp only[Option.bind_eq_bind,Option.bind_some]
   split<;>rfl
  ·rename_i s o n c
   simp only
   cases aw (ag.get σ) n hi<;>try rfl
   cases aw (ag.get σ) 0 lo<;>try rfl
   cases aw (ag.get σ) n mx<;>try rfl
   simp only[Option.bind_eq_bind,Option.bind_some]
   split<;>rfl
 case load g n a=>
  simp only[ae,quietVal]
  generalize a.get σ=u
  cases u<;>try rfl
  rename_i s off
  simp only
  cases σ.boxes[s]? with
  |none=>rfl
  |some ob=>cases ob<;>rfl
 case pick c a b=>
  simp only[ae,quietVal]
  generalize ag.get σ c=u
  cases u<;>try rfl
  rename_i x
  cases x<;>rfl
 case eqb neg a b=>
  simp only[ae,quietVal]
  generalize ag.get σ a=u
  generalize ag.get σ b=v
  cases u<;>try rfl
  rename_i x
  cases x<;>try rfl
  cases v<;>try rfl
  rename_i y
  cases y<;>rfl
 case eqa neg ks a b=>
  simp only[ae,quietVal]
  generalize ag.get σ a=u
  generalize ag.get σ b=v
  cases u<;>try rfl
  cases v<;>try rfl
  simp only[Option.map_map];rfl
 case eqnil neg a=>
  simp only[ae,quietVal]
  generalize ag.get σ a=u
  cases u<;>try rfl
  ·rename_i g n cs
   cases g<;>first|rfl|(simp only;split<;>rfl)
  ·simp only;split<;>rfl
 case lookup k zero ok a i=>
  simp only[ae,quietVal]
  generalize a.get σ=u
  cases u<;>try rfl
  rename_i s
  simp only
  cases σ.boxes[s]? with
  |none=>rfl
  |some ob=>
   cases ob with
   |none=>rfl
   |some cs=>
    simp only
    cases mc k (ag.get σ i) cs with
    |none=>rfl
    |some r=>cases r<;>rfl
 case lenM a=>
  simp only[ae,quietVal]
  generalize a.get σ=u
  cases u<;>try rfl
  rename_i s
  simp only
  cases σ.boxes[s]? with
  |none=>rfl
  |some ob=>cases ob<;>rfl
 case capS a=>
  simp only[ae,quietVal]
  generalize a.get σ=u
  cases u<;>try rfl
  ·rename_i g n cs
   cases g<;>rfl
  ·rename_i s o n c
   cases n<;>cases c<;>rfl
 case un op a=>
  simp only[ae,quietVal]
  generalize ag.get σ a=u
  cases u<;>try rfl
  simp only[Option.map_map];rfl
 case toInt k a=>
  simp only[ae,quietVal]
  generalize ag.get σ a=u
  cases u<;>try rfl
  rename_i x
  cases x<;>try rfl
  simp only[Option.map_map];rfl
 case toFloat k a=>
  simp only[ae,quietVal]
  generalize ag.get σ a=u
  cases u<;>try rfl
  rename_i x
  cases x<;>rfl
 case toStr a=>
  simp only[ae,quietVal]
  generalize ag.get σ a=u
  cases u<;>try rfl
  simp only
  split<;>try rfl
  simp only[Option.map_map];rfl
 case field g off n a=>
  simp only[ae,quietVal]
  generalize ag.get σ a=u
  cases u<;>rfl
 case indexA len sz g a i=>
  simp only[ae,quietVal]
  generalize ag.get σ a=u
  generalize asNat (ag.get σ i)=j
  cases u<;>try rfl
  cases j<;>try rfl
  simp only
  split<;>rfl
 case indexS a i=>
  simp only[ae,quietVal]
  generalize ag.get σ a=u
  generalize asNat (ag.get σ i)=j
  cases u<;>try rfl
  rename_i x
  cases x<;>try rfl
  cases j<;>try rfl
  simp only[Option.map_map];rfl
 case extract a i=>
  simp only[ae,quietVal]
  generalize ag.get σ a=u
  cases u<;>rfl
 case faddr off a=>
  simp only[ae,quietVal]
  generalize ag.get σ a=u
  cases u<;>rfl
 case iaddrA len sz a i=>
  simp only[ae,quietVal]
  generalize ag.get σ a=u
  generalize asNat (ag.get σ i)=j
  cases u<;>try rfl
  all_goals
   cases j<;>try rfl
   simp only
   split<;>rfl
 case iaddrS sz a i=>
  simp only[ae,quietVal]
  generalize ag.get σ a=u
  generalize asNat (ag.get σ i)=j
  cases u<;>try rfl
  all_goals
   cases j<;>try rfl
   simp only
   split<;>rfl
 case arrOf len a=>
  simp only[ae,quietVal]
  generalize ag.get σ a=u
  cases u<;>try rfl
  all_goals
   simp only
   split<;>rfl
 case minMax mx as=>
  simp only[ae,quietVal]
  generalize as.map (ag.get σ)=us
  cases us<;>try rfl
  rename_i u us
  cases u<;>try rfl
  rename_i x
  cases x<;>try rfl
  simp only[Option.map_map];rfl
 case part k a=>
  simp only[ae,quietVal]
  generalize ag.get σ a=u
  cases u<;>try rfl
  rename_i x
  cases x<;>rfl
 case cplx a b=>
  simp only[ae,quietVal]
  generalize ag.get σ a=u
  generalize ag.get σ b=v
  cases u<;>try rfl
  rename_i x
  cases x<;>try rfl
  cases v<;>try rfl
  rename_i y
  cases y<;>try rfl
  simp only
  split<;>rfl
 case nilCheck a=>
  simp only[ae,quietVal]
  generalize ag.get σ a=u
  cases u<;>try rfl
  ·rename_i x
   cases x<;>try rfl
   rename_i f _ _
   cases f<;>rfl
  ·rename_i f _ _
   cases f<;>rfl
 all_goals
  simp only[ae,quietVal]<;>first
   |rfl
   |simp only[Option.map_map,Function.comp_def]
theorem fillT_congr{get get':ag→T}:∀(ps:List (Nat×Nat×ag)) (cs:List T),(∀x∈ps.map (fun p=>p.2.2),get' x=get x)→df get' cs ps=df get cs ps
 | [],cs,_=>rfl
 |(off,n,a)::ps,cs,h=>by
  simp only[df]
  rw[h a (by simp)]
  cases cellsOf (get a)with
  |none=>rfl
  |some ns=>
   simp only[Option.bind_eq_bind,Option.bind_some]
   split
   ·exact fillT_congr ps _ fun x hx=>h x (by simp at hx⊢;exact .inr hx)
   ·rfl
theorem ly{get get':ag→T}{d:Nat}{x:Option ag}(h:∀y∈x.toList,get' y=get y):aw get' d x=aw get d x:=by
 cases x with
 |none=>rfl
 |some y=>simp only[aw];rw[h y (by simp)]
theorem map_congr'{get get':ag→T}{as:List ag}(h:∀x∈as,get' x=get x):as.map get'=as.map get:=List.map_congr_left h
theorem nz{get get':ag→T}{bx:List (Option (List T))}{o:IOp}(h:∀x∈o.reads,get' x=get x):quietVal get' bx o=quietVal get bx o:=by
 cases o
 case build zero ps=>simp only[quietVal];rw[fillT_congr ps zero h]
 case minMax mx as=>simp only[quietVal];rw[map_congr' (as:=as) h]
 case mkFunc fn a b=>
  simp only[quietVal]
  rw[map_congr' (as:=a) fun x hx=>h x (by simp[IOp.reads,hx]),map_congr' (as:=b) fun x hx=>h x (by simp[IOp.reads,hx])]
 case sliceS a lo hi=>
  simp only[IOp.reads,List.mem_cons,List.mem_append]at h
  simp only[quietVal]
  rw[h a (.inl rfl)]
  simp only[fun d=>ly (d:=d) (x:=lo) (get:=get) (get':=get') fun y hy=>h y (.inr (.inl hy)),fun d=>ly (d:=d) (x:=hi) (get:=get) (get':=get') fun y hy=>h y (.inr (.inr hy))]
 case sliceA len sz a lo hi=>
  simp only[IOp.reads,List.mem_cons,List.mem_append]at h
  simp only[quietVal]
  rw[h a (.inl rfl)]
  simp only[fun d=>ly (d:=d) (x:=lo) (get:=get) (get':=get') fun y hy=>h y (.inr (.inl hy)),fun d=>ly (d:=d) (x:=hi) (get:=get) (get':=get') fun y hy=>h y (.inr (.inr hy))]
 case sliceT sz a lo hi mx=>
  simp only[IOp.reads,List.mem_cons,List.mem_append]at h
  simp only[quietVal]
  rw[h a (.inl rfl)]
  simp only[fun d=>ly (d:=d) (x:=lo) (get:=get) (get':=get') fun y hy=>h y (.inr (.inl hy)),fun d=>ly (d:=d) (x:=hi) (get:=get) (get':=get') fun y hy=>h y (.inr (.inr (.inl hy))),fun d=>ly (d:=d) (x:=mx) (get:=get) (get':=get') fun y hy=>h y (.inr (.inr (.inr hy)))]
 all_goals
  simp only[IOp.reads,List.mem_cons,List.not_mem_nil,or_false,forall_eq_or_imp,forall_eq,List.mem_singleton]at h
  simp only[quietVal,h]
end Go.Vi
end
section
namespace Go.Vi
open Go Go.RowKit
mutual
theorem uo(d:Nat):∀t:T,t.closed=true→t.strip d=t
 | .undef,_=>rfl
 | .v _,_=>rfl
 | .sl g n cs,h=>by cases g<;>first|rfl|simp[T.closed]at h
 | .ptr ..,_=>rfl
 | .ref ..,_=>rfl
 | .av ..,_=>rfl
 | .aQ ..,_=>rfl
 | .agg ts,h=>by simp only[T.strip];rw[ku d ts (by simpa [T.closed]using h)]
 | .an ts,h=>by simp only[T.strip];rw[ku d ts (by simpa [T.closed]using h)]
 | .bB f a b,h=>by
  simp only[T.closed,Bool.and_eq_true]at h
  simp only[T.strip];rw[ku d a h.1,ku d b h.2]
theorem ku(d:Nat):∀ts:List T,bn ts=true→stripL d ts=ts
 | [],_=>rfl
 |t::ts,h=>by
  simp only[bn,Bool.and_eq_true]at h
  simp only[stripL];rw[uo d t h.1,ku d ts h.2]
end
def cS(d:Nat)(bx:List (Option (List T))):List (Option (List T)):=bx.map (Option.map (stripL d))
theorem WJ(d:Nat)(t:T):(t.strip d).one=t.one:=by
 cases t<;>try rfl
 rename_i g n cs
 cases g<;>rfl
theorem Bb{d:Nat}{t:T}{x:Value}:t.strip d= .v x↔t= .v x:=by
 cases t with
 |sl g n cs=>cases g<;>simp[T.strip]
 |_=>simp[T.strip]
theorem rV(d:Nat)(t:T):asNat (t.strip d)=asNat t:=by
 cases t<;>try rfl
 rename_i g n cs
 cases g<;>rfl
theorem B0(d:Nat)(g:Bool)(n:Nat)(cs:List T)(off:Nat):one? g n (stripL d cs) off=(one? g n cs off).map (T.strip d):=by
 unfold one?
 cases g with
 |true=>
  simp only[if_true,aF,List.length_map]
  split
  ·simp[T.strip,aF,List.map_take,List.map_drop]
  ·rfl
 |false=>simp[aF]
theorem Df(d:Nat)(t:T):cellsOf (t.strip d)=(cellsOf t).map (stripL d):=by
 cases t<;>try rfl
 rename_i g n cs
 cases g<;>rfl
theorem JO(d:Nat)(cs:List T)(off:Nat)(ns:List T):setCells (stripL d cs) off (stripL d ns)=stripL d (setCells cs off ns):=by
 simp[setCells,aF,List.map_take,List.map_drop]
theorem xa(d:Nat)(ts:List T):(stripL d ts).length=ts.length:=by simp[aF]
theorem H9(d:Nat)(ts:List T):(stripL d ts).all T.one=ts.all T.one:=by
 induction ts with
 |nil=>rfl
 |cons t ts ih=>simp[stripL,WJ,ih]
theorem Gl(d:Nat){get:ag→T}:∀(ps:List (Nat×Nat×ag)) (cs:List T),df (fun x=>(get x).strip d) (stripL d cs) ps=(df get cs ps).map (stripL d)
 | [],cs=>rfl
 |(off,n,a)::ps,cs=>by
  simp only[df]
  rw[Df]
  cases cellsOf (get a)with
  |none=>rfl
  |some ns=>
   simp only[Option.bind_eq_bind,Option.map_some,Option.bind_some,xa,H9]
   split
   ·rw[JO,Gl d ps]
   ·rfl
theorem yF(d:Nat){get:ag→T}{k:Nat}(x:Option ag):aw (fun x=>(get x).strip d) k x=aw get k x:=by
 cases x with
 |none=>rfl
 |some y=>simp only[aw,rV]
theorem Ec(d:Nat)(k:LK)(a b:T):ig k (a.strip d) (b.strip d)=ig k a b:=by
 have h:∀t:T,(∃x,t= .v x)∨((∀x,t≠ .v x)∧∀x,t.strip d≠ .v x):=fun t=>by
  cases t with
  |v x=>exact .inl ⟨x,rfl⟩
  |_=>refine .inr ⟨by simp,fun x h=> ?_⟩;rw[Bb]at h;cases h
 have hn:∀(k:LK) (a b:T),(∀x,a≠ .v x)→ig k a b=none:=fun k a b h=>by
  cases a<;>first|exact absurd rfl (h _)|(cases k<;>rfl)
 have nv:∀(k:LK) (a b:T),(∀x,b≠ .v x)→ig k a b=none:=fun k a b h=>by
  cases b<;>first|exact absurd rfl (h _)|(cases k<;>cases a<;>first|rfl|(rename_i x;cases x<;>rfl))
 rcases h a with⟨x,rfl⟩|⟨h1,h2⟩
 ·rcases h b with⟨y,rfl⟩|⟨h3,h4⟩
  ·rfl
  ·rw[nv _ _ _ h3,nv _ _ _ h4]
 ·rw[hn _ _ _ h1,hn _ _ _ h2]
theorem Dg(d:Nat):∀(ks:List LK) (xs ys:List T),cd ks (stripL d xs) (stripL d ys)=cd ks xs ys
 | [],[],[]=>rfl
 | [],[],_::_=>rfl
 | [],_::_,[]=>rfl
 | [],_::_,_::_=>rfl
 |_::_,[],[]=>rfl
 |_::_,[],_::_=>rfl
 |_::_,_::_,[]=>rfl
 |k::ks,a::as,b::bs=>by simp only[stripL,cd,Ec,Dg d ks]
theorem Ed(d:Nat)(mx:Bool):∀(ts:List T) (acc:Int),ng mx acc (stripL d ts)=ng mx acc ts
 | [],acc=>rfl
 |t::ts,acc=>by
  simp only[stripL]
  cases t<;>try rfl
  ·rename_i x
   simp only[T.strip]
   cases x<;>try rfl
   simp only[ng]
   rw[Ed d mx ts]
  ·rename_i g n cs
   cases g<;>rfl
theorem TT(d:Nat)(str:Bool)(t:T):jo str (t.strip d)=jo str t:=by
 cases t<;>try rfl
 rename_i g n cs
 cases g<;>rfl
theorem TU(d:Nat)(op:BinOp)(ty:TypeId)(a b:T):bO op ty (a.strip d) (b.strip d)=bO op ty a b:=by
 have hn:∀(a b:T),(∀x,a≠ .v x)→bO op ty a b=none:=fun a b h=>by
  cases a<;>first|exact absurd rfl (h _)|rfl
 have nv:∀(a b:T),(∀x,b≠ .v x)→bO op ty a b=none:=fun a b h=>by
  cases b<;>first|exact absurd rfl (h _)|(cases a<;>rfl)
 by_cases h1:∃x,a= .v x
 ·obtain⟨x,rfl⟩:=h1
  by_cases h2:∃x,b= .v x
  ·obtain⟨y,rfl⟩:=h2;rfl
  ·rw[nv _ b fun x h=>h2 ⟨x,h⟩,nv _ (b.strip d) fun x h=>h2 ⟨x,Bb.1 h⟩]
 ·rw[hn a _ fun x h=>h1 ⟨x,h⟩,hn (a.strip d) _ fun x h=>h1 ⟨x,Bb.1 h⟩]
theorem af3{op:BinOp}{ty:TypeId}{a b t:T}(h:bO op ty a b=some t)(d:Nat):t.strip d=t:=by
 unfold bO at h
 split at h
 ·split at h
  ·obtain⟨x,_,rfl⟩:=Option.map_eq_some_iff.1 h;rfl
  ·cases h
 ·cases h
theorem Gm(d:Nat)(k:LK)(key:T):∀cs:List T,mc k (key.strip d) (stripL d cs)=(mc k key cs).map (Option.map (T.strip d))
 | []=>rfl
 | [_]=>rfl
 |a::v::cs=>by
  simp only[stripL,mc,Ec]
  cases ig k key a with
  |none=>rfl
  |some e=>
   simp only[Option.bind_some]
   split
   ·rfl
   ·exact Gm d k key cs
def kF:IOp→Bool
 | .build zero _| .alloc _ zero| .bslice _ _ _ _ zero _=>bn zero
 | .lookup _ zero _ _ _=>zero.closed
 |_=>true
theorem Bc(d:Nat){get:ag→T}{bx:List (Option (List T))}{o:IOp}(hz:kF o=true):quietVal (fun x=>(get x).strip d) (cS d bx) o=(quietVal get bx o).map (T.strip d):=by
 cases o<;>try rfl
 case pick c a b=>
  simp only[quietVal]
  generalize get c=u
  cases u<;>try rfl
  ·rename_i x
   simp only[T.strip]
   cases x<;>try rfl
   simp only[Option.map_some]
   split<;>rfl
  ·rename_i g n cs
   cases g<;>rfl
 case bin op t a b=>
  simp only[quietVal,TU]
  cases h:bO op t (get a) (get b)with
  |none=>rfl
  |some r=>simp[af3 h]
 case eqb neg a b=>
  simp only[quietVal]
  generalize get a=u
  generalize get b=v
  cases u<;>try rfl
  ·rename_i x
   simp only[T.strip]
   cases x<;>try rfl
   cases v<;>try rfl
   ·rename_i y
    simp only[T.strip]
    cases y<;>rfl
   ·rename_i g n cs
    cases g<;>rfl
  ·rename_i g n cs
   cases g<;>rfl
 case eqa neg ks a b=>
  simp only[quietVal]
  generalize get a=u
  generalize get b=v
  cases u<;>try rfl
  ·rename_i g n cs
   cases g<;>rfl
  ·rename_i xs
   cases v<;>try rfl
   ·rename_i g n cs
    cases g<;>rfl
   ·rename_i ys
    simp only[T.strip,Dg,Option.map_map]
    rfl
 case eqnil neg a=>
  simp only[quietVal]
  generalize get a=u
  cases u<;>try rfl
  ·rename_i g n cs
   cases g<;>try rfl
   ·simp only[T.strip];split<;>rfl
   ·simp only[T.strip];split<;>rfl
   ·rename_i k e
    by_cases h:hit d k=true
    ·simp only[T.strip,h,if_true];split<;>rfl
    ·simp only[T.strip,h];simp only[Bool.false_eq_true,if_false];split<;>rfl
  ·simp only[T.strip];split<;>rfl
 case lookup k zero ok a i=>
  simp only[quietVal]
  generalize get a=u
  cases u<;>try rfl
  ·rename_i g n cs
   cases g<;>rfl
  ·rename_i s
   simp only[T.strip,cS,List.getElem?_map]
   cases bx[s]? with
   |none=>rfl
   |some ob=>
    cases ob with
    |none=>rfl
    |some cs=>
     simp only[Option.map_some,Gm,Option.map_map]
     refine congrArg (fun f=>Option.map f (mc k (get i) cs)) (funext fun r=> ?_)
     have oH:zero.strip d=zero:=uo d zero (by simpa [kF]using hz)
     cases r<;>cases ok<;>simp[T.strip,stripL,oH]
 case capS a=>
  simp only[quietVal]
  generalize get a=u
  cases u<;>try rfl
  ·rename_i g n cs
   cases g with
   |own k e=>
    simp only[T.strip]
    cases hit d k<;>rfl
   |_=>rfl
  ·rename_i s o n c
   cases n<;>cases c<;>rfl
 case lenM a=>
  simp only[quietVal]
  generalize get a=u
  cases u<;>try rfl
  ·rename_i g n cs
   cases g<;>rfl
  ·rename_i s
   simp only[T.strip,cS,List.getElem?_map]
   cases bx[s]? with
   |none=>rfl
   |some ob=>
    cases ob with
    |none=>rfl
    |some cs=>simp only[Option.map_some,xa,T.strip]
 case un op a=>
  simp only[quietVal]
  generalize get a=u
  cases u<;>try rfl
  ·simp only[T.strip,Option.map_map];rfl
  ·rename_i g n cs
   cases g<;>rfl
 case toInt k a=>
  simp only[quietVal]
  generalize get a=u
  cases u<;>try rfl
  ·rename_i x
   simp only[T.strip]
   cases x<;>try rfl
   simp only[Option.map_map];rfl
  ·rename_i g n cs
   cases g<;>rfl
 case toFloat k a=>
  simp only[quietVal]
  generalize get a=u
  cases u<;>try rfl
  ·rename_i x
   simp only[T.strip]
   cases x<;>rfl
  ·rename_i g n cs
   cases g<;>rfl
 case toStr a=>
  simp only[quietVal]
  generalize get a=u
  cases u<;>try rfl
  rename_i g n cs
  cases g<;>simp only[T.strip]<;>split<;>first|rfl|(simp only[Option.map_map];rfl)
 case build zero ps=>
  simp only[quietVal]
  have oH:stripL d zero=zero:=ku d zero (by simpa [kF]using hz)
  have:=Gl d (get:=get) ps zero
  rw[oH]at this
  rw[this]
  simp only[Option.map_map];rfl
 case field g off n a=>
  simp only[quietVal]
  generalize get a=u
  cases u<;>try rfl
  ·rename_i g n cs
   cases g<;>rfl
  ·simp only[T.strip,B0]
 case indexA len sz g a i=>
  simp only[quietVal,rV]
  generalize get a=u
  generalize asNat (get i)=j
  cases u<;>try rfl
  ·rename_i g n cs
   cases g<;>rfl
  ·cases j<;>try rfl
   simp only[T.strip,B0]
   split<;>rfl
 case indexS a i=>
  simp only[quietVal,rV]
  generalize get a=u
  generalize asNat (get i)=j
  cases u<;>try rfl
  ·rename_i x
   simp only[T.strip]
   cases x<;>try rfl
   cases j<;>try rfl
   simp only[Option.map_map];rfl
  ·rename_i g n cs
   cases g<;>rfl
 case extract a i=>
  simp only[quietVal]
  generalize get a=u
  cases u<;>try rfl
  ·rename_i g n cs
   cases g<;>rfl
  ·simp[T.strip,aF]
 case load g n a=>
  simp only[quietVal]
  generalize get a=u
  cases u<;>try rfl
  ·rename_i g n cs
   cases g<;>rfl
  ·rename_i cs off
   simp only[T.strip]
   cases h:one? g n cs off with
   |none=>rfl
   |some t=>
    by_cases hc:t.closed=true
    ·simp[Option.filter,hc,uo d t hc]
    ·simp[Option.filter,hc]
  ·rename_i s off
   simp only[T.strip,cS,List.getElem?_map]
   cases bx[s]? with
   |none=>rfl
   |some ob=>
    cases ob with
    |none=>rfl
    |some cs=>simp only[Option.map_some,B0]
 case faddr off a=>
  simp only[quietVal]
  generalize get a=u
  cases u<;>try rfl
  rename_i g n cs
  cases g<;>rfl
 case iaddrA len sz a i=>
  simp only[quietVal,rV]
  generalize get a=u
  generalize asNat (get i)=j
  cases u<;>try rfl
  ·rename_i g n cs
   cases g<;>rfl
  all_goals
   cases j<;>try rfl
   simp only[T.strip]
   split<;>rfl
 case iaddrS sz a i=>
  simp only[quietVal,rV]
  generalize get a=u
  generalize asNat (get i)=j
  cases u<;>try rfl
  ·rename_i g n cs
   cases j<;>cases g<;>simp only[T.strip]<;>first|rfl|(split<;>rfl)
  ·cases j<;>try rfl
   simp only[T.strip]
   split<;>rfl
 case sliceS a lo hi=>
  simp only[quietVal,yF]
  generalize get a=u
  cases u<;>try rfl
  ·rename_i x
   simp only[T.strip]
   cases x<;>try rfl
   rename_i s
   simp only
   cases aw get s.size hi<;>try rfl
   cases aw get 0 lo<;>try rfl
   simp only[Option.bind_eq_bind,Option.bind_some]
   split<;>rfl
  ·rename_i g n cs
   cases g<;>rfl
 case sliceA len sz a lo hi=>
  simp only[quietVal,yF]
  generalize get a=u
  cases u<;>try rfl
  ·rename_i g n cs
   cases g<;>rfl
  ·rename_i s o
   simp only[T.strip,cS,List.getElem?_map]
   cases aw get len hi<;>try rfl
   cases aw get 0 lo<;>try rfl
   simp only[Option.bind_eq_bind,Option.bind_some]
   cases bx[s]? with
   |none=>rfl
   |some ob=>
    cases ob with
    |none=>rfl
    |some cs=>simp only[Option.map_some,xa];split<;>rfl
 case sliceT sz a lo hi mx=>
  simp only[quietVal,yF]
  generalize get a=u
  cases u<;>try rfl
  ·rename_i g n cs
   have key:∀g:Tag,(do
     let h←aw get n hi
     let l←aw get 0 lo
     let m←aw get n mx
     if l≤h∧h≤m∧m≤n then some (T.sl (if g= .nil then .nil else if mx.isSome∧h=m then .clip else .any) (h-l) ((cs.drop (l*sz)).take ((h-l)*sz)))
     else none)=Option.map (T.strip d) (do
     let h←aw get n hi
     let l←aw get 0 lo
     let m←aw get n mx
     if l≤h∧h≤m∧m≤n then some (T.sl (if g= .nil then .nil else if mx.isSome∧h=m then .clip else .any) (h-l) ((cs.drop (l*sz)).take ((h-l)*sz)))
     else none):=by
    intro g
    cases aw get n hi<;>try rfl
    cases aw get 0 lo<;>try rfl
    cases aw get n mx<;>try rfl
    simp only[Option.bind_eq_bind,Option.bind_some]
    split<;>try rfl
    simp only[Option.map_some,Option.some.injEq]
    split<;>first|rfl|(split<;>rfl)
   cases g with
   |own k e=>
    simp only[T.strip]
    have h1:=key .any
    split<;>simpa using h1
   |nil=>exact key .nil
   |any=>exact key .any
   |lP=>exact key .lP
   |clip=>exact key .clip
  ·simp only[T.strip]
   rename_i s o n c
   cases aw get n hi<;>try rfl
   cases aw get 0 lo<;>try rfl
   cases aw get n mx<;>try rfl
   simp only[Option.bind_eq_bind,Option.bind_some]
   split<;>rfl
 case arrOf len a=>
  simp only[quietVal]
  generalize get a=u
  cases u<;>try rfl
  ·rename_i g n cs
   cases g<;>simp only[T.strip]<;>split<;>rfl
  ·simp only[T.strip]
   split<;>rfl
 case len str a=>
  simp only[quietVal,TT]
  generalize get a=u
  cases u<;>try rfl
  all_goals simp only[jo]
  ·rename_i x
   cases x<;>try rfl
   simp only;split<;>rfl
  all_goals split<;>rfl
 case minMax mx as=>
  simp only[quietVal]
  have:as.map (fun x=>(get x).strip d)=stripL d (as.map get):=by simp[aF,Function.comp_def]
  rw[this]
  generalize as.map get=us
  cases us<;>try rfl
  rename_i u us
  simp only[stripL]
  cases u<;>try rfl
  ·rename_i x
   simp only[T.strip]
   cases x<;>try rfl
   simp only[Ed,Option.map_map];rfl
  ·rename_i g n cs
   cases g<;>rfl
 case part k a=>
  simp only[quietVal]
  generalize get a=u
  cases u<;>try rfl
  ·rename_i x
   simp only[T.strip]
   cases x<;>try rfl
  ·rename_i g n cs
   cases g<;>rfl
 case cplx a b=>
  simp only[quietVal]
  generalize get a=u
  generalize get b=v
  cases u<;>try rfl
  ·rename_i x
   simp only[T.strip]
   cases x<;>try rfl
   cases v<;>try rfl
   ·rename_i y
    simp only[T.strip]
    cases y<;>try rfl
    simp only
    split<;>rfl
   ·rename_i g n cs
    cases g<;>rfl
  ·rename_i g n cs
   cases g<;>rfl
 case mkFunc fn a b=>
  simp only[quietVal,Option.map_some,T.strip,aF,List.map_map]
  rfl
 case nilCheck a=>
  simp only[quietVal]
  generalize get a=u
  cases u<;>try rfl
  ·rename_i x
   simp only[T.strip]
   cases x<;>try rfl
   rename_i f _ _
   cases f<;>rfl
  ·rename_i g n cs
   cases g<;>rfl
  ·rename_i f _ _
   cases f<;>rfl
end Go.Vi
end
section
namespace Go.Vi
open Go Go.RowKit
def jd:List Nat→T→T
 | [],t=>t
 |d::ds,t=>jd ds (t.strip d)
def St.aN:List Nat→St→St
 | [],σ=>σ
 |d::ds,σ=>St.aN ds (σ.strip d)
theorem wg:∀(ds:List Nat) (σ:St),(σ.aN ds).rs=σ.rs.map (jd ds)
 | [],σ=>by simp[St.aN,show jd []=id from funext fun _=>rfl]
 |d::ds,σ=>by
  simp only[St.aN]
  rw[wg ds]
  simp only[St.strip,aF,List.map_map]
  rfl
theorem rW:∀(ds:List Nat) (σ:St),(σ.aN ds).vars=σ.vars.map (jd ds)
 | [],σ=>by simp[St.aN,show jd []=id from funext fun _=>rfl]
 |d::ds,σ=>by
  simp only[St.aN]
  rw[rW ds]
  simp only[St.strip,aF,List.map_map]
  rfl
theorem yG:∀(ds:List Nat) (σ σ':St),σ.boxes=σ'.boxes→(σ.aN ds).boxes=(σ'.aN ds).boxes
 | [],σ,σ',h=>h
 |d::ds,σ,σ',h=>by
  simp only[St.aN]
  exact yG ds _ _ (by simp only[St.strip,h])
theorem mF(ds:List Nat)(σ:St)(p:Nat)(t:T):St.aN ds {σ with rs:=σ.rs.set p t}={σ.aN ds with rs:=(σ.aN ds).rs.set p (jd ds t)}:=by
 have h1:=wg ds {σ with rs:=σ.rs.set p t}
 have h2:=rW ds {σ with rs:=σ.rs.set p t}
 have h3:=yG ds {σ with rs:=σ.rs.set p t} σ rfl
 have h4:=wg ds σ
 have h5:=rW ds σ
 generalize St.aN ds {σ with rs:=σ.rs.set p t}=a at*
 generalize St.aN ds σ=b at*
 cases a;cases b
 simp only at h1 h2 h3 h4 h5
 subst h1 h2 h3 h4 h5
 simp[List.map_set]
theorem uq(ds:List Nat):jd ds T.bD=T.bD:=by
 induction ds with
 |nil=>rfl
 |cons d ds ih=>exact ih
def ag.cOk:ag→Bool
 | .c t=>t.closed
 |_=>true
def jt(o:IOp):Bool:=o.reads.all ag.cOk
def ag.WK(p:Nat):ag→Bool
 | .r i=>i==p
 |_=>false
theorem vf{σ:St}{p:Nat}{t:T}{x:ag}(h:x.WK p=false):x.get {σ with rs:=σ.rs.set p t}=x.get σ:=by
 cases x<;>try rfl
 rename_i i
 simp only[ag.WK,beq_eq_false_iff_ne,ne_eq]at h
 simp only[ag.get,List.getD_eq_getElem?_getD,List.getElem?_set,if_neg (fun h'=>h h'.symm:¬p=i)]
theorem tq{σ:St}{d:Nat}{x:ag}(h:x.cOk=true):x.get (σ.strip d)=(x.get σ).strip d:=by
 cases x with
 |c t=>exact(uo d t h).symm
 |r i=>
  simp only[ag.get,St.strip,List.getD_eq_getElem?_getD,aF,List.getElem?_map]
  cases σ.rs[i]? <;>rfl
 |x i=>
  simp only[ag.get,St.strip,List.getD_eq_getElem?_getD,aF,List.getElem?_map]
  cases σ.vars[i]? <;>rfl
theorem QK{C:FuncId→List T→Option T}{σ:St}{o:IOp}{d:Nat}(hq:o.quiet=true)(hz:kF o=true)(hc:jt o=true):
  ae C (σ.strip d) o=(ae C σ o).map fun p=>(p.1.strip d,p.2.strip d):=by
 rw[k8 hq,k8 hq]
 have h1:quietVal (ag.get (σ.strip d)) (σ.strip d).boxes o=quietVal (fun x=>(x.get σ).strip d) (cS d σ.boxes) o:=by
  refine nz fun x hx=>tq ?_
  simp only[jt,List.all_eq_true]at hc
  exact hc x hx
 rw[h1,Bc d hz]
 cases quietVal (ag.get σ) σ.boxes o<;>rfl
theorem yH{C:FuncId→List T→Option T}{o:IOp}(hq:o.quiet=true)(hz:kF o=true)(hc:jt o=true):∀(ds:List Nat) (σ:St),
  ae C (σ.aN ds) o=(ae C σ o).map fun p=>(jd ds p.1,p.2.aN ds)
 | [],σ=>by simp[St.aN,jd]
 |d::ds,σ=>by
  simp only[St.aN]
  rw[yH hq hz hc ds,QK hq hz hc]
  simp only[Option.map_map]
  rfl
theorem ur{C:FuncId→List T→Option T}{σ az:St}{o:IOp}{t:T}(hq:o.quiet=true)(h:ae C σ o=some (t,az)):az=σ:=by
 rw[k8 hq]at h
 obtain⟨x,_,hx⟩:=Option.map_eq_some_iff.1 h
 simp only[Prod.mk.injEq]at hx
 exact hx.2.symm
theorem B3{get:ag→T}{bx bx':List (Option (List T))}{o:IOp}(hp:o.pure=true):quietVal get bx o=quietVal get bx' o:=by
 cases o<;>first|rfl|simp[IOp.pure]at hp
def IOp.eJ:IOp→Bool
 | .bsliceB ..| .alloc ..| .box ..| .mkBox ..| .store ..| .copy ..| .clearS ..| .appendB ..| .mkMap ..| .mapUpdate ..| .thaw ..| .callnew ..| .callio ..| .callvio ..=>false
 |_=>true
def IOp.Ee:IOp→Bool
 | .appendB ..| .thaw ..| .callnew ..| .callio ..| .callvio ..=>true
 |_=>false
theorem nP{C:FuncId→List T→Option T}{σ az:St}{o:IOp}{t:T}(hld:o.Ee=false)(hr:ae C σ o=some (t,az)):∃ds bx,(o.quiet=true∨o.eJ=false→ds=[])∧(o.eJ=true→bx=σ.boxes)∧az=St.aN ds {σ with boxes:=bx}∧
  ∀rs vars,(∀x∈o.reads,x.get ⟨rs,vars,σ.boxes⟩=x.get σ)→ae C ⟨rs,vars,σ.boxes⟩ o=some (t,St.aN ds ⟨rs,vars,bx⟩):=by
 by_cases hq:o.quiet=true
 ·have xz:=ur hq hr
  rw[xz]at hr⊢
  refine⟨[],σ.boxes,fun _=>rfl,fun _=>rfl,rfl,fun rs vars h=> ?_⟩
  rw[k8 hq]at hr⊢
  rw[nz (get:=ag.get σ) h]
  obtain⟨x,hx,tr⟩:=Option.map_eq_some_iff.1 hr
  simp only[Prod.mk.injEq]at tr
  obtain⟨rfl,_⟩:=tr
  simp only[hx,Option.map_some]
  rfl
 ·have cU:∀{d f as},ae.cU C σ d f as=some (t,az)→az=St.aN [2*d] σ∧∀rs vars,ae.cU C ⟨rs,vars,σ.boxes⟩ d f as=some (t,St.aN [2*d] ⟨rs,vars,σ.boxes⟩):=by
   intro d f as hr
   simp only[ae.cU,Option.bind_eq_bind]at hr
   obtain⟨cs,aG,hr⟩:=Option.bind_eq_some_iff.1 hr
   obtain⟨r,xj,hr⟩:=Option.bind_eq_some_iff.1 hr
   split at hr<;>try(cases hr;done)
   rename_i lu
   simp only[Option.some.injEq,Prod.mk.injEq]at hr
   obtain⟨rfl,rfl⟩:=hr
   refine⟨rfl,fun rs vars=> ?_⟩
   simp only[ae.cU,Option.bind_eq_bind,aG,Option.bind_some,xj,if_neg lu]
   rfl
  cases o<;>try(exact absurd rfl hq)
  all_goals try(simp[IOp.Ee]at hld;done)
  case alloc s zero=>
   simp only[ae]at hr
   split at hr<;>try(cases hr;done)
   rename_i hb
   split at hr<;>try(cases hr;done)
   rename_i h1
   simp only[Option.some.injEq,Prod.mk.injEq]at hr
   obtain⟨rfl,rfl⟩:=hr
   exact⟨[],σ.boxes.set s (some zero),fun _=>rfl,fun h=>by simp[IOp.eJ]at h,rfl,fun rs vars h=>by simp only[ae,hb,if_pos h1];rfl⟩
  case box s a=>
   simp only[ae]at hr
   split at hr<;>try(cases hr;done)
   rename_i cs hb hc
   split at hr<;>try(cases hr;done)
   rename_i h1
   simp only[Option.some.injEq,Prod.mk.injEq]at hr
   obtain⟨rfl,rfl⟩:=hr
   refine⟨[],σ.boxes.set s (some cs),fun _=>rfl,fun h=>by simp[IOp.eJ]at h,rfl,fun rs vars h=> ?_⟩
   simp only[IOp.reads,List.mem_singleton,forall_eq]at h
   simp only[ae,hb,h,hc,h1,if_true]
   rfl
  case store n a b=>
   simp only[ae]at hr
   split at hr<;>try(cases hr;done)
   rename_i s off ns ha hn
   split at hr<;>try(cases hr;done)
   rename_i cs hb
   split at hr<;>try(cases hr;done)
   rename_i h1
   simp only[Option.some.injEq,Prod.mk.injEq]at hr
   obtain⟨rfl,rfl⟩:=hr
   refine⟨[],σ.boxes.set s (some (setCells cs off ns)),fun _=>rfl,fun h=>by simp[IOp.eJ]at h,rfl,fun rs vars h=> ?_⟩
   simp only[IOp.reads,List.mem_cons,List.not_mem_nil,or_false,forall_eq_or_imp,forall_eq]at h
   simp only[ae,hb,h,ha,hn]
   rw[if_pos h1]
   rfl
  case copy sz a b=>
   simp only[ae]at hr
   split at hr<;>try(cases hr;done)
   rename_i s o n c m ys ha cI
   split at hr<;>try(cases hr;done)
   rename_i cs hb
   split at hr<;>try(cases hr;done)
   rename_i h1
   simp only[Option.some.injEq,Prod.mk.injEq]at hr
   obtain⟨rfl,rfl⟩:=hr
   refine⟨[],σ.boxes.set s (some (setCells cs o (ys.take (min m n*sz)))),fun _=>rfl,fun h=>by simp[IOp.eJ]at h,rfl,fun rs vars h=> ?_⟩
   simp only[IOp.reads,List.mem_cons,List.not_mem_nil,or_false,forall_eq_or_imp,forall_eq]at h
   simp only[ae,hb,h,ha]
   rw[cI]
   simp only[hb]
   rw[if_pos h1]
   rfl
  case mkSlice d e sz bytes zero n=>
   simp only[ae]at hr
   split at hr<;>try(cases hr;done)
   rename_i k hk
   split at hr<;>try(cases hr;done)
   rename_i h1
   simp only[Option.some.injEq,Prod.mk.injEq]at hr
   obtain⟨rfl,rfl⟩:=hr
   refine⟨[2*d],σ.boxes,fun h=>absurd h (by simp[IOp.quiet,IOp.pure,IOp.eJ]),fun _=>rfl,rfl,fun rs vars h=> ?_⟩
   simp only[IOp.reads,List.mem_singleton,forall_eq]at h
   simp only[ae,h,hk]
   rw[if_pos h1]
   rfl
  case bsliceB s sz len zero ps=>
   simp only[ae]at hr
   split at hr<;>try(cases hr;done)
   rename_i hb
   obtain⟨cs,aG,hr⟩:=Option.bind_eq_some_iff.1 hr
   split at hr<;>try(cases hr;done)
   rename_i h1
   simp only[Option.some.injEq,Prod.mk.injEq]at hr
   obtain⟨rfl,rfl⟩:=hr
   refine⟨[],σ.boxes.set s (some cs),fun _=>rfl,fun h=>by simp[IOp.eJ]at h,rfl,fun rs vars h=> ?_⟩
   simp only[ae,hb]
   rw[fillT_congr (get:=ag.get σ) ps _ fun x hx=>h x hx,aG,Option.bind_some,if_pos h1]
   rfl
  case mkCap d e bytes n=>
   simp only[ae]at hr
   split at hr<;>try(cases hr;done)
   rename_i k hk
   split at hr<;>try(cases hr;done)
   rename_i h1
   simp only[Option.some.injEq,Prod.mk.injEq]at hr
   obtain⟨rfl,rfl⟩:=hr
   refine⟨[2*d],σ.boxes,fun h=>absurd h (by simp[IOp.quiet,IOp.pure,IOp.eJ]),fun _=>rfl,rfl,fun rs vars h=> ?_⟩
   simp only[IOp.reads,List.mem_singleton,forall_eq]at h
   simp only[ae,h,hk]
   rw[if_pos h1]
   rfl
  case mkBox s sz bytes zero n=>
   simp only[ae]at hr
   split at hr<;>try(cases hr;done)
   rename_i k hk hb
   split at hr<;>try(cases hr;done)
   rename_i h1
   simp only[Option.some.injEq,Prod.mk.injEq]at hr
   obtain⟨rfl,rfl⟩:=hr
   refine⟨[],σ.boxes.set s (some (List.replicate k zero).flatten),fun _=>rfl,fun h=>by simp[IOp.eJ]at h,rfl,fun rs vars h=> ?_⟩
   simp only[IOp.reads,List.mem_singleton,forall_eq]at h
   simp only[ae,h,hk,hb]
   rw[if_pos h1]
   rfl
  case bslice d e sz len zero ps=>
   simp only[ae,Option.bind_eq_bind]at hr
   obtain⟨cs,aG,hr⟩:=Option.bind_eq_some_iff.1 hr
   split at hr<;>try(cases hr;done)
   rename_i h1
   simp only[Option.some.injEq,Prod.mk.injEq]at hr
   obtain⟨rfl,rfl⟩:=hr
   refine⟨[2*d],σ.boxes,fun h=>absurd h (by simp[IOp.quiet,IOp.pure,IOp.eJ]),fun _=>rfl,rfl,fun rs vars h=> ?_⟩
   simp only[ae,Option.bind_eq_bind]
   rw[fillT_congr (get:=fun a=>(ag.get σ a).cH) ps _ fun x hx=>by simp only[h x hx],aG,Option.bind_some,if_pos h1]
   rfl
  case append d e sz bytes zero kind a b=>
   simp only[ae]at hr
   split at hr<;>try(cases hr;done)
   rename_i g n xs m ys ha cI
   split at hr<;>try(cases hr;done)
   rename_i h1
   have fin:∀(ds:List Nat) (r:T),(∀σ':St,(match(generalizing:=false) g with
    | .own k e'=>if e'=e then some (.sl (.own (8*d) e) (n+m) (xs++ys),(σ'.strip (2*k+1)).strip (2*d))else none
    | .nil=>if n=0 then some (.sl (.own (8*d) e) m ys,σ'.strip (2*d))else none
    | .clip=>if m=0 then(if n=0 then some (.sl (.own (8*d) e) 0 [],σ'.strip (2*d))else none)else some (.sl (.own (8*d) e) (n+m) (xs++ys),σ'.strip (2*d))
    | .lP=>if m=0 then some (.sl .any n xs,σ')else none
    | .any=>if m=0 then some (.sl .any n xs,σ')else none:Option (T×St))=some (r,St.aN ds σ'))→t=r→az=St.aN ds σ→∃ds bx,((IOp.append d e sz bytes zero kind a b).quiet=true∨(IOp.append d e sz bytes zero kind a b).eJ=false→ds=[])∧((IOp.append d e sz bytes zero kind a b).eJ=true→bx=σ.boxes)∧az=St.aN ds {σ with boxes:=bx}∧
     ∀rs vars,(∀x∈(IOp.append d e sz bytes zero kind a b).reads,x.get ⟨rs,vars,σ.boxes⟩=x.get σ)→ae C ⟨rs,vars,σ.boxes⟩ (IOp.append d e sz bytes zero kind a b)=some (t,St.aN ds ⟨rs,vars,bx⟩):=by
    intro ds r gZ ht WL
    subst ht
    refine⟨ds,σ.boxes,fun h=>absurd h (by simp[IOp.quiet,IOp.pure,IOp.eJ]),fun _=>rfl,WL,fun rs vars h=> ?_⟩
    simp only[IOp.reads,List.mem_cons,List.not_mem_nil,or_false,forall_eq_or_imp,forall_eq]at h
    simp only[ae,h,ha]
    rw[cI]
    simp only
    rw[if_pos h1]
    exact gZ ⟨rs,vars,σ.boxes⟩
   cases g with
   |nil=>
    simp only at hr
    split at hr<;>try(cases hr;done)
    rename_i hm
    simp only[Option.some.injEq,Prod.mk.injEq]at hr
    exact fin [2*d] _ (fun σ'=>by simp only[if_pos hm];rfl) hr.1.symm hr.2.symm
   |clip=>
    simp only at hr
    split at hr
    ·rename_i hm
     split at hr<;>try(cases hr;done)
     rename_i hn
     simp only[Option.some.injEq,Prod.mk.injEq]at hr
     exact fin [2*d] _ (fun σ'=>by simp only[if_pos hm,if_pos hn];rfl) hr.1.symm hr.2.symm
    ·rename_i hm
     simp only[Option.some.injEq,Prod.mk.injEq]at hr
     exact fin [2*d] _ (fun σ'=>by simp only[if_neg hm];rfl) hr.1.symm hr.2.symm
   |lP=>
    simp only at hr
    split at hr<;>try(cases hr;done)
    rename_i hm
    simp only[Option.some.injEq,Prod.mk.injEq]at hr
    exact fin [] _ (fun σ'=>by simp only[if_pos hm];rfl) hr.1.symm hr.2.symm
   |any=>
    simp only at hr
    split at hr<;>try(cases hr;done)
    rename_i hm
    simp only[Option.some.injEq,Prod.mk.injEq]at hr
    exact fin [] _ (fun σ'=>by simp only[if_pos hm];rfl) hr.1.symm hr.2.symm
   |own k e'=>
    simp only at hr
    split at hr<;>try(cases hr;done)
    rename_i hm
    simp only[Option.some.injEq,Prod.mk.injEq]at hr
    exact fin [2*k+1,2*d] _ (fun σ'=>by simp only[if_pos hm];rfl) hr.1.symm hr.2.symm
  case clearS sz zero a=>
   simp only[ae]at hr
   split at hr<;>try(cases hr;done)
   rename_i s o n c ha
   split at hr<;>try(cases hr;done)
   rename_i cs hb
   split at hr<;>try(cases hr;done)
   rename_i h1
   simp only[Option.some.injEq,Prod.mk.injEq]at hr
   obtain⟨rfl,rfl⟩:=hr
   refine⟨[],σ.boxes.set s (some (setCells cs o (List.replicate n zero).flatten)),fun _=>rfl,fun h=>by simp[IOp.eJ]at h,rfl,fun rs vars h=> ?_⟩
   simp only[IOp.reads,List.mem_singleton,forall_eq]at h
   simp only[ae,hb,h,ha]
   rw[if_pos h1]
   rfl
  case mkMap s=>
   simp only[ae]at hr
   split at hr<;>try(cases hr;done)
   rename_i hb
   split at hr<;>try(cases hr;done)
   rename_i h1
   simp only[Option.some.injEq,Prod.mk.injEq]at hr
   obtain⟨rfl,rfl⟩:=hr
   exact⟨[],σ.boxes.set s (some []),fun _=>rfl,fun h=>by simp[IOp.eJ]at h,rfl,fun rs vars h=>by simp only[ae,hb,if_pos h1];rfl⟩
  case mapUpdate k a i x=>
   simp only[ae]at hr
   split at hr<;>try(cases hr;done)
   rename_i s ha
   split at hr<;>try(cases hr;done)
   rename_i cs hb
   obtain⟨bW,hp,hr⟩:=Option.map_eq_some_iff.1 hr
   simp only[Prod.mk.injEq]at hr
   obtain⟨rfl,rfl⟩:=hr
   refine⟨[],σ.boxes.set s (some bW),fun _=>rfl,fun h=>by simp[IOp.eJ]at h,rfl,fun rs vars h=> ?_⟩
   simp only[IOp.reads,List.mem_cons,List.not_mem_nil,or_false,forall_eq_or_imp,forall_eq]at h
   simp only[ae,hb,h,ha,hp]
   rfl
  case call d f as=>
   simp only[ae]at hr
   obtain⟨h1,h2⟩:=cU hr
   refine⟨[2*d],σ.boxes,fun h=>absurd h (by simp[IOp.quiet,IOp.pure,IOp.eJ]),fun _=>rfl,h1,fun rs vars h=> ?_⟩
   simp only[ae]
   rw[map_congr' (get:=ag.get σ) (as:=as) h]
   exact h2 rs vars
  case callv d f as=>
   simp only[ae]at hr
   split at hr<;>try(cases hr;done)
   rename_i f' first cap hf
   obtain⟨h1,h2⟩:=cU hr
   refine⟨[2*d],σ.boxes,fun h=>absurd h (by simp[IOp.quiet,IOp.pure,IOp.eJ]),fun _=>rfl,h1,fun rs vars h=> ?_⟩
   simp only[ae]
   rw[h f (by simp[IOp.reads]),hf,map_congr' (get:=ag.get σ) (as:=as) fun x hx=>h x (by simp[IOp.reads,hx])]
   exact h2 rs vars
structure vg(F:T→T):Prop where
 undef:F .undef= .undef
 v:∀x,F (.v x)= .v x
 inv:∀t x,F t= .v x→t= .v x
theorem JP:vg id:=⟨rfl,fun _=>rfl,fun _ _ h=>h⟩
theorem B5(d:Nat):vg (T.strip d):=⟨rfl,fun _=>rfl,fun t x h=>Bb.1 h⟩
theorem QL(ds:List Nat):vg (jd ds):=by
 refine⟨?_,fun x=> ?_, ?_⟩
 ·induction ds with
  |nil=>rfl
  |cons d ds ih=>exact ih
 ·induction ds with
  |nil=>rfl
  |cons d ds ih=>exact ih
 ·induction ds with
  |nil=>exact fun t x h=>h
  |cons d ds ih=>exact fun t x h=>Bb.1 (ih _ x h)
theorem B6(ρ η:Nat→Option Nat):vg (T.al ρ η):=by
 refine⟨rfl,fun _=>rfl,fun t x h=> ?_⟩
 cases t with
 |v y=>exact h
 |sl g n cs=>cases g<;>cases h
 |ref s o=>simp only[T.al]at h;split at h<;>cases h
 |av s o n c=>simp only[T.al]at h;split at h<;>cases h
 |aQ s=>simp only[T.al]at h;split at h<;>cases h
 |_=>cases h
def IOp.asks:IOp→List Nat
 | .callnew _ ad _ _=>ad++ad.map (· +1)
 |_=>[]
theorem abb{o:IOp}(h:o.Ee=false):o.asks=[]:=by
 cases o<;>first|rfl|(simp[IOp.Ee]at h;done)
theorem WM{F G:T→T}(hF:vg F)(hG:vg G):vg (F∘G):=⟨by simp[hG.undef,hF.undef],fun x=>by simp[hG.v,hF.v],fun t x h=>hG.inv _ _ (hF.inv _ _ h)⟩
theorem zw{C:FuncId→List T→Option T}{σ az:St}{o:IOp}{t:T}(hr:ae C σ o=some (t,az)):∃(F:T→T) (bx:List (Option (List T))),vg F∧az=⟨σ.rs.map F,σ.vars.map F,bx⟩∧(∀s∈o.asks,σ.ay s=true)∧
  ∀rs vars,(∀x∈o.reads,x.get ⟨rs,vars,σ.boxes⟩=x.get σ)→(∀s∈o.asks,aR s rs=true∧aR s vars=true)→ae C ⟨rs,vars,σ.boxes⟩ o=some (t,⟨rs.map F,vars.map F,bx⟩):=by
 have mk:∀{σ':St},σ'=⟨σ'.rs,σ'.vars,σ'.boxes⟩:=fun {σ'}=>rfl
 have dG:∀{d ad f as},ae.dG C σ d ad f as=some (t,az)→∃(F:T→T) (bx:List (Option (List T))),vg F∧az=⟨σ.rs.map F,σ.vars.map F,bx⟩∧(∀s∈ad++ad.map (· +1),σ.ay s=true)∧
   ∀rs vars,(∀s∈ad++ad.map (· +1),aR s rs=true∧aR s vars=true)→ae.dG C ⟨rs,vars,σ.boxes⟩ d ad f as=some (t,⟨rs.map F,vars.map F,bx⟩):=by
  intro d ad f as hr
  unfold ae.dG at hr
  split at hr<;>try(cases hr;done)
  rename_i R3
  split at hr<;>try(cases hr;done)
  rename_i r outs hC
  split at hr<;>try(cases hr;done)
  rename_i h1
  simp only[Option.some.injEq,Prod.mk.injEq]at hr
  obtain⟨rfl,rfl⟩:=hr
  have hno:∀s∈ad++ad.map (· +1),σ.ay s=true:=fun s hs=>by
   have h2:=h1.2.1
   simp only[List.all_eq_true,Bool.and_eq_true]at h2
   simp only[List.mem_append,List.mem_map]at hs
   rcases hs with hs|⟨s',hs,rfl⟩
   ·exact(h2 s hs).1.2
   ·exact(h2 s' hs).2
  refine⟨T.strip (2*d),ey (dw [] ad) (fy d) (outs.map er) 0 (σ.strip (2*d)).boxes,B5 _, ?_,hno,fun rs vars sX=> ?_⟩
  ·simp only[St.strip,aF]
  ·unfold ae.dG
   rw[if_neg R3,hC]
   simp only
   have af4:∀s∈ad++ad.map (· +1),St.ay s ⟨rs,vars,σ.boxes⟩=true:=fun s hs=>by
    have g1:=hno s hs
    have g2:=sX s hs
    simp only[St.ay,Bool.and_eq_true]at g1⊢
    exact⟨g2,g1.2⟩
   rw[if_pos ⟨h1.1,by
    have h2:=h1.2.1
    simp only[List.all_eq_true,Bool.and_eq_true]at h2⊢
    intro s hs
    exact⟨⟨(h2 s hs).1.1,af4 s (by simp[hs])⟩,af4 (s+1) (by simp[hs])⟩,h1.2.2⟩]
   simp only[St.strip,aF]
 have eo:∀{d ad f as},ae.eo C σ d ad f as=some (t,az)→∃(F:T→T) (bx:List (Option (List T))),vg F∧az=⟨σ.rs.map F,σ.vars.map F,bx⟩∧
   ∀rs vars,ae.eo C ⟨rs,vars,σ.boxes⟩ d ad f as=some (t,⟨rs.map F,vars.map F,bx⟩):=by
  intro d ad f as hr
  unfold ae.eo at hr
  simp only at hr
  split at hr<;>try(cases hr;done)
  rename_i r outs hC
  split at hr<;>try(cases hr;done)
  rename_i h1
  simp only[Option.some.injEq,Prod.mk.injEq]at hr
  obtain⟨rfl,rfl⟩:=hr
  let ss:=reach σ.boxes 10000 [] (eh as)
  let fs:=ss.flatMap fun s=>gQ ((aj σ.boxes s).getD [])
  refine⟨T.al (iR ss outs) (gg d fs),ey (dw ss ad) (fy d) (outs.map er) 0 (σ.boxes.map (Option.map (ai (iR ss outs) (gg d fs)))),B6 _ _, ?_,fun rs vars=> ?_⟩
  ·simp only[br,ss,fs]
  ·unfold ae.eo
   simp only
   rw[hC]
   simp only
   rw[if_pos h1]
   simp only[br,ss,fs]
 by_cases hl:o.Ee=false
 ·obtain⟨ds,bx,_,_,rfl,he⟩:=nP hl hr
  refine⟨jd ds,(St.aN ds {σ with boxes:=bx}).boxes,QL ds, ?_,(fun s hs=>by rw[abb hl]at hs;cases hs),fun rs vars h _=> ?_⟩
  ·have h1:=wg ds {σ with boxes:=bx}
   have h2:=rW ds {σ with boxes:=bx}
   generalize St.aN ds {σ with boxes:=bx}=a at*
   cases a
   simp only at h1 h2
   subst h1 h2
   rfl
  ·rw[he rs vars h]
   have h1:=wg ds ⟨rs,vars,bx⟩
   have h2:=rW ds ⟨rs,vars,bx⟩
   have h3:=yG ds ⟨rs,vars,bx⟩ {σ with boxes:=bx} rfl
   generalize St.aN ds ⟨rs,vars,bx⟩=a at*
   cases a
   simp only at h1 h2 h3
   subst h1 h2
   rw[h3]
 ·cases o<;>try(exact absurd rfl hl)
  case appendB s e sz bytes zero kind a b=>
   simp only[ae]at hr
   split at hr<;>try(cases hr;done)
   ·rename_i g n xs m ys ha cI hb
    split at hr<;>try(cases hr;done)
    rename_i h1
    have fin:∀(F:T→T) (bx:List (Option (List T))),vg F→az=⟨σ.rs.map F,σ.vars.map F,bx⟩→(∀rs vars,(match(generalizing:=false) g with
      | .own k e'=>if e'=e∧0< m then some (T.av s 0 m (m*sz),({St.strip (2*k+1) ⟨rs,vars,σ.boxes⟩with boxes:=(St.strip (2*k+1) ⟨rs,vars,σ.boxes⟩).boxes.set s (some ys)}:St))else none
      | .nil=>some (.av s 0 m (m*sz),{(⟨rs,vars,σ.boxes⟩:St)with boxes:=σ.boxes.set s (some ys)})
      | .clip=>some (.av s 0 m (m*sz),{(⟨rs,vars,σ.boxes⟩:St)with boxes:=σ.boxes.set s (some ys)})
      |_=>none)=some (t,⟨rs.map F,vars.map F,bx⟩))→∃(F:T→T) (bx:List (Option (List T))),vg F∧az=⟨σ.rs.map F,σ.vars.map F,bx⟩∧(∀s∈(IOp.appendB s e sz bytes zero kind a b).asks,σ.ay s=true)∧
      ∀rs vars,(∀x∈(IOp.appendB s e sz bytes zero kind a b).reads,x.get ⟨rs,vars,σ.boxes⟩=x.get σ)→(∀s∈(IOp.appendB s e sz bytes zero kind a b).asks,aR s rs=true∧aR s vars=true)→ae C ⟨rs,vars,σ.boxes⟩ (IOp.appendB s e sz bytes zero kind a b)=some (t,⟨rs.map F,vars.map F,bx⟩):=by
     intro F bx h2 h4 h5
     refine⟨F,bx,h2,h4,(fun s hs=>by simp[IOp.asks]at hs),fun rs vars h _=> ?_⟩
     simp only[IOp.reads,List.mem_cons,List.not_mem_nil,or_false,forall_eq_or_imp,forall_eq]at h
     simp only[ae,h,ha]
     rw[cI,hb]
     simp only
     rw[if_pos h1]
     exact h5 rs vars
    cases g<;>simp only at hr<;>try(cases hr;done)
    ·simp only[Option.some.injEq,Prod.mk.injEq]at hr
     obtain⟨rfl,rfl⟩:=hr
     exact fin id (σ.boxes.set s (some ys)) JP (by simp) fun rs vars=>by simp
    ·simp only[Option.some.injEq,Prod.mk.injEq]at hr
     obtain⟨rfl,rfl⟩:=hr
     exact fin id (σ.boxes.set s (some ys)) JP (by simp) fun rs vars=>by simp
    ·rename_i k e'
     split at hr<;>try(cases hr;done)
     rename_i he
     simp only[Option.some.injEq,Prod.mk.injEq]at hr
     obtain⟨rfl,rfl⟩:=hr
     exact fin (T.strip (2*k+1)) ((σ.strip (2*k+1)).boxes.set s (some ys)) (B5 _) (by simp only[St.strip,aF]) fun rs vars=>by
      simp only[if_pos he,St.strip,aF]
   ·rename_i s' o' n cn m ys old ha cI hb
    split at hr<;>try(cases hr;done)
    rename_i h1
    simp only[Option.some.injEq,Prod.mk.injEq]at hr
    obtain⟨rfl,rfl⟩:=hr
    refine⟨T.al (fun x=>if x=s' then none else some x) some,(σ.drop s').boxes.set s (some (ai (fun x=>if x=s' then none else some x) some (((aj σ.boxes s').getD []).take (n*sz))++ys)),B6 _ _,by simp only[St.drop,br],(fun s hs=>by simp[IOp.asks]at hs),fun rs vars h _=> ?_⟩
    simp only[IOp.reads,List.mem_cons,List.not_mem_nil,or_false,forall_eq_or_imp,forall_eq]at h
    simp only[ae,h,ha]
    rw[cI,hb]
    simp only
    rw[if_pos h1]
    simp only[St.drop,br]
  case thaw d e sz a=>
   simp only[ae]at hr
   split at hr
   ·rename_i s o n c ha
    split at hr<;>try(cases hr;done)
    rename_i h1
    simp only[Option.some.injEq,Prod.mk.injEq]at hr
    obtain⟨rfl,rfl⟩:=hr
    refine⟨T.strip (2*d)∘T.al (fun x=>if x=s then none else some x) some,((σ.drop s).strip (2*d)).boxes,WM (B5 _) (B6 _ _),by simp only[St.drop,St.strip,br,aF,List.map_map],(fun s hs=>by simp[IOp.asks]at hs),fun rs vars h _=> ?_⟩
    simp only[IOp.reads,List.mem_cons,List.not_mem_nil,or_false,forall_eq_or_imp,forall_eq]at h
    simp only[ae,h,ha]
    rw[if_pos h1]
    simp only[St.drop,St.strip,br,aF,List.map_map]
   ·rename_i hne
    simp only[Option.some.injEq,Prod.mk.injEq]at hr
    obtain⟨rfl,rfl⟩:=hr
    refine⟨id,σ.boxes,JP,by simp,(fun s hs=>by simp[IOp.asks]at hs),fun rs vars h _=> ?_⟩
    simp only[IOp.reads,List.mem_cons,List.not_mem_nil,or_false,forall_eq_or_imp,forall_eq]at h
    simp only[ae,h]
    generalize a.get σ=u at hne
    cases u<;>first|(simp;done)|exact absurd rfl (hne _ _ _ _)
  case callnew d ad f as=>
   simp only[ae]at hr
   obtain⟨F,bx,h1,h3,h5,h4⟩:=dG hr
   refine⟨F,bx,h1,h3,h5,fun rs vars h sX=> ?_⟩
   simp only[ae]
   rw[map_congr' (get:=ag.get σ) (as:=as) h]
   exact h4 rs vars sX
  case callio d ad f as=>
   simp only[ae]at hr
   obtain⟨F,bx,h1,h3,h4⟩:=eo hr
   refine⟨F,bx,h1,h3,(fun s hs=>by simp[IOp.asks]at hs),fun rs vars h _=> ?_⟩
   simp only[ae]
   rw[map_congr' (get:=ag.get σ) (as:=as) h]
   exact h4 rs vars
  case callvio d ad f as=>
   simp only[ae]at hr
   split at hr<;>try(cases hr;done)
   rename_i f' first cap hf
   obtain⟨F,bx,h1,h3,h4⟩:=eo hr
   refine⟨F,bx,h1,h3,(fun s hs=>by simp[IOp.asks]at hs),fun rs vars h _=> ?_⟩
   simp only[ae]
   rw[h f (by simp[IOp.reads]),hf,map_congr' (get:=ag.get σ) (as:=as) fun x hx=>h x (by simp[IOp.reads,hx])]
   exact h4 rs vars
end Go.Vi
end
section
namespace Go.Vi
open Go Go.RowKit
theorem mapM_mono{α γ:Type}{f g:α→Option γ}(h:∀x y,f x=some y→g x=some y):∀(xs:List α) (ys:List γ),xs.mapM f=some ys→xs.mapM g=some ys
 | [],ys,hh=>by simpa using hh
 |x::xs,ys,hh=>by
  simp only[List.mapM_cons,Option.bind_eq_bind,Option.pure_def]at hh⊢
  obtain⟨y,h1,hh⟩:=Option.bind_eq_some_iff.1 hh
  obtain⟨KY,h2,hh⟩:=Option.bind_eq_some_iff.1 hh
  rw[h x y h1,Option.bind_some,mapM_mono h xs KY h2]
  exact hh
theorem Ef{bx:List (Option (List T))}{s s':Nat}{v:Option (List T)}{cs:List T}(hs:bx[s]? =some none)(h:bx[s']? =some (some cs)):(bx.set s v)[s']? =some (some cs):=by
 have:s≠s':=fun he=>by subst he;rw[hs]at h;cases h
 rw[List.getElem?_set,if_neg this]
 exact h
theorem WN{bx:List (Option (List T))}{s:Nat}{v:Option (List T)}(hs:bx[s]? =some none):∀(k:Nat) (t u:T),close bx k t=some u→close (bx.set s v) k t=some u:=by
 intro k
 induction k with
 |zero=>intro t u h;simp[close]at h
 |succ k ih=>
  intro t u h
  cases t with
  |sl g n cs=>cases g<;>exact h
  |ref s' off=>
   simp only[close]at h⊢
   split at h<;>try(cases h;done)
   rename_i cs aG
   rw[Ef hs aG]
   obtain⟨bW,h1,rfl⟩:=Option.map_eq_some_iff.1 h
   simp only[mapM_mono ih cs bW h1,Option.map_some]
  |av s' off n c=>
   simp only[close]at h⊢
   split at h
   ·rename_i h0;rw[if_pos h0];exact h
   rename_i h0
   rw[if_neg h0]
   split at h<;>try(cases h;done)
   rename_i cs aG
   rw[Ef hs aG]
   obtain⟨bW,h1,rfl⟩:=Option.map_eq_some_iff.1 h
   simp only[mapM_mono ih _ bW h1,Option.map_some]
  |agg ts=>
   simp only[close]at h⊢
   obtain⟨bW,h1,rfl⟩:=Option.map_eq_some_iff.1 h
   simp only[mapM_mono ih ts bW h1,Option.map_some]
  |an ts=>
   simp only[close]at h⊢
   obtain⟨bW,h1,rfl⟩:=Option.map_eq_some_iff.1 h
   simp only[mapM_mono ih ts bW h1,Option.map_some]
  |bB f a b=>
   simp only[close,Option.bind_eq_bind,Option.pure_def]at h⊢
   obtain⟨a',h1,h⟩:=Option.bind_eq_some_iff.1 h
   obtain⟨b',h2,h⟩:=Option.bind_eq_some_iff.1 h
   rw[mapM_mono ih a a' h1,Option.bind_some,mapM_mono ih b b' h2]
   exact h
  |_=>exact h
theorem oe{γ:Type}{f g:T→Option γ}{d:Nat}(h:∀t,f (t.strip d)=g t):∀ts:List T,(stripL d ts).mapM f=ts.mapM g
 | []=>rfl
 |t::ts=>by simp only[stripL,List.mapM_cons,h,oe h ts]
theorem QM(d:Nat)(bx:List (Option (List T))):∀(k:Nat) (t:T),close (cS d bx) k (t.strip d)=close bx k t:=by
 intro k
 induction k with
 |zero=>intro t;rfl
 |succ k ih=>
  intro t
  cases t with
  |sl g n cs=>
   cases g<;>rfl
  |ref s off=>
   simp only[T.strip,close,cS,List.getElem?_map]
   cases bx[s]? with
   |none=>rfl
   |some ob=>
    cases ob with
    |none=>rfl
    |some cs=>
     simp only[Option.map_some]
     have:=oe (f:=close (cS d bx) k) (g:=close bx k) (d:=d) ih cs
     simp only[cS]at this
     rw[this]
  |av s off n c=>
   simp only[T.strip,close,cS,List.getElem?_map]
   split
   ·rfl
   cases bx[s]? with
   |none=>rfl
   |some ob=>
    cases ob with
    |none=>rfl
    |some cs=>
     simp only[Option.map_some]
     have:=oe (f:=close (cS d bx) k) (g:=close bx k) (d:=d) ih ((cs.drop off).take c)
     simp only[cS]at this
     rw[←this]
     simp only[aF,List.map_take,List.map_drop]
  |agg ts=>simp only[T.strip,close,oe ih]
  |an ts=>simp only[T.strip,close,oe ih]
  |bB f a b=>simp only[T.strip,close,oe ih]
  |_=>rfl
mutual
theorem yI(d:Nat):∀t:T,(t.strip d).aV=t.aV
 | .undef=>rfl
 | .v _=>rfl
 | .sl g n cs=>by cases g<;>rfl
 | .ptr ..=>rfl
 | .ref ..=>rfl
 | .av ..=>rfl
 | .aQ ..=>rfl
 | .agg ts=>by simp only[T.strip,T.aV,l8 d ts]
 | .an ts=>by simp only[T.strip,T.aV,l8 d ts]
 | .bB f a b=>by simp only[T.strip,T.aV,l8 d a,l8 d b]
theorem l8(d:Nat):∀ts:List T,bc (stripL d ts)=bc ts
 | []=>rfl
 |t::ts=>by simp only[stripL,bc,yI d t,l8 d ts]
end
mutual
theorem qM(d:Nat):∀t:T,(t.strip d).cH=t.cH
 | .undef=>rfl
 | .v _=>rfl
 | .sl g n cs=>by
  cases g<;>rfl
 | .ptr ..=>rfl
 | .ref ..=>rfl
 | .av ..=>rfl
 | .aQ ..=>rfl
 | .agg ts=>by simp only[T.strip,T.cH,rX d ts]
 | .an ts=>by simp only[T.strip,T.cH,rX d ts]
 | .bB f a b=>by simp only[T.strip,T.cH,rX d a,rX d b]
theorem rX(d:Nat):∀ts:List T,jk (stripL d ts)=jk ts
 | []=>rfl
 |t::ts=>by simp only[stripL,jk,qM d t,rX d ts]
end
theorem Gn(d:Nat)(t:T):(t.strip d).fx=t.fx:=by
 cases t with
 |sl g n cs=>
  cases g with
  |own k e=>simp only[T.strip];cases hit d k<;>rfl
  |_=>rfl
 |agg ts=>exact qM d (.agg ts)
 |an ts=>exact qM d (.an ts)
 |bB f a b=>exact qM d (.bB f a b)
 |_=>rfl
theorem Fl(d k:Nat):hit (2*d) k=(k / 8==d):=by
 unfold hit
 rw[if_pos (by omega),show 2*d / 2=d by omega]
mutual
theorem Eg{d d':Nat}(h:d≠d'):∀t:T,(t.import d).strip (2*d')=t.import d
 | .undef=>rfl
 | .v _=>rfl
 | .sl g n cs=>by
  cases g<;>try rfl
  rename_i k e
  simp only[T.import]
  by_cases hk:k< 8
  ·rw[if_pos hk]
   simp only[T.strip]
   rw[Fl,if_neg (by simp;omega)]
  ·rw[if_neg hk];rfl
 | .ptr ..=>rfl
 | .ref ..=>rfl
 | .av ..=>rfl
 | .aQ ..=>rfl
 | .agg ts=>by simp only[T.import,T.strip,oL h ts]
 | .an ts=>by simp only[T.import,T.strip,oL h ts]
 | .bB f a b=>by simp only[T.import,T.strip,oL h a,oL h b]
theorem oL{d d':Nat}(h:d≠d'):∀ts:List T,stripL (2*d') (dD d ts)=dD d ts
 | []=>rfl
 |t::ts=>by simp only[dD,stripL,Eg h t,oL h ts]
end
theorem tu(d k:Nat)(e:TypeId)(n:Nat)(cs:List T):T.strip d (.sl (.own k e) n cs)= .sl (if hit d k then .any else .own k e) n cs:=rfl
theorem Eh(d n:Nat)(cs:List T):T.strip d (.sl .any n cs)= .sl .any n cs:=rfl
theorem JQ(d d' k:Nat)(e:TypeId)(n:Nat)(cs:List T):T.strip d' (T.strip d (.sl (.own k e) n cs))=T.strip d (T.strip d' (.sl (.own k e) n cs)):=by
 rw[tu,tu]
 by_cases h:hit d k=true
 ·rw[if_pos h,Eh]
  by_cases h':hit d' k=true
  ·rw[if_pos h',Eh]
  ·rw[if_neg h',tu,if_pos h]
 ·rw[if_neg h,tu]
  by_cases h':hit d' k=true
  ·rw[if_pos h',Eh]
  ·rw[if_neg h',tu,if_neg h]
mutual
theorem TV(d d':Nat):∀t:T,(t.strip d).strip d'=(t.strip d').strip d
 | .undef=>rfl
 | .v _=>rfl
 | .sl g n cs=>by
  cases g<;>first|rfl|exact JQ d d' _ _ n cs
 | .ptr ..=>rfl
 | .ref ..=>rfl
 | .av ..=>rfl
 | .aQ ..=>rfl
 | .agg ts=>by simp only[T.strip,iQ d d' ts]
 | .an ts=>by simp only[T.strip,iQ d d' ts]
 | .bB f a b=>by simp only[T.strip,iQ d d' a,iQ d d' b]
theorem iQ(d d':Nat):∀ts:List T,stripL d' (stripL d ts)=stripL d (stripL d' ts)
 | []=>rfl
 |t::ts=>by simp only[stripL,TV d d' t,iQ d d' ts]
end
theorem xb(d d':Nat)(σ:St):(σ.strip d).strip d'=(σ.strip d').strip d:=by
 simp only[St.strip,iQ d d',List.map_map,St.mk.injEq,true_and]
 refine List.map_congr_left fun o _=> ?_
 cases o with
 |none=>rfl
 |some cs=>simp[iQ d d' cs]
def IOp.fX:IOp→Option Nat
 | .call d _ _| .callv d _ _| .bslice d _ _ _ _ _=>some d
 |_=>none
theorem Gp{C:FuncId→List T→Option T}{σ:St}{d d':Nat}{f:FuncId}{as:List T}:ae.cU C (σ.strip d') d f (stripL d' as)=(ae.cU C σ d f as).map fun p=>(p.1,p.2.strip d'):=by
 have h1:(stripL d' as).mapM (close (σ.strip d').boxes 6)=as.mapM (close σ.boxes 6):=oe (QM d' σ.boxes 6) as
 simp only[ae.cU,h1,l8,Option.bind_eq_bind]
 cases as.mapM (close σ.boxes 6)with
 |none=>rfl
 |some cs=>
  simp only[Option.bind_some]
  cases tH C f cs with
  |none=>rfl
  |some r=>
   simp only[Option.bind_some]
   split
   ·rfl
   ·simp only[Option.map_some,xb d' (2*d)]
theorem JR(d:Nat)(t:T):eC (t.strip d)=(eC t).map fun p=>(p.1,stripL d p.2.1,stripL d p.2.2):=by
 cases t<;>try rfl
 ·rename_i x
  simp only[T.strip]
  cases x<;>try rfl
  rename_i fn a b
  cases fn<;>try rfl
  simp only[eC]
  split<;>rfl
 ·rename_i g n cs
  cases g<;>rfl
 ·rename_i fn a b
  cases fn<;>rfl
theorem Ld{C:FuncId→List T→Option T}{σ:St}{o:IOp}{d d':Nat}(hf:o.fX=some d)(hz:kF o=true)(hc:jt o=true):
  ae C (σ.strip d') o=(ae C σ o).map fun p=>(p.1,p.2.strip d'):=by
 simp only[jt,List.all_eq_true]at hc
 have eW:∀x∈o.reads,x.get (σ.strip d')=(x.get σ).strip d':=fun x hx=>tq (hc x hx)
 cases o<;>simp only[IOp.fX,Option.some.injEq]at hf<;>try(cases hf;done)
 ·subst hf
  rename_i e sz len zero ps
  simp only[ae,Option.bind_eq_bind]
  have h1:df (fun a=>(ag.get (σ.strip d') a).cH) (List.replicate len zero).flatten ps=df (fun a=>(ag.get σ a).cH) (List.replicate len zero).flatten ps:=
   fillT_congr ps _ fun x hx=>by simp only[eW x hx,qM]
  rw[h1]
  cases df (fun a=>(ag.get σ a).cH) (List.replicate len zero).flatten ps with
  |none=>rfl
  |some cs=>
   simp only[Option.bind_some]
   split
   ·simp only[Option.map_some,xb d' _]
   ·rfl
 ·subst hf
  rename_i f as
  simp only[ae]
  rw[show as.map (ag.get (σ.strip d'))=stripL d' (as.map (ag.get σ)) by rw[aF,List.map_map];exact List.map_congr_left eW]
  exact Gp
 ·subst hf
  rename_i f as
  simp only[ae]
  rw[eW f (by simp[IOp.reads]),JR]
  cases eC (f.get σ)with
  |none=>rfl
  |some p=>
   obtain⟨f',first,cap⟩:=p
   simp only[Option.map_some]
   rw[show stripL d' first++as.map (ag.get (σ.strip d'))++stripL d' cap=stripL d' (first++as.map (ag.get σ)++cap) by
    simp only[aF,List.map_append,List.map_map]
    congr 2
    exact List.map_congr_left fun x hx=>eW x (by simp[IOp.reads,hx])]
   exact Gp
theorem tv{C:FuncId→List T→Option T}{σ σ':St}{o:IOp}{d:Nat}{t:T}(hf:o.fX=some d)(h:ae C σ o=some (t,σ')):σ'=σ.strip (2*d)∧∀d',d≠d'→t.strip (2*d')=t:=by
 have cU:∀{f as},ae.cU C σ d f as=some (t,σ')→σ'=σ.strip (2*d)∧∀d',d≠d'→t.strip (2*d')=t:=by
  intro f as hr
  simp only[ae.cU,Option.bind_eq_bind]at hr
  obtain⟨cs,aG,hr⟩:=Option.bind_eq_some_iff.1 hr
  obtain⟨r,xj,hr⟩:=Option.bind_eq_some_iff.1 hr
  split at hr<;>try(cases hr;done)
  simp only[Option.some.injEq,Prod.mk.injEq]at hr
  obtain⟨rfl,rfl⟩:=hr
  exact⟨rfl,fun d' hd=>Eg hd r⟩
 cases o<;>simp only[IOp.fX,Option.some.injEq]at hf<;>try(cases hf;done)
 ·subst hf
  simp only[ae,Option.bind_eq_bind]at h
  obtain⟨cs,aG,h⟩:=Option.bind_eq_some_iff.1 h
  split at h<;>try(cases h;done)
  simp only[Option.some.injEq,Prod.mk.injEq]at h
  obtain⟨rfl,rfl⟩:=h
  refine⟨rfl,fun d' hd=> ?_⟩
  split
  ·rfl
  ·simp only[T.strip]
   rw[Fl,if_neg (by simp;omega)]
 ·subst hf
  simp only[ae]at h
  exact cU h
 ·subst hf
  simp only[ae]at h
  split at h<;>try(cases h;done)
  exact cU h
def IOp.B7:IOp→Bool
 | .alloc ..| .box ..=>true
 |_=>false
def IOp.looksOnly:IOp→Bool
 | .load ..| .call ..| .callv ..=>true
 |_=>false
theorem WO{C:FuncId→List T→Option T}{σ:St}{o:IOp}{d:Nat}(hn:o.B7=true)(hz:kF o=true)(hc:jt o=true):
  ae C (σ.strip d) o=(ae C σ o).map fun p=>(p.1,p.2.strip d):=by
 simp only[jt,List.all_eq_true]at hc
 cases o<;>try(simp[IOp.B7]at hn;done)
 ·rename_i s zero
  simp only[ae,St.strip,List.getElem?_map]
  cases σ.boxes[s]? with
  |none=>rfl
  |some ob=>
   cases ob with
   |some cs=>rfl
   |none=>
    simp only[Option.map_some,Option.map_none]
    split
    ·simp only[Option.map_some,St.strip,List.map_set]
     rw[ku d zero (by simpa [kF]using hz)]
    ·rfl
 ·rename_i s a
  have hg:a.get (σ.strip d)=(a.get σ).strip d:=tq (hc a (by simp[IOp.reads]))
  simp only[ae]
  rw[hg,Df]
  simp only[St.strip,List.getElem?_map]
  cases σ.boxes[s]? with
  |none=>rfl
  |some ob=>
   cases ob with
   |some cs=>rfl
   |none=>
    cases cellsOf (a.get σ)with
    |none=>rfl
    |some cs=>
     simp only[Option.map_some,Option.map_none,H9]
     split
     ·simp only[Option.map_some,St.strip,List.map_set]
     ·rfl
theorem Ia{C:FuncId→List T→Option T}{o:IOp}(hn:o.B7=true)(hz:kF o=true)(hc:jt o=true):∀(ds:List Nat) (σ:St),
  ae C (σ.aN ds) o=(ae C σ o).map fun p=>(p.1,p.2.aN ds)
 | [],σ=>by simp[St.aN]
 |d::ds,σ=>by
  simp only[St.aN]
  rw[Ia hn hz hc ds,WO hn hz hc]
  simp only[Option.map_map]
  rfl
theorem WQ{C:FuncId→List T→Option T}{σ σ':St}{o:IOp}{t:T}(hn:o.B7=true)(h:ae C σ o=some (t,σ')):(∃s v,σ.boxes[s]? =some none∧σ'={σ with boxes:=σ.boxes.set s v})∧∀ds,jd ds t=t:=by
 have hs:∀(s:Nat) (ds:List Nat),jd ds (.ref s 0)= .ref s 0:=fun s ds=>by
  induction ds with
  |nil=>rfl
  |cons d ds ih=>exact ih
 cases o<;>try(simp[IOp.B7]at hn;done)
 ·rename_i s zero
  simp only[ae]at h
  split at h<;>try(cases h;done)
  rename_i hb
  split at h<;>try(cases h;done)
  simp only[Option.some.injEq,Prod.mk.injEq]at h
  obtain⟨rfl,rfl⟩:=h
  exact⟨⟨s,_,hb,rfl⟩,hs s⟩
 ·rename_i s a
  simp only[ae]at h
  split at h<;>try(cases h;done)
  rename_i hb _
  split at h<;>try(cases h;done)
  simp only[Option.some.injEq,Prod.mk.injEq]at h
  obtain⟨rfl,rfl⟩:=h
  exact⟨⟨s,_,hb,rfl⟩,hs s⟩
theorem NT{C:FuncId→List T→Option T}{o:IOp}(ho:o.looksOnly=true):∃ds,∀(az:St) (t1:T) (fB:St),ae C az o=some (t1,fB)→fB=St.aN ds az:=by
 have Ib:∀{az fB:St} {t1 d f as},ae.cU C az d f as=some (t1,fB)→fB=St.aN [2*d] az:=by
  intro az fB t1 d f as hr
  simp only[ae.cU,Option.bind_eq_bind]at hr
  obtain⟨cs,aG,hr⟩:=Option.bind_eq_some_iff.1 hr
  obtain⟨r,xj,hr⟩:=Option.bind_eq_some_iff.1 hr
  split at hr<;>try(cases hr;done)
  simp only[Option.some.injEq,Prod.mk.injEq]at hr
  exact hr.2.symm
 cases o<;>try(simp[IOp.looksOnly]at ho;done)
 ·exact⟨[],fun az t1 fB h=>ur rfl h⟩
 ·rename_i d f as
  exact⟨[2*d],fun az t1 fB h=>Ib (by simpa only[ae]using h)⟩
 ·rename_i d f as
  refine⟨[2*d],fun az t1 fB h=> ?_⟩
  simp only[ae]at h
  split at h<;>try(cases h;done)
  exact Ib h
theorem WR{C:FuncId→List T→Option T}{σ σ':St}{o:IOp}{t:T}{s:Nat}{v:Option (List T)}(ho:o.looksOnly=true)(hs:σ.boxes[s]? =some none)(h:ae C σ o=some (t,σ')):
  ∃ds,(∀az:St,∀t1 fB,ae C az o=some (t1,fB)→fB=St.aN ds az)∧ae C {σ with boxes:=σ.boxes.set s v} o=some (t,St.aN ds {σ with boxes:=σ.boxes.set s v}):=by
 have get_eq:∀x:ag,x.get {σ with boxes:=σ.boxes.set s v}=x.get σ:=fun x=>by cases x<;>rfl
 have Ib:∀{az fB:St} {t1 d f as},ae.cU C az d f as=some (t1,fB)→fB=St.aN [2*d] az:=by
  intro az fB t1 d f as hr
  simp only[ae.cU,Option.bind_eq_bind]at hr
  obtain⟨cs,aG,hr⟩:=Option.bind_eq_some_iff.1 hr
  obtain⟨r,xj,hr⟩:=Option.bind_eq_some_iff.1 hr
  split at hr<;>try(cases hr;done)
  simp only[Option.some.injEq,Prod.mk.injEq]at hr
  exact hr.2.symm
 have cU:∀{d f as},ae.cU C σ d f as=some (t,σ')→ae.cU C {σ with boxes:=σ.boxes.set s v} d f as=some (t,St.aN [2*d] {σ with boxes:=σ.boxes.set s v}):=by
  intro d f as hr
  simp only[ae.cU,Option.bind_eq_bind]at hr
  obtain⟨cs,aG,hr⟩:=Option.bind_eq_some_iff.1 hr
  obtain⟨r,xj,hr⟩:=Option.bind_eq_some_iff.1 hr
  split at hr<;>try(cases hr;done)
  rename_i lu
  simp only[Option.some.injEq,Prod.mk.injEq]at hr
  obtain⟨rfl,rfl⟩:=hr
  have:=mapM_mono (WN (v:=v) hs 6) as cs aG
  simp only[ae.cU,Option.bind_eq_bind,this,Option.bind_some,xj,if_neg lu]
  rfl
 cases o<;>try(simp[IOp.looksOnly]at ho;done)
 ·rename_i g n a
  refine⟨[],fun az t1 fB h=>ur rfl h, ?_⟩
  simp only[ae,get_eq]at h⊢
  split at h
  ·rename_i s' off ha
   split at h<;>try(cases h;done)
   rename_i cs aG
   rw[Ef hs aG]
   obtain⟨x,hx,tr⟩:=Option.map_eq_some_iff.1 h
   simp only[Prod.mk.injEq]at tr
   obtain⟨rfl,_⟩:=tr
   simp only[hx,Option.map_some];rfl
  ·obtain⟨x,hx,tr⟩:=Option.map_eq_some_iff.1 h
   simp only[Prod.mk.injEq]at tr
   obtain⟨rfl,_⟩:=tr
   simp only[hx,Option.map_some];rfl
  ·cases h
 ·rename_i d f as
  refine⟨[2*d],fun az t1 fB h=>Ib (by simpa only[ae]using h), ?_⟩
  simp only[ae]at h⊢
  rw[show as.map (ag.get {σ with boxes:=σ.boxes.set s v})=as.map (ag.get σ)from List.map_congr_left fun x _=>get_eq x]
  exact cU h
 ·rename_i d f as
  refine⟨[2*d],fun az t1 fB h=> ?_, ?_⟩
  ·simp only[ae]at h
   split at h<;>try(cases h;done)
   exact Ib h
  ·simp only[ae,get_eq]at h⊢
   split at h<;>try(cases h;done)
   rw[show as.map (ag.get {σ with boxes:=σ.boxes.set s v})=as.map (ag.get σ)from List.map_congr_left fun x _=>get_eq x]
   exact cU h
end Go.Vi
end
section
namespace Go.Vi
open Go Go.RowKit
abbrev bN:=Nat×Option (Nat×Bool)×IOp
def bT(C:FuncId→List T→Option T)(σ:St)(e:bN):Option St:=
 (bR σ.rs e.2.1).bind fun go=>
  if go then(ae C σ e.2.2).bind fun p=>some {p.2 with rs:=p.2.rs.set e.1 p.1}
  else some {σ with rs:=σ.rs.set e.1 T.bD}
def sO(C:FuncId→List T→Option T):List bN→St→Option St
 | [],σ=>some σ
 |e::es,σ=>(bT C σ e).bind (sO C es)
def bN.looks(e:bN)(p:Nat):Bool:=e.2.2.reads.any (ag.WK p)||(match e.2.1 with|some (j,_)=>j==p|none=>false)
def Fm(o:IOp):Bool:=o.quiet&&kF o&&jt o
def WS(o1 o2:IOp):Bool:=(Fm o1&&(o1.pure||o2.eJ))||(Fm o2&&(o2.pure||o1.eJ))||
 (o1.looksOnly&&(o2.B7&&kF o2&&jt o2))||
 (match o1.fX,o2.fX with|some d1,some d2=>d1 !=d2&&(kF o1&&jt o1)&&(kF o2&&jt o2)|_,_=>false)
def Fo(e1 e2:bN):Bool:=e1.1 !=e2.1&& !(e2.looks e1.1)&& !(e1.looks e2.1)&&(!e1.2.2.Ee&& !e2.2.2.Ee)&&WS e1.2.2 e2.2.2
theorem dI{rs:List T}{g:Option (Nat×Bool)}{p:Nat}{t:T}(h:∀j b,g=some (j,b)→j≠p):bR (rs.set p t) g=bR rs g:=by
 cases g with
 |none=>rfl
 |some q=>
  obtain⟨j,b⟩:=q
  simp only[bR,List.getElem?_set,if_neg (fun h'=>h j b rfl h'.symm:¬p=j)]
theorem sP{rs:List T}{g:Option (Nat×Bool)}(d:Nat):bR (stripL d rs) g=bR rs g:=by
 cases g with
 |none=>rfl
 |some q=>
  obtain⟨j,b⟩:=q
  simp only[bR,aF,List.getElem?_map]
  cases rs[j]? with
  |none=>rfl
  |some t=>
   simp only[Option.map_some]
   cases t<;>try rfl
   rename_i g n cs
   cases g<;>rfl
theorem nA:∀(ds:List Nat) {σ:St} {g:Option (Nat×Bool)},bR (σ.aN ds).rs g=bR σ.rs g
 | [],σ,g=>rfl
 |d::ds,σ,g=>by
  simp only[St.aN]
  rw[nA ds]
  exact sP d
theorem xA{e:bN}{p:Nat}(h:e.looks p=false):(∀x∈e.2.2.reads,x.WK p=false)∧∀j b,e.2.1=some (j,b)→j≠p:=by
 simp only[bN.looks,Bool.or_eq_false_iff,List.any_eq_false,Bool.not_eq_true]at h
 refine⟨h.1,fun j b hg hj=> ?_⟩
 have:=h.2
 rw[hg]at this
 simp[hj]at this
theorem wh{C:FuncId→List T→Option T}{σ:St}{o:IOp}{t:T}{ds:List Nat}{bx:List (Option (List T))}
  (h:∀rs vars,(∀x∈o.reads,x.get ⟨rs,vars,σ.boxes⟩=x.get σ)→ae C ⟨rs,vars,σ.boxes⟩ o=some (t,St.aN ds ⟨rs,vars,bx⟩)) {p:Nat} (hp:∀x∈o.reads,x.WK p=false) (u:T):
  ae C {σ with rs:=σ.rs.set p u} o=some (t,St.aN ds {σ with rs:=σ.rs.set p u,boxes:=bx}):=
 h (σ.rs.set p u) σ.vars fun x hx=>vf (hp x hx)
theorem fj{rs:List T}{p q:Nat}{t u:T}(h:p≠q):(rs.set p t).set q u=(rs.set q u).set p t:=List.set_comm _ _ h
theorem abc{C:FuncId→List T→Option T}{σ az fB:St}{e1 e2:bN}(hs:Fo e1 e2=true)(h1:bT C σ e1=some az)(h2:bT C az e2=some fB):
  ∃Ei,bT C σ e2=some Ei∧bT C Ei e1=some fB:=by
 obtain⟨p1,g1,o1⟩:=e1
 obtain⟨p2,g2,o2⟩:=e2
 simp only[Fo,Bool.and_eq_true,bne_iff_ne,ne_eq,Bool.not_eq_true']at hs
 obtain⟨⟨⟨⟨hp,mX⟩,fu⟩,NU,NV⟩,hc⟩:=hs
 obtain⟨eu,ui⟩:=xA mX
 obtain⟨gq,gp⟩:=xA fu
 simp only at hp gq eu gp ui hc NU NV
 have u4:¬p2=p1:=fun h=>hp h.symm
 simp only[bT]at h1 h2
 obtain⟨go1,xn,h1⟩:=Option.bind_eq_some_iff.1 h1
 obtain⟨go2,jy,h2⟩:=Option.bind_eq_some_iff.1 h2
 cases go1 with
 |false=>
  simp only[Bool.false_eq_true,if_false,Option.some.injEq]at h1
  subst h1
  rw[dI ui]at jy
  cases go2 with
  |false=>
   simp only[Bool.false_eq_true,if_false,Option.some.injEq]at h2
   subst h2
   refine⟨{σ with rs:=σ.rs.set p2 T.bD},by simp[bT,jy], ?_⟩
   simp only[bT,dI gp,xn,Option.bind_some,Bool.false_eq_true,if_false,fj hp]
  |true=>
   simp only[if_true]at h2
   obtain⟨⟨t2,we⟩,h3,h2⟩:=Option.bind_eq_some_iff.1 h2
   simp only[Option.some.injEq]at h2
   subst h2
   obtain⟨Be,b2,_,_,rfl,lx⟩:=nP NV h3
   have h4:ae C σ o2=some (t2,St.aN Be {σ with boxes:=b2}):=lx σ.rs σ.vars fun x hx=>(vf (eu x hx)).symm
   refine⟨_,by simp only[bT,jy,Option.bind_some,if_true,h4];rfl, ?_⟩
   simp only[bT]
   rw[dI gp,nA]
   simp only[xn,Option.bind_some,Bool.false_eq_true,if_false,Option.some.injEq]
   have:=mF Be {σ with boxes:=b2} p1 T.bD
   simp only[uq]at this
   rw[this]
   simp only[fj hp]
 |true=>
  simp only[if_true]at h1
  obtain⟨⟨t1,we⟩,h3,h1⟩:=Option.bind_eq_some_iff.1 h1
  simp only[Option.some.injEq]at h1
  subst h1
  obtain⟨Dh,b1,hq1,lS,rfl,R2⟩:=nP NU h3
  simp only at jy h2
  rw[dI ui,nA]at jy
  simp only at jy
  cases go2 with
  |false=>
   simp only[Bool.false_eq_true,if_false,Option.some.injEq]at h2
   subst h2
   refine⟨{σ with rs:=σ.rs.set p2 T.bD},by simp[bT,jy], ?_⟩
   have h4:=wh R2 gq T.bD
   simp only[bT,dI gp,xn,Option.bind_some,if_true,h4,Option.some.injEq]
   have:=mF Dh {σ with boxes:=b1} p2 T.bD
   simp only[uq]at this
   rw[this]
   simp only[fj u4]
  |true=>
   simp only[if_true]at h2
   obtain⟨⟨t2,σ4⟩,h4,h2⟩:=Option.bind_eq_some_iff.1 h2
   simp only[Option.some.injEq]at h2
   subst h2
   obtain⟨Be,b2,RL,tn,rfl,lx⟩:=nP NV h4
   simp only at lx tn h4
   have h5:ae C (St.aN Dh {σ with boxes:=b1}) o2=some (t2,St.aN Be {St.aN Dh {σ with boxes:=b1}with boxes:=b2}):=
    lx (St.aN Dh {σ with boxes:=b1}).rs (St.aN Dh {σ with boxes:=b1}).vars fun x hx=>(vf (eu x hx)).symm
   simp only[WS,Bool.or_eq_true,Bool.and_eq_true]at hc
   rcases hc with((⟨WT,Di⟩|⟨WT,Di⟩)|⟨ym,⟨w7,hz⟩,Lf⟩)|TW
   ·
    simp only[Fm,Bool.and_eq_true]at WT
    obtain⟨⟨hq,hz⟩,Lf⟩:=WT
    obtain rfl:=hq1 (.inl hq)
    have hb:b1=σ.boxes:=lS (by cases o1<;>first|rfl|simp[IOp.quiet,IOp.pure]at hq)
    subst hb
    simp only[St.aN]at*
    have h6:ae C σ o2=some (t2,St.aN Be {σ with boxes:=b2}):=h5
    refine⟨_,by simp only[bT,jy,Option.bind_some,if_true,h6];rfl, ?_⟩
    have h7:ae C {σ with boxes:=b2} o1=some (t1,{σ with boxes:=b2}):=by
     rcases Di with hpp|Gq
     ·rw[k8 hq]at h3⊢
      obtain⟨x,hx,tr⟩:=Option.map_eq_some_iff.1 h3
      simp only[Prod.mk.injEq]at tr
      obtain⟨rfl,_⟩:=tr
      have:quietVal (ag.get {σ with boxes:=b2}) b2 o1=quietVal (ag.get σ) σ.boxes o1:=by
       rw[B3 (bx:=b2) (bx':=σ.boxes) hpp]
       exact nz fun x _=>by cases x<;>rfl
      simp only[this,hx,Option.map_some]
     ·have:=tn Gq
      subst this
      exact h3
    have h8:ae C (St.aN Be {σ with boxes:=b2}) o1=some (jd Be t1,St.aN Be {σ with boxes:=b2}):=by
     rw[yH hq hz Lf,h7];rfl
    obtain⟨ds,bx,vW,nL,hst,he⟩:=nP NU h8
    obtain rfl:=vW (.inl hq)
    have amm:=nL (by cases o1<;>first|rfl|simp[IOp.quiet,IOp.pure]at hq)
    subst amm
    have h9:=wh he gq t2
    simp only[bT]
    rw[dI gp,nA]
    simp only[xn,Option.bind_some,if_true]
    simp only[St.aN]at h9
    rw[h9]
    simp only[Option.bind_some,Option.some.injEq]
    have:=mF Be {σ with boxes:=b2} p1 t1
    simp only at this
    rw[this]
    simp only[fj hp]
   ·
    simp only[Fm,Bool.and_eq_true]at WT
    obtain⟨⟨hq,hz⟩,Lf⟩:=WT
    obtain rfl:=RL (.inl hq)
    have fG:o2.eJ=true:=by cases o2<;>first|rfl|simp[IOp.quiet,IOp.pure]at hq
    have hb:=tn fG
    subst hb
    simp only[St.aN]at*
    have h6:∃qY,ae C {σ with boxes:=b1} o2=some (qY,{σ with boxes:=b1})∧t2=jd Dh qY:=by
     have Lg:ae C (St.aN Dh {σ with boxes:=b1}) o2=some (t2,St.aN Dh {σ with boxes:=b1}):=h5
     rw[yH hq hz Lf]at Lg
     obtain⟨⟨x,σx⟩,hx,tr⟩:=Option.map_eq_some_iff.1 Lg
     have:=ur hq hx
     subst this
     simp only[Prod.mk.injEq]at tr
     exact⟨x,hx,tr.1.symm⟩
    obtain⟨qY,h6,rfl⟩:=h6
    have h7:ae C σ o2=some (qY,σ):=by
     rcases Di with hpp|Gq
     ·rw[k8 hq]at h6⊢
      obtain⟨x,hx,tr⟩:=Option.map_eq_some_iff.1 h6
      simp only[Prod.mk.injEq]at tr
      obtain⟨rfl,_⟩:=tr
      have:quietVal (ag.get σ) σ.boxes o2=quietVal (ag.get {σ with boxes:=b1}) b1 o2:=by
       rw[B3 (bx:=b1) (bx':=σ.boxes) hpp]
       exact nz fun x _=>by cases x<;>rfl
      simp only at hx
      simp only[this,hx,Option.map_some]
     ·have:=lS Gq
      subst this
      exact h6
    refine⟨{σ with rs:=σ.rs.set p2 qY},by simp only[bT,jy,Option.bind_some,if_true,h7], ?_⟩
    have h8:=wh R2 gq qY
    simp only[bT]
    rw[dI gp]
    simp only[xn,Option.bind_some,if_true,h8,Option.some.injEq]
    have:=mF Dh {σ with boxes:=b1} p2 qY
    simp only at this
    rw[this]
    simp only[fj u4]
   ·
    have di:o2.eJ=false:=by cases o2<;>first|rfl|simp[IOp.B7]at w7
    obtain rfl:=RL (.inr di)
    have hb:=lS (by cases o1<;>first|rfl|simp[IOp.looksOnly]at ym)
    subst hb
    obtain⟨ds,hu⟩:=NT (C:=C) ym
    have hS:St.aN Dh σ=St.aN ds σ:=hu _ _ _ h3
    have Lg:ae C (St.aN ds σ) o2=some (t2,{St.aN ds σ with boxes:=b2}):=by rw[←hS];exact h5
    rw[Ia w7 hz Lf]at Lg
    obtain⟨⟨qY,σ5⟩,h6,h7⟩:=Option.map_eq_some_iff.1 Lg
    simp only[Prod.mk.injEq]at h7
    obtain⟨rfl,h7⟩:=h7
    obtain⟨⟨s,v,hsb,rfl⟩,hst⟩:=WQ w7 h6
    refine⟨_,by simp only[bT,jy,Option.bind_some,if_true,h6];rfl, ?_⟩
    obtain⟨_,_,h9⟩:=WR (v:=v) ym hsb h3
    obtain⟨KU,b',_,_,_,he⟩:=nP NU h9
    have Lh:=wh he gq qY
    have RD:=hu _ _ _ Lh
    rw[RD]at Lh
    simp only at Lh
    simp only[bT]
    rw[dI gp]
    simp only[xn,Option.bind_some,if_true]
    rw[Lh]
    simp only[Option.bind_some,Option.some.injEq]
    have h13:=mF ds {σ with boxes:=σ.boxes.set s v} p2 qY
    simp only at h13
    rw[h13,hst ds,h7]
    simp only[St.aN]
    have h14:St.aN Dh {rs:=σ.rs,vars:=σ.vars,boxes:=σ.boxes}=St.aN ds σ:=hS
    rw[h14,fj u4]
   ·
    split at TW<;>try(cases TW;done)
    rename_i d1 d2 Ge A8
    simp only[Bool.and_eq_true,bne_iff_ne,ne_eq]at TW
    obtain⟨⟨hdd,hz1,nw⟩,yw,D8⟩:=TW
    obtain⟨NW,ht1⟩:=tv Ge h3
    have hw3:=(tv A8 h4).1
    have ht2:=(tv A8 h4).2
    have Lg:ae C (σ.strip (2*d1)) o2=some (t2,(σ.strip (2*d1)).strip (2*d2)):=by
     have:=h5
     rw[NW]at this
     rw[this,(tv A8 this).1]
    rw[Ld A8 yw D8]at Lg
    obtain⟨⟨qY,σ5⟩,h6,h7⟩:=Option.map_eq_some_iff.1 Lg
    simp only[Prod.mk.injEq]at h7
    obtain⟨rfl,h7⟩:=h7
    obtain⟨rfl,_⟩:=tv A8 h6
    refine⟨_,by simp only[bT,jy,Option.bind_some,if_true,h6];rfl, ?_⟩
    have h8:ae C (σ.strip (2*d2)) o1=some (t1,(σ.strip (2*d1)).strip (2*d2)):=by
     rw[Ld Ge hz1 nw,h3,NW];rfl
    obtain⟨KU,b',_,_,_,he⟩:=nP NU h8
    have Lh:=wh he gq qY
    have RD:=(tv Ge Lh).1
    rw[RD]at Lh
    simp only[bT]
    rw[dI gp]
    have hwd:bR (σ.strip (2*d2)).rs g1=bR σ.rs g1:=sP (2*d2)
    rw[hwd]
    simp only[xn,Option.bind_some,if_true]
    rw[Lh]
    simp only[Option.bind_some,Option.some.injEq]
    rw[hw3]
    have e1:=mF [2*d1] (σ.strip (2*d2)) p2 qY
    have e2:=mF [2*d2] (σ.strip (2*d1)) p1 t1
    simp only[St.aN,jd]at e1 e2
    rw[e1,NW,e2,ht1 d2 hdd,ht2 d1 (fun h=>hdd h.symm),xb (2*d1) (2*d2),fj u4]
end Go.Vi
end
section
namespace Go.Vi
open Go Go.RowKit
mutual
theorem yJ(s:Nat):∀t:T,t.closed=true→t.ay s=true
 | .undef,_=>rfl
 | .v _,_=>rfl
 | .sl ..,_=>rfl
 | .ptr ..,_=>rfl
 | .ref ..,h| .av ..,h| .aQ ..,h=>by simp[T.closed]at h
 | .agg ts,h=>by simp only[T.closed]at h;simp only[T.ay];exact l9 s ts h
 | .an ts,h=>by simp only[T.closed]at h;simp only[T.ay];exact l9 s ts h
 | .bB f a b,h=>by
  simp only[T.closed,Bool.and_eq_true]at h
  simp only[T.ay,l9 s a h.1,l9 s b h.2,Bool.and_self]
theorem l9(s:Nat):∀ts:List T,bn ts=true→aR s ts=true
 | [],_=>rfl
 |t::ts,h=>by
  simp only[bn,Bool.and_eq_true]at h
  simp only[aR,yJ s t h.1,l9 s ts h.2,Bool.and_self]
end
mutual
theorem QN(s d:Nat):∀t:T,(t.strip d).ay s=t.ay s
 | .undef=>rfl
 | .v _=>rfl
 | .sl g n cs=>by cases g<;>rfl
 | .ptr ..=>rfl
 | .ref ..=>rfl
 | .av ..=>rfl
 | .aQ ..=>rfl
 | .agg ts=>by simp only[T.strip,T.ay,lz s d ts]
 | .an ts=>by simp only[T.strip,T.ay,lz s d ts]
 | .bB f a b=>by simp only[T.strip,T.ay,lz s d a,lz s d b]
theorem lz(s d:Nat):∀ts:List T,aR s (stripL d ts)=aR s ts
 | []=>rfl
 |t::ts=>by simp only[stripL,aR,QN s d t,lz s d ts]
end
theorem QO(s d:Nat)(σ:St):(σ.strip d).ay s=σ.ay s:=by
 simp only[St.ay,St.strip,lz,List.all_map]
 congr 2
 funext o
 cases o with
 |none=>rfl
 |some cs=>simp[lz]
theorem oo{s:Nat}{ts:List T}:aR s ts=true↔∀t∈ts,t.ay s=true:=by
 rw[qL,List.all_eq_true]
theorem Ic{s p:Nat}{rs:List T}{t:T}(h:aR s rs=true)(ht:t.ay s=true):aR s (rs.set p t)=true:=by
 rw[oo]at h⊢
 intro u hu
 rcases List.mem_or_eq_of_mem_set hu with h1|rfl
 ·exact h u h1
 ·exact ht
theorem Li{σ:St}{s:Nat}{x:ag}(h:σ.ay s=true)(hc:x.cOk=true):(x.get σ).ay s=true:=by
 simp only[St.ay,Bool.and_eq_true,oo]at h
 obtain⟨⟨h1,h2⟩,_⟩:=h
 have key:∀(ts:List T) i,(∀t∈ts,t.ay s=true)→(ts.getD i .undef).ay s=true:=fun ts i h=>by
  simp only[List.getD_eq_getElem?_getD]
  cases hi:ts[i]? with
  |none=>rfl
  |some t=>exact h t (List.mem_of_getElem? hi)
 cases x with
 |c t=>exact yJ s t hc
 |r i=>exact key _ _ h1
 |x i=>exact key _ _ h2
theorem TX{s:Nat}{g:Bool}{n:Nat}{cs:List T}{off:Nat}{t:T}(h:aR s cs=true)(ht:one? g n cs off=some t):t.ay s=true:=by
 rw[oo]at h
 unfold one? at ht
 split at ht
 ·split at ht<;>try(cases ht;done)
  simp only[Option.some.injEq]at ht
  subst ht
  simp only[T.ay,oo]
  exact fun t ht=>h t (List.mem_of_mem_drop (List.mem_of_mem_take ht))
 ·exact h t (List.mem_of_getElem? ht)
theorem Gr{s:Nat}{get:ag→T}:∀(ps:List (Nat×Nat×ag)) (cells cs:List T),aR s cells=true→(∀x∈ps.map (fun p=>p.2.2),(get x).ay s=true)→df get cells ps=some cs→aR s cs=true
 | [],cells,cs,h,_,hf=>by simp only[df,Option.some.injEq]at hf;subst hf;exact h
 |(off,n,a)::ps,cells,cs,h,hp,hf=>by
  simp only[df,Option.bind_eq_bind]at hf
  obtain⟨ns,hns,hf⟩:=Option.bind_eq_some_iff.1 hf
  split at hf<;>try(cases hf;done)
  refine Gr ps _ cs ?_ (fun x hx=>hp x (by simp at hx⊢;exact .inr hx)) hf
  have ha:=hp a (by simp)
  have hn:aR s ns=true:=by
   generalize get a=u at hns ha
   cases u<;>simp only[cellsOf,Option.some.injEq]at hns<;>try(cases hns;done)
   all_goals subst hns
   all_goals first
    |(simp[aR,ha];done)
    |simpa [T.ay]using ha
  rw[oo]at h hn⊢
  intro t ht
  simp only[setCells,List.mem_append]at ht
  rcases ht with(ht|ht)|ht
  ·exact h t (List.mem_of_mem_take ht)
  ·exact hn t ht
  ·exact h t (List.mem_of_mem_drop ht)
def mG(d:Nat)(o:IOp):Bool:=kF o&&jt o&&(match o with
 | .mv _| .build ..| .load ..| .bin ..| .len ..=>true
 | .bslice d2 ..=>d2 !=d
 |_=>false)
def TY:IOp→IOp→Bool
 | .callnew d _ _ _,o=>mG d o
 |_,_=>false
theorem WU{s:Nat}{get:ag→T}{bx:List (Option (List T))}{o:IOp}{t:T}{d:Nat}(hb:mG d o=true)(hq:o.quiet=true)(hg:∀x∈o.reads,(get x).ay s=true)(nL:∀(i:Nat) cs,bx[i]? =some (some cs)→aR s cs=true)(h:quietVal get bx o=some t):t.ay s=true:=by
 unfold mG at hb
 simp only[Bool.and_eq_true]at hb
 obtain⟨⟨hz,hc⟩,hm⟩:=hb
 cases o<;>try(simp at hm;done)
 case mv a=>
  simp only[quietVal,Option.some.injEq]at h
  subst h
  exact hg a (by simp[IOp.reads])
 case build zero ps=>
  simp only[quietVal]at h
  obtain⟨cs,aG,rfl⟩:=Option.map_eq_some_iff.1 h
  simp only[T.ay]
  exact Gr ps zero cs (l9 s zero (by simpa [kF]using hz)) hg aG
 case load g n a=>
  simp only[quietVal]at h
  split at h
  ·split at h<;>try(cases h;done)
   rename_i cs aG
   exact TX (nL _ cs aG) h
  ·obtain⟨h1,h2⟩:=Option.filter_eq_some_iff.1 h
   exact yJ s t h2
  ·cases h
 case bin op ty a b=>
  simp only[quietVal]at h
  unfold bO at h
  split at h<;>try(cases h;done)
  split at h<;>try(cases h;done)
  obtain⟨x,_,rfl⟩:=Option.map_eq_some_iff.1 h
  rfl
 case len str a=>
  simp only[quietVal]at h
  unfold jo at h
  split at h<;>try(cases h;done)
  all_goals
   split at h<;>try(cases h;done)
   simp only[Option.some.injEq]at h
   subst h
   rfl
 case bslice=>simp[IOp.quiet,IOp.pure]at hq
theorem QP{C:FuncId→List T→Option T}{σ az:St}{d f:Nat}{ad:List Nat}{as:List T}{t:T}(hr:ae.dG C σ d ad f as=some (t,az)):
  ∃r outs,t=T.al (dw [] ad) (fy d) r∧az=⟨stripL (2*d) σ.rs,stripL (2*d) σ.vars,ey (dw [] ad) (fy d) outs 0 (cS (2*d) σ.boxes)⟩∧(∀s∈ad++ad.map (· +1),σ.ay s=true)∧
   ∀(σ':St) (A7:List T),A7.map T.fx=as.map T.fx→bc A7=bc as→(∀s,dF σ'.boxes s=dF σ.boxes s)→(∀s∈ad++ad.map (· +1),σ'.ay s=true)→
    ae.dG C σ' d ad f A7=some (t,⟨stripL (2*d) σ'.rs,stripL (2*d) σ'.vars,ey (dw [] ad) (fy d) outs 0 (cS (2*d) σ'.boxes)⟩):=by
 unfold ae.dG at hr
 split at hr<;>try(cases hr;done)
 rename_i R3
 split at hr<;>try(cases hr;done)
 rename_i r outs hC
 split at hr<;>try(cases hr;done)
 rename_i h1
 simp only[Option.some.injEq,Prod.mk.injEq]at hr
 obtain⟨rfl,rfl⟩:=hr
 have h2:=h1.2.1
 simp only[List.all_eq_true,Bool.and_eq_true]at h2
 refine⟨r,outs.map er,rfl,rfl,fun s hs=> ?_,fun σ' A7 has G6 DW hno=> ?_⟩
 ·simp only[List.mem_append,List.mem_map]at hs
  rcases hs with hs|⟨s',hs,rfl⟩
  ·exact(h2 s hs).1.2
  ·exact(h2 s' hs).2
 ·unfold ae.dG
  have e:(A7.map fun t=>t.fx.al (iL []) fun _=>none)=as.map fun t=>t.fx.al (iL []) fun _=>none:=by
   have:=congrArg (List.map fun t=>T.al (iL []) (fun _=>none) t) has
   simpa [List.map_map,Function.comp_def]using this
  rw[G6,if_neg R3,e,hC]
  simp only
  rw[if_pos ⟨h1.1,by
   simp only[List.all_eq_true,Bool.and_eq_true]
   intro s hs
   refine⟨⟨⟨⟨(h2 s hs).1.1.1.1, ?_⟩, ?_⟩,hno s (by simp[hs])⟩,hno (s+1) (by simp[hs])⟩
   ·rw[DW];exact(h2 s hs).1.1.1.2
   ·rw[DW];exact(h2 s hs).1.1.2,h1.2.2⟩]
  rfl
mutual
theorem zx{d d2:Nat}(h:d2≠d)(ρ:Nat→Option Nat):∀t:T,(t.al ρ (fy d)).strip (2*d2)=t.al ρ (fy d)
 | .undef=>rfl
 | .v _=>rfl
 | .sl g n cs=>by
  cases g<;>try rfl
  rename_i k e
  simp only[T.al,fy]
  by_cases hk:k< 8
  ·rw[if_pos hk]
   simp only[T.strip]
   rw[Fl,if_neg (by simp;omega)]
  ·rw[if_neg hk];rfl
 | .ptr ..=>rfl
 | .ref s o=>by simp only[T.al];split<;>rfl
 | .av s o n c=>by simp only[T.al];split<;>rfl
 | .aQ s=>by simp only[T.al];split<;>rfl
 | .agg ts=>by simp only[T.al,T.strip,ju h ρ ts]
 | .an ts=>by simp only[T.al,T.strip,ju h ρ ts]
 | .bB f a b=>by simp only[T.al,T.strip,ju h ρ a,ju h ρ b]
theorem ju{d d2:Nat}(h:d2≠d)(ρ:Nat→Option Nat):∀ts:List T,stripL (2*d2) (ai ρ (fy d) ts)=ai ρ (fy d) ts
 | []=>rfl
 |t::ts=>by simp only[ai,stripL,zx h ρ t,ju h ρ ts]
end
theorem Gs{d d2:Nat}(h:d2≠d)(back:Nat→Option Nat):∀(os:List (Option (List T))) (l:Nat) (bx:List (Option (List T))),cS (2*d2) (ey back (fy d) os l bx)=ey back (fy d) os l (cS (2*d2) bx)
 | [],_,_=>rfl
 |o::os,l,bx=>by
  simp only[ey]
  rw[Gs h back os]
  congr 1
  cases back l with
  |none=>rfl
  |some s=>
   simp only[cS,List.map_set]
   congr 1
   cases o with
   |none=>rfl
   |some cs=>simp only[Option.map_some,ju h]
theorem QQ(d d':Nat)(bx:List (Option (List T))):cS d' (cS d bx)=cS d (cS d' bx):=by
 simp only[cS,List.map_map]
 refine List.map_congr_left fun o _=> ?_
 cases o with
 |none=>rfl
 |some cs=>simp[iQ d d' cs]
theorem Mu(d:Nat)(bx:List (Option (List T)))(s:Nat):dF (cS d bx) s=dF bx s:=by
 unfold dF cS
 rw[List.getElem?_map]
 cases bx[s]? with
 |none=>rfl
 |some o=>cases o<;>rfl
theorem TZ{ad:List Nat}{l s:Nat}(h:dw [] ad l=some s):s∈ad++ad.map (· +1):=by
 unfold dw at h
 simp only[List.length_nil,Nat.not_lt_zero,if_false,Nat.sub_zero]at h
 obtain⟨a,ha,rfl⟩:=Option.map_eq_some_iff.1 h
 have hm:=List.mem_of_getElem? ha
 simp only[List.mem_append,List.mem_map]
 rcases Nat.mod_two_eq_zero_or_one l with h0|h0
 ·rw[h0];exact .inl hm
 ·rw[h0];exact .inr ⟨a,hm,rfl⟩
def Fp(e1 e2:bN):Bool:=e1.1 !=e2.1&& !(e2.looks e1.1)&& !(e1.looks e2.1)&&TY e1.2.2 e2.2.2
set_option maxHeartbeats 1000000 in
theorem abd{C:FuncId→List T→Option T}{σ az fB:St}{e1 e2:bN}(hs:Fp e1 e2=true)(h1:bT C σ e1=some az)(h2:bT C az e2=some fB):
  ∃Ei,bT C σ e2=some Ei∧bT C Ei e1=some fB:=by
 obtain⟨p1,g1,o1⟩:=e1
 obtain⟨p2,g2,o2⟩:=e2
 simp only[Fp,Bool.and_eq_true,bne_iff_ne,ne_eq,Bool.not_eq_true']at hs
 obtain⟨⟨⟨hp,mX⟩,fu⟩,hc⟩:=hs
 obtain⟨eu,ui⟩:=xA mX
 obtain⟨gq,gp⟩:=xA fu
 simp only at hp gq eu gp ui hc
 have u4:¬p2=p1:=fun h=>hp h.symm
 cases o1<;>try(simp[TY]at hc;done)
 rename_i d ad f as
 simp only[TY]at hc
 have hz:kF o2=true:=by simp only[mG,Bool.and_eq_true]at hc;exact hc.1.1
 have Lf:jt o2=true:=by simp only[mG,Bool.and_eq_true]at hc;exact hc.1.2
 have NV:o2.Ee=false:=by cases o2<;>first|rfl|simp[mG]at hc
 have abe:∀x∈o2.reads,x.cOk=true:=fun x hx=>by
  simp only[jt,List.all_eq_true]at Lf
  exact Lf x hx
 simp only[IOp.reads]at gq
 simp only[bT]at h1 h2
 obtain⟨go1,xn,h1⟩:=Option.bind_eq_some_iff.1 h1
 obtain⟨go2,jy,h2⟩:=Option.bind_eq_some_iff.1 h2
 cases go1 with
 |false=>
  simp only[Bool.false_eq_true,if_false,Option.some.injEq]at h1
  subst h1
  rw[dI ui]at jy
  cases go2 with
  |false=>
   simp only[Bool.false_eq_true,if_false,Option.some.injEq]at h2
   subst h2
   refine⟨{σ with rs:=σ.rs.set p2 T.bD},by simp[bT,jy], ?_⟩
   simp only[bT,dI gp,xn,Option.bind_some,Bool.false_eq_true,if_false,fj hp]
  |true=>
   simp only[if_true]at h2
   obtain⟨⟨t2,we⟩,h3,h2⟩:=Option.bind_eq_some_iff.1 h2
   simp only[Option.some.injEq]at h2
   subst h2
   obtain⟨Be,b2,_,_,rfl,lx⟩:=nP NV h3
   have h4:ae C σ o2=some (t2,St.aN Be {σ with boxes:=b2}):=lx σ.rs σ.vars fun x hx=>(vf (eu x hx)).symm
   refine⟨_,by simp only[bT,jy,Option.bind_some,if_true,h4];rfl, ?_⟩
   simp only[bT]
   rw[dI gp,nA]
   simp only[xn,Option.bind_some,Bool.false_eq_true,if_false,Option.some.injEq]
   have:=mF Be {σ with boxes:=b2} p1 T.bD
   simp only[uq]at this
   rw[this]
   simp only[fj hp]
 |true=>
  simp only[if_true]at h1
  obtain⟨⟨t1,we⟩,h3,h1⟩:=Option.bind_eq_some_iff.1 h1
  simp only[Option.some.injEq]at h1
  subst h1
  simp only[ae]at h3
  obtain⟨r,outs,ht1,rfl,sX,abf⟩:=QP h3
  simp only at jy h2
  rw[dI ui,sP]at jy
  have hsk:stripL (2*d) (σ.rs.set p2 T.bD)=(stripL (2*d) σ.rs).set p2 T.bD:=by rw[aF,aF,List.map_set];rfl
  have T0:∀t,as.map (ag.get {σ with rs:=σ.rs.set p2 t})=as.map (ag.get σ):=fun t=>List.map_congr_left fun x hx=>vf (gq x hx)
  have WV:∀t:T,(∀s∈ad++ad.map (· +1),t.ay s=true)→∀s∈ad++ad.map (· +1),St.ay s {σ with rs:=σ.rs.set p2 t}=true:=fun t ht s hs=>by
   have:=sX s hs
   simp only[St.ay,Bool.and_eq_true]at this⊢
   exact⟨⟨Ic this.1.1 (ht s hs),this.1.2⟩,this.2⟩
  cases go2 with
  |false=>
   simp only[Bool.false_eq_true,if_false,Option.some.injEq]at h2
   subst h2
   refine⟨{σ with rs:=σ.rs.set p2 T.bD},by simp[bT,jy], ?_⟩
   have h5:=abf {σ with rs:=σ.rs.set p2 T.bD} (as.map (ag.get {σ with rs:=σ.rs.set p2 T.bD})) (by rw[T0]) (by rw[T0]) (fun s=>rfl) (WV T.bD fun s _=>rfl)
   simp only[bT,ae]
   rw[dI gp]
   simp only[xn,Option.bind_some,if_true,h5,Option.some.injEq]
   rw[hsk,fj u4]
  |true=>
   simp only[if_true]at h2
   obtain⟨⟨t2,σ4⟩,h4,h2⟩:=Option.bind_eq_some_iff.1 h2
   simp only[Option.some.injEq]at h2
   subst h2
   have eW:∀x∈o2.reads,x.get ⟨(stripL (2*d) σ.rs).set p1 t1,stripL (2*d) σ.vars,ey (dw [] ad) (fy d) outs 0 (cS (2*d) σ.boxes)⟩=(x.get σ).strip (2*d):=fun x hx=>by
    rw[←tq (abe x hx)]
    exact vf (σ:=⟨stripL (2*d) σ.rs,stripL (2*d) σ.vars,ey (dw [] ad) (fy d) outs 0 (cS (2*d) σ.boxes)⟩) (eu x hx)|>.trans (by cases x<;>rfl)
   by_cases hq:o2.quiet=true
   ·
    have xz:=ur hq h4
    subst xz
    rw[k8 hq]at h4
    obtain⟨x2,hx2,tr⟩:=Option.map_eq_some_iff.1 h4
    simp only[Prod.mk.injEq]at tr
    obtain⟨rfl,_⟩:=tr
    rw[nz (get:=fun x=>(x.get σ).strip (2*d)) eW]at hx2
    have hx3:quietVal (fun x=>(x.get σ).strip (2*d)) (cS (2*d) σ.boxes) o2=some x2:=by
     rw[←hx2]
     by_cases hpu:o2.pure=true
     ·exact B3 hpu
     ·cases o2 with
      |load g n a=>
       simp only[quietVal]
       have hna:∀s∈ad++ad.map (· +1),(a.get σ).ay s=true:=fun s hs=>Li (sX s hs) (abe a (by simp[IOp.reads]))
       generalize a.get σ=u at hna
       cases u<;>try rfl
       ·rename_i g' n' bW;cases g'<;>rfl
       ·rename_i s off
        simp only[T.strip]
        have HX:(ey (dw [] ad) (fy d) outs 0 (cS (2*d) σ.boxes))[s]? =(cS (2*d) σ.boxes)[s]? :=xx outs 0 _ fun l' _ _ hb=>by
         have:=hna s (TZ hb)
         simp[T.ay]at this
        rw[HX]
      |_=>first|exact absurd rfl hpu|(simp[mG]at hc;done)|(simp[IOp.quiet,IOp.pure]at hq;done)
    rw[Bc (2*d) hz]at hx3
    obtain⟨qY,af5,rfl⟩:=Option.map_eq_some_iff.1 hx3
    have h6:ae C σ o2=some (qY,σ):=by rw[k8 hq,af5];rfl
    refine⟨{σ with rs:=σ.rs.set p2 qY},by simp only[bT,jy,Option.bind_some,if_true,h6], ?_⟩
    have zu:∀s∈ad++ad.map (· +1),qY.ay s=true:=fun s hs=>by
     refine WU hc hq (fun x hx=>Li (sX s hs) (abe x hx)) (fun i cs aG=> ?_) af5
     have:=sX s hs
     simp only[St.ay,Bool.and_eq_true,List.all_eq_true]at this
     exact this.2 _ (List.mem_of_getElem? aG)
    have h5:=abf {σ with rs:=σ.rs.set p2 qY} (as.map (ag.get {σ with rs:=σ.rs.set p2 qY})) (by rw[T0]) (by rw[T0]) (fun s=>rfl) (WV qY zu)
    simp only[bT,ae]
    rw[dI gp]
    simp only[xn,Option.bind_some,if_true,h5,Option.some.injEq]
    have e:stripL (2*d) (σ.rs.set p2 qY)=(stripL (2*d) σ.rs).set p2 (qY.strip (2*d)):=by rw[aF,aF,List.map_set]
    rw[e,fj u4]
   ·
    cases o2 with
    |bslice d2 e sz len zero ps=>
     have hdd:d2≠d:=by simp only[mG,Bool.and_eq_true,bne_iff_ne]at hc;exact hc.2
     simp only[ae,Option.bind_eq_bind]at h4
     obtain⟨cs,aG,h4⟩:=Option.bind_eq_some_iff.1 h4
     split at h4<;>try(cases h4;done)
     rename_i fA
     simp only[Option.some.injEq,Prod.mk.injEq]at h4
     obtain⟨rfl,rfl⟩:=h4
     rw[fillT_congr (get:=fun a=>(ag.get σ a).cH) ps _ fun x hx=>by simp only[eW x hx,qM]]at aG
     have h6:ae C σ (.bslice d2 e sz len zero ps)=some (.sl (if len=0 then .clip else .own (8*d2) e) len cs,σ.strip (2*d2)):=by
      simp only[ae,Option.bind_eq_bind,aG,Option.bind_some,if_pos fA]
     refine⟨_,by simp only[bT,jy,Option.bind_some,if_true,h6];rfl, ?_⟩
     have acM:as.map (ag.get {σ.strip (2*d2)with rs:=(σ.strip (2*d2)).rs.set p2 (.sl (if len=0 then .clip else .own (8*d2) e) len cs)})=as.map (ag.get (σ.strip (2*d2))):=List.map_congr_left fun x hx=>vf (gq x hx)
     have hw:∀x:ag,(x.get (σ.strip (2*d2))).fx=(x.get σ).fx∧(x.get (σ.strip (2*d2))).aV=(x.get σ).aV:=fun x=>by
      cases x with
      |c t=>exact⟨rfl,rfl⟩
      |r i=>rw[tq (x:= .r i) rfl,Gn,yI];exact⟨rfl,rfl⟩
      |x i=>rw[tq (x:= .x i) rfl,Gn,yI];exact⟨rfl,rfl⟩
     have DL:∀as:List ag,bc (as.map (ag.get (σ.strip (2*d2))))=bc (as.map (ag.get σ)):=fun as=>by
      induction as with
      |nil=>rfl
      |cons x as ih=>simp only[List.map_cons,bc,ih,(hw x).2]
     have h5:=abf {σ.strip (2*d2)with rs:=(σ.strip (2*d2)).rs.set p2 (.sl (if len=0 then .clip else .own (8*d2) e) len cs)} (as.map (ag.get {σ.strip (2*d2)with rs:=(σ.strip (2*d2)).rs.set p2 (.sl (if len=0 then .clip else .own (8*d2) e) len cs)}))
      (by rw[acM,List.map_map,List.map_map];exact List.map_congr_left fun x _=>(hw x).1) (by rw[acM];exact DL as) (fun s=>Mu (2*d2) σ.boxes s) (fun s hs=>by
       have:=sX s hs
       rw[←QO s (2*d2)]at this
       simp only[St.ay,Bool.and_eq_true]at this⊢
       exact⟨⟨Ic this.1.1 rfl,this.1.2⟩,this.2⟩)
     simp only[bT,ae]
     have hwd:bR ((σ.strip (2*d2)).rs.set p2 (.sl (if len=0 then .clip else .own (8*d2) e) len cs)) g1=bR σ.rs g1:=by rw[dI gp];exact sP (2*d2)
     rw[hwd]
     simp only[xn,Option.bind_some,if_true]
     rw[h5]
     simp only[Option.bind_some,Option.some.injEq,St.strip]
     have e1:T.strip (2*d) (.sl (if len=0 then .clip else .own (8*d2) e) len cs)= .sl (if len=0 then .clip else .own (8*d2) e) len cs:=by
      by_cases h0:len=0
      ·rw[if_pos h0];rfl
      ·rw[if_neg h0]
       simp only[T.strip]
       rw[Fl,if_neg (by simp;omega)]
     have e2:t1.strip (2*d2)=t1:=by rw[ht1];exact zx hdd _ r
     have e3:stripL (2*d) ((stripL (2*d2) σ.rs).set p2 (.sl (if len=0 then .clip else .own (8*d2) e) len cs))=(stripL (2*d) (stripL (2*d2) σ.rs)).set p2 (.sl (if len=0 then .clip else .own (8*d2) e) len cs):=by
      rw[aF (2*d),List.map_set,e1,←aF]
     have e4:stripL (2*d2) ((stripL (2*d) σ.rs).set p1 t1)=(stripL (2*d2) (stripL (2*d) σ.rs)).set p1 t1:=by
      rw[aF (2*d2),List.map_set,e2,←aF]
     have e5:List.map (Option.map (stripL (2*d2))) (ey (dw [] ad) (fy d) outs 0 (cS (2*d) σ.boxes))=ey (dw [] ad) (fy d) outs 0 (cS (2*d) (List.map (Option.map (stripL (2*d2))) σ.boxes)):=by
      have:=Gs hdd (dw [] ad) outs 0 (cS (2*d) σ.boxes)
      rw[QQ]at this
      exact this
     rw[e3,e4,e5,iQ (2*d) (2*d2),iQ (2*d) (2*d2) σ.vars,fj u4]
    |_=>first|exact absurd rfl hq|(simp[mG]at hc;done)
def Bf(e1 e2:bN):Bool:=Fo e1 e2||Fp e1 e2
theorem NX{e1 e2:bN}(h:Bf e1 e2=true):e2.looks e1.1=false:=by
 simp only[Bf,Fo,Fp,Bool.or_eq_true,Bool.and_eq_true,Bool.not_eq_true']at h
 rcases h with h|h
 ·exact h.1.1.1.2
 ·exact h.1.1.2
theorem WW{C:FuncId→List T→Option T}{σ az fB:St}{e1 e2:bN}(hs:Bf e1 e2=true)(h1:bT C σ e1=some az)(h2:bT C az e2=some fB):
  ∃Ei,bT C σ e2=some Ei∧bT C Ei e1=some fB:=by
 simp only[Bf,Bool.or_eq_true]at hs
 rcases hs with h|h
 ·exact abc h h1 h2
 ·exact abd h h1 h2
theorem front{C:FuncId→List T→Option T}{e:bN}{l2:List bN}{σ':St}:∀(l1:List bN) (σ:St),(∀x∈l1,Bf x e=true)→sO C (l1++e::l2) σ=some σ'→∃az,bT C σ e=some az∧sO C (l1++l2) az=some σ'
 | [],σ,_,h=>by
  simp only[List.nil_append,sO]at h⊢
  exact Option.bind_eq_some_iff.1 h
 |x::l1,σ,hx,h=>by
  simp only[List.cons_append,sO]at h
  obtain⟨az,h1,h⟩:=Option.bind_eq_some_iff.1 h
  obtain⟨fB,h2,h3⟩:=front l1 az (fun y hy=>hx y (by simp[hy])) h
  obtain⟨we,h4,h5⟩:=WW (hx x (by simp)) h1 h2
  exact⟨we,h4,by simp only[List.cons_append,sO,h5,Option.bind_some,h3]⟩
end Go.Vi
end
section
namespace Go.Vi
open Go Go.RowKit
def cE:Nat→List (Option (Nat×Bool)×IOp)→List bN
 |_,[]=>[]
 |k,(g,o)::r=>(k,g,o)::cE (k+1) r
theorem QR{rs pad:List T}{g:Option (Nat×Bool)}{go:Bool}(h:bR rs g=some go):bR (rs++pad) g=some go:=by
 cases g with
 |none=>exact h
 |some q=>
  obtain⟨j,b⟩:=q
  simp only[bR]at h⊢
  by_cases hj:j< rs.length
  ·rw[List.getElem?_append_left hj];exact h
  ·rw[List.getElem?_eq_none (by omega)]at h;cases h
theorem yK{C:FuncId→List T→Option T}{σ':St}:∀(il:List (Option (Nat×Bool)×IOp)) (σ:St),eQ C σ il=some σ'→sO C (cE σ.rs.length il) {σ with rs:=σ.rs++List.replicate il.length .undef}=some σ'
 | [],σ,h=>by
  simp only[eQ,Option.some.injEq]at h
  subst h
  simp[cE,sO]
 |(g,o)::il,σ,h=>by
  simp only[eQ]at h
  obtain⟨go,hw,h⟩:=Option.bind_eq_some_iff.1 h
  have rf:∀(rs:List T) (t:T) (k:Nat),rs.length=k→(rs++List.replicate (il.length+1) T.undef).set k t=(rs++[t])++List.replicate il.length T.undef:=by
   intro rs t k hk
   subst hk
   rw[List.set_append_right _ _ (Nat.le_refl _)]
   simp[List.replicate_succ]
  have C9:=QR (pad:=List.replicate (il.length+1) T.undef) hw
  cases go with
  |true=>
   simp only[if_true]at h
   obtain⟨⟨t,az⟩,h1,h⟩:=Option.bind_eq_some_iff.1 h
   obtain⟨F,bx,hF,rfl,sX,he⟩:=zw h1
   have h2:=he (σ.rs++List.replicate (il.length+1) T.undef) σ.vars (fun x _=>by
    cases x with
    |x i=>rfl
    |c t=>rfl
    |r i=>
     simp only[ag.get,List.getD_eq_getElem?_getD,List.getElem?_append,List.getElem?_replicate]
     by_cases hi:i< σ.rs.length
     ·rw[if_pos hi]
     ·rw[if_neg hi,List.getElem?_eq_none (by omega:σ.rs.length≤i)]
      split<;>rfl) (fun s hs=>by
     have:=sX s hs
     simp only[St.ay,Bool.and_eq_true]at this
     refine⟨?_,this.1.2⟩
     rw[oo]at this⊢
     intro t ht
     rcases List.mem_append.1 ht with h|h
     ·exact this.1.1 t h
     ·rw[(List.mem_replicate.1 h).2];rfl)
   have ih:=yK il _ h
   simp only[cE,sO,bT,List.length_cons,C9,Option.bind_some,if_true,h2]
   rw[List.map_append,List.map_replicate,hF.undef,rf _ _ _ (by simp)]
   simp only[List.length_append,List.length_map,List.length_singleton]at ih
   exact ih
  |false=>
   simp only[Bool.false_eq_true,if_false]at h
   have ih:=yK il _ h
   simp only[cE,sO,bT,List.length_cons,C9,Option.bind_some,Bool.false_eq_true,if_false]
   rw[rf _ _ _ rfl]
   simp only[List.length_append,List.length_singleton]at ih
   exact ih
section
variable{P:Program}{W:dg}{w:World}{S0 S:Nat→Nat→Prop}{β:aY}{φ:bw}{a:Act}{o:Oper}{σ:St}{nt:Nat}{vm bm:List Nat}
theorem put_defers(a:Act)(d:Option Nat)(x:Value):(a.put d x).defers=a.defers:=by cases d<;>rfl
theorem bX.putAt{done:List (Option Nat)}(h:bX P W S0 S β φ nt vm done σ a w){i:Nat}{dst:Option Nat}(hi:done[i]? =some none)(hd:∀s,dst=some s→some s ∉ done∧s< nt){t:T}{x:Value}(hx:ak S w β φ x t):
  bX P W S0 S β φ nt vm (done.set i dst) {σ with rs:=σ.rs.set i t} (a.put dst x) w:=by
 have hlt:i< done.length:=(List.getElem?_eq_some_iff.1 hi).1
 have JK:∀s',some s'≠dst→(a.put dst x).tmps.getD s' undef=a.tmps.getD s' undef:=by
  intro s' ft
  cases dst with
  |none=>rfl
  |some s=>simp only[Act.put];exact getD_set_ne (by intro h;subst h;exact ft rfl)
 have key:∀(j s:Nat),(done.set i dst)[j]? =some (some s)→(j≠i∧done[j]? =some (some s))∨(j=i∧dst=some s):=by
  intro j s hj
  rw[List.getElem?_set]at hj
  split at hj
  ·rename_i Ie
   simp only[hlt,if_true,Option.some.injEq]at hj
   exact .inr ⟨Ie.symm,hj⟩
  ·rename_i Ie;exact .inl ⟨fun h=>Ie h.symm,hj⟩
 refine⟨h.inv, ?_, ?_,h.o0,by simp[h.pM],fun v s u hv hn hu=> ?_,fun j s u hj hu=> ?_,fun j j' s hj th=> ?_⟩
 ·obtain⟨Ds,h1,h2,h3⟩:=h.nd
  exact⟨Ds,h1,by cases dst<;>simpa [Act.put]using h2,h3⟩
 ·cases dst<;>simp[Act.put,h.size]
 ·have h1:some s≠dst:=fun he=>hn (by rw[he];exact List.mem_of_getElem? (i:=i) (by simp[hlt]))
  have h2:some s ∉ done:=fun hm=>hn (by
   obtain⟨k,hk⟩:=List.mem_iff_getElem?.1 hm
   have Ej:i≠k:=fun he=>by subst he;rw[hi]at hk;cases hk
   exact List.mem_of_getElem? (i:=k) (by rw[List.getElem?_set,if_neg Ej];exact hk))
  rw[JK s h1]
  exact h.vars v s u hv h2 hu
 ·rcases key j s hj with⟨hne,th⟩|⟨rfl,rfl⟩
  ·simp only[List.getElem?_set,if_neg (fun h=>hne h.symm:¬i=j)]at hu
   rw[JK s (fun he=>(hd s he.symm).1 (List.mem_of_getElem? th))]
   exact h.uj j s u th hu
  ·simp only[List.getElem?_set,if_true]at hu
   split at hu<;>try(cases hu;done)
   simp only[Option.some.injEq]at hu
   subst hu
   simp only[Act.put]
   rw[Ag (by rw[h.size];exact(hd s rfl).2)]
   exact hx
 ·rcases key j s hj with⟨hne,h1⟩|⟨h1,ua⟩<;>rcases key j' s th with⟨JK,h2⟩|⟨h2,nr⟩
  ·exact h.Af j j' s h1 h2
  ·exact absurd (List.mem_of_getElem? h1) (hd s nr).1
  ·exact absurd (List.mem_of_getElem? h2) (hd s ua).1
  ·omega
theorem bX.grow{done:List (Option Nat)}{w':World}(h:bX P W S0 S β φ nt vm done σ a w)(hb:Below w.heap.size w w'):bX P W S0 S β φ nt vm done σ a w':=
 ⟨h.inv.grow hb,h.nd,h.size,h.o0,h.pM,fun i s u hi hn hu=>(h.vars i s u hi hn hu).grow h.inv.lt hb,fun j s u hj hu=>(h.uj j s u hj hu).grow h.inv.lt hb,h.Af⟩
theorem T1{C:FuncId→List T→Option T}(hC:∀f args r,C f args=some r→Sound P f args r){ops:Array Oper}{done pre:List (Option Nat)}{i:Nat}{io:IOp}{iom:FuncId→Nat}{az:St}(di:2*bm.length≤W.nb){rn:Option Nat}{n:Nat}{K:Act→World→Prop}{Q:Exit→Act→World→Prop}
  (h:bX P W S0 S β φ nt vm done σ a w) (o3:ops[i]? =some o) (NZ:nY P iom vm bm pre o=some io)
  (aaU:∀k s,pre[k]? =some (some s)→done[k]? =some (some s)∨σ.rs.getD k .undef= .undef)
  (iI:∀(j s:Nat),done[j]? =some (some s)→(ops[j]?).bind (·.dst)=some s)
  (amn:∀v s,ag.x v∈io.reads→vm[v]? =some s→some s ∉ done)
  (hni:done[i]? =some none) (hd:∀s,o.dst=some s→some s ∉ done∧s< nt)
  (hg:∀j b,o.guard=some (j,b)→((done[j]?).join).isSome=true)
  (hs:bT C σ (i,o.guard,io)=some az)
  (hK:∀S' β' φ' a' w',bX P W S0 S' β' φ' nt vm (done.set i o.dst) az a' w'→a'.defers=a.defers→K a' w'):wpOpIn (wd rn) n P ops Q i K a w:=by
 simp only[bT]at hs
 obtain⟨go,hw,hs⟩:=Option.bind_eq_some_iff.1 hs
 have aiw:=BX h iI hg hw
 unfold wpOpIn
 simp only[o3,aiw]
 cases go with
 |false=>
  simp only[Bool.false_eq_true,if_false,Option.some.injEq]at hs⊢
  subst hs
  exact⟨fun _ _=>trivial,hK _ _ _ _ _ (h.putAt hni hd (.v ..)) (put_defers _ _ _)⟩
 |true=>
  simp only[if_true]at hs⊢
  obtain⟨⟨t,fB⟩,h1,hs⟩:=Option.bind_eq_some_iff.1 hs
  simp only[Option.some.injEq]at hs
  subst hs
  obtain⟨F,bx,hF,rfl,sX,he⟩:=zw h1
  let vs:List T:=List.zipWith (fun s t=>if some s∈done then T.undef else t) vm σ.vars
  let we:St:=⟨σ.rs,vs,σ.boxes⟩
  have xi:∀(v s:Nat) (u:T),vm[v]? =some s→σ.vars[v]? =some u→vs[v]? =some (if some s∈done then T.undef else u):=by
   intro v s u hv hu
   simp[vs,List.getElem?_zipWith,hv,hu]
  have af6:∀(v:Nat) (u:T),vs[v]? =some u→∃s u',vm[v]? =some s∧σ.vars[v]? =some u'∧u=if some s∈done then T.undef else u':=by
   intro v u hu
   simp only[vs,List.getElem?_zipWith]at hu
   split at hu<;>try(cases hu;done)
   rename_i s u' hv kZ
   simp only[Option.some.injEq]at hu
   exact⟨s,u',hv,kZ,hu.symm⟩
  have h3:bX P W S0 S β φ nt vm done we a w:=by
   refine⟨h.inv,h.nd,h.size,by simp[we,vs,h.o0],h.pM,fun v s u hv hn hu=> ?_,h.uj,h.Af⟩
   obtain⟨s',u',AY,kZ,rfl⟩:=af6 v u hu
   rw[hv]at AY
   simp only[Option.some.injEq]at AY
   subst AY
   rw[if_neg hn]
   exact h.vars v s u' hv hn kZ
  have hop:∀x d,lq vm pre x=some d→ak S w β φ (a.eval x) (d.get we):=by
   intro x d hx
   cases x with
   |tmp s=>
    simp only[lq]at hx
    split at hx
    ·rename_i k hk
     simp only[Option.some.injEq]at hx
     subst hx
     have cp:=yz hk
     simp only[ag.get,Act.eval]
     rcases aaU k s cp with R4|wm
     ·have hlt:k< σ.rs.length:=by rw[h.pM];exact(List.getElem?_eq_some_iff.1 R4).1
      exact h.uj k s _ R4 (by simp[we,List.getD_eq_getElem?_getD,hlt])
     ·simp only[we];rw[wm];exact .undef ..
    ·obtain⟨v,hv,rfl⟩:=Option.map_eq_some_iff.1 hx
     rw[List.idxOf?,List.findIdx?_eq_some_iff_getElem]at hv
     obtain⟨hv,af7,_⟩:=hv
     simp only[beq_iff_eq]at af7
     have D5:vm[v]? =some s:=by simp[hv,af7]
     have hlt:v< σ.vars.length:=by rw[h.o0];exact hv
     have:=xi v s _ D5 (List.getElem?_eq_getElem hlt)
     simp only[ag.get,Act.eval,we,List.getD_eq_getElem?_getD,this,Option.getD_some]
     split
     ·exact .undef ..
     ·rename_i hn
      exact h.vars v s _ D5 hn (List.getElem?_eq_getElem hlt)
   |const v=>
    simp only[lq]at hx
    split at hx
    ·rename_i hk
     simp only[Option.some.injEq]at hx
     subst hx
     exact rQ v hk
    ·cases hx
   |func f=>
    simp only[lq,Option.some.injEq]at hx
    subst hx
    exact .v ..
   |global g=>simp[lq]at hx
  have hrun:ae C we io=some (t,⟨σ.rs.map F,vs.map F,bx⟩):=he σ.rs vs (fun x hx=>by
   cases x with
   |r k=>rfl
   |c u=>rfl
   |x v=>
    simp only[ag.get,List.getD_eq_getElem?_getD]
    cases hv:vm[v]? with
    |none=>
     have h4:σ.vars.length≤v:=by rw[h.o0];exact List.getElem?_eq_none_iff.1 hv
     have h5:vs.length≤v:=by rw[show vs.length=vm.length by simp[vs,h.o0]];exact List.getElem?_eq_none_iff.1 hv
     rw[List.getElem?_eq_none h4,List.getElem?_eq_none h5]
    |some s=>
     have hlt:v< σ.vars.length:=by rw[h.o0];exact(List.getElem?_eq_some_iff.1 hv).1
     rw[xi v s _ hv (List.getElem?_eq_getElem hlt),if_neg (amn v s hx hv),List.getElem?_eq_getElem hlt]) (fun s hs=>by
    have:=sX s hs
    simp only[St.ay,Bool.and_eq_true]at this
    refine⟨this.1.1, ?_⟩
    have h2:=this.1.2
    rw[oo]at h2⊢
    intro t ht
    obtain⟨v,hv⟩:=List.mem_iff_getElem?.1 ht
    obtain⟨s',u',hv1,kZ,rfl⟩:=af6 v t hv
    split
    ·rfl
    ·exact h2 _ (List.mem_of_getElem? kZ))
  have fin:∀x w',ax P W S0 S β φ w we ⟨σ.rs.map F,vs.map F,bx⟩ t x w'→K (a.put o.dst x) w':=by
   intro x w' ⟨S',β',φ',adj,hx,hI,hm,uW,lM⟩
   simp only[we]at uW lM
   have H5:bX P W S0 S' β' φ' nt vm done ⟨σ.rs.map F,σ.vars.map F,bx⟩ a w':=by
    refine⟨hI,h.nd,h.size,by simp[h.o0],by simp[h.pM],fun v s u hv hn hu=> ?_,fun j s u hj hu=> ?_,h.Af⟩
    ·simp only[List.getElem?_map]at hu
     obtain⟨u',kZ,rfl⟩:=Option.map_eq_some_iff.1 hu
     have h1:=xi v s u' hv kZ
     rw[if_neg hn]at h1
     have h2:=hm _ _ (h3.vars v s u' hv hn h1)
     have h4:F u'=adj u':=by
      have:=congrArg (·[v]?) lM
      simp only[List.getElem?_map,h1,Option.map_some,Option.some.injEq]at this
      exact this
     rw[h4];exact h2
    ·simp only[List.getElem?_map]at hu
     obtain⟨u',kZ,rfl⟩:=Option.map_eq_some_iff.1 hu
     have h2:=hm _ _ (h3.uj j s u' hj kZ)
     have h4:F u'=adj u':=by
      have:=congrArg (·[j]?) uW
      simp only[List.getElem?_map,kZ,Option.map_some,Option.some.injEq]at this
      exact this
     rw[h4];exact h2
   exact hK _ _ _ _ _ (H5.putAt hni hd hx) (put_defers _ _ _)
  by_cases hc:∃c f,o.op= .call c∧c.callee= .value f
  ·obtain⟨c,f,ho,hcv⟩:=hc
   exact yy hC h3.inv di hop NZ ho hcv hrun fin
  ·obtain⟨x,w',T2,hA⟩:=G1 (a:=a) (o:=o) h3.inv di hop NZ (fun c f ho hcv=>hc ⟨c,f,ho,hcv⟩) hrun
   exact T2.wpIn (rU NZ) (fin _ _ hA)
end
end Go.Vi
end
section
namespace Go.Vi
open Go Go.RowKit
def direct(ops:Array Oper)(i:Nat):List Nat:=
 match ops[i]? with
 |some o=>(o.after.toList.filter (Region.binds .any)).map (·.on)
 |none=>[]
def ahead(ops:Array Oper):List (List Nat):=
 (List.range ops.size).foldl (fun tb i=>tb++[((direct ops i)++(direct ops i).flatMap fun k=>tb.getD k []).eraseDups]) []
def af8(ops:Array Oper)(tb:List (List Nat)):Bool:=
 (List.range ops.size).all fun i=>(direct ops i).all (fun k=>decide (k< i))&&(tb.getD i []).all fun j=>(direct ops i).contains j||(direct ops i).any fun k=>(tb.getD k []).contains j
def JS(tb:List (List Nat))(es:List bN):Bool:=
 es.all fun e2=>es.all fun e1=> !(decide (e1.1< e2.1))||(tb.getD e2.1 []).contains e1.1||Bf e1 e2
def WX(vm:List Nat)(ops:Array Oper)(tb:List (List Nat))(es:List bN):Bool:=
 es.all fun e=>e.2.2.reads.all fun x=>match x with
  | .x v=>match vm[v]? with
   |some s=>(List.range ops.size).all fun j=>j==e.1||(ops[j]?).bind (·.dst) !=some s||(tb.getD j []).contains e.1
   |none=>true
  |_=>true
def bE(vm:List Nat)(ops:Array Oper)(l:List (Option (Nat×Bool)×IOp)):Bool:=
 let tb:=ahead ops
 af8 ops tb&&JS tb (cE 0 l)&&WX vm ops tb (cE 0 l)
theorem nB:∀(il:List (Option (Nat×Bool)×IOp)) (k i:Nat) (g:Option (Nat×Bool)) (io:IOp),(i,g,io)∈cE k il↔k≤i∧il[i-k]? =some (g,io)
 | [],k,i,g,io=>by simp[cE]
 |(g',o')::il,k,i,g,io=>by
  simp only[cE,List.mem_cons,Prod.mk.injEq,nB il (k+1)]
  constructor
  ·rintro(⟨rfl,rfl,rfl⟩|⟨h1,h2⟩)
   ·simp
   ·refine⟨by omega, ?_⟩
    rw[show i-k=(i-(k+1))+1 by omega]
    simpa using h2
  ·rintro⟨h1,h2⟩
   by_cases h:i=k
   ·subst h
    simp at h2
    exact .inl ⟨rfl,h2.1.symm,h2.2.symm⟩
   ·refine .inr ⟨by omega, ?_⟩
    rw[show i-k=(i-(k+1))+1 by omega]at h2
    simpa using h2
theorem Ig:∀(il:List (Option (Nat×Bool)×IOp)) (k i:Nat) (g:Option (Nat×Bool)) (io:IOp),(i,g,io)∈cE k il→
  ∃l1 l2,cE k il=l1++(i,g,io)::l2∧(∀e∈l1,e.1< i)∧∀e∈l2,i< e.1
 | [],k,i,g,io,h=>by simp[cE]at h
 |(g',o')::il,k,i,g,io,h=>by
  simp only[cE,List.mem_cons,Prod.mk.injEq]at h
  rcases h with⟨rfl,rfl,rfl⟩|h
  ·refine⟨[],cE (i+1) il,by simp[cE],by simp,fun e he=> ?_⟩
   have:=(nB il (i+1) e.1 e.2.1 e.2.2).1 he
   omega
  ·obtain⟨l1,l2,h1,h2,h3⟩:=Ig il (k+1) i g io h
   refine⟨(k,g',o')::l1,l2,by simp[cE,h1],fun e he=> ?_,h3⟩
   have hk:=((nB il (k+1) i g io).1 h).1
   simp only[List.mem_cons]at he
   rcases he with rfl|he
   ·simp only;omega
   ·exact h2 e he
theorem Ai{P:Program}{iom:FuncId→Nat}{nt:Nat}{vm bm:List Nat}:∀(rest pre:List Oper) {il:List (Option (Nat×Bool)×IOp)},jU P iom nt vm bm (pre.map (·.dst)) rest=some il→
  il.length=rest.length∧∀(i:Nat) (o:Oper),rest[i]? =some o→∃io,il[i]? =some (o.guard,io)∧nY P iom vm bm ((pre++rest.take i).map (·.dst)) o=some io∧tg nt ((pre++rest.take i).map (·.dst)) o=false
 | [],pre,il,h=>by
  simp only[jU,Option.some.injEq]at h
  subst h
  exact⟨rfl,fun i o ho=>by simp at ho⟩
 |o'::rest,pre,il,h=>by
  unfold jU at h
  split at h<;>try(cases h;done)
  rename_i hb
  obtain⟨i',hi,h⟩:=Option.bind_eq_some_iff.1 h
  obtain⟨r,hr,h⟩:=Option.bind_eq_some_iff.1 h
  simp only[Option.some.injEq]at h
  subst h
  have xj:jU P iom nt vm bm ((pre++[o']).map (·.dst)) rest=some r:=by simpa using hr
  obtain⟨h1,h2⟩:=Ai rest (pre++[o']) xj
  refine⟨by simp[h1],fun i o ho=> ?_⟩
  cases i with
  |zero=>
   simp at ho
   subst ho
   exact⟨i',by simp,by simpa using hi,by simpa using hb⟩
  |succ i=>
   simp at ho
   obtain⟨io,h3,h4,h5⟩:=h2 i o ho
   exact⟨io,by simpa using h3,by simpa using h4,by simpa using h5⟩
def lA(ops:Array Oper)(bF:Array Bool):List (Option Nat):=(List.range ops.size).map fun k=>if bF.getD k true then(ops[k]?).bind (·.dst)else none
theorem jH(ops:Array Oper)(bF:Array Bool)(k:Nat)(hk:k< ops.size):(lA ops bF)[k]? =some (if bF.getD k true then(ops[k]?).bind (·.dst)else none):=by
 simp[lA,hk]
theorem zy{ops:Array Oper}{bF:Array Bool}{k:Nat}{x:Option Nat}(h:(lA ops bF)[k]? =some x):k< ops.size:=by
 have:=(List.getElem?_eq_some_iff.1 h).1
 simpa [lA]using this
theorem oq{bF:Array Bool}{i k:Nat}(hi:i< bF.size):(bF.setIfInBounds i true).getD k true=(if k=i then true else bF.getD k true):=by
 simp only[Array.getD_eq_getD_getElem?,Array.getElem?_setIfInBounds]
 by_cases h:k=i
 ·subst h;simp[hi]
 ·rw[if_neg (fun h':i=k=>h h'.symm),if_neg h]
theorem T3{ops:Array Oper}{bF:Array Bool}{i:Nat}(hi:i< ops.size)(hs:bF.size=ops.size):lA ops (bF.setIfInBounds i true)=(lA ops bF).set i ((ops[i]?).bind (·.dst)):=by
 refine List.ext_getElem? fun k=> ?_
 by_cases hk:k< ops.size
 ·rw[jH _ _ _ hk,oq (by omega),List.getElem?_set]
  by_cases h:k=i
  ·subst h;simp[lA,hk]
  ·rw[if_neg h,if_neg (fun h':i=k=>h h'.symm),jH _ _ _ hk]
 ·rw[List.getElem?_eq_none (by simp[lA];omega),List.getElem?_eq_none (by simp[lA];omega)]
section
variable{P:Program}{W:dg}{w:World}{S0 S:Nat→Nat→Prop}{β:aY}{φ:bw}{a:Act}{o:Oper}{σ:St}{nt:Nat}{vm bm:List Nat}
theorem N0{C:FuncId→List T→Option T}{σ az:St}{e:bN}(h:bT C σ e=some az){k:Nat}(hk:k≠e.1)(hu:σ.rs.getD k .undef= .undef):az.rs.getD k .undef= .undef:=by
 simp only[bT]at h
 obtain⟨go,_,h⟩:=Option.bind_eq_some_iff.1 h
 rw[List.getD_eq_getElem?_getD]at hu⊢
 cases go with
 |false=>
  simp only[Bool.false_eq_true,if_false,Option.some.injEq]at h
  subst h
  simp only[List.getElem?_set,if_neg (fun h':e.1=k=>hk h'.symm)]
  exact hu
 |true=>
  simp only[if_true]at h
  obtain⟨⟨t,fB⟩,h1,h⟩:=Option.bind_eq_some_iff.1 h
  simp only[Option.some.injEq]at h
  subst h
  obtain⟨F,bx,hF,rfl,_,_⟩:=zw h1
  simp only[List.getElem?_set,if_neg (fun h':e.1=k=>hk h'.symm),List.getElem?_map]
  cases hc:σ.rs[k]? with
  |none=>rfl
  |some u=>
   rw[hc]at hu
   simp only[Option.getD_some]at hu
   subst hu
   simp[hF.undef]
theorem WY{C:FuncId→List T→Option T}(hC:∀f args r,C f args=some r→Sound P f args r){iom:FuncId→Nat}(di:2*bm.length≤W.nb){rn:Option Nat}{m:Nat}{ops:Array Oper}{il:List (Option (Nat×Bool)×IOp)}{σ':St}{Q:Exit→Act→World→Prop}
  (hl:jU P iom nt vm bm [] ops.toList=some il) (Ih:bE vm ops il=true) {D0:List Deferred} (hQ:∀S' β' φ' a' w',bX P W S0 S' β' φ' nt vm (ops.toList.map (·.dst)) σ' a' w'→a'.defers=D0→Q .normal a' w'):
  ∀(n:Nat) (bF:Array Bool) (S:Nat→Nat→Prop) (β:aY) (φ:bw) (σ:St) (a:Act) (w:World),a.defers=D0→bF.size=ops.size→((cE 0 il).filter fun e=> !bF.getD e.1 true).length=n→
   (∀k,k< ops.size→bF.getD k true=true→∀j∈(ahead ops).getD k [],j< ops.size∧bF.getD j true=true)→
   bX P W S0 S β φ nt vm (lA ops bF) σ a w→(∀k,k< ops.size→bF.getD k true=false→σ.rs.getD k .undef= .undef)→
   sO C ((cE 0 il).filter fun e=> !bF.getD e.1 true) σ=some σ'→wpAnyIn (wd rn) m P .any ops Q n bF a w:=by
 simp only[bE,Bool.and_eq_true]at Ih
 obtain⟨⟨WZ,Ek⟩,lM⟩:=Ih
 generalize ahead ops=tb at WZ Ek lM
 simp only[af8,List.all_eq_true,List.mem_range,Bool.and_eq_true,decide_eq_true_eq,Bool.or_eq_true,List.any_eq_true,List.contains_iff_mem]at WZ
 obtain⟨hlen,H2⟩:=Ai (P:=P) (iom:=iom) (nt:=nt) (vm:=vm) (bm:=bm) ops.toList [] (by simpa using hl)
 simp only[List.nil_append,Array.length_toList]at hlen H2
 have sY:∀i,i< ops.size→∃o io,ops[i]? =some o∧(i,o.guard,io)∈cE 0 il∧nY P iom vm bm ((ops.toList.take i).map (·.dst)) o=some io∧tg nt ((ops.toList.take i).map (·.dst)) o=false:=by
  intro i hi
  obtain⟨io,h1,h2,h3⟩:=H2 i ops[i] (by simp[hi])
  exact⟨ops[i],io,by simp[hi],(nB il 0 i _ io).2 ⟨by omega,by simpa using h1⟩,h2,h3⟩
 have af9:∀(bF:Array Bool),Region.ready .any ops bF=[]→bF.size=ops.size→∀i,i< ops.size→bF.getD i true=true:=by
  intro bF hr hsz i
  induction i using Nat.strongRecOn with
  |_ i ih=>
   intro hi
   cases N1:bF.getD i true with
   |true=>rfl
   |false=>
    exfalso
    obtain⟨o,io,ho,_⟩:=sY i hi
    have kp:i∈Region.ready .any ops bF:=by
     simp only[Region.ready,List.mem_filter,List.mem_range,hi,true_and,N1,ho,Option.map_some,Option.getD_some,Bool.not_false,Bool.true_and,Array.all_eq_true',Bool.or_eq_true,Bool.not_eq_true']
     intro e he
     cases hb:Region.binds .any e with
     |false=>exact .inl rfl
     |true=>
      refine .inr ?_
      have hd:e.on∈direct ops i:=by
       simp only[direct,ho,List.mem_map,List.mem_filter]
       exact⟨e,⟨by simpa using he,hb⟩,rfl⟩
      have hlt:=(WZ i hi).1 e.on hd
      have:=ih e.on hlt (by omega)
      rw[Array.getD_eq_getD_getElem?]at this⊢
      rw[Array.getElem?_eq_getElem (by omega)]at this⊢
      exact this
    rw[hr]at kp
    cases kp
 intro n
 induction n with
 |zero=>
  intro bF S β φ σ a w W0 hsz hn MD hR hU hrun
  have yL:(cE 0 il).filter (fun e=> !bF.getD e.1 true)=[]:=List.length_eq_zero_iff.1 hn
  have gZ:∀i,i< ops.size→bF.getD i true=true:=by
   intro i hi
   obtain⟨o,io,_,hm,_⟩:=sY i hi
   rw[List.filter_eq_nil_iff]at yL
   have:=yL _ hm
   simpa using this
  rw[yL]at hrun
  simp only[sO,Option.some.injEq]at hrun
  subst hrun
  refine⟨?_,hQ _ _ _ _ _ (?_:bX P W S0 S β φ nt vm (ops.toList.map (·.dst)) σ a w) W0⟩
  ·rw[Region.ready,List.filter_eq_nil_iff]
   intro i hi
   simp[gZ i (by simpa using hi)]
  ·have:lA ops bF=ops.toList.map (·.dst):=by
    refine List.ext_getElem? fun k=> ?_
    by_cases hk:k< ops.size
    ·rw[jH _ _ _ hk,gZ k hk];simp[hk]
    ·rw[List.getElem?_eq_none (by simp[lA];omega),List.getElem?_eq_none (by simp;omega)]
   rw[←this];exact hR
 |succ n ih=>
  intro bF S β φ σ a w W0 hsz hn MD hR hU hrun
  refine⟨fun hr=> ?_,fun i hi=> ?_⟩
  ·exfalso
   have gZ:=af9 bF hr hsz
   have:(cE 0 il).filter (fun e=> !bF.getD e.1 true)=[]:=by
    rw[List.filter_eq_nil_iff]
    intro e he
    have:=((nB il 0 e.1 e.2.1 e.2.2).1 he).2
    have hlt:=(List.getElem?_eq_some_iff.1 this).1
    simp[gZ e.1 (by omega)]
   rw[this]at hn
   simp at hn
  ·simp only[Region.ready,List.mem_filter,List.mem_range,Bool.and_eq_true,Bool.not_eq_true']at hi
   obtain⟨hi,N1,W6⟩:=hi
   obtain⟨o,io,ho,hm,NZ,o5⟩:=sY i hi
   simp only[ho,Option.map_some,Option.getD_some,Array.all_eq_true',Bool.or_eq_true,Bool.not_eq_true']at W6
   have abg:∀k∈direct ops i,k< ops.size∧bF.getD k true=true:=by
    intro k hk
    have hlt:=(WZ i hi).1 k hk
    simp only[direct,ho,List.mem_map,List.mem_filter]at hk
    obtain⟨e,⟨he,hb⟩,rfl⟩:=hk
    refine⟨by omega, ?_⟩
    have:=W6 e (by simpa using he)
    rcases this with h|h
    ·rw[h]at hb;cases hb
    ·rw[Array.getD_eq_getD_getElem?]at h⊢
     rw[Array.getElem?_eq_getElem (by omega)]at h⊢
     exact h
   have abh:∀j∈tb.getD i [],j< ops.size∧bF.getD j true=true:=by
    intro j hj
    rcases(WZ i hi).2 j hj with h|⟨k,hk,hjk⟩
    ·exact abg j h
    ·exact MD k (abg k hk).1 (abg k hk).2 j hjk
   obtain⟨l1,l2,N2,fu,mX⟩:=Ig il 0 i o.guard io hm
   have hf:(cE 0 il).filter (fun e=> !bF.getD e.1 true)=l1.filter (fun e=> !bF.getD e.1 true)++(i,o.guard,io)::l2.filter (fun e=> !bF.getD e.1 true):=by
    rw[N2,List.filter_append,List.filter_cons_of_pos (by simp[N1])]
   have R5:(cE 0 il).filter (fun e=> !(bF.setIfInBounds i true).getD e.1 true)=l1.filter (fun e=> !bF.getD e.1 true)++l2.filter (fun e=> !bF.getD e.1 true):=by
    rw[N2,List.filter_append,List.filter_cons_of_neg (by rw[oq (by omega)];simp)]
    congr 1
    ·refine List.filter_congr fun e he=> ?_
     rw[oq (by omega),if_neg (by have:=fu e he;omega)]
    ·refine List.filter_congr fun e he=> ?_
     rw[oq (by omega),if_neg (by have:=mX e he;omega)]
   rw[hf]at hrun hn
   obtain⟨az,hs1,aix⟩:=front _ σ (fun e he=>by
    simp only[List.mem_filter,Bool.not_eq_true']at he
    have kp:e∈cE 0 il:=by rw[N2];simp[he.1]
    simp only[JS,List.all_eq_true,Bool.or_eq_true,Bool.not_eq_true',decide_eq_false_iff_not,List.contains_iff_mem]at Ek
    rcases Ek _ hm e kp with(h|h)|h
    ·exact absurd (fu e he.1) h
    ·have:=(abh e.1 h).2
     rw[he.2]at this
     cases this
    ·exact h) hrun
   have R4:∀s,o.dst=some s→some s ∉ lA ops bF∧s< nt:=by
    intro s hs
    have hb:∀j o',ops[j]? =some o'→tg nt ((ops.toList.take j).map (·.dst)) o'=false:=fun j o' zk=>by
     have hj:j< ops.size:=(Array.getElem?_eq_some_iff.1 zk).1
     obtain⟨o2,_,xh,_,_,hb⟩:=sY j hj
     rw[zk]at xh
     simp only[Option.some.injEq]at xh
     subst xh
     exact hb
    have A3:∀j o',ops[j]? =some o'→o'.dst=some s→some s ∉ (ops.toList.take j).map (·.dst)∧s< nt:=by
     intro j o' zk ft
     have:=hb j o' zk
     simp only[tg,ft,Bool.or_eq_false_iff,Bool.not_eq_false',decide_eq_true_eq]at this
     refine⟨fun hm=> ?_,this.1.2⟩
     have h2:=this.1.1
     rw[List.contains_iff_mem.2 hm]at h2
     cases h2
    refine⟨fun hm=> ?_,(A3 i o ho hs).2⟩
    obtain⟨k,hk⟩:=List.mem_iff_getElem?.1 hm
    have El:=zy hk
    rw[jH _ _ _ El]at hk
    simp only[Option.some.injEq]at hk
    split at hk<;>try(cases hk;done)
    rename_i uZ
    have Ej:k≠i:=fun h=>by subst h;rw[N1]at uZ;cases uZ
    obtain⟨ok,Ih,aga⟩:=Option.bind_eq_some_iff.1 hk
    have take:∀p q op,p< q→ops[p]? =some op→op.dst=some s→some s∈(ops.toList.take q).map (·.dst):=by
     intro p q op KS hop Lc
     refine List.mem_map.2 ⟨op,List.mem_of_getElem? (i:=p) ?_,Lc⟩
     rw[List.getElem?_take,if_pos KS]
     simpa using hop
    rcases Nat.lt_or_gt_of_ne Ej with h|h
    ·exact(A3 i o ho hs).1 (take k i ok h Ih aga)
    ·exact(A3 k ok Ih aga).1 (take i k o h ho hs)
   refine T1 hC di hR ho NZ (fun k s hk=> ?_) (fun j s hj=> ?_) (fun v s hx hv kp=> ?_) (by rw[jH _ _ _ hi,N1];rfl) R4 (fun j b hg=> ?_) hs1 fun S' β' φ' a' w' Dc ha'=> ?_
   ·rw[List.getElem?_map,Option.map_eq_some_iff]at hk
    obtain⟨q,hq,CZ⟩:=hk
    rw[List.getElem?_take]at hq
    split at hq<;>try(cases hq;done)
    rename_i Ej
    have El:k< ops.size:=by omega
    have Gb:ops[k]? =some q:=by simpa using hq
    cases Gt:bF.getD k true with
    |true=>exact .inl (by rw[jH _ _ _ El,Gt,Gb];simp[CZ])
    |false=>exact .inr (hU k El Gt)
   ·have T4:=zy hj
    rw[jH _ _ _ T4]at hj
    simp only[Option.some.injEq]at hj
    split at hj
    ·exact hj
    ·cases hj
   ·obtain⟨k,hk⟩:=List.mem_iff_getElem?.1 kp
    have El:=zy hk
    rw[jH _ _ _ El]at hk
    simp only[Option.some.injEq]at hk
    split at hk<;>try(cases hk;done)
    rename_i uZ
    have Ej:k≠i:=fun h=>by subst h;rw[N1]at uZ;cases uZ
    simp only[WX,List.all_eq_true]at lM
    have:=lM _ hm _ hx
    simp only[hv,List.all_eq_true,List.mem_range,Bool.or_eq_true,beq_iff_eq,bne_iff_ne,ne_eq,List.contains_iff_mem]at this
    rcases this k El with(h|h)|h
    ·exact Ej h
    ·exact h hk
    ·have:=(MD k El uZ i h).2
     rw[N1]at this
     cases this
   ·
    simp only[tg,hg,Bool.or_eq_false_iff,Bool.not_eq_false']at o5
    have h2:=o5.2
    have hji:j< i:=by
     by_cases h:j< i
     ·exact h
     ·rw[List.getElem?_eq_none (by simp;omega)]at h2
      simp at h2
    have T4:j< ops.size:=by omega
    obtain⟨oj,ioj,hoj,hmj,_,_⟩:=sY j T4
    have N3:bF.getD j true=true:=by
     simp only[JS,List.all_eq_true,Bool.or_eq_true,Bool.not_eq_true',decide_eq_false_iff_not,List.contains_iff_mem]at Ek
     rcases Ek _ hm _ hmj with(h|h)|h
     ·exact absurd hji h
     ·exact(abh j h).2
     ·exfalso
      have h3:=NX h
      simp[bN.looks,hg]at h3
    rw[jH _ _ _ T4,N3,hoj]
    simp only[if_true,Option.bind_some,Option.join_some]
    rw[List.getElem?_map,List.getElem?_take,if_pos hji]at h2
    have amo:ops.toList[j]? =some oj:=by simpa using hoj
    rw[amo]at h2
    simpa using h2
   ·refine ih (bF.setIfInBounds i true) S' β' φ' az a' w' (ha'.trans W0) (by simp[hsz]) ?_ ?_ ?_ ?_ ?_
    ·rw[R5]
     simp only[List.length_append,List.length_cons]at hn⊢
     omega
    ·intro k hk uZ j hj
     rw[oq (by omega)]at uZ
     rw[oq (by omega)]
     by_cases Ej:k=i
     ·subst Ej
      have:=abh j hj
      refine⟨this.1, ?_⟩
      rw[this.2];simp
     ·rw[if_neg Ej]at uZ
      have:=MD k hk uZ j hj
      refine⟨this.1, ?_⟩
      rw[this.2];simp
    ·rw[T3 hi hsz,ho];exact Dc
    ·intro k hk uZ
     rw[oq (by omega)]at uZ
     split at uZ
     ·cases uZ
     ·rename_i Ej
      exact N0 hs1 Ej (hU k hk uZ)
    ·rw[R5];exact aix
theorem W7(hm:P.follows .mixedOrders=true):mE P bE:=by
 intro C iom W w S0 S β φ nt vm bm id ops il σ σ' a Q rn m hC di Ih hR hl hr hQ
 refine wpIn_region_any hm ?_
 have hb:Below w.heap.size w {w with drawn:=w.drawn+1}:=⟨rfl,rfl,rfl,Nat.le_refl _,fun _ _=>rfl⟩
 have hR:=hR.grow hb
 have uW:σ.rs=[]:=List.length_eq_zero_iff.1 (by simpa using hR.pM)
 have hrun:=yK il σ hr
 obtain⟨hlen,_⟩:=Ai (P:=P) (iom:=iom) (nt:=nt) (vm:=vm) (bm:=bm) ops.toList [] (by simpa using hl)
 simp only[Array.length_toList]at hlen
 rw[uW,hlen]at hrun
 simp only[List.length_nil,List.nil_append]at hrun
 have N4:∀k,k< ops.size→(Array.replicate ops.size false).getD k true=false:=fun k hk=>by simp[Array.getD_eq_getD_getElem?,hk]
 have acN:(cE 0 il).filter (fun e=> !(Array.replicate ops.size false).getD e.1 true)=cE 0 il:=by
  rw[List.filter_eq_self]
  intro e he
  have:=((nB il 0 e.1 e.2.1 e.2.2).1 he).2
  have hlt:=(List.getElem?_eq_some_iff.1 this).1
  rw[N4 e.1 (by omega)];rfl
 have N5:∀(l:List (Option (Nat×Bool)×IOp)) k,(cE k l).length=l.length:=by
  intro l
  induction l with
  |nil=>intro k;rfl
  |cons x l ih=>intro k;obtain⟨g,o⟩:=x;simp[cE,ih]
 refine WY hC di hl Ih hQ ops.size (Array.replicate ops.size false) S β φ {σ with rs:=List.replicate ops.size .undef} a _ rfl (by simp) (by rw[acN,N5,hlen]) (fun k hk h=> ?_) ?_ (fun k hk _=> ?_) (by rw[acN];exact hrun)
 ·rw[N4 k hk]at h;cases h
 ·have Ii:∀(k:Nat) (x:Option Nat),(lA ops (Array.replicate ops.size false))[k]? =some x→x=none:=by
   intro k x hk
   have hlt:=zy hk
   rw[jH _ _ _ hlt,N4 k hlt]at hk
   simpa using hk.symm
  refine⟨hR.inv,hR.nd,hR.size,hR.o0,by simp[lA],fun v s u hv _ hu=>hR.vars v s u hv (by simp) hu,fun j s u hj=> ?_,fun j j' s hj=> ?_⟩
  ·cases Ii j _ hj
  ·cases Ii j _ hj
 ·simp[List.getD_eq_getElem?_getD,hk]
end
end Go.Vi
end
section
namespace Go.Vi
open Go Go.RowKit
def cq(l':Nat)(t:T):T:=if fc t then yT l' else t
def St.cq(l':Nat)(σ:St):St:=⟨σ.rs.map (Vi.cq l'),σ.vars.map (Vi.cq l'),σ.boxes⟩
def Out.cq(l':Nat):Out→Out
 | .norm σ=> .norm (σ.cq l')
 | .exit j σ=> .exit j (σ.cq l')
 | .ret σ=> .ret (σ.cq l')
theorem Fq{t:T}(h:fc t=true):∃l a b,t= .v (.func (.yield l) a b):=by
 unfold fc at h
 split at h
 ·exact⟨_,_,_,rfl⟩
 ·cases h
theorem oU{l':Nat}{t:T}(h:fc t=false):cq l' t=t:=by unfold cq;rw[h];rfl
theorem xT{l':Nat}{t:T}(h:fc t=true):cq l' t=yT l':=by unfold cq;rw[h];rfl
theorem N6{F:T→T}(hF:vg F)(l':Nat)(t:T):F (cq l' t)=cq l' (F t):=by
 cases h:fc t with
 |true=>
  obtain⟨l,a,b,rfl⟩:=Fq h
  rw[xT h,hF.v,xT h]
  exact hF.v _
 |false=>
  rw[oU h,oU]
  cases h2:fc (F t)with
  |false=>rfl
  |true=>
   obtain⟨l,a,b,h3⟩:=Fq h2
   have:=hF.inv _ _ h3
   rw[this]at h
   cases h
theorem yM(l':Nat)(ts:List T)(i:Nat):(ts.map (cq l')).getD i .undef=cq l' (ts.getD i .undef):=by
 simp only[List.getD_eq_getElem?_getD,List.getElem?_map]
 cases ts[i]? <;>rfl
theorem Bg{l':Nat}{σ:St}{x:ag}(h:fc (x.get σ)=false):x.get (σ.cq l')=x.get σ:=by
 cases x with
 |c t=>rfl
 |r i=>simp only[ag.get,St.cq,yM]at h⊢;exact oU h
 |x i=>simp only[ag.get,St.cq,yM]at h⊢;exact oU h
theorem N7{l':Nat}{σ:St}{x:ag}(h:∀t,x≠ .c t):x.get (σ.cq l')=cq l' (x.get σ):=by
 cases x with
 |c t=>exact absurd rfl (h t)
 |r i=>simp only[ag.get,St.cq,yM]
 |x i=>simp only[ag.get,St.cq,yM]
theorem Gu(s l':Nat)(ts:List T):aR s (ts.map (cq l'))=aR s ts:=by
 induction ts with
 |nil=>rfl
 |cons t ts ih=>
  simp only[List.map_cons,aR,ih]
  cases h:fc t with
  |true=>
   obtain⟨l,a,b,rfl⟩:=Fq h
   rw[xT h];rfl
  |false=>rw[oU h]
theorem qN{C:FuncId→List T→Option T}{σ:St}{o:IOp}{p:T×St×List (List T)}(l':Nat)(h:mf C σ o=some p):mf C (σ.cq l') o=some (cq l' p.1,p.2.1.cq l',p.2.2)∧p.2.2=[]∧ae C σ o=some (p.1,p.2.1):=by
 unfold mf at h
 split at h<;>try(cases h;done)
 rename_i hr
 obtain⟨⟨t,az⟩,h1,h⟩:=Option.bind_eq_some_iff.1 h
 split at h<;>try(cases h;done)
 rename_i hy
 simp only[Option.some.injEq]at h
 subst h
 simp only[List.all_eq_true,Bool.not_eq_true']at hr
 obtain⟨F,bx,hF,rfl,sX,he⟩:=zw h1
 have h2:ae C (σ.cq l') o=some (t,⟨(σ.rs.map (cq l')).map F,(σ.vars.map (cq l')).map F,bx⟩):=he _ _ (fun x hx=>Bg (hr x hx)) fun s hs=>by
  have:=sX s hs
  simp only[St.ay,Bool.and_eq_true]at this
  rw[Gu,Gu];exact this.1
 have h3:(⟨(σ.rs.map (cq l')).map F,(σ.vars.map (cq l')).map F,bx⟩:St)=St.cq l' ⟨σ.rs.map F,σ.vars.map F,bx⟩:=by
  simp only[St.cq,List.map_map,St.mk.injEq,and_true]
  exact⟨List.map_congr_left fun t _=>N6 hF l' t,List.map_congr_left fun t _=>N6 hF l' t⟩
 refine⟨?_,rfl,h1⟩
 unfold mf
 rw[if_pos (by simp only[List.all_eq_true,Bool.not_eq_true'];intro x hx;rw[Bg (hr x hx)];exact hr x hx),h2]
 simp only[Option.bind_some]
 rw[if_neg hy,h3,oU (by simpa using hy)]
theorem ad2{C:FuncId→List T→Option T}{l:Nat}{σ:St}{o:IOp}{p:T×St×List (List T)}(l':Nat)(h:ry C l σ o=some p):ry C l' (σ.cq l') o=some (cq l' p.1,p.2.1.cq l',p.2.2):=by
 unfold ry at h
 split at h
 ·rename_i d f as
  split at h
  ·rename_i hy
   split at h<;>try(cases h;done)
   rename_i cF
   have hg:f.get (σ.cq l')=yT l':=by rw[N7 cF,xT hy]
   unfold AE at h
   split at h<;>try(cases h;done)
   split at h<;>try(cases h;done)
   rename_i fA
   obtain⟨_,_,_,hs,hn⟩:=fA
   simp only[Option.some.injEq]at h
   subst h
   have has:as.map (ag.get (σ.cq l'))=as.map (ag.get σ):=List.map_congr_left fun x hx=>by
    simp only[List.all_eq_true,List.mem_map,forall_exists_index,and_imp,forall_apply_eq_imp_iff₂,Bool.not_eq_true']at hn
    exact Bg (hn x hx)
   unfold ry
   simp only
   rw[hg,if_pos (show fc (yT l')=true from rfl),has]
   unfold AE yT
   simp only
   rw[if_pos ⟨trivial,rfl,rfl,hs,hn⟩]
   rfl
  ·rename_i hy
   have:=qN l' h
   unfold ry
   simp only
   rw[Bg (by simpa using hy),if_neg hy]
   exact this.1
 ·rename_i t
  split at h<;>try(cases h;done)
  rename_i hy
  simp only[Option.some.injEq]at h
  subst h
  show(if fc t=true then none else some (t,σ.cq l',[]))=_
  rw[if_neg hy,oU (by simpa using hy)]
 ·rename_i a cF
  simp only[Option.some.injEq]at h
  subst h
  unfold ry
  split
  ·rename_i h1;cases h1
  ·rename_i h1;cases h1;exact absurd rfl (cF _)
  ·rename_i h1 h2;cases h2
   rw[N7 fun t ht=>cF t (by rw[ht])]
  ·rename_i h1 h2 h3;exact absurd rfl (h3 a)
 ·rename_i h1 h2 h3
  have:=qN l' h
  unfold ry
  split
  ·exact absurd rfl (h1 _ _ _)
  ·exact absurd rfl (h2 _)
  ·exact absurd rfl (h3 _)
  ·exact this.1
theorem QS(l':Nat)(rs:List T)(g:Option (Nat×Bool)):bR (rs.map (cq l')) g=bR rs g:=by
 cases g with
 |none=>rfl
 |some q=>
  obtain⟨j,b⟩:=q
  simp only[bR,List.getElem?_map]
  cases rs[j]? with
  |none=>rfl
  |some t=>
   simp only[Option.map_some]
   cases h:fc t with
   |true=>
    obtain⟨l,a,b',rfl⟩:=Fq h
    rw[xT h];rfl
   |false=>rw[oU h]
theorem Hb{C:FuncId→List T→Option T}{l:Nat}(l':Nat):∀(il:List (Option (Nat×Bool)×IOp)) (σ:St) (q:St×List (List T)),mO C l σ il=some q→mO C l' (σ.cq l') il=some (q.1.cq l',q.2)
 | [],σ,q,h=>by
  simp only[mO,Option.some.injEq]at h⊢
  subst h;rfl
 |(g,o)::il,σ,q,h=>by
  simp only[mO]at h⊢
  obtain⟨go,hg,h⟩:=Option.bind_eq_some_iff.1 h
  rw[show(σ.cq l').rs=σ.rs.map (cq l')from rfl,QS,hg]
  simp only[Option.bind_some]
  cases go with
  |true=>
   simp only[if_true]at h⊢
   obtain⟨p,hp,h⟩:=Option.bind_eq_some_iff.1 h
   obtain⟨q',hq,rfl⟩:=Option.map_eq_some_iff.1 h
   have h2:=Hb l' il _ _ hq
   rw[ad2 l' hp]
   simp only[Option.bind_some]
   have e:({p.2.1.cq l' with rs:=(p.2.1.cq l').rs++[cq l' p.1]}:St)=St.cq l' {p.2.1 with rs:=p.2.1.rs++[p.1]}:=by simp[St.cq]
   rw[e,h2]
   rfl
  |false=>
   simp only[Bool.false_eq_true,if_false]at h⊢
   have h2:=Hb l' il _ _ h
   have e:({σ.cq l' with rs:=σ.rs.map (cq l')++[T.bD]}:St)=St.cq l' {σ with rs:=σ.rs++[T.bD]}:=by simp[St.cq,Vi.cq,fc,T.bD,Go.undef]
   rw[e,h2]
theorem Lj(l':Nat):cq l' .undef= .undef:=rfl
theorem T5(s l':Nat)(ts:List T):aR s (ts.map (cq l'))=aR s ts:=by
 induction ts with
 |nil=>rfl
 |cons t ts ih=>
  simp only[List.map_cons,aR,ih]
  cases h:fc t with
  |true=>
   obtain⟨l,a,b,rfl⟩:=Fq h
   rw[xT h];rfl
  |false=>rw[oU h]
theorem Dj(l':Nat):∀(ss:List Nat) (σ σ':St),cB ss σ=some σ'→cB ss (σ.cq l')=some (σ'.cq l')
 | [],σ,σ',h=>by
  simp only[cB,Option.some.injEq]at h⊢
  subst h;rfl
 |s::ss,σ,σ',h=>by
  simp only[cB]at h⊢
  split at h<;>try(cases h;done)
  rename_i hn
  have e:(σ.cq l').ay s=σ.ay s:=by simp only[St.ay,St.cq,T5]
  rw[e,if_pos hn]
  exact Dj l' ss _ _ h
theorem Em(l':Nat):∀(vs:List Nat) (vars:List T),ef vs (vars.map (cq l'))=(ef vs vars).map (cq l')
 | [],_=>rfl
 |v::vs,vars=>by
  simp only[ef]
  rw[←Em l' vs,List.map_set,Lj]
theorem T6(l':Nat)(rs vars:List T)(outs:List (Option Nat)):fz (rs.map (cq l')) (vars.map (cq l')) outs=(fz rs vars outs).map (cq l'):=by
 unfold fz
 rw[List.zipWith_map_left,List.map_zipWith]
 congr 1
 funext t o
 cases o with
 |none=>rfl
 |some j=>exact yM l' rs j
theorem abi(l':Nat)(σ:St)(c:ag)(t:Bool)(h:c.get σ= .v (.bool t)):c.get (σ.cq l')= .v (.bool t):=by
 rw[Bg (by rw[h];rfl),h]
theorem Lk{f f':St→Option (Out×List (List T))}{l':Nat}(hf:∀σ q,f σ=some q→f' (σ.cq l')=some (q.1.cq l',q.2)):∀(n:Nat) (σ:St) (q:Out×List (List T)),j3 f n σ=some q→j3 f' n (σ.cq l')=some (q.1.cq l',q.2)
 |0,σ,q,h=>by simp[j3]at h
 |n+1,σ,q,h=>by
  simp only[j3]at h⊢
  split at h
  ·rename_i σ' ys h1
   obtain⟨q',hq,rfl⟩:=Option.map_eq_some_iff.1 h
   rw[hf _ _ h1]
   simp only[Out.cq,Lk hf n _ _ hq,Option.map_some]
  ·rename_i hne
   rw[hf _ _ h]
   obtain⟨o,ys⟩:=q
   cases o with
   |norm σ'=>exact absurd h (hne σ' ys)
   |exit j σ'=>rfl
   |ret σ'=>rfl
theorem W8{C:FuncId→List T→Option T}{l N:Nat}(l':Nat):∀(ic:IC) (σ:St) (q:Out×List (List T)),aS C l N ic σ=some q→aS C l' N ic (σ.cq l')=some (q.1.cq l',q.2):=by
 intro ic
 induction ic with
 |skip=>intro σ q h;simp only[aS,Option.some.injEq]at h⊢;subst h;rfl
 |Az r=>
  intro σ q h
  simp only[aS]at h⊢
  obtain⟨q',hq,h⟩:=Option.bind_eq_some_iff.1 h
  split at h<;>try(cases h;done)
  rename_i pQ
  simp only[Option.some.injEq]at h
  subst h
  have:=Hb l' _ _ _ hq
  have e:({σ.cq l' with rs:=[]}:St)=St.cq l' {σ with rs:=[]}:=rfl
  rw[e,this]
  simp only[Option.bind_some]
  rw[if_neg pQ]
  simp only[Out.cq,St.cq,T6,List.map_nil]
 |seq a b yD RY=>
  intro σ q h
  simp only[aS]at h⊢
  split at h
  ·rename_i σ' ys h1
   obtain⟨q',hq,rfl⟩:=Option.map_eq_some_iff.1 h
   rw[yD _ _ h1]
   simp only[Out.cq,RY _ _ hq,Option.map_some]
  ·rename_i hne
   rw[yD _ _ h]
   obtain⟨o,ys⟩:=q
   cases o with
   |norm σ'=>exact absurd h (hne σ' ys)
   |exit j σ'=>rfl
   |ret σ'=>rfl
 |cond c a b yD RY=>
  intro σ q h
  simp only[aS]at h⊢
  split at h<;>try(cases h;done)
  rename_i t ht
  rw[abi l' σ c t ht]
  cases t with
  |true=>exact yD _ _ (by simpa using h)
  |false=>exact RY _ _ (by simpa using h)
 |block id a yD=>
  intro σ q h
  simp only[aS]at h⊢
  split at h
  ·rename_i j σ' ys h1
   rw[yD _ _ h1]
   simp only[Out.cq]
   split at h
   ·rename_i hj;rw[if_pos hj];simp only[Option.some.injEq]at h⊢;subst h;rfl
   ·rename_i hj;rw[if_neg hj];simp only[Option.some.injEq]at h⊢;subst h;rfl
  ·rename_i hne
   rw[yD _ _ h]
   obtain⟨o,ys⟩:=q
   cases o with
   |norm σ'=>rfl
   |exit j σ'=>exact absurd h (hne j σ' ys)
   |ret σ'=>rfl
 |loop a yD=>
  intro σ q h
  simp only[aS]at h⊢
  exact Lk yD N σ q h
 |kz a yD=>
  intro σ q h
  simp only[aS]at h⊢
  split at h
  ·rename_i j σ' ys h1
   rw[yD _ _ h1]
   simp only[Out.cq]
   split at h<;>try(cases h;done)
   rename_i hj;rw[if_pos hj];simp only[Option.some.injEq]at h⊢;subst h;rfl
  ·rename_i hne
   rw[yD _ _ h]
   obtain⟨o,ys⟩:=q
   cases o with
   |norm σ'=>rfl
   |exit j σ'=>exact absurd h (hne j σ' ys)
   |ret σ'=>rfl
 |exit id=>intro σ q h;simp only[aS,Option.some.injEq]at h⊢;subst h;rfl
 |ret=>intro σ q h;simp only[aS,Option.some.injEq]at h⊢;subst h;rfl
 |kill vs=>
  intro σ q h
  simp only[aS,Option.some.injEq]at h⊢
  subst h
  simp only[Out.cq,St.cq,Em]
 |free ss=>
  intro σ q h
  simp only[aS]at h⊢
  obtain⟨σ',h1,rfl⟩:=Option.map_eq_some_iff.1 h
  rw[Dj l' _ _ _ h1]
  rfl
 |jumps id a b=>intro σ q h;simp[aS]at h
 |range K g ps a b=>intro σ q h;simp[aS]at h
theorem T7{C:FuncId→List T→Option T}{N l:Nat}{fn:aD}{caps:List T}{ys:List (List T)}(h:rz C N l fn caps=some ys)(l':Nat):rz C N l' fn caps=some ys:=by
 unfold rz at h⊢
 split at h<;>try(cases h;done)
 rename_i fA
 rw[if_pos fA]
 have TJ:caps.map (cq l')=caps:=by
  conv=>rhs;rw[←List.map_id caps]
  refine List.map_congr_left fun t ht=> ?_
  have:=List.all_eq_true.1 fA.2.1 t ht
  exact oU (by simpa using this)
 have key:∀q,aS C l N fn.body ⟨[],yT l::caps++List.replicate (fn.jZ-fn.nparams) .undef,List.replicate (2*fn.ez) none⟩=some q→
   aS C l' N fn.body ⟨[],yT l'::caps++List.replicate (fn.jZ-fn.nparams) .undef,List.replicate (2*fn.ez) none⟩=some (q.1.cq l',q.2):=fun q hq=>by
  have:=W8 l' _ _ _ hq
  simp only[St.cq,List.map_nil,List.cons_append,List.map_cons,List.map_append,TJ,List.map_replicate,Lj]at this
  exact this
 split at h<;>try(cases h;done)
 ·rename_i σ KY h1
  rw[key _ h1]
  exact h
 ·rename_i σ KY h1
  rw[key _ h1]
  exact h
end Go.Vi
end
