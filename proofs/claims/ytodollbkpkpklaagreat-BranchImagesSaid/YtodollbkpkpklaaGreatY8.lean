/-
  A claim's own text, joined by a small program out of: Vj2.
-/
import Derived.Test.YtodollbkpkpklaaGreatY1
import Derived.Laws.AppendOwn
import Derived.Laws.OwnMore
import Derived.RowKit3
set_option linter.unusedVariables false
set_option linter.unusedSimpArgs false
section
namespace Go.Vi
open Go Go.RowKit
theorem aE(d:Nat)(ts:List T):stripL d ts=ts.map (T.strip d):=by
 induction ts with
 |nil=>simp[stripL]
 |cons t ts ih=>simp[stripL,ih]
theorem qX(s:Nat)(ts:List T):aR s ts=ts.all (T.ay s):=by
 induction ts with
 |nil=>simp[aR]
 |cons t ts ih=>simp[aR,ih]
theorem si(ts:List T):bj ts=ts.all T.closed:=by
 induction ts with
 |nil=>simp[bj]
 |cons t ts ih=>simp[bj,ih]
theorem wv(ts:List T):aZ ts=ts.any T.aU:=by
 induction ts with
 |nil=>simp[aZ]
 |cons t ts ih=>simp[aZ,ih]
theorem bu(ρ η:Nat→Option Nat)(ts:List T):ah ρ η ts=ts.map (T.aj ρ η):=by
 induction ts with
 |nil=>simp[ah]
 |cons t ts ih=>simp[ah,ih]
theorem yS(xs:List Value):ofValues xs=xs.map ofValue:=by
 induction xs with
 |nil=>simp[ofValues]
 |cons t ts ih=>simp[ofValues,ih]
abbrev aX:=Nat→Option Nat
abbrev bB:=Nat→Option (Value×TypeId)
def bn:aX:=fun _=>none
def cD:bB:=fun _=>none
def Tag.NG:Tag→Bool
 | .l9=>false
 |_=>true
def se(w:World)(b k:Nat):Prop:=∃cc e,w.heap[b]? =some (.cells cc e (0,0))∧k≤cc.size
def cg(w w':World):Prop:=∀b k,se w b k→se w' b k
theorem cg.refl(w:World):cg w w:=fun _ _ h=>h
theorem cg.trans{w w' Bn:World}(h:cg w w')(k:cg w' Bn):cg w Bn:=fun b n hb=>k b n (h b n hb)
theorem iF{w w':World}(h:∀b,b< w.heap.size→w'.heap[b]? =w.heap[b]?):cg w w':=fun b k ⟨cc,e,h1,h2⟩=>⟨cc,e,(h b (Array.getElem?_eq_some_iff.1 h1).1).trans h1,h2⟩
theorem kf{w w':World}{g:Nat}(h:∀b,b< w.heap.size→b≠g→w'.heap[b]? =w.heap[b]?)(hg:∀k,se w g k→se w' g k):cg w w':=fun b k hb=>by
 by_cases he:b=g
 ·subst he;exact hg k hb
 ·obtain⟨cc,e,h1,h2⟩:=hb
  exact⟨cc,e,(h b (Array.getElem?_eq_some_iff.1 h1).1 he).trans h1,h2⟩
def Cs(w:World)(b off n m c:Nat):Prop:=(0< n→∀sz,m=n*sz→se w b (off+c*sz))∧(n=0→m=0→c=0)∧(n=0→∀sz,0< sz→m=1+sz→se w b (off+c*sz))
theorem Cs.grows{w w':World}{b off n m c:Nat}(h:Cs w b off n m c)(hg:cg w w'):Cs w' b off n m c:=⟨fun hn sz hm=>hg _ _ (h.1 hn sz hm),h.2.1,fun hn sz hs hm=>hg _ _ (h.2.2 hn sz hs hm)⟩
inductive ak(S:Nat→Nat→Prop)(w:World):aX→bB→Value→T→Prop
 |undef (β φ x):ak S w β φ x .undef
 |v (β φ x):ak S w β φ x (.v x)
 |nil (β φ) (g:Tag) (hg:g.NG=true):ak S w β φ (.slice none 0 0) (.sl g 0 [])
 |sl (β φ) (g:Tag) (a:Addr) (n c:Nat) (cs:List T) (f:Nat→Value) (cG:n≤c)
   (hg:(g= .l9∨g= .any)∨(g= .clip∧c=n)∨∃k e,g= .own k e∧(φ k=some (.slice (some a) n c,e)∨(n=0∧c=0∧cs=[])))
   (hc:∀i,i< cs.length→S a.block (a.off+i)∧w.cell? (a.add i)=some (f i)∧(f i).oneCell'=true)
   (h:∀(i:Nat) (t:T),cs[i]? =some t→ak S w bn cD (f i) t):ak S w β φ (.slice (some a) n c) (.sl g n cs)
 |ptr (β φ) (a:Addr) (cs:List T) (off:Nat) (f:Nat→Value)
   (hc:∀i,i< cs.length→S a.block (a.off+i)∧w.cell? (a.add i)=some (f i)∧(f i).oneCell'=true)
   (h:∀(i:Nat) (t:T),cs[i]? =some t→ak S w bn cD (f i) t):ak S w β φ (.pointer (some (a.add off))) (.ptr cs off)
 |ref (β φ) (s off b:Nat) (hb:β s=some b) (hp:s%2=0):ak S w β φ (.pointer (some ⟨b,off,none⟩)) (.ref s off)
 |au (β φ) (s off n m b c:Nat) (hb:β s=some b) (hp:s%2=0) (hn:n≤c) (hz:Cs w b off n m c):ak S w β φ (.slice (some ⟨b,off,none⟩) n c) (.au s off n m)
 |iv (β φ) (a:Option Addr) (s off m:Nat):ak S w β φ (.slice a 0 0) (.au s off 0 m)
 |aQ (β φ) (s b:Nat) (hb:β s=some b) (hp:s%2=1):ak S w β φ (.map (some b)) (.aQ s)
 |agg (β φ) (xs:Array Value) (ts:List T) (hl:xs.size=ts.length) (h1:∀(i:Nat) (x:Value),xs[i]? =some x→x.oneCell'=true)
   (h:∀(i:Nat) (x:Value) (t:T),xs[i]? =some x→ts[i]? =some t→ak S w β φ x t):ak S w β φ (.agg xs) (.agg ts)
 |al (β φ) (xs:Array Value) (ts:List T) (hl:xs.size=ts.length)
   (h:∀(i:Nat) (x:Value) (t:T),xs[i]? =some x→ts[i]? =some t→ak S w β φ x t):ak S w β φ (.tuple xs) (.al ts)
 |bq (β φ) (fn:Fn) (xs ys:Array Value) (ts us:List T) (hx:xs.size=ts.length) (hy:ys.size=us.length)
   (h:∀(i:Nat) (x:Value) (t:T),xs[i]? =some x→ts[i]? =some t→ak S w β φ x t)
   (k:∀(i:Nat) (x:Value) (t:T),ys[i]? =some x→us[i]? =some t→ak S w β φ x t):ak S w β φ (.func fn xs ys) (.bq fn ts us)
section
variable{S S':Nat→Nat→Prop}{w w':World}{β β':aX}{φ φ':bB}{x:Value}{t:T}
theorem ak.mono(h:ak S w β φ x t)(hS:∀b o,S b o→S' b o)(ju:∀s b,β s=some b→β' s=some b)(wN:∀k p,φ k=some p→φ' k=some p)
  (hw:∀b o,S b o→∀sp v,w.cell? ⟨b,o,sp⟩=some v→w'.cell? ⟨b,o,sp⟩=some v) (nZ:cg w w'):ak S' w' β' φ' x t:=by
 induction h generalizing β' φ' with
 |undef=>exact .undef ..
 |v=>exact .v ..
 |nil β φ g hg=>exact .nil _ _ g hg
 |sl β φ g a n c cs f cG hg hc h ih=>
  refine .sl β' φ' g a n c cs f cG ?_ (fun i hi=> ?_) (fun i t ht=>ih i t ht (fun _ _=>id) (fun _ _=>id))
  ·rcases hg with hg|hg|⟨k,e,hg,hk|hk⟩
   ·exact .inl hg
   ·exact .inr (.inl hg)
   ·exact .inr (.inr ⟨k,e,hg,.inl (wN _ _ hk)⟩)
   ·exact .inr (.inr ⟨k,e,hg,.inr hk⟩)
  ·obtain⟨h1,h2,h3⟩:=hc i hi
   refine⟨hS _ _ h1, ?_,h3⟩
   have e1:a.add i=⟨a.block,a.off+i,(a.add i).spot⟩:=by unfold Addr.add;split<;>simp_all
   rw[e1]at h2⊢
   exact hw _ _ h1 _ _ h2
 |ptr β φ a cs off f hc h ih=>
  refine .ptr β' φ' a cs off f (fun i hi=> ?_) (fun i t ht=>ih i t ht (fun _ _=>id) (fun _ _=>id))
  obtain⟨h1,h2,h3⟩:=hc i hi
  refine⟨hS _ _ h1, ?_,h3⟩
  have e1:a.add i=⟨a.block,a.off+i,(a.add i).spot⟩:=by unfold Addr.add;split<;>simp_all
  rw[e1]at h2⊢
  exact hw _ _ h1 _ _ h2
 |ref β φ s off b hb hp=>exact .ref _ _ _ _ _ (ju _ _ hb) hp
 |au β φ s off n m b c hb hp hn hz=>exact .au _ _ _ _ _ _ _ _ (ju _ _ hb) hp hn (hz.grows nZ)
 |iv=>exact .iv ..
 |aQ β φ s b hb hp=>exact .aQ _ _ _ _ (ju _ _ hb) hp
 |agg β φ xs ts hl h1 h ih=>exact .agg _ _ _ _ hl h1 fun i x t hx ht=>ih i x t hx ht ju wN
 |al β φ xs ts hl h ih=>exact .al _ _ _ _ hl fun i x t hx ht=>ih i x t hx ht ju wN
 |bq β φ fn xs ys ts us hx hy h k ih ik=>exact .bq _ _ _ _ _ _ _ hx hy (fun i x t hx ht=>ih i x t hx ht ju wN) (fun i x t hx ht=>ik i x t hx ht ju wN)
theorem ak.of_closed(h:ak S w β φ x t)(hc:t.closed=true):ak S w β' φ' x t:=by
 induction h with
 |undef=>exact .undef ..
 |v=>exact .v ..
 |nil β φ g hg=>exact .nil _ _ g hg
 |sl β φ g a n c cs f cG hg aF h ih=>
  refine .sl _ _ g a n c cs f cG ?_ aF h
  rcases hg with hg|hg|⟨k,e,rfl,hk⟩
  ·exact .inl hg
  ·exact .inr (.inl hg)
  ·simp[T.closed]at hc
 |ptr β φ a cs off f aF h ih=>exact .ptr _ _ a cs off f aF h
 |ref=>simp[T.closed]at hc
 |au=>simp[T.closed]at hc
 |iv=>simp[T.closed]at hc
 |aQ=>simp[T.closed]at hc
 |agg β φ xs ts hl h1 h ih=>
  simp only[T.closed,si,List.all_eq_true]at hc
  exact .agg _ _ _ _ hl h1 fun i x t hx ht=>ih i x t hx ht (hc t (List.mem_of_getElem? ht))
 |al β φ xs ts hl h ih=>
  simp only[T.closed,si,List.all_eq_true]at hc
  exact .al _ _ _ _ hl fun i x t hx ht=>ih i x t hx ht (hc t (List.mem_of_getElem? ht))
 |bq β φ fn xs ys ts us hx hy h k ih ik=>
  simp only[T.closed,si,List.all_eq_true,Bool.and_eq_true]at hc
  exact .bq _ _ _ _ _ _ _ hx hy (fun i x t hx ht=>ih i x t hx ht (hc.1 t (List.mem_of_getElem? ht))) (fun i x t hx ht=>ik i x t hx ht (hc.2 t (List.mem_of_getElem? ht)))
theorem ak.aj{ρ η:Nat→Option Nat}(h:ak S w β φ x t)(ju:∀s s' b,ρ s=some s'→β s=some b→β' s'=some b)(hp:∀s s',ρ s=some s'→s'%2=s%2)
  (wN:∀k k' p,η k=some k'→φ k=some p→φ' k'=some p):ak S w β' φ' x (t.aj ρ η):=by
 induction h with
 |undef=>exact .undef ..
 |v=>simp only[T.aj];exact .v ..
 |nil β φ g hg=>
  cases g<;>simp only[T.aj]<;>try exact .nil _ _ _ hg
  split<;>exact .nil _ _ _ rfl
 |sl β φ g a n c cs f cG hg aF h ih=>
  rcases hg with(rfl|rfl)|⟨rfl,hg⟩|⟨k,e,rfl,hk⟩
  ·simp only[T.aj];exact .sl _ _ _ a n c cs f cG (.inl (.inl rfl)) aF h
  ·simp only[T.aj];exact .sl _ _ _ a n c cs f cG (.inl (.inr rfl)) aF h
  ·simp only[T.aj];exact .sl _ _ _ a n c cs f cG (.inr (.inl ⟨rfl,hg⟩)) aF h
  ·simp only[T.aj]
   cases he:η k with
   |none=>exact .sl _ _ _ a n c cs f cG (.inl (.inr rfl)) aF h
   |some k'=>exact .sl _ _ _ a n c cs f cG (.inr (.inr ⟨k',e,rfl,hk.imp (wN _ _ _ he) id⟩)) aF h
 |ptr β φ a cs off f aF h ih=>simp only[T.aj];exact .ptr _ _ a cs off f aF h
 |ref β φ s off b hb vu=>
  simp only[T.aj]
  cases hr:ρ s with
  |none=>exact .undef ..
  |some s'=>exact .ref _ _ _ _ _ (ju _ _ _ hr hb) (by rw[hp _ _ hr];exact vu)
 |au β φ s off n m b c hb vu hn hz=>
  simp only[T.aj]
  cases hr:ρ s with
  |none=>exact .undef ..
  |some s'=>exact .au _ _ _ _ _ _ _ _ (ju _ _ _ hr hb) (by rw[hp _ _ hr];exact vu) hn hz
 |iv β φ a s off m=>
  simp only[T.aj]
  cases hr:ρ s with
  |none=>exact .undef ..
  |some s'=>exact .iv ..
 |aQ β φ s b hb vu=>
  simp only[T.aj]
  cases hr:ρ s with
  |none=>exact .undef ..
  |some s'=>exact .aQ _ _ _ _ (ju _ _ _ hr hb) (by rw[hp _ _ hr];exact vu)
 |agg β φ xs ts hl h1 h ih=>
  simp only[T.aj,bu]
  refine .agg _ _ _ _ (by simpa using hl) h1 fun i x t hx ht=> ?_
  rw[List.getElem?_map]at ht
  obtain⟨u,hu,rfl⟩:=Option.map_eq_some_iff.1 ht
  exact ih i x u hx hu ju wN
 |al β φ xs ts hl h ih=>
  simp only[T.aj,bu]
  refine .al _ _ _ _ (by simpa using hl) fun i x t hx ht=> ?_
  rw[List.getElem?_map]at ht
  obtain⟨u,hu,rfl⟩:=Option.map_eq_some_iff.1 ht
  exact ih i x u hx hu ju wN
 |bq β φ fn xs ys ts us hx hy h k ih ik=>
  simp only[T.aj,bu]
  refine .bq _ _ _ _ _ _ _ (by simpa using hx) (by simpa using hy) (fun i x t hx ht=> ?_) (fun i x t hx ht=> ?_)
  ·rw[List.getElem?_map]at ht
   obtain⟨u,hu,rfl⟩:=Option.map_eq_some_iff.1 ht
   exact ih i x u hx hu ju wN
  ·rw[List.getElem?_map]at ht
   obtain⟨u,hu,rfl⟩:=Option.map_eq_some_iff.1 ht
   exact ik i x u hx hu ju wN
mutual
theorem Hk(d:Nat):∀t:T,t.strip d=t.aj some (fun k=>if hit d k then none else some k)
 | .sl (.own k e) n cs=>by simp only[T.strip,T.aj];split<;>rfl
 | .sl .nil n cs| .sl .any n cs| .sl .l9 n cs| .sl .clip n cs=>rfl
 | .agg ts=>by simp only[T.strip,T.aj,nM d ts]
 | .al ts=>by simp only[T.strip,T.aj,nM d ts]
 | .bq f a b=>by simp only[T.strip,T.aj,nM d a,nM d b]
 | .undef| .v _| .ptr _ _| .ref _ _| .au _ _ _ _| .aQ _=>rfl
theorem nM(d:Nat):∀ts:List T,stripL d ts=ah some (fun k=>if hit d k then none else some k) ts
 | []=>rfl
 |t::ts=>by simp only[stripL,ah,Hk d t,nM d ts]
end
theorem ak.strip(d:Nat)(h:ak S w β φ x t)(wN:∀k p,φ k=some p→hit d k=false→φ' k=some p):ak S w β φ' x (t.strip d):=by
 rw[Hk]
 refine h.aj (fun s s' b h1 h2=> ?_) (fun s s' h1=> ?_) fun k k' p h1 h2=> ?_
 ·simp only[Option.some.injEq]at h1;subst h1;exact h2
 ·simp only[Option.some.injEq]at h1;subst h1;rfl
 ·split at h1
  ·cases h1
  ·rename_i hh
   simp only[Option.some.injEq]at h1
   subst h1
   exact wN _ _ h2 (by simpa using hh)
theorem ak.ay{s:Nat}(h:ak S w β φ x t)(hn:t.ay s=true)(ju:∀s' b,s'≠s→β s'=some b→β' s'=some b):ak S w β' φ x t:=by
 induction h with
 |undef=>exact .undef ..
 |v=>exact .v ..
 |nil β φ g hg=>exact .nil _ _ g hg
 |sl β φ g a n c cs f cG hg aF h ih=>exact .sl _ _ g a n c cs f cG hg aF h
 |ptr β φ a cs off f aF h ih=>exact .ptr _ _ a cs off f aF h
 |ref β φ s' off b hb hp=>exact .ref _ _ _ _ _ (ju _ _ (by simpa [T.ay]using hn) hb) hp
 |au β φ s' off n m b c hb hp nK hz=>exact .au _ _ _ _ _ _ _ _ (ju _ _ (by simpa [T.ay]using hn) hb) hp nK hz
 |iv=>exact .iv ..
 |aQ β φ s' b hb hp=>exact .aQ _ _ _ _ (ju _ _ (by simpa [T.ay]using hn) hb) hp
 |agg β φ xs ts hl h1 h ih=>
  simp only[T.ay,qX,List.all_eq_true]at hn
  exact .agg _ _ _ _ hl h1 fun i x t hx ht=>ih i x t hx ht (hn t (List.mem_of_getElem? ht)) ju
 |al β φ xs ts hl h ih=>
  simp only[T.ay,qX,List.all_eq_true]at hn
  exact .al _ _ _ _ hl fun i x t hx ht=>ih i x t hx ht (hn t (List.mem_of_getElem? ht)) ju
 |bq β φ fn xs ys ts us hx hy h k ih ik=>
  simp only[T.ay,qX,List.all_eq_true,Bool.and_eq_true]at hn
  exact .bq _ _ _ _ _ _ _ hx hy (fun i x t hx ht=>ih i x t hx ht (hn.1 t (List.mem_of_getElem? ht)) ju) (fun i x t hx ht=>ik i x t hx ht (hn.2 t (List.mem_of_getElem? ht)) ju)
theorem FE(ts:List T):jx ts=ts.map T.cL:=by
 induction ts with
 |nil=>simp[jx]
 |cons t ts ih=>simp[jx,ih]
theorem ak.cL(h:ak S w β φ x t):ak S w β φ x t.cL:=by
 induction h with
 |sl _ _ g a n c cs f cG hg aF h ih=>simp only[T.cL];exact .sl _ _ _ a n c cs f cG (.inl (.inr rfl)) aF h
 |undef=>simp only[T.cL];exact .undef ..
 |v=>simp only[T.cL];exact .v ..
 |nil=>simp only[T.cL];exact .nil _ _ _ rfl
 |ptr _ _ a cs off f aF h ih=>simp only[T.cL];exact .ptr _ _ a cs off f aF h
 |ref _ _ s off b hb hp=>simp only[T.cL];exact .ref _ _ _ _ _ hb hp
 |au _ _ s off n m b c hb hp hn hz=>simp only[T.cL];exact .au _ _ _ _ _ _ _ _ hb hp hn hz
 |iv=>simp only[T.cL];exact .iv ..
 |aQ _ _ s b hb hp=>simp only[T.cL];exact .aQ _ _ _ _ hb hp
 |agg _ _ xs ts hl h1 h ih=>
  simp only[T.cL,FE]
  refine .agg _ _ _ _ (by simpa using hl) h1 fun i x t hx ht=> ?_
  rw[List.getElem?_map]at ht
  obtain⟨u,hu,rfl⟩:=Option.map_eq_some_iff.1 ht
  exact ih i x u hx hu
 |al _ _ xs ts hl h ih=>
  simp only[T.cL,FE]
  refine .al _ _ _ _ (by simpa using hl) fun i x t hx ht=> ?_
  rw[List.getElem?_map]at ht
  obtain⟨u,hu,rfl⟩:=Option.map_eq_some_iff.1 ht
  exact ih i x u hx hu
 |bq _ _ fn xs ys ts us hx hy h k ih ik=>
  simp only[T.cL,FE]
  refine .bq _ _ _ _ _ _ _ (by simpa using hx) (by simpa using hy) (fun i x t hx ht=> ?_) (fun i x t hx ht=> ?_)
  ·rw[List.getElem?_map]at ht
   obtain⟨u,hu,rfl⟩:=Option.map_eq_some_iff.1 ht
   exact ih i x u hx hu
  ·rw[List.getElem?_map]at ht
   obtain⟨u,hu,rfl⟩:=Option.map_eq_some_iff.1 ht
   exact ik i x u hx hu
theorem ak.fG(h:ak S w β φ x t):ak S w β φ x t.fG:=by
 unfold T.fG
 split
 ·exact h
 ·exact h.cL
theorem ak.one(h:ak S w β φ x t)(ho:t.one=true):x.oneCell'=true:=by
 cases h<;>simp_all [T.one,Value.oneCell']
end
structure di where
 w:World
 X:Nat→Prop
 nb:Nat
 β0:aX
 m0:Nat
structure N9(B:di)(w:World):Prop where
 os:w.os=B.w.os
 tape:w.tape=B.w.tape
 output:w.output=B.w.output
 size:B.w.heap.size≤w.heap.size
 lt:∀k,B.X k→k< B.w.heap.size
 block:∀k,B.X k→w.heap[k]? =B.w.heap[k]?
 room:cg B.w w
theorem N9.step{B:di}{w w':World}{row:Option Nat}(h:N9 B w)(hg:w.grownBy w' row)(hr:∀k,row=some k→¬B.X k)(nZ:cg w w'):N9 B w':=
 ⟨hg.os.trans h.os,hg.tape.trans h.tape,hg.output.trans h.output,Nat.le_trans h.size hg.size,h.lt,fun k hk=>
  (hg.block k (by have:=h.lt k hk;have:=h.size;omega) (fun e=>hr k e.symm hk)).trans (h.block k hk),h.room.trans nZ⟩
def uE(w:World)(base _e sz:Nat)(v:Value)(n:Nat)(xs:List Value):Prop:=
 xs.length=n*sz∧((v= .slice none 0 0∧n=0)∨∃g cap cur e',v= .slice (some ⟨g,0,none⟩) n cap∧base≤g∧w.heap[g]? =some (.cells cur e' (0,0))∧n≤cap∧cap*sz≤cur.size∧cur.toList.take (n*sz)=xs)
theorem Bo{w:World}{base e sz:Nat}{v:Value}{n:Nat}{xs:List Value}(h:w.ownsRow base e sz v n xs):uE w base e sz v n xs:=by
 refine⟨h.1, ?_⟩
 rcases h.2 with h2|⟨g,cap,cur,h1,h2,h3,h4,_,h5,h6⟩
 ·exact .inl h2
 ·exact .inr ⟨g,cap,cur,e,h1,h2,h3,h4,Nat.le_of_eq h5.symm,h6⟩
theorem uE.lt{w:World}{base e sz:Nat}{v:Value}{n:Nat}{xs:List Value}(h:uE w base e sz v n xs):∀k,v.ownBlock=some k→base≤k∧k< w.heap.size:=by
 intro k hk
 rcases h.2 with⟨rfl,_⟩|⟨g,cap,cur,e',rfl,hb,hg,_⟩
 ·simp[Value.ownBlock]at hk
 ·simp[Value.ownBlock]at hk
  subst hk
  exact⟨hb,(Array.getElem?_eq_some_iff.1 hg).1⟩
theorem uE.kept{w w':World}{base e sz:Nat}{v:Value}{n:Nat}{xs:List Value}{row:Option Nat}(h:uE w base e sz v n xs)(hg:w.grownBy w' row)(hne:v.ownBlock=none∨v.ownBlock≠row):uE w' base e sz v n xs:=by
 refine⟨h.1, ?_⟩
 rcases h.2 with hn|⟨g,cap,cur,e',rfl,hb,hgg,rest⟩
 ·exact .inl hn
 ·refine .inr ⟨g,cap,cur,e',rfl,hb, ?_,rest⟩
  rw[hg.block g (Array.getElem?_eq_some_iff.1 hgg).1 (by simpa [Value.ownBlock]using hne)]
  exact hgg
theorem uE.cells{w:World}{base e sz:Nat}{v:Value}{n:Nat}{xs:List Value}(h:uE w base e sz v n xs){g:Nat}(hg:v.ownBlock=some g):∀j u,xs[j]? =some u→w.cell? ((⟨g,0,none⟩:Addr).add j)=some u:=by
 intro j u hu
 rcases h.2 with⟨rfl,_⟩|⟨g',cap,cur,e',rfl,_,hgg,_,_,oD⟩
 ·simp[Value.ownBlock]at hg
 ·simp[Value.ownBlock]at hg
  subst hg
  have AU:(⟨g',0,none⟩:Addr).add j=⟨g',j,none⟩:=by unfold Addr.add;split<;>simp_all
  rw[AU,cell_of_row w g' j cur e' (0,0) hgg]
  rw[←oD,List.getElem?_take]at hu
  split at hu
  ·simpa using hu
  ·cases hu
def NZ(P:Program)(X:Nat→Prop)(S:Nat→Nat→Prop)(β:aX)(w:World)(x:Value)(e:TypeId):Prop:=
 ∃g n c sz xs i,x= .slice (some ⟨g,0,none⟩) n c∧P.info? e=some i∧i.size=sz∧uE w 0 e sz x n xs∧
  (∀o,S g o→o< n*sz)∧(∀s,β s≠some g)∧¬X g
def Sm(S:Nat→Nat→Prop)(w:World)(β:aX)(φ:bB)(b:Nat)(cs:List T):Prop:=
 ∃c e,w.heap[b]? =some (.cells c e (0,0))∧cs.length≤c.size∧(∀(i:Nat) (x:Value),i< cs.length→c[i]? =some x→x.oneCell'=true)∧
  ∀(i:Nat) (x:Value) (t:T),c[i]? =some x→cs[i]? =some t→ak S w β φ x t
inductive fZ(S:Nat→Nat→Prop)(w:World)(β:aX)(φ:bB):List MapEntry→List T→Prop
 |nil:fZ S w β φ [] []
 |cons (e:MapEntry) (es:List MapEntry) (k v:T) (ts:List T) (hk:ak S w β φ e.key k) (hv:ak S w β φ e.val v) (h:fZ S w β φ es ts):fZ S w β φ (e::es) (k::v::ts)
def NR(es:List MapEntry)(k:Nat):Prop:=(es.map (·.born)).Nodup∧∀x∈es,x.born< k
def MapAt(S:Nat→Nat→Prop)(w:World)(β:aX)(φ:bB)(b:Nat)(cs:List T):Prop:=
 ∃es k,w.heap[b]? =some (.map es k)∧fZ S w β φ es.toList cs∧NR es.toList k
def qW(S:Nat→Nat→Prop)(w:World)(β:aX)(φ:bB)(p b:Nat)(cs:List T):Prop:=
 (p=0→Sm S w β φ b cs)∧(p=1→MapAt S w β φ b cs)
theorem fZ.mono{S S':Nat→Nat→Prop}{w w':World}{β β':aX}{φ φ':bB}{adj:T→T}(hm:∀y u,ak S w β φ y u→ak S' w' β' φ' y (adj u)):
  ∀{es:List MapEntry} {ts:List T},fZ S w β φ es ts→fZ S' w' β' φ' es (ts.map adj)
 |_,_,.nil=> .nil
 |_,_,.cons e es k v ts hk hv h=> .cons e es _ _ _ (hm _ _ hk) (hm _ _ hv) (h.mono hm)
theorem qW.mono{S S':Nat→Nat→Prop}{w w':World}{β β':aX}{φ φ':bB}{p b:Nat}{cs:List T}{adj:T→T}(h:qW S w β φ p b cs)(hb:w'.heap[b]? =w.heap[b]?)
  (hm:∀y u,ak S w β φ y u→ak S' w' β' φ' y (adj u)):qW S' w' β' φ' p b (cs.map adj):=by
 refine⟨fun hp=> ?_,fun hp=> ?_⟩
 ·obtain⟨c,e,h1,h2,h3,h4⟩:=h.1 hp
  refine⟨c,e,hb.trans h1,by simpa using h2,fun i x hi=>h3 i x (by simpa using hi),fun i x t hx ht=> ?_⟩
  rw[List.getElem?_map]at ht
  obtain⟨u,hu,rfl⟩:=Option.map_eq_some_iff.1 ht
  exact hm _ _ (h4 i x u hx hu)
 ·obtain⟨es,k,h1,h2⟩:=h.2 hp
  exact⟨es,k,hb.trans h1,h2.1.mono hm,h2.2⟩
theorem qW.FP{S S':Nat→Nat→Prop}{w w':World}{β β':aX}{φ φ':bB}{p b:Nat}{cs:List T}(h:qW S w β φ p b cs)(hb:w'.heap[b]? =w.heap[b]?)
  (hm:∀y u,ak S w β φ y u→ak S' w' β' φ' y u):qW S' w' β' φ' p b cs:=by
 have:=h.mono (adj:=id) hb hm
 simpa using this
theorem qW.lt{S:Nat→Nat→Prop}{w:World}{β:aX}{φ:bB}{s b:Nat}{cs:List T}(h:qW S w β φ (s%2) b cs):b< w.heap.size:=by
 rcases(by omega:s%2=0∨s%2=1)with hp|hp
 ·obtain⟨_,_,h1,_⟩:=h.1 hp;exact(Array.getElem?_eq_some_iff.1 h1).1
 ·obtain⟨_,_,h1,_⟩:=h.2 hp;exact(Array.getElem?_eq_some_iff.1 h1).1
structure Inv(P:Program)(W:di)(S0 S:Nat→Nat→Prop)(β:aX)(φ:bB)(bx:List (Option (List T)))(w:World):Prop where
 below:N9 W w
 lt:∀b o,S b o→b< w.heap.size
 box:∀s b,β s=some b→¬W.X b∧(∀o,¬S b o)∧∃cs,bx[s]? =some (some cs)∧qW S w β φ (s%2) b cs
 boxed:∀s cs,bx[s]? =some (some cs)→cs=[]∨∃b,β s=some b
 inj:∀s s' b,β s=some b→β s'=some b→s=s'
 gm:∀k x e,φ k=some (x,e)→NZ P W.X S β w x e
 dS:∀k k' x x' e e',φ k=some (x,e)→φ k'=some (x',e')→k≠k'→x.ownBlock≠x'.ownBlock
 top:∀b o,S b o→S0 b o∨¬W.X b
 base:∀b o,S0 b o→S b o
 stay:∀b o,S0 b o→∀sp v,W.w.cell? ⟨b,o,sp⟩=some v→w.cell? ⟨b,o,sp⟩=some v
 pX:∀s b,W.nb≤s→W.β0 s=some b→β s=some b∨bx[s]? =some none
theorem Inv.wo{P:Program}{W:di}{w:World}{S0 S:Nat→Nat→Prop}{β:aX}{φ:bB}{bx:List (Option (List T))}(h:Inv P W S0 S β φ bx w){s b:Nat}(hb:β s=some b):b< w.heap.size:=by
 obtain⟨_,_,_,_,h3⟩:=h.box s b hb
 exact h3.lt
theorem Inv.Ic{P:Program}{W:di}{w:World}{S0 S:Nat→Nat→Prop}{β:aX}{φ:bB}{bx:List (Option (List T))}(h:Inv P W S0 S β φ bx w){k g:Nat}{x:Value}{e:TypeId}(hk:φ k=some (x,e))(hg:x.ownBlock=some g):g< w.heap.size:=by
 obtain⟨_,_,_,_,_,_,_,_,_,ho,_⟩:=h.gm k x e hk
 exact(ho.lt g hg).2
theorem Inv.grow{P:Program}{W:di}{w w':World}{S0 S:Nat→Nat→Prop}{β:aX}{φ:bB}{bx:List (Option (List T))}(h:Inv P W S0 S β φ bx w)
  (hb:Below w.heap.size w w'):Inv P W S0 S β φ bx w':=by
 have ey:∀b o,S b o→∀sp v,w.cell? ⟨b,o,sp⟩=some v→w'.cell? ⟨b,o,sp⟩=some v:=fun b o hs sp v hv=>(hb.cell (p:=⟨b,o,sp⟩) (h.lt _ _ hs)).trans hv
 have hsz:=hb.size
 refine⟨?_,fun b o hs=>by have:=h.lt b o hs;omega, ?_,h.boxed,h.inj, ?_,h.dS,h.top,h.base,fun b o h0 sp v hv=>ey b o (h.base b o h0) sp v (h.stay b o h0 sp v hv),h.pX⟩
 ·exact h.below.step (row:=none) ⟨hb.os,hb.tape,hb.output,hb.size,fun j hj _=>hb.block j hj⟩ (fun k e=>by cases e) (iF hb.block)
 ·intro s b hs
  obtain⟨h1,h2,cs,h3,h4⟩:=h.box s b hs
  exact⟨h1,h2,cs,h3,h4.FP (hb.block b h4.lt) fun y u hr=>hr.mono (fun _ _=>id) (fun _ _=>id) (fun _ _=>id) ey (iF hb.block)⟩
 ·intro k x e hk
  obtain⟨g,n,c,sz,xs,i,rfl,hi,xH,ho,h1,h2⟩:=h.gm k x e hk
  exact⟨g,n,c,sz,xs,i,rfl,hi,xH,ho.kept (row:=none) ⟨hb.os,hb.tape,hb.output,hb.size,fun j hj _=>hb.block j hj⟩ (.inr (by simp[Value.ownBlock])),h1,h2⟩
theorem ak.grow{S:Nat→Nat→Prop}{w w':World}{β:aX}{φ:bB}{x:Value}{t:T}(h:ak S w β φ x t)(hlt:∀b o,S b o→b< w.heap.size)
  (hb:Below w.heap.size w w'):ak S w' β φ x t:=
 h.mono (fun _ _=>id) (fun _ _=>id) (fun _ _=>id) (fun b o hs sp _ hv=>(hb.cell (p:=⟨b,o,sp⟩) (hlt _ _ hs)).trans hv) (iF hb.block)
end Go.Vi
end
