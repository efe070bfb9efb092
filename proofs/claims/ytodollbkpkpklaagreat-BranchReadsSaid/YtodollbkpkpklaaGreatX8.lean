/-
  A claim's own text, joined by a small program out of: Vj2.
-/
import Derived.Test.YtodollbkpkpklaaGreatX1
import Derived.Laws.AppendOwn
import Derived.Laws.OwnMore
import Derived.RowKit3
set_option linter.unusedVariables false
set_option linter.unusedSimpArgs false
section
namespace Go.Vi
open Go Go.RowKit
theorem aF(d:Nat)(ts:List T):stripL d ts=ts.map (T.strip d):=by
 induction ts with
 |nil=>simp[stripL]
 |cons t ts ih=>simp[stripL,ih]
theorem qL(s:Nat)(ts:List T):aR s ts=ts.all (T.ay s):=by
 induction ts with
 |nil=>simp[aR]
 |cons t ts ih=>simp[aR,ih]
theorem rR(ts:List T):bn ts=ts.all T.closed:=by
 induction ts with
 |nil=>simp[bn]
 |cons t ts ih=>simp[bn,ih]
theorem vH(ts:List T):bc ts=ts.any T.aV:=by
 induction ts with
 |nil=>simp[bc]
 |cons t ts ih=>simp[bc,ih]
theorem br(ρ η:Nat→Option Nat)(ts:List T):ai ρ η ts=ts.map (T.al ρ η):=by
 induction ts with
 |nil=>simp[ai]
 |cons t ts ih=>simp[ai,ih]
theorem yn(xs:List Value):ofValues xs=xs.map ofValue:=by
 induction xs with
 |nil=>simp[ofValues]
 |cons t ts ih=>simp[ofValues,ih]
abbrev aY:=Nat→Option Nat
abbrev bw:=Nat→Option (Value×TypeId)
def bj:aY:=fun _=>none
def cz:bw:=fun _=>none
def Tag.Nf:Tag→Bool
 | .lP=>false
 |_=>true
def rO(w:World)(b k:Nat):Prop:=∃cc e,w.heap[b]? =some (.cells cc e (0,0))∧k≤cc.size
def cg(w w':World):Prop:=∀b k,rO w b k→rO w' b k
theorem cg.refl(w:World):cg w w:=fun _ _ h=>h
theorem cg.trans{w w' AP:World}(h:cg w w')(k:cg w' AP):cg w AP:=fun b n hb=>k b n (h b n hb)
theorem iw{w w':World}(h:∀b,b< w.heap.size→w'.heap[b]? =w.heap[b]?):cg w w':=fun b k ⟨cc,e,h1,h2⟩=>⟨cc,e,(h b (Array.getElem?_eq_some_iff.1 h1).1).trans h1,h2⟩
theorem jW{w w':World}{g:Nat}(h:∀b,b< w.heap.size→b≠g→w'.heap[b]? =w.heap[b]?)(hg:∀k,rO w g k→rO w' g k):cg w w':=fun b k hb=>by
 by_cases he:b=g
 ·subst he;exact hg k hb
 ·obtain⟨cc,e,h1,h2⟩:=hb
  exact⟨cc,e,(h b (Array.getElem?_eq_some_iff.1 h1).1 he).trans h1,h2⟩
def BQ(w:World)(b off n m c:Nat):Prop:=(0< n→∀sz,m=n*sz→rO w b (off+c*sz))∧(n=0→m=0→c=0)∧(n=0→∀sz,0< sz→m=1+sz→rO w b (off+c*sz))
theorem BQ.grows{w w':World}{b off n m c:Nat}(h:BQ w b off n m c)(hg:cg w w'):BQ w' b off n m c:=⟨fun hn sz hm=>hg _ _ (h.1 hn sz hm),h.2.1,fun hn sz hs hm=>hg _ _ (h.2.2 hn sz hs hm)⟩
inductive ak(S:Nat→Nat→Prop)(w:World):aY→bw→Value→T→Prop
 |undef (β φ x):ak S w β φ x .undef
 |v (β φ x):ak S w β φ x (.v x)
 |nil (β φ) (g:Tag) (hg:g.Nf=true):ak S w β φ (.slice none 0 0) (.sl g 0 [])
 |sl (β φ) (g:Tag) (a:Addr) (n c:Nat) (cs:List T) (f:Nat→Value) (cF:n≤c)
   (hg:(g= .lP∨g= .any)∨(g= .clip∧c=n)∨∃k e,g= .own k e∧(φ k=some (.slice (some a) n c,e)∨(n=0∧c=0∧cs=[])))
   (hc:∀i,i< cs.length→S a.block (a.off+i)∧w.cell? (a.add i)=some (f i)∧(f i).oneCell'=true)
   (h:∀(i:Nat) (t:T),cs[i]? =some t→ak S w bj cz (f i) t):ak S w β φ (.slice (some a) n c) (.sl g n cs)
 |ptr (β φ) (a:Addr) (cs:List T) (off:Nat) (f:Nat→Value)
   (hc:∀i,i< cs.length→S a.block (a.off+i)∧w.cell? (a.add i)=some (f i)∧(f i).oneCell'=true)
   (h:∀(i:Nat) (t:T),cs[i]? =some t→ak S w bj cz (f i) t):ak S w β φ (.pointer (some (a.add off))) (.ptr cs off)
 |ref (β φ) (s off b:Nat) (hb:β s=some b) (hp:s%2=0):ak S w β φ (.pointer (some ⟨b,off,none⟩)) (.ref s off)
 |av (β φ) (s off n m b c:Nat) (hb:β s=some b) (hp:s%2=0) (hn:n≤c) (hz:BQ w b off n m c):ak S w β φ (.slice (some ⟨b,off,none⟩) n c) (.av s off n m)
 |gX (β φ) (a:Option Addr) (s off m:Nat):ak S w β φ (.slice a 0 0) (.av s off 0 m)
 |aQ (β φ) (s b:Nat) (hb:β s=some b) (hp:s%2=1):ak S w β φ (.map (some b)) (.aQ s)
 |agg (β φ) (xs:Array Value) (ts:List T) (hl:xs.size=ts.length) (h1:∀(i:Nat) (x:Value),xs[i]? =some x→x.oneCell'=true)
   (h:∀(i:Nat) (x:Value) (t:T),xs[i]? =some x→ts[i]? =some t→ak S w β φ x t):ak S w β φ (.agg xs) (.agg ts)
 |an (β φ) (xs:Array Value) (ts:List T) (hl:xs.size=ts.length)
   (h:∀(i:Nat) (x:Value) (t:T),xs[i]? =some x→ts[i]? =some t→ak S w β φ x t):ak S w β φ (.tuple xs) (.an ts)
 |bB (β φ) (fn:Fn) (xs ys:Array Value) (ts us:List T) (hx:xs.size=ts.length) (hy:ys.size=us.length)
   (h:∀(i:Nat) (x:Value) (t:T),xs[i]? =some x→ts[i]? =some t→ak S w β φ x t)
   (k:∀(i:Nat) (x:Value) (t:T),ys[i]? =some x→us[i]? =some t→ak S w β φ x t):ak S w β φ (.func fn xs ys) (.bB fn ts us)
section
variable{S S':Nat→Nat→Prop}{w w':World}{β β':aY}{φ φ':bw}{x:Value}{t:T}
theorem ak.mono(h:ak S w β φ x t)(hS:∀b o,S b o→S' b o)(jh:∀s b,β s=some b→β' s=some b)(vT:∀k p,φ k=some p→φ' k=some p)
  (hw:∀b o,S b o→∀sp v,w.cell? ⟨b,o,sp⟩=some v→w'.cell? ⟨b,o,sp⟩=some v) (nK:cg w w'):ak S' w' β' φ' x t:=by
 induction h generalizing β' φ' with
 |undef=>exact .undef ..
 |v=>exact .v ..
 |nil β φ g hg=>exact .nil _ _ g hg
 |sl β φ g a n c cs f cF hg hc h ih=>
  refine .sl β' φ' g a n c cs f cF ?_ (fun i hi=> ?_) (fun i t ht=>ih i t ht (fun _ _=>id) (fun _ _=>id))
  ·rcases hg with hg|hg|⟨k,e,hg,hk|hk⟩
   ·exact .inl hg
   ·exact .inr (.inl hg)
   ·exact .inr (.inr ⟨k,e,hg,.inl (vT _ _ hk)⟩)
   ·exact .inr (.inr ⟨k,e,hg,.inr hk⟩)
  ·obtain⟨h1,h2,h3⟩:=hc i hi
   refine⟨hS _ _ h1, ?_,h3⟩
   have e1:a.add i=⟨a.block,a.off+i,(a.add i).spot⟩:=by unfold Addr.add;split<;>simp_all
   rw[e1]at h2⊢
   exact hw _ _ h1 _ _ h2
 |ptr β φ a cs off f hc h ih=>
  refine .ptr β' φ' a cs off f (fun i hi=> ?_) (fun i t ht=>ih i t ht (fun _ _=>id) (fun _ _=>id))
  obtain⟨h1,h2,h3⟩:=hc i hi
  refine⟨hS _ _ h1, ?_,h3⟩
  have e1:a.add i=⟨a.block,a.off+i,(a.add i).spot⟩:=by unfold Addr.add;split<;>simp_all
  rw[e1]at h2⊢
  exact hw _ _ h1 _ _ h2
 |ref β φ s off b hb hp=>exact .ref _ _ _ _ _ (jh _ _ hb) hp
 |av β φ s off n m b c hb hp hn hz=>exact .av _ _ _ _ _ _ _ _ (jh _ _ hb) hp hn (hz.grows nK)
 |gX=>exact .gX ..
 |aQ β φ s b hb hp=>exact .aQ _ _ _ _ (jh _ _ hb) hp
 |agg β φ xs ts hl h1 h ih=>exact .agg _ _ _ _ hl h1 fun i x t hx ht=>ih i x t hx ht jh vT
 |an β φ xs ts hl h ih=>exact .an _ _ _ _ hl fun i x t hx ht=>ih i x t hx ht jh vT
 |bB β φ fn xs ys ts us hx hy h k ih ik=>exact .bB _ _ _ _ _ _ _ hx hy (fun i x t hx ht=>ih i x t hx ht jh vT) (fun i x t hx ht=>ik i x t hx ht jh vT)
theorem ak.of_closed(h:ak S w β φ x t)(hc:t.closed=true):ak S w β' φ' x t:=by
 induction h with
 |undef=>exact .undef ..
 |v=>exact .v ..
 |nil β φ g hg=>exact .nil _ _ g hg
 |sl β φ g a n c cs f cF hg aG h ih=>
  refine .sl _ _ g a n c cs f cF ?_ aG h
  rcases hg with hg|hg|⟨k,e,rfl,hk⟩
  ·exact .inl hg
  ·exact .inr (.inl hg)
  ·simp[T.closed]at hc
 |ptr β φ a cs off f aG h ih=>exact .ptr _ _ a cs off f aG h
 |ref=>simp[T.closed]at hc
 |av=>simp[T.closed]at hc
 |gX=>simp[T.closed]at hc
 |aQ=>simp[T.closed]at hc
 |agg β φ xs ts hl h1 h ih=>
  simp only[T.closed,rR,List.all_eq_true]at hc
  exact .agg _ _ _ _ hl h1 fun i x t hx ht=>ih i x t hx ht (hc t (List.mem_of_getElem? ht))
 |an β φ xs ts hl h ih=>
  simp only[T.closed,rR,List.all_eq_true]at hc
  exact .an _ _ _ _ hl fun i x t hx ht=>ih i x t hx ht (hc t (List.mem_of_getElem? ht))
 |bB β φ fn xs ys ts us hx hy h k ih ik=>
  simp only[T.closed,rR,List.all_eq_true,Bool.and_eq_true]at hc
  exact .bB _ _ _ _ _ _ _ hx hy (fun i x t hx ht=>ih i x t hx ht (hc.1 t (List.mem_of_getElem? ht))) (fun i x t hx ht=>ik i x t hx ht (hc.2 t (List.mem_of_getElem? ht)))
theorem ak.al{ρ η:Nat→Option Nat}(h:ak S w β φ x t)(jh:∀s s' b,ρ s=some s'→β s=some b→β' s'=some b)(hp:∀s s',ρ s=some s'→s'%2=s%2)
  (vT:∀k k' p,η k=some k'→φ k=some p→φ' k'=some p):ak S w β' φ' x (t.al ρ η):=by
 induction h with
 |undef=>exact .undef ..
 |v=>simp only[T.al];exact .v ..
 |nil β φ g hg=>
  cases g<;>simp only[T.al]<;>try exact .nil _ _ _ hg
  split<;>exact .nil _ _ _ rfl
 |sl β φ g a n c cs f cF hg aG h ih=>
  rcases hg with(rfl|rfl)|⟨rfl,hg⟩|⟨k,e,rfl,hk⟩
  ·simp only[T.al];exact .sl _ _ _ a n c cs f cF (.inl (.inl rfl)) aG h
  ·simp only[T.al];exact .sl _ _ _ a n c cs f cF (.inl (.inr rfl)) aG h
  ·simp only[T.al];exact .sl _ _ _ a n c cs f cF (.inr (.inl ⟨rfl,hg⟩)) aG h
  ·simp only[T.al]
   cases he:η k with
   |none=>exact .sl _ _ _ a n c cs f cF (.inl (.inr rfl)) aG h
   |some k'=>exact .sl _ _ _ a n c cs f cF (.inr (.inr ⟨k',e,rfl,hk.imp (vT _ _ _ he) id⟩)) aG h
 |ptr β φ a cs off f aG h ih=>simp only[T.al];exact .ptr _ _ a cs off f aG h
 |ref β φ s off b hb u4=>
  simp only[T.al]
  cases hr:ρ s with
  |none=>exact .undef ..
  |some s'=>exact .ref _ _ _ _ _ (jh _ _ _ hr hb) (by rw[hp _ _ hr];exact u4)
 |av β φ s off n m b c hb u4 hn hz=>
  simp only[T.al]
  cases hr:ρ s with
  |none=>exact .undef ..
  |some s'=>exact .av _ _ _ _ _ _ _ _ (jh _ _ _ hr hb) (by rw[hp _ _ hr];exact u4) hn hz
 |gX β φ a s off m=>
  simp only[T.al]
  cases hr:ρ s with
  |none=>exact .undef ..
  |some s'=>exact .gX ..
 |aQ β φ s b hb u4=>
  simp only[T.al]
  cases hr:ρ s with
  |none=>exact .undef ..
  |some s'=>exact .aQ _ _ _ _ (jh _ _ _ hr hb) (by rw[hp _ _ hr];exact u4)
 |agg β φ xs ts hl h1 h ih=>
  simp only[T.al,br]
  refine .agg _ _ _ _ (by simpa using hl) h1 fun i x t hx ht=> ?_
  rw[List.getElem?_map]at ht
  obtain⟨u,hu,rfl⟩:=Option.map_eq_some_iff.1 ht
  exact ih i x u hx hu jh vT
 |an β φ xs ts hl h ih=>
  simp only[T.al,br]
  refine .an _ _ _ _ (by simpa using hl) fun i x t hx ht=> ?_
  rw[List.getElem?_map]at ht
  obtain⟨u,hu,rfl⟩:=Option.map_eq_some_iff.1 ht
  exact ih i x u hx hu jh vT
 |bB β φ fn xs ys ts us hx hy h k ih ik=>
  simp only[T.al,br]
  refine .bB _ _ _ _ _ _ _ (by simpa using hx) (by simpa using hy) (fun i x t hx ht=> ?_) (fun i x t hx ht=> ?_)
  ·rw[List.getElem?_map]at ht
   obtain⟨u,hu,rfl⟩:=Option.map_eq_some_iff.1 ht
   exact ih i x u hx hu jh vT
  ·rw[List.getElem?_map]at ht
   obtain⟨u,hu,rfl⟩:=Option.map_eq_some_iff.1 ht
   exact ik i x u hx hu jh vT
mutual
theorem GV(d:Nat):∀t:T,t.strip d=t.al some (fun k=>if hit d k then none else some k)
 | .sl (.own k e) n cs=>by simp only[T.strip,T.al];split<;>rfl
 | .sl .nil n cs| .sl .any n cs| .sl .lP n cs| .sl .clip n cs=>rfl
 | .agg ts=>by simp only[T.strip,T.al,ny d ts]
 | .an ts=>by simp only[T.strip,T.al,ny d ts]
 | .bB f a b=>by simp only[T.strip,T.al,ny d a,ny d b]
 | .undef| .v _| .ptr _ _| .ref _ _| .av _ _ _ _| .aQ _=>rfl
theorem ny(d:Nat):∀ts:List T,stripL d ts=ai some (fun k=>if hit d k then none else some k) ts
 | []=>rfl
 |t::ts=>by simp only[stripL,ai,GV d t,ny d ts]
end
theorem ak.strip(d:Nat)(h:ak S w β φ x t)(vT:∀k p,φ k=some p→hit d k=false→φ' k=some p):ak S w β φ' x (t.strip d):=by
 rw[GV]
 refine h.al (fun s s' b h1 h2=> ?_) (fun s s' h1=> ?_) fun k k' p h1 h2=> ?_
 ·simp only[Option.some.injEq]at h1;subst h1;exact h2
 ·simp only[Option.some.injEq]at h1;subst h1;rfl
 ·split at h1
  ·cases h1
  ·rename_i hh
   simp only[Option.some.injEq]at h1
   subst h1
   exact vT _ _ h2 (by simpa using hh)
theorem ak.ay{s:Nat}(h:ak S w β φ x t)(hn:t.ay s=true)(jh:∀s' b,s'≠s→β s'=some b→β' s'=some b):ak S w β' φ x t:=by
 induction h with
 |undef=>exact .undef ..
 |v=>exact .v ..
 |nil β φ g hg=>exact .nil _ _ g hg
 |sl β φ g a n c cs f cF hg aG h ih=>exact .sl _ _ g a n c cs f cF hg aG h
 |ptr β φ a cs off f aG h ih=>exact .ptr _ _ a cs off f aG h
 |ref β φ s' off b hb hp=>exact .ref _ _ _ _ _ (jh _ _ (by simpa [T.ay]using hn) hb) hp
 |av β φ s' off n m b c hb hp nv hz=>exact .av _ _ _ _ _ _ _ _ (jh _ _ (by simpa [T.ay]using hn) hb) hp nv hz
 |gX=>exact .gX ..
 |aQ β φ s' b hb hp=>exact .aQ _ _ _ _ (jh _ _ (by simpa [T.ay]using hn) hb) hp
 |agg β φ xs ts hl h1 h ih=>
  simp only[T.ay,qL,List.all_eq_true]at hn
  exact .agg _ _ _ _ hl h1 fun i x t hx ht=>ih i x t hx ht (hn t (List.mem_of_getElem? ht)) jh
 |an β φ xs ts hl h ih=>
  simp only[T.ay,qL,List.all_eq_true]at hn
  exact .an _ _ _ _ hl fun i x t hx ht=>ih i x t hx ht (hn t (List.mem_of_getElem? ht)) jh
 |bB β φ fn xs ys ts us hx hy h k ih ik=>
  simp only[T.ay,qL,List.all_eq_true,Bool.and_eq_true]at hn
  exact .bB _ _ _ _ _ _ _ hx hy (fun i x t hx ht=>ih i x t hx ht (hn.1 t (List.mem_of_getElem? ht)) jh) (fun i x t hx ht=>ik i x t hx ht (hn.2 t (List.mem_of_getElem? ht)) jh)
theorem E8(ts:List T):jk ts=ts.map T.cH:=by
 induction ts with
 |nil=>simp[jk]
 |cons t ts ih=>simp[jk,ih]
theorem ak.cH(h:ak S w β φ x t):ak S w β φ x t.cH:=by
 induction h with
 |sl _ _ g a n c cs f cF hg aG h ih=>simp only[T.cH];exact .sl _ _ _ a n c cs f cF (.inl (.inr rfl)) aG h
 |undef=>simp only[T.cH];exact .undef ..
 |v=>simp only[T.cH];exact .v ..
 |nil=>simp only[T.cH];exact .nil _ _ _ rfl
 |ptr _ _ a cs off f aG h ih=>simp only[T.cH];exact .ptr _ _ a cs off f aG h
 |ref _ _ s off b hb hp=>simp only[T.cH];exact .ref _ _ _ _ _ hb hp
 |av _ _ s off n m b c hb hp hn hz=>simp only[T.cH];exact .av _ _ _ _ _ _ _ _ hb hp hn hz
 |gX=>simp only[T.cH];exact .gX ..
 |aQ _ _ s b hb hp=>simp only[T.cH];exact .aQ _ _ _ _ hb hp
 |agg _ _ xs ts hl h1 h ih=>
  simp only[T.cH,E8]
  refine .agg _ _ _ _ (by simpa using hl) h1 fun i x t hx ht=> ?_
  rw[List.getElem?_map]at ht
  obtain⟨u,hu,rfl⟩:=Option.map_eq_some_iff.1 ht
  exact ih i x u hx hu
 |an _ _ xs ts hl h ih=>
  simp only[T.cH,E8]
  refine .an _ _ _ _ (by simpa using hl) fun i x t hx ht=> ?_
  rw[List.getElem?_map]at ht
  obtain⟨u,hu,rfl⟩:=Option.map_eq_some_iff.1 ht
  exact ih i x u hx hu
 |bB _ _ fn xs ys ts us hx hy h k ih ik=>
  simp only[T.cH,E8]
  refine .bB _ _ _ _ _ _ _ (by simpa using hx) (by simpa using hy) (fun i x t hx ht=> ?_) (fun i x t hx ht=> ?_)
  ·rw[List.getElem?_map]at ht
   obtain⟨u,hu,rfl⟩:=Option.map_eq_some_iff.1 ht
   exact ih i x u hx hu
  ·rw[List.getElem?_map]at ht
   obtain⟨u,hu,rfl⟩:=Option.map_eq_some_iff.1 ht
   exact ik i x u hx hu
theorem ak.fx(h:ak S w β φ x t):ak S w β φ x t.fx:=by
 unfold T.fx
 split
 ·exact h
 ·exact h.cH
theorem ak.one(h:ak S w β φ x t)(ho:t.one=true):x.oneCell'=true:=by
 cases h<;>simp_all [T.one,Value.oneCell']
end
structure dg where
 w:World
 X:Nat→Prop
 nb:Nat
 β0:aY
 m0:Nat
structure NK(B:dg)(w:World):Prop where
 os:w.os=B.w.os
 tape:w.tape=B.w.tape
 output:w.output=B.w.output
 size:B.w.heap.size≤w.heap.size
 lt:∀k,B.X k→k< B.w.heap.size
 block:∀k,B.X k→w.heap[k]? =B.w.heap[k]?
 room:cg B.w w
theorem NK.step{B:dg}{w w':World}{row:Option Nat}(h:NK B w)(hg:w.grownBy w' row)(hr:∀k,row=some k→¬B.X k)(nK:cg w w'):NK B w':=
 ⟨hg.os.trans h.os,hg.tape.trans h.tape,hg.output.trans h.output,Nat.le_trans h.size hg.size,h.lt,fun k hk=>
  (hg.block k (by have:=h.lt k hk;have:=h.size;omega) (fun e=>hr k e.symm hk)).trans (h.block k hk),h.room.trans nK⟩
def tZ(w:World)(base _e sz:Nat)(v:Value)(n:Nat)(xs:List Value):Prop:=
 xs.length=n*sz∧((v= .slice none 0 0∧n=0)∨∃g cap cur e',v= .slice (some ⟨g,0,none⟩) n cap∧base≤g∧w.heap[g]? =some (.cells cur e' (0,0))∧n≤cap∧cap*sz≤cur.size∧cur.toList.take (n*sz)=xs)
theorem AQ{w:World}{base e sz:Nat}{v:Value}{n:Nat}{xs:List Value}(h:w.ownsRow base e sz v n xs):tZ w base e sz v n xs:=by
 refine⟨h.1, ?_⟩
 rcases h.2 with h2|⟨g,cap,cur,h1,h2,h3,h4,_,h5,h6⟩
 ·exact .inl h2
 ·exact .inr ⟨g,cap,cur,e,h1,h2,h3,h4,Nat.le_of_eq h5.symm,h6⟩
theorem tZ.lt{w:World}{base e sz:Nat}{v:Value}{n:Nat}{xs:List Value}(h:tZ w base e sz v n xs):∀k,v.ownBlock=some k→base≤k∧k< w.heap.size:=by
 intro k hk
 rcases h.2 with⟨rfl,_⟩|⟨g,cap,cur,e',rfl,hb,hg,_⟩
 ·simp[Value.ownBlock]at hk
 ·simp[Value.ownBlock]at hk
  subst hk
  exact⟨hb,(Array.getElem?_eq_some_iff.1 hg).1⟩
theorem tZ.kept{w w':World}{base e sz:Nat}{v:Value}{n:Nat}{xs:List Value}{row:Option Nat}(h:tZ w base e sz v n xs)(hg:w.grownBy w' row)(hne:v.ownBlock=none∨v.ownBlock≠row):tZ w' base e sz v n xs:=by
 refine⟨h.1, ?_⟩
 rcases h.2 with hn|⟨g,cap,cur,e',rfl,hb,hgg,rest⟩
 ·exact .inl hn
 ·refine .inr ⟨g,cap,cur,e',rfl,hb, ?_,rest⟩
  rw[hg.block g (Array.getElem?_eq_some_iff.1 hgg).1 (by simpa [Value.ownBlock]using hne)]
  exact hgg
theorem tZ.cells{w:World}{base e sz:Nat}{v:Value}{n:Nat}{xs:List Value}(h:tZ w base e sz v n xs){g:Nat}(hg:v.ownBlock=some g):∀j u,xs[j]? =some u→w.cell? ((⟨g,0,none⟩:Addr).add j)=some u:=by
 intro j u hu
 rcases h.2 with⟨rfl,_⟩|⟨g',cap,cur,e',rfl,_,hgg,_,_,n9⟩
 ·simp[Value.ownBlock]at hg
 ·simp[Value.ownBlock]at hg
  subst hg
  have Am:(⟨g',0,none⟩:Addr).add j=⟨g',j,none⟩:=by unfold Addr.add;split<;>simp_all
  rw[Am,cell_of_row w g' j cur e' (0,0) hgg]
  rw[←n9,List.getElem?_take]at hu
  split at hu
  ·simpa using hu
  ·cases hu
def Ny(P:Program)(X:Nat→Prop)(S:Nat→Nat→Prop)(β:aY)(w:World)(x:Value)(e:TypeId):Prop:=
 ∃g n c sz xs i,x= .slice (some ⟨g,0,none⟩) n c∧P.info? e=some i∧i.size=sz∧tZ w 0 e sz x n xs∧
  (∀o,S g o→o< n*sz)∧(∀s,β s≠some g)∧¬X g
def R6(S:Nat→Nat→Prop)(w:World)(β:aY)(φ:bw)(b:Nat)(cs:List T):Prop:=
 ∃c e,w.heap[b]? =some (.cells c e (0,0))∧cs.length≤c.size∧(∀(i:Nat) (x:Value),i< cs.length→c[i]? =some x→x.oneCell'=true)∧
  ∀(i:Nat) (x:Value) (t:T),c[i]? =some x→cs[i]? =some t→ak S w β φ x t
inductive fO(S:Nat→Nat→Prop)(w:World)(β:aY)(φ:bw):List MapEntry→List T→Prop
 |nil:fO S w β φ [] []
 |cons (e:MapEntry) (es:List MapEntry) (k v:T) (ts:List T) (hk:ak S w β φ e.key k) (hv:ak S w β φ e.val v) (h:fO S w β φ es ts):fO S w β φ (e::es) (k::v::ts)
def Nr(es:List MapEntry)(k:Nat):Prop:=(es.map (·.born)).Nodup∧∀x∈es,x.born< k
def MapAt(S:Nat→Nat→Prop)(w:World)(β:aY)(φ:bw)(b:Nat)(cs:List T):Prop:=
 ∃es k,w.heap[b]? =some (.map es k)∧fO S w β φ es.toList cs∧Nr es.toList k
def qK(S:Nat→Nat→Prop)(w:World)(β:aY)(φ:bw)(p b:Nat)(cs:List T):Prop:=
 (p=0→R6 S w β φ b cs)∧(p=1→MapAt S w β φ b cs)
theorem fO.mono{S S':Nat→Nat→Prop}{w w':World}{β β':aY}{φ φ':bw}{adj:T→T}(hm:∀y u,ak S w β φ y u→ak S' w' β' φ' y (adj u)):
  ∀{es:List MapEntry} {ts:List T},fO S w β φ es ts→fO S' w' β' φ' es (ts.map adj)
 |_,_,.nil=> .nil
 |_,_,.cons e es k v ts hk hv h=> .cons e es _ _ _ (hm _ _ hk) (hm _ _ hv) (h.mono hm)
theorem qK.mono{S S':Nat→Nat→Prop}{w w':World}{β β':aY}{φ φ':bw}{p b:Nat}{cs:List T}{adj:T→T}(h:qK S w β φ p b cs)(hb:w'.heap[b]? =w.heap[b]?)
  (hm:∀y u,ak S w β φ y u→ak S' w' β' φ' y (adj u)):qK S' w' β' φ' p b (cs.map adj):=by
 refine⟨fun hp=> ?_,fun hp=> ?_⟩
 ·obtain⟨c,e,h1,h2,h3,h4⟩:=h.1 hp
  refine⟨c,e,hb.trans h1,by simpa using h2,fun i x hi=>h3 i x (by simpa using hi),fun i x t hx ht=> ?_⟩
  rw[List.getElem?_map]at ht
  obtain⟨u,hu,rfl⟩:=Option.map_eq_some_iff.1 ht
  exact hm _ _ (h4 i x u hx hu)
 ·obtain⟨es,k,h1,h2⟩:=h.2 hp
  exact⟨es,k,hb.trans h1,h2.1.mono hm,h2.2⟩
theorem qK.Fi{S S':Nat→Nat→Prop}{w w':World}{β β':aY}{φ φ':bw}{p b:Nat}{cs:List T}(h:qK S w β φ p b cs)(hb:w'.heap[b]? =w.heap[b]?)
  (hm:∀y u,ak S w β φ y u→ak S' w' β' φ' y u):qK S' w' β' φ' p b cs:=by
 have:=h.mono (adj:=id) hb hm
 simpa using this
theorem qK.lt{S:Nat→Nat→Prop}{w:World}{β:aY}{φ:bw}{s b:Nat}{cs:List T}(h:qK S w β φ (s%2) b cs):b< w.heap.size:=by
 rcases(by omega:s%2=0∨s%2=1)with hp|hp
 ·obtain⟨_,_,h1,_⟩:=h.1 hp;exact(Array.getElem?_eq_some_iff.1 h1).1
 ·obtain⟨_,_,h1,_⟩:=h.2 hp;exact(Array.getElem?_eq_some_iff.1 h1).1
structure Inv(P:Program)(W:dg)(S0 S:Nat→Nat→Prop)(β:aY)(φ:bw)(bx:List (Option (List T)))(w:World):Prop where
 below:NK W w
 lt:∀b o,S b o→b< w.heap.size
 box:∀s b,β s=some b→¬W.X b∧(∀o,¬S b o)∧∃cs,bx[s]? =some (some cs)∧qK S w β φ (s%2) b cs
 boxed:∀s cs,bx[s]? =some (some cs)→cs=[]∨∃b,β s=some b
 inj:∀s s' b,β s=some b→β s'=some b→s=s'
 fX:∀k x e,φ k=some (x,e)→Ny P W.X S β w x e
 dK:∀k k' x x' e e',φ k=some (x,e)→φ k'=some (x',e')→k≠k'→x.ownBlock≠x'.ownBlock
 top:∀b o,S b o→S0 b o∨¬W.X b
 base:∀b o,S0 b o→S b o
 stay:∀b o,S0 b o→∀sp v,W.w.cell? ⟨b,o,sp⟩=some v→w.cell? ⟨b,o,sp⟩=some v
 pJ:∀s b,W.nb≤s→W.β0 s=some b→β s=some b∨bx[s]? =some none
theorem Inv.vE{P:Program}{W:dg}{w:World}{S0 S:Nat→Nat→Prop}{β:aY}{φ:bw}{bx:List (Option (List T))}(h:Inv P W S0 S β φ bx w){s b:Nat}(hb:β s=some b):b< w.heap.size:=by
 obtain⟨_,_,_,_,h3⟩:=h.box s b hb
 exact h3.lt
theorem Inv.HL{P:Program}{W:dg}{w:World}{S0 S:Nat→Nat→Prop}{β:aY}{φ:bw}{bx:List (Option (List T))}(h:Inv P W S0 S β φ bx w){k g:Nat}{x:Value}{e:TypeId}(hk:φ k=some (x,e))(hg:x.ownBlock=some g):g< w.heap.size:=by
 obtain⟨_,_,_,_,_,_,_,_,_,ho,_⟩:=h.fX k x e hk
 exact(ho.lt g hg).2
theorem Inv.grow{P:Program}{W:dg}{w w':World}{S0 S:Nat→Nat→Prop}{β:aY}{φ:bw}{bx:List (Option (List T))}(h:Inv P W S0 S β φ bx w)
  (hb:Below w.heap.size w w'):Inv P W S0 S β φ bx w':=by
 have ej:∀b o,S b o→∀sp v,w.cell? ⟨b,o,sp⟩=some v→w'.cell? ⟨b,o,sp⟩=some v:=fun b o hs sp v hv=>(hb.cell (p:=⟨b,o,sp⟩) (h.lt _ _ hs)).trans hv
 have hsz:=hb.size
 refine⟨?_,fun b o hs=>by have:=h.lt b o hs;omega, ?_,h.boxed,h.inj, ?_,h.dK,h.top,h.base,fun b o h0 sp v hv=>ej b o (h.base b o h0) sp v (h.stay b o h0 sp v hv),h.pJ⟩
 ·exact h.below.step (row:=none) ⟨hb.os,hb.tape,hb.output,hb.size,fun j hj _=>hb.block j hj⟩ (fun k e=>by cases e) (iw hb.block)
 ·intro s b hs
  obtain⟨h1,h2,cs,h3,h4⟩:=h.box s b hs
  exact⟨h1,h2,cs,h3,h4.Fi (hb.block b h4.lt) fun y u hr=>hr.mono (fun _ _=>id) (fun _ _=>id) (fun _ _=>id) ej (iw hb.block)⟩
 ·intro k x e hk
  obtain⟨g,n,c,sz,xs,i,rfl,hi,wZ,ho,h1,h2⟩:=h.fX k x e hk
  exact⟨g,n,c,sz,xs,i,rfl,hi,wZ,ho.kept (row:=none) ⟨hb.os,hb.tape,hb.output,hb.size,fun j hj _=>hb.block j hj⟩ (.inr (by simp[Value.ownBlock])),h1,h2⟩
theorem ak.grow{S:Nat→Nat→Prop}{w w':World}{β:aY}{φ:bw}{x:Value}{t:T}(h:ak S w β φ x t)(hlt:∀b o,S b o→b< w.heap.size)
  (hb:Below w.heap.size w w'):ak S w' β φ x t:=
 h.mono (fun _ _=>id) (fun _ _=>id) (fun _ _=>id) (fun b o hs sp _ hv=>(hb.cell (p:=⟨b,o,sp⟩) (hlt _ _ hs)).trans hv) (iw hb.block)
end Go.Vi
end
