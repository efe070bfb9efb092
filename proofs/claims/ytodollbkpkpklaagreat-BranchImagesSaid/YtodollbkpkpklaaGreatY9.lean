/-
  A claim's own text, joined by a small program out of: Vj3, Vj4.
-/
import Derived.Test.YtodollbkpkpklaaGreatY8
import Derived.Laws.Slices
import Derived.Laws.StructEq
import Derived.Lib.ConvBytes
set_option linter.unusedVariables false
set_option linter.unusedSimpArgs false
section
namespace Go.Vi
open Go Go.RowKit
theorem add_add(a:Addr)(i j:Nat):(a.add i).add j=a.add (i+j):=by
 unfold Addr.add
 by_cases hi:i=0
 ·simp[hi]
 ·by_cases hj:j=0
  ·simp[hi,hj]
  ·simp[hi,hj,Nat.add_assoc]
theorem lR(b o i:Nat):(⟨b,o,none⟩:Addr).add i=⟨b,o+i,none⟩:=by unfold Addr.add;split<;>simp_all
section
variable{P:Program}{W:di}{w:World}{S0 S:Nat→Nat→Prop}{β:aX}{φ:bB}
def ax(P:Program)(W:di)(S0 S:Nat→Nat→Prop)(β:aX)(φ:bB)(w:World)(σ σ':St)(t:T)(x:Value)(w':World):Prop:=
 ∃(S':Nat→Nat→Prop) (β':aX) (φ':bB) (adj:T→T),ak S' w' β' φ' x t∧Inv P W S0 S' β' φ' σ'.boxes w'∧
  (∀y u,ak S w β φ y u→ak S' w' β' φ' y (adj u))∧σ'.rs=σ.rs.map adj∧σ'.vars=σ.vars.map adj
theorem ax.same{σ:St}{t:T}{x:Value}(hI:Inv P W S0 S β φ σ.boxes w)(h:ak S w β φ x t):ax P W S0 S β φ w σ σ t x w:=
 ⟨S,β,φ,id,h,hI,fun _ _=>id,by simp,by simp⟩
def aL(P:Program)(a:Act)(o:Oper)(w:World)(x:Value)(w':World):Prop:=
 (execOp a.eval o).run P w= .ok (.value x) w'∨(x=undef∧(execOp a.eval o).run P w= .ok .skip w')
theorem aL.wp{a:Act}{o:Oper}{x:Value}{w':World}{K:Act→World→Prop}{Q:Exit→Act→World→Prop}(h:aL P a o w x w')(hK:K (a.put o.dst x) w'):o.wp P a w K Q:=by
 unfold Oper.wp
 rcases h with h|⟨rfl,h⟩
 ·rw[h];exact hK
 ·rw[h];exact hK
theorem cA{x y:Value}(h:ak S w β φ x (.v y)):x=y:=by cases h;rfl
theorem D9{α:Type}{s:Sem α}{r:α}(h:gn s=some r)(w:World):s.run P w= .ok r w:=by
 cases s<;>simp[gn]at h
 subst h;rfl
theorem Bp(op:BinOp)(t:TypeId)(x y:Operand){a b:Value}(ha:A6 a=true):(eqGuard op t x y a b).run P w= .ok () w:=by
 unfold eqGuard
 cases a<;>simp_all [A6]
theorem mO{t:TypeId}{g:Bool}{n:Nat}(h:gK P t=some (g,n)):(isAgg t).run P w= .ok g w∧(sizeOf t).run P w= .ok n w∧(g=false→n=1):=by
 unfold gK at h
 cases hu:P.underlying t with
 |none=>simp[hu]at h
 |some d=>
  cases hi:P.info? t with
  |none=>rw[hu,hi]at h;cases d<;>simp at h
  |some i=>
   rw[hu,hi]at h
   have h2:(sizeOf t).run P w= .ok i.size w:=by simp[sizeOf,typeInfo,hi]
   have h1:(isAgg t).run P w= .ok (match d with| .struct _| .array _ _=>true|_=>false) w:=by
    simp only[isAgg,Sem.run_bind,run_underlying hu,Result.andThen_ok]
    cases d<;>rfl
   cases d<;>simp at h<;>first
    |(obtain⟨rfl,rfl⟩:=h;exact⟨h1,h2,by simp⟩)
    |(obtain⟨h3,rfl,rfl⟩:=h;exact⟨h1,by rw[h2,h3],fun _=>rfl⟩)
theorem xY{t:TypeId}{g:Bool}{n:Nat}(h:gK P t=some (g,n))(a:Addr)(f:Nat→Value)(hc:∀j,j< n→w.cell? (a.add j)=some (f j)):
  (loadVar t a).run P w= .ok (if g then .agg ((List.range n).map f).toArray else f 0) w:=by
 obtain⟨h1,h2,h3⟩:=mO (w:=w) h
 simp only[loadVar,Sem.run_bind,h1,Result.andThen_ok]
 cases g with
 |true=>simp[h2,run_loadCells w a n f hc]
 |false=>
  obtain rfl:=h3 rfl
  have:=hc 0 (by omega)
  simp only[Addr.add,if_true]at this
  simp[this]
theorem Bq{g:Bool}{n off:Nat}{cs:List T}{t:T}(h:one? g n cs off=some t)(hg:g=false→n=1)(f:Nat→Value)(h1:∀j,off+j< cs.length→(f j).oneCell'=true)
  (hf:∀j u,cs[off+j]? =some u→ak S w β φ (f j) u):ak S w β φ (if g then .agg ((List.range n).map f).toArray else f 0) t∧off+n≤cs.length:=by
 unfold one? at h
 cases g with
 |true=>
  simp only[if_true]at h⊢
  split at h
  ·rename_i hle
   simp only[Option.some.injEq]at h
   subst h
   refine⟨.agg _ _ _ _ (by simp;omega) (fun i x hx=> ?_) (fun i x u hx hu=> ?_),hle⟩
   ·simp only[List.getElem?_toArray,List.getElem?_map,Option.map_eq_some_iff]at hx
    obtain⟨j,hj,rfl⟩:=hx
    rw[List.getElem?_eq_some_iff]at hj
    obtain⟨Cg,Ed⟩:=hj
    simp at Cg Ed
    subst Ed
    exact h1 _ (by omega)
   ·simp only[List.getElem?_toArray,List.getElem?_map,Option.map_eq_some_iff]at hx
    obtain⟨j,hj,rfl⟩:=hx
    rw[List.getElem?_eq_some_iff]at hj
    obtain⟨Cg,Ed⟩:=hj
    simp at Cg Ed
    subst Ed
    rw[List.getElem?_take,if_pos Cg,List.getElem?_drop]at hu
    exact hf _ _ hu
  ·cases h
 |false=>
  simp only[Bool.false_eq_true,if_false]at h⊢
  have hlt:=(List.getElem?_eq_some_iff.1 h).1
  exact⟨hf 0 _ (by simpa using h),by have:=hg rfl;omega⟩
theorem mQ{bx:List (Option (List T))}(hI:Inv P W S0 S β φ bx w){s b:Nat}{cs:List T}(hb:β s=some b)(hp:s%2=0)(hs:bx[s]? =some (some cs)):
  ∃(c:Array Value) (e:TypeId),w.heap[b]? =some (.cells c e (0,0))∧cs.length≤c.size∧(∀(i:Nat) (x:Value),i< cs.length→c[i]? =some x→x.oneCell'=true)∧
   (∀(i:Nat) (x:Value) (t:T),c[i]? =some x→cs[i]? =some t→ak S w β φ x t):=by
 obtain⟨_,_,b9,h1,h2⟩:=hI.box s b hb
 rw[hs]at h1
 simp only[Option.some.injEq]at h1
 subst h1
 exact h2.1 hp
theorem J7{bx:List (Option (List T))}(hI:Inv P W S0 S β φ bx w){s b:Nat}{cs:List T}(hb:β s=some b)(hp:s%2=1)(hs:bx[s]? =some (some cs)):MapAt S w β φ b cs:=by
 obtain⟨_,_,b9,h1,h2⟩:=hI.box s b hb
 rw[hs]at h1
 simp only[Option.some.injEq]at h1
 subst h1
 exact h2.2 hp
theorem yW{b:Nat}{c:Array Value}{e:TypeId}{fr:Nat×Nat}(h:w.heap[b]? =some (.cells c e fr))(o:Nat):w.cell? ⟨b,o,none⟩=c[o]? :=by
 simp[World.cell?,h]
theorem Cx{σ:St}{ty:TypeId}{g:Bool}{n:Nat}{x:Value}{u t:T}(hI:Inv P W S0 S β φ σ.boxes w)(ha:gK P ty=some (g,n))(hx:ak S w β φ x u)
  (h:(match u with
   | .ref s off=>match σ.boxes[s]? with
    |some (some cs)=>one? g n cs off
    |_=>none
   | .ptr cs off=>one? g n cs off
   |_=>none)=some t):∃y,(Instr.loadAt ty x).run P w= .ok y w∧ak S w β φ y t:=by
 obtain⟨_,_,hg⟩:=mO (w:=w) ha
 cases hx with
 |ref _ _ s off b hb hp=>
  simp only at h
  cases hs:σ.boxes[s]? with
  |none=>simp[hs]at h
  |some o=>
   cases o with
   |none=>simp[hs]at h
   |some cs=>
    simp only[hs]at h
    obtain⟨c,e,hc,hl,h1,hr⟩:=mQ hI hb hp hs
    obtain⟨hR,hle⟩:=Bq (S:=S) (w:=w) (β:=β) (φ:=φ) h hg (fun j=>c.getD (off+j) undef) (fun j hj=>h1 (off+j) _ hj (by simp[Array.getD,show off+j< c.size by omega])) (fun j u hu=>by
     have hj:=(List.getElem?_eq_some_iff.1 hu).1
     exact hr (off+j) _ _ (by simp[Array.getD,show off+j< c.size by omega]) hu)
    refine⟨_, ?_,hR⟩
    simp only[Instr.loadAt,Instr.sureAddr,Sem.run_bind,Sem.run_pure,Result.andThen_ok]
    refine xY ha _ _ fun j hj=> ?_
    rw[lR,yW hc]
    simp[Array.getD,show off+j< c.size by omega]
 |ptr _ _ a cs off f aF hr=>
  simp only at h
  obtain⟨hR,hle⟩:=Bq (S:=S) (w:=w) (β:=β) (φ:=φ) h hg (fun j=>f (off+j)) (fun j hj=>(aF (off+j) hj).2.2) (fun j u hu=>by
   have:=hr (off+j) u hu
   exact this.mono (fun _ _=>id) (fun _ _ h=>by simp[bn]at h) (fun _ _ h=>by simp[cD]at h) (fun _ _ _ _ _=>id) (cg.refl _))
  refine⟨_, ?_,hR⟩
  simp only[Instr.loadAt,Instr.sureAddr,Sem.run_bind,Sem.run_pure,Result.andThen_ok]
  refine xY ha _ _ fun j hj=> ?_
  rw[add_add]
  exact(aF (off+j) (by omega)).2.1
 |_=>simp at h
theorem GC{ty:TypeId}{fs:Array Field}{k:Nat}{f:Field}{x:Value}{u t:T}(hu:P.underlying ty=some (.struct fs))(hf:fs[k]? =some f)(hz:P.cellsOf f.type≠0)
  (hx:ak S w β φ x u) (h:(match u with| .ref s o=>some (T.ref s (o+f.offset))| .ptr cs o=>some (.ptr cs (o+f.offset))|_=>none)=some t):
  ∃y,(Instr.fieldAt ty x k).run P w= .ok y w∧ak S w β φ y t:=by
 have hsz:∃i,P.info? f.type=some i∧i.size≠0:=by
  unfold Program.cellsOf at hz
  cases hi:P.info? f.type with
  |none=>simp[hi]at hz
  |some i=>exact⟨i,rfl,by simpa [hi]using hz⟩
 obtain⟨i,hi,rq⟩:=hsz
 have hrun:∀ad,(Instr.fieldAt ty (.pointer (some ad)) k).run P w= .ok (.pointer (some (ad.add f.offset))) w:=fun ad=>by
  simp[Instr.fieldAt,run_underlying hu,hf,Instr.sureAddr,fieldPlace,sizeOf,typeInfo,hi,rq]
 cases hx with
 |ref _ _ s o b hb hp=>simp only[Option.some.injEq]at h;subst h;exact⟨_,hrun _,by rw[lR];exact .ref _ _ _ _ _ hb hp⟩
 |ptr _ _ a cs o g aF hr=>simp only[Option.some.injEq]at h;subst h;exact⟨_,hrun _,by rw[add_add];exact .ptr _ _ a cs _ g aF hr⟩
 |_=>simp at h
theorem lj{x:Value}{u:T}{i:Nat}(hx:ak S w β φ x u)(h:asNat u=some i):∃k,x= .int k (i:Int):=by
 unfold asNat at h
 split at h
 ·cases hx
  split at h
  ·rename_i h0
   simp only[Option.some.injEq]at h
   subst h
   exact⟨_,by rw[Int.toNat_of_nonneg h0]⟩
  ·cases h
 ·cases h
theorem jk{e:TypeId}{n:Nat}(h:P.cellsOf e=n)(hn:n≠0):(sizeOf e).run P w= .ok n w:=by
 unfold Program.cellsOf at h
 cases hi:P.info? e with
 |none=>simp[hi]at h;omega
 |some i=>simp only[hi,Option.map_some,Option.getD_some]at h;simp[sizeOf,typeInfo,hi,h]
theorem Ek{ty e:TypeId}{len:Nat}{x ix:Value}{u v t:T}(hu:P.underlying ty=some (.array len e))(hz:P.cellsOf e≠0)(hx:ak S w β φ x u)(hi:ak S w β φ ix v)
  (h:(match u,asNat v with
  | .ref s o,some i=>if i< len then some (T.ref s (o+i*P.cellsOf e))else none
  | .ptr cs o,some i=>if i< len then some (.ptr cs (o+i*P.cellsOf e))else none
  |_,_=>none)=some t):∃y,(Instr.indexAt ty x ix).run P w= .ok y w∧ak S w β φ y t:=by
 cases hn:asNat v with
 |none=>rw[hn]at h;cases u<;>simp at h
 |some i=>
  obtain⟨k,rfl⟩:=lj hi hn
  rw[hn]at h
  have hrun:i< len→∀ad,(Instr.indexAt ty (.pointer (some ad)) (.int k (i:Int))).run P w= .ok (.pointer (some (ad.add (i*P.cellsOf e)))) w:=fun hlt ad=>by
   simp[Instr.indexAt,asIntOf,run_underlying hu,Instr.sureAddr,jk rfl hz,hlt]
  cases hx with
  |ref _ _ s o b hb hp=>
   simp only at h
   split at h
   ·rename_i hlt;simp only[Option.some.injEq]at h;subst h;exact⟨_,hrun hlt _,by rw[lR];exact .ref _ _ _ _ _ hb hp⟩
   ·cases h
  |ptr _ _ a cs o g aF hr=>
   simp only at h
   split at h
   ·rename_i hlt;simp only[Option.some.injEq]at h;subst h;exact⟨_,hrun hlt _,by rw[add_add];exact .ptr _ _ a cs _ g aF hr⟩
   ·cases h
  |_=>simp at h
theorem El{ty e:TypeId}{x ix:Value}{u v t:T}(hu:P.underlying ty=some (.slice e))(hz:P.cellsOf e≠0)(hx:ak S w β φ x u)(hi:ak S w β φ ix v)
  (h:(match u,asNat v with
  | .sl _ n cs,some i=>if i< n then some (T.ptr cs (i*P.cellsOf e))else none
  | .au s o n _,some i=>if i< n then some (.ref s (o+i*P.cellsOf e))else none
  |_,_=>none)=some t):∃y,(Instr.indexAt ty x ix).run P w= .ok y w∧ak S w β φ y t:=by
 cases hn:asNat v with
 |none=>rw[hn]at h;cases u<;>simp at h
 |some i=>
  obtain⟨k,rfl⟩:=lj hi hn
  rw[hn]at h
  have hrun:∀n c ad,i< n→(Instr.indexAt ty (.slice (some ad) n c) (.int k (i:Int))).run P w= .ok (.pointer (some (ad.add (i*P.cellsOf e)))) w:=fun n c ad hlt=>by
   simp[Instr.indexAt,asIntOf,run_underlying hu,jk rfl hz,hlt]
  cases hx with
  |nil=>simp at h
  |sl _ _ g a n c cs f cG hg aF hr=>
   simp only at h
   split at h
   ·rename_i hlt;simp only[Option.some.injEq]at h;subst h;exact⟨_,hrun _ _ _ hlt,.ptr _ _ a cs _ f aF hr⟩
   ·cases h
  |au _ _ s o n m b c hb hp nK=>
   simp only at h
   split at h
   ·rename_i hlt;simp only[Option.some.injEq]at h;subst h;exact⟨_,hrun _ _ _ hlt,by rw[lR];exact .ref _ _ _ _ _ hb hp⟩
   ·cases h
  |_=>simp at h
end
end Go.Vi
end
section
namespace Go.Vi
open Go Go.RowKit
section
variable{P:Program}{W:di}{w:World}{S0 S:Nat→Nat→Prop}{β:aX}{φ:bB}
theorem fz{α:Type}[BEq α][LawfulBEq α]{l:List α}{x:α}{i:Nat}(h:l.idxOf? x=some i):l[i]? =some x:=by
 induction l generalizing i with
 |nil=>simp[List.idxOf?]at h
 |cons y l ih=>
  simp only[List.idxOf?,List.findIdx?_cons]at h ih
  split at h
  ·rename_i hy
   simp only[Option.some.injEq]at h
   subst h
   simp only[beq_iff_eq]at hy
   simp[hy]
  ·simp only[Option.map_eq_some_iff]at h
   obtain⟨j,hj,rfl⟩:=h
   simpa using ih hj
theorem sg(x:Value):J1 x=true→ak S w β φ x (ofValue x):=by
 intro hk
 have bF:∀y:Value,y.oneCell'=true→ak S w β φ y (ofValue y):=fun y hy=>by
  cases y with
  |agg cs=>simp[Value.oneCell']at hy
  |slice a n c=>
   unfold ofValue
   split
   ·rename_i h;cases h
   ·rename_i h;cases h;exact .nil _ _ _ rfl
   ·exact .v ..
  |_=>simp only[ofValue];exact .v ..
 cases x with
 |agg cs=>
  simp only[J1]at hk
  simp only[ofValue,yS]
  refine .agg _ _ _ _ (by simp) (fun i x hx=> ?_) (fun i x t hx ht=> ?_)
  ·exact(Array.all_eq_true_iff_forall_mem.1 hk) x (Array.mem_of_getElem? hx)
  ·rw[List.getElem?_map]at ht
   obtain⟨y,hy,rfl⟩:=Option.map_eq_some_iff.1 ht
   have:x=y:=by simpa [hx]using hy
   subst this
   exact bF x ((Array.all_eq_true_iff_forall_mem.1 hk) x (Array.mem_of_getElem? hx))
 |tuple xs=>simp only[ofValue];exact .v ..
 |_=>exact bF _ rfl
theorem Ec{x:Value}{t:T}{cs:List T}(h:ak S w β φ x t)(hc:cellsOf t=some cs)(ho:cs.all T.one=true):
  x.cells.size=cs.length∧(∀(i:Nat) (y:Value),x.cells[i]? =some y→y.oneCell'=true)∧∀(i:Nat) (y:Value) (u:T),x.cells[i]? =some y→cs[i]? =some u→ak S w β φ y u:=by
 have single:∀{y:Value} {u:T},ak S w β φ y u→y.cells=#[y]→T.one u=true→(y.cells.size=[u].length∧(∀(i:Nat) (z:Value),y.cells[i]? =some z→z.oneCell'=true)∧∀(i:Nat) (z:Value) (v:T),y.cells[i]? =some z→[u][i]? =some v→ak S w β φ z v):=by
  intro y u hr hy ho
  rw[hy]
  refine⟨by simp,fun i z hz=> ?_,fun i z v hz hv=> ?_⟩
  ·cases i with
   |zero=>simp at hz;subst hz;exact hr.one ho
   |succ i=>simp at hz
  ·cases i with
   |zero=>simp at hz hv;subst hz;subst hv;exact hr
   |succ i=>simp at hz
 cases h with
 |undef=>simp[cellsOf]at hc
 |v=>
  simp only[cellsOf,Option.some.injEq]at hc
  subst hc
  simp only[List.all_cons,List.all_nil,Bool.and_true,T.one]at ho
  refine single (.v ..) ?_ ho
  cases x<;>simp_all [Value.cells,Value.oneCell']
 |nil _ _ g hg=>simp only[cellsOf,Option.some.injEq]at hc;subst hc;exact single (.nil _ _ g hg) rfl rfl
 |sl _ _ g a n c b9 f cG hg aF h=>simp only[cellsOf,Option.some.injEq]at hc;subst hc;exact single (.sl _ _ g a n c b9 f cG hg aF h) rfl rfl
 |ptr _ _ a b9 off f aF h=>simp only[cellsOf,Option.some.injEq]at hc;subst hc;exact single (.ptr _ _ a b9 off f aF h) rfl rfl
 |ref _ _ s off b hb hp=>simp only[cellsOf,Option.some.injEq]at hc;subst hc;exact single (.ref _ _ _ _ _ hb hp) rfl rfl
 |au _ _ s off n m b c hb hp hn hz=>simp only[cellsOf,Option.some.injEq]at hc;subst hc;exact single (.au _ _ _ _ _ _ _ _ hb hp hn hz) rfl rfl
 |iv _ _ a s off m=>simp only[cellsOf,Option.some.injEq]at hc;subst hc;exact single (.iv _ _ a s off m) rfl rfl
 |aQ _ _ s b hb hp=>simp only[cellsOf,Option.some.injEq]at hc;subst hc;exact single (.aQ _ _ _ _ hb hp) rfl rfl
 |agg _ _ xs ts hl h1 h=>simp only[cellsOf,Option.some.injEq]at hc;subst hc;exact⟨hl,h1,h⟩
 |al=>simp[cellsOf]at hc
 |bq _ _ fn xs ys ts us hx hy h k=>simp only[cellsOf,Option.some.injEq]at hc;subst hc;exact single (.bq _ _ _ _ _ _ _ hx hy h k) rfl rfl
theorem yV{w:World}(o:Obj):Below w.heap.size w (w.alloc o):=(Below.refl _ _).alloc (Nat.le_refl _) o
theorem J6{σ:St}{s g:Nat}{cs:List T}{w':World}{t:T}{x:Value}(hI:Inv P W S0 S β φ σ.boxes w)(hn:s< W.nb)(hs:σ.boxes[s]? =some none)(hg:w.grownBy w' (some g))(hgX:¬W.X g)(hgS:∀o,¬S g o)(AJ:∀s,β s≠some g)
  (apr:∀k x e,φ k=some (x,e)→x.ownBlock≠some g)
  (Ej:∀(β':aX),(∀y u,ak S w β φ y u→ak S w' β' φ y u)→qW S w' β' φ (s%2) g cs) (ht:∀(β':aX),β' s=some g→ak S w' β' φ x t) (nZ:cg w w'):
  ax P W S0 S β φ w σ {σ with boxes:=σ.boxes.set s (some cs)} t x w':=by
 have wU:β s=none:=by
  cases hb:β s with
  |none=>rfl
  |some b=>obtain⟨_,_,b9,h,_⟩:=hI.box s b hb;rw[hs]at h;simp at h
 have hlt:s< σ.boxes.length:=(List.getElem?_eq_some_iff.1 hs).1
 let β':aX:=fun s'=>if s'=s then some g else β s'
 have ju:∀s' b,β s'=some b→β' s'=some b:=fun s' b hb=>by
  by_cases e:s'=s
  ·subst e;rw[wU]at hb;cases hb
  ·simp[β',e,hb]
 have ey:∀b o,S b o→∀sp v,w.cell? ⟨b,o,sp⟩=some v→w'.cell? ⟨b,o,sp⟩=some v:=fun b o hS sp v hv=>by
  have hne:b≠g:=fun h=>hgS o (h▸hS)
  rw[World.cell?_of_block (w:=w) (hg.block b (hI.lt _ _ hS) (by simpa using hne))]
  exact hv
 have lh:∀y u,ak S w β φ y u→ak S w' β' φ y u:=fun y u h=>h.mono (fun _ _=>id) ju (fun _ _=>id) ey nZ
 have x5:=hg.size
 refine⟨S,β',φ,id,ht _ (by simp[β']),⟨hI.below.step hg (fun k e=>by cases e;exact hgX) nZ,fun b o h=>by have:=hI.lt b o h;omega, ?_, ?_, ?_, ?_,hI.dS,hI.top,hI.base,
  fun b o h0 sp v hv=>ey b o (hI.base _ _ h0) sp v (hI.stay b o h0 sp v hv),fun s' b nK h0=>(hI.pX s' b nK h0).imp (ju s' b) fun h=>by
   have:s'≠s:=by omega
   simpa [List.getElem?_set,Ne.symm this]using h⟩,lh,by simp,by simp⟩
 ·intro s' b ff
  by_cases es:s'=s
  ·subst es
   simp only[β',if_true,Option.some.injEq]at ff
   subst ff
   exact⟨hgX,hgS,cs,by simp[hlt],Ej β' lh⟩
  ·simp only[β',es,if_false]at ff
   obtain⟨uF,lQ,b9,Dv,zO⟩:=hI.box s' b ff
   have hne:b≠g:=fun h=>AJ s' (h▸ff)
   exact⟨uF,lQ,b9,by simpa [List.getElem?_set,Ne.symm es]using Dv,zO.FP (hg.block b zO.lt (by simpa using hne)) lh⟩
 ·intro s' b9 ff
  by_cases es:s'=s
  ·exact .inr ⟨g,by simp[β',es]⟩
  ·simp only[List.getElem?_set,Ne.symm es,if_false]at ff
   exact(hI.boxed s' b9 ff).imp id fun⟨b,ff⟩=>⟨b,ju _ _ ff⟩
 ·intro s1 s2 b uF lQ
  by_cases e1:s1=s<;>by_cases e2:s2=s
  ·rw[e1,e2]
  ·simp only[β',e1,if_true,Option.some.injEq,e2,if_false]at uF lQ;exact absurd (uF▸lQ) (AJ s2)
  ·simp only[β',e2,if_true,Option.some.injEq,e1,if_false]at uF lQ;exact absurd (lQ▸uF) (AJ s1)
  ·simp only[β',e1,e2,if_false]at uF lQ;exact hI.inj _ _ _ uF lQ
 ·intro k x e' hk
  obtain⟨g',n,c',sz,xs,i,rfl,hi,hsz,ho,lQ,Dv,zO⟩:=hI.gm k x e' hk
  have hne:g'≠g:=fun h=>apr k _ e' hk (by simp[Value.ownBlock,h])
  refine⟨g',n,c',sz,xs,i,rfl,hi,hsz,ho.kept hg (.inr (by simpa [Value.ownBlock]using hne)),lQ,fun s' fA=> ?_,zO⟩
  by_cases es:s'=s
  ·simp only[β',es,if_true,Option.some.injEq]at fA
   exact hne fA.symm
  ·simp only[β',es,if_false]at fA
   exact Dv s' fA
theorem uK{σ:St}{s:Nat}{cs:List T}{o:Obj}{t:T}{x:Value}(hI:Inv P W S0 S β φ σ.boxes w)(hn:s< W.nb)(hs:σ.boxes[s]? =some none)
  (hb:∀(β':aX),(∀y u,ak S w β φ y u→ak S (w.alloc o) β' φ y u)→qW S (w.alloc o) β' φ (s%2) w.heap.size cs) (ht:∀(β':aX),β' s=some w.heap.size→ak S (w.alloc o) β' φ x t):
  ax P W S0 S β φ w σ {σ with boxes:=σ.boxes.set s (some cs)} t x (w.alloc o):=
 J6 (w':=w.alloc o) hI hn hs ⟨rfl,rfl,rfl,by simp,fun k hk _=>heap_alloc_old w _ k hk⟩ (fun h=>by have:=hI.below.lt _ h;have:=hI.below.size;omega) (fun o h=>by have:=hI.lt _ _ h;omega) (fun s h=>by have:=hI.wo h;omega)
  (fun k x e hk h=>by have:=hI.Ic hk h;omega) hb (fun β' h=>ht β' h) (iF fun k hk=>heap_alloc_old w _ k hk)
theorem uJ{σ:St}{s:Nat}{cs:List T}{c:Array Value}{e:TypeId}(hI:Inv P W S0 S β φ σ.boxes w)(hn:s< W.nb)(hs:σ.boxes[s]? =some none)(hp:s%2=0)(hl:cs.length≤c.size)
  (h1:∀(i:Nat) (y:Value),c[i]? =some y→y.oneCell'=true) (hr:∀(i:Nat) (y:Value) (u:T),c[i]? =some y→cs[i]? =some u→ak S w β φ y u):
  ax P W S0 S β φ w σ {σ with boxes:=σ.boxes.set s (some cs)} (.ref s 0) (.pointer (some ⟨w.heap.size,0,none⟩)) (w.alloc (.cells c e)):=
 uK hI hn hs (fun β' hm=>⟨fun _=>⟨c,e,heap_alloc_new w _,hl,fun i x _=>h1 i x,fun i x t hx ht=>hm _ _ (hr i x t hx ht)⟩,fun h=>by omega⟩) (fun β' h=> .ref _ _ _ _ _ h hp)
theorem AL{b o:Nat}{c:Array Value}{e:TypeId}{vs:List Value}(hg:w.heap[b]? =some (.cells c e (0,0)))(hle:o+vs.length≤c.size)(h1:∀v∈vs,v.oneCell'=true):
  (storeCells ⟨b,o,none⟩ vs).run P w= .ok () (w.setRow b (c.toList.take o++vs++c.toList.drop (o+vs.length)).toArray):=by
 have:=run_storeCells_at P b o e vs 0 c w hg (by simpa using hle) h1
 simpa using this
theorem xQ(cs ns:List T)(off i:Nat)(hle:off+ns.length≤cs.length):(setCells cs off ns)[i]? =if off≤i∧i< off+ns.length then ns[i-off]? else cs[i]? :=by
 unfold setCells
 by_cases h1:i< off
 ·rw[List.append_assoc,List.getElem?_append_left (by simp;omega),List.getElem?_take,if_pos h1,if_neg (by omega)]
 ·rw[List.append_assoc,List.getElem?_append_right (by simp;omega)]
  simp only[List.length_take,Nat.min_eq_left (show off≤cs.length by omega)]
  by_cases h2:i< off+ns.length
  ·rw[if_pos (by omega),List.getElem?_append_left (by omega)]
  ·rw[if_neg (by omega),List.getElem?_append_right (by omega),List.getElem?_drop]
   congr 1
   omega
theorem mR(cs ns:List T)(off:Nat)(hle:off+ns.length≤cs.length):(setCells cs off ns).length=cs.length:=by
 unfold setCells
 simp
 omega
theorem iw(c:Array Value)(vs:List Value)(o i:Nat)(hle:o+vs.length≤c.size):
  ((c.toList.take o++vs++c.toList.drop (o+vs.length)).toArray)[i]? =if o≤i∧i< o+vs.length then vs[i-o]? else c[i]? :=by
 rw[List.getElem?_toArray]
 by_cases h1:i< o
 ·rw[List.append_assoc,List.getElem?_append_left (by simp;omega),List.getElem?_take,if_pos h1,if_neg (by omega)];simp
 ·rw[List.append_assoc,List.getElem?_append_right (by simp;omega)]
  simp only[List.length_take,Array.length_toList,Nat.min_eq_left (show o≤c.size by omega)]
  by_cases h2:i< o+vs.length
  ·rw[if_pos (by omega),List.getElem?_append_left (by omega)]
  ·rw[if_neg (by omega),List.getElem?_append_right (by omega),List.getElem?_drop]
   simp only[Array.getElem?_toList]
   congr 1
   omega
theorem Cw{σ:St}{s b:Nat}{cs:List T}{w':World}(hI:Inv P W S0 S β φ σ.boxes w)(hb:β s=some b)(hlt:s< σ.boxes.length)(hg:w.grownBy w' (some b))
  (n9:(∀y u,ak S w β φ y u→ak S w' β φ y u)→qW S w' β φ (s%2) b cs) (t:T) (x:Value) (hx:ak S w' β φ x t) (nZ:cg w w'):
  ax P W S0 S β φ w σ {σ with boxes:=σ.boxes.set s (some cs)} t x w':=by
 obtain⟨hWb,hSb,_⟩:=hI.box s b hb
 have EF:∀k,k< w.heap.size→k≠b→w'.heap[k]? =w.heap[k]? :=fun k hk hne=>hg.block k hk (by simpa using hne)
 have ey:∀b' o',S b' o'→∀sp v,w.cell? ⟨b',o',sp⟩=some v→w'.cell? ⟨b',o',sp⟩=some v:=fun b' o' hS sp v hv=>by
  have hne:b'≠b:=fun h=>hSb o' (h▸hS)
  rw[World.cell?_of_block (w:=w) (EF b' (hI.lt _ _ hS) hne)]
  exact hv
 have lh:∀y u,ak S w β φ y u→ak S w' β φ y u:=fun y u h=>h.mono (fun _ _=>id) (fun _ _=>id) (fun _ _=>id) ey nZ
 have x5:=hg.size
 refine⟨S,β,φ,id,hx,⟨hI.below.step hg (fun k e=>by cases e;exact hWb) nZ,fun b' o' h=>by have:=hI.lt b' o' h;omega, ?_, ?_,hI.inj, ?_,hI.dS,hI.top,hI.base,
  fun b' o' h0 sp v hv=>ey b' o' (hI.base _ _ h0) sp v (hI.stay b' o' h0 sp v hv),fun s' b' nK h0=>by
   by_cases es:s'=s
   ·subst es
    rcases hI.pX s' b' nK h0 with h|h
    ·exact .inl h
    ·obtain⟨_,_,Is,h3,_⟩:=hI.box s' b hb
     rw[h3]at h
     simp at h
   ·exact(hI.pX s' b' nK h0).imp id fun h=>by simpa [List.getElem?_set,Ne.symm es]using h⟩,lh,by simp,by simp⟩
 ·intro s' b' ff
  by_cases es:s'=s
  ·subst es
   rw[hb]at ff
   simp only[Option.some.injEq]at ff
   subst ff
   exact⟨hWb,hSb,cs,by simp[hlt],n9 lh⟩
  ·obtain⟨uF,lQ,b9,Dv,zO⟩:=hI.box s' b' ff
   have hne:b'≠b:=fun h=>es (hI.inj _ _ _ (h▸ff) hb)
   exact⟨uF,lQ,b9,by simpa [List.getElem?_set,Ne.symm es]using Dv,zO.FP (EF b' zO.lt hne) lh⟩
 ·intro s' b9 ff
  by_cases es:s'=s
  ·exact .inr ⟨b,es▸hb⟩
  ·simp only[List.getElem?_set,Ne.symm es,if_false]at ff
   exact hI.boxed s' b9 ff
 ·intro k x' e' hk
  obtain⟨g,n,c',sz,xs,i,rfl,hi,xH,ho,lQ,Dv,zO⟩:=hI.gm k x' e' hk
  refine⟨g,n,c',sz,xs,i,rfl,hi,xH,ho.kept (row:=some b) hg (.inr ?_),lQ,Dv,zO⟩
  simp only[Value.ownBlock,ne_eq,Option.some.injEq]
  intro h
  exact Dv s (h▸hb)
theorem Ef{σ:St}{s b o:Nat}{cs ns:List T}{c:Array Value}{e:TypeId}{vs:List Value}(hI:Inv P W S0 S β φ σ.boxes w)(hb:β s=some b)(hp:s%2=0)(hs:σ.boxes[s]? =some (some cs))
  (hc:w.heap[b]? =some (.cells c e (0,0))) (hl:vs.length=ns.length) (hle:o+ns.length≤cs.length) (h1:∀v∈vs,v.oneCell'=true)
  (hr:∀(i:Nat) (y:Value) (u:T),vs[i]? =some y→ns[i]? =some u→ak S w β φ y u) (t:T) (x:Value) (hx:∀w',ak S w' β φ x t):
  ax P W S0 S β φ w σ {σ with boxes:=σ.boxes.set s (some (setCells cs o ns))} t x (w.setRow b (c.toList.take o++vs++c.toList.drop (o+vs.length)).toArray):=by
 obtain⟨c0,e0,Dz,hsz,RZ,Wx⟩:=mQ hI hb hp hs
 rw[hc]at Dz
 simp only[Option.some.injEq,Obj.cells.injEq]at Dz
 obtain⟨rfl,rfl,_⟩:=Dz
 have hlt:s< σ.boxes.length:=(List.getElem?_eq_some_iff.1 hs).1
 refine Cw (w':=w.setRow b (c.toList.take o++vs++c.toList.drop (o+vs.length)).toArray) hI hb hlt ⟨rfl,rfl,rfl,by simp,fun j _ hj=>setRow_other w b j _ (fun h=>hj (by rw[h]))⟩ (fun lh=>⟨fun _=>⟨_,e,setRow_heap w b c _ e _ hc, ?_, ?_, ?_⟩,fun h=>by omega⟩) t x (hx _)
  (kf (g:=b) (fun j _ hj=>setRow_other w b j _ hj) fun k ⟨cc,e',h1,h2⟩=>⟨_,e,setRow_heap w b c _ e _ hc,by
   rw[hc]at h1
   simp only[Option.some.injEq,Obj.cells.injEq]at h1
   obtain⟨rfl,_,_⟩:=h1
   simp
   omega⟩)
 ·rw[mR _ _ _ hle]
  simp
  omega
 ·intro i y hi hy
  rw[mR _ _ _ hle]at hi
  rw[iw _ _ _ _ (by omega)]at hy
  split at hy
  ·exact h1 _ (List.mem_of_getElem? hy)
  ·exact RZ _ _ hi hy
 ·intro i y u hy hu
  rw[iw _ _ _ _ (by omega)]at hy
  rw[xQ _ _ _ _ hle,←hl]at hu
  split at hy
  ·rename_i hh;rw[if_pos hh]at hu;exact lh _ _ (hr _ _ _ hy hu)
  ·rename_i hh;rw[if_neg hh]at hu;exact lh _ _ (Wx _ _ _ hy hu)
theorem Q0{σ:St}{ty:TypeId}{g:Bool}{n:Nat}{x y:Value}{u v:T}{σ':St}{t:T}(hI:Inv P W S0 S β φ σ.boxes w)(ha:gK P ty=some (g,n))(hx:ak S w β φ x u)(hy:ak S w β φ y v)
  (h:(match(generalizing:=false) u,cellsOf v with
   | .ref s off,some ns=>match σ.boxes[s]? with
    |some (some cs)=>if ns.length=n∧off+n≤cs.length∧ns.all T.one then some (T.undef,{σ with boxes:=σ.boxes.set s (some (setCells cs off ns))})else none
    |_=>none
   |_,_=>none)=some (t,σ')):∃w',(Instr.storeAt ty x y).run P w= .ok () w'∧ax P W S0 S β φ w σ σ' t undef w':=by
 cases hv:cellsOf v with
 |none=>rw[hv]at h;cases u<;>simp at h
 |some ns=>
  rw[hv]at h
  cases hx with
  |ref _ _ s off b hb hp=>
   simp only at h
   cases hs:σ.boxes[s]? with
   |none=>simp[hs]at h
   |some ob=>
    cases ob with
    |none=>simp[hs]at h
    |some cs=>
     simp only[hs]at h
     split at h
     ·rename_i hh
      obtain⟨hn,hle,bF⟩:=hh
      simp only[Option.some.injEq,Prod.mk.injEq]at h
      obtain⟨rfl,rfl⟩:=h
      obtain⟨hz1,y3,hz3⟩:=Ec hy hv bF
      obtain⟨c,e,hc,hsz,h1,hr⟩:=mQ hI hb hp hs
      obtain⟨_,h2,_⟩:=mO (w:=w) ha
      refine⟨_, ?_,Ef hI hb hp hs hc (vs:=y.cells.toList) (ns:=ns) (by simpa using hz1) (by omega) (fun v hv=> ?_) (fun i z q hz hq=>hz3 i z q (by simpa using hz) hq) _ _ (fun w'=> .undef ..)⟩
      ·simp only[Instr.storeAt,Instr.sureAddr,Sem.run_bind,Sem.run_pure,Result.andThen_ok,storeVar,h2,hz1,hn,ne_eq,not_true,if_false]
       exact AL hc (by simp;omega) (fun v hv=>by
        obtain⟨i,hi⟩:=List.mem_iff_getElem?.1 hv
        exact y3 i v (by simpa using hi))
      ·obtain⟨i,hi⟩:=List.mem_iff_getElem?.1 hv
       exact y3 i v (by simpa using hi)
     ·cases h
  |_=>simp at h
end
end Go.Vi
end
