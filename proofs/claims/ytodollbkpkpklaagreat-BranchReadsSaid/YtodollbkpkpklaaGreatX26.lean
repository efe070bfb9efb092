/-
  A claim's own text, joined by a small program out of: PzValid.
-/
import Derived.Test.YtodollbkpkpklaaGreatX24
import Derived.Test.YtodollbkpkpklaaGreatX7
import Derived.Test.YtodollbkpkpklaaGreatX25
import Derived.Maps.RangeRun
import Derived.Laws.IdiomRangeMap
import Derived.Laws.StructEq
import Derived.WalkKit
import Derived.LoopTactic
import Derived.LoopN
import Derived.KernelRfl
set_option linter.unusedVariables false
set_option linter.unusedSimpArgs false
section
set_option maxRecDepth 1000000
namespace Go.Vi.Zz
open Go Go.Vi Go.Proofs Go.RowKit
theorem acW:Tryz.prog.underlying 117=some (.map 3 123):=by kernel_rfl
structure ajZ(w w1:World)(b:Nat)(es:Array MapEntry)(clock:Nat):Prop where
 below:Below w.heap.size w w1
 map:w1.heap[b]? =some (.map es clock)
 born:Nr es.toList clock
def yX(ino k:Int)(v:Value):Bool:=match v with
 | .agg a=>(match a.toList with
  | [.int .i64 p,.int .i64 q]=>p==ino&&q==k
  |_=>false)
 |_=>false
set_option maxHeartbeats 4000000 in
theorem UT(w:World)(lv bv:Value)(ino k:Int)(bb:Bool)
  (cO:Calls Tryz.prog 64 #[lv,bv] w fun e w1=>∃b es clock,e= .returned (.map (some b))∧ajZ w w1 b es clock∧(∀x∈es.toList,∃p q:Int,x.val= .agg #[.int .i64 p,.int .i64 q])∧bb=es.toList.any fun x=>yX ino k x.val):
  Calls Tryz.prog 91 #[lv,bv,.int .i64 ino,.int .i64 k] w fun e w'=>e= .returned (.bool bb)∧Below w.heap.size w w':=by
 have aqz:=run_underlying acW
 have mixed:Tryz.prog.follows .mixedOrders=true:=by kernel_rfl
 have e64:∀args w,(callFunc 64 args).run Tryz.prog w= .ok (.enter 64 args) w:=enters_of (f:=64) (fn:=Tryz.f64) (by kernel_rfl) rfl rfl
 have aqA:∀w,(isAgg 123).run Tryz.prog w= .ok true w:=fun w=>by kernel_rfl
 have aqB:∀w,(Go.sizeOf 123).run Tryz.prog w= .ok 2 w:=fun w=>by kernel_rfl
 have aqC:∀w,(zeroValue 123).run Tryz.prog w= .ok (.agg #[.int .i64 0,.int .i64 0]) w:=fun w=>by kernel_rfl
 have hf:Tryz.prog.funcs[91]? =some Tryz.f91:=by kernel_rfl
 have hn:Tryz.f91.ntmps=24:=rfl
 go_enter hf,hn
 go_wp2_with (first
  |(go_at_fn 64;refine cO.mono ?_;rintro e w1 ⟨b,es,clock,rfl,ho,mP,Gq⟩;have hrg:=run_range_map (P:=Tryz.prog) w1 117 3 123 b es clock acW ho.map;have hblt:b< w1.heap.size:=(Array.getElem?_eq_some_iff.1 ho.map).1;have hwsz:=ho.below.size))
 go_loopw [] (fun wr=>∃seen:Array Nat,wr.heap[w1.heap.size]? =some (.mapIter (some b) clock seen clock)∧wr.heap[b]? =some (.map es clock)∧Below w.heap.size w wr∧∀x∈es.toList,seen.contains x.born=true→yX ino k x.val=false)
  (fun wr=>(leftOf es (wr.iterSeen w1.heap.size)).size)
 case atStart=>exact⟨#[],heap_alloc_new w1 _,by rw[heap_alloc_old w1 _ hblt];exact ho.map,ho.below.alloc hwsz _,fun x _ h=>by simp at h⟩
 case round=>
  obtain⟨seen,hr,hb,J3,hno⟩:=hrel
  have aj0:wr.iterSeen w1.heap.size=seen:=by simp[World.iterSeen,hr]
  rcases run_next_at (P:=Tryz.prog) wr 0 w1.heap.size b clock clock seen es clock hr hb ho.born.2 (Nat.le_refl _)with⟨h0,hrun⟩|⟨e,he,w2,EL,hrun⟩
  ·have D9:∀ty,(Instr.next (.pointer (some ⟨w1.heap.size,0,none⟩)) false ty).run Tryz.prog wr=_:=fun _=>hrun
   go_wp2
   go_ret
   have hf:(es.toList.any fun x=>yX ino k x.val)=false:=by
    rw[List.any_eq_false]
    intro x hx
    have:=hno x hx (all_seen es seen h0 x hx)
    simp[this]
   rw[Gq,hf]
   exact⟨rfl,J3⟩
  ·obtain⟨p,q,KS⟩:=mP e (mem_left he).1
   obtain⟨W2,Yu⟩:∃W2,ChangeMaps.setBlock w2 w1.heap.size (.mapIter (some b) clock (seen.push e.born) clock)=W2:=⟨_,rfl⟩
   rw[Yu]at hrun
   have D9:∀ty,(Instr.next (.pointer (some ⟨w1.heap.size,0,none⟩)) false ty).run Tryz.prog wr=_:=fun _=>hrun
   have aog:w1.heap.size< wr.heap.size:=(Array.getElem?_eq_some_iff.1 hr).1
   have jy:w2.heap=wr.heap∧w2.os=wr.os∧w2.tape=wr.tape∧w2.output=wr.output:=by rcases EL with rfl|rfl<;>exact⟨rfl,rfl,rfl,rfl⟩
   have eu:W2.heap[w1.heap.size]? =some (.mapIter (some b) clock (seen.push e.born) clock):=by
    rw[←Yu]
    simp[ChangeMaps.setBlock,jy.1,aog]
   have tn:W2.heap[b]? =some (.map es clock):=by
    rw[←Yu]
    simp only[ChangeMaps.setBlock,jy.1]
    rw[Array.getElem?_setIfInBounds_ne (by omega)]
    exact hb
   have MO:Below w.heap.size w W2:=by
    rw[←Yu]
    refine⟨jy.2.1.trans J3.os,jy.2.2.1.trans J3.tape,jy.2.2.2.trans J3.output,by simp[ChangeMaps.setBlock,jy.1];exact J3.size,fun j hj=> ?_⟩
    simp only[ChangeMaps.setBlock,jy.1]
    rw[Array.getElem?_setIfInBounds_ne (by omega)]
    exact J3.block j hj
   have oO:=run_entry_at (P:=Tryz.prog) W2 w1.heap.size b clock seen es clock e eu tn (mem_left he).1 ho.born.1
   rw[KS]at oO
   have fin:∀o:Obj,yX ino k e.val=false→(∃seen,(W2.alloc o).heap[w1.heap.size]? =some (.mapIter (some b) clock seen clock)∧(W2.alloc o).heap[b]? =some (.map es clock)∧Below w.heap.size w (W2.alloc o)∧
     ∀x∈es.toList,seen.contains x.born=true→yX ino k x.val=false)∧(leftOf es ((W2.alloc o).iterSeen w1.heap.size)).size< (leftOf es (wr.iterSeen w1.heap.size)).size:=fun o hf=>by
    have Dk:(W2.alloc o).heap[w1.heap.size]? =some (.mapIter (some b) clock (seen.push e.born) clock):=by
     rw[heap_alloc_old W2 _ (Array.getElem?_eq_some_iff.1 eu).1];exact eu
    refine⟨⟨seen.push e.born,Dk,by rw[heap_alloc_old W2 _ (Array.getElem?_eq_some_iff.1 tn).1];exact tn,MO.alloc MO.size _,fun x hx hc=> ?_⟩, ?_⟩
    ·rw[contains_push]at hc
     rcases Bool.or_eq_true _ _▸hc with h1|h1
     ·exact hno x hx h1
     ·have:x=e:=born_inj ho.born.1 hx (mem_left he).1 (beq_iff_eq.1 h1)
      rw[this]
      exact hf
    ·have:(W2.alloc o).iterSeen w1.heap.size=seen.push e.born:=by simp only[World.iterSeen,Dk]
     rw[this,aj0]
     exact left_shrinks es seen e he
   clear hrun Yu
   go_wp2
   ·rename_i h1 h2
    go_ret
    have ht:(es.toList.any fun x=>yX ino k x.val)=true:=List.any_eq_true.2 ⟨e,(mem_left he).1,by rw[KS];simp[yX,h1,h2]⟩
    rw[Gq,ht]
    exact⟨rfl,MO.alloc MO.size _⟩
   ·rename_i h1 h2
    exact fin _ (by rw[KS];simp[yX,h2])
   ·rename_i h1
    exact fin _ (by rw[KS];simp[yX,h1])
theorem abV{S:Nat→Nat→Prop}{w:World}{β:aY}{φ:bw}{x:Value}{a b:Value}(h:ak S w β φ x (.agg [.v a,.v b])):x= .agg #[a,b]:=by
 generalize ht:T.agg [.v a,.v b]=t at h
 cases h with
 |agg _ _ xs ts hl h1 h=>
  cases ht
  match xs,hl,h with
  |⟨[p,q]⟩,_,h=>
   have e1:=cy (h 0 p _ rfl rfl)
   have e2:=cy (h 1 q _ rfl rfl)
   rw[e1,e2]
 |_=>cases ht
theorem IX{S:Nat→Nat→Prop}{w:World}{β:aY}{φ:bw}{ino k:Int}:∀{es:List MapEntry} {ts:List T} {bb:Bool},fO S w β φ es ts→Cw ino k ts=some bb→
  (∀x∈es,∃p q:Int,x.val= .agg #[.int .i64 p,.int .i64 q])∧bb=es.any fun x=>yX ino k x.val
 |_,_,_,.nil,h=>by
  simp only[Cw,Option.some.injEq]at h
  exact⟨fun x hx=>(by cases hx),by rw[←h];rfl⟩
 |_,_,_,.cons e es kt vt ts hk hv vF,h=>by
  unfold Cw at h
  split at h
  ·rename_i h';cases h'
  ·rename_i k' a b es' heq
   cases heq
   obtain⟨r,hr,rfl⟩:=Option.map_eq_some_iff.1 h
   obtain⟨i1,i2⟩:=IX vF hr
   have mP:=abV hv
   refine⟨fun x hx=> ?_, ?_⟩
   ·rcases List.mem_cons.1 hx with rfl|hx
    ·exact⟨_,_,mP⟩
    ·exact i1 x hx
   ·rw[List.any_cons,mP,←i2]
    simp[yX]
  ·cases h
theorem Rb(args:List T)(r:T)(h:UU args=some r):Sound Tryz.prog oz args r:=by
 unfold UU at h
 split at h<;>try(cases h;done)
 rename_i n cs blocks ino k
 obtain⟨fl,b9,h⟩:=Option.bind_eq_some_iff.1 h
 split at h<;>try(cases h;done)
 rename_i hn
 simp only[Option.some.injEq]at h
 obtain⟨l,fu,mX,Wt,R1⟩:=Sz.SA n cs fl b9
 subst fu mX Wt
 obtain⟨N,hC⟩:=Sz.LP (fun _=>none) rfl rfl rfl rfl l hn R1 blocks
 have hes:er (([T.undef,.agg (Sz.eM (Sz.gN blocks (Sz.tF (Sz.bu l))))]:List T).getD 1 .undef)=some (Sz.eM (Sz.gN blocks (Sz.tF (Sz.bu l)))):=rfl
 have Gq:Cw ino k (Sz.eM (Sz.gN blocks (Sz.tF (Sz.bu l))))=some (dr (Sz.bu l) blocks ino k):=by rw[Sz.abW,Sz.Yv]
 change aW E0 N _ _=_ at hC
 generalize Sz.eM (Sz.gN blocks (Sz.tF (Sz.bu l)))=es at hC hes Gq
 generalize ([T.undef,.agg es]:List T)=outs at hC hes
 generalize dr (Sz.bu l) blocks ino k=bb at h Gq
 subst h
 generalize l.length=n at*
 generalize l.flatMap Sz.eI=cs at*
 generalize fG:T.v (.int .i64 blocks)=bl at*
 generalize hlm:1=lm at hC hes
 have Da:=jI agG _ _ _ _ hC
 unfold Sound at Da⊢
 rw[if_neg (Nat.not_lt.2 (Nat.le_add_right _ _)),Nat.add_sub_cancel_left]at Da
 rw[if_pos (by decide)]
 rcases Da with⟨as1,ins,r',acG,he,xj,hio⟩|⟨caps,ys,he,_⟩
 ·simp only[List.cons.injEq,T.an.injEq,and_true]at he xj
  obtain⟨rfl,rfl⟩:=he
  obtain⟨rfl,rfl⟩:=xj
  refine⟨by kernel_rfl,fun w S vs hS hsz cj=> ?_⟩
  obtain⟨x0,x1,x2,x3,rfl⟩:∃a b c d,vs=#[a,b,c,d]:=by
   match vs,hsz with
   |⟨[a,b,c,d]⟩,_=>exact⟨a,b,c,d,rfl⟩
  have e2:=cy (cj 2 x2 _ rfl rfl)
  have e3:=cy (cj 3 x3 _ rfl rfl)
  subst e2 e3
  have hI:=En (P:=Tryz.prog) w S hS 0
  have iZ:=hio.2 ⟨w,fun b=>b< w.heap.size,0,bj,w.heap.size⟩ S bj cz #[x0,x1] hI rfl (fun i x t hx ht=>by
   match i,hx,ht with
   |0,hx,ht=>exact cj 0 x t hx ht
   |1,hx,ht=>exact cj 1 x t hx ht
   |i+2,hx,_=>simp at hx)
  have US:=UT w x0 x1 ino k bb (Calls.mono iZ fun e w1 ⟨x,S',β',φ',he,hJ,hx,_⟩=>by
   generalize ht:T.aQ lm=t at hx
   cases hx with
   |aQ _ _ s b hb hp=>
    cases ht
    obtain⟨_,_,bW,h3,h4⟩:=hJ.box lm b hb
    obtain⟨ee,clock,q1,q2,q3⟩:=h4.2 hp
    have aG:bW=es:=by
     have:(outs.map er)[lm]? =some (some bW):=h3
     rw[List.getElem?_map]at this
     obtain⟨o,ho,xh⟩:=Option.map_eq_some_iff.1 this
     have hd:outs.getD lm .undef=o:=by simp[List.getD_eq_getElem?_getD,ho]
     rw[hd,xh]at hes
     exact Option.some.inj hes
    subst aG
    obtain⟨f1,f2⟩:=IX q2 Gq
    exact⟨b,ee,clock,he,⟨⟨hJ.below.os,hJ.below.tape,hJ.below.output,hJ.below.size,fun j hj=>hJ.below.block j hj⟩,q1,q3⟩,f1,f2⟩
   |_=>cases ht)
  refine Calls.mono US fun e w' ⟨he,hb⟩=>⟨_,he,hb,S,cz,fun b o h=> .inl h,fun b o h=>Nat.lt_of_lt_of_le (hS b o h) hb.size,.v ..,(fun k x e hk=>by cases hk),(fun k k' x x' e e' hk=>by cases hk)⟩
 ·simp at he
end Go.Vi.Zz
end
