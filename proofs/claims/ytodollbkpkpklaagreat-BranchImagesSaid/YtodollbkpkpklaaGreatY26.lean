/-
  A claim's own text, joined by a small program out of: PzValid.
-/
import Derived.Test.YtodollbkpkpklaaGreatY24
import Derived.Test.YtodollbkpkpklaaGreatY7
import Derived.Test.YtodollbkpkpklaaGreatY25
import Derived.Maps.RangeRun
import Derived.Laws.IdiomRangeMap
import Derived.Laws.StructEq
import Derived.WalkKit
import Derived.LoopTactic
import Derived.LoopN
import Derived.KernelRfl
set_option linter.unusedVariables false
set_option linter.unusedSimpArgs false
section
set_option maxRecDepth 1000000
namespace Go.Vi.Zz
open Go Go.Vi Go.Proofs Go.RowKit
theorem adq:Tryz.prog.underlying 117=some (.map 3 123):=by kernel_rfl
structure akz(w w1:World)(b:Nat)(es:Array MapEntry)(clock:Nat):Prop where
 below:Below w.heap.size w w1
 map:w1.heap[b]? =some (.map es clock)
 born:NR es.toList clock
def zy(ino k:Int)(v:Value):Bool:=match v with
 | .agg a=>(match a.toList with
  | [.int .i64 p,.int .i64 q]=>p==ino&&q==k
  |_=>false)
 |_=>false
set_option maxHeartbeats 4000000 in
theorem Va(w:World)(lv bv:Value)(ino k:Int)(bb:Bool)
  (cO:Calls Tryz.prog 64 #[lv,bv] w fun e w1=>∃b es clock,e= .returned (.map (some b))∧akz w w1 b es clock∧(∀x∈es.toList,∃p q:Int,x.val= .agg #[.int .i64 p,.int .i64 q])∧bb=es.toList.any fun x=>zy ino k x.val):
  Calls Tryz.prog 91 #[lv,bv,.int .i64 ino,.int .i64 k] w fun e w'=>e= .returned (.bool bb)∧Below w.heap.size w w':=by
 have ari:=run_underlying adq
 have mixed:Tryz.prog.follows .mixedOrders=true:=by kernel_rfl
 have e64:∀args w,(callFunc 64 args).run Tryz.prog w= .ok (.enter 64 args) w:=enters_of (f:=64) (fn:=Tryz.f64) (by kernel_rfl) rfl rfl
 have arj:∀w,(isAgg 123).run Tryz.prog w= .ok true w:=fun w=>by kernel_rfl
 have ark:∀w,(Go.sizeOf 123).run Tryz.prog w= .ok 2 w:=fun w=>by kernel_rfl
 have arl:∀w,(zeroValue 123).run Tryz.prog w= .ok (.agg #[.int .i64 0,.int .i64 0]) w:=fun w=>by kernel_rfl
 have hf:Tryz.prog.funcs[91]? =some Tryz.f91:=by kernel_rfl
 have hn:Tryz.f91.ntmps=24:=rfl
 go_enter hf,hn
 go_wp2_with (first
  |(go_at_fn 64;refine cO.mono ?_;rintro e w1 ⟨b,es,clock,rfl,ho,rB,GQ⟩;have hrg:=run_range_map (P:=Tryz.prog) w1 117 3 123 b es clock adq ho.map;have hblt:b< w1.heap.size:=(Array.getElem?_eq_some_iff.1 ho.map).1;have hwsz:=ho.below.size))
 go_loopw [] (fun wr=>∃seen:Array Nat,wr.heap[w1.heap.size]? =some (.mapIter (some b) clock seen clock)∧wr.heap[b]? =some (.map es clock)∧Below w.heap.size w wr∧∀x∈es.toList,seen.contains x.born=true→zy ino k x.val=false)
  (fun wr=>(leftOf es (wr.iterSeen w1.heap.size)).size)
 case atStart=>exact⟨#[],heap_alloc_new w1 _,by rw[heap_alloc_old w1 _ hblt];exact ho.map,ho.below.alloc hwsz _,fun x _ h=>by simp at h⟩
 case round=>
  obtain⟨seen,hr,hb,Ks,hno⟩:=hrel
  have akA:wr.iterSeen w1.heap.size=seen:=by simp[World.iterSeen,hr]
  rcases run_next_at (P:=Tryz.prog) wr 0 w1.heap.size b clock clock seen es clock hr hb ho.born.2 (Nat.le_refl _)with⟨h0,hrun⟩|⟨e,he,w2,Fj,hrun⟩
  ·have EC:∀ty,(Instr.next (.pointer (some ⟨w1.heap.size,0,none⟩)) false ty).run Tryz.prog wr=_:=fun _=>hrun
   go_wp2
   go_ret
   have hf:(es.toList.any fun x=>zy ino k x.val)=false:=by
    rw[List.any_eq_false]
    intro x hx
    have:=hno x hx (all_seen es seen h0 x hx)
    simp[this]
   rw[GQ,hf]
   exact⟨rfl,Ks⟩
  ·obtain⟨p,q,Lj⟩:=rB e (mem_left he).1
   obtain⟨W2,YK⟩:∃W2,ChangeMaps.setBlock w2 w1.heap.size (.mapIter (some b) clock (seen.push e.born) clock)=W2:=⟨_,rfl⟩
   rw[YK]at hrun
   have EC:∀ty,(Instr.next (.pointer (some ⟨w1.heap.size,0,none⟩)) false ty).run Tryz.prog wr=_:=fun _=>hrun
   have aoX:w1.heap.size< wr.heap.size:=(Array.getElem?_eq_some_iff.1 hr).1
   have jN:w2.heap=wr.heap∧w2.os=wr.os∧w2.tape=wr.tape∧w2.output=wr.output:=by rcases Fj with rfl|rfl<;>exact⟨rfl,rfl,rfl,rfl⟩
   have dN:W2.heap[w1.heap.size]? =some (.mapIter (some b) clock (seen.push e.born) clock):=by
    rw[←YK]
    simp[ChangeMaps.setBlock,jN.1,aoX]
   have tO:W2.heap[b]? =some (.map es clock):=by
    rw[←YK]
    simp only[ChangeMaps.setBlock,jN.1]
    rw[Array.getElem?_setIfInBounds_ne (by omega)]
    exact hb
   have Nh:Below w.heap.size w W2:=by
    rw[←YK]
    refine⟨jN.2.1.trans Ks.os,jN.2.2.1.trans Ks.tape,jN.2.2.2.trans Ks.output,by simp[ChangeMaps.setBlock,jN.1];exact Ks.size,fun j hj=> ?_⟩
    simp only[ChangeMaps.setBlock,jN.1]
    rw[Array.getElem?_setIfInBounds_ne (by omega)]
    exact Ks.block j hj
   have ua:=run_entry_at (P:=Tryz.prog) W2 w1.heap.size b clock seen es clock e dN tO (mem_left he).1 ho.born.1
   rw[Lj]at ua
   have fin:∀o:Obj,zy ino k e.val=false→(∃seen,(W2.alloc o).heap[w1.heap.size]? =some (.mapIter (some b) clock seen clock)∧(W2.alloc o).heap[b]? =some (.map es clock)∧Below w.heap.size w (W2.alloc o)∧
     ∀x∈es.toList,seen.contains x.born=true→zy ino k x.val=false)∧(leftOf es ((W2.alloc o).iterSeen w1.heap.size)).size< (leftOf es (wr.iterSeen w1.heap.size)).size:=fun o hf=>by
    have xW:(W2.alloc o).heap[w1.heap.size]? =some (.mapIter (some b) clock (seen.push e.born) clock):=by
     rw[heap_alloc_old W2 _ (Array.getElem?_eq_some_iff.1 dN).1];exact dN
    refine⟨⟨seen.push e.born,xW,by rw[heap_alloc_old W2 _ (Array.getElem?_eq_some_iff.1 tO).1];exact tO,Nh.alloc Nh.size _,fun x hx hc=> ?_⟩, ?_⟩
    ·rw[contains_push]at hc
     rcases Bool.or_eq_true _ _▸hc with h1|h1
     ·exact hno x hx h1
     ·have:x=e:=born_inj ho.born.1 hx (mem_left he).1 (beq_iff_eq.1 h1)
      rw[this]
      exact hf
    ·have:(W2.alloc o).iterSeen w1.heap.size=seen.push e.born:=by simp only[World.iterSeen,xW]
     rw[this,akA]
     exact left_shrinks es seen e he
   clear hrun YK
   go_wp2
   ·rename_i h1 h2
    go_ret
    have ht:(es.toList.any fun x=>zy ino k x.val)=true:=List.any_eq_true.2 ⟨e,(mem_left he).1,by rw[Lj];simp[zy,h1,h2]⟩
    rw[GQ,ht]
    exact⟨rfl,Nh.alloc Nh.size _⟩
   ·rename_i h1 h2
    exact fin _ (by rw[Lj];simp[zy,h2])
   ·rename_i h1
    exact fin _ (by rw[Lj];simp[zy,h1])
theorem ach{S:Nat→Nat→Prop}{w:World}{β:aX}{φ:bB}{x:Value}{a b:Value}(h:ak S w β φ x (.agg [.v a,.v b])):x= .agg #[a,b]:=by
 generalize ht:T.agg [.v a,.v b]=t at h
 cases h with
 |agg _ _ xs ts hl h1 h=>
  cases ht
  match xs,hl,h with
  |⟨[p,q]⟩,_,h=>
   have e1:=cA (h 0 p _ rfl rfl)
   have e2:=cA (h 1 q _ rfl rfl)
   rw[e1,e2]
 |_=>cases ht
theorem Jm{S:Nat→Nat→Prop}{w:World}{β:aX}{φ:bB}{ino k:Int}:∀{es:List MapEntry} {ts:List T} {bb:Bool},fZ S w β φ es ts→C8 ino k ts=some bb→
  (∀x∈es,∃p q:Int,x.val= .agg #[.int .i64 p,.int .i64 q])∧bb=es.any fun x=>zy ino k x.val
 |_,_,_,.nil,h=>by
  simp only[C8,Option.some.injEq]at h
  exact⟨fun x hx=>(by cases hx),by rw[←h];rfl⟩
 |_,_,_,.cons e es kt vt ts hk hv wq,h=>by
  unfold C8 at h
  split at h
  ·rename_i h';cases h'
  ·rename_i k' a b es' heq
   cases heq
   obtain⟨r,hr,rfl⟩:=Option.map_eq_some_iff.1 h
   obtain⟨i1,i2⟩:=Jm wq hr
   have rB:=ach hv
   refine⟨fun x hx=> ?_, ?_⟩
   ·rcases List.mem_cons.1 hx with rfl|hx
    ·exact⟨_,_,rB⟩
    ·exact i1 x hx
   ·rw[List.any_cons,rB,←i2]
    simp[zy]
  ·cases h
theorem Rt(args:List T)(r:T)(h:Vb args=some r):Sound Tryz.prog oP args r:=by
 unfold Vb at h
 split at h<;>try(cases h;done)
 rename_i n cs blocks ino k
 obtain⟨fl,ct,h⟩:=Option.bind_eq_some_iff.1 h
 split at h<;>try(cases h;done)
 rename_i hn
 simp only[Option.some.injEq]at h
 obtain⟨l,fg,nx,WO,Si⟩:=Sz.SV n cs fl ct
 subst fg nx WO
 obtain⟨N,hC⟩:=Sz.Mg (fun _=>none) rfl rfl rfl rfl l hn Si blocks
 have hes:eD (([T.undef,.agg (Sz.eM (Sz.gU blocks (Sz.tF (Sz.bz l))))]:List T).getD 1 .undef)=some (Sz.eM (Sz.gU blocks (Sz.tF (Sz.bz l)))):=rfl
 have GQ:C8 ino k (Sz.eM (Sz.gU blocks (Sz.tF (Sz.bz l))))=some (dw (Sz.bz l) blocks ino k):=by rw[Sz.aci,Sz.YL]
 change aV E0 N _ _=_ at hC
 generalize Sz.eM (Sz.gU blocks (Sz.tF (Sz.bz l)))=es at hC hes GQ
 generalize ([T.undef,.agg es]:List T)=outs at hC hes
 generalize dw (Sz.bz l) blocks ino k=bb at h GQ
 subst h
 generalize l.length=n at*
 generalize l.flatMap Sz.eI=cs at*
 generalize fS:T.v (.int .i64 blocks)=bl at*
 generalize hlm:1=lm at hC hes
 have DD:=jY ahg _ _ _ _ hC
 unfold Sound at DD⊢
 rw[if_neg (Nat.not_lt.2 (Nat.le_add_right _ _)),Nat.add_sub_cancel_left]at DD
 rw[if_pos (by decide)]
 rcases DD with⟨as1,ins,r',ac7,he,xS,hio⟩|⟨caps,ys,he,_⟩
 ·simp only[List.cons.injEq,T.al.injEq,and_true]at he xS
  obtain⟨rfl,rfl⟩:=he
  obtain⟨rfl,rfl⟩:=xS
  refine⟨by kernel_rfl,fun w S vs hS hsz cj=> ?_⟩
  obtain⟨x0,x1,x2,x3,rfl⟩:∃a b c d,vs=#[a,b,c,d]:=by
   match vs,hsz with
   |⟨[a,b,c,d]⟩,_=>exact⟨a,b,c,d,rfl⟩
  have e2:=cA (cj 2 x2 _ rfl rfl)
  have e3:=cA (cj 3 x3 _ rfl rfl)
  subst e2 e3
  have hI:=EV (P:=Tryz.prog) w S hS 0
  have jl:=hio.2 ⟨w,fun b=>b< w.heap.size,0,bn,w.heap.size⟩ S bn cD #[x0,x1] hI rfl (fun i x t hx ht=>by
   match i,hx,ht with
   |0,hx,ht=>exact cj 0 x t hx ht
   |1,hx,ht=>exact cj 1 x t hx ht
   |i+2,hx,_=>simp at hx)
  have U9:=Va w x0 x1 ino k bb (Calls.mono jl fun e w1 ⟨x,S',β',φ',he,hJ,hx,_⟩=>by
   generalize ht:T.aQ lm=t at hx
   cases hx with
   |aQ _ _ s b hb hp=>
    cases ht
    obtain⟨_,_,b9,h3,h4⟩:=hJ.box lm b hb
    obtain⟨ee,clock,q1,q2,q3⟩:=h4.2 hp
    have aF:b9=es:=by
     have:(outs.map eD)[lm]? =some (some b9):=h3
     rw[List.getElem?_map]at this
     obtain⟨o,ho,sh⟩:=Option.map_eq_some_iff.1 this
     have hd:outs.getD lm .undef=o:=by simp[List.getD_eq_getElem?_getD,ho]
     rw[hd,sh]at hes
     exact Option.some.inj hes
    subst aF
    obtain⟨f1,f2⟩:=Jm q2 GQ
    exact⟨b,ee,clock,he,⟨⟨hJ.below.os,hJ.below.tape,hJ.below.output,hJ.below.size,fun j hj=>hJ.below.block j hj⟩,q1,q3⟩,f1,f2⟩
   |_=>cases ht)
  refine Calls.mono U9 fun e w' ⟨he,hb⟩=>⟨_,he,hb,S,cD,fun b o h=> .inl h,fun b o h=>Nat.lt_of_lt_of_le (hS b o h) hb.size,.v ..,(fun k x e hk=>by cases hk),(fun k k' x x' e e' hk=>by cases hk)⟩
 ·simp at he
end Go.Vi.Zz
end
