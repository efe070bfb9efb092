/-
  A claim's own text, joined by a small program out of: PzChunk, PzChunk2.
-/
import Derived.Test.YtodollbkpkpklaaGreatY23
import Derived.Test.YtodollbkpkpklaaGreatY3
import Derived.RangeFuncMany
import Derived.RangeFuncLeaves
import Derived.WalkKit
import Derived.OwnWalkIn
import Derived.TacticsInMore
import Derived.RegionIn
import Derived.LoopNIn
import Derived.LoopIn
import Derived.KernelRfl
import Derived.Shelf.SlLaysY
import Derived.Sort.MapsRangeIn
import Derived.Sort.KeysCollected
set_option linter.unusedVariables false
set_option linter.unusedSimpArgs false
section
set_option maxRecDepth 1000000
namespace Go.Vi.Zz
open Go Go.Vi Go.Proofs Go.RowKit
theorem aoU:Tryz.prog.underlying 37=some (.slice 5):=by kernel_rfl
theorem zu3:Tryz.prog.underlying 3=some (.int .i64):=by kernel_rfl
set_option maxHeartbeats 4000000 in
theorem U8(F:Fence)(GH:F.round=none)(arf:F.depth.isSome=false)(h77:F.fn 77)(l:Nat)(w:World)(S:Nat→Nat→Prop)(p1 p2:Addr)(sv:Value)(N c K:Nat)(m:Nat)(hK:0< K)(WS:K≤1048576)(hN:N≤1048576)
  (h1:∀W:World,(∀b o,S b o→∀sp v,w.cell? ⟨b,o,sp⟩=some v→W.cell? ⟨b,o,sp⟩=some v)→W.cell? p1=some sv∧W.cell? p2=some (.int .i64 (K:Int)))
  (J:Nat→(Nat→Prop)→World→Prop) (n:Nat) (hJ0:J 0 (fun _=>False) w) (akx:∀i W,J i (fun _=>False) W→J i (fun _=>False) W.drew) (base:Option Addr) (hsv:sv= .slice base N c) (aky:base=none→N=0∧c=0) (hNc:N≤c)
  (hy:∀i W,i*K< N→J i (fun _=>False) W→∀n a,base=some a→YieldAt F n Tryz.prog l #[.slice (some (a.add (i*K))) (min K (N-i*K)) (min K (N-i*K))] W fun e W'=>e= .returned (.bool true)∧J (i+1) (fun _=>False) W'∧zV S (fun _=>False) W W'):
  CallsIn F n Tryz.prog 77 #[.func (.yield l) #[] #[],.pointer (some p1),.pointer (some p2)] w fun e W'=>(∃v,e= .returned v)∧∃m,N≤m*K∧m*K< N+K∧J m (fun _=>False) W':=by
 have u37:=run_underlying aoU
 have u3:=run_underlying zu3
 have a37:∀w,(isAgg 37).run Tryz.prog w= .ok false w:=fun w=>by kernel_rfl
 have z37:∀w,(Go.sizeOf 37).run Tryz.prog w= .ok 1 w:=fun w=>by kernel_rfl
 have a3:∀w,(isAgg 3).run Tryz.prog w= .ok false w:=fun w=>by kernel_rfl
 have z3:∀w,(Go.sizeOf 3).run Tryz.prog w= .ok 1 w:=fun w=>by kernel_rfl
 have a5:∀w,(isAgg 5).run Tryz.prog w= .ok false w:=fun w=>by kernel_rfl
 have z5:∀w,(Go.sizeOf 5).run Tryz.prog w= .ok 1 w:=fun w=>by kernel_rfl
 have mixed:Tryz.prog.follows .mixedOrders=true:=by kernel_rfl
 refine callsIn_of_wp (fn:=Tryz.f77) (by kernel_rfl) rfl h77 ?_ GH
 simp only[show Tryz.f77.ntmps=31 from rfl,List.size_toArray,List.length_cons,List.length_nil,Nat.reduceAdd,Nat.reduceSub,Array.replicate_succ,Array.replicate_zero,List.push_toArray,List.append_toArray,List.nil_append,List.cons_append]
 gi_wp2
 try go_frame
 gi_loopw [4,5] (fun(v4 v5:Value) (wr:World)=>∃i:Nat,v4= .int .i64 ((i*K:Nat):Int)∧i*K< N+K∧J i (fun _=>False) wr∧(∀b o,S b o→∀sp v,w.cell? ⟨b,o,sp⟩=some v→wr.cell? ⟨b,o,sp⟩=some v))
  (fun(v4 v5:Value) (_:World)=>match v4 with| .int _ i=>N+K-i.toNat|_=>0)
 case atStart=>exact⟨0,by simp,by omega,hJ0,fun _ _ _ _ _ h=>h⟩
 case round=>
  obtain⟨i,rfl,hik,hJ,ey⟩:=hrel
  obtain⟨kg,w7⟩:=h1 wr ey
  subst hsv
  by_cases hlt:i*K< N
  ·obtain⟨ad,rfl⟩:∃ad,base=some ad:=by
    cases base with
    |none=>have:=(aky rfl).1;omega
    |some ad=>exact⟨ad,rfl⟩
   gi_wp2
   have hmul:((i*K:Nat):Int)=(i:Int)*(K:Int):=Int.natCast_mul ..
   obtain⟨L,hLd⟩:∃L,min K (N-i*K)=L:=⟨_,rfl⟩
   have hL0:0< L:=by omega
   have hL1:i*K+L≤N:=by omega
   have hL2:min (K:Int) ((N-i*K:Nat):Int)=(L:Int):=by omega
   have hJd:=akx i wr hJ
   have hd1:wr.drew.cell? p1=some (Value.slice (some ad) N c):=kg
   have RW:wr.drew.cell? p2=some (.int .i64 (K:Int)):=w7
   gi_region
   all_goals
    obtain⟨fn,tmps,assign,body,yY,BE⟩:=hy i wr.drew hlt hJd (n-1) ad rfl
    rw[hLd]at yY
    clear hJ hJd hy
    gi_wp2
    refine BE.mono ?_
    rintro e W' ⟨rfl,hJ',hst⟩
    have hcell':∀b o,S b o→∀sp v,w.cell? ⟨b,o,sp⟩=some v→W'.cell? ⟨b,o,sp⟩=some v:=fun b o hS sp v hv=>hst.cell b o hS sp v (ey b o hS sp v hv)
    have arh:=(h1 W' hcell').2
    clear BE hst yY
    gi_wp2
    go_roundw
    case rel=>exact⟨i+1,by rw[Nat.add_mul,Nat.one_mul];rfl,by rw[Nat.add_mul];omega,hJ',hcell'⟩
    case measure=>
     show N+K-((i:Int)*(K:Int)+(K:Int)).toNat< N+K-((i*K:Nat):Int).toNat
     rw[←hmul]
     omega
  ·gi_wp2
   go_end0
   exact⟨⟨_,rfl⟩,i,by omega,hik,hJ⟩
end Go.Vi.Zz
end
section
set_option maxRecDepth 1000000
namespace Go.Vi.Zz
open Go Go.Vi Go.Proofs Go.RowKit
theorem SU{S:Nat→Nat→Prop}{w:World}{β:aX}{φ:bB}{x:Value}{cs:List T}{off:Nat}(h:ak S w β φ x (.ptr cs off)):
  ∃(a:Addr) (f:Nat→Value),x= .pointer (some (a.add off))∧(∀i,i< cs.length→S a.block (a.off+i)∧w.cell? (a.add i)=some (f i)∧(f i).oneCell'=true)∧∀(i:Nat) (t:T),cs[i]? =some t→ak S w bn cD (f i) t:=by
 generalize ht:T.ptr cs off=t at h
 cases h<;>cases ht
 rename_i a f hc h
 exact⟨a,f,rfl,hc,h⟩
theorem YJ{S:Nat→Nat→Prop}{w:World}{β:aX}{φ:bB}{x:Value}{g:Tag}{n:Nat}{cs:List T}(h:ak S w β φ x (.sl g n cs)):
  ∃(base:Option Addr) (c:Nat) (f:Nat→Value),x= .slice base n c∧n≤c∧(base=none→n=0∧c=0∧cs=[])∧
   ∀a,base=some a→(∀i,i< cs.length→S a.block (a.off+i)∧w.cell? (a.add i)=some (f i)∧(f i).oneCell'=true)∧∀(i:Nat) (t:T),cs[i]? =some t→ak S w bn cD (f i) t:=by
 generalize ht:T.sl g n cs=t at h
 cases h with
 |nil _ _ g hg=>cases ht;exact⟨none,0,fun _=>undef,rfl,Nat.le_refl _,fun _=>⟨rfl,rfl,rfl⟩,fun a ha=>by cases ha⟩
 |sl _ _ g a n c cs f cG hg hc h=>cases ht;exact⟨some a,c,f,rfl,cG,fun h=>(by cases h),fun a' ha=>by cases ha;exact⟨hc,h⟩⟩
 |_=>cases ht
theorem acg(a:Addr)(i:Nat):a.add i=⟨a.block,a.off+i,(a.add i).spot⟩:=by unfold Addr.add;split<;>simp_all
theorem Rs(args:List T)(r:T)(h:zx args=some r):Sound Tryz.prog (an+bg) args r:=by
 unfold zx at h
 split at h<;>try(cases h;done)
 rename_i g N cs k
 split at h<;>try(cases h;done)
 rename_i hc
 obtain⟨BB,kz,hN,hlen,hv⟩:=hc
 simp only[Option.some.injEq]at h
 subst h
 obtain⟨K,rfl⟩:∃K:Nat,k=K:=⟨k.toNat,by omega⟩
 simp only[Int.toNat_natCast]
 have hK:0< K:=by omega
 have WS:K≤1048576:=by omega
 unfold Sound
 rw[if_neg (Nat.not_lt.2 (Nat.le_add_right _ _)),Nat.add_sub_cancel_left]
 refine .inr ⟨_,(List.range ((N+K-1) / K)).map fun i=>[T.sl .clip (min K (N-i*K)) ((cs.drop (i*K)).take K)],rfl,by rw[List.map_map];rfl,by kernel_rfl, ?_⟩
 intro l w S vs hS hsz cj J hstep OC hJ0 n
 obtain⟨v1,v2,rfl⟩:∃a b,vs=#[a,b]:=by
  match vs,hsz with
  |⟨[a,b]⟩,_=>exact⟨a,b,rfl⟩
 obtain⟨a1,f1,rfl,kg,fq⟩:=SU (cj 0 v1 _ rfl rfl)
 obtain⟨a2,f2,rfl,w7,dN⟩:=SU (cj 1 v2 _ rfl rfl)
 have q2:=cA (dN 0 _ rfl)
 obtain⟨s1,s2,_⟩:=kg 0 (by simp)
 obtain⟨t1,t2,_⟩:=w7 0 (by simp)
 obtain⟨base,c,f,GF,hNc,IJ,hsome⟩:=YJ (fq 0 _ rfl)
 have iE:∀W:World,(∀b o,S b o→∀sp v,w.cell? ⟨b,o,sp⟩=some v→W.cell? ⟨b,o,sp⟩=some v)→∀(a:Addr) (i:Nat) (v:Value),S a.block (a.off+i)→w.cell? (a.add i)=some v→W.cell? (a.add i)=some v:=fun W hW a i v hs bV=>by
  rw[acg]at bV⊢
  exact hW _ _ hs _ _ bV
 let J':Nat→(Nat→Prop)→World→Prop:=fun i own W=>J i own W∧∀b o,S b o→∀sp v,w.cell? ⟨b,o,sp⟩=some v→W.cell? ⟨b,o,sp⟩=some v
 have U9:=U8 (wd none) rfl rfl trivial l w S (a1.add 0) (a2.add 0) (f1 0) N c K 0 hK WS hN
  (fun W hW=>⟨iE W hW a1 0 _ s1 s2,by rw[iE W hW a2 0 _ t1 t2,q2]⟩) J' n ⟨hJ0,fun _ _ _ _ _ h=>h⟩
  (fun i W hJ=>⟨hstep i _ _ W W.drew hJ.1 (fun b hb=>hb.elim) ⟨rfl,rfl,rfl,Nat.le_refl _,fun b h=>h,fun b h=> .inl h,fun b _ _=>rfl,fun b k h=>h⟩,hJ.2⟩)
  base GF (fun h=>⟨(IJ h).1,(IJ h).2.1⟩) hNc (fun i W hlt hJ n' a ha=>by
   obtain⟨hca,hra⟩:=hsome a ha
   have Mf:i< (N+K-1) / K:=by
    rw[Nat.lt_iff_add_one_le,Nat.le_div_iff_mul_le hK,Nat.add_mul]
    omega
   obtain⟨fn,tmps,assign,body,y1,y2⟩:=OC i [T.sl .clip (min K (N-i*K)) ((cs.drop (i*K)).take K)] (fun _=>False) W #[.slice (some (a.add (i*K))) (min K (N-i*K)) (min K (N-i*K))]
    (by simp[List.getElem?_map,List.getElem?_range Mf]) hJ.1 (fun b hb=>hb.elim) rfl (fun j x t hx ht=>by
     match j,hx,ht with
     |0,hx,ht=>
      simp at hx ht
      subst hx ht
      have aoV:∀i,i< cs.length→S a.block (a.off+i)∧W.cell? (a.add i)=some (f i)∧(f i).oneCell'=true:=fun i hi=>by
       obtain⟨k1,k2,k3⟩:=hca i hi
       exact⟨k1,iE W hJ.2 a i _ k1 k2,k3⟩
      have aoW:∀(i:Nat) (t:T),cs[i]? =some t→ak S W bn cD (f i) t:=fun i t ht=>by
       have hiv:=List.all_eq_true.1 hv t (List.mem_of_getElem? ht)
       have:=hra i t ht
       cases t with
       |v x=>rw[cA this];exact .v ..
       |_=>simp[T.A4]at hiv
      obtain⟨d1,d2⟩:=NJ aoV aoW (i*K) K
      exact .sl _ _ _ _ _ _ _ (fun j=>f (i*K+j)) (Nat.le_refl _) (.inr (.inl ⟨rfl,rfl⟩)) d1 d2
     |j+1,hx,_=>simp at hx) n'
   exact⟨fn,tmps,assign,body,y1,y2.mono fun e W' ⟨he,hJ2,hst⟩=>⟨he,⟨hJ2,fun b o hs sp v bV=>hst.cell b o hs sp v (hJ.2 b o hs sp v bV)⟩,hst⟩⟩)
 refine CallsIn.mono U9 fun e W' ⟨he,m,h1,h2,hJm⟩=>⟨he,fun _=>False,fun b hb=>hb.elim, ?_⟩
 have hm:(N+K-1) / K=m:=Nat.div_eq_of_lt_le (by omega) (by rw[Nat.add_mul];omega)
 have hl:((List.range ((N+K-1) / K)).map fun i=>[T.sl .clip (min K (N-i*K)) ((cs.drop (i*K)).take K)]).length=m:=by simp[hm]
 rw[hl]
 exact hJm.1
end Go.Vi.Zz
end
