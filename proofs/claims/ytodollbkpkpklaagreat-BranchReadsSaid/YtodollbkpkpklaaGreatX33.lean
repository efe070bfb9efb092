/-
  A claim's own text, joined by a small program out of: RowR, ReadsZ.
-/
import Derived.Test.YtodollbkpkpklaaGreatX22
import Derived.Test.YtodollbkpkpklaaGreatX32
set_option linter.unusedVariables false
set_option linter.unusedSimpArgs false
section
namespace Go.Vi.Sz
open Go Go.Vi Go.Vi.Zz Go.Proofs
open Go.ChangeShapes Go.WideShapes Go.ChangeAt Go.RowKit
set_option maxRecDepth 1000000
theorem Re(w:World)(v0 v1 v2 v3 v4:Value)(g:cA)(l:List (List UInt8))(n2:Int)(n3:Int)(n4:Int)(h0:ak (fun b _=>b< w.heap.size) w bj cz v0 (.agg (eG g)))(h1:ak (fun b _=>b< w.heap.size) w bj cz v1 (sl eS l))(h2:v2= .int .i64 n2)(h3:v3= .int .i64 n3)(h4:v4= .int .i64 n4):
  Calls Tryz.prog 3 #[v0,v1,v2,v3,v4] w fun e w'=>e= .returned (.bool true)∧Below w.heap.size w w':=by
 obtain⟨k,hk⟩:=J0 ab2 g l n2 n3 n4
 have hs:=jI eok k _ _ _ hk
 unfold Sound at hs
 rw[if_pos BL]at hs
 have hc:Calls Tryz.prog 3 #[v0,v1,v2,v3,v4] w _:=hs.2 w (fun b _=>b< w.heap.size) #[v0,v1,v2,v3,v4] (fun _ _ h=>h) rfl fun i x t hx ht=>by
  match i,hx,ht with
  |0,hx,ht=>simp at hx ht;subst hx;subst ht;exact h0
  |1,hx,ht=>simp at hx ht;subst hx;subst ht;exact h1
  |2,hx,ht=>simp at hx ht;subst hx;subst ht;subst h2;exact .v _ _ _
  |3,hx,ht=>simp at hx ht;subst hx;subst ht;subst h3;exact .v _ _ _
  |4,hx,ht=>simp at hx ht;subst hx;subst ht;subst h4;exact .v _ _ _
  |k+5,hx,ht=>simp at hx
 refine hc.mono fun e w' ⟨x,he,hb,S',φ,_,_,hr,_⟩=> ?_
 cases hr
 exact⟨he,hb⟩
theorem PY(os:Os)(started:os.Started)(H:Type)(enc:TypeId×Value→H):
  ReturnsInHanded {} Tryz.checked os 3 .any (Go.Proofs.YtodollbkpkpklaaGreat.Rows.branchReadsSpec.pre6 enc Tryz.prog Tryz.f3 [] false)
   (Go.Proofs.YtodollbkpkpklaaGreat.Rows.branchReadsSpec.post enc Tryz.prog Tryz.f3 false true false false):=by
 refine returnsInHanded_of_change (C:=Tryz.checked) own started (by kernel_rfl) Tryz.func3 ?_ ?_
 ·obtain⟨w,tape,i,h1,h2,h3,h4,⟨⟨hp,_⟩,hs⟩,ha⟩:=ChangeSpec.witness_at (enc:=enc) (C:=Tryz.checked) (os:=os) (f:=3) (fn:=Tryz.f3) (s:=Go.Proofs.YtodollbkpkpklaaGreat.Rows.branchReadsSpec) (conds:=[]) (apart:=false) (X:=fun _ _=>True) false (World.laidAll Tryz.prog os [])
   #[.agg #[.int .i64 0,.int .i64 0,.int .i64 0,.int .i64 0],.slice none 0 0,.int .i64 0,.int .i64 0,.int .i64 0] 8
   rfl (by kernel_rfl) (by kernel_rfl) (by kernel_rfl) (by kernel_rfl) (by kernel_rfl) trivial
  exact⟨w,tape,i,h1,h2,h3,h4,⟨hp,hs⟩,ha⟩
 intro W base args ds gs before akd hW _ _
 have mP:∀(j:Nat) t v,Tryz.f3.params[j]? =some t→args[j]? =some v→Value.okWide Tryz.prog W .any base t v:=akd
 have hW':=hW
 obtain⟨p,q,tA,hV,rfl,hfz,K6⟩:=hW
 have hA:DataW.TrodAll enc Tryz.prog W 0 (fun _=>true) true Tryz.f3.params.toList args.toList ds p:=tA
 rw[Tryz.params3]at hA mP
 obtain⟨v0,vs0,d0,ds0,p0,q0,ga,rfl,rfl,h0,t0⟩:=trodAll_cons hA
 obtain⟨v1,vs1,d1,Dh,p1,q1,rfl,rfl,rfl,h1,t1⟩:=trodAll_cons t0
 obtain⟨v2,vs2,d2,Be,p2,q2,rfl,rfl,rfl,h2,t2⟩:=trodAll_cons t1
 obtain⟨v3,vs3,d3,ds3,p3,q3,rfl,rfl,rfl,h3,t3⟩:=trodAll_cons t2
 obtain⟨v4,vs4,d4,ds4,p4,q4,rfl,rfl,rfl,h4,t4⟩:=trodAll_cons t3
 obtain⟨rfl,rfl,rfl⟩:=trodAll_nil t4
 obtain rfl:args=#[v0,v1,v2,v3,v4]:=by cases args;simp_all
 obtain⟨rfl,rfl⟩:=trodVars_none hV
 have lt:∀{t v d ps},DataW.Trod enc Tryz.prog W 0 (fun _=>true) true t v d ps→∀x∈ps,x.block< W.heap.size:=fun⟨m,hm⟩=>DataW.trod_lt m _ _ _ hm
 obtain⟨g,-,r0⟩:=Vf tG Tryz.underlying23 (mP 0 23 v0 rfl rfl) h0
 obtain⟨l,-,r1⟩:=AS akc Tryz.underlying24 (mP 1 24 v1 rfl rfl) h1
 obtain⟨n2,r2,-,-,-⟩:=open_int Tryz.underlying3 (mP 2 3 v2 rfl rfl) h2
 obtain⟨n3,r3,-,-,-⟩:=open_int Tryz.underlying3 (mP 3 3 v3 rfl rfl) h3
 obtain⟨n4,r4,-,-,-⟩:=open_int Tryz.underlying3 (mP 4 3 v4 rfl rfl) h4
 refine(Re W v0 v1 v2 v3 v4 g l n2 n3 n4 r0 r1 r2 r3 r4).mono fun e W' ⟨he,jX⟩=> ?_
 subst he
 exact⟨_,rfl,_,_,_,[],_,[],hW',trodAll_mk1 (shut_bool Tryz.underlying4 _),
  trodAll_cons_mk (Below.trod laidOut (by kernel_rfl) (of_decide_eq_true (by kernel_rfl)) h0 jX (lt h0)) (trodAll_cons_mk (Below.trod laidOut (by kernel_rfl) (of_decide_eq_true (by kernel_rfl)) h1 jX (lt h1)) (trodAll_cons_mk (Below.trod laidOut (by kernel_rfl) (of_decide_eq_true (by kernel_rfl)) h2 jX (lt h2)) (trodAll_cons_mk (Below.trod laidOut (by kernel_rfl) (of_decide_eq_true (by kernel_rfl)) h3 jX (lt h3)) (trodAll_cons_mk (Below.trod laidOut (by kernel_rfl) (of_decide_eq_true (by kernel_rfl)) h4 jX (lt h4)) trodAll_mk0)))),
  rfl,jX.frame _,fun h=>by cases h⟩
theorem Z6:Go.Proofs.YtodollbkpkpklaaGreat.Rows.BranchReadsSaid:=
 OpenClaim.holds_of_wide 3 Tryz.f3 rfl rfl rfl rfl rfl rfl rfl ⟨rfl,rfl,rfl,rfl,rfl⟩ rfl rfl rfl rfl rfl (by kernel_rfl) Tryz.func3 (by kernel_rfl)
  (of_decide_eq_true (by kernel_rfl)) (by unfold Func.isWrapper;first|(rw[if_pos (by decide+kernel)];kernel_rfl)|(rw[if_neg (by decide+kernel)];exact⟨rfl,rfl⟩))
  (fun os started H enc _=>PY os started H enc)
end Go.Vi.Sz
end
section
namespace Go.Proofs.YtodollbkpkpklaaGreat
theorem branchReads_holds:Rows.BranchReadsSaid:=Go.Vi.Sz.Z6
end Go.Proofs.YtodollbkpkpklaaGreat
end
