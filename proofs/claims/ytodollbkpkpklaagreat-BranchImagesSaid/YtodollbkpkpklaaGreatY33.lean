/-
  A claim's own text, joined by a small program out of: RowI, ImagesZ.
-/
import Derived.Test.YtodollbkpkpklaaGreatY22
import Derived.Test.YtodollbkpkpklaaGreatY32
set_option linter.unusedVariables false
set_option linter.unusedSimpArgs false
section
namespace Go.Vi.Sz
open Go Go.Vi Go.Vi.Zz Go.Proofs
open Go.ChangeShapes Go.WideShapes Go.ChangeAt Go.RowKit
set_option maxRecDepth 1000000
theorem wf_u8{n:Int}(hw:(Lit.int .u8 n).wf=true):n=((UInt8.ofNat n.toNat).toNat:Int):=by
 have h1:0≤n∧n≤255:=by simpa [Lit.wf,IntKind.min,IntKind.max,IntKind.signed,IntKind.bits]using hw
 rw[UInt8.toNat_ofNat',Nat.mod_eq_of_lt (by omega),Int.toNat_of_nonneg h1.1]
theorem Qm(w:World)(v0 v1:Value)(bs:List UInt8)(n1:UInt8)(h0:ak (fun b _=>b< w.heap.size) w bn cD v0 (sl eB bs))(h1:v1= .int .u8 n1.toNat):
  Calls Tryz.prog 5 #[v0,v1] w fun e w'=>e= .returned (.bool true)∧Below w.heap.size w w':=by
 obtain⟨k,hk⟩:=Jk acv bs n1
 have hs:=jY eok k _ _ _ hk
 unfold Sound at hs
 rw[if_pos A9]at hs
 have hc:Calls Tryz.prog 5 #[v0,v1] w _:=hs.2 w (fun b _=>b< w.heap.size) #[v0,v1] (fun _ _ h=>h) rfl fun i x t hx ht=>by
  match i,hx,ht with
  |0,hx,ht=>simp at hx ht;subst hx;subst ht;exact h0
  |1,hx,ht=>simp at hx ht;subst hx;subst ht;subst h1;exact .v _ _ _
  |k+2,hx,ht=>simp at hx
 refine hc.mono fun e w' ⟨x,he,hb,S',φ,_,_,hr,_⟩=> ?_
 cases hr
 exact⟨he,hb⟩
theorem MZ(os:Os)(started:os.Started)(H:Type)(enc:TypeId×Value→H):
  ReturnsInHanded {} Tryz.checked os 5 .any (Go.Proofs.YtodollbkpkpklaaGreat.Rows.branchImagesSpec.pre6 enc Tryz.prog Tryz.f5 [] false)
   (Go.Proofs.YtodollbkpkpklaaGreat.Rows.branchImagesSpec.post enc Tryz.prog Tryz.f5 false true false false):=by
 refine returnsInHanded_of_change (C:=Tryz.checked) own started (by kernel_rfl) Tryz.func5 ?_ ?_
 ·obtain⟨w,tape,i,h1,h2,h3,h4,⟨⟨hp,_⟩,hs⟩,ha⟩:=ChangeSpec.witness_at (enc:=enc) (C:=Tryz.checked) (os:=os) (f:=5) (fn:=Tryz.f5) (s:=Go.Proofs.YtodollbkpkpklaaGreat.Rows.branchImagesSpec) (conds:=[]) (apart:=false) (X:=fun _ _=>True) false (World.laidAll Tryz.prog os [])
   #[.slice none 0 0,.int .u8 0] 8
   rfl (by kernel_rfl) (by kernel_rfl) (by kernel_rfl) (by kernel_rfl) (by kernel_rfl) trivial
  exact⟨w,tape,i,h1,h2,h3,h4,⟨hp,hs⟩,ha⟩
 intro W base args ds gs before akO hW _ _
 have rB:∀(j:Nat) t v,Tryz.f5.params[j]? =some t→args[j]? =some v→Value.okWide Tryz.prog W .any base t v:=akO
 have hW':=hW
 obtain⟨p,q,tW,hV,rfl,hfz,Ly⟩:=hW
 have hA:DataW.TrodAll enc Tryz.prog W 0 (fun _=>true) true Tryz.f5.params.toList args.toList ds p:=tW
 rw[Tryz.params5]at hA rB
 obtain⟨v0,vs0,d0,ds0,p0,q0,gq,rfl,rfl,h0,t0⟩:=trodAll_cons hA
 obtain⟨v1,vs1,d1,DL,p1,q1,rfl,rfl,rfl,h1,t1⟩:=trodAll_cons t0
 obtain⟨rfl,rfl,rfl⟩:=trodAll_nil t1
 obtain rfl:args=#[v0,v1]:=by cases args;simp_all
 obtain⟨rfl,rfl⟩:=trodVars_none hV
 have lt:∀{t v d ps},DataW.Trod enc Tryz.prog W 0 (fun _=>true) true t v d ps→∀x∈ps,x.block< W.heap.size:=fun⟨m,hm⟩=>DataW.trod_lt m _ _ _ hm
 obtain⟨bs,-,r0⟩:=Bq akN Tryz.underlying37 (rB 0 37 v0 rfl rfl) h0
 obtain⟨m1,e1,-,-,vw⟩:=open_int Tryz.underlying5 (rB 1 5 v1 rfl rfl) h1
 obtain⟨n1,r1⟩:∃b:UInt8,v1= .int .u8 b.toNat:=⟨UInt8.ofNat m1.toNat,by rw[e1,←wf_u8 vw]⟩
 refine(Qm W v0 v1 bs n1 r0 r1).mono fun e W' ⟨he,lz⟩=> ?_
 subst he
 exact⟨_,rfl,_,_,_,[],_,[],hW',trodAll_mk1 (shut_bool Tryz.underlying4 _),
  trodAll_cons_mk (Below.trod laidOut (by kernel_rfl) (of_decide_eq_true (by kernel_rfl)) h0 lz (lt h0)) (trodAll_cons_mk (Below.trod laidOut (by kernel_rfl) (of_decide_eq_true (by kernel_rfl)) h1 lz (lt h1)) trodAll_mk0),
  rfl,lz.frame _,fun h=>by cases h⟩
theorem Vw:Go.Proofs.YtodollbkpkpklaaGreat.Rows.BranchImagesSaid:=
 OpenClaim.holds_of_wide 5 Tryz.f5 rfl rfl rfl rfl rfl rfl rfl ⟨rfl,rfl,rfl,rfl,rfl⟩ rfl rfl rfl rfl rfl (by kernel_rfl) Tryz.func5 (by kernel_rfl)
  (of_decide_eq_true (by kernel_rfl)) (by unfold Func.isWrapper;first|(rw[if_pos (by decide+kernel)];kernel_rfl)|(rw[if_neg (by decide+kernel)];exact⟨rfl,rfl⟩))
  (fun os started H enc _=>MZ os started H enc)
end Go.Vi.Sz
end
section
namespace Go.Proofs.YtodollbkpkpklaaGreat
theorem branchImages_holds:Rows.BranchImagesSaid:=Go.Vi.Sz.Vw
end Go.Proofs.YtodollbkpkpklaaGreat
end
