/-
  A claim's own text, joined by a small program out of: RowB.
-/
import Derived.Test.YtodollbkpkpklaaGreatRows
import Derived.Test.YtodollbkpkpklaaGreatX30
import Derived.Test.YtodollbkpkpklaaGreatX3
import Derived.Test.YtodollbkpkpklaaGreatX31
import Derived.ProofKit
import Derived.Handed
import Derived.Lay
import Derived.LaidHandle
import Derived.LaidLaws
import Derived.OpenShut
set_option linter.unusedVariables false
set_option linter.unusedSimpArgs false
section
namespace Go.Vi.Sz
open Go Go.Vi Go.Vi.Zz Go.Proofs
open Go.ChangeShapes Go.WideShapes Go.ChangeAt Go.RowKit
set_option maxRecDepth 1000000
section
variable{H:Type}{enc:TypeId×Value→H}{w:World}
theorem c3:Tryz.prog.cellsOf 3=1:=by kernel_rfl
theorem c5:Tryz.prog.cellsOf 5=1:=by kernel_rfl
theorem c23:Tryz.prog.cellsOf 23=4:=by kernel_rfl
theorem c37:Tryz.prog.cellsOf 37=1:=by kernel_rfl
theorem tI:uO enc Tryz.prog w 3 (fun n:Int=>[.v (.int .i64 n)]) (fun n=>(Lit.int .i64 n).wf=true):=Z4 Tryz.underlying3
theorem tG:uO enc Tryz.prog w 23 eG (fun _=>True):=by
 intro fuel cs x h
 obtain⟨xs,n,-,-,hl,hx,hf⟩:=DataW.trod_struct Tryz.underlying23 h
 rw[c23]at hl
 have hx:xs.length=4:=hx
 obtain⟨a0,-,r0⟩:=vI c3 rfl tI (by omega) (hf 0 _ rfl)
 obtain⟨a1,-,r1⟩:=vI c3 rfl tI (by omega) (hf 1 _ rfl)
 obtain⟨a2,-,r2⟩:=vI c3 rfl tI (by omega) (hf 2 _ rfl)
 obtain⟨a3,-,r3⟩:=vI c3 rfl tI (by omega) (hf 3 _ rfl)
 exact⟨⟨a0,a1,a2,a3⟩,trivial,zI r0 (zI r1 (zI r2 (zI r3 (aeG (Nat.le_of_eq hl)))))⟩
theorem akb:uO enc Tryz.prog w 37 (fun l:List UInt8=>[sl eB l]) (fun l=>l.length≤maxLen∧∀a∈l,True):=GN Tryz.underlying37 c5 (by omega) (Ve Tryz.underlying5) Jh
theorem Vf{t:TypeId}{fs:Array Field}{α:Type}{en:α→List T}{ok:α→Prop}{r:Reach}{b0:Nat}{v:Value}{d:DataW H}{ps:List MemPlace}(hT:uO enc Tryz.prog w t en ok)
  (hu:Tryz.prog.underlying t=some (.struct fs)) (mP:Value.okWide Tryz.prog w r b0 t v) (h:DataW.Trod enc Tryz.prog w 0 (fun _=>true) true t v d ps):∃a,ok a∧ak (fun b _=>b< w.heap.size) w bj cz v (.agg (en a)):=by
 obtain⟨cs,rfl,-⟩:=okWide_struct hu mP
 obtain⟨fuel,hf⟩:=h
 obtain⟨a,ha,hr⟩:=hT hf
 have hr:Rel w cs.toList (en a):=hr
 refine⟨a,ha,.agg _ _ _ _ (by simpa using Cy hr) (fun i x hx=> ?_) fun i x t hx ht=>(x7 hr i x t (by simpa using hx) ht).2⟩
 have hi:i< (en a).length:=by
  rw[←Cy hr]
  simpa using(Array.getElem?_eq_some_iff.1 hx).1
 exact(x7 hr i x _ (by simpa using hx) (List.getElem?_eq_getElem hi)).1
theorem AS{t e:TypeId}{α:Type}{en:α→T}{ok:α→Prop}{r:Reach}{b0:Nat}{v:Value}{d:DataW H}{ps:List MemPlace}(hT:uO enc Tryz.prog w t (fun a=>[en a]) ok)
  (hu:Tryz.prog.underlying t=some (.slice e)) (mP:Value.okWide Tryz.prog w r b0 t v) (h:DataW.Trod enc Tryz.prog w 0 (fun _=>true) true t v d ps):∃a,ok a∧ak (fun b _=>b< w.heap.size) w bj cz v (en a):=by
 have hc:v.cells=#[v]:=by
  cases v with
  |agg cs=>simp[Value.okWide,hu,Cell.okWide,Cell.ok]at mP
  |_=>rfl
 obtain⟨fuel,hf⟩:=h
 obtain⟨a,ha,hr⟩:=hT hf
 rw[hc]at hr
 exact⟨a,ha,(x7 hr 0 v (en a) rfl rfl).2⟩
end
theorem own:ownKnob Tryz.prog.godebug=none:=by kernel_rfl
theorem laidOut:laidOutB Tryz.prog=true:=by kernel_rfl
theorem akc{H:Type}{enc:TypeId×Value→H}{w:World}:uO enc Tryz.prog w 24 (fun l:List (List UInt8)=>[sl eS l]) (fun l=>l.length≤maxLen∧∀a∈l,(a.length≤maxLen∧∀b∈a,True)):=GN Tryz.underlying24 c37 (by omega) akb Z2
end Go.Vi.Sz
end
