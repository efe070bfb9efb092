/-
  A claim's own text, joined by a small program out of: RowB.
-/
import Derived.Test.YtodollbkpkpklaaGreatRows
import Derived.Test.YtodollbkpkpklaaGreatY30
import Derived.Test.YtodollbkpkpklaaGreatY3
import Derived.Test.YtodollbkpkpklaaGreatY31
import Derived.ProofKit
import Derived.Handed
import Derived.Lay
import Derived.LaidHandle
import Derived.LaidLaws
import Derived.OpenShut
set_option linter.unusedVariables false
set_option linter.unusedSimpArgs false
section
namespace Go.Vi.Sz
open Go Go.Vi Go.Vi.Zz Go.Proofs
open Go.ChangeShapes Go.WideShapes Go.ChangeAt Go.RowKit
set_option maxRecDepth 1000000
section
variable{H:Type}{enc:TypeId×Value→H}{w:World}
theorem c3:Tryz.prog.cellsOf 3=1:=by kernel_rfl
theorem c5:Tryz.prog.cellsOf 5=1:=by kernel_rfl
theorem akN:JI enc Tryz.prog w 37 (fun l:List UInt8=>[sl eB l]) (fun l=>l.length≤maxLen∧∀a∈l,True):=Rv Tryz.underlying37 c5 (by omega) (Vv Tryz.underlying5) JF
theorem Bq{t e:TypeId}{α:Type}{en:α→T}{ok:α→Prop}{r:Reach}{b0:Nat}{v:Value}{d:DataW H}{ps:List MemPlace}(hT:JI enc Tryz.prog w t (fun a=>[en a]) ok)
  (hu:Tryz.prog.underlying t=some (.slice e)) (rB:Value.okWide Tryz.prog w r b0 t v) (h:DataW.Trod enc Tryz.prog w 0 (fun _=>true) true t v d ps):∃a,ok a∧ak (fun b _=>b< w.heap.size) w bn cD v (en a):=by
 have hc:v.cells=#[v]:=by
  cases v with
  |agg cs=>simp[Value.okWide,hu,Cell.okWide,Cell.ok]at rB
  |_=>rfl
 obtain⟨fuel,hf⟩:=h
 obtain⟨a,ha,hr⟩:=hT hf
 rw[hc]at hr
 exact⟨a,ha,(Gg hr 0 v (en a) rfl rfl).2⟩
end
theorem own:ownKnob Tryz.prog.godebug=none:=by kernel_rfl
theorem laidOut:laidOutB Tryz.prog=true:=by kernel_rfl
end Go.Vi.Sz
end
