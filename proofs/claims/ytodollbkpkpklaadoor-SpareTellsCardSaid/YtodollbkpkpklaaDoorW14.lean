/-
  A claim's own text, joined by a small program out of: DdE.
-/
import Derived.Test.YtodollbkpkpklaaDoorW10
import Derived.Test.YtodollbkpkpklaaDoorW13
import Derived.Test.YtodollbkpkpklaaDoorW9
set_option linter.unusedVariables false
set_option linter.unusedSimpArgs false
section
/-
  The environment of seat D.
-/
set_option maxRecDepth 1000000
namespace Go.Vi.Dd
open Go Go.Vi

def prim (f : FuncId) : Option (List T → Option T) := if f = ioBase + F_slices_Insert_Entry then some (insP 3) else none
def E : Env := ⟨code, prim⟩
end Go.Vi.Dd
end
