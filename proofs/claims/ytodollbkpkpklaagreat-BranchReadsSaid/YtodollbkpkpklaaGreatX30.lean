/-
  A claim's own text, joined by a small program out of: AwakeZ.
-/
import Derived.Test.YtodollbkpkpklaaGreatX26
import Derived.Test.YtodollbkpkpklaaGreatX19
import Derived.Test.YtodollbkpkpklaaGreatX29
set_option linter.unusedVariables false
set_option linter.unusedSimpArgs false
section
set_option maxRecDepth 1000000
namespace Go.Vi.Zz
open Go Go.Vi Go.Proofs
theorem eok:Ua Tryz.prog E:=⟨fun f fF h=>Sx h,fun f g args r h hg=>by
 unfold E kJ at h
 simp only at h
 split at h
 ·rename_i hf
  simp only[Option.some.injEq]at h
  subst h hf
  exact Ra args r hg
 ·split at h
  ·rename_i hf
   simp only[Option.some.injEq]at h
   subst h hf
   exact Yr args r hg
  ·split at h
   ·rename_i hf
    simp only[Option.some.injEq]at h
    subst h hf
    exact Rb args r hg
   ·split at h<;>try(cases h;done)
    rename_i hf
    simp only[Option.some.injEq]at h
    subst h hf
    exact Uc args r hg⟩
theorem ab2:Ev E fT [] (.v (.bool true)):=Run.aj5
end Go.Vi.Zz
end
