/-
  A claim's own text, joined by a small program out of: AwakeZ.
-/
import Derived.Test.YtodollbkpkpklaaGreatY26
import Derived.Test.YtodollbkpkpklaaGreatY19
import Derived.Test.YtodollbkpkpklaaGreatY29
set_option linter.unusedVariables false
set_option linter.unusedSimpArgs false
section
set_option maxRecDepth 1000000
namespace Go.Vi.Zz
open Go Go.Vi Go.Proofs
theorem eok:Uq Tryz.prog E:=⟨fun f fR h=>SS h,fun f g args r h hg=>by
 unfold E kF at h
 simp only at h
 split at h
 ·rename_i hf
  simp only[Option.some.injEq]at h
  subst h hf
  exact Rs args r hg
 ·split at h
  ·rename_i hf
   simp only[Option.some.injEq]at h
   subst h hf
   exact YI args r hg
  ·split at h
   ·rename_i hf
    simp only[Option.some.injEq]at h
    subst h hf
    exact Rt args r hg
   ·split at h<;>try(cases h;done)
    rename_i hf
    simp only[Option.some.injEq]at h
    subst h hf
    exact Us args r hg⟩
theorem acv:Ev E gh [] (.v (.bool true)):=Run.akF
end Go.Vi.Zz
end
