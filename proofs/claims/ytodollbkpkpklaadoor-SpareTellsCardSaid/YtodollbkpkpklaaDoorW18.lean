/-
  A claim's own text, joined by a small program out of: AwakeD.
-/
import Derived.Test.YtodollbkpkpklaaDoorW11
import Derived.Test.YtodollbkpkpklaaDoorW14
import Derived.Test.YtodollbkpkpklaaDoorW17
set_option linter.unusedVariables false
set_option linter.unusedSimpArgs false
section
/-
  The closed run `awake`, by the interpreter; the environment is sound.
-/
set_option maxRecDepth 1000000
namespace Go.Vi.Dd
open Go Go.Vi Go.Proofs

theorem eok : EnvOK Tryd.prog E := ⟨fun f ifn h => code_ok h, fun f g args r h hg => by
  unfold E prim at h
  simp only at h
  split at h <;> try (cases h; done)
  rename_i hf
  simp only [Option.some.injEq] at h
  subst h
  exact InsD.ins_sound f args r hf hg⟩

theorem awake_run : callN E 300 F_law46_awake [] = some (T.v (.bool true)) := by kernel_rfl
end Go.Vi.Dd
end
