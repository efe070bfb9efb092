/-
  A claim's own text, joined by a small program out of: AwakeZ.
-/
import Derived.Test.YtodollbkpkpklaaGreatW17
import Derived.Test.YtodollbkpkpklaaGreatW19
set_option linter.unusedVariables false
set_option linter.unusedSimpArgs false
section
/-
  The environment of seat Z is sound; the closed run.
-/
set_option maxRecDepth 1000000
namespace Go.Vi.Zz
open Go Go.Vi Go.Proofs

theorem eok : EnvOK Tryz.prog E := ⟨fun f ifn h => code_ok h, fun f g args r h hg => by
  unfold E prim at h
  simp only at h
  split at h
  · rename_i hf
    simp only [Option.some.injEq] at h
    subst h hf
    exact chunk_sound args r hg
  · split at h
    · rename_i hf
      simp only [Option.some.injEq] at h
      subst h hf
      exact idx_sound args r hg
    · split at h <;> try (cases h; done)
      rename_i hf
      simp only [Option.some.injEq] at h
      subst h hf
      exact valid_sound args r hg⟩

theorem awake_ev : Ev E F_law12_awake [] (.v (.bool true)) := Run.s_7_0
end Go.Vi.Zz
end
