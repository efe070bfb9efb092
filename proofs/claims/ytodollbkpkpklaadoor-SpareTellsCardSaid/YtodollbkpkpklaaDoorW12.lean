/-
  A claim's own text, joined by a small program out of: Vj28.
-/
import Derived.Test.YtodollbkpkpklaaDoorW0
set_option linter.unusedVariables false
set_option linter.unusedSimpArgs false
section
/-
  A VERIFIED INTERPRETER (part 28): more fuel does no harm.
-/
set_option linter.unusedSimpArgs false
set_option linter.unusedVariables false
namespace Go.Vi
open Go

abbrev CallF := FuncId → List T → Option T
def Le (C C' : CallF) : Prop := ∀ f a r, C f a = some r → C' f a = some r

theorem callV_mono {C C' : CallF} (h : Le C C') {f : FuncId} {a : List T} {r : T} (e : callV C f a = some r) : callV C' f a = some r := by
  unfold callV at e ⊢
  split at e
  · rename_i hl; rw [if_pos hl]; exact h _ _ _ e
  · cases e

theorem callT_mono {C C' : CallF} (h : Le C C') {σ : St} {d : Nat} {f : FuncId} {a : List T} {p : T × St} (e : runOp.callT C σ d f a = some p) : runOp.callT C' σ d f a = some p := by
  unfold runOp.callT at e ⊢
  simp only [Option.bind_eq_bind, Option.bind_eq_some_iff] at e ⊢
  obtain ⟨cs, h1, r, h2, h3⟩ := e
  exact ⟨cs, h1, r, callV_mono h h2, h3⟩

theorem callNew_mono {C C' : CallF} (h : Le C C') {σ : St} {d : Nat} {ad : List Nat} {f : FuncId} {a : List T} {p : T × St} (e : runOp.callNew C σ d ad f a = some p) : runOp.callNew C' σ d ad f a = some p := by
  unfold runOp.callNew at e ⊢
  split at e
  · cases e
  · rename_i hr
    rw [if_neg hr]
    split at e <;> try (cases e; done)
    rename_i r outs hc
    rw [h _ _ _ hc]
    exact e

theorem callIO_mono {C C' : CallF} (h : Le C C') {σ : St} {d : Nat} {ad : List Nat} {f : FuncId} {a : List T} {p : T × St} (e : runOp.callIO C σ d ad f a = some p) : runOp.callIO C' σ d ad f a = some p := by
  unfold runOp.callIO at e ⊢
  simp only at e ⊢
  split at e <;> try (cases e; done)
  rename_i r outs hc
  rw [h _ _ _ hc]
  exact e

theorem runOp_mono {C C' : CallF} (h : Le C C') {σ : St} {o : IOp} {p : T × St} (e : runOp C σ o = some p) : runOp C' σ o = some p := by
  cases o <;> try exact e
  case call d f as => exact callT_mono h e
  case callv d f as =>
    simp only [runOp] at e ⊢
    split at e <;> try (cases e; done)
    rename_i hc
    try rw [hc]
    exact callT_mono h e
  case callnew d ad f as => exact callNew_mono h e
  case callio d ad f as => exact callIO_mono h e
  case callvio d ad f as =>
    simp only [runOp] at e ⊢
    split at e <;> try (cases e; done)
    rename_i hc
    try rw [hc]
    exact callIO_mono h e

theorem runOps_mono {C C' : CallF} (h : Le C C') : ∀ {ops : List (Option (Nat × Bool) × IOp)} {σ σ' : St}, runOps C σ ops = some σ' → runOps C' σ ops = some σ'
  | [], σ, σ', e => e
  | (g, o) :: rest, σ, σ', e => by
    simp only [runOps, Option.bind_eq_some_iff] at e ⊢
    obtain ⟨go, h1, h2⟩ := e
    refine ⟨go, h1, ?_⟩
    split at h2
    · rename_i hg
      rw [if_pos hg]
      obtain ⟨p, h3, h4⟩ := Option.bind_eq_some_iff.1 h2
      exact Option.bind_eq_some_iff.2 ⟨p, runOp_mono h h3, runOps_mono h h4⟩
    · rename_i hg
      rw [if_neg hg]
      exact runOps_mono h h2

theorem runReg_mono {C C' : CallF} (h : Le C C') {σ σ' : St} {r : Reg} (e : runReg C σ r = some σ') : runReg C' σ r = some σ' := by
  unfold runReg at e ⊢
  simp only [Option.bind_eq_bind, Option.bind_eq_some_iff] at e ⊢
  obtain ⟨s, h1, h2⟩ := e
  exact ⟨s, runOps_mono h h1, h2⟩

theorem loopN_mono {f f' : St → Option Out} (h : ∀ σ o, f σ = some o → f' σ = some o) : ∀ {n m : Nat} {σ : St} {o : Out}, n ≤ m → loopN f n σ = some o → loopN f' m σ = some o
  | 0, _, _, _, _, e => by simp [loopN] at e
  | n + 1, 0, _, _, hm, _ => by omega
  | n + 1, m + 1, σ, o, hm, e => by
    simp only [loopN] at e ⊢
    cases hf : f σ with
    | none => rw [hf] at e; cases e
    | some x =>
      rw [hf] at e
      rw [h _ _ hf]
      cases x with
      | norm σ' => exact loopN_mono h (by omega) e
      | exit => exact e
      | ret => exact e

theorem jumpN_mono {f f' : St → Option Out} {id : Nat} (h : ∀ σ o, f σ = some o → f' σ = some o) : ∀ {n m : Nat} {σ : St} {o : Out}, n ≤ m → jumpN f id n σ = some o → jumpN f' id m σ = some o
  | 0, _, _, _, _, e => by simp [jumpN] at e
  | n + 1, 0, _, _, hm, _ => by omega
  | n + 1, m + 1, σ, o, hm, e => by
    simp only [jumpN] at e ⊢
    cases hf : f σ with
    | none => rw [hf] at e; cases e
    | some x =>
      rw [hf] at e
      rw [h _ _ hf]
      cases x with
      | norm σ' => exact e
      | exit j σ' =>
        simp only at e ⊢
        split at e
        · rename_i hj; rw [if_pos hj]; exact jumpN_mono h (by omega) e
        · rename_i hj; rw [if_neg hj]; exact e
      | ret => exact e

theorem roundsN_mono {f f' : St → Option Out} (h : ∀ σ o, f σ = some o → f' σ = some o) {K : Nat} {ps : List Nat} : ∀ {ys vars : List T} {bx : List (Option (List T))} {σ : St}, roundsN f K ps ys vars bx = some σ → roundsN f' K ps ys vars bx = some σ
  | [], _, _, _, e => e
  | t :: ys, vars, bx, σ, e => by
    cases t <;> try (simp only [roundsN] at e; cases e; done)
    simp only [roundsN] at e ⊢
    split at e <;> try (cases e; done)
    rename_i hl
    rw [if_pos hl]
    split at e <;> try (cases e; done)
    rename_i σ' hf
    rw [h _ _ hf]
    exact roundsN_mono h e

theorem exec_mono {C C' : CallF} (h : Le C C') {n m : Nat} (hm : n ≤ m) : ∀ {c : IC} {σ : St} {o : Out}, exec C n c σ = some o → exec C' m c σ = some o
  | .skip, _, _, e => e
  | .reg r, _, _, e => by
    simp only [exec, Option.map_eq_some_iff] at e ⊢
    obtain ⟨s, h1, h2⟩ := e
    exact ⟨s, runReg_mono h h1, h2⟩
  | .seq a b, σ, o, e => by
    simp only [exec] at e ⊢
    cases ha : exec C n a σ with
    | none => rw [ha] at e; cases e
    | some x =>
      rw [ha] at e
      rw [exec_mono h hm ha]
      cases x with
      | norm σ' => exact exec_mono h hm e
      | exit => exact e
      | ret => exact e
  | .cond c a b, σ, o, e => by
    simp only [exec] at e ⊢
    split at e <;> try (cases e; done)
    split at e
    · rename_i ht; rw [if_pos ht]; exact exec_mono h hm e
    · rename_i ht; rw [if_neg ht]; exact exec_mono h hm e
  | .block id a, σ, o, e => by
    simp only [exec] at e ⊢
    cases ha : exec C n a σ with
    | none => rw [ha] at e; cases e
    | some x => rw [ha] at e; rw [exec_mono h hm ha]; exact e
  | .loop a, σ, o, e => by
    simp only [exec] at e ⊢
    exact loopN_mono (fun σ o => exec_mono h hm) hm e
  | .nojump a, σ, o, e => by
    simp only [exec] at e ⊢
    cases ha : exec C n a σ with
    | none => rw [ha] at e; cases e
    | some x => rw [ha] at e; rw [exec_mono h hm ha]; exact e
  | .jumps id a b, σ, o, e => by
    simp only [exec] at e ⊢
    cases ha : exec C n a σ with
    | none => rw [ha] at e; cases e
    | some x =>
      rw [ha] at e
      rw [exec_mono h hm ha]
      cases x with
      | norm σ' => exact e
      | exit j σ' =>
        simp only at e ⊢
        split at e
        · rename_i hj; rw [if_pos hj]; exact jumpN_mono (fun σ o => exec_mono h hm) hm e
        · rename_i hj; rw [if_neg hj]; exact e
      | ret => exact e
  | .range K g ps a b, σ, o, e => by
    simp only [exec] at e ⊢
    split at e <;> try (cases e; done)
    obtain ⟨cs, h1, h2⟩ := Option.bind_eq_some_iff.1 e
    refine Option.bind_eq_some_iff.2 ⟨cs, h1, ?_⟩
    split at h2 <;> try (cases h2; done)
    rename_i ys hy
    rw [h _ _ _ hy]
    obtain ⟨s, h3, h4⟩ := Option.map_eq_some_iff.1 h2
    refine Option.map_eq_some_iff.2 ⟨s, roundsN_mono (fun σ o ho => ?_) h3, h4⟩
    split at ho <;> try (cases ho; done)
    rename_i σ1 ha
    rw [exec_mono h hm ha]
    exact exec_mono h hm ho
  | .exit .., _, _, e => e
  | .ret, _, _, e => e
  | .kill .., _, _, e => e
  | .free .., _, _, e => e

theorem plainY_mono {C C' : CallF} (h : Le C C') {σ : St} {o : IOp} {p : T × St × List (List T)} (e : plainY C σ o = some p) : plainY C' σ o = some p := by
  unfold plainY at e ⊢
  split at e
  · rename_i hr
    rw [if_pos hr]
    obtain ⟨q, h1, h2⟩ := Option.bind_eq_some_iff.1 e
    exact Option.bind_eq_some_iff.2 ⟨q, runOp_mono h h1, h2⟩
  · cases e

theorem opY_mono {C C' : CallF} (h : Le C C') {l : Nat} {σ : St} {o : IOp} {p : T × St × List (List T)} (e : opY C l σ o = some p) : opY C' l σ o = some p := by
  unfold opY at e ⊢
  split at e
  · split at e
    · rename_i hy; rw [if_pos hy]; exact e
    · rename_i hy; rw [if_neg hy]; exact plainY_mono h e
  · exact e
  · exact e
  · exact plainY_mono h e

theorem opsY_mono {C C' : CallF} (h : Le C C') {l : Nat} : ∀ {ops : List (Option (Nat × Bool) × IOp)} {σ : St} {q : St × List (List T)}, opsY C l σ ops = some q → opsY C' l σ ops = some q
  | [], σ, q, e => e
  | (g, o) :: rest, σ, q, e => by
    simp only [opsY, Option.bind_eq_some_iff] at e ⊢
    obtain ⟨go, h1, h2⟩ := e
    refine ⟨go, h1, ?_⟩
    split at h2
    · rename_i hg
      rw [if_pos hg]
      obtain ⟨p, h3, h4⟩ := Option.bind_eq_some_iff.1 h2
      obtain ⟨q', h5, h6⟩ := Option.map_eq_some_iff.1 h4
      exact Option.bind_eq_some_iff.2 ⟨p, opY_mono h h3, Option.map_eq_some_iff.2 ⟨q', opsY_mono h h5, h6⟩⟩
    · rename_i hg
      rw [if_neg hg]
      exact opsY_mono h h2

theorem loopY_mono {f f' : St → Option (Out × List (List T))} (h : ∀ σ o, f σ = some o → f' σ = some o) : ∀ {n m : Nat} {σ : St} {o : Out × List (List T)}, n ≤ m → loopY f n σ = some o → loopY f' m σ = some o
  | 0, _, _, _, _, e => by simp [loopY] at e
  | n + 1, 0, _, _, hm, _ => by omega
  | n + 1, m + 1, σ, o, hm, e => by
    simp only [loopY] at e ⊢
    cases hf : f σ with
    | none => rw [hf] at e; cases e
    | some x =>
      rw [hf] at e
      rw [h _ _ hf]
      obtain ⟨x, ys⟩ := x
      cases x with
      | norm σ' =>
        obtain ⟨q, h1, h2⟩ := Option.map_eq_some_iff.1 e
        exact Option.map_eq_some_iff.2 ⟨q, loopY_mono h (by omega) h1, h2⟩
      | exit => exact e
      | ret => exact e

theorem execY_mono {C C' : CallF} (h : Le C C') {n m l : Nat} (hm : n ≤ m) : ∀ {c : IC} {σ : St} {o : Out × List (List T)}, execY C l n c σ = some o → execY C' l m c σ = some o
  | .skip, _, _, e => e
  | .reg r, _, _, e => by
    simp only [execY] at e ⊢
    obtain ⟨q, h1, h2⟩ := Option.bind_eq_some_iff.1 e
    exact Option.bind_eq_some_iff.2 ⟨q, opsY_mono h h1, h2⟩
  | .seq a b, σ, o, e => by
    simp only [execY] at e ⊢
    cases ha : execY C l n a σ with
    | none => rw [ha] at e; cases e
    | some x =>
      rw [ha] at e
      rw [execY_mono h hm ha]
      obtain ⟨x, ys⟩ := x
      cases x with
      | norm σ' =>
        obtain ⟨q, h1, h2⟩ := Option.map_eq_some_iff.1 e
        exact Option.map_eq_some_iff.2 ⟨q, execY_mono h hm h1, h2⟩
      | exit => exact e
      | ret => exact e
  | .cond c a b, σ, o, e => by
    simp only [execY] at e ⊢
    split at e <;> try (cases e; done)
    split at e
    · rename_i ht; rw [if_pos ht]; exact execY_mono h hm e
    · rename_i ht; rw [if_neg ht]; exact execY_mono h hm e
  | .block id a, σ, o, e => by
    simp only [execY] at e ⊢
    cases ha : execY C l n a σ with
    | none => rw [ha] at e; cases e
    | some x => rw [ha] at e; rw [execY_mono h hm ha]; exact e
  | .loop a, σ, o, e => by
    simp only [execY] at e ⊢
    exact loopY_mono (fun σ o => execY_mono h hm) hm e
  | .nojump a, σ, o, e => by
    simp only [execY] at e ⊢
    cases ha : execY C l n a σ with
    | none => rw [ha] at e; cases e
    | some x => rw [ha] at e; rw [execY_mono h hm ha]; exact e
  | .exit .., _, _, e => e
  | .ret, _, _, e => e
  | .kill .., _, _, e => e
  | .free .., _, _, e => e
  | .jumps .., _, _, e => by simp only [execY] at e; cases e
  | .range .., _, _, e => by simp only [execY] at e; cases e

theorem mapM_monoW {α γ : Type} {f f' : α → Option γ} (h : ∀ a r, f a = some r → f' a = some r) : ∀ {xs : List α} {ys : List γ}, xs.mapM f = some ys → xs.mapM f' = some ys
  | [], ys, e => by simpa using e
  | x :: xs, ys, e => by
    simp only [List.mapM_cons, Option.bind_eq_bind, Option.bind_eq_some_iff, Option.pure_def] at e ⊢
    obtain ⟨a, h1, b, h2, h3⟩ := e
    exact ⟨a, h _ _ h1, b, mapM_monoW h h2, h3⟩

theorem runSplit_mono {split : Bool} {args : List T} {f f' : List T → Option T} (h : ∀ a r, f a = some r → f' a = some r) {r : T} (e : runSplit split args f = some r) : runSplit split args f' = some r := by
  unfold runSplit at e ⊢
  split at e
  · rename_i hs
    rw [if_pos hs]
    cases hm : (splits args).mapM f with
    | none => rw [hm] at e; cases e
    | some rs => rw [mapM_monoW h hm]; rw [hm] at e; exact e
  · rename_i hs
    rw [if_neg hs]
    exact h _ _ e

theorem callN_mono {E : Env} : ∀ {n m : Nat}, n ≤ m → Le (callN E n) (callN E m)
  | 0, _, _ => fun f a r e => by simp [callN] at e
  | n + 1, 0, hm => by omega
  | n + 1, m + 1, hm => fun f a r e => by
    have ih : Le (callN E n) (callN E m) := callN_mono (by omega)
    have hm' : n ≤ m := by omega
    simp only [callN] at e ⊢
    split at e
    · exact e
    · split at e
      · rename_i hl
        rw [if_pos hl]
        split at e <;> try (cases e; done)
        refine runSplit_mono (fun a r e => ?_) e
        unfold runFn at e ⊢
        split at e <;> try (cases e; done)
        rename_i hp
        rw [if_pos hp]
        split at e
        · rename_i he; rw [exec_mono ih hm' he]; exact e
        · rename_i he; rw [exec_mono ih hm' he]; exact e
        · cases e
      · rename_i hl
        rw [if_neg hl]
        split at e
        · refine runSplit_mono (fun a r e => ?_) e
          unfold runIO at e ⊢
          simp only at e ⊢
          split at e <;> try (cases e; done)
          rename_i hp
          rw [if_pos hp]
          split at e
          · rename_i he; rw [exec_mono ih hm' he]; exact e
          · rename_i he; rw [exec_mono ih hm' he]; exact e
          · cases e
        · obtain ⟨ys, h1, h2⟩ := Option.map_eq_some_iff.1 e
          refine Option.map_eq_some_iff.2 ⟨ys, ?_, h2⟩
          unfold runSeq at h1 ⊢
          split at h1 <;> try (cases h1; done)
          rename_i hp
          rw [if_pos hp]
          split at h1
          · rename_i he; rw [execY_mono ih hm' he]; exact h1
          · rename_i he; rw [execY_mono ih hm' he]; exact h1
          · cases h1
        · cases e

end Go.Vi
end
