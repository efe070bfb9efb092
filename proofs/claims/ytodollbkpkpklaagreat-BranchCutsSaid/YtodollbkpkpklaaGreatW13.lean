/-
  A claim's own text, joined by a small program out of: Vj30, Vj31, Vj32, Vj33, Vj35, Vj36, Vj38.
-/
import Derived.Test.YtodollbkpkpklaaGreatW12
import Derived.Laws.IdiomArrays
set_option linter.unusedVariables false
set_option linter.unusedSimpArgs false
section
/-
  A VERIFIED INTERPRETER (part 30): runs told without fuel; rules to step through code.
-/
set_option linter.unusedSimpArgs false
set_option linter.unusedVariables false
namespace Go.Vi
open Go

/-- The call comes to r. -/
def Ev (E : Env) (f : FuncId) (args : List T) (r : T) : Prop := ∃ n, callN E n f args = some r
/-- The code comes to an end of which Q holds. -/
def Wp (E : Env) (c : IC) (σ : St) (Q : Out → Prop) : Prop := ∃ n o, exec (callN E n) n c σ = some o ∧ Q o
def WpOps (E : Env) (ops : List (Option (Nat × Bool) × IOp)) (σ : St) (K : St → Prop) : Prop := ∃ n σ', runOps (callN E n) σ ops = some σ' ∧ K σ'
def WpOp (E : Env) (o : IOp) (σ : St) (K : T → St → Prop) : Prop := ∃ n p, runOp (callN E n) σ o = some p ∧ K p.1 p.2
def C0 : CallF := fun _ _ => none

def thenK (K : St → Prop) (Q : Out → Prop) : Out → Prop
  | .norm σ => K σ
  | .exit j σ => Q (.exit j σ)
  | .ret σ => Q (.ret σ)
def blockK (id : Nat) (Q : Out → Prop) : Out → Prop
  | .norm σ => Q (.norm σ)
  | .exit j σ => if j = id then Q (.norm σ) else Q (.exit j σ)
  | .ret σ => Q (.ret σ)
def nojumpK (Q : Out → Prop) : Out → Prop
  | .norm σ => Q (.norm σ)
  | .exit j σ => if j < gotoBase then Q (.exit j σ) else False
  | .ret σ => Q (.ret σ)
def retK (R : St → Prop) : Out → Prop
  | .norm σ => R σ
  | .exit _ _ => False
  | .ret σ => R σ

theorem thenK_norm (K Q σ) : thenK K Q (.norm σ) = K σ := rfl
theorem thenK_exit (K Q j σ) : thenK K Q (.exit j σ) = Q (.exit j σ) := rfl
theorem thenK_ret (K Q σ) : thenK K Q (.ret σ) = Q (.ret σ) := rfl
theorem blockK_norm (id Q σ) : blockK id Q (.norm σ) = Q (.norm σ) := rfl
theorem blockK_exit (id Q j σ) : blockK id Q (.exit j σ) = if j = id then Q (.norm σ) else Q (.exit j σ) := rfl
theorem blockK_ret (id Q σ) : blockK id Q (.ret σ) = Q (.ret σ) := rfl
theorem nojumpK_norm (Q σ) : nojumpK Q (.norm σ) = Q (.norm σ) := rfl
theorem nojumpK_exit (Q j σ) : nojumpK Q (.exit j σ) = if j < gotoBase then Q (.exit j σ) else False := rfl
theorem nojumpK_ret (Q σ) : nojumpK Q (.ret σ) = Q (.ret σ) := rfl
theorem retK_norm (R σ) : retK R (.norm σ) = R σ := rfl
theorem retK_ret (R σ) : retK R (.ret σ) = R σ := rfl

section
variable {E : Env} {Q : Out → Prop} {σ : St}

theorem wp_skip : Wp E .skip σ Q = Q (.norm σ) := propext ⟨fun ⟨n, o, h, q⟩ => by simp only [exec, Option.some.injEq] at h; exact h ▸ q, fun q => ⟨0, _, rfl, q⟩⟩
theorem wp_ret : Wp E .ret σ Q = Q (.ret σ) := propext ⟨fun ⟨n, o, h, q⟩ => by simp only [exec, Option.some.injEq] at h; exact h ▸ q, fun q => ⟨0, _, rfl, q⟩⟩
theorem wp_exit (id : Nat) : Wp E (.exit id) σ Q = Q (.exit id σ) := propext ⟨fun ⟨n, o, h, q⟩ => by simp only [exec, Option.some.injEq] at h; exact h ▸ q, fun q => ⟨0, _, rfl, q⟩⟩
theorem wp_kill (vs : List Nat) : Wp E (.kill vs) σ Q = Q (.norm { σ with vars := killVars vs σ.vars }) := propext ⟨fun ⟨n, o, h, q⟩ => by simp only [exec, Option.some.injEq] at h; exact h ▸ q, fun q => ⟨0, _, rfl, q⟩⟩
theorem wp_free {ss : List Nat} {σ' : St} (h : freeBoxes ss σ = some σ') : Wp E (.free ss) σ Q = Q (.norm σ') := propext ⟨fun ⟨n, o, h', q⟩ => by simp only [exec, h, Option.map_some, Option.some.injEq] at h'; exact h' ▸ q, fun q => ⟨0, _, by simp only [exec, h, Option.map_some], q⟩⟩

theorem le_max (E : Env) (n m : Nat) : Le (callN E n) (callN E (max n m)) ∧ Le (callN E m) (callN E (max n m)) := ⟨callN_mono (Nat.le_max_left ..), callN_mono (Nat.le_max_right ..)⟩

theorem wp_seq (a b : IC) : Wp E (.seq a b) σ Q = Wp E a σ (thenK (fun σ' => Wp E b σ' Q) Q) := propext ⟨fun ⟨n, o, h, q⟩ => by
    simp only [exec] at h
    cases ha : exec (callN E n) n a σ with
    | none => rw [ha] at h; cases h
    | some x =>
      rw [ha] at h
      refine ⟨n, x, ha, ?_⟩
      cases x with
      | norm σ' => exact ⟨n, o, h, q⟩
      | exit j σ' => simp only [Option.some.injEq] at h; subst h; exact q
      | ret σ' => simp only [Option.some.injEq] at h; subst h; exact q,
  fun ⟨n, x, h, q⟩ => by
    cases x with
    | norm σ' =>
      obtain ⟨m, o, h2, q2⟩ := q
      refine ⟨max n m, o, ?_, q2⟩
      simp only [exec, exec_mono (le_max E n m).1 (Nat.le_max_left n m) h]
      exact exec_mono (le_max E n m).2 (Nat.le_max_right n m) h2
    | exit j σ' => exact ⟨n, _, by simp only [exec, h], q⟩
    | ret σ' => exact ⟨n, _, by simp only [exec, h], q⟩⟩

theorem wp_cond_get {c : Opd} {t : Bool} (a b : IC) (hc : c.get σ = .v (.bool t)) : Wp E (.cond c a b) σ Q = if t = true then Wp E a σ Q else Wp E b σ Q := by
  unfold Wp
  simp only [exec, hc]
  cases t <;> rfl
theorem wp_block (id : Nat) (a : IC) : Wp E (.block id a) σ Q = Wp E a σ (blockK id Q) := propext ⟨fun ⟨n, o, h, q⟩ => by
    simp only [exec] at h
    cases ha : exec (callN E n) n a σ with
    | none => rw [ha] at h; cases h
    | some x =>
      rw [ha] at h
      refine ⟨n, x, ha, ?_⟩
      cases x with
      | norm σ' => simp only [Option.some.injEq] at h; subst h; exact q
      | exit j σ' =>
        simp only at h
        rw [blockK_exit]
        split at h <;> (simp only [Option.some.injEq] at h; subst h)
        · rw [if_pos (by assumption)]; exact q
        · rw [if_neg (by assumption)]; exact q
      | ret σ' => simp only [Option.some.injEq] at h; subst h; exact q,
  fun ⟨n, x, h, q⟩ => by
    cases x with
    | norm σ' => exact ⟨n, _, by simp only [exec, h], q⟩
    | exit j σ' =>
      rw [blockK_exit] at q
      split at q
      · rename_i hj; exact ⟨n, _, by simp only [exec, h, if_pos hj], q⟩
      · rename_i hj; exact ⟨n, _, by simp only [exec, h, if_neg hj], q⟩
    | ret σ' => exact ⟨n, _, by simp only [exec, h], q⟩⟩
theorem wp_nojump (a : IC) (h : Wp E a σ (nojumpK Q)) : Wp E (.nojump a) σ Q := by
  obtain ⟨n, x, h, q⟩ := h
  cases x with
  | norm σ' => exact ⟨n, _, by simp only [exec, h], q⟩
  | exit j σ' =>
    rw [nojumpK_exit] at q
    split at q
    · rename_i hj; exact ⟨n, _, by simp only [exec, h, if_pos hj], q⟩
    · cases q
  | ret σ' => exact ⟨n, _, by simp only [exec, h], q⟩
theorem wp_loop (a : IC) (h : Wp E a σ (thenK (fun σ' => Wp E (.loop a) σ' Q) Q)) : Wp E (.loop a) σ Q := by
  obtain ⟨n, x, h, q⟩ := h
  cases x with
  | norm σ' =>
    obtain ⟨m, o, h2, q2⟩ := q
    refine ⟨max n m + 1, o, ?_, q2⟩
    simp only [exec, loopN] at h2 ⊢
    have hle : Le (callN E n) (callN E (max n m + 1)) := callN_mono (by omega)
    have hle2 : Le (callN E m) (callN E (max n m + 1)) := callN_mono (by omega)
    rw [exec_mono hle (by omega) h]
    exact loopN_mono (fun σ o => exec_mono hle2 (by omega)) (by omega) h2
  | exit j σ' =>
    refine ⟨n + 1, _, ?_, q⟩
    simp only [exec, loopN]
    rw [exec_mono (callN_mono (Nat.le_succ n)) (Nat.le_succ n) h]
  | ret σ' =>
    refine ⟨n + 1, _, ?_, q⟩
    simp only [exec, loopN]
    rw [exec_mono (callN_mono (Nat.le_succ n)) (Nat.le_succ n) h]

theorem wp_reg (r : Reg) : Wp E (.reg r) σ Q = WpOps E r.ops { σ with rs := [] } fun σ' => Q (.norm ⟨[], outsOf σ'.rs σ'.vars r.outs, σ'.boxes⟩) := propext ⟨fun ⟨n, o, h, q⟩ => by
    simp only [exec, runReg, Option.bind_eq_bind] at h
    obtain ⟨s, h1, h2⟩ := Option.map_eq_some_iff.1 h
    obtain ⟨s0, h3, h4⟩ := Option.bind_eq_some_iff.1 h1
    simp only [Option.some.injEq] at h4
    subst h2 h4
    exact ⟨n, s0, h3, q⟩,
  fun ⟨n, s, h, q⟩ => ⟨n, _, by simp only [exec, runReg, Option.bind_eq_bind, h, Option.bind_some, Option.map_some], q⟩⟩

variable {K : St → Prop} {K2 : T → St → Prop}
theorem wpops_nil : WpOps E [] σ K = K σ := propext ⟨fun ⟨n, o, h, q⟩ => by simp only [runOps, Option.some.injEq] at h; exact h ▸ q, fun q => ⟨0, _, rfl, q⟩⟩
theorem wpops_do (o : IOp) (rest : List (Option (Nat × Bool) × IOp)) {g : Option (Nat × Bool)} (hg : wantedT σ.rs g = some true) :
    WpOps E ((g, o) :: rest) σ K = WpOp E o σ fun t σ' => WpOps E rest { σ' with rs := σ'.rs ++ [t] } K := propext ⟨fun ⟨n, s, h, q⟩ => by
    simp only [runOps, hg, Option.bind_some, if_true] at h
    obtain ⟨p, h1, h2⟩ := Option.bind_eq_some_iff.1 h
    exact ⟨n, p, h1, n, s, h2, q⟩,
  fun ⟨n, p, h1, m, s, h2, q⟩ => ⟨max n m, s, by
    simp only [runOps, hg, Option.bind_some, if_true, runOp_mono (le_max E n m).1 h1]
    exact runOps_mono (le_max E n m).2 h2, q⟩⟩
theorem wpops_skip (o : IOp) (rest : List (Option (Nat × Bool) × IOp)) {g : Option (Nat × Bool)} (hg : wantedT σ.rs g = some false) :
    WpOps E ((g, o) :: rest) σ K = WpOps E rest { σ with rs := σ.rs ++ [T.skipped] } K := by
  unfold WpOps
  simp only [runOps, hg, Option.bind_some, Bool.false_eq_true, if_false]
theorem wpops_none (o : IOp) (rest : List (Option (Nat × Bool) × IOp)) : WpOps E ((none, o) :: rest) σ K = WpOp E o σ fun t σ' => WpOps E rest { σ' with rs := σ'.rs ++ [t] } K := wpops_do o rest rfl

theorem le_c0 (E : Env) (n : Nat) : Le C0 (callN E n) := fun _ _ _ h => by cases h
theorem wpop_some {o : IOp} {t : T} {σ' : St} (h : runOp C0 σ o = some (t, σ')) : WpOp E o σ K2 = K2 t σ' := propext ⟨fun ⟨n, p, h1, q⟩ => by
    rw [runOp_mono (le_c0 E n) h, Option.some.injEq] at h1
    subst h1; exact q, fun q => ⟨0, _, runOp_mono (le_c0 E 0) h, q⟩⟩

/-- A call by value. -/
theorem wpop_call {d : Nat} {f : FuncId} {as : List Opd} {cs : List T} {r : T} (hc : (as.map (Opd.get σ)).mapM (close σ.boxes 6) = some cs) (hf : f < ioBase) (hE : Ev E f cs r)
    (hr : (hasRefL (as.map (Opd.get σ)) && !r.fresh) = false) (h : K2 (r.import d) (σ.strip (2 * d))) : WpOp E (.call d f as) σ K2 := by
  obtain ⟨n, hn⟩ := hE
  refine ⟨n, (r.import d, σ.strip (2 * d)), ?_, h⟩
  simp only [runOp, runOp.callT, hc, callV, if_pos hf, hn, Option.bind_eq_bind, Option.bind_some, hr, Bool.false_eq_true, if_false]
theorem wpop_callv {d : Nat} {g : Opd} {f : FuncId} {first cap : List T} {as : List Opd} {cs : List T} {r : T} (hg : calleeOf (g.get σ) = some (f, first, cap)) (hc : (first ++ as.map (Opd.get σ) ++ cap).mapM (close σ.boxes 6) = some cs) (hf : f < ioBase) (hE : Ev E f cs r)
    (hr : (hasRefL (first ++ as.map (Opd.get σ) ++ cap) && !r.fresh) = false) (h : K2 (r.import d) (σ.strip (2 * d))) : WpOp E (.callv d g as) σ K2 := by
  obtain ⟨n, hn⟩ := hE
  refine ⟨n, (r.import d, σ.strip (2 * d)), ?_, h⟩
  simp only [runOp, hg, runOp.callT, hc, callV, if_pos hf, hn, Option.bind_eq_bind, Option.bind_some, hr, Bool.false_eq_true, if_false]


theorem ev_fn {f : FuncId} {args : List T} {r : T} {fn : IFn} (hp : E.prim f = none) (hf : f < ioBase) (hfn : E.fn f = some fn) (hs : fn.split = false) (hl : args.length = fn.nparams)
    (h : Wp E fn.body ⟨[], args ++ List.replicate (fn.nvars - fn.nparams) .undef, List.replicate (2 * fn.nboxes) none⟩ (retK fun σ => (resultsOf σ fn.results fn.canon).bind (exportT σ.boxes) = some r)) : Ev E f args r := by
  obtain ⟨n, o, h1, h2⟩ := h
  refine ⟨n + 1, ?_⟩
  simp only [callN, hp, if_pos hf, hfn, runSplit, hs, Bool.false_eq_true, if_false, runFn, if_pos hl, h1]
  cases o with
  | norm σ => exact h2
  | exit j σ => exact h2.elim
  | ret σ => exact h2
end
end Go.Vi
end
section
/-
  A VERIFIED INTERPRETER (part 31): stepping by rewriting.
-/
set_option linter.unusedSimpArgs false
set_option linter.unusedVariables false
namespace Go.Vi
open Go

/-- There is a value, and k holds of it. -/
def OptK {α : Type} (o : Option α) (k : α → Prop) : Prop := ∃ a, o = some a ∧ k a
theorem optK_some {α : Type} (a : α) (k : α → Prop) : OptK (some a) k = k a := propext ⟨fun ⟨_, h, q⟩ => by cases h; exact q, fun q => ⟨a, rfl, q⟩⟩
theorem optK_none {α : Type} (k : α → Prop) : OptK none k = False := by unfold OptK; simp
theorem optK_map {α γ : Type} (f : α → γ) (o : Option α) (k : γ → Prop) : OptK (o.map f) k = OptK o fun x => k (f x) := propext ⟨fun ⟨a, h, q⟩ => by
  obtain ⟨b, hb, rfl⟩ := Option.map_eq_some_iff.1 h; exact ⟨b, hb, q⟩, fun ⟨b, hb, q⟩ => ⟨f b, by rw [hb]; rfl, q⟩⟩
theorem optK_bind {α γ : Type} (f : α → Option γ) (o : Option α) (k : γ → Prop) : OptK (o.bind f) k = OptK o fun x => OptK (f x) k := propext ⟨fun ⟨a, h, q⟩ => by
  obtain ⟨b, hb, h2⟩ := Option.bind_eq_some_iff.1 h; exact ⟨b, hb, a, h2, q⟩, fun ⟨b, hb, a, h2, q⟩ => ⟨a, by rw [hb]; exact h2, q⟩⟩
theorem optK_ite {α : Type} (c : Prop) [Decidable c] (x : Option α) (k : α → Prop) : OptK (if c then x else none) k = (c ∧ OptK x k) := by
  by_cases h : c <;> simp [h, optK_none]
theorem optK_filter {α : Type} (p : α → Bool) (o : Option α) (k : α → Prop) : OptK (o.filter p) k = OptK o fun x => p x = true ∧ k x := by
  cases o with
  | none => simp [optK_none, Option.filter]
  | some a => by_cases h : p a = true <;> simp [Option.filter, h, optK_none, optK_some]

def condK (t : T) (A B : Prop) : Prop := match t with
  | .v (.bool t) => if t = true then A else B
  | _ => False
theorem condK_bool (t : Bool) (A B : Prop) : condK (.v (.bool t)) A B = if t = true then A else B := rfl

/-- A guarded operation: it is done, or passed over. -/
def guardK (o : Option T) (w : Bool) (A B : Prop) : Prop := match o with
  | some (.v (.bool b)) => if (b == w) = true then A else B
  | some (.v (.tuple _)) => B
  | _ => False
theorem guardK_true (b : Bool) (A B : Prop) : guardK (some (.v (.bool b))) true A B = if b = true then A else B := by simp [guardK]
theorem guardK_false (b : Bool) (A B : Prop) : guardK (some (.v (.bool b))) false A B = if b = true then B else A := by cases b <;> simp [guardK]
theorem guardK_skipped (w : Bool) (A B : Prop) : guardK (some T.skipped) w A B = B := rfl

/-- An element of a list, by its place; behind the end there is nothing known. -/
def nth : List T → Nat → T
  | [], _ => .undef
  | t :: _, 0 => t
  | _ :: ts, n + 1 => nth ts n
theorem nth_getD : ∀ (l : List T) (i : Nat), l.getD i .undef = nth l i
  | [], i => by simp [nth]
  | t :: ts, 0 => by simp [nth]
  | t :: ts, i + 1 => by simp only [List.getD_cons_succ, nth, nth_getD ts i]
theorem nth_zero (t : T) (ts : List T) : nth (t :: ts) 0 = t := rfl
theorem nth_succ (t : T) (ts : List T) (n : Nat) : nth (t :: ts) (n + 1) = nth ts n := rfl

/-- An element of a list, if there is one. -/
def nthO : List T → Nat → Option T
  | [], _ => none
  | t :: _, 0 => some t
  | _ :: ts, n + 1 => nthO ts n
theorem nthO_get : ∀ (l : List T) (i : Nat), l[i]? = nthO l i
  | [], i => by simp [nthO]
  | t :: ts, 0 => by simp [nthO]
  | t :: ts, i + 1 => by simp only [List.getElem?_cons_succ, nthO, nthO_get ts i]
theorem nthO_nil (n : Nat) : nthO [] n = none := rfl
theorem nthO_zero (t : T) (ts : List T) : nthO (t :: ts) 0 = some t := rfl
theorem nthO_succ (t : T) (ts : List T) (n : Nat) : nthO (t :: ts) (n + 1) = nthO ts n := rfl
def snoc : List T → T → List T
  | [], t => [t]
  | a :: l, t => a :: snoc l t
theorem snoc_eq : ∀ (l : List T) (t : T), l ++ [t] = snoc l t
  | [], t => rfl
  | a :: l, t => by rw [List.cons_append, snoc_eq l t]; rfl
theorem snoc_nil (t : T) : snoc [] t = [t] := rfl
theorem snoc_cons (a t : T) (l : List T) : snoc (a :: l) t = a :: snoc l t := rfl
/-- Is there a place for a box that has none? -/
def slotFree : List (Option (List T)) → Nat → Bool
  | [], _ => false
  | none :: _, 0 => true
  | some _ :: _, 0 => false
  | _ :: l, n + 1 => slotFree l n
theorem slotFree_iff : ∀ (bx : List (Option (List T))) (s : Nat), (bx[s]? = some none) = (slotFree bx s = true)
  | [], s => by simp [slotFree]
  | none :: l, 0 => by simp [slotFree]
  | some _ :: l, 0 => by simp [slotFree]
  | none :: l, s + 1 => by simp only [List.getElem?_cons_succ, slotFree, slotFree_iff l s]
  | some _ :: l, s + 1 => by simp only [List.getElem?_cons_succ, slotFree, slotFree_iff l s]
theorem slotFree_nil (s : Nat) : slotFree [] s = false := by cases s <;> rfl
theorem slotFree_none (l : List (Option (List T))) : slotFree (none :: l) 0 = true := rfl
theorem slotFree_some (cs : List T) (l : List (Option (List T))) : slotFree (some cs :: l) 0 = false := rfl
theorem slotFree_succ (o : Option (List T)) (l : List (Option (List T))) (n : Nat) : slotFree (o :: l) (n + 1) = slotFree l n := by cases o <;> rfl
theorem boxAt_nil (s : Nat) : boxAt [] s = none := rfl
theorem boxAt_zero (o : Option (List T)) (l : List (Option (List T))) : boxAt (o :: l) 0 = o := rfl
theorem boxAt_succ (o : Option (List T)) (l : List (Option (List T))) (n : Nat) : boxAt (o :: l) (n + 1) = boxAt l n := rfl

theorem get_r (rs vars : List T) (bx : List (Option (List T))) (i : Nat) : Opd.get ⟨rs, vars, bx⟩ (.r i) = nth rs i := nth_getD rs i
theorem get_x (rs vars : List T) (bx : List (Option (List T))) (i : Nat) : Opd.get ⟨rs, vars, bx⟩ (.x i) = nth vars i := nth_getD vars i
theorem get_c (σ : St) (t : T) : Opd.get σ (.c t) = t := rfl

section
variable {E : Env} {Q : Out → Prop} {σ : St} {K : St → Prop} {K2 : T → St → Prop}

theorem wp_cond (c : Opd) (a b : IC) : Wp E (.cond c a b) σ Q = condK (c.get σ) (Wp E a σ Q) (Wp E b σ Q) := by
  cases hc : c.get σ with
  | v x =>
    cases x with
    | bool t => rw [wp_cond_get a b hc]; rfl
    | _ => simp only [condK]; exact propext ⟨fun ⟨n, o, h, q⟩ => by simp [exec, hc] at h, fun h => h.elim⟩
  | _ => simp only [condK]; exact propext ⟨fun ⟨n, o, h, q⟩ => by simp [exec, hc] at h, fun h => h.elim⟩

theorem wpops_none' (o : IOp) (rest : List (Option (Nat × Bool) × IOp)) : WpOps E ((none, o) :: rest) σ K = WpOp E o σ fun t σ' => WpOps E rest { σ' with rs := snoc σ'.rs t } K := by
  simp only [← snoc_eq]; exact wpops_none o rest

theorem wp_freeK (ss : List Nat) : Wp E (.free ss) σ Q = OptK (freeBoxes ss σ) fun σ' => Q (.norm σ') := propext ⟨fun ⟨n, o, h, q⟩ => by
  simp only [exec] at h
  obtain ⟨s, h1, rfl⟩ := Option.map_eq_some_iff.1 h
  exact ⟨s, h1, q⟩, fun ⟨s, h, q⟩ => ⟨0, _, by simp only [exec, h, Option.map_some], q⟩⟩

theorem wpops_some (j : Nat) (w : Bool) (o : IOp) (rest : List (Option (Nat × Bool) × IOp)) :
    WpOps E ((some (j, w), o) :: rest) σ K = guardK (nthO σ.rs j) w (WpOp E o σ fun t σ' => WpOps E rest { σ' with rs := snoc σ'.rs t } K) (WpOps E rest { σ with rs := snoc σ.rs T.skipped } K) := by
  rw [← nthO_get]
  simp only [← snoc_eq]
  unfold guardK
  split
  · rename_i b hb
    split
    · rename_i h; exact wpops_do o rest (by simp only [wantedT, hb]; rw [h])
    · rename_i h
      refine wpops_skip o rest ?_
      simp only [wantedT, hb]
      simpa using h
  · rename_i hb; exact wpops_skip o rest (by simp only [wantedT, hb])
  · rename_i h1 h2
    have : wantedT σ.rs (some (j, w)) = none := by
      unfold wantedT
      simp only
      try (split
           · rename_i b hb; exact absurd hb (h1 b)
           · rename_i b hb; exact absurd hb (h2 b)
           · rfl)
    exact propext ⟨fun ⟨n, s, h, q⟩ => by simp [runOps, this] at h, fun h => h.elim⟩

def IOp.pureK : IOp → Bool
  | .call .. | .callv .. | .callnew .. | .callio .. | .callvio .. => false
  | _ => true
theorem runOp_pure {o : IOp} (h : o.pureK = true) (C C' : CallF) : runOp C σ o = runOp C' σ o := by
  cases o <;> first | rfl | cases h
theorem wpop_pure {o : IOp} (h : o.pureK = true) : WpOp E o σ K2 = OptK (runOp C0 σ o) fun p => K2 p.1 p.2 := propext ⟨fun ⟨n, p, h1, q⟩ => ⟨p, by rw [runOp_pure h C0 (callN E n)]; exact h1, q⟩, fun ⟨p, h1, q⟩ => ⟨0, p, by rw [runOp_pure h _ C0]; exact h1, q⟩⟩

theorem wpop_mv (a : Opd) : WpOp E (.mv a) σ K2 = K2 (a.get σ) σ := by rw [wpop_pure rfl]; exact optK_some _ _

def pickK (c a b : T) (k : T → Prop) : Prop := match c with
  | .v (.bool t) => k (if t = true then a else b)
  | _ => False
theorem pickK_bool (t : Bool) (a b : T) (k : T → Prop) : pickK (.v (.bool t)) a b k = k (if t = true then a else b) := rfl
theorem wpop_pick (c a b : Opd) : WpOp E (.pick c a b) σ K2 = pickK (c.get σ) (a.get σ) (b.get σ) fun t => K2 t σ := by
  rw [wpop_pure rfl]
  simp only [runOp, pickK]
  generalize Opd.get σ c = t
  cases t <;> try exact optK_none _
  rename_i x
  cases x <;> first | exact optK_none _ | exact optK_some _ _
theorem wpop_bin (op : BinOp) (t : TypeId) (a b : Opd) : WpOp E (.bin op t a b) σ K2 = OptK (binT op t (a.get σ) (b.get σ)) fun r => K2 r σ := by rw [wpop_pure rfl]; exact optK_map _ _ _
def eqbK (neg : Bool) (a b : T) (k : T → Prop) : Prop := match a, b with
  | .v (.bool x), .v (.bool y) => k (T.bool ((x == y) != neg))
  | _, _ => False
theorem eqbK_bool (neg x y : Bool) (k : T → Prop) : eqbK neg (.v (.bool x)) (.v (.bool y)) k = k (.v (.bool ((x == y) != neg))) := rfl
theorem wpop_eqb (neg : Bool) (a b : Opd) : WpOp E (.eqb neg a b) σ K2 = eqbK neg (a.get σ) (b.get σ) fun t => K2 t σ := by
  rw [wpop_pure rfl]
  simp only [runOp, eqbK]
  generalize Opd.get σ a = t
  generalize Opd.get σ b = u
  cases t <;> try exact optK_none _
  rename_i x
  cases x <;> try exact optK_none _
  cases u <;> try exact optK_none _
  rename_i y
  cases y <;> first | exact optK_none _ | exact optK_some _ _
def notK (a : T) (k : T → Prop) : Prop := match a with
  | .v (.bool x) => k (T.bool (!x))
  | _ => False
theorem notK_bool (x : Bool) (k : T → Prop) : notK (.v (.bool x)) k = k (.v (.bool (!x))) := rfl
theorem wpop_not {a : Opd} {x : Bool} (h : a.get σ = .v (.bool x)) : WpOp E (.un .not a) σ K2 = K2 (.v (.bool (!x))) σ := by
  rw [wpop_pure rfl]
  simp only [runOp, h]
  exact optK_some _ _
theorem wpop_eqnil (neg : Bool) (a : Opd) : WpOp E (.eqnil neg a) σ K2 = OptK (runOp C0 σ (.eqnil neg a)) fun p => K2 p.1 p.2 := wpop_pure rfl
theorem wpop_eqa (neg : Bool) (ks : List LK) (a b : Opd) : WpOp E (.eqa neg ks a b) σ K2 = OptK (runOp C0 σ (.eqa neg ks a b)) fun p => K2 p.1 p.2 := wpop_pure rfl
theorem wpop_build (zero : List T) (parts : List (Nat × Nat × Opd)) : WpOp E (.build zero parts) σ K2 = OptK (fillT (Opd.get σ) zero parts) fun cs => K2 (.agg cs) σ := by rw [wpop_pure rfl]; exact optK_map _ _ _
def fieldK (isAgg : Bool) (off n : Nat) (a : T) (k : T → Prop) : Prop := match a with
  | .agg cs => OptK (one? isAgg n cs off) k
  | _ => False
theorem fieldK_agg (isAgg : Bool) (off n : Nat) (cs : List T) (k : T → Prop) : fieldK isAgg off n (.agg cs) k = OptK (one? isAgg n cs off) k := rfl
theorem wpop_field (isAgg : Bool) (off n : Nat) (a : Opd) : WpOp E (.field isAgg off n a) σ K2 = fieldK isAgg off n (a.get σ) fun t => K2 t σ := by
  rw [wpop_pure rfl]
  simp only [runOp, fieldK]
  generalize Opd.get σ a = t
  cases t <;> first | exact optK_none _ | exact optK_map _ _ _
def indexSK (a i : T) (k : T → Prop) : Prop := match a, i with
  | .v (.string s), .v (.int _ j) => 0 ≤ j ∧ OptK s.data[j.toNat]? fun b => k (.u8 b.toNat)
  | _, _ => False
theorem indexSK_str (s : ByteArray) (kd : IntKind) (j : Int) (k : T → Prop) : indexSK (.v (.string s)) (.v (.int kd j)) k = (0 ≤ j ∧ OptK s.data[j.toNat]? fun b => k (.v (.int .u8 b.toNat))) := rfl
theorem wpop_indexS (a i : Opd) : WpOp E (.indexS a i) σ K2 = indexSK (a.get σ) (i.get σ) fun t => K2 t σ := by
  rw [wpop_pure rfl]
  simp only [runOp]
  cases ha : a.get σ with
  | v x =>
    cases x with
    | string s =>
      cases hi : i.get σ with
      | v y =>
        cases y with
        | int kd j =>
          simp only [asNat, indexSK]
          by_cases h : 0 ≤ j
          · simp only [h, if_true, optK_map, true_and]
          · simp [h, optK_none]
        | _ => exact optK_none _
      | _ => exact optK_none _
    | _ => simp only [indexSK]; exact optK_none _
  | _ => simp only [indexSK]; exact optK_none _
def extractK (a : T) (i : Nat) (k : T → Prop) : Prop := match a with
  | .tup ts => OptK (nthO ts i) k
  | _ => False
theorem extractK_tup (ts : List T) (i : Nat) (k : T → Prop) : extractK (.tup ts) i k = OptK (nthO ts i) k := rfl
theorem wpop_extract (a : Opd) (i : Nat) : WpOp E (.extract a i) σ K2 = extractK (a.get σ) i fun t => K2 t σ := by
  rw [wpop_pure rfl]
  simp only [runOp, extractK, ← nthO_get]
  generalize Opd.get σ a = t
  cases t <;> first | exact optK_none _ | exact optK_map _ _ _

/-- A new box. -/
def allocK (bx : List (Option (List T))) (s : Nat) (cs : List T) (k : List (Option (List T)) → Prop) : Prop := slotFree bx s = true ∧ s % 2 = 0 ∧ k (bx.set s (some cs))
theorem wpop_alloc (s : Nat) (zero : List T) : WpOp E (.alloc s zero) σ K2 = allocK σ.boxes s zero fun bx => K2 (.ref s 0) { σ with boxes := bx } := by
  rw [wpop_pure rfl]
  simp only [runOp, allocK, ← slotFree_iff]
  split
  · rename_i h
    rw [h, optK_ite, optK_some]
    simp
  · rename_i h
    rw [optK_none]
    simp only [eq_iff_iff, false_iff, not_and]
    exact fun h' => absurd h' h
def cellsK (t : T) (k : List T → Prop) : Prop := OptK (cellsOf t) k
theorem cellsK_agg (cs : List T) (k : List T → Prop) : cellsK (.agg cs) k = k cs := optK_some _ _
theorem cellsK_v (x : Value) (k : List T → Prop) : cellsK (.v x) k = k [.v x] := optK_some _ _
theorem cellsK_sl (g : Tag) (n : Nat) (cs : List T) (k : List T → Prop) : cellsK (.sl g n cs) k = k [.sl g n cs] := optK_some _ _
theorem cellsK_bsl (s o n c : Nat) (k : List T → Prop) : cellsK (.bsl s o n c) k = k [.bsl s o n c] := optK_some _ _
theorem cellsK_ref (s o : Nat) (k : List T → Prop) : cellsK (.ref s o) k = k [.ref s o] := optK_some _ _
theorem cellsK_mref (s : Nat) (k : List T → Prop) : cellsK (.mref s) k = k [.mref s] := optK_some _ _
theorem cellsK_clo (f : Fn) (a b : List T) (k : List T → Prop) : cellsK (.clo f a b) k = k [.clo f a b] := optK_some _ _
theorem cellsK_ptr (cs : List T) (o : Nat) (k : List T → Prop) : cellsK (.ptr cs o) k = k [.ptr cs o] := optK_some _ _
theorem wpop_box (s : Nat) (a : Opd) : WpOp E (.box s a) σ K2 = cellsK (a.get σ) fun cs => cs.all T.one = true ∧ allocK σ.boxes s cs fun bx => K2 (.ref s 0) { σ with boxes := bx } := by
  rw [wpop_pure rfl]
  simp only [runOp, cellsK]
  cases hc : cellsOf (a.get σ) with
  | none => rw [optK_none]; split <;> simp_all [optK_none]
  | some cs =>
    simp only [optK_some, allocK, ← slotFree_iff]
    split
    · rename_i h1 h2
      simp only [Option.some.injEq] at h2
      subst h2
      rw [h1, optK_ite, optK_some]
      simp [and_assoc]
    · rename_i h1
      rw [optK_none]
      simp only [eq_iff_iff, false_iff, not_and]
      exact fun _ h' => absurd rfl (h1 _ h')

def loadK (bx : List (Option (List T))) (isAgg : Bool) (n : Nat) (a : T) (k : T → Prop) : Prop := match a with
  | .ref s off => OptK (boxAt bx s) fun cs => OptK (one? isAgg n cs off) k
  | .ptr cs off => OptK (one? isAgg n cs off) fun t => t.closed = true ∧ k t
  | _ => False
theorem loadK_ref (bx isAgg n s off k) : loadK bx isAgg n (.ref s off) k = OptK (boxAt bx s) fun cs => OptK (one? isAgg n cs off) k := rfl
theorem loadK_ptr (bx isAgg n cs off k) : loadK bx isAgg n (.ptr cs off) k = OptK (one? isAgg n cs off) fun t => t.closed = true ∧ k t := rfl
theorem wpop_load (isAgg : Bool) (n : Nat) (a : Opd) : WpOp E (.load isAgg n a) σ K2 = loadK σ.boxes isAgg n (a.get σ) fun t => K2 t σ := by
  rw [wpop_pure rfl]
  simp only [runOp, loadK]
  generalize Opd.get σ a = t
  cases t <;> try exact optK_none _
  · rename_i cs off
    show OptK (((one? isAgg n cs off).filter T.closed).map _) _ = _
    rw [optK_map, optK_filter]
  · rename_i s off
    show OptK (match σ.boxes[s]? with | some (some cs) => (one? isAgg n cs off).map (·, σ) | _ => none) _ = OptK (boxAt σ.boxes s) fun cs => OptK (one? isAgg n cs off) fun t => K2 t σ
    unfold boxAt
    cases hb : σ.boxes[s]? with
    | none => simp only [Option.join_none, optK_none]
    | some o => cases o with
      | none => simp only [Option.join_some, optK_none]
      | some cs => simp only [Option.join_some, optK_some]; exact optK_map _ _ _
def storeK (bx : List (Option (List T))) (n : Nat) (a : T) (ns : List T) (k : List (Option (List T)) → Prop) : Prop := match a with
  | .ref s off => OptK (boxAt bx s) fun cs => ns.length = n ∧ off + n ≤ cs.length ∧ ns.all T.one = true ∧ k (bx.set s (some (setCells cs off ns)))
  | _ => False
theorem storeK_ref (bx n s off ns k) : storeK bx n (.ref s off) ns k = OptK (boxAt bx s) fun cs => ns.length = n ∧ off + n ≤ cs.length ∧ ns.all T.one = true ∧ k (bx.set s (some (setCells cs off ns))) := rfl
theorem boxAt_none {bx : List (Option (List T))} {s : Nat} (h : ∀ cs, bx[s]? = some (some cs) → False) : boxAt bx s = none := by
  unfold boxAt
  cases hj : bx[s]? with
  | none => rfl
  | some o => cases o with
    | none => rfl
    | some cs => exact (h cs hj).elim
theorem wpop_store (n : Nat) (a b : Opd) : WpOp E (.store n a b) σ K2 = cellsK (b.get σ) fun ns => storeK σ.boxes n (a.get σ) ns fun bx => K2 .undef { σ with boxes := bx } := by
  rw [wpop_pure rfl]
  simp only [runOp, cellsK]
  cases hc : cellsOf (b.get σ) with
  | none => rw [optK_none]; split <;> simp_all [optK_none]
  | some ns =>
    simp only [optK_some]
    cases ha : a.get σ with
    | ref s off =>
      simp only [storeK]
      cases hb : σ.boxes[s]? with
      | none => simp only [optK_none, boxAt, hb, Option.join_none]
      | some o => cases o with
        | none => simp only [optK_none, boxAt, hb, Option.join_some]
        | some cs => simp only [boxAt, hb, Option.join_some, optK_ite, optK_some, and_assoc]
    | _ => simp only [storeK, optK_none]
def faddrK (off : Nat) (a : T) (k : T → Prop) : Prop := match a with
  | .ref s o => k (.ref s (o + off))
  | .ptr cs o => k (.ptr cs (o + off))
  | _ => False
theorem faddrK_ref (off s o k) : faddrK off (.ref s o) k = k (.ref s (o + off)) := rfl
theorem faddrK_ptr (off cs o k) : faddrK off (.ptr cs o) k = k (.ptr cs (o + off)) := rfl
theorem wpop_faddr (off : Nat) (a : Opd) : WpOp E (.faddr off a) σ K2 = faddrK off (a.get σ) fun t => K2 t σ := by
  rw [wpop_pure rfl]
  simp only [runOp, faddrK]
  generalize Opd.get σ a = t
  cases t <;> first | exact optK_none _ | exact optK_some _ _
def iaddrAK (len sz : Nat) (a i : T) (k : T → Prop) : Prop := match a, i with
  | .ref s o, .v (.int _ j) => 0 ≤ j ∧ j.toNat < len ∧ k (.ref s (o + j.toNat * sz))
  | .ptr cs o, .v (.int _ j) => 0 ≤ j ∧ j.toNat < len ∧ k (.ptr cs (o + j.toNat * sz))
  | _, _ => False
theorem iaddrAK_ref (len sz s o kd j k) : iaddrAK len sz (.ref s o) (.v (.int kd j)) k = (0 ≤ j ∧ j.toNat < len ∧ k (.ref s (o + j.toNat * sz))) := rfl
theorem iaddrAK_ptr (len sz cs o kd j k) : iaddrAK len sz (.ptr cs o) (.v (.int kd j)) k = (0 ≤ j ∧ j.toNat < len ∧ k (.ptr cs (o + j.toNat * sz))) := rfl
theorem asNat_specK (t : T) : (∃ kd j, t = .v (.int kd j) ∧ 0 ≤ j ∧ asNat t = some j.toNat) ∨ (asNat t = none ∧ ∀ kd j, t = .v (.int kd j) → ¬ 0 ≤ j) := by
  cases t with
  | v x => cases x with
    | int kd j =>
      by_cases h : 0 ≤ j
      · exact .inl ⟨kd, j, rfl, h, by simp [asNat, h]⟩
      · exact .inr ⟨by simp [asNat, h], fun kd' j' e => by cases e; exact h⟩
    | _ => exact .inr ⟨rfl, fun kd j e => by cases e⟩
  | _ => exact .inr ⟨rfl, fun kd j e => by cases e⟩
theorem wpop_iaddrA (len sz : Nat) (a i : Opd) : WpOp E (.iaddrA len sz a i) σ K2 = iaddrAK len sz (a.get σ) (i.get σ) fun t => K2 t σ := by
  rw [wpop_pure rfl]
  simp only [runOp]
  rcases asNat_specK (i.get σ) with ⟨kd, j, e1, e2, e3⟩ | ⟨e1, e2⟩
  · rw [e1] at e3
    cases ha : a.get σ <;> simp only [e1, e3, iaddrAK, optK_none, optK_ite, optK_some, e2, true_and]
  · cases ha : a.get σ <;> simp only [e1, optK_none, iaddrAK]
    all_goals
      split <;> simp_all <;> (intros; omega)
def iaddrSK (sz : Nat) (a i : T) (k : T → Prop) : Prop := match a, i with
  | .sl _ n cs, .v (.int _ j) => 0 ≤ j ∧ j.toNat < n ∧ k (.ptr cs (j.toNat * sz))
  | .bsl s o n _, .v (.int _ j) => 0 ≤ j ∧ j.toNat < n ∧ k (.ref s (o + j.toNat * sz))
  | _, _ => False
theorem iaddrSK_sl (sz g n cs kd j k) : iaddrSK sz (.sl g n cs) (.v (.int kd j)) k = (0 ≤ j ∧ j.toNat < n ∧ k (.ptr cs (j.toNat * sz))) := rfl
theorem iaddrSK_bsl (sz s o n c kd j k) : iaddrSK sz (.bsl s o n c) (.v (.int kd j)) k = (0 ≤ j ∧ j.toNat < n ∧ k (.ref s (o + j.toNat * sz))) := rfl
theorem wpop_iaddrS (sz : Nat) (a i : Opd) : WpOp E (.iaddrS sz a i) σ K2 = iaddrSK sz (a.get σ) (i.get σ) fun t => K2 t σ := by
  rw [wpop_pure rfl]
  simp only [runOp]
  rcases asNat_specK (i.get σ) with ⟨kd, j, e1, e2, e3⟩ | ⟨e1, e2⟩
  · rw [e1] at e3
    cases ha : a.get σ <;> simp only [e1, e3, iaddrSK, optK_none, optK_ite, optK_some, e2, true_and]
  · cases ha : a.get σ <;> simp only [e1, optK_none, iaddrSK]
    all_goals
      split <;> simp_all <;> (intros; omega)
theorem wpop_len (str : Bool) (a : Opd) : WpOp E (.len str a) σ K2 = OptK (lenT str (a.get σ)) fun t => K2 t σ := by rw [wpop_pure rfl]; exact optK_map _ _ _
theorem lenT_sl (g n cs) : lenT false (.sl g n cs) = some (.v (.int .i64 n)) := rfl
theorem lenT_bsl (s o n c) : lenT false (.bsl s o n c) = some (.v (.int .i64 n)) := rfl
theorem lenT_str (s : ByteArray) : lenT true (.v (.string s)) = some (.v (.int .i64 s.size)) := rfl
theorem wpop_mkFunc (fn : Fn) (first cap : List Opd) : WpOp E (.mkFunc fn first cap) σ K2 = K2 (.clo fn (first.map (Opd.get σ)) (cap.map (Opd.get σ))) σ := by rw [wpop_pure rfl]; exact optK_some _ _
theorem wpop_toInt (kd : IntKind) (a : Opd) : WpOp E (.toInt kd a) σ K2 = OptK (runOp C0 σ (.toInt kd a)) fun p => K2 p.1 p.2 := wpop_pure rfl
end

/-! ### Arithmetic -/
theorem wrap_ok {x : Int} (h1 : -9223372036854775808 ≤ x) (h2 : x ≤ 9223372036854775807) : IntKind.i64.wrap x = x := by rw [IntKind.wrap_i64]; omega
theorem bin_add (t : TypeId) (a b : Int) : binT .add t (.v (.int .i64 a)) (.v (.int .i64 b)) = some (.v (.int .i64 (IntKind.i64.wrap (a + b)))) := rfl
theorem bin_sub (t : TypeId) (a b : Int) : binT .sub t (.v (.int .i64 a)) (.v (.int .i64 b)) = some (.v (.int .i64 (IntKind.i64.wrap (a - b)))) := rfl
theorem bin_mul (t : TypeId) (a b : Int) : binT .mul t (.v (.int .i64 a)) (.v (.int .i64 b)) = some (.v (.int .i64 (IntKind.i64.wrap (a * b)))) := rfl
theorem bin_lss (t : TypeId) (k : IntKind) (a b : Int) : binT .lss t (.v (.int k a)) (.v (.int k b)) = some (.v (.bool (decide (a < b)))) := by cases k <;> rfl
theorem bin_leq (t : TypeId) (k : IntKind) (a b : Int) : binT .leq t (.v (.int k a)) (.v (.int k b)) = some (.v (.bool (decide (a ≤ b)))) := by cases k <;> rfl
theorem bin_gtr (t : TypeId) (k : IntKind) (a b : Int) : binT .gtr t (.v (.int k a)) (.v (.int k b)) = some (.v (.bool (decide (b < a)))) := by cases k <;> rfl
theorem bin_geq (t : TypeId) (k : IntKind) (a b : Int) : binT .geq t (.v (.int k a)) (.v (.int k b)) = some (.v (.bool (decide (b ≤ a)))) := by cases k <;> rfl
theorem bin_eql (t : TypeId) (k : IntKind) (a b : Int) : binT .eql t (.v (.int k a)) (.v (.int k b)) = some (.v (.bool (a == b))) := by cases k <;> rfl
theorem bin_neq (t : TypeId) (k : IntKind) (a b : Int) : binT .neq t (.v (.int k a)) (.v (.int k b)) = some (.v (.bool (a != b))) := by cases k <;> rfl
end Go.Vi
end
section
/-
  A VERIFIED INTERPRETER (part 32): the rewrite rules, named for 'simp'.
-/
set_option linter.unusedSimpArgs false
set_option linter.unusedVariables false
namespace Go.Vi
open Go

attribute [simp] thenK_norm thenK_exit thenK_ret blockK_norm blockK_exit blockK_ret nojumpK_norm nojumpK_exit nojumpK_ret retK_norm retK_ret
  wp_skip wp_ret wp_exit wp_kill wp_seq wp_block wp_reg wp_cond wp_freeK wpops_nil wpops_none' wpops_some nthO_nil nthO_zero nthO_succ snoc_nil snoc_cons slotFree_nil slotFree_none slotFree_some slotFree_succ boxAt_nil boxAt_zero boxAt_succ
  optK_some optK_none optK_map optK_bind optK_ite optK_filter guardK_skipped nth_zero nth_succ get_r get_x get_c
  wpop_mv pickK_bool wpop_pick wpop_bin eqbK_bool wpop_eqb wpop_build fieldK_agg wpop_field indexSK_str wpop_indexS extractK_tup wpop_extract
  cellsK_agg cellsK_v cellsK_sl cellsK_bsl cellsK_ref cellsK_mref cellsK_clo cellsK_ptr wpop_alloc wpop_box loadK_ref loadK_ptr wpop_load storeK_ref wpop_store faddrK_ref faddrK_ptr wpop_faddr
  iaddrAK_ref iaddrAK_ptr wpop_iaddrA iaddrSK_sl iaddrSK_bsl wpop_iaddrS wpop_len lenT_sl lenT_bsl lenT_str wpop_mkFunc
  bin_add bin_sub bin_mul bin_lss bin_leq bin_gtr bin_geq bin_eql bin_neq
  killVars allocK freeBoxes

@[simp] theorem one_v (x : Value) : (T.v x).one = x.oneCell' := rfl
@[simp] theorem one_sl (g n cs) : (T.sl g n cs).one = true := rfl
@[simp] theorem one_ref (s o) : (T.ref s o).one = true := rfl
@[simp] theorem one_bsl (s o n c) : (T.bsl s o n c).one = true := rfl
@[simp] theorem one_mref (s) : (T.mref s).one = true := rfl
@[simp] theorem one_clo (f a b) : (T.clo f a b).one = true := rfl
@[simp] theorem one_ptr (cs o) : (T.ptr cs o).one = true := rfl
@[simp] theorem oc_int (k n) : (Value.int k n).oneCell' = true := rfl
@[simp] theorem oc_bool (b) : (Value.bool b).oneCell' = true := rfl
@[simp] theorem oc_str (s) : (Value.string s).oneCell' = true := rfl

@[simp] theorem stripL_nil (d : Nat) : stripL d [] = [] := by simp only [stripL]
@[simp] theorem stripL_cons (d : Nat) (t : T) (ts : List T) : stripL d (t :: ts) = t.strip d :: stripL d ts := by simp only [stripL]
@[simp] theorem stripx_v (d : Nat) (x : Value) : (T.v x).strip d = .v x := by simp only [T.strip]
@[simp] theorem strip_undef (d : Nat) : (T.undef).strip d = .undef := by simp only [T.strip]
@[simp] theorem strip_skipped (d : Nat) : T.skipped.strip d = T.skipped := by simp only [T.strip, T.skipped]
@[simp] theorem stripx_any (d n : Nat) (cs : List T) : (T.sl .any n cs).strip d = .sl .any n cs := by simp only [T.strip]
@[simp] theorem strip_nil (d n : Nat) (cs : List T) : (T.sl .nil n cs).strip d = .sl .nil n cs := by simp only [T.strip]
@[simp] theorem strip_imm (d n : Nat) (cs : List T) : (T.sl .imm n cs).strip d = .sl .imm n cs := by simp only [T.strip]
@[simp] theorem strip_clip (d n : Nat) (cs : List T) : (T.sl .clip n cs).strip d = .sl .clip n cs := by simp only [T.strip]
@[simp] theorem strip_ptr (d : Nat) (cs : List T) (o : Nat) : (T.ptr cs o).strip d = .ptr cs o := by simp only [T.strip]
@[simp] theorem strip_ref (d s o : Nat) : (T.ref s o).strip d = .ref s o := by simp only [T.strip]
@[simp] theorem strip_bsl (d s o n c : Nat) : (T.bsl s o n c).strip d = .bsl s o n c := by simp only [T.strip]
@[simp] theorem strip_mref (d s : Nat) : (T.mref s).strip d = .mref s := by simp only [T.strip]
@[simp] theorem strip_agg (d : Nat) (ts : List T) : (T.agg ts).strip d = .agg (stripL d ts) := by simp only [T.strip]
@[simp] theorem strip_tup (d : Nat) (ts : List T) : (T.tup ts).strip d = .tup (stripL d ts) := by simp only [T.strip]
@[simp] theorem strip_clo (d : Nat) (f : Fn) (a b : List T) : (T.clo f a b).strip d = .clo f (stripL d a) (stripL d b) := by simp only [T.strip]
@[simp] theorem st_strip (d : Nat) (rs vars : List T) (bx : List (Option (List T))) : St.strip d ⟨rs, vars, bx⟩ = ⟨stripL d rs, stripL d vars, bx.map (Option.map (stripL d))⟩ := rfl

@[simp] theorem importL_nil (d : Nat) : importL d [] = [] := by simp only [importL]
@[simp] theorem importL_cons (d : Nat) (t : T) (ts : List T) : importL d (t :: ts) = t.import d :: importL d ts := by simp only [importL]
@[simp] theorem import_v (d : Nat) (x : Value) : (T.v x).import d = .v x := by simp only [T.import]
@[simp] theorem import_any (d n : Nat) (cs : List T) : (T.sl .any n cs).import d = .sl .any n cs := by simp only [T.import]
@[simp] theorem import_nil (d n : Nat) (cs : List T) : (T.sl .nil n cs).import d = .sl .nil n cs := by simp only [T.import]
@[simp] theorem import_imm (d n : Nat) (cs : List T) : (T.sl .imm n cs).import d = .sl .imm n cs := by simp only [T.import]
@[simp] theorem import_clip (d n : Nat) (cs : List T) : (T.sl .clip n cs).import d = .sl .clip n cs := by simp only [T.import]
@[simp] theorem import_agg (d : Nat) (ts : List T) : (T.agg ts).import d = .agg (importL d ts) := by simp only [T.import]
@[simp] theorem import_tup (d : Nat) (ts : List T) : (T.tup ts).import d = .tup (importL d ts) := by simp only [T.import]

@[simp] theorem noRefL_nil (s : Nat) : noRefL s [] = true := by simp only [noRefL]
@[simp] theorem noRefL_cons (s : Nat) (t : T) (ts : List T) : noRefL s (t :: ts) = (t.noRef s && noRefL s ts) := by simp only [noRefL]
@[simp] theorem noRef_v (s : Nat) (x : Value) : (T.v x).noRef s = true := by simp only [T.noRef]
@[simp] theorem noRef_undef (s : Nat) : (T.undef).noRef s = true := by simp only [T.noRef]
@[simp] theorem noRef_sl (s : Nat) (g : Tag) (n : Nat) (cs : List T) : (T.sl g n cs).noRef s = true := by simp only [T.noRef]
@[simp] theorem noRef_ptr (s : Nat) (cs : List T) (o : Nat) : (T.ptr cs o).noRef s = true := by simp only [T.noRef]
@[simp] theorem noRef_ref (s s' o : Nat) : (T.ref s' o).noRef s = (s' != s) := by simp only [T.noRef]
@[simp] theorem noRef_bsl (s s' o n c : Nat) : (T.bsl s' o n c).noRef s = (s' != s) := by simp only [T.noRef]
@[simp] theorem noRef_mref (s s' : Nat) : (T.mref s').noRef s = (s' != s) := by simp only [T.noRef]
@[simp] theorem noRef_agg (s : Nat) (ts : List T) : (T.agg ts).noRef s = noRefL s ts := by simp only [T.noRef]
@[simp] theorem noRef_tup (s : Nat) (ts : List T) : (T.tup ts).noRef s = noRefL s ts := by simp only [T.noRef]
@[simp] theorem noRef_clo (s : Nat) (f : Fn) (a b : List T) : (T.clo f a b).noRef s = (noRefL s a && noRefL s b) := by simp only [T.noRef]
@[simp] theorem st_noRef (s : Nat) (rs vars : List T) (bx : List (Option (List T))) : St.noRef s ⟨rs, vars, bx⟩ = (noRefL s rs && noRefL s vars && bx.all fun o => match o with | some cs => noRefL s cs | none => true) := rfl

@[simp] theorem hasRefL_nil : hasRefL [] = false := by simp only [hasRefL]
@[simp] theorem hasRefL_cons (t : T) (ts : List T) : hasRefL (t :: ts) = (t.hasRef || hasRefL ts) := by simp only [hasRefL]
@[simp] theorem hasRef_v (x : Value) : (T.v x).hasRef = false := by simp only [T.hasRef]
@[simp] theorem hasRef_undef : (T.undef).hasRef = false := by simp only [T.hasRef]
@[simp] theorem hasRef_sl (g : Tag) (n : Nat) (cs : List T) : (T.sl g n cs).hasRef = false := by simp only [T.hasRef]
@[simp] theorem hasRef_ptr (cs : List T) (o : Nat) : (T.ptr cs o).hasRef = false := by simp only [T.hasRef]
@[simp] theorem hasRef_ref (s o : Nat) : (T.ref s o).hasRef = true := by simp only [T.hasRef]
@[simp] theorem hasRef_bsl (s o n c : Nat) : (T.bsl s o n c).hasRef = true := by simp only [T.hasRef]
@[simp] theorem hasRef_mref (s : Nat) : (T.mref s).hasRef = true := by simp only [T.hasRef]
@[simp] theorem hasRef_agg (ts : List T) : (T.agg ts).hasRef = hasRefL ts := by simp only [T.hasRef]
@[simp] theorem hasRef_tup (ts : List T) : (T.tup ts).hasRef = hasRefL ts := by simp only [T.hasRef]
@[simp] theorem hasRef_clo (f : Fn) (a b : List T) : (T.clo f a b).hasRef = (hasRefL a || hasRefL b) := by simp only [T.hasRef]

@[simp] theorem closedL_nil : closedL [] = true := by simp only [closedL]
@[simp] theorem closedL_cons (t : T) (ts : List T) : closedL (t :: ts) = (t.closed && closedL ts) := by simp only [closedL]
@[simp] theorem closed_v (x : Value) : (T.v x).closed = true := by simp only [T.closed]
@[simp] theorem closed_undef : (T.undef).closed = true := by simp only [T.closed]
@[simp] theorem closed_any (n : Nat) (cs : List T) : (T.sl .any n cs).closed = true := by simp only [T.closed]
@[simp] theorem closed_nil (n : Nat) (cs : List T) : (T.sl .nil n cs).closed = true := by simp only [T.closed]
@[simp] theorem closed_imm (n : Nat) (cs : List T) : (T.sl .imm n cs).closed = true := by simp only [T.closed]
@[simp] theorem closed_clip (n : Nat) (cs : List T) : (T.sl .clip n cs).closed = true := by simp only [T.closed]
@[simp] theorem closed_agg (ts : List T) : (T.agg ts).closed = closedL ts := by simp only [T.closed]
@[simp] theorem closed_tup (ts : List T) : (T.tup ts).closed = closedL ts := by simp only [T.closed]
@[simp] theorem closed_ptr (cs : List T) (o : Nat) : (T.ptr cs o).closed = true := by simp only [T.closed]
@[simp] theorem closed_clo (f : Fn) (a b : List T) : (T.clo f a b).closed = (closedL a && closedL b) := by simp only [T.closed]

section
variable (bx : List (Option (List T))) (k : Nat)
@[simp] theorem close_v (x : Value) : close bx (k + 1) (.v x) = some (.v x) := by simp only [close]
@[simp] theorem close_undef : close bx (k + 1) .undef = some .undef := by simp only [close]
@[simp] theorem close_sl (g : Tag) (n : Nat) (cs : List T) : close bx (k + 1) (.sl g n cs) = some (.sl .any n cs) := by simp only [close]
@[simp] theorem close_ptr (cs : List T) (o : Nat) : close bx (k + 1) (.ptr cs o) = some (.ptr cs o) := by simp only [close]
@[simp] theorem close_ref (s o : Nat) : close bx (k + 1) (.ref s o) = (boxAt bx s).bind fun cs => (cs.mapM (close bx k)).map (T.ptr · o) := by
  simp only [close, boxAt]
  cases bx[s]? with
  | none => rfl
  | some o => cases o <;> rfl
@[simp] theorem close_bsl (s o n c : Nat) : close bx (k + 1) (.bsl s o n c) = if n = 0 then some (.sl .any 0 []) else (boxAt bx s).bind fun cs => (((cs.drop o).take c).mapM (close bx k)).map (T.sl .any n ·) := by
  simp only [close, boxAt]
  split
  · rfl
  · cases bx[s]? with
    | none => rfl
    | some o => cases o <;> rfl
@[simp] theorem close_mref (s : Nat) : close bx (k + 1) (.mref s) = some .undef := by simp only [close]
@[simp] theorem close_agg (ts : List T) : close bx (k + 1) (.agg ts) = (ts.mapM (close bx k)).map T.agg := by simp only [close]
@[simp] theorem close_tup (ts : List T) : close bx (k + 1) (.tup ts) = (ts.mapM (close bx k)).map T.tup := by simp only [close]
@[simp] theorem close_clo (f : Fn) (a b : List T) : close bx (k + 1) (.clo f a b) = (a.mapM (close bx k)).bind fun a => (b.mapM (close bx k)).map fun b => .clo f a b := by
  simp only [close, Option.bind_eq_bind]
  cases a.mapM (close bx k) with
  | none => rfl
  | some a' => cases b.mapM (close bx k) <;> rfl
end

/-! ### Results -/
@[simp] theorem canonL_nil (i : Nat) (cs : List CM) : canonL i cs [] = [] := by cases cs <;> rfl
@[simp] theorem canonL_none (i : Nat) (ts : List T) : canonL i [] ts = ts := by cases ts <;> rfl
@[simp] theorem canonL_raw (i : Nat) (cs : List CM) (t : T) (ts : List T) : canonL i (.raw :: cs) (t :: ts) = t :: canonL (i + 1) cs ts := rfl
@[simp] theorem fams_nil : famsL [] = [] := by simp only [famsL]
@[simp] theorem fams_cons (t : T) (ts : List T) : famsL (t :: ts) = t.fams ++ famsL ts := by simp only [famsL]
@[simp] theorem fams_v (x : Value) : (T.v x).fams = [] := by simp only [T.fams]
@[simp] theorem fams_undef : (T.undef).fams = [] := by simp only [T.fams]
@[simp] theorem fams_own (k : Nat) (e : TypeId) (n : Nat) (cs : List T) : (T.sl (.own k e) n cs).fams = [k] := by simp only [T.fams]
@[simp] theorem fams_any (n : Nat) (cs : List T) : (T.sl .any n cs).fams = [] := by simp only [T.fams]
@[simp] theorem fams_slnil (n : Nat) (cs : List T) : (T.sl .nil n cs).fams = [] := by simp only [T.fams]
@[simp] theorem fams_imm (n : Nat) (cs : List T) : (T.sl .imm n cs).fams = [] := by simp only [T.fams]
@[simp] theorem fams_clip (n : Nat) (cs : List T) : (T.sl .clip n cs).fams = [] := by simp only [T.fams]
@[simp] theorem fams_agg (ts : List T) : (T.agg ts).fams = famsL ts := by simp only [T.fams]
@[simp] theorem fams_tup (ts : List T) : (T.tup ts).fams = famsL ts := by simp only [T.fams]
@[simp] theorem fams_ptr (cs : List T) (o : Nat) : (T.ptr cs o).fams = [] := by simp only [T.fams]
@[simp] theorem remapL_nil (ρ η : Nat → Option Nat) : remapL ρ η [] = [] := by simp only [remapL]
@[simp] theorem remapL_cons (ρ η : Nat → Option Nat) (t : T) (ts : List T) : remapL ρ η (t :: ts) = t.remap ρ η :: remapL ρ η ts := by simp only [remapL]
@[simp] theorem remap_v (ρ η : Nat → Option Nat) (x : Value) : (T.v x).remap ρ η = .v x := by simp only [T.remap]
@[simp] theorem remap_undef (ρ η : Nat → Option Nat) : (T.undef).remap ρ η = .undef := by simp only [T.remap]
@[simp] theorem remap_any (ρ η : Nat → Option Nat) (n : Nat) (cs : List T) : (T.sl .any n cs).remap ρ η = .sl .any n cs := by simp only [T.remap]
@[simp] theorem remap_slnil (ρ η : Nat → Option Nat) (n : Nat) (cs : List T) : (T.sl .nil n cs).remap ρ η = .sl .nil n cs := by simp only [T.remap]
@[simp] theorem remap_imm (ρ η : Nat → Option Nat) (n : Nat) (cs : List T) : (T.sl .imm n cs).remap ρ η = .sl .imm n cs := by simp only [T.remap]
@[simp] theorem remap_clip (ρ η : Nat → Option Nat) (n : Nat) (cs : List T) : (T.sl .clip n cs).remap ρ η = .sl .clip n cs := by simp only [T.remap]
def optT (o : Option Nat) (f : Nat → T) : T := match o with | some s => f s | none => .undef
@[simp] theorem optT_some (s : Nat) (f : Nat → T) : optT (some s) f = f s := rfl
@[simp] theorem optT_none (f : Nat → T) : optT none f = .undef := rfl
def optG (o : Option Nat) (e : TypeId) : Tag := match o with | some k => .own k e | none => .any
@[simp] theorem optG_some (s : Nat) (e : TypeId) : optG (some s) e = .own s e := rfl
@[simp] theorem optG_none (e : TypeId) : optG none e = .any := rfl
@[simp] theorem remap_own (ρ η : Nat → Option Nat) (k : Nat) (e : TypeId) (n : Nat) (cs : List T) : (T.sl (.own k e) n cs).remap ρ η = .sl (optG (η k) e) n cs := by simp only [T.remap, optG]; cases η k <;> rfl
@[simp] theorem remap_agg (ρ η : Nat → Option Nat) (ts : List T) : (T.agg ts).remap ρ η = .agg (remapL ρ η ts) := by simp only [T.remap]
@[simp] theorem remap_tup (ρ η : Nat → Option Nat) (ts : List T) : (T.tup ts).remap ρ η = .tup (remapL ρ η ts) := by simp only [T.remap]
@[simp] theorem remap_ptr (ρ η : Nat → Option Nat) (cs : List T) (o : Nat) : (T.ptr cs o).remap ρ η = .ptr cs o := by simp only [T.remap]
@[simp] theorem remap_ref (ρ η : Nat → Option Nat) (s o : Nat) : (T.ref s o).remap ρ η = optT (ρ s) fun s' => .ref s' o := by simp only [T.remap, optT]; cases ρ s <;> rfl
@[simp] theorem remap_bsl (ρ η : Nat → Option Nat) (s o n c : Nat) : (T.bsl s o n c).remap ρ η = optT (ρ s) fun s' => .bsl s' o n c := by simp only [T.remap, optT]; cases ρ s <;> rfl
@[simp] theorem remap_mref (ρ η : Nat → Option Nat) (s : Nat) : (T.mref s).remap ρ η = optT (ρ s) fun s' => .mref s' := by simp only [T.remap, optT]; cases ρ s <;> rfl
theorem export_v (bx : List (Option (List T))) (x : Value) : exportT bx (.v x) = some (.v x) := by simp [exportT]

/-! ### Elements of slices of structs -/
@[simp] theorem one_false (n : Nat) (cs : List T) (off : Nat) : one? false n cs off = nthO cs off := nthO_get cs off
@[simp] theorem one_cons (n : Nat) (a : T) (cs : List T) (off : Nat) : one? true n (a :: cs) off = if off + n ≤ (a :: cs).length then some (.agg (((a :: cs).drop off).take n)) else none := rfl
@[simp] theorem setCells_cons (a : T) (cs : List T) (off : Nat) (ns : List T) : setCells (a :: cs) off ns = (a :: cs).take off ++ ns ++ (a :: cs).drop (off + ns.length) := rfl
@[simp] theorem out_cons_some (rs vars : List T) (t : T) (j : Nat) (outs : List (Option Nat)) : outsOf rs (t :: vars) (some j :: outs) = nth rs j :: outsOf rs vars outs := by simp only [outsOf, List.zipWith_cons_cons, nth_getD]
@[simp] theorem out_cons_none (rs vars : List T) (t : T) (outs : List (Option Nat)) : outsOf rs (t :: vars) (none :: outs) = t :: outsOf rs vars outs := rfl
@[simp] theorem out_nil (rs vars : List T) : outsOf rs vars [] = [] := by simp [outsOf]
@[simp] theorem out_nil' (rs : List T) (outs : List (Option Nat)) : outsOf rs [] outs = [] := by simp [outsOf]
theorem res_one (rs vars : List T) (bx : List (Option (List T))) (i : Nat) (cs : List CM) : resultsOf ⟨rs, vars, bx⟩ [.var i] cs = (nthO vars i).bind fun t => match canonL 0 cs [t] with | [t] => some t | ts => some (.tup ts) := by
  simp only [resultsOf, List.mapM_cons, List.mapM_nil, resOf, Option.bind_eq_bind, Option.pure_def, ← nthO_get]
  cases vars[i]? <;> rfl

theorem flat_len {α : Type} {enc : α → List T} {sz : Nat} (h : ∀ x, (enc x).length = sz) : ∀ l : List α, (l.flatMap enc).length = l.length * sz
  | [] => by simp
  | x :: l => by simp [h, flat_len h l, Nat.add_mul, Nat.add_comm]
theorem flat_get {α : Type} {enc : α → List T} {sz : Nat} (h : ∀ x, (enc x).length = sz) : ∀ (l : List α) (k : Nat) (hk : k < l.length), ((l.flatMap enc).drop (k * sz)).take sz = enc l[k]
  | [], k, hk => by simp at hk
  | x :: l, 0, hk => by simp [h x]
  | x :: l, k + 1, hk => by
    have := flat_get h l k (by simpa using hk)
    have e : (k + 1) * sz = (enc x).length + k * sz := by rw [h x, Nat.add_mul]; omega
    rw [List.flatMap_cons, e, ← List.drop_drop, List.drop_left' rfl]
    simpa using this
theorem one_flat {α : Type} {enc : α → List T} {sz : Nat} (h : ∀ x, (enc x).length = sz) (l : List α) (k : Nat) (hk : k < l.length) : one? true sz (l.flatMap enc) (k * sz) = some (.agg (enc l[k])) := by
  have h1 : k * sz + sz ≤ (l.flatMap enc).length := by rw [flat_len h, ← Nat.succ_mul]; exact Nat.mul_le_mul_right sz hk
  simp only [one?, if_true, if_pos h1, flat_get h l k hk]

/-- A loop: what holds at the head of each round. -/
theorem wp_loop_ind {E : Env} {Q : Out → Prop} {body : IC} (I : Nat → St → Prop) (n : Nat) (hstep : ∀ k σ, k ≤ n → I k σ → Wp E body σ (thenK (fun σ' => k < n ∧ I (k + 1) σ') Q)) : ∀ (m k : Nat) (σ : St), n - k = m → k ≤ n → I k σ → Wp E (.loop body) σ Q
  | 0, k, σ, hm, hk, hI => by
    refine wp_loop body ?_
    obtain ⟨f, o, h1, h2⟩ := hstep k σ hk hI
    refine ⟨f, o, h1, ?_⟩
    cases o with
    | norm σ' => rw [thenK_norm] at h2; omega
    | exit => exact h2
    | ret => exact h2
  | m + 1, k, σ, hm, hk, hI => by
    refine wp_loop body ?_
    obtain ⟨f, o, h1, h2⟩ := hstep k σ hk hI
    refine ⟨f, o, h1, ?_⟩
    cases o with
    | norm σ' =>
      rw [thenK_norm] at h2 ⊢
      exact wp_loop_ind I n hstep m (k + 1) σ' (by omega) (by omega) h2.2
    | exit => exact h2
    | ret => exact h2
theorem wp_loop0 {E : Env} {Q : Out → Prop} {body : IC} {σ : St} (n : Nat) (I : Nat → St → Prop) (h0 : I 0 σ) (hstep : ∀ k σ, k ≤ n → I k σ → Wp E body σ (thenK (fun σ' => k < n ∧ I (k + 1) σ') Q)) : Wp E (.loop body) σ Q :=
  wp_loop_ind I n hstep n 0 σ (by omega) (by omega) h0
end Go.Vi
end
section
/-
  A VERIFIED INTERPRETER (part 33): guarded operations that only read, without parting the ways.
-/
set_option linter.unusedSimpArgs false
set_option linter.unusedVariables false
namespace Go.Vi
open Go


def okG : T → Prop
  | .v (.bool _) => True
  | .v (.tuple _) => True
  | _ => False
def wants : T → Bool → Bool
  | .v (.bool b), w => b == w
  | _, _ => false
@[simp] theorem okG_bool (b) : okG (.v (.bool b)) = True := rfl
@[simp] theorem okG_skipped : okG T.skipped = True := rfl
@[simp] theorem okG_ite (c : Prop) [Decidable c] (t u : T) : okG (if c then t else u) = if c then okG t else okG u := by split <;> rfl
@[simp] theorem wants_true (b) : wants (.v (.bool b)) true = b := by cases b <;> rfl
@[simp] theorem wants_false (b) : wants (.v (.bool b)) false = !b := by cases b <;> rfl
@[simp] theorem wants_skipped (w) : wants T.skipped w = false := rfl
@[simp] theorem wants_ite (c : Prop) [Decidable c] (t u : T) (w : Bool) : wants (if c then t else u) w = if c then wants t w else wants u w := by split <;> rfl

def rdOp : IOp → Bool
  | .mv _ | .pick .. | .bin .. | .eqb .. | .eqa .. | .eqnil .. | .un .. | .toInt .. | .field .. | .indexA .. | .indexS .. | .extract .. | .load .. | .faddr .. | .iaddrA .. | .iaddrS .. | .len .. => true
  | _ => false

def opV (σ : St) (o : IOp) : T := match runOp C0 σ o with
  | some p => p.1
  | none => .undef
def opD (σ : St) (o : IOp) : Prop := (runOp C0 σ o).isSome = true

theorem rd_st {o : IOp} (h : rdOp o = true) {C : CallF} {σ : St} {p : T × St} (hp : runOp C σ o = some p) : p.2 = σ := by
  cases o <;> simp only [rdOp] at h <;> try (cases h; done)
  all_goals
    simp only [runOp] at hp
    repeat' split at hp
    all_goals first
      | (cases hp; rfl)
      | (cases hp; done)
      | (obtain ⟨_, _, rfl⟩ := Option.map_eq_some_iff.1 hp; rfl)

theorem rd_pure {o : IOp} (h : rdOp o = true) : o.pureK = true := by cases o <;> first | rfl | cases h

@[simp] def RdK (E : Env) (σ : St) (K : St → Prop) (o : IOp) (j : Nat) (w : Bool) (rest : List (Option (Nat × Bool) × IOp)) : Prop :=
  okG (nth σ.rs j) ∧ (if wants (nth σ.rs j) w = true then opD σ o else True) ∧ WpOps E rest { σ with rs := σ.rs ++ [if wants (nth σ.rs j) w = true then opV σ o else T.skipped] } K

theorem wpops_rd {E : Env} {σ : St} {K : St → Prop} {o : IOp} (h : rdOp o = true) (j : Nat) (w : Bool) (rest : List (Option (Nat × Bool) × IOp)) :
    WpOps E ((some (j, w), o) :: rest) σ K = RdK E σ K o j w rest := by
  unfold RdK
  rw [wpops_some, ← nthO_get]
  simp only [← snoc_eq]
  have hn : ∀ x, σ.rs[j]? = some x → nth σ.rs j = x := fun x hx => by rw [← nth_getD, List.getD_eq_getElem?_getD, hx]; rfl
  have hn0 : σ.rs[j]? = none → nth σ.rs j = .undef := fun hx => by rw [← nth_getD, List.getD_eq_getElem?_getD, hx]; rfl
  have key : (WpOp E o σ fun t σ' => WpOps E rest { σ' with rs := σ'.rs ++ [t] } K) = (opD σ o ∧ WpOps E rest { σ with rs := σ.rs ++ [opV σ o] } K) := by
    rw [wpop_pure (rd_pure h)]
    unfold opD opV
    cases hr : runOp C0 σ o with
    | none => simp [optK_none]
    | some p =>
      have := rd_st h hr
      rw [optK_some, this]; simp
  cases hj : σ.rs[j]? with
  | none => rw [hn0 hj]; simp [guardK, okG]
  | some x =>
    rw [hn x hj]
    cases x with
    | v y =>
      cases y with
      | bool b =>
        simp only [guardK, okG_bool, true_and, wants]
        by_cases hb : (b == w) = true
        · simp only [hb, if_true, key]
        · simp only [hb, if_false, true_and, Bool.false_eq_true]
      | tuple xs => simp [guardK, okG, wants]
      | _ => simp [guardK, okG]
    | _ => simp [guardK, okG]

section
variable {E : Env} {σ : St} {K : St → Prop} (j : Nat) (w : Bool) (rest : List (Option (Nat × Bool) × IOp))
theorem wpops_rmv (a) : WpOps E ((some (j, w), .mv a) :: rest) σ K = RdK E σ K (.mv a) j w rest := wpops_rd rfl j w rest
theorem wpops_rpick (a b c) : WpOps E ((some (j, w), .pick a b c) :: rest) σ K = RdK E σ K (.pick a b c) j w rest := wpops_rd rfl j w rest
theorem wpops_rbin (a b c d) : WpOps E ((some (j, w), .bin a b c d) :: rest) σ K = RdK E σ K (.bin a b c d) j w rest := wpops_rd rfl j w rest
theorem wpops_reqb (a b c) : WpOps E ((some (j, w), .eqb a b c) :: rest) σ K = RdK E σ K (.eqb a b c) j w rest := wpops_rd rfl j w rest
theorem wpops_reqa (a b c d) : WpOps E ((some (j, w), .eqa a b c d) :: rest) σ K = RdK E σ K (.eqa a b c d) j w rest := wpops_rd rfl j w rest
theorem wpops_reqnil (a b) : WpOps E ((some (j, w), .eqnil a b) :: rest) σ K = RdK E σ K (.eqnil a b) j w rest := wpops_rd rfl j w rest
theorem wpops_run (a b) : WpOps E ((some (j, w), .un a b) :: rest) σ K = RdK E σ K (.un a b) j w rest := wpops_rd rfl j w rest
theorem wpops_rtoInt (a b) : WpOps E ((some (j, w), .toInt a b) :: rest) σ K = RdK E σ K (.toInt a b) j w rest := wpops_rd rfl j w rest
theorem wpops_rfield (a b c d) : WpOps E ((some (j, w), .field a b c d) :: rest) σ K = RdK E σ K (.field a b c d) j w rest := wpops_rd rfl j w rest
theorem wpops_rindexA (a b c d e) : WpOps E ((some (j, w), .indexA a b c d e) :: rest) σ K = RdK E σ K (.indexA a b c d e) j w rest := wpops_rd rfl j w rest
theorem wpops_rindexS (a b) : WpOps E ((some (j, w), .indexS a b) :: rest) σ K = RdK E σ K (.indexS a b) j w rest := wpops_rd rfl j w rest
theorem wpops_rextract (a b) : WpOps E ((some (j, w), .extract a b) :: rest) σ K = RdK E σ K (.extract a b) j w rest := wpops_rd rfl j w rest
theorem wpops_rload (a b c) : WpOps E ((some (j, w), .load a b c) :: rest) σ K = RdK E σ K (.load a b c) j w rest := wpops_rd rfl j w rest
theorem wpops_rfaddr (a b) : WpOps E ((some (j, w), .faddr a b) :: rest) σ K = RdK E σ K (.faddr a b) j w rest := wpops_rd rfl j w rest
theorem wpops_riaddrA (a b c d) : WpOps E ((some (j, w), .iaddrA a b c d) :: rest) σ K = RdK E σ K (.iaddrA a b c d) j w rest := wpops_rd rfl j w rest
theorem wpops_riaddrS (a b c) : WpOps E ((some (j, w), .iaddrS a b c) :: rest) σ K = RdK E σ K (.iaddrS a b c) j w rest := wpops_rd rfl j w rest
theorem wpops_rlen (a b) : WpOps E ((some (j, w), .len a b) :: rest) σ K = RdK E σ K (.len a b) j w rest := wpops_rd rfl j w rest
end

/-! ### What they give -/
def optV (o : Option T) : T := o.getD .undef
@[simp] theorem optV_some (t) : optV (some t) = t := rfl
theorem opV_map {σ : St} {o : IOp} {r : Option T} (h : runOp C0 σ o = r.map (·, σ)) : opV σ o = optV r := by unfold opV; rw [h]; cases r <;> rfl
theorem opD_map {σ : St} {o : IOp} {r : Option T} (h : runOp C0 σ o = r.map (·, σ)) : opD σ o = (r.isSome = true) := by unfold opD; rw [h]; cases r <;> rfl
section
variable (σ : St)
@[simp] theorem opV_mv (a) : opV σ (.mv a) = a.get σ := rfl
@[simp] theorem opD_mv (a) : opD σ (.mv a) = True := eq_true rfl
@[simp] theorem opV_bin (op t a b) : opV σ (.bin op t a b) = optV (binT op t (a.get σ) (b.get σ)) := opV_map rfl
@[simp] theorem opD_bin (op t a b) : opD σ (.bin op t a b) = ((binT op t (a.get σ) (b.get σ)).isSome = true) := opD_map rfl
def pickO (c a b : T) : Option T := match c with | .v (.bool t) => some (if t = true then a else b) | _ => none
@[simp] theorem pickO_bool (t a b) : pickO (.v (.bool t)) a b = some (if t = true then a else b) := rfl
theorem pick_run (a b c) : runOp C0 σ (.pick a b c) = (pickO (a.get σ) (b.get σ) (c.get σ)).map (·, σ) := by
  simp only [runOp, pickO]
  generalize Opd.get σ a = t
  cases t <;> try rfl
  rename_i x
  cases x <;> rfl
@[simp] theorem opV_pick (a b c) : opV σ (.pick a b c) = optV (pickO (a.get σ) (b.get σ) (c.get σ)) := opV_map (pick_run ..)
@[simp] theorem opD_pick (a b c) : opD σ (.pick a b c) = ((pickO (a.get σ) (b.get σ) (c.get σ)).isSome = true) := opD_map (pick_run ..)
def eqbO (neg : Bool) (a b : T) : Option T := match a, b with | .v (.bool x), .v (.bool y) => some (T.bool ((x == y) != neg)) | _, _ => none
@[simp] theorem eqbO_bool (neg x y) : eqbO neg (.v (.bool x)) (.v (.bool y)) = some (.v (.bool ((x == y) != neg))) := rfl
theorem eqb_run (neg a b) : runOp C0 σ (.eqb neg a b) = (eqbO neg (a.get σ) (b.get σ)).map (·, σ) := by
  simp only [runOp, eqbO]
  generalize Opd.get σ a = t
  generalize Opd.get σ b = u
  cases t <;> try rfl
  rename_i x
  cases x <;> try rfl
  cases u <;> try rfl
  rename_i y
  cases y <;> rfl
@[simp] theorem opV_eqb (neg a b) : opV σ (.eqb neg a b) = optV (eqbO neg (a.get σ) (b.get σ)) := opV_map (eqb_run ..)
@[simp] theorem opD_eqb (neg a b) : opD σ (.eqb neg a b) = ((eqbO neg (a.get σ) (b.get σ)).isSome = true) := opD_map (eqb_run ..)
def notO (a : T) : Option T := match a with | .v (.bool x) => some (T.bool (!x)) | _ => none
@[simp] theorem notO_bool (x) : notO (.v (.bool x)) = some (.v (.bool (!x))) := rfl
theorem not_run (a) (h : ∃ x, a.get σ = .v (.bool x)) : runOp C0 σ (.un .not a) = (notO (a.get σ)).map (·, σ) := by
  obtain ⟨x, h⟩ := h
  simp only [runOp, h]; rfl
def unO (op : UnOp) (a : T) : Option T := match a with | .v x => (pure0 (Op.unary op x)).map T.v | _ => none
@[simp] theorem unO_not (x) : unO .not (.v (.bool x)) = some (.v (.bool (!x))) := rfl
theorem un_run (op a) : runOp C0 σ (.un op a) = (unO op (a.get σ)).map (·, σ) := by
  simp only [runOp, unO]
  generalize Opd.get σ a = t
  cases t <;> try rfl
  rename_i x
  show Option.map _ _ = Option.map _ (Option.map _ _)
  cases pure0 (Op.unary op x) <;> rfl
@[simp] theorem opV_un (op a) : opV σ (.un op a) = optV (unO op (a.get σ)) := opV_map (un_run ..)
@[simp] theorem opD_un (op a) : opD σ (.un op a) = ((unO op (a.get σ)).isSome = true) := opD_map (un_run ..)
@[simp] theorem wpop_un {E : Env} {K2 : T → St → Prop} (op a) : WpOp E (.un op a) σ K2 = OptK (unO op (a.get σ)) fun t => K2 t σ := by
  rw [wpop_pure rfl, un_run]; exact optK_map _ _ _
def fieldO (isAgg : Bool) (off n : Nat) (a : T) : Option T := match a with | .agg cs => one? isAgg n cs off | _ => none
@[simp] theorem fieldO_agg (isAgg off n cs) : fieldO isAgg off n (.agg cs) = one? isAgg n cs off := rfl
theorem field_run (isAgg off n a) : runOp C0 σ (.field isAgg off n a) = (fieldO isAgg off n (a.get σ)).map (·, σ) := by
  simp only [runOp, fieldO]
  generalize Opd.get σ a = t
  cases t <;> rfl
@[simp] theorem opV_field (isAgg off n a) : opV σ (.field isAgg off n a) = optV (fieldO isAgg off n (a.get σ)) := opV_map (field_run ..)
@[simp] theorem opD_field (isAgg off n a) : opD σ (.field isAgg off n a) = ((fieldO isAgg off n (a.get σ)).isSome = true) := opD_map (field_run ..)
def loadO (bx : List (Option (List T))) (isAgg : Bool) (n : Nat) (a : T) : Option T := match a with
  | .ref s off => (boxAt bx s).bind fun cs => one? isAgg n cs off
  | .ptr cs off => (one? isAgg n cs off).filter T.closed
  | _ => none
@[simp] theorem loadO_ref (bx isAgg n s off) : loadO bx isAgg n (.ref s off) = (boxAt bx s).bind fun cs => one? isAgg n cs off := rfl
@[simp] theorem loadO_ptr (bx isAgg n cs off) : loadO bx isAgg n (.ptr cs off) = (one? isAgg n cs off).filter T.closed := rfl
theorem load_run (isAgg n a) : runOp C0 σ (.load isAgg n a) = (loadO σ.boxes isAgg n (a.get σ)).map (·, σ) := by
  simp only [runOp, loadO]
  generalize Opd.get σ a = t
  cases t <;> try rfl
  rename_i s off
  show (match σ.boxes[s]? with | some (some cs) => (one? isAgg n cs off).map (·, σ) | _ => none) = Option.map _ ((boxAt σ.boxes s).bind fun cs => one? isAgg n cs off)
  unfold boxAt
  cases σ.boxes[s]? with
  | none => rfl
  | some o => cases o <;> rfl
@[simp] theorem opV_load (isAgg n a) : opV σ (.load isAgg n a) = optV (loadO σ.boxes isAgg n (a.get σ)) := opV_map (load_run ..)
@[simp] theorem opD_load (isAgg n a) : opD σ (.load isAgg n a) = ((loadO σ.boxes isAgg n (a.get σ)).isSome = true) := opD_map (load_run ..)
def faddrO (off : Nat) (a : T) : Option T := match a with
  | .ref s o => some (.ref s (o + off))
  | .ptr cs o => some (.ptr cs (o + off))
  | _ => none
@[simp] theorem faddrO_ref (off s o) : faddrO off (.ref s o) = some (.ref s (o + off)) := rfl
@[simp] theorem faddrO_ptr (off cs o) : faddrO off (.ptr cs o) = some (.ptr cs (o + off)) := rfl
theorem faddr_run (off a) : runOp C0 σ (.faddr off a) = (faddrO off (a.get σ)).map (·, σ) := by
  simp only [runOp, faddrO]
  generalize Opd.get σ a = t
  cases t <;> rfl
@[simp] theorem opV_faddr (off a) : opV σ (.faddr off a) = optV (faddrO off (a.get σ)) := opV_map (faddr_run ..)
@[simp] theorem opD_faddr (off a) : opD σ (.faddr off a) = ((faddrO off (a.get σ)).isSome = true) := opD_map (faddr_run ..)
@[simp] theorem opV_len (str a) : opV σ (.len str a) = optV (lenT str (a.get σ)) := opV_map rfl
@[simp] theorem opD_len (str a) : opD σ (.len str a) = ((lenT str (a.get σ)).isSome = true) := opD_map rfl
def iaddrSO (sz : Nat) (a i : T) : Option T := match a, i with
  | .sl _ n cs, .v (.int _ j) => if 0 ≤ j ∧ j.toNat < n then some (.ptr cs (j.toNat * sz)) else none
  | .bsl s o n _, .v (.int _ j) => if 0 ≤ j ∧ j.toNat < n then some (.ref s (o + j.toNat * sz)) else none
  | _, _ => none
@[simp] theorem iaddrSO_sl (sz g n cs kd j) : iaddrSO sz (.sl g n cs) (.v (.int kd j)) = if 0 ≤ j ∧ j.toNat < n then some (.ptr cs (j.toNat * sz)) else none := rfl
@[simp] theorem iaddrSO_bsl (sz s o n c kd j) : iaddrSO sz (.bsl s o n c) (.v (.int kd j)) = if 0 ≤ j ∧ j.toNat < n then some (.ref s (o + j.toNat * sz)) else none := rfl
theorem iaddrS_run (sz a i) : runOp C0 σ (.iaddrS sz a i) = (iaddrSO sz (a.get σ) (i.get σ)).map (·, σ) := by
  simp only [runOp, iaddrSO]
  generalize Opd.get σ a = t
  generalize Opd.get σ i = u
  cases t <;> try rfl
  all_goals
    cases u <;> try rfl
    rename_i y
    cases y <;> try rfl
    rename_i n _ kd j
    by_cases h : 0 ≤ j <;> simp [asNat, h] <;> split <;> simp_all
@[simp] theorem opV_iaddrS (sz a i) : opV σ (.iaddrS sz a i) = optV (iaddrSO sz (a.get σ) (i.get σ)) := opV_map (iaddrS_run ..)
@[simp] theorem opD_iaddrS (sz a i) : opD σ (.iaddrS sz a i) = ((iaddrSO sz (a.get σ) (i.get σ)).isSome = true) := opD_map (iaddrS_run ..)
def iaddrAO (len sz : Nat) (a i : T) : Option T := match a, i with
  | .ref s o, .v (.int _ j) => if 0 ≤ j ∧ j.toNat < len then some (.ref s (o + j.toNat * sz)) else none
  | .ptr cs o, .v (.int _ j) => if 0 ≤ j ∧ j.toNat < len then some (.ptr cs (o + j.toNat * sz)) else none
  | _, _ => none
@[simp] theorem iaddrAO_ref (len sz s o kd j) : iaddrAO len sz (.ref s o) (.v (.int kd j)) = if 0 ≤ j ∧ j.toNat < len then some (.ref s (o + j.toNat * sz)) else none := rfl
@[simp] theorem iaddrAO_ptr (len sz cs o kd j) : iaddrAO len sz (.ptr cs o) (.v (.int kd j)) = if 0 ≤ j ∧ j.toNat < len then some (.ptr cs (o + j.toNat * sz)) else none := rfl
theorem iaddrA_run (len sz a i) : runOp C0 σ (.iaddrA len sz a i) = (iaddrAO len sz (a.get σ) (i.get σ)).map (·, σ) := by
  simp only [runOp, iaddrAO]
  generalize Opd.get σ a = t
  generalize Opd.get σ i = u
  cases t <;> try rfl
  all_goals
    cases u <;> try rfl
    rename_i y
    cases y <;> try rfl
    rename_i kd j
    by_cases h : 0 ≤ j <;> simp [asNat, h] <;> split <;> simp_all
@[simp] theorem opV_iaddrA (len sz a i) : opV σ (.iaddrA len sz a i) = optV (iaddrAO len sz (a.get σ) (i.get σ)) := opV_map (iaddrA_run ..)
@[simp] theorem opD_iaddrA (len sz a i) : opD σ (.iaddrA len sz a i) = ((iaddrAO len sz (a.get σ) (i.get σ)).isSome = true) := opD_map (iaddrA_run ..)
def eqaO (neg : Bool) (ks : List LK) (a b : T) : Option T := match a, b with | .agg xs, .agg ys => (eqCells ks xs ys).map fun e => T.bool (e != neg) | _, _ => none
@[simp] theorem eqaO_agg (neg ks xs ys) : eqaO neg ks (.agg xs) (.agg ys) = (eqCells ks xs ys).map fun e => T.bool (e != neg) := rfl
theorem eqa_run (neg ks a b) : runOp C0 σ (.eqa neg ks a b) = (eqaO neg ks (a.get σ) (b.get σ)).map (·, σ) := by
  simp only [runOp, eqaO]
  generalize Opd.get σ a = t
  generalize Opd.get σ b = u
  cases t <;> try rfl
  cases u <;> try rfl
  rename_i xs ys
  show Option.map _ _ = Option.map _ (Option.map _ _)
  cases eqCells ks xs ys <;> rfl
@[simp] theorem opV_eqa (neg ks a b) : opV σ (.eqa neg ks a b) = optV (eqaO neg ks (a.get σ) (b.get σ)) := opV_map (eqa_run ..)
@[simp] theorem opD_eqa (neg ks a b) : opD σ (.eqa neg ks a b) = ((eqaO neg ks (a.get σ) (b.get σ)).isSome = true) := opD_map (eqa_run ..)
@[simp] theorem wpop_eqaO {E : Env} {K2 : T → St → Prop} (neg ks a b) : WpOp E (.eqa neg ks a b) σ K2 = OptK (eqaO neg ks (a.get σ) (b.get σ)) fun t => K2 t σ := by
  rw [wpop_pure rfl, eqa_run]; exact optK_map _ _ _
def indexSO (a i : T) : Option T := match a, i with
  | .v (.string s), .v (.int _ j) => if 0 ≤ j then s.data[j.toNat]?.map fun b => T.v (.int .u8 b.toNat) else none
  | _, _ => none
@[simp] theorem indexSO_str (s kd j) : indexSO (.v (.string s)) (.v (.int kd j)) = if 0 ≤ j then s.data[j.toNat]?.map fun b => T.v (.int .u8 b.toNat) else none := rfl
theorem indexS_run (a i) : runOp C0 σ (.indexS a i) = (indexSO (a.get σ) (i.get σ)).map (·, σ) := by
  simp only [runOp, indexSO]
  generalize Opd.get σ a = t
  generalize Opd.get σ i = u
  cases t <;> try rfl
  rename_i x
  cases x <;> try rfl
  cases u <;> try rfl
  rename_i y
  cases y <;> try rfl
  rename_i s kd j
  by_cases h : 0 ≤ j
  · simp only [asNat, h, if_true]
    cases s.data[j.toNat]? <;> rfl
  · simp [asNat, h]
@[simp] theorem opV_indexS (a i) : opV σ (.indexS a i) = optV (indexSO (a.get σ) (i.get σ)) := opV_map (indexS_run ..)
@[simp] theorem opD_indexS (a i) : opD σ (.indexS a i) = ((indexSO (a.get σ) (i.get σ)).isSome = true) := opD_map (indexS_run ..)
end

/-! ### Tests become one truth value -/
@[simp] theorem ite_and (b x : Bool) : (if b = true then T.v (.bool x) else T.v (.bool false)) = T.v (.bool (b && x)) := by cases b <;> rfl
@[simp] theorem ite_or (b x : Bool) : (if b = true then T.v (.bool true) else T.v (.bool x)) = T.v (.bool (b || x)) := by cases b <;> rfl
@[simp] theorem ite_or' (b x : Bool) : (if b = false then T.v (.bool x) else T.v (.bool true)) = T.v (.bool (b || x)) := by cases b <;> rfl

/-! ### Equality of texts and of structs -/
theorem bin_eqs (t : TypeId) (a b : ByteArray) : binT .eql t (.v (.string a)) (.v (.string b)) = some (.v (.bool (a.toList == b.toList))) := rfl
theorem bin_nes (t : TypeId) (a b : ByteArray) : binT .neq t (.v (.string a)) (.v (.string b)) = some (.v (.bool (!(a.toList == b.toList)))) := rfl
attribute [simp] bin_eqs bin_nes
@[simp] theorem eqCells_nil : eqCells [] [] [] = some true := rfl
@[simp] theorem eqCells_int (k : IntKind) (ks : List LK) (a b : Int) (as bs : List T) : eqCells (.int :: ks) (.v (.int k a) :: as) (.v (.int k b) :: bs) = (eqCells ks as bs).map fun y => (a == b) && y := by
  simp only [eqCells, eqCell, Option.bind_eq_bind, if_true, Option.bind_some]
  cases eqCells ks as bs <;> rfl
@[simp] theorem eqCells_str (ks : List LK) (a b : ByteArray) (as bs : List T) : eqCells (.str :: ks) (.v (.string a) :: as) (.v (.string b) :: bs) = (eqCells ks as bs).map fun y => (a.toList == b.toList) && y := by
  simp only [eqCells, eqCell, Option.bind_eq_bind, Option.bind_some]
  cases eqCells ks as bs <;> rfl

/-- A guarded call by value. -/
theorem wpops_rcall {E : Env} {σ : St} {K : St → Prop} {j d : Nat} {w : Bool} {f : FuncId} {as : List Opd} {rest : List (Option (Nat × Bool) × IOp)} {b : Bool} {r : T} (hok : okG (nth σ.rs j)) (hb : wants (nth σ.rs j) w = b) (hf : f < ioBase)
    (hr : b = true → ∃ cs, (as.map (Opd.get σ)).mapM (close σ.boxes 6) = some cs ∧ Ev E f cs r ∧ (hasRefL (as.map (Opd.get σ)) && !r.fresh) = false ∧ σ.strip (2 * d) = σ)
    (h : WpOps E rest { σ with rs := snoc σ.rs (if b = true then r.import d else T.skipped) } K) : WpOps E ((some (j, w), .call d f as) :: rest) σ K := by
  rw [wpops_some, ← nthO_get]
  have hn : ∀ x, σ.rs[j]? = some x → nth σ.rs j = x := fun x hx => by rw [← nth_getD, List.getD_eq_getElem?_getD, hx]; rfl
  have hn0 : σ.rs[j]? = none → nth σ.rs j = .undef := fun hx => by rw [← nth_getD, List.getD_eq_getElem?_getD, hx]; rfl
  cases hj : σ.rs[j]? with
  | none => rw [hn0 hj] at hok; exact hok.elim
  | some x =>
    rw [hn x hj] at hok hb
    cases x with
    | v y =>
      cases y with
      | bool v =>
        simp only [wants] at hb
        simp only [guardK, hb]
        cases hbb : b with
        | true =>
          obtain ⟨cs, h1, h2, h3, h4⟩ := hr hbb
          rw [if_pos rfl]
          refine wpop_call h1 hf h2 h3 ?_
          rw [h4]
          rw [hbb, if_pos rfl] at h
          exact h
        | false =>
          rw [if_neg (by simp)]
          rw [hbb, if_neg (by simp)] at h
          exact h
      | tuple xs =>
        simp only [wants] at hb
        subst hb
        simp only [guardK]
        rw [if_neg (by simp)] at h
        exact h
      | _ => exact hok.elim
    | _ => exact hok.elim
end Go.Vi
end
section
/-
  A VERIFIED INTERPRETER (part 35): a machine of inert parts, stepped by rewriting.
-/
set_option linter.unusedSimpArgs false
set_option linter.unusedVariables false
namespace Go.Vi
open Go

/-- A fact that rewriting leaves alone. -/
structure Hd (p : Prop) : Prop where
  out : p

/-- What is to be done behind the code at hand. -/
inductive Fr where
  | seq (b : IC) | blk (id : Nat) | nj

def Fin (E : Env) : List Fr → (Out → Prop) → Out → Prop
  | [], Q => Q
  | .seq b :: k, Q => thenK (fun σ => Wp E b σ (Fin E k Q)) (Fin E k Q)
  | .blk id :: k, Q => blockK id (Fin E k Q)
  | .nj :: k, Q => nojumpK (Fin E k Q)

/-- Code; its end; an exit; a return; operations. -/
def M (E : Env) (c : IC) (k : List Fr) (σ : St) (Q : Out → Prop) : Prop := Wp E c σ (Fin E k Q)
def N (E : Env) (k : List Fr) (σ : St) (Q : Out → Prop) : Prop := Fin E k Q (.norm σ)
def X (E : Env) (id : Nat) (k : List Fr) (σ : St) (Q : Out → Prop) : Prop := Fin E k Q (.exit id σ)
def R (E : Env) (k : List Fr) (σ : St) (Q : Out → Prop) : Prop := Fin E k Q (.ret σ)
abbrev Ops := List (Option (Nat × Bool) × IOp)
def O (E : Env) (ops : Ops) (outs : List (Option Nat)) (k : List Fr) (σ : St) (Q : Out → Prop) : Prop := WpOps E ops σ fun σ' => N E k ⟨[], outsOf σ'.rs σ'.vars outs, σ'.boxes⟩ Q

section
variable {E : Env} {k : List Fr} {σ : St} {Q : Out → Prop}
@[simp] theorem m_skip : M E .skip k σ Q = N E k σ Q := wp_skip
@[simp] theorem m_ret : M E .ret k σ Q = R E k σ Q := wp_ret
@[simp] theorem m_exit (id) : M E (.exit id) k σ Q = X E id k σ Q := wp_exit id
@[simp] theorem m_kill (vs) (rs vars bx) : M E (.kill vs) k ⟨rs, vars, bx⟩ Q = N E k ⟨rs, killVars vs vars, bx⟩ Q := wp_kill vs
@[simp] theorem m_free_nil : M E (.free []) k σ Q = N E k σ Q := (wp_freeK []).trans (optK_some _ _)
@[simp] theorem m_free_cons (s ss) (rs vars bx) : M E (.free (s :: ss)) k ⟨rs, vars, bx⟩ Q = (St.noRef s ⟨rs, vars, bx⟩ = true ∧ M E (.free ss) k ⟨rs, vars, bx.set s none⟩ Q) := by
  unfold M
  rw [wp_freeK, wp_freeK]
  simp only [freeBoxes]
  exact optK_ite _ _ _
@[simp] theorem m_seq (a b) : M E (.seq a b) k σ Q = M E a (.seq b :: k) σ Q := wp_seq a b
@[simp] theorem m_block (id a) : M E (.block id a) k σ Q = M E a (.blk id :: k) σ Q := wp_block id a
theorem m_nojump (a) (h : M E a (.nj :: k) σ Q) : M E (.nojump a) k σ Q := wp_nojump a h
@[simp] theorem m_reg (r) : M E (.reg r) k σ Q = O E r.ops r.outs k { σ with rs := [] } Q := wp_reg r
def condM (E : Env) (t : T) (a b : IC) (k : List Fr) (σ : St) (Q : Out → Prop) : Prop := condK t (M E a k σ Q) (M E b k σ Q)
@[simp] theorem m_cond (c a b) : M E (.cond c a b) k σ Q = condM E (c.get σ) a b k σ Q := wp_cond c a b
@[simp] theorem condM_true (a b) : condM E (.v (.bool true)) a b k σ Q = M E a k σ Q := rfl
@[simp] theorem condM_false (a b) : condM E (.v (.bool false)) a b k σ Q = M E b k σ Q := rfl
theorem condM_split {t : Bool} {a b} (h1 : t = true → M E a k σ Q) (h2 : t = false → M E b k σ Q) : condM E (.v (.bool t)) a b k σ Q := by
  cases t
  · exact h2 rfl
  · exact h1 rfl
@[simp] theorem n_nil : N E [] σ Q = Q (.norm σ) := rfl
@[simp] theorem n_seq (b) : N E (.seq b :: k) σ Q = M E b k σ Q := rfl
@[simp] theorem n_blk (id) : N E (.blk id :: k) σ Q = N E k σ Q := rfl
@[simp] theorem n_nj : N E (.nj :: k) σ Q = N E k σ Q := rfl
@[simp] theorem x_nil (id) : X E id [] σ Q = Q (.exit id σ) := rfl
@[simp] theorem x_seq (id b) : X E id (.seq b :: k) σ Q = X E id k σ Q := rfl
@[simp] theorem x_blk (id j) : X E id (.blk j :: k) σ Q = if id = j then N E k σ Q else X E id k σ Q := rfl
@[simp] theorem x_nj (id) : X E id (.nj :: k) σ Q = if id < gotoBase then X E id k σ Q else False := rfl
@[simp] theorem r_nil : R E [] σ Q = Q (.ret σ) := rfl
@[simp] theorem r_seq (b) : R E (.seq b :: k) σ Q = R E k σ Q := rfl
@[simp] theorem r_blk (id) : R E (.blk id :: k) σ Q = R E k σ Q := rfl
@[simp] theorem r_nj : R E (.nj :: k) σ Q = R E k σ Q := rfl

variable {outs : List (Option Nat)} {rest : Ops}
@[simp] theorem o_nil (rs vars bx) : O E [] outs k ⟨rs, vars, bx⟩ Q = N E k ⟨[], outsOf rs vars outs, bx⟩ Q := wpops_nil

/-- Operations that only read. -/
theorem o_rd {o : IOp} (h : rdOp o = true) (rs vars bx) : O E ((none, o) :: rest) outs k ⟨rs, vars, bx⟩ Q = (opD ⟨rs, vars, bx⟩ o ∧ O E rest outs k ⟨snoc rs (opV ⟨rs, vars, bx⟩ o), vars, bx⟩ Q) := by
  unfold O
  rw [wpops_none', wpop_pure (rd_pure h)]
  unfold opD opV
  cases hr : runOp C0 ⟨rs, vars, bx⟩ o with
  | none => simp [optK_none]
  | some p =>
    have := rd_st h hr
    rw [optK_some, this]; simp
variable (rs vars : List T) (bx : List (Option (List T)))
@[simp] theorem o_mv (a) : O E ((none, .mv a) :: rest) outs k ⟨rs, vars, bx⟩ Q = O E rest outs k ⟨snoc rs (a.get ⟨rs, vars, bx⟩), vars, bx⟩ Q := by rw [o_rd rfl, opD_mv, true_and, opV_mv]
@[simp] theorem o_pick (a b c) : O E ((none, .pick a b c) :: rest) outs k ⟨rs, vars, bx⟩ Q = (opD ⟨rs, vars, bx⟩ (.pick a b c) ∧ O E rest outs k ⟨snoc rs (opV ⟨rs, vars, bx⟩ (.pick a b c)), vars, bx⟩ Q) := o_rd rfl ..
@[simp] theorem o_bin (a b c d) : O E ((none, .bin a b c d) :: rest) outs k ⟨rs, vars, bx⟩ Q = (opD ⟨rs, vars, bx⟩ (.bin a b c d) ∧ O E rest outs k ⟨snoc rs (opV ⟨rs, vars, bx⟩ (.bin a b c d)), vars, bx⟩ Q) := o_rd rfl ..
@[simp] theorem o_eqb (a b c) : O E ((none, .eqb a b c) :: rest) outs k ⟨rs, vars, bx⟩ Q = (opD ⟨rs, vars, bx⟩ (.eqb a b c) ∧ O E rest outs k ⟨snoc rs (opV ⟨rs, vars, bx⟩ (.eqb a b c)), vars, bx⟩ Q) := o_rd rfl ..
@[simp] theorem o_eqa (a b c d) : O E ((none, .eqa a b c d) :: rest) outs k ⟨rs, vars, bx⟩ Q = (opD ⟨rs, vars, bx⟩ (.eqa a b c d) ∧ O E rest outs k ⟨snoc rs (opV ⟨rs, vars, bx⟩ (.eqa a b c d)), vars, bx⟩ Q) := o_rd rfl ..
@[simp] theorem o_eqnil (a b) : O E ((none, .eqnil a b) :: rest) outs k ⟨rs, vars, bx⟩ Q = (opD ⟨rs, vars, bx⟩ (.eqnil a b) ∧ O E rest outs k ⟨snoc rs (opV ⟨rs, vars, bx⟩ (.eqnil a b)), vars, bx⟩ Q) := o_rd rfl ..
@[simp] theorem o_un (a b) : O E ((none, .un a b) :: rest) outs k ⟨rs, vars, bx⟩ Q = (opD ⟨rs, vars, bx⟩ (.un a b) ∧ O E rest outs k ⟨snoc rs (opV ⟨rs, vars, bx⟩ (.un a b)), vars, bx⟩ Q) := o_rd rfl ..
@[simp] theorem o_toInt (a b) : O E ((none, .toInt a b) :: rest) outs k ⟨rs, vars, bx⟩ Q = (opD ⟨rs, vars, bx⟩ (.toInt a b) ∧ O E rest outs k ⟨snoc rs (opV ⟨rs, vars, bx⟩ (.toInt a b)), vars, bx⟩ Q) := o_rd rfl ..
@[simp] theorem o_field (a b c d) : O E ((none, .field a b c d) :: rest) outs k ⟨rs, vars, bx⟩ Q = (opD ⟨rs, vars, bx⟩ (.field a b c d) ∧ O E rest outs k ⟨snoc rs (opV ⟨rs, vars, bx⟩ (.field a b c d)), vars, bx⟩ Q) := o_rd rfl ..
@[simp] theorem o_indexA (a b c d e) : O E ((none, .indexA a b c d e) :: rest) outs k ⟨rs, vars, bx⟩ Q = (opD ⟨rs, vars, bx⟩ (.indexA a b c d e) ∧ O E rest outs k ⟨snoc rs (opV ⟨rs, vars, bx⟩ (.indexA a b c d e)), vars, bx⟩ Q) := o_rd rfl ..
@[simp] theorem o_indexS (a b) : O E ((none, .indexS a b) :: rest) outs k ⟨rs, vars, bx⟩ Q = (opD ⟨rs, vars, bx⟩ (.indexS a b) ∧ O E rest outs k ⟨snoc rs (opV ⟨rs, vars, bx⟩ (.indexS a b)), vars, bx⟩ Q) := o_rd rfl ..
@[simp] theorem o_extract (a b) : O E ((none, .extract a b) :: rest) outs k ⟨rs, vars, bx⟩ Q = (opD ⟨rs, vars, bx⟩ (.extract a b) ∧ O E rest outs k ⟨snoc rs (opV ⟨rs, vars, bx⟩ (.extract a b)), vars, bx⟩ Q) := o_rd rfl ..
@[simp] theorem o_load (a b c) : O E ((none, .load a b c) :: rest) outs k ⟨rs, vars, bx⟩ Q = (opD ⟨rs, vars, bx⟩ (.load a b c) ∧ O E rest outs k ⟨snoc rs (opV ⟨rs, vars, bx⟩ (.load a b c)), vars, bx⟩ Q) := o_rd rfl ..
@[simp] theorem o_faddr (a b) : O E ((none, .faddr a b) :: rest) outs k ⟨rs, vars, bx⟩ Q = (opD ⟨rs, vars, bx⟩ (.faddr a b) ∧ O E rest outs k ⟨snoc rs (opV ⟨rs, vars, bx⟩ (.faddr a b)), vars, bx⟩ Q) := o_rd rfl ..
@[simp] theorem o_iaddrA (a b c d) : O E ((none, .iaddrA a b c d) :: rest) outs k ⟨rs, vars, bx⟩ Q = (opD ⟨rs, vars, bx⟩ (.iaddrA a b c d) ∧ O E rest outs k ⟨snoc rs (opV ⟨rs, vars, bx⟩ (.iaddrA a b c d)), vars, bx⟩ Q) := o_rd rfl ..
@[simp] theorem o_iaddrS (a b c) : O E ((none, .iaddrS a b c) :: rest) outs k ⟨rs, vars, bx⟩ Q = (opD ⟨rs, vars, bx⟩ (.iaddrS a b c) ∧ O E rest outs k ⟨snoc rs (opV ⟨rs, vars, bx⟩ (.iaddrS a b c)), vars, bx⟩ Q) := o_rd rfl ..
@[simp] theorem o_len (a b) : O E ((none, .len a b) :: rest) outs k ⟨rs, vars, bx⟩ Q = (opD ⟨rs, vars, bx⟩ (.len a b) ∧ O E rest outs k ⟨snoc rs (opV ⟨rs, vars, bx⟩ (.len a b)), vars, bx⟩ Q) := o_rd rfl ..

/-- A guarded operation. -/
def G (E : Env) (g : Option T) (w : Bool) (o : IOp) (rest : Ops) (outs : List (Option Nat)) (k : List Fr) (σ : St) (Q : Out → Prop) : Prop :=
  guardK g w (O E ((none, o) :: rest) outs k σ Q) (O E rest outs k { σ with rs := snoc σ.rs T.skipped } Q)
@[simp] theorem o_guard (j w o) : O E ((some (j, w), o) :: rest) outs k ⟨rs, vars, bx⟩ Q = G E (nthO rs j) w o rest outs k ⟨rs, vars, bx⟩ Q := by
  unfold O G
  rw [wpops_some]
  unfold O
  rw [wpops_none']
@[simp] theorem g_true (o) : G E (some (.v (.bool true))) true o rest outs k σ Q = O E ((none, o) :: rest) outs k σ Q := rfl
@[simp] theorem g_false (o) : G E (some (.v (.bool false))) false o rest outs k σ Q = O E ((none, o) :: rest) outs k σ Q := rfl
@[simp] theorem g_true' (o) : G E (some (.v (.bool false))) true o rest outs k σ Q = O E rest outs k { σ with rs := snoc σ.rs T.skipped } Q := rfl
@[simp] theorem g_false' (o) : G E (some (.v (.bool true))) false o rest outs k σ Q = O E rest outs k { σ with rs := snoc σ.rs T.skipped } Q := rfl
@[simp] theorem g_skip (w o) : G E (some T.skipped) w o rest outs k σ Q = O E rest outs k { σ with rs := snoc σ.rs T.skipped } Q := rfl
theorem g_split {b w : Bool} {o} (h1 : b = true → G E (some (.v (.bool true))) w o rest outs k σ Q) (h2 : b = false → G E (some (.v (.bool false))) w o rest outs k σ Q) : G E (some (.v (.bool b))) w o rest outs k σ Q := by
  cases b
  · exact h2 rfl
  · exact h1 rfl

/-- May each be held by one cell? -/
def oneL (cs : List T) : Bool := cs.all T.one
@[simp] theorem oneL_nil : oneL [] = true := rfl
@[simp] theorem oneL_cons (t cs) : oneL (t :: cs) = (t.one && oneL cs) := rfl
/-- Operations that make, or write, boxes. -/
def cellsV (t : T) : List T := (cellsOf t).getD []
def cellsD (t : T) : Bool := (cellsOf t).isSome
@[simp] theorem cellsV_agg (cs) : cellsV (.agg cs) = cs := rfl
@[simp] theorem cellsV_v (x) : cellsV (.v x) = [.v x] := rfl
@[simp] theorem cellsV_sl (g n cs) : cellsV (.sl g n cs) = [.sl g n cs] := rfl
@[simp] theorem cellsV_bsl (s o n c) : cellsV (.bsl s o n c) = [.bsl s o n c] := rfl
@[simp] theorem cellsV_ref (s o) : cellsV (.ref s o) = [.ref s o] := rfl
@[simp] theorem cellsV_ptr (cs o) : cellsV (.ptr cs o) = [.ptr cs o] := rfl
@[simp] theorem cellsV_mref (s) : cellsV (.mref s) = [.mref s] := rfl
@[simp] theorem cellsV_clo (f a b) : cellsV (.clo f a b) = [.clo f a b] := rfl
@[simp] theorem cellsD_agg (cs) : cellsD (.agg cs) = true := rfl
@[simp] theorem cellsD_v (x) : cellsD (.v x) = true := rfl
@[simp] theorem cellsD_sl (g n cs) : cellsD (.sl g n cs) = true := rfl
@[simp] theorem cellsD_bsl (s o n c) : cellsD (.bsl s o n c) = true := rfl
@[simp] theorem cellsD_ref (s o) : cellsD (.ref s o) = true := rfl
@[simp] theorem cellsD_ptr (cs o) : cellsD (.ptr cs o) = true := rfl
@[simp] theorem cellsD_mref (s) : cellsD (.mref s) = true := rfl
@[simp] theorem cellsD_clo (f a b) : cellsD (.clo f a b) = true := rfl
theorem cellsK_eq (t : T) (k : List T → Prop) : cellsK t k = (cellsD t = true ∧ k (cellsV t)) := by
  unfold cellsK cellsD cellsV
  cases cellsOf t with
  | none => simp [optK_none]
  | some cs => simp [optK_some]
@[simp] theorem o_box (s a) : O E ((none, .box s a) :: rest) outs k ⟨rs, vars, bx⟩ Q = (cellsD (a.get ⟨rs, vars, bx⟩) = true ∧ oneL (cellsV (a.get ⟨rs, vars, bx⟩)) = true ∧ slotFree bx s = true ∧ s % 2 = 0 ∧ O E rest outs k ⟨snoc rs (.ref s 0), vars, bx.set s (some (cellsV (a.get ⟨rs, vars, bx⟩)))⟩ Q) := by
  unfold O
  rw [wpops_none', wpop_box, cellsK_eq]; rfl
@[simp] theorem o_alloc (s cs) : O E ((none, .alloc s cs) :: rest) outs k ⟨rs, vars, bx⟩ Q = (slotFree bx s = true ∧ s % 2 = 0 ∧ O E rest outs k ⟨snoc rs (.ref s 0), vars, bx.set s (some cs)⟩ Q) := by
  unfold O
  rw [wpops_none', wpop_alloc]; rfl
/-- What is stored to. -/
def storeM (E : Env) (a : T) (n : Nat) (ns : List T) (rest : Ops) (outs : List (Option Nat)) (k : List Fr) (σ : St) (Q : Out → Prop) : Prop :=
  storeK σ.boxes n a ns fun bx => O E rest outs k { σ with rs := snoc σ.rs .undef, boxes := bx } Q
def storeB (E : Env) (o : Option (List T)) (s off n : Nat) (ns : List T) (rest : Ops) (outs : List (Option Nat)) (k : List Fr) (σ : St) (Q : Out → Prop) : Prop :=
  OptK o fun cs => ns.length = n ∧ off + n ≤ cs.length ∧ oneL ns = true ∧ O E rest outs k { σ with rs := snoc σ.rs .undef, boxes := σ.boxes.set s (some (setCells cs off ns)) } Q
@[simp] theorem o_store (n a b) : O E ((none, .store n a b) :: rest) outs k ⟨rs, vars, bx⟩ Q = (cellsD (b.get ⟨rs, vars, bx⟩) = true ∧ storeM E (a.get ⟨rs, vars, bx⟩) n (cellsV (b.get ⟨rs, vars, bx⟩)) rest outs k ⟨rs, vars, bx⟩ Q) := by
  unfold O
  rw [wpops_none', wpop_store, cellsK_eq]; rfl
@[simp] theorem storeM_ref (s off n ns) : storeM E (.ref s off) n ns rest outs k ⟨rs, vars, bx⟩ Q = storeB E (boxAt bx s) s off n ns rest outs k ⟨rs, vars, bx⟩ Q := rfl
@[simp] theorem storeB_some (cs s off n ns) : storeB E (some cs) s off n ns rest outs k ⟨rs, vars, bx⟩ Q = (ns.length = n ∧ off + n ≤ cs.length ∧ oneL ns = true ∧ O E rest outs k ⟨snoc rs .undef, vars, bx.set s (some (setCells cs off ns))⟩ Q) := optK_some _ _
@[simp] theorem o_build (zero parts) : O E ((none, .build zero parts) :: rest) outs k ⟨rs, vars, bx⟩ Q = ((fillT (Opd.get ⟨rs, vars, bx⟩) zero parts).isSome = true ∧ O E rest outs k ⟨snoc rs (.agg ((fillT (Opd.get ⟨rs, vars, bx⟩) zero parts).getD [])), vars, bx⟩ Q) := by
  unfold O
  rw [wpops_none', wpop_build]
  cases fillT (Opd.get ⟨rs, vars, bx⟩) zero parts with
  | none => simp [optK_none]
  | some cs => simp [optK_some]
@[simp] theorem o_mkFunc (fn first cap) : O E ((none, .mkFunc fn first cap) :: rest) outs k ⟨rs, vars, bx⟩ Q = O E rest outs k ⟨snoc rs (.clo fn (first.map (Opd.get ⟨rs, vars, bx⟩)) (cap.map (Opd.get ⟨rs, vars, bx⟩))), vars, bx⟩ Q := by
  unfold O
  rw [wpops_none', wpop_mkFunc]

@[simp] theorem filter_closed {t : T} (h : t.closed = true) : Option.filter T.closed (some t) = some t := by simp [Option.filter, h]

theorem nthO_flat {α : Type} {enc : α → List T} {sz : Nat} (h : ∀ x, (enc x).length = sz) (l : List α) (k j : Nat) (hk : k < l.length) (hj : j < sz) : nthO (l.flatMap enc) (k * sz + j) = nthO (enc l[k]) j := by
  rw [← nthO_get, ← nthO_get, ← flat_get h l k hk, List.getElem?_take, if_pos hj, List.getElem?_drop]

/-! ### Calls -/
theorem Ev.det {f : FuncId} {cs : List T} {r r' : T} (h : Ev E f cs r) (h' : Ev E f cs r') : r = r' := by
  obtain ⟨n, hn⟩ := h
  obtain ⟨m, hm⟩ := h'
  have h1 := (le_max E n m).1 _ _ _ hn
  have h2 := (le_max E n m).2 _ _ _ hm
  rw [h1] at h2
  exact Option.some.inj h2
/-- What a call comes to. -/
noncomputable def callR (E : Env) (f : FuncId) (cs : List T) : Option T := by
  classical exact if h : ∃ r, Ev E f cs r then some h.choose else none
theorem callR_some {f : FuncId} {cs : List T} {r : T} (h : Ev E f cs r) : callR E f cs = some r := by
  unfold callR
  rw [dif_pos ⟨r, h⟩]
  exact congrArg some (Ev.det (Exists.choose_spec (p := fun r => Ev E f cs r) ⟨r, h⟩) h)
theorem callR_ev {f : FuncId} {cs : List T} {r : T} (h : callR E f cs = some r) : Ev E f cs r := by
  unfold callR at h
  split at h
  · rename_i hx; simp only [Option.some.injEq] at h; rw [← h]; exact hx.choose_spec
  · cases h
def Cr (E : Env) (d : Nat) (r : Option T) (hr : Bool) (rest : Ops) (outs : List (Option Nat)) (k : List Fr) (σ : St) (Q : Out → Prop) : Prop :=
  OptK r fun r => (hr && !r.fresh) = false ∧ O E rest outs k ⟨snoc (σ.strip (2 * d)).rs (r.import d), (σ.strip (2 * d)).vars, (σ.strip (2 * d)).boxes⟩ Q
@[simp] theorem cr_some (d r hr) : Cr E d (some r) hr rest outs k ⟨rs, vars, bx⟩ Q = ((hr && !r.fresh) = false ∧ O E rest outs k ⟨snoc (stripL (2 * d) rs) (r.import d), stripL (2 * d) vars, bx.map (Option.map (stripL (2 * d)))⟩ Q) := optK_some _ _
def Cl (E : Env) (d : Nat) (f : FuncId) (cs : Option (List T)) (hr : Bool) (rest : Ops) (outs : List (Option Nat)) (k : List Fr) (σ : St) (Q : Out → Prop) : Prop :=
  OptK cs fun cs => f < ioBase ∧ Cr E d (callR E f cs) hr rest outs k σ Q
@[simp] theorem cl_some (d f cs hr) : Cl E d f (some cs) hr rest outs k σ Q = (f < ioBase ∧ Cr E d (callR E f cs) hr rest outs k σ Q) := optK_some _ _
theorem o_callT {d : Nat} {f : FuncId} {as : List T} {o : IOp} (ho : ∀ n, runOp (callN E n) ⟨rs, vars, bx⟩ o = runOp.callT (callN E n) ⟨rs, vars, bx⟩ d f as)
    (h : Cl E d f (as.mapM (close bx 6)) (hasRefL as) rest outs k ⟨rs, vars, bx⟩ Q) : O E ((none, o) :: rest) outs k ⟨rs, vars, bx⟩ Q := by
  unfold O
  rw [wpops_none']
  obtain ⟨cs, h1, hf, h⟩ := h
  obtain ⟨r, h2, hr, h3⟩ := h
  obtain ⟨n, hn⟩ := callR_ev h2
  refine ⟨n, (r.import d, St.strip (2 * d) ⟨rs, vars, bx⟩), ?_, h3⟩
  rw [ho]
  simp only [runOp.callT, h1, callV, if_pos hf, hn, Option.bind_eq_bind, Option.bind_some, hr, Bool.false_eq_true, if_false]
theorem o_callT' {d : Nat} {f : FuncId} {as : List T} {o : IOp} (ho : ∀ n, runOp (callN E n) ⟨rs, vars, bx⟩ o = runOp.callT (callN E n) ⟨rs, vars, bx⟩ d f as)
    (h : O E ((none, o) :: rest) outs k ⟨rs, vars, bx⟩ Q) : Cl E d f (as.mapM (close bx 6)) (hasRefL as) rest outs k ⟨rs, vars, bx⟩ Q := by
  unfold O at h
  rw [wpops_none'] at h
  obtain ⟨n, p, h1, h2⟩ := h
  rw [ho] at h1
  simp only [runOp.callT, Option.bind_eq_bind, Option.bind_eq_some_iff] at h1
  obtain ⟨cs, h3, r, h4, h5⟩ := h1
  unfold callV at h4
  split at h4 <;> try (cases h4; done)
  rename_i hf
  split at h5 <;> try (cases h5; done)
  rename_i hr
  simp only [Option.some.injEq] at h5
  subst h5
  exact ⟨cs, h3, hf, r, callR_some ⟨n, h4⟩, by simpa using hr, h2⟩
@[simp] theorem o_call (d f as) : O E ((none, .call d f as) :: rest) outs k ⟨rs, vars, bx⟩ Q = Cl E d f ((as.map (Opd.get ⟨rs, vars, bx⟩)).mapM (close bx 6)) (hasRefL (as.map (Opd.get ⟨rs, vars, bx⟩))) rest outs k ⟨rs, vars, bx⟩ Q :=
  propext ⟨o_callT' rs vars bx fun n => rfl, o_callT rs vars bx fun n => rfl⟩
def Cv (E : Env) (d : Nat) (c : Option (FuncId × List T × List T)) (as : List T) (rest : Ops) (outs : List (Option Nat)) (k : List Fr) (σ : St) (Q : Out → Prop) : Prop :=
  OptK c fun c => Cl E d c.1 ((c.2.1 ++ as ++ c.2.2).mapM (close σ.boxes 6)) (hasRefL (c.2.1 ++ as ++ c.2.2)) rest outs k σ Q
@[simp] theorem cv_some (d f first cap as) : Cv E d (some (f, first, cap)) as rest outs k ⟨rs, vars, bx⟩ Q = Cl E d f ((first ++ as ++ cap).mapM (close bx 6)) (hasRefL (first ++ as ++ cap)) rest outs k ⟨rs, vars, bx⟩ Q := optK_some _ _
@[simp] theorem o_callv (d g as) : O E ((none, .callv d g as) :: rest) outs k ⟨rs, vars, bx⟩ Q = Cv E d (calleeOf (g.get ⟨rs, vars, bx⟩)) (as.map (Opd.get ⟨rs, vars, bx⟩)) rest outs k ⟨rs, vars, bx⟩ Q := by
  unfold Cv
  cases hc : calleeOf (g.get ⟨rs, vars, bx⟩) with
  | none =>
    rw [optK_none]
    unfold O
    rw [wpops_none']
    exact propext ⟨fun ⟨n, p, h, _⟩ => by simp [runOp, hc] at h, fun h => h.elim⟩
  | some c =>
    obtain ⟨f, first, cap⟩ := c
    rw [optK_some]
    exact propext ⟨o_callT' rs vars bx fun n => by simp only [runOp, hc], o_callT rs vars bx fun n => by simp only [runOp, hc]⟩

/-! ### Loops, functions -/
def loopQ (E : Env) (k : List Fr) (Q : Out → Prop) (S : St → Prop) : Out → Prop
  | .norm σ => S σ
  | .exit id σ => X E id k σ Q
  | .ret σ => R E k σ Q
@[simp] theorem loopQ_norm (S σ) : loopQ E k Q S (.norm σ) = S σ := rfl
@[simp] theorem loopQ_exit (S id σ) : loopQ E k Q S (.exit id σ) = X E id k σ Q := rfl
@[simp] theorem loopQ_ret (S σ) : loopQ E k Q S (.ret σ) = R E k σ Q := rfl
/-- A loop: what holds at the head of each round; it ends within n of them. -/
theorem m_loop {a : IC} (n : Nat) (I : Nat → St → Prop) (h0 : I 0 σ) (hstep : ∀ j σ, j ≤ n → I j σ → M E a [] σ (loopQ E k Q fun σ' => j < n ∧ I (j + 1) σ')) : M E (.loop a) k σ Q :=
  wp_loop0 n I h0 fun j σ hj hI => by
    obtain ⟨f, o, h1, h2⟩ := hstep j σ hj hI
    refine ⟨f, o, h1, ?_⟩
    cases o with
    | norm σ' => exact h2
    | exit => exact h2
    | ret => exact h2
def retQ (res : List IRes) (canon : List CM) (r : T) : Out → Prop
  | .norm σ => (resultsOf σ res canon).bind (exportT σ.boxes) = some r
  | .exit _ _ => False
  | .ret σ => (resultsOf σ res canon).bind (exportT σ.boxes) = some r
@[simp] theorem retQ_norm (res canon r σ) : retQ res canon r (.norm σ) = ((resultsOf σ res canon).bind (exportT σ.boxes) = some r) := rfl
@[simp] theorem retQ_ret (res canon r σ) : retQ res canon r (.ret σ) = ((resultsOf σ res canon).bind (exportT σ.boxes) = some r) := rfl
theorem ev_of {f : FuncId} {args : List T} {r : T} {fn : IFn} (hp : E.prim f = none) (hf : f < ioBase) (hfn : E.fn f = some fn) (hs : fn.split = false) (hl : args.length = fn.nparams)
    (h : M E fn.body [] ⟨[], args ++ List.replicate (fn.nvars - fn.nparams) .undef, List.replicate (2 * fn.nboxes) none⟩ (retQ fn.results fn.canon r)) : Ev E f args r := by
  refine ev_fn hp hf hfn hs hl ?_
  obtain ⟨n, o, h1, h2⟩ := h
  refine ⟨n, o, h1, ?_⟩
  cases o with
  | norm σ => exact h2
  | exit => exact h2
  | ret => exact h2
end
end Go.Vi
end
section
/-
  A VERIFIED INTERPRETER (part 36): rows, slices of boxes, calls that hand over boxes: by rewriting.
-/
set_option linter.unusedSimpArgs false
set_option linter.unusedVariables false
namespace Go.Vi
open Go

/-- What an operation gives, and what comes behind it. -/
def P1 (E : Env) (r : Option (T × St)) (rest : Ops) (outs : List (Option Nat)) (k : List Fr) (Q : Out → Prop) : Prop :=
  OptK r fun p => O E rest outs k ⟨snoc p.2.rs p.1, p.2.vars, p.2.boxes⟩ Q
section
variable {E : Env} {k : List Fr} {σ : St} {Q : Out → Prop} {outs : List (Option Nat)} {rest : Ops} (rs vars : List T) (bx : List (Option (List T)))
@[simp] theorem p1_some (t : T) : P1 E (some (t, ⟨rs, vars, bx⟩)) rest outs k Q = O E rest outs k ⟨snoc rs t, vars, bx⟩ Q := optK_some _ _
@[simp] theorem p1_strip (t : T) (d : Nat) : P1 E (some (t, St.strip d ⟨rs, vars, bx⟩)) rest outs k Q = O E rest outs k ⟨snoc (stripL d rs) t, stripL d vars, bx.map (Option.map (stripL d))⟩ Q := optK_some _ _
theorem p1_ite (c : Prop) [Decidable c] (r : Option (T × St)) : P1 E (if c then r else none) rest outs k Q = (c ∧ P1 E r rest outs k Q) := optK_ite c r _

theorem o_pure {o : IOp} (h : o.pureK = true) : O E ((none, o) :: rest) outs k σ Q = P1 E (runOp C0 σ o) rest outs k Q := by
  unfold O P1
  rw [wpops_none', wpop_pure h]; rfl
@[simp] theorem o_bslice (d e sz len zero parts) : O E ((none, .bslice d e sz len zero parts) :: rest) outs k ⟨rs, vars, bx⟩ Q =
    P1 E ((fillT (fun a => (Opd.get ⟨rs, vars, bx⟩ a).weak) (List.replicate len zero).flatten parts).bind fun cs => if len ≤ 65536 ∧ len * sz ≤ 16777216 ∧ closedL cs = true then some (T.sl (if len = 0 then .clip else .own (8 * d) e) len cs, St.strip (2 * d) ⟨rs, vars, bx⟩) else none) rest outs k Q := o_pure rfl
@[simp] theorem fillT_nil (g : Opd → T) (cells : List T) : fillT g cells [] = some cells := rfl
@[simp] theorem fillT_cons (g : Opd → T) (cells : List T) (off n : Nat) (a : Opd) (ps : List (Nat × Nat × Opd)) : fillT g cells ((off, n, a) :: ps) = (cellsOf (g a)).bind fun cs => if cs.length = n ∧ off + n ≤ cells.length ∧ oneL cs = true then fillT g (setCells cells off cs) ps else none := rfl
@[simp] theorem cellsOf_agg (cs : List T) : cellsOf (.agg cs) = some cs := rfl
@[simp] theorem cellsOf_v (x : Value) : cellsOf (.v x) = some [.v x] := rfl
@[simp] theorem cellsOf_sl (g n cs) : cellsOf (.sl g n cs) = some [.sl g n cs] := rfl
@[simp] theorem cellsOf_bsl (s o n c) : cellsOf (.bsl s o n c) = some [.bsl s o n c] := rfl
@[simp] theorem cellsOf_ref (s o) : cellsOf (.ref s o) = some [.ref s o] := rfl
@[simp] theorem weak_v (x : Value) : (T.v x).weak = .v x := by simp only [T.weak]
@[simp] theorem weak_sl (g n cs) : (T.sl g n cs).weak = .sl .any n cs := by simp only [T.weak]
@[simp] theorem weak_bsl (s o n c) : (T.bsl s o n c).weak = .bsl s o n c := by simp only [T.weak]
@[simp] theorem weak_ref (s o) : (T.ref s o).weak = .ref s o := by simp only [T.weak]
@[simp] theorem weak_agg (cs) : (T.agg cs).weak = .agg (weakL cs) := by simp only [T.weak]
@[simp] theorem weak_clo (f a b) : (T.clo f a b).weak = .clo f (weakL a) (weakL b) := by simp only [T.weak]
@[simp] theorem weakL_nil : weakL [] = [] := by simp only [weakL]
@[simp] theorem weakN_v (x : Value) : (T.v x).weakN = .v x := rfl
@[simp] theorem weakN_nil (n cs) : (T.sl .nil n cs).weakN = .sl .nil n cs := rfl
@[simp] theorem weakN_any (n cs) : (T.sl .any n cs).weakN = .sl .any n cs := rfl
@[simp] theorem weakN_imm (n cs) : (T.sl .imm n cs).weakN = .sl .any n cs := rfl
@[simp] theorem weakN_clip (n cs) : (T.sl .clip n cs).weakN = .sl .any n cs := rfl
@[simp] theorem weakN_own (k e n cs) : (T.sl (.own k e) n cs).weakN = .sl .any n cs := rfl
@[simp] theorem weakN_bsl (s o n c) : (T.bsl s o n c).weakN = .bsl s o n c := rfl
@[simp] theorem weakN_ref (s o) : (T.ref s o).weakN = .ref s o := rfl
@[simp] theorem weakN_agg (cs) : (T.agg cs).weakN = .agg (weakL cs) := rfl
@[simp] theorem weakN_clo (f a b) : (T.clo f a b).weakN = .clo f (weakL a) (weakL b) := rfl
@[simp] theorem weakL_cons (t ts) : weakL (t :: ts) = t.weak :: weakL ts := by simp only [weakL]
/-- append: what is appended to, what is appended. -/
def appO (σ : St) (d : Nat) (e : TypeId) (sz bytes : Nat) (a : T) (src : Option (Nat × List T)) (cl : Bool) : Option (T × St) :=
  match a, src with
    | .sl g n xs, some (m, ys) =>
      if xs.length = n * sz ∧ ys.length = m * sz ∧ (n + m) * bytes ≤ room ∧ n + m ≤ room ∧ cl = true then
        match g with
        | .own k e' => if e' = e then some (.sl (.own (8 * d) e) (n + m) (xs ++ ys), (σ.strip (2 * k + 1)).strip (2 * d)) else none
        | .nil => if n = 0 then some (.sl (.own (8 * d) e) m ys, σ.strip (2 * d)) else none
        | .clip => if m = 0 then (if n = 0 then some (.sl (.own (8 * d) e) 0 [], σ.strip (2 * d)) else none) else some (.sl (.own (8 * d) e) (n + m) (xs ++ ys), σ.strip (2 * d))
        | .imm => if m = 0 then some (.sl .any n xs, σ) else none
        | .any => if m = 0 then some (.sl .any n xs, σ) else none
      else none
    | _, _ => none
theorem app_run (d e sz bytes zero kind a b) : runOp C0 σ (.append d e sz bytes zero kind a b) = appO σ d e sz bytes (a.get σ) (srcOf σ.boxes kind sz zero (b.get σ)) (match srcOf σ.boxes kind sz zero (b.get σ) with | some (_, ys) => srcClosed (b.get σ) ys | none => false) := by
  simp only [runOp, appO]
  generalize Opd.get σ a = t
  generalize Opd.get σ b = u
  cases t <;> try rfl
  cases srcOf σ.boxes kind sz zero u with
  | none => rfl
  | some p => rfl
@[simp] theorem o_append (d e sz bytes zero kind a b) : O E ((none, .append d e sz bytes zero kind a b) :: rest) outs k ⟨rs, vars, bx⟩ Q =
    P1 E (appO ⟨rs, vars, bx⟩ d e sz bytes (a.get ⟨rs, vars, bx⟩) (srcOf bx kind sz zero (b.get ⟨rs, vars, bx⟩)) (match srcOf bx kind sz zero (b.get ⟨rs, vars, bx⟩) with | some (_, ys) => srcClosed (b.get ⟨rs, vars, bx⟩) ys | none => false)) rest outs k Q := by
  rw [o_pure rfl, app_run]
@[simp] theorem srcOf_sl (zero sz g m ys) : srcOf bx 0 sz zero (.sl g m ys) = some (m, ys) := rfl
@[simp] theorem srcOf_str (zero s) : srcOf bx 1 1 zero (.v (.string s)) = some (s.size, s.data.toList.map fun (b : UInt8) => T.u8 b.toNat) := rfl
@[simp] theorem srcClosed_sl (g m cs ys) : srcClosed (.sl g m cs) ys = true := rfl
@[simp] theorem appO_own (d e sz bytes n m j xs ys) :
    appO ⟨rs, vars, bx⟩ d e sz bytes (.sl (.own j e) n xs) (some (m, ys)) true = if xs.length = n * sz ∧ ys.length = m * sz ∧ (n + m) * bytes ≤ room ∧ n + m ≤ room then some (.sl (.own (8 * d) e) (n + m) (xs ++ ys), (St.strip (2 * j + 1) ⟨rs, vars, bx⟩).strip (2 * d)) else none := by
  simp only [appO, and_true, if_true]
@[simp] theorem appO_nil (d e sz bytes m ys) :
    appO ⟨rs, vars, bx⟩ d e sz bytes (.sl .nil 0 []) (some (m, ys)) true = if ys.length = m * sz ∧ m * bytes ≤ room ∧ m ≤ room then some (.sl (.own (8 * d) e) m ys, St.strip (2 * d) ⟨rs, vars, bx⟩) else none := by
  simp only [appO, and_true, if_true, List.length_nil, Nat.zero_mul, true_and, Nat.zero_add]
@[simp] theorem appO_clip (d e sz bytes n m xs ys) :
    appO ⟨rs, vars, bx⟩ d e sz bytes (.sl .clip n xs) (some (m + 1, ys)) true = if xs.length = n * sz ∧ ys.length = (m + 1) * sz ∧ (n + (m + 1)) * bytes ≤ room ∧ n + (m + 1) ≤ room then some (.sl (.own (8 * d) e) (n + (m + 1)) (xs ++ ys), St.strip (2 * d) ⟨rs, vars, bx⟩) else none := by
  simp only [appO, and_true, Nat.add_eq_zero_iff, Nat.one_ne_zero, and_false, if_false]
@[simp] theorem p1_strip2 (t : T) (d d' : Nat) : P1 E (some (t, (St.strip d ⟨rs, vars, bx⟩).strip d')) rest outs k Q = O E rest outs k ⟨snoc (stripL d' (stripL d rs)) t, stripL d' (stripL d vars), (bx.map (Option.map (stripL d))).map (Option.map (stripL d'))⟩ Q := optK_some _ _

/-- A slice of an array in a box. -/
def slcAO (σ : St) (len sz : Nat) (a : T) (lo hi : Option Nat) (o : Option (List T)) : Option (T × St) :=
  match a with
  | .ref s off => do
    let h ← hi
    let l ← lo
    match o with
    | some cs => if l ≤ h ∧ h ≤ len ∧ off + len * sz ≤ cs.length then some (.bsl s (off + l * sz) (h - l) (if h = l then 1 else (h - l) * sz), σ) else none
    | _ => none
  | _ => none
theorem slcA_run (len sz a lo hi) (s off) (ha : a.get σ = .ref s off) : runOp C0 σ (.sliceA len sz a lo hi) = slcAO σ len sz (.ref s off) (optNat (Opd.get σ) 0 lo) (optNat (Opd.get σ) len hi) (boxAt σ.boxes s) := by
  simp only [runOp, ha, slcAO, boxAt, Option.bind_eq_bind]
  cases optNat (Opd.get σ) len hi with
  | none => rfl
  | some h => cases optNat (Opd.get σ) 0 lo with
    | none => rfl
    | some l => cases σ.boxes[s]? with
      | none => rfl
      | some o => cases o <;> rfl
@[simp] theorem optNat_none (g : Opd → T) (d : Nat) : optNat g d none = some d := rfl
@[simp] theorem optNat_some (g : Opd → T) (d : Nat) (a : Opd) : optNat g d (some a) = asNat (g a) := rfl
@[simp] theorem asNat_cast (kd : IntKind) (n : Nat) : asNat (.v (.int kd (n : Int))) = some n := by simp [asNat]
@[simp] theorem asNat_zero (kd : IntKind) : asNat (.v (.int kd 0)) = some 0 := rfl

def packR : List T → T
  | [t] => t
  | ts => .tup ts
@[simp] theorem packR_one (t : T) : packR [t] = t := rfl
@[simp] theorem packR_two (t u : T) (ts : List T) : packR (t :: u :: ts) = .tup (t :: u :: ts) := rfl
@[simp] theorem packR_nil : packR [] = .tup [] := rfl
@[simp] theorem res_gen (rs : List IRes) (canon : List CM) : resultsOf σ rs canon = (rs.mapM (resOf σ)).bind fun ts => some (packR (canonL 0 canon ts)) := by
  unfold resultsOf packR
  simp only [Option.bind_eq_bind]
  cases rs.mapM (resOf σ) with
  | none => rfl
  | some ts =>
    simp only [Option.bind_some]
    generalize canonL 0 canon ts = us
    match us with
    | [] => rfl
    | [t] => rfl
    | t :: u :: us => rfl
@[simp] theorem resOf_var (i) : resOf ⟨rs, vars, bx⟩ (.var i) = nthO vars i := nthO_get vars i
def cellR (bx : List (Option (List T))) (isAgg : Bool) (n : Nat) : Option T → Option T
  | some (.ref s off) => (boxAt bx s).bind fun cs => one? isAgg n cs off
  | _ => none
@[simp] theorem cellR_ref (isAgg n s off) : cellR bx isAgg n (some (.ref s off)) = (boxAt bx s).bind fun cs => one? isAgg n cs off := rfl
@[simp] theorem resOf_cell (i isAgg n) : resOf ⟨rs, vars, bx⟩ (.cell i isAgg n) = cellR bx isAgg n (nthO vars i) := by
  simp only [resOf, ← nthO_get, cellR]
  cases vars[i]? with
  | none => rfl
  | some t =>
    cases t <;> try rfl
    rename_i s off
    show (match bx[s]? with | some (some cs) => one? isAgg n cs off | _ => none) = (boxAt bx s).bind fun cs => one? isAgg n cs off
    unfold boxAt
    cases bx[s]? with
    | none => rfl
    | some o => cases o <;> rfl
@[simp] theorem exportT_eq (t : T) : exportT bx t = if t.hasRef = true then close bx 8 t else if t.fams.Nodup then some (t.remap (fun _ => none) (t.fams.idxOf? ·)) else none := rfl

def extrO (a : T) (i : Nat) : Option T := match a with | .tup ts => nthO ts i | _ => none
@[simp] theorem extrO_tup (ts i) : extrO (.tup ts) i = nthO ts i := rfl
theorem extr_run (a i) : runOp C0 σ (.extract a i) = (extrO (a.get σ) i).map (·, σ) := by
  simp only [runOp, extrO, ← nthO_get]
  generalize Opd.get σ a = t
  cases t <;> rfl
@[simp] theorem opV_extract (a i) : opV σ (.extract a i) = optV (extrO (a.get σ) i) := opV_map (extr_run ..)
@[simp] theorem opD_extract (a i) : opD σ (.extract a i) = ((extrO (a.get σ) i).isSome = true) := opD_map (extr_run ..)
def P2 (E : Env) (r : Option T) (rest : Ops) (outs : List (Option Nat)) (k : List Fr) (σ : St) (Q : Out → Prop) : Prop :=
  OptK r fun t => O E rest outs k ⟨snoc σ.rs t, σ.vars, σ.boxes⟩ Q
@[simp] theorem p2_some (t : T) : P2 E (some t) rest outs k ⟨rs, vars, bx⟩ Q = O E rest outs k ⟨snoc rs t, vars, bx⟩ Q := optK_some _ _
def slcAV (bx : List (Option (List T))) (len sz : Nat) (a : T) (lo hi : Option Nat) : Option T :=
  match a with
  | .ref s off => hi.bind fun h => lo.bind fun l => (boxAt bx s).bind fun cs => if l ≤ h ∧ h ≤ len ∧ off + len * sz ≤ cs.length then some (.bsl s (off + l * sz) (h - l) (if h = l then 1 else (h - l) * sz)) else none
  | _ => none
@[simp] theorem slcAV_ref (len sz s off lo hi) : slcAV bx len sz (.ref s off) lo hi = hi.bind fun h => lo.bind fun l => (boxAt bx s).bind fun cs => if l ≤ h ∧ h ≤ len ∧ off + len * sz ≤ cs.length then some (.bsl s (off + l * sz) (h - l) (if h = l then 1 else (h - l) * sz)) else none := rfl
@[simp] theorem o_sliceA (len sz a lo hi) : O E ((none, .sliceA len sz a lo hi) :: rest) outs k ⟨rs, vars, bx⟩ Q = P2 E (slcAV bx len sz (a.get ⟨rs, vars, bx⟩) (optNat (Opd.get ⟨rs, vars, bx⟩) 0 lo) (optNat (Opd.get ⟨rs, vars, bx⟩) len hi)) rest outs k ⟨rs, vars, bx⟩ Q := by
  have hrun : runOp C0 ⟨rs, vars, bx⟩ (.sliceA len sz a lo hi) = (slcAV bx len sz (a.get ⟨rs, vars, bx⟩) (optNat (Opd.get ⟨rs, vars, bx⟩) 0 lo) (optNat (Opd.get ⟨rs, vars, bx⟩) len hi)).map (·, ⟨rs, vars, bx⟩) := by
    simp only [runOp, slcAV]
    generalize Opd.get ⟨rs, vars, bx⟩ a = t
    cases t <;> try rfl
    rename_i s off
    simp only [Option.bind_eq_bind]
    cases optNat (Opd.get ⟨rs, vars, bx⟩) len hi with
    | none => rfl
    | some h => cases optNat (Opd.get ⟨rs, vars, bx⟩) 0 lo with
      | none => rfl
      | some l =>
        simp only [Option.bind_some]
        unfold boxAt
        cases bx[s]? with
        | none => rfl
        | some o => cases o with
          | none => rfl
          | some cs => simp only [Option.join_some, Option.bind_some]; split <;> rfl
  rw [o_pure rfl, hrun]
  exact optK_map _ _ _
def slcTV (sz : Nat) (a : T) (lo hi mx : Option Nat) (mxs : Bool) : Option T :=
  match a with
  | .sl g n cs => hi.bind fun h => lo.bind fun l => mx.bind fun m => if l ≤ h ∧ h ≤ m ∧ m ≤ n then some (.sl (if g = .nil then .nil else if mxs = true ∧ h = m then .clip else .any) (h - l) ((cs.drop (l * sz)).take ((h - l) * sz))) else none
  | .bsl s o n c => hi.bind fun h => lo.bind fun l => mx.bind fun m => if l ≤ h ∧ h ≤ m ∧ m ≤ n ∧ (n = 0 ∨ n * sz = c) then some (.bsl s (o + l * sz) (h - l) (if h = l then (if n = 0 then c else 1 + sz) else (h - l) * sz)) else none
  | _ => none
@[simp] theorem slcTV_sl (sz g n cs lo hi mx mxs) : slcTV sz (.sl g n cs) lo hi mx mxs = hi.bind fun h => lo.bind fun l => mx.bind fun m => if l ≤ h ∧ h ≤ m ∧ m ≤ n then some (.sl (if g = .nil then .nil else if mxs = true ∧ h = m then .clip else .any) (h - l) ((cs.drop (l * sz)).take ((h - l) * sz))) else none := rfl
@[simp] theorem slcTV_bsl (sz s o n c lo hi mx mxs) : slcTV sz (.bsl s o n c) lo hi mx mxs = hi.bind fun h => lo.bind fun l => mx.bind fun m => if l ≤ h ∧ h ≤ m ∧ m ≤ n ∧ (n = 0 ∨ n * sz = c) then some (.bsl s (o + l * sz) (h - l) (if h = l then (if n = 0 then c else 1 + sz) else (h - l) * sz)) else none := rfl
def tLen : T → Nat
  | .sl _ n _ => n
  | .bsl _ _ n _ => n
  | _ => 0
@[simp] theorem tLen_sl (g n cs) : tLen (.sl g n cs) = n := rfl
@[simp] theorem tLen_bsl (s o n c) : tLen (.bsl s o n c) = n := rfl
@[simp] theorem o_sliceT (sz a lo hi mx) : O E ((none, .sliceT sz a lo hi mx) :: rest) outs k ⟨rs, vars, bx⟩ Q = P2 E (slcTV sz (a.get ⟨rs, vars, bx⟩) (optNat (Opd.get ⟨rs, vars, bx⟩) 0 lo) (optNat (Opd.get ⟨rs, vars, bx⟩) (tLen (a.get ⟨rs, vars, bx⟩)) hi) (optNat (Opd.get ⟨rs, vars, bx⟩) (tLen (a.get ⟨rs, vars, bx⟩)) mx) mx.isSome) rest outs k ⟨rs, vars, bx⟩ Q := by
  have hrun : runOp C0 ⟨rs, vars, bx⟩ (.sliceT sz a lo hi mx) = (slcTV sz (a.get ⟨rs, vars, bx⟩) (optNat (Opd.get ⟨rs, vars, bx⟩) 0 lo) (optNat (Opd.get ⟨rs, vars, bx⟩) (tLen (a.get ⟨rs, vars, bx⟩)) hi) (optNat (Opd.get ⟨rs, vars, bx⟩) (tLen (a.get ⟨rs, vars, bx⟩)) mx) mx.isSome).map (·, ⟨rs, vars, bx⟩) := by
    simp only [runOp, slcTV]
    generalize Opd.get ⟨rs, vars, bx⟩ a = t
    cases t <;> try rfl
    all_goals
      simp only [Option.bind_eq_bind, tLen]
      rename_i n _
      try simp only [tLen]
      generalize optNat (Opd.get ⟨rs, vars, bx⟩) n hi = oh
      generalize optNat (Opd.get ⟨rs, vars, bx⟩) 0 lo = ol
      generalize optNat (Opd.get ⟨rs, vars, bx⟩) n mx = om
      cases oh <;> try rfl
      cases ol <;> try rfl
      cases om <;> try rfl
      simp only [Option.bind_some]
      split <;> rfl
  rw [o_pure rfl, hrun]
  exact optK_map _ _ _
/-- Cells set back to zero. -/
def clrV (bx : List (Option (List T))) (sz : Nat) (zero : List T) (a : T) : Option (List (Option (List T))) :=
  match a with
  | .bsl s o n c => (boxAt bx s).bind fun cs => if s % 2 = 0 ∧ (n = 0 ∨ c = n * sz) ∧ zero.length = sz ∧ o + n * sz ≤ cs.length ∧ oneL zero = true then some (bx.set s (some (setCells cs o (List.replicate n zero).flatten))) else none
  | _ => none
@[simp] theorem clrV_bsl (sz zero s o n c) : clrV bx sz zero (.bsl s o n c) = (boxAt bx s).bind fun cs => if s % 2 = 0 ∧ (n = 0 ∨ c = n * sz) ∧ zero.length = sz ∧ o + n * sz ≤ cs.length ∧ oneL zero = true then some (bx.set s (some (setCells cs o (List.replicate n zero).flatten))) else none := rfl
def P3 (E : Env) (r : Option (List (Option (List T)))) (rest : Ops) (outs : List (Option Nat)) (k : List Fr) (σ : St) (Q : Out → Prop) : Prop :=
  OptK r fun bx => O E rest outs k ⟨snoc σ.rs .undef, σ.vars, bx⟩ Q
@[simp] theorem p3_some : P3 E (some bx) rest outs k σ Q = O E rest outs k ⟨snoc σ.rs .undef, σ.vars, bx⟩ Q := optK_some _ _
@[simp] theorem o_clearS (sz zero a) : O E ((none, .clearS sz zero a) :: rest) outs k ⟨rs, vars, bx⟩ Q = P3 E (clrV bx sz zero (a.get ⟨rs, vars, bx⟩)) rest outs k ⟨rs, vars, bx⟩ Q := by
  have hrun : runOp C0 ⟨rs, vars, bx⟩ (.clearS sz zero a) = (clrV bx sz zero (a.get ⟨rs, vars, bx⟩)).map fun b => (.undef, ⟨rs, vars, b⟩) := by
    simp only [runOp, clrV]
    generalize Opd.get ⟨rs, vars, bx⟩ a = t
    cases t <;> try rfl
    rename_i s o n c
    simp only []
    unfold boxAt
    cases bx[s]? with
    | none => rfl
    | some x => cases x with
      | none => rfl
      | some cs =>
        simp only [Option.join_some, Option.bind_some]
        by_cases hc : s % 2 = 0 ∧ (n = 0 ∨ c = n * sz) ∧ zero.length = sz ∧ o + n * sz ≤ cs.length ∧ oneL zero = true
        · rw [if_pos hc]; exact if_pos hc
        · rw [if_neg hc]; exact if_neg hc
  rw [o_pure rfl, hrun]
  exact optK_map _ _ _

def eqnilO (neg : Bool) : T → Option T
  | .sl .nil _ _ => some (T.bool (!neg))
  | .sl .imm _ _ => some (T.bool neg)
  | .sl _ n _ => if 0 < n then some (T.bool neg) else none
  | .bsl _ _ n _ => if 0 < n then some (T.bool neg) else none
  | _ => none
@[simp] theorem eqnilO_any (neg n cs) : eqnilO neg (.sl .any n cs) = if 0 < n then some (.v (.bool neg)) else none := rfl
@[simp] theorem eqnilO_nil (neg n cs) : eqnilO neg (.sl .nil n cs) = some (.v (.bool !neg)) := rfl
@[simp] theorem eqnilO_own (neg j e n cs) : eqnilO neg (.sl (.own j e) n cs) = if 0 < n then some (.v (.bool neg)) else none := rfl
@[simp] theorem eqnilO_bsl (neg s o n c) : eqnilO neg (.bsl s o n c) = if 0 < n then some (.v (.bool neg)) else none := rfl
theorem eqnil_run (neg a) : runOp C0 σ (.eqnil neg a) = (eqnilO neg (a.get σ)).map (·, σ) := by
  simp only [runOp]
  generalize Opd.get σ a = t
  cases t <;> try rfl
  · rename_i g n cs
    cases g <;> try rfl
    all_goals
      simp only [eqnilO]
      split <;> rfl
  · simp only [eqnilO]
    split <;> rfl
@[simp] theorem opV_eqnil (neg a) : opV σ (.eqnil neg a) = optV (eqnilO neg (a.get σ)) := opV_map (eqnil_run ..)
@[simp] theorem opD_eqnil (neg a) : opD σ (.eqnil neg a) = ((eqnilO neg (a.get σ)).isSome = true) := opD_map (eqnil_run ..)

/-- append into a box. -/
def appBO (σ : St) (s : Nat) (sz bytes : Nat) (a : T) (src : Option (Nat × List T)) (cl : Bool) : Option (T × St) :=
  match a, src with
  | .sl .clip n _, some (m, ys) => if n = 0 ∧ ys.length = m * sz ∧ m * bytes ≤ room ∧ m ≤ room ∧ cl = true ∧ slotFree σ.boxes s = true ∧ s % 2 = 0 then some (.bsl s 0 m (m * sz), { σ with boxes := σ.boxes.set s (some ys) }) else none
  | _, _ => none
@[simp] theorem appBO_clip (s sz bytes n cs m ys cl) : appBO ⟨rs, vars, bx⟩ s sz bytes (.sl .clip n cs) (some (m, ys)) cl = if n = 0 ∧ ys.length = m * sz ∧ m * bytes ≤ room ∧ m ≤ room ∧ cl = true ∧ slotFree bx s = true ∧ s % 2 = 0 then some (.bsl s 0 m (m * sz), ⟨rs, vars, bx.set s (some ys)⟩) else none := rfl
theorem o_appendB (s e sz bytes zero kind a b) (h : P1 E (appBO ⟨rs, vars, bx⟩ s sz bytes (a.get ⟨rs, vars, bx⟩) (srcOf bx kind sz zero (b.get ⟨rs, vars, bx⟩)) (match srcOf bx kind sz zero (b.get ⟨rs, vars, bx⟩) with | some (_, ys) => srcClosed (b.get ⟨rs, vars, bx⟩) ys | none => false)) rest outs k Q) :
    O E ((none, .appendB s e sz bytes zero kind a b) :: rest) outs k ⟨rs, vars, bx⟩ Q := by
  rw [o_pure rfl]
  obtain ⟨p, h1, h2⟩ := h
  refine ⟨p, ?_, h2⟩
  simp only [runOp]
  unfold appBO at h1
  generalize Opd.get ⟨rs, vars, bx⟩ a = t at h1 ⊢
  generalize Opd.get ⟨rs, vars, bx⟩ b = u at h1 ⊢
  split at h1 <;> try (cases h1; done)
  rename_i n cs m ys hsrc
  rw [hsrc] at h1 ⊢
  simp only [Option.ite_none_right_eq_some] at h1
  obtain ⟨⟨c1, c2, c3, c4, c5, c6, c7⟩, h1⟩ := h1
  have c6' : bx[s]? = some none := by rw [slotFree_iff]; exact c6
  simp only [c6']
  rw [if_pos ⟨c1, c2, c3, c4, c5, c7⟩]
  exact h1

/-! ### Calls that hand over boxes -/
noncomputable def CR (E : Env) : CallF := fun f as => callR E f as
theorem callIO_ex {d : Nat} {ad : List Nat} {f : FuncId} {as : List T} {p : T × St} (h : runOp.callIO (CR E) σ d ad f as = some p) : ∃ n, runOp.callIO (callN E n) σ d ad f as = some p := by
  unfold runOp.callIO at h
  simp only at h
  split at h <;> try (cases h; done)
  rename_i r os hc
  obtain ⟨n, hn⟩ := callR_ev hc
  refine ⟨n, ?_⟩
  unfold runOp.callIO
  simp only [hn]
  exact h
theorem callNew_ex {d : Nat} {ad : List Nat} {f : FuncId} {as : List T} {p : T × St} (h : runOp.callNew (CR E) σ d ad f as = some p) : ∃ n, runOp.callNew (callN E n) σ d ad f as = some p := by
  unfold runOp.callNew at h
  split at h
  · cases h
  · rename_i hr
    split at h <;> try (cases h; done)
    rename_i r os hc
    obtain ⟨n, hn⟩ := callR_ev hc
    refine ⟨n, ?_⟩
    unfold runOp.callNew
    rw [if_neg hr]
    simp only [hn]
    exact h
theorem o_callio {d ad f as} (h : P1 E (runOp.callIO (CR E) ⟨rs, vars, bx⟩ d ad f (as.map (Opd.get ⟨rs, vars, bx⟩))) rest outs k Q) : O E ((none, .callio d ad f as) :: rest) outs k ⟨rs, vars, bx⟩ Q := by
  unfold O
  rw [wpops_none']
  obtain ⟨p, h1, h2⟩ := h
  obtain ⟨n, hn⟩ := callIO_ex h1
  exact ⟨n, p, hn, h2⟩
theorem o_callnew {d ad f as} (h : P1 E (runOp.callNew (CR E) ⟨rs, vars, bx⟩ d ad f (as.map (Opd.get ⟨rs, vars, bx⟩))) rest outs k Q) : O E ((none, .callnew d ad f as) :: rest) outs k ⟨rs, vars, bx⟩ Q := by
  unfold O
  rw [wpops_none']
  obtain ⟨p, h1, h2⟩ := h
  obtain ⟨n, hn⟩ := callNew_ex h1
  exact ⟨n, p, hn, h2⟩
/-- A call that makes boxes: what it comes to is known. -/
theorem callNew_eq {d : Nat} {ad : List Nat} {f : FuncId} {as : List T} {r : T} {os : List T} (h0 : hasRefL as = false) (h : callR E (ioBase + f) [.tup (as.map fun t => t.weakN.remap (lab []) fun _ => none), .tup []] = some (.tup [r, .tup os]))
    (h1 : os.length = 2 * ad.length ∧ ad.all (fun s => s % 2 == 0 && boxFree σ.boxes s && boxFree σ.boxes (s + 1) && σ.noRef s && σ.noRef (s + 1)) ∧ ad.Nodup) :
    runOp.callNew (CR E) σ d ad f as = some (r.remap (ioBack [] ad) (ioFam d), { σ.strip (2 * d) with boxes := adopt (ioBack [] ad) (ioFam d) (os.map decB) 0 (σ.strip (2 * d)).boxes }) := by
  unfold runOp.callNew
  rw [h0]
  simp only [Bool.false_eq_true, if_false]
  have : CR E (ioBase + f) [.tup (as.map fun t => t.weakN.remap (lab []) fun _ => none), .tup []] = some (.tup [r, .tup os]) := h
  rw [this]
  simp only
  rw [if_pos h1]
/-- A call that hands over boxes: what it comes to is known. -/
theorem callIO_eq {d : Nat} {ad : List Nat} {f : FuncId} {as : List T} {r : T} {os : List T} {ss fs : List Nat} {as' ins : List T} (hss : reach σ.boxes 10000 [] (refsL as) = ss) (hfs : (ss.flatMap fun s => famsL ((boxAt σ.boxes s).getD [])) = fs)
    (has : (as.map fun t => t.weakN.remap (lab ss) fun _ => none) = as') (hins : ((List.range (2 * ss.length)).map fun l => encB (((unlab ss l).bind (boxAt σ.boxes)).map (remapL (lab ss) (famLab fs)))) = ins)
    (h : callR E (ioBase + f) [.tup as', .tup ins] = some (.tup [r, .tup os]))
    (h1 : os.length = 2 * (ss.length + ad.length) ∧ ad.all (fun s => s % 2 == 0 && boxFree σ.boxes s && boxFree σ.boxes (s + 1) && !ss.contains s && !ss.contains (s + 1)) ∧ ad.Nodup ∧ ss.Nodup ∧ ss.all (fun s => (boxAt σ.boxes s).isSome)) :
    runOp.callIO (CR E) σ d ad f as = some (r.remap (ioBack ss ad) (ioFam d), ⟨remapL (ioLive ss os) (ioKeep d fs) σ.rs, remapL (ioLive ss os) (ioKeep d fs) σ.vars,
          adopt (ioBack ss ad) (ioFam d) (os.map decB) 0 (σ.boxes.map (Option.map (remapL (ioLive ss os) (ioKeep d fs))))⟩) := by
  subst hss hfs has hins
  unfold runOp.callIO
  simp only
  have : CR E (ioBase + f) _ = _ := h
  rw [this]
  simp only
  rw [if_pos h1]
end

/-- A call of a function that makes, or turns, boxes. -/
def retIO (res : List IRes) (canon : List CM) (nb n : Nat) (r : T) : Out → Prop
  | .norm σ => (resultsOf σ res canon).map (exportIO nb n σ.boxes) = some r
  | .exit _ _ => False
  | .ret σ => (resultsOf σ res canon).map (exportIO nb n σ.boxes) = some r
@[simp] theorem retIO_norm (res canon nb n r) (σ : St) : retIO res canon nb n r (.norm σ) = ((resultsOf σ res canon).map (exportIO nb n σ.boxes) = some r) := rfl
@[simp] theorem retIO_ret (res canon nb n r) (σ : St) : retIO res canon nb n r (.ret σ) = ((resultsOf σ res canon).map (exportIO nb n σ.boxes) = some r) := rfl
@[simp] theorem reach_nil (bx : List (Option (List T))) (n : Nat) (seen : List Nat) : reach bx (n + 1) seen [] = seen := rfl
@[simp] theorem reach_cons (bx : List (Option (List T))) (n : Nat) (seen : List Nat) (s : Nat) (todo : List Nat) : reach bx (n + 1) seen (s :: todo) = if seen.contains s then reach bx n seen todo else reach bx n (seen ++ [s]) (refsL ((boxAt bx s).getD []) ++ todo) := rfl
@[simp] theorem refsL_nil' : refsL [] = [] := by simp only [refsL]
@[simp] theorem refsL_cons' (t : T) (ts : List T) : refsL (t :: ts) = t.refs ++ refsL ts := by simp only [refsL]
@[simp] theorem refs_v (x : Value) : (T.v x).refs = [] := by simp only [T.refs]
@[simp] theorem refs_undef : (T.undef).refs = [] := by simp only [T.refs]
@[simp] theorem refs_sl (g n cs) : (T.sl g n cs).refs = [] := by simp only [T.refs]
@[simp] theorem refs_ref (s o) : (T.ref s o).refs = [s] := by simp only [T.refs]
@[simp] theorem refs_bsl (s o n c) : (T.bsl s o n c).refs = [s] := by simp only [T.refs]
@[simp] theorem refs_mref (s) : (T.mref s).refs = [s] := by simp only [T.refs]
@[simp] theorem refs_agg (cs) : (T.agg cs).refs = refsL cs := by simp only [T.refs]
@[simp] theorem refs_tup (cs) : (T.tup cs).refs = refsL cs := by simp only [T.refs]
@[simp] theorem refs_clo (f a b) : (T.clo f a b).refs = refsL a ++ refsL b := by simp only [T.refs]
@[simp] theorem refs_ptr (cs o) : (T.ptr cs o).refs = [] := by simp only [T.refs]
@[simp] theorem encB_some (cs : List T) : encB (some cs) = .agg cs := rfl
@[simp] theorem encB_none : encB none = .undef := rfl
@[simp] theorem decB_agg (cs : List T) : decB (.agg cs) = some cs := rfl
@[simp] theorem decB_undef : decB .undef = none := rfl

theorem evio_of {E : Env} {f : FuncId} {args ins : List T} {r : T} {fn : IFn} (hp : E.prim (ioBase + f) = none) (hfn : E.fn f = some fn) (hs : fn.split = false) (hl : args.length = fn.nparams) (hi : ins.length % 2 = 0)
    (h : M E fn.body [] ⟨[], (args.map (T.remap (fun l => some (l + 2 * fn.nboxes)) some)) ++ List.replicate (fn.nvars - fn.nparams) .undef, List.replicate (2 * fn.nboxes) none ++ (ins.map decB).map (Option.map (remapL (fun l => some (l + 2 * fn.nboxes)) some))⟩ (retIO fn.results fn.canon (2 * fn.nboxes) (ins.length / 2) r)) :
    Ev E (ioBase + f) [.tup args, .tup ins] r := by
  obtain ⟨n, o, h1, h2⟩ := h
  refine ⟨n + 1, ?_⟩
  have hlt : ¬ ioBase + f < ioBase := Nat.not_lt.2 (Nat.le_add_right _ _)
  simp only [callN, hp, if_neg hlt, Nat.add_sub_cancel_left, hfn, runSplit, hs, Bool.false_eq_true, if_false, runIO, List.length_map, hl, hi, true_and, if_true]
  have h1' : exec (callN E n) n fn.body { rs := [], vars := (args.map (T.remap (fun l => some (l + 2 * fn.nboxes)) some)) ++ List.replicate (fn.nvars - fn.nparams) .undef, boxes := List.replicate (2 * fn.nboxes) none ++ (ins.map decB).map (Option.map (remapL (fun l => some (l + 2 * fn.nboxes)) some)) } = some o := h1
  rw [h1']
  cases o with
  | norm σ => exact h2
  | exit => exact h2.elim
  | ret σ => exact h2
theorem runIO_ex {E : Env} {args : List T} {ins : List (Option (List T))} {r : T} {fn : IFn} (hl : args.length = fn.nparams) (hi : ins.length % 2 = 0)
    (h : M E fn.body [] ⟨[], (args.map (T.remap (fun l => some (l + 2 * fn.nboxes)) some)) ++ List.replicate (fn.nvars - fn.nparams) .undef, List.replicate (2 * fn.nboxes) none ++ ins.map (Option.map (remapL (fun l => some (l + 2 * fn.nboxes)) some))⟩ (retIO fn.results fn.canon (2 * fn.nboxes) (ins.length / 2) r)) :
    ∃ n, runIO (callN E n) n fn args ins = some r := by
  obtain ⟨n, o, h1, h2⟩ := h
  refine ⟨n, ?_⟩
  simp only [runIO, hl, hi, true_and, if_true]
  rw [h1]
  cases o with
  | norm σ => exact h2
  | exit => exact h2.elim
  | ret σ => exact h2
/-- The same where an empty slice may be nil, or not. -/
theorem evio_split {E : Env} {f : FuncId} {args ins : List T} {r : T} {fn : IFn} (hp : E.prim (ioBase + f) = none) (hfn : E.fn f = some fn) (hs : fn.split = true) (hr : (splits args).length ≤ 1 ∨ T.same r r = true) (hne : splits args ≠ [])
    (h : ∀ as ∈ splits args, ∃ n, runIO (callN E n) n fn as (ins.map decB) = some r) : Ev E (ioBase + f) [.tup args, .tup ins] r := by
  have hlt : ¬ ioBase + f < ioBase := Nat.not_lt.2 (Nat.le_add_right _ _)
  have mono : ∀ {n m : Nat} {as : List T}, n ≤ m → runIO (callN E n) n fn as (ins.map decB) = some r → runIO (callN E m) m fn as (ins.map decB) = some r := fun hm e => by
    unfold runIO at e ⊢
    simp only at e ⊢
    split at e <;> try (cases e; done)
    rename_i hp
    rw [if_pos hp]
    split at e
    · rename_i he; rw [exec_mono (callN_mono hm) hm he]; exact e
    · rename_i he; rw [exec_mono (callN_mono hm) hm he]; exact e
    · cases e
  obtain ⟨n, hn⟩ : ∃ n, ∀ as ∈ splits args, runIO (callN E n) n fn as (ins.map decB) = some r := by
    revert h
    generalize splits args = l
    intro h
    clear hne
    induction l with
    | nil => exact ⟨0, fun _ h => by cases h⟩
    | cons a l ih =>
      obtain ⟨n, hn⟩ := ih fun as has => h as (List.mem_cons_of_mem _ has)
      obtain ⟨m, hm⟩ := h a (List.mem_cons_self ..)
      refine ⟨max n m, fun as has => ?_⟩
      rcases List.mem_cons.1 has with rfl | has
      · exact mono (Nat.le_max_right ..) hm
      · exact mono (Nat.le_max_left ..) (hn as has)
  refine ⟨n + 1, ?_⟩
  simp only [callN, hp, if_neg hlt, Nat.add_sub_cancel_left, hfn, runSplit, hs, if_true]
  have hall : ∀ l : List (List T), (∀ as ∈ l, runIO (callN E n) n fn as (ins.map decB) = some r) → l.mapM (fun as => runIO (callN E n) n fn as (ins.map decB)) = some (List.replicate l.length r) := fun l => by
    induction l with
    | nil => intro _; rfl
    | cons a l ih =>
      intro h
      simp only [List.mapM_cons, h a (List.mem_cons_self ..), Option.bind_eq_bind, Option.bind_some, ih fun as has => h as (List.mem_cons_of_mem _ has), Option.pure_def, List.length_cons, List.replicate_succ]
  rw [hall _ hn]
  cases hs' : splits args with
  | nil => exact absurd hs' hne
  | cons a l =>
    simp only [List.length_cons, List.replicate_succ]
    rw [if_pos]
    refine List.all_eq_true.2 fun x hx => ?_
    obtain ⟨h1, h2⟩ := List.mem_replicate.1 hx
    rw [h2]
    rcases hr with hr | hr
    · rw [hs', List.length_cons] at hr; omega
    · exact hr
end Go.Vi
end
section
/-
  Ranges over functions, by what holds at the head of each round.
-/
namespace Go.Vi
open Go

def normQ (J : St → Prop) : Out → Prop
  | .norm σ => J σ
  | _ => False
@[simp] theorem normQ_norm (J σ) : normQ J (.norm σ) = J σ := rfl
@[simp] theorem normQ_exit (J id σ) : normQ J (.exit id σ) = False := rfl
@[simp] theorem normQ_ret (J σ) : normQ J (.ret σ) = False := rfl

def roundOf (E : Env) (n : Nat) (a b : IC) (σ : St) : Option Out := match exec (callN E n) n a σ with
  | some (.norm σ1) => exec (callN E n) n b σ1
  | _ => none
theorem roundOf_seq {E : Env} {n : Nat} {a b : IC} {σ σ' : St} (h : exec (callN E n) n (.seq a b) σ = some (.norm σ')) : roundOf E n a b σ = some (.norm σ') := by
  simp only [exec] at h
  unfold roundOf
  cases ho : exec (callN E n) n a σ with
  | none => rw [ho] at h; cases h
  | some o =>
    rw [ho] at h
    cases o with
    | norm σ1 => exact h
    | exit j σ1 => cases h
    | ret σ1 => cases h

section
variable {E : Env} {k : List Fr} {σ : St} {Q : Out → Prop}

theorem rounds_ev {K : Nat} {ps : List Nat} {a b : IC} {ys0 : List T} (I : Nat → List T → List (Option (List T)) → Prop)
    (hstep : ∀ j t vars bx, ys0[j]? = some t → I j vars bx → ∃ y, t = .tup y ∧ y.length = ps.length ∧ M E (.seq a b) [] ⟨[], setVars ps y (remapL (fun s => some (s + K)) (fun _ => none) vars), shiftB K bx⟩
      (normQ fun σ' => I (j + 1) (liveV (unshiftB K σ'.boxes) vars) (unshiftB K σ'.boxes))) :
    ∀ (ys : List T) (j : Nat) (vars : List T) (bx : List (Option (List T))), j ≤ ys0.length → ys0.drop j = ys → I j vars bx → ∃ n vars' bx', I ys0.length vars' bx' ∧ ∀ m, n ≤ m → roundsN (roundOf E m a b) K ps ys vars bx = some ⟨[], vars', bx'⟩
  | [], j, vars, bx, hle, hd, hI => by
    have hj : ys0.length ≤ j := by simpa using hd
    have : j = ys0.length := by omega
    subst this
    exact ⟨0, vars, bx, hI, fun m _ => rfl⟩
  | t :: ys, j, vars, bx, hle, hd, hI => by
    have ht : ys0[j]? = some t := by
      have := congrArg (·[0]?) hd
      simpa using this
    obtain ⟨y, rfl, hl, n1, o, h1, h2⟩ := hstep j t vars bx ht hI
    cases o with
    | exit => exact h2.elim
    | ret => exact h2.elim
    | norm σ' =>
      have hd' : ys0.drop (j + 1) = ys := by rw [← List.drop_drop, hd]; rfl
      obtain ⟨n2, vars', bx', hI', h3⟩ := rounds_ev I hstep ys (j + 1) _ _ (by have := (List.getElem?_eq_some_iff.1 ht).1; omega) hd' h2
      refine ⟨max n1 n2, vars', bx', hI', fun m hm => ?_⟩
      have he := roundOf_seq (exec_mono (callN_mono (E := E) (show n1 ≤ m by omega)) (show n1 ≤ m by omega) h1)
      simp only [roundsN]
      rw [if_pos hl, he]
      exact h3 m (by omega)

section
variable {outs : List (Option Nat)} {rest : Ops} (rs vars : List T) (bx : List (Option (List T)))
@[simp] theorem o_mkCap (d e bytes n) : O E ((none, .mkCap d e bytes n) :: rest) outs k ⟨rs, vars, bx⟩ Q =
    P1 E ((asNat (n.get ⟨rs, vars, bx⟩)).bind fun m => if m * bytes ≤ room ∧ m ≤ room then some (T.sl (.own (8 * d) e) 0 [], St.strip (2 * d) ⟨rs, vars, bx⟩) else none) rest outs k Q := by
  have hrun : runOp C0 ⟨rs, vars, bx⟩ (.mkCap d e bytes n) = (asNat (n.get ⟨rs, vars, bx⟩)).bind fun m => if m * bytes ≤ room ∧ m ≤ room then some (T.sl (.own (8 * d) e) 0 [], St.strip (2 * d) ⟨rs, vars, bx⟩) else none := by
    simp only [runOp]
    cases asNat (n.get ⟨rs, vars, bx⟩) <;> rfl
  rw [o_pure rfl, hrun]
end

/-- A range over a function: what holds at the head of each round; behind the last one. -/
theorem m_range {K : Nat} {g : Opd} {ps : List Nat} {a b : IC} {f : FuncId} {caps cs ys : List T} {ss : List Nat} (I : Nat → List T → List (Option (List T)) → Prop) (hg : calleeOf (g.get σ) = some (f, [], caps))
    (hss : reach σ.boxes 10000 [] (refsL caps) = ss) (hcl : (remapL (fun s => if ss.contains s then some s else none) (fun _ => none) caps).mapM (close (keepB ss σ.boxes) 8) = some cs) (hev : Ev E (ioBase + f) [.tup cs] (.tup ys))
    (h0 : I 0 (remapL (fun s => if ss.contains s then none else some s) (fun _ => none) σ.vars) (lendB ss σ.boxes))
    (hstep : ∀ j t vars bx, ys[j]? = some t → I j vars bx → ∃ y, t = .tup y ∧ y.length = ps.length ∧ M E (.seq a b) [] ⟨[], setVars ps y (remapL (fun s => some (s + K)) (fun _ => none) vars), shiftB K bx⟩
      (normQ fun σ' => I (j + 1) (liveV (unshiftB K σ'.boxes) vars) (unshiftB K σ'.boxes)))
    (hend : ∀ vars bx, I ys.length vars bx → N E k (if scalY ys && ss.all (fun s => boxFree bx s) then ⟨[], vars, backB ss (keepB ss σ.boxes) bx⟩ else ⟨[], vars, bx⟩) Q) : M E (.range K g ps a b) k σ Q := by
  obtain ⟨n1, h1⟩ := hev
  obtain ⟨n2, vars', bx', hI, h2⟩ := rounds_ev I hstep ys 0 _ _ (Nat.zero_le _) rfl h0
  refine ⟨max n1 n2, _, ?_, hend vars' bx' hI⟩
  have hc := callN_mono (E := E) (show n1 ≤ max n1 n2 by omega) _ _ _ h1
  have hr := h2 (max n1 n2) (by omega)
  simp only [exec, hg, hss, hcl, Option.bind_some, hc]
  exact (congrArg (Option.map _) hr).trans rfl

/-- As `ev_of`, of a function that is run twice where an argument may be nil: if none may. -/
theorem ev_of_split {f : FuncId} {args : List T} {r : T} {fn : IFn} (hp : E.prim f = none) (hf : f < ioBase) (hfn : E.fn f = some fn) (hs : splits args = [args]) (hl : args.length = fn.nparams)
    (h : M E fn.body [] ⟨[], args ++ List.replicate (fn.nvars - fn.nparams) .undef, List.replicate (2 * fn.nboxes) none⟩ (retQ fn.results fn.canon r)) : Ev E f args r := by
  obtain ⟨n, o, h1, h2⟩ := h
  have key : runFn (callN E n) n fn args = some r := by
    simp only [runFn, if_pos hl, h1]
    cases o with
    | norm σ => exact h2
    | exit j σ => exact h2.elim
    | ret σ => exact h2
  refine ⟨n + 1, ?_⟩
  simp only [callN, hp, if_pos hf, hfn, runSplit]
  split
  · simp [hs, key]
  · exact key
end
end Go.Vi
end
