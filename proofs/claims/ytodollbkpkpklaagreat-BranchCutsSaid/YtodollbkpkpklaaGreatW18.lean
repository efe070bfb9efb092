/-
  A claim's own text, joined by a small program out of: VjK4.
-/
import Derived.Test.YtodollbkpkpklaaGreatW12
import Derived.Test.YtodollbkpkpklaaGreatW13
set_option linter.unusedVariables false
set_option linter.unusedSimpArgs false
section
/-
  A VERIFIED INTERPRETER (part K4): closed runs in stages: what a call comes to, given what the calls that it makes come to.
-/
set_option linter.unusedVariables false
namespace Go.Vi
open Go

/-! ### Are two trees the same? -/
def eqV (x y : Value) : Bool := match x with
  | .int k n => (match y with | .int k' n' => decide (k = k') && eqF n n' | _ => false)
  | .bool b => (match y with | .bool b' => b == b' | _ => false)
  | .string s => (match y with | .string s' => decide (s.data.toList = s'.data.toList) | _ => false)
  | .func f a b => (match f with
    | .func f => (match y with | .func f' a' b' => (match f' with | .func f' => Nat.beq f f' && Nat.beq a.size 0 && Nat.beq b.size 0 && Nat.beq a'.size 0 && Nat.beq b'.size 0 | _ => false) | _ => false)
    | _ => false)
  | _ => false
theorem eqV_spec {x y : Value} (h : eqV x y = true) : x = y := by
  unfold eqV at h
  split at h
  · split at h
    · simp only [Bool.and_eq_true, decide_eq_true_eq, eqF_eq, beq_iff_eq] at h
      rw [h.1, h.2]
    · cases h
  · split at h
    · simp only [beq_iff_eq] at h; rw [h]
    · cases h
  · split at h
    · rename_i s _ s'
      simp only [decide_eq_true_eq] at h
      have : s = s' := by
        cases s; cases s'
        simp only at h
        rw [ByteArray.mk.injEq]
        exact Array.ext' h
      rw [this]
    · cases h
  · split at h
    · split at h
      · split at h
        · simp only [Bool.and_eq_true, Nat.beq_eq] at h
          obtain ⟨⟨⟨⟨h1, h2⟩, h3⟩, h4⟩, h5⟩ := h
          rw [h1, Array.eq_empty_of_size_eq_zero h2, Array.eq_empty_of_size_eq_zero h3, Array.eq_empty_of_size_eq_zero h4, Array.eq_empty_of_size_eq_zero h5]
        · cases h
      · cases h
    · cases h
  · cases h
noncomputable def eqLst (f : T → T → Bool) (l : List T) : List T → Bool :=
  List.rec (fun m => match m with | [] => true | _ :: _ => false) (fun t _ ih m => match m with | [] => false | u :: us => bif f t u then ih us else false) l
theorem eqLst_spec {f : T → T → Bool} (hf : ∀ t u, f t u = true → t = u) : ∀ {l m : List T}, eqLst f l m = true → l = m
  | [], [], _ => rfl
  | [], _ :: _, h => by cases h
  | _ :: _, [], h => by cases h
  | t :: ts, u :: us, h => by
    have h' : (bif f t u then eqLst f ts us else false) = true := h
    cases hb : f t u with
    | false => rw [hb] at h'; cases h'
    | true =>
      rw [hb] at h'
      rw [hf t u hb, eqLst_spec hf h']
def eqTag (g h : Tag) : Bool := match g with
  | .nil => (match h with | .nil => true | _ => false)
  | .any => (match h with | .any => true | _ => false)
  | .imm => (match h with | .imm => true | _ => false)
  | .clip => (match h with | .clip => true | _ => false)
  | .own i e => (match h with | .own j e' => Nat.beq i j && Nat.beq e e' | _ => false)
theorem eqTag_spec {g h : Tag} (e : eqTag g h = true) : g = h := by
  cases g <;> cases h <;> simp_all [eqTag, Nat.beq_eq]
def eqS (f : T → T → Bool) (g : List T → List T → Bool) (t u : T) : Bool := match t with
  | .v x => (match u with | .v y => eqV x y | _ => false)
  | .undef => (match u with | .undef => true | _ => false)
  | .sl h n cs => (match u with | .sl h' n' cs' => eqTag h h' && (Nat.beq n n' && g cs cs') | _ => false)
  | .agg cs => (match u with | .agg cs' => g cs cs' | _ => false)
  | .tup cs => (match u with | .tup cs' => g cs cs' | _ => false)
  | .ptr cs o => (match u with | .ptr cs' o' => Nat.beq o o' && g cs cs' | _ => false)
  | _ => false
noncomputable def eqD (k : Nat) : T → T → Bool := Nat.rec (fun _ _ => false) (fun _ ih t u => eqS ih (eqLst ih) t u) k
theorem eqD_spec : ∀ (k : Nat) (t u : T), eqD k t u = true → t = u
  | 0, t, u, h => by cases h
  | k + 1, t, u, h => by
    have h' : eqS (eqD k) (eqLst (eqD k)) t u = true := h
    have hl : ∀ {l m : List T}, eqLst (eqD k) l m = true → l = m := fun h => eqLst_spec (eqD_spec k) h
    unfold eqS at h'
    split at h'
    · split at h'
      · rw [eqV_spec h']
      · cases h'
    · split at h'
      · rfl
      · cases h'
    · split at h'
      · simp only [Bool.and_eq_true, Nat.beq_eq] at h'
        rw [eqTag_spec h'.1, h'.2.1, hl h'.2.2]
      · cases h'
    · split at h'
      · rw [hl h']
      · cases h'
    · split at h'
      · rw [hl h']
      · cases h'
    · split at h'
      · simp only [Bool.and_eq_true, Nat.beq_eq] at h'
        rw [h'.1, hl h'.2]
      · cases h'
    · cases h'

/-! ### Stages -/
abbrev Tab := List (Nat × List T × T)
/-- Calls whose results are known; all others as they are. -/
noncomputable def tabC (tab : Tab) (C : CallK) : CallK := fun f args => List.rec (C f args) (fun e _ ih => bif Nat.beq e.1 f then (bif eqLst (eqD 8) e.2.1 args then some e.2.2 else ih) else ih) tab
def AllEv (E : Env) : Tab → Prop
  | [] => True
  | e :: es => Ev E e.1 e.2.1 e.2.2 ∧ AllEv E es
theorem AllEv.fuel {E : Env} : ∀ {tab : Tab}, AllEv E tab → ∃ n, ∀ e ∈ tab, callN E n e.1 e.2.1 = some e.2.2
  | [], _ => ⟨0, fun e he => by cases he⟩
  | e :: es, h => by
    obtain ⟨⟨n, hn⟩, h2⟩ := h
    obtain ⟨m, hm⟩ := h2.fuel
    refine ⟨max n m, fun x hx => ?_⟩
    rcases List.mem_cons.1 hx with rfl | hx
    · exact callN_mono (Nat.le_max_left n m) _ _ _ hn
    · exact callN_mono (Nat.le_max_right n m) _ _ _ (hm x hx)
theorem tabC_le {C C' : CallK} (hC : Le C C') : ∀ {tab : Tab}, (∀ e ∈ tab, C' e.1 e.2.1 = some e.2.2) → Le (tabC tab C) C'
  | [], _, f, a, r, h => hC f a r h
  | e :: es, ht, f, a, r, h => by
    have h' : (bif Nat.beq e.1 f then (bif eqLst (eqD 8) e.2.1 a then some e.2.2 else tabC es C f a) else tabC es C f a) = some r := h
    have hes := tabC_le hC (tab := es) (fun x hx => ht x (List.mem_cons_of_mem _ hx)) f a r
    cases hb : Nat.beq e.1 f with
    | false => rw [hb] at h'; exact hes h'
    | true =>
      rw [hb] at h'
      cases hc : eqLst (eqD 8) e.2.1 a with
      | false => rw [hc] at h'; exact hes h'
      | true =>
        rw [hc] at h'
        have := ht e List.mem_cons_self
        rw [Nat.eq_of_beq_eq_true hb, eqLst_spec (eqD_spec 8) hc] at this
        rw [this]
        exact h'

noncomputable def sameO (o : Option T) (r : T) : Bool := match o with | some t => eqD 8 t r | none => false
theorem sameO_spec {o : Option T} {r : T} (h : sameO o r = true) : o = some r := by
  unfold sameO at h
  split at h
  · rw [eqD_spec 8 _ _ h]
  · cases h

theorem runFn_mono {C C' : CallF} (h : Le C C') {n m : Nat} (hm : n ≤ m) {fn : IFn} {args : List T} {r : T} (e : runFn C n fn args = some r) : runFn C' m fn args = some r := by
  unfold runFn at e ⊢
  split at e <;> try (cases e; done)
  rename_i hl
  rw [if_pos hl]
  split at e
  · rename_i σ ho
    rw [exec_mono h hm ho]
    exact e
  · rename_i σ ho
    rw [exec_mono h hm ho]
    exact e
  · cases e

/-- A call, by its stages. -/
theorem stage {E : Env} {f : FuncId} {fn : IFn} {args : List T} {r : T} (tab : Tab) (N : Nat) (ht : AllEv E tab) (hp : E.prim f = none) (hf : f < ioBase) (hfn : E.fn f = some fn) (hs : fn.split = false)
    (hrun : sameO (runFnK (tabC tab (callK E N)) N fn args) r = true) : Ev E f args r := by
  obtain ⟨m, hm⟩ := ht.fuel
  have h1 := sameO_spec hrun
  rw [runFnK_eq, callK_eq] at h1
  have hle : Le (tabC tab (callN E N)) (callN E (max N m)) := tabC_le (callN_mono (Nat.le_max_left N m)) fun e he => callN_mono (Nat.le_max_right N m) _ _ _ (hm e he)
  have h2 := runFn_mono hle (Nat.le_max_left N m) h1
  refine ⟨max N m + 1, ?_⟩
  simp only [callN, hp, if_pos hf, hfn, runSplit, hs, Bool.false_eq_true, if_false]
  exact h2
end Go.Vi
end
