/-
  A claim's own text, joined by a small program out of: Vj15b, Vj15c, Vj15d, Vj16, Vj16b, Vj16c, Vj17, Vj18, Vj19, Vj20, Vj20b.
-/
import Derived.Test.YtodollbkpkpklaaGreatW7
import Derived.ScopeJumps
set_option linter.unusedVariables false
set_option linter.unusedSimpArgs false
section
/-
  A VERIFIED INTERPRETER (part 15b): scopes, and jumps to their labels, inside a fence.
-/
set_option linter.unusedSimpArgs false
set_option linter.unusedVariables false
namespace Go.Vi
open Go Go.RowKit

section
variable {F : Fence} {n : Nat} {P : Program} {b : Frame} {a : Act} {k : List Item} {cs : List Frame} {w : World} {Q : Exit → Act → World → Prop}

theorem stepR_scope {c : Code} : step P (lone (b.atR a (.code (.scope c) :: k)) cs w) = .next (lone (b.atR a (.code c :: .inScope c :: k)) cs w) :=
  step_lone_go (by simp [stepG, stepG.exec, Frame.atR])

theorem stepR_inScope {c : Code} : step P (lone (b.atR a (.inScope c :: k)) cs w) = .next (lone (b.atR a k) cs w) :=
  step_lone_go (by simp [stepG, stepG.exec, Frame.atR])

/-- A scope in which the run jumps back to one label. -/
theorem wpIn_scope_jumps {c rest : Code} (l : Nat) (J : Nat → Act → World → Prop) (N : Nat) (hf : findLabel c l = some rest)
    (first : c.wpIn F n P (Exit.jump l (J N) Q) a w) (j0 : ∀ a w, ¬ J 0 a w)
    (pass : ∀ m a w, J (m + 1) a w → rest.wpIn F n P (Exit.jump l (J m) Q) a w) : (Code.scope c).wpIn F n P Q a w := by
  intro b k cs hro hb hr
  have hg : gotoIn l (.inScope c :: k) = some (.code rest :: .inScope c :: k) := by simp [gotoIn, hf]
  have out : ∀ {m : Machine} {e : Exit} {a1 : Act} {w1 : World}, (∀ l', e ≠ .goto l') → ArrivesIn (Machine.fenced P F) P m b (.inScope c :: k) cs e a1 w1 → ArrivesIn (Machine.fenced P F) P m b k cs e a1 w1 := by
    intro m e a1 w1 hne harr
    cases e with
    | normal => exact StepsIn.trans harr (.one (fenced_calm hb hr rfl) stepR_inScope)
    | exit id => exact harr
    | goto l' => exact absurd rfl (hne l')
    | ret => exact harr
    | panic ch => exact harr
    | outgrown => exact harr
  have key : ∀ m a w, J m a w → ∃ e a' w', Q e a' w' ∧ ArrivesIn (Machine.fenced P F) P (lone (b.atR a (.code rest :: .inScope c :: k)) cs w) b k cs e a' w' := by
    intro m
    induction m with
    | zero => intro a w h; exact absurd h (j0 a w)
    | succ m ih =>
      intro a w hJ
      obtain ⟨e, a₁, w₁, hq, harr⟩ := pass m a w hJ b (.inScope c :: k) cs hro hb hr
      cases e with
      | goto l' =>
        obtain ⟨rfl, hJ'⟩ := hq
        obtain ⟨e₂, a₂, w₂, hq₂, harr₂⟩ := ih a₁ w₁ hJ'
        exact ⟨e₂, a₂, w₂, hq₂, .of_steps (harr.1 _ hg) harr₂⟩
      | normal => exact ⟨_, a₁, w₁, hq, out (fun _ h => by cases h) harr⟩
      | exit id => exact ⟨_, a₁, w₁, hq, out (fun _ h => by cases h) harr⟩
      | ret => exact ⟨_, a₁, w₁, hq, out (fun _ h => by cases h) harr⟩
      | panic ch => exact ⟨_, a₁, w₁, hq, out (fun _ h => by cases h) harr⟩
      | outgrown => exact ⟨_, a₁, w₁, hq, out (fun _ h => by cases h) harr⟩
  obtain ⟨e, a₁, w₁, hq, harr⟩ := first b (.inScope c :: k) cs hro hb hr
  have h0 : StepsIn (Machine.fenced P F) P (lone (b.atR a (.code (.scope c) :: k)) cs w) (lone (b.atR a (.code c :: .inScope c :: k)) cs w) := .one (fenced_calm hb hr rfl) stepR_scope
  cases e with
  | goto l' =>
    obtain ⟨rfl, hJ'⟩ := hq
    obtain ⟨e₂, a₂, w₂, hq₂, harr₂⟩ := key _ a₁ w₁ hJ'
    exact ⟨e₂, a₂, w₂, hq₂, .of_steps (StepsIn.trans h0 (harr.1 _ hg)) harr₂⟩
  | normal => exact ⟨_, a₁, w₁, hq, .of_steps h0 (out (fun _ h => by cases h) harr)⟩
  | exit id => exact ⟨_, a₁, w₁, hq, .of_steps h0 (out (fun _ h => by cases h) harr)⟩
  | ret => exact ⟨_, a₁, w₁, hq, .of_steps h0 (out (fun _ h => by cases h) harr)⟩
  | panic ch => exact ⟨_, a₁, w₁, hq, .of_steps h0 (out (fun _ h => by cases h) harr)⟩
  | outgrown => exact ⟨_, a₁, w₁, hq, .of_steps h0 (out (fun _ h => by cases h) harr)⟩

/-- A scope without jumps to its labels. -/
theorem wpIn_scope_straight {c : Code} (h : c.wpIn F n P (Exit.noGoto Q) a w) : (Code.scope c).wpIn F n P Q a w := by
  intro b k cs hro hb hr
  obtain ⟨e, a₁, w₁, hq, harr⟩ := h b (.inScope c :: k) cs hro hb hr
  have h0 : StepsIn (Machine.fenced P F) P (lone (b.atR a (.code (.scope c) :: k)) cs w) (lone (b.atR a (.code c :: .inScope c :: k)) cs w) := .one (fenced_calm hb hr rfl) stepR_scope
  cases e with
  | normal => exact ⟨.normal, a₁, w₁, hq, StepsIn.trans h0 (StepsIn.trans harr (.one (fenced_calm hb hr rfl) stepR_inScope))⟩
  | exit id => exact ⟨.exit id, a₁, w₁, hq, .of_steps h0 harr⟩
  | goto l => exact hq.elim
  | ret => exact ⟨_, a₁, w₁, hq, .of_steps h0 harr⟩
  | panic ch => exact ⟨_, a₁, w₁, hq, .of_steps h0 harr⟩
  | outgrown => exact ⟨_, a₁, w₁, hq, .of_steps h0 harr⟩
end
end Go.Vi
end
section
/-
  A VERIFIED INTERPRETER (part 15c): a range over a function.
-/
set_option linter.unusedSimpArgs false
set_option linter.unusedVariables false
namespace Go.Vi
open Go Go.RowKit

section
variable {P : Program} {w : World} {a : Act} {S : Nat → Nat → Prop}

theorem range_law {g : Operand} {ps : Array Tmp} {assign body : Code} {Q : Exit → Act → World → Prop} {n gf : Nat} {lb : Array Value} {caps : List T} {ys : List (List T)}
    (hg : a.eval g = .func (.func gf) #[] lb) (hseq : SeqSound P gf caps ys) (hS : ∀ b o, S b o → b < w.heap.size) (hlb : lb.size = caps.length) (hcaps : ∀ (i : Nat) (x : Value) (t : T), lb[i]? = some x → caps[i]? = some t → Rep S w noB noF x t)
    (hps : ∀ y ∈ ys, y.length = ps.size) (I : Nat → (Nat → Prop) → World → Prop)
    (h0 : ∀ o, I 0 (fun _ => False) ((w.alloc (.deferred (some []))).alloc (.loop o)))
    (hstep : ∀ k own own' W W', I k own W → (∀ b, own b → w.heap.size + 2 ≤ b ∧ b < W.heap.size) → w.heap.size + 2 ≤ W.heap.size → IterStep own own' W W' → I k own' W')
    (hround : ∀ k y own W (xs : Array Value) m, ys[k]? = some y → I k own W → (∀ b, own b → w.heap.size + 2 ≤ b ∧ b < W.heap.size) → (∃ r, W.heap[w.heap.size + 1]? = some (.loop r)) → W.heap[w.heap.size]? = some (.deferred (some [])) → xs.size = y.length →
      (∀ (i : Nat) (x : Value) (t : T), xs[i]? = some x → y[i]? = some t → Rep S W noB noF x t) →
      assign.wpIn (wd (some (w.heap.size + 1))) m P (Exit.then (fun a1 W1 => W1.heap[w.heap.size + 1]? = W.heap[w.heap.size + 1]? ∧ ∀ o, body.wpIn (wd (some (w.heap.size + 1))) m P
        (fun e a3 W3 => e = .normal ∧ W3.heap[w.heap.size + 1]? = some (.loop o) ∧ W3.heap[w.heap.size]? = some (.deferred (some [])) ∧ ∀ o', I (k + 1) own (W3.putObj (w.heap.size + 1) (.loop o')) ∧ RoundStep S own W (W3.putObj (w.heap.size + 1) (.loop o')))
        a1 (W1.putObj (w.heap.size + 1) (.loop o))) (fun _ _ _ => False)) { tmps := (ps.zip xs).foldl (fun t (p, v) => t.setIfInBounds p v) a.tmps, defers := [] } W)
    (hdone : ∀ own W o, I ys.length own W → (∀ b, own b → w.heap.size + 2 ≤ b ∧ b < W.heap.size) → (∃ r, W.heap[w.heap.size + 1]? = some (.loop r)) → W.heap[w.heap.size]? = some (.deferred (some [])) →
      Q .normal { a with defers := markOf w.heap.size :: a.defers } (W.putObj (w.heap.size + 1) (.loop o))) :
    (Code.rangeFunc g ps assign body).wpIn (wd none) n P Q a w := by
  obtain ⟨hcall, hseq⟩ := hseq
  refine wpIn_rangeFunc ?_
  intro fn hfn
  obtain ⟨rec, hrec⟩ : ∃ rec : LoopState → Option Code → Loop, rec = fun st pe => { state := st, pending := pe, fn, tmps := a.tmps, params := ps, assign, body, defers := w.heap.size } := ⟨_, rfl⟩
  obtain ⟨W1, hW1⟩ : ∃ W1, (w.alloc (.deferred (some []))).alloc (.loop (rec .ready none)) = W1 := ⟨_, rfl⟩
  have hsz1 : W1.heap.size = w.heap.size + 2 := by rw [← hW1]; simp
  have hL1 : W1.heap[w.heap.size + 1]? = some (.loop (rec .ready none)) := by
    rw [← hW1]; have := World.alloc_heap_new (w.alloc (.deferred (some []))) (.loop (rec .ready none)); rwa [World.size_alloc] at this
  have hK1 : W1.heap[w.heap.size]? = some (.deferred (some [])) := by
    rw [← hW1]; exact (Below.heap_alloc _ _ _ (by simp)).trans (World.alloc_heap_new w _)
  have hI1 : I 0 (fun _ => False) W1 := by rw [← hW1]; exact h0 _
  have hb1 : Below w.heap.size w W1 := by
    rw [← hW1]; exact ((Below.refl _ w).alloc (Nat.le_refl _) _).alloc (by simp) _
  refine ⟨w.heap.size + 1, [markOf w.heap.size], W1, { target := .fn (.func gf) lb, args := #[.func (.yield (w.heap.size + 1)) #[] #[]] }, W1, gf,
    #[.func (.yield (w.heap.size + 1)) #[] #[]] ++ lb, W1, ?_, ?_, fun _ _ => trivial, ?_, (fun h => by cases h), ?_⟩
  · rw [← hW1, hrec]; exact run_enterLoop_outer _ _ _ _ _
  · simp only [resolve, hg]
    simp [go_sem]
  · simp only [invoke]
    exact run_callFunc hcall
  · refine (hseq (w.heap.size + 1) W1 S lb (fun b o h => by have := hS b o h; omega) hlb (fun i x t hx ht => (hcaps i x t hx ht).grow hS hb1)
      (fun k own W => I k own W ∧ W.heap[w.heap.size + 1]? = some (.loop (rec .ready none)) ∧ W.heap[w.heap.size]? = some (.deferred (some [])))
      (fun k own own' W W' ⟨hi, hl, hk⟩ hb hs => ?_) (fun k y own W xs hy ⟨hi, hl, hk⟩ hb hxs hrep m => ?_) ⟨hI1, hL1, hK1⟩ _).mono ?_
    · have hlt := (Array.getElem?_eq_some_iff.1 hl).1
      have hn : ∀ b, b < w.heap.size + 2 → ¬ own b := fun b hlt h => by have := (hb b h).1; omega
      exact ⟨hstep k own own' W W' hi (fun b h => by have := hb b h; omega) (by omega) hs, (hs.block _ hlt (hn _ (by omega))).trans hl, (hs.block _ (by omega) (hn _ (by omega))).trans hk⟩
    · have hlt : w.heap.size + 1 < W.heap.size := (Array.getElem?_eq_some_iff.1 hl).1
      have hyr := run_yield (P := P) (args := xs) hl (by rw [hrec, hxs]; exact hps y (List.mem_of_getElem? hy))
      rw [hrec] at hyr
      refine ⟨fn, _, assign, body, hyr, roundIn_of_wpIn hfn ?_⟩
      have hr := hround k y own W xs m hy hi (fun b h => by have := hb b h; omega) ⟨_, hl⟩ hk hxs hrep
      refine wpIn_mono hr ?_
      rintro e a1 Wa hp
      cases e <;> try exact hp.elim
      obtain ⟨hla, hbody⟩ := hp
      have hla' : Wa.heap[w.heap.size + 1]? = some (.loop (rec .ready none)) := hla.trans hl
      refine ⟨_, run_beginRound hla' (by rw [hrec]), ?_⟩
      refine wpIn_mono (hbody { rec .ready none with state := .busy }) ?_
      rintro e a3 W3 ⟨rfl, hl3, hk3, hfin⟩
      have hend := run_endRound (P := P) none hl3
      rw [hrec] at hend hl3
      obtain ⟨hi4, hs4⟩ := hfin (rec .ready none)
      refine ⟨_, _, hend, rfl, ⟨?_, ?_, ?_⟩, ?_⟩
      · have := hi4
        rw [hrec] at this
        exact this
      · rw [World.putObj_heap_same (Array.getElem?_eq_some_iff.1 hl3).1, hrec]
        rfl
      · exact (World.putObj_heap_other (by omega)).trans hk3
      · have := hs4
        rw [hrec] at this
        exact this
    · rintro e W2 ⟨⟨v, rfl⟩, own, hbo, hi, hl, hk⟩
      have hend := run_endLoop (P := P) hl (by rw [hrec]; simp)
      rw [hrec] at hend
      refine ⟨none, _, hend, ?_⟩
      have := hdone own W2 { rec .ready none with state := .exhausted } hi (fun b h => by have := hbo b h; omega) ⟨_, hl⟩ hk
      rw [hrec] at this
      exact this
end
end Go.Vi
end
section
/-
  A VERIFIED INTERPRETER (part 15d): boxes lent, and by other names.
-/
set_option linter.unusedSimpArgs false
set_option linter.unusedVariables false
namespace Go.Vi
open Go Go.RowKit

section
variable {P : Program} {W : Base} {w : World} {S0 S : Nat → Nat → Prop} {β : BMap} {φ : FMap} {bx : List (Option (List T))}

theorem grows_putObj {w : World} {l : Nat} {o : Obj} (o' : Obj) (h : w.heap[l]? = some o) (hc : o.isCells = false) : Grows w (w.putObj l o') :=
  grows_of_row (g := l) (fun b _ hb => World.putObj_heap_other hb) fun k ⟨cc, e, h1, _⟩ => by rw [h] at h1; cases h1; cases hc

/-- A later beginning; blocks turned that are not ours. -/
theorem Inv.rebaseL (h : Inv P W S0 S β φ bx w) {w' : World} {X' : Nat → Prop} {S0' : Nat → Nat → Prop} {nb m0 : Nat} {β0 : BMap} (Z : Nat → Prop)
    (hsz : w.heap.size ≤ w'.heap.size) (hk : ∀ b, b < w.heap.size → ¬ Z b → w'.heap[b]? = w.heap[b]?) (hZ : ∀ b, Z b → W.X b) (hcell : ∀ b o, S b o → ∀ sp v, w.cell? ⟨b, o, sp⟩ = some v → w'.cell? ⟨b, o, sp⟩ = some v)
    (hX : ∀ b, X' b → W.X b ∨ w.heap.size ≤ b ∨ ((∀ s, β s ≠ some b) ∧ ∀ k x e, φ k = some (x, e) → x.ownBlock ≠ some b)) (hXlt : ∀ b, X' b → b < w'.heap.size) (h0 : ∀ b o, S0' b o → S b o) (htop : ∀ b o, S b o → S0' b o ∨ ¬ X' b)
    (hpin : ∀ s b, nb ≤ s → β0 s = some b → β s = some b ∨ bx[s]? = some none) (hgr : Grows w w') :
    Inv P ⟨w', X', nb, β0, m0⟩ S0' S β φ bx w' ∧ (∀ x t φ, Rep S w β φ x t → Rep S w' β φ x t) ∧ ∀ b o, S b o → ∀ sp v, w.cell? ⟨b, o, sp⟩ = some v → w'.cell? ⟨b, o, sp⟩ = some v := by
  have hm : ∀ x t φ, Rep S w β φ x t → Rep S w' β φ x t := fun x t φ hx => hx.mono (fun _ _ => id) (fun _ _ => id) (fun _ _ => id) hcell hgr
  refine ⟨⟨⟨rfl, rfl, rfl, Nat.le_refl _, hXlt, fun _ _ => rfl, Grows.refl _⟩, fun b o hs => Nat.lt_of_lt_of_le (h.lt b o hs) hsz, fun s b hb => ?_, h.boxed, h.inj, fun k x e hk' => ?_, h.famInj, htop, h0, fun _ _ _ _ _ hv => hv, hpin⟩, hm, hcell⟩
  · obtain ⟨h1, h2, cs, h3, h4⟩ := h.box s b hb
    have hlt := h4.lt
    refine ⟨fun hx => ?_, h2, cs, h3, h4.mono' (hk b hlt fun hz => h1 (hZ b hz)) fun y u => hm y u φ⟩
    rcases hX b hx with h' | h' | h'
    · exact h1 h'
    · omega
    · exact h'.1 s hb
  · obtain ⟨g, n, c, sz, xs, i, rfl, hi, hsz', ho, h1, h2, h3⟩ := h.fam k x e hk'
    have hg := (ho.lt g rfl).2
    refine ⟨g, n, c, sz, xs, i, rfl, hi, hsz', ⟨ho.1, ?_⟩, h1, h2, fun hx => ?_⟩
    · rcases ho.2 with ⟨h', _⟩ | ⟨g', cap, cur, e2', hx', hb', hgc, hr⟩
      · cases h'
      · simp only [Value.slice.injEq, Option.some.injEq, Addr.mk.injEq] at hx'
        obtain ⟨⟨rfl, _⟩, _, rfl⟩ := hx'
        exact .inr ⟨g, c, cur, e2', rfl, hb', (hk g hg fun hz => h3 (hZ g hz)).trans hgc, hr⟩
    · rcases hX g hx with h' | h' | h'
      · exact h3 h'
      · omega
      · exact h'.2 k _ e hk' rfl

/-- A later beginning; blocks turned that are not ours. -/
theorem Inv.rebase' (h : Inv P W S0 S β φ bx w) {w' : World} {X' : Nat → Prop} {S0' : Nat → Nat → Prop} {nb m0 : Nat} {β0 : BMap} (Z : Nat → Prop)
    (hsz : w.heap.size ≤ w'.heap.size) (hk : ∀ b, b < w.heap.size → ¬ Z b → w'.heap[b]? = w.heap[b]?) (hZ : ∀ b, Z b → W.X b) (hcell : ∀ b o, S b o → ∀ sp v, w.cell? ⟨b, o, sp⟩ = some v → w'.cell? ⟨b, o, sp⟩ = some v)
    (hX : ∀ b, X' b → W.X b ∨ w.heap.size ≤ b) (hXlt : ∀ b, X' b → b < w'.heap.size) (h0 : ∀ b o, S0' b o → S b o) (htop : ∀ b o, S b o → S0' b o ∨ ¬ X' b)
    (hpin : ∀ s b, nb ≤ s → β0 s = some b → β s = some b ∨ bx[s]? = some none) (hgr : Grows w w') :
    Inv P ⟨w', X', nb, β0, m0⟩ S0' S β φ bx w' ∧ (∀ x t φ, Rep S w β φ x t → Rep S w' β φ x t) ∧ ∀ b o, S b o → ∀ sp v, w.cell? ⟨b, o, sp⟩ = some v → w'.cell? ⟨b, o, sp⟩ = some v :=
  h.rebaseL Z hsz hk hZ hcell (fun b hb => (hX b hb).imp id .inl) hXlt h0 htop hpin hgr

/-- A later beginning; blocks turned that are not ours. -/
theorem Inv.rebase (h : Inv P W S0 S β φ bx w) {w' : World} {X' : Nat → Prop} {S0' : Nat → Nat → Prop} {nb m0 : Nat} {β0 : BMap} (Z : Nat → Prop)
    (hsz : w.heap.size ≤ w'.heap.size) (hk : ∀ b, b < w.heap.size → ¬ Z b → w'.heap[b]? = w.heap[b]?) (hZ : ∀ b, Z b → W.X b ∧ ∀ o, ¬ S b o)
    (hX : ∀ b, X' b → W.X b ∨ w.heap.size ≤ b) (hXlt : ∀ b, X' b → b < w'.heap.size) (h0 : ∀ b o, S0' b o → S b o) (htop : ∀ b o, S b o → S0' b o ∨ ¬ X' b)
    (hpin : ∀ s b, nb ≤ s → β0 s = some b → β s = some b ∨ bx[s]? = some none) (hgr : Grows w w') :
    Inv P ⟨w', X', nb, β0, m0⟩ S0' S β φ bx w' ∧ (∀ x t φ, Rep S w β φ x t → Rep S w' β φ x t) ∧ ∀ b o, S b o → ∀ sp v, w.cell? ⟨b, o, sp⟩ = some v → w'.cell? ⟨b, o, sp⟩ = some v :=
  h.rebase' Z hsz hk (fun b hb => (hZ b hb).1) (fun b o hs sp v hv => by
    rw [World.cell?_of_block (w := w) (hk b (h.lt b o hs) fun hz => (hZ b hz).2 o hs)]
    exact hv) hX hXlt h0 htop hpin hgr

/-- A state of boxes by itself. -/
theorem Core.inv {X : Nat → Prop} (h : Core P X S β φ bx w) (hX : ∀ b, X b → b < w.heap.size) {m0 nb : Nat} : Inv P ⟨w, X, nb, noB, m0⟩ S S β φ bx w :=
  ⟨⟨rfl, rfl, rfl, Nat.le_refl _, hX, fun _ _ => rfl, Grows.refl _⟩, h.lt, h.box, h.boxed, h.inj, h.fam, h.famInj, fun _ _ h => .inl h, fun _ _ h => h, fun _ _ _ _ _ h => h, fun s b _ h => by simp [noB] at h⟩

theorem keepB_get (ss : List Nat) (bx : List (Option (List T))) (s : Nat) : (keepB ss bx)[s]? = if s < bx.length then some (if ss.contains s then (boxAt bx s).map (remapL (fun s => if ss.contains s then some s else none) fun _ => none) else none) else none := by
  unfold keepB
  rw [List.getElem?_map]
  by_cases h : s < bx.length
  · rw [List.getElem?_range h, if_pos h]; rfl
  · rw [List.getElem?_eq_none (by simpa using h), if_neg h]; rfl

theorem lendB_get (ss : List Nat) (bx : List (Option (List T))) (s : Nat) : (lendB ss bx)[s]? = if s < bx.length then some (if ss.contains s then none else (boxAt bx s).map (remapL (fun s => if ss.contains s then none else some s) some)) else none := by
  unfold lendB
  rw [List.getElem?_map]
  by_cases h : s < bx.length
  · rw [List.getElem?_range h, if_pos h]; rfl
  · rw [List.getElem?_eq_none (by simpa using h), if_neg h]; rfl

def keepβ (ss : List Nat) (β : BMap) : BMap := fun s => if ss.contains s then β s else none
def lendβ (ss : List Nat) (β : BMap) : BMap := fun s => if ss.contains s then none else β s

/-- Boxes that are lent: as they are they stay, from here on. -/
theorem Inv.lend (ss : List Nat) (h : Inv P W S0 S β φ bx w) {SL : Nat → Nat → Prop} (hS : ∀ b o, S b o → SL b o) (hSL : ∀ b o, SL b o → withBoxes S (keepβ ss β) b o) :
    (∀ (k : Nat) x t u, Rep S w β φ x t → close (keepB ss bx) k (t.remap (fun s => if ss.contains s then some s else none) fun _ => none) = some u → Rep (withBoxes S (keepβ ss β)) w noB noF x u) ∧
    Inv P W S0 SL (lendβ ss β) φ (lendB ss bx) w ∧
    (∀ x t, Rep S w β φ x t → Rep SL w (lendβ ss β) noF x (t.remap (fun s => if ss.contains s then none else some s) fun _ => none)) ∧ (∀ b o, withBoxes S (keepβ ss β) b o → S b o ∨ ∃ s, keepβ ss β s = some b ∧ β s = some b) := by
  have hkb : ∀ s b, keepβ ss β s = some b → ss.contains s = true ∧ β s = some b := fun s b hb => by
    unfold keepβ at hb
    split at hb
    · rename_i hs; exact ⟨hs, hb⟩
    · cases hb
  have hlb : ∀ s b, lendβ ss β s = some b → ss.contains s = false ∧ β s = some b := fun s b hb => by
    unfold lendβ at hb
    split at hb
    · cases hb
    · rename_i hs; exact ⟨by simpa using hs, hb⟩
  have hm : ∀ {η : Nat → Option Nat} {φ' : FMap} x t, (∀ k k' p, η k = some k' → φ k = some p → φ' k' = some p) → Rep S w β φ x t → Rep SL w (lendβ ss β) φ' x (t.remap (fun s => if ss.contains s then none else some s) η) := fun x t hη hx =>
    (hx.mono hS (fun _ _ => id) (fun _ _ => id) (fun _ _ _ _ _ => id) (Grows.refl _)).remap (fun s s' b h1 h2 => by
      split at h1 <;> try (cases h1; done)
      rename_i hs
      simp only [Option.some.injEq] at h1
      subst h1
      unfold lendβ
      rw [if_neg hs]; exact h2) (fun s s' h1 => by
      split at h1 <;> try (cases h1; done)
      simp only [Option.some.injEq] at h1
      rw [h1]) hη
  refine ⟨fun k x t u hx hu => ?_, ?_, fun x t hx => hm x t (fun k k' p h => by cases h) hx, fun b o hb => hb.imp id fun ⟨s, hs⟩ => ⟨s, hs, (hkb s b hs).2⟩⟩
  · obtain ⟨h1, h2⟩ := h.core.relabel (X' := fun _ => False) (bx' := keepB ss bx) (ρ := fun s => if ss.contains s then some s else none) (ρi := fun s => if ss.contains s then some s else none) (η := fun _ => none) (ηi := fun _ => none)
      (fun s l => by
        constructor
        · intro h; split at h <;> try (cases h; done)
          rename_i hs; simp only [Option.some.injEq] at h; subst h; rw [if_pos hs]
        · intro h; split at h <;> try (cases h; done)
          rename_i hs; simp only [Option.some.injEq] at h; subst h; rw [if_pos hs])
      (fun k k' => by simp) (fun s l h => by split at h <;> try (cases h; done)
                                             simp only [Option.some.injEq] at h; rw [h])
      (fun s l cs h1 h2 => by
        split at h1 <;> try (cases h1; done)
        rename_i hs
        simp only [Option.some.injEq] at h1
        subst h1
        rw [keepB_get, if_pos (List.getElem?_eq_some_iff.1 h2).1, if_pos hs, boxAt_spec.2 h2]
        rfl)
      (fun l cs' hl => by
        rw [keepB_get] at hl
        split at hl <;> try (cases hl; done)
        simp only [Option.some.injEq] at hl
        split at hl <;> try (cases hl; done)
        rename_i hs
        obtain ⟨cs, hcs, rfl⟩ := Option.map_eq_some_iff.1 hl
        exact .inr ⟨l, cs, by rw [if_pos hs], boxAt_spec.1 hcs, rfl⟩)
      (fun b hb => hb.elim)
    have e : (fun l => ((if ss.contains l then some l else none : Option Nat)).bind β) = keepβ ss β := by
      funext s
      unfold keepβ
      split <;> rfl
    rw [e] at h1 h2
    exact close_sound (h1.inv (fun b hb => hb.elim) (m0 := 0) (nb := 0)) k x _ u (h2 x t hx) hu
  · refine ⟨h.below, fun b o hb => ?_, fun s b hb => ?_, fun s cs hs => ?_, fun s s' b hb hb' => h.inj s s' b (hlb s b hb).2 (hlb s' b hb').2, fun k x e hk => ?_, h.famInj, fun b o hb => ?_, fun b o h0 => hS _ _ (h.base b o h0), h.stay, fun s b hn h0 => ?_⟩
    · rcases hSL _ _ hb with hb | ⟨s, hs⟩
      · exact h.lt b o hb
      · exact h.boxLt (hkb s b hs).2
    · obtain ⟨hs, hb⟩ := hlb s b hb
      obtain ⟨h1, h2, cs, h3, h4⟩ := h.box s b hb
      refine ⟨h1, fun o ho => ?_, remapL (fun s => if ss.contains s then none else some s) some cs, ?_, ?_⟩
      · rcases hSL _ _ ho with ho | ⟨s', hs'⟩
        · exact h2 o ho
        · obtain ⟨hc, hb'⟩ := hkb s' b hs'
          have := h.inj s s' b hb hb'
          subst this
          rw [hs] at hc; cases hc
      · rw [lendB_get, if_pos (List.getElem?_eq_some_iff.1 h3).1, if_neg (by rw [hs]; simp), boxAt_spec.2 h3]
        rfl
      · rw [remapL_map]
        exact h4.mono rfl fun y u hy => hm y u (fun k k' p h1 h2 => by simp only [Option.some.injEq] at h1; subst h1; exact h2) hy
    · rw [lendB_get] at hs
      split at hs <;> try (cases hs; done)
      simp only [Option.some.injEq] at hs
      split at hs <;> try (cases hs; done)
      rename_i hc
      obtain ⟨cs0, hcs0, rfl⟩ := Option.map_eq_some_iff.1 hs
      refine (h.boxed s cs0 (boxAt_spec.1 hcs0)).imp (fun e => by rw [e]; rfl) fun ⟨b, hb⟩ => ⟨b, ?_⟩
      unfold lendβ
      rw [if_neg hc]; exact hb
    · obtain ⟨g, n, c, sz, xs, i, h1, h2, h3, h4, h5, h6, h7⟩ := h.fam k x e hk
      refine ⟨g, n, c, sz, xs, i, h1, h2, h3, h4, fun o ho => ?_, fun s hs => h6 s (hlb s g hs).2, h7⟩
      rcases hSL _ _ ho with ho | ⟨s, hs⟩
      · exact h5 o ho
      · exact absurd (hkb s g hs).2 (h6 s)
    · rcases hSL _ _ hb with hb | ⟨s, hs⟩
      · exact h.top b o hb
      · exact .inr (h.box s b (hkb s b hs).2).1
    · by_cases hs : ss.contains s = true
      · refine .inr ?_
        have hlt : s < bx.length := by
          rcases h.pin s b hn h0 with hb | hb
          · obtain ⟨_, _, cs, h3, _⟩ := h.box s b hb
            exact (List.getElem?_eq_some_iff.1 h3).1
          · exact (List.getElem?_eq_some_iff.1 hb).1
        rw [lendB_get, if_pos hlt, if_pos hs]
      · rcases h.pin s b hn h0 with hb | hb
        · refine .inl ?_
          unfold lendβ
          rw [if_neg hs]; exact hb
        · refine .inr ?_
          rw [lendB_get, if_pos (List.getElem?_eq_some_iff.1 hb).1, if_neg hs]
          have : boxAt bx s = none := by unfold boxAt; rw [hb]; rfl
          rw [this]; rfl

theorem backB_get (ss : List Nat) (lent bx : List (Option (List T))) (s : Nat) : (backB ss lent bx)[s]? = if s < bx.length then some (if ss.contains s then boxAt lent s else boxAt bx s) else none := by
  unfold backB
  rw [List.getElem?_map]
  by_cases h : s < bx.length
  · rw [List.getElem?_range h, if_pos h]; rfl
  · rw [List.getElem?_eq_none (by simpa using h), if_neg h]; rfl

/-- Boxes that were lent, and not turned, are there again. -/
theorem Inv.giveBack (ss : List Nat) (h : Inv P W S0 S β φ bx w) {w' : World} {Xk X' : Nat → Prop} {nb m0 : Nat} {β0 β' : BMap} {S0' S' : Nat → Nat → Prop} {φ' : FMap} {bx' : List (Option (List T))}
    (J : Inv P ⟨w', Xk, nb, β0, m0⟩ S0' S' β' φ' bx' w') (hfree : ∀ s, ss.contains s = true → bx'[s]? = some none) (hS : ∀ b o, S b o → S' b o)
    (hcell : ∀ b o, S b o → ∀ sp v, w.cell? ⟨b, o, sp⟩ = some v → w'.cell? ⟨b, o, sp⟩ = some v) (hgr : Grows w w') (hblk : ∀ s b, keepβ ss β s = some b → w'.heap[b]? = w.heap[b]?)
    (hL : ∀ s b, keepβ ss β s = some b → Xk b) (hnS : ∀ s b o, keepβ ss β s = some b → ¬ S' b o) (hX : ∀ b, X' b → Xk b) (hX2 : ∀ s b, keepβ ss β s = some b → ¬ X' b)
    (hpin : ∀ s b, nb ≤ s → β0 s = some b → β s = some b ∨ bx[s]? = some none) :
    ∃ β'', Inv P ⟨w', X', nb, β0, m0⟩ S0' S' β'' φ' (backB ss (keepB ss bx) bx') w' ∧ ∀ x t ψ, Rep S' w' β' ψ x t → Rep S' w' β'' ψ x t := by
  have hkb : ∀ s b, keepβ ss β s = some b → ss.contains s = true ∧ β s = some b := fun s b hb => by
    unfold keepβ at hb
    split at hb
    · rename_i hs; exact ⟨hs, hb⟩
    · cases hb
  have hno : ∀ s b, β' s = some b → ss.contains s = false := fun s b hb => by
    obtain ⟨_, _, cs, h3, _⟩ := J.box s b hb
    cases hs : ss.contains s with
    | false => rfl
    | true => rw [hfree s hs] at h3; cases h3
  obtain ⟨β'', hβ⟩ : ∃ β'' : BMap, β'' = fun s => if ss.contains s then keepβ ss β s else β' s := ⟨_, rfl⟩
  have h1 : ∀ s b, β'' s = some b → (ss.contains s = true ∧ keepβ ss β s = some b ∧ β s = some b) ∨ (ss.contains s = false ∧ β' s = some b) := fun s b hb => by
    rw [hβ] at hb
    simp only at hb
    split at hb
    · rename_i hs; exact .inl ⟨hs, hb, (hkb s b hb).2⟩
    · rename_i hs; exact .inr ⟨by simpa using hs, hb⟩
  have h2 : ∀ s b, keepβ ss β s = some b → β'' s = some b := fun s b hb => by rw [hβ]; simp only; rw [if_pos (hkb s b hb).1]; exact hb
  have h3 : ∀ s b, β' s = some b → β'' s = some b := fun s b hb => by rw [hβ]; simp only; rw [if_neg (by rw [hno s b hb]; simp)]; exact hb
  have hlive : ∀ s b, keepβ ss β s = some b → s < bx'.length := fun s b hb => (List.getElem?_eq_some_iff.1 (hfree s (hkb s b hb).1)).1
  have hmk : ∀ x t, Rep S w β φ x t → Rep S' w' β'' φ' x (t.remap (fun s => if ss.contains s then some s else none) fun _ => none) := fun x t hx =>
    (hx.mono (w' := w') hS (fun _ _ => id) (fun _ _ => id) hcell hgr).remap (fun s s' b g1 g2 => by
      split at g1 <;> try (cases g1; done)
      rename_i hs
      simp only [Option.some.injEq] at g1
      subst g1
      refine h2 s b ?_
      unfold keepβ
      rw [if_pos hs]; exact g2) (fun s s' g1 => by
      split at g1 <;> try (cases g1; done)
      simp only [Option.some.injEq] at g1
      rw [g1]) (fun k k' p g1 => by cases g1)
  have hm' : ∀ x t ψ, Rep S' w' β' ψ x t → Rep S' w' β'' ψ x t := fun x t ψ hx => hx.mono (fun _ _ => id) h3 (fun _ _ => id) (fun _ _ _ _ _ => id) (Grows.refl _)
  refine ⟨β'', ⟨⟨rfl, rfl, rfl, Nat.le_refl _, fun b hb => J.below.lt b (hX b hb), fun _ _ => rfl, Grows.refl _⟩, J.lt, fun s b hb => ?_, fun s cs hs => ?_, fun s s' b hb hb' => ?_, fun k x e hk => ?_, J.famInj, fun b o hb => ?_, J.base, fun _ _ _ _ _ hv => hv, fun s b hn h0 => ?_⟩, hm'⟩
  · rcases h1 s b hb with ⟨g1, g2, g3⟩ | ⟨g1, g2⟩
    · obtain ⟨_, _, cs, k3, k4⟩ := h.box s b g3
      refine ⟨hX2 s b g2, fun o => hnS s b o g2, remapL (fun s => if ss.contains s then some s else none) (fun _ => none) cs, ?_, ?_⟩
      · rw [backB_get, if_pos (hlive s b g2), if_pos g1]
        unfold boxAt
        rw [keepB_get, if_pos (List.getElem?_eq_some_iff.1 k3).1, if_pos g1, boxAt_spec.2 k3]
        rfl
      · rw [remapL_map]
        exact k4.mono (hblk s b g2) hmk
    · obtain ⟨k1, k2, cs, k3, k4⟩ := J.box s b g2
      refine ⟨fun hx => k1 (hX b hx), k2, cs, ?_, k4.mono' rfl fun y u => hm' y u φ'⟩
      rw [backB_get, if_pos (List.getElem?_eq_some_iff.1 k3).1, if_neg (by rw [g1]; simp), boxAt_spec.2 k3]
  · rw [backB_get] at hs
    split at hs <;> try (cases hs; done)
    simp only [Option.some.injEq] at hs
    split at hs
    · rename_i hc
      unfold boxAt at hs
      rw [keepB_get] at hs
      split at hs <;> try (cases hs; done)
      try rw [if_pos hc] at hs
      simp only [Option.join_some] at hs
      obtain ⟨cs0, hcs0, rfl⟩ := Option.map_eq_some_iff.1 hs
      refine (h.boxed s cs0 (boxAt_spec.1 hcs0)).imp (fun e => by rw [e]; rfl) fun ⟨b, hb⟩ => ⟨b, h2 s b ?_⟩
      unfold keepβ
      rw [if_pos hc]; exact hb
    · exact (J.boxed s cs (boxAt_spec.1 hs)).imp id fun ⟨b, hb⟩ => ⟨b, h3 s b hb⟩
  · rcases h1 s b hb with ⟨g1, g2, g3⟩ | ⟨g1, g2⟩ <;> rcases h1 s' b hb' with ⟨k1, k2, k3⟩ | ⟨k1, k2⟩
    · exact h.inj s s' b g3 k3
    · exact absurd (hL s b g2) (J.box s' b k2).1
    · exact absurd (hL s' b k2) (J.box s b g2).1
    · exact J.inj s s' b g2 k2
  · obtain ⟨g, n, c, sz, xs, i, k1, k2, k3, k4, k5, k6, k7⟩ := J.fam k x e hk
    refine ⟨g, n, c, sz, xs, i, k1, k2, k3, k4, k5, fun s hs => ?_, fun hx => k7 (hX g hx)⟩
    rcases h1 s g hs with ⟨g1, g2, g3⟩ | ⟨g1, g2⟩
    · exact k7 (hL s g g2)
    · exact k6 s g2
  · exact (J.top b o hb).imp id fun hn hx => hn (hX b hx)
  · by_cases hs : ss.contains s = true
    · rcases hpin s b hn h0 with hb | hb
      · refine .inl (h2 s b ?_)
        unfold keepβ
        rw [if_pos hs]; exact hb
      · refine .inr ?_
        rw [backB_get, if_pos (List.getElem?_eq_some_iff.1 (hfree s hs)).1, if_pos hs]
        unfold boxAt
        rw [keepB_get, if_pos (List.getElem?_eq_some_iff.1 hb).1, if_pos hs]
        have : boxAt bx s = none := by unfold boxAt; rw [hb]; rfl
        rw [this]; rfl
    · rcases J.pin s b hn h0 with hb | hb
      · exact .inl (h3 s b hb)
      · refine .inr ?_
        rw [backB_get, if_pos (List.getElem?_eq_some_iff.1 hb).1, if_neg hs]
        have : boxAt bx' s = none := by unfold boxAt; rw [hb]; rfl
        rw [this]

def shiftβ (K : Nat) (β : BMap) : BMap := fun s => if K ≤ s then β (s - K) else none

theorem shiftB_get (K : Nat) (bx : List (Option (List T))) (s : Nat) : (shiftB K bx)[s]? = if K ≤ s then (bx[s - K]?).map (Option.map (remapL (fun s => some (s + K)) some)) else some none := by
  unfold shiftB
  rw [List.getElem?_append]
  simp only [List.length_replicate]
  by_cases h : K ≤ s
  · rw [if_neg (by omega), if_pos h, List.getElem?_map]
  · rw [if_pos (by omega), if_neg h, List.getElem?_replicate, if_pos (by omega)]

theorem unshiftB_get (K : Nat) (bx : List (Option (List T))) (s : Nat) : (unshiftB K bx)[s]? = (bx[s + K]?).map (Option.map (remapL (fun s => if K ≤ s then some (s - K) else none) some)) := by
  unfold unshiftB
  rw [List.getElem?_map, List.getElem?_drop, Nat.add_comm]

theorem Core.shift {X : Nat → Prop} (h : Core P X S β φ bx w) {K : Nat} (hK : K % 2 = 0) : Core P X S (shiftβ K β) φ (shiftB K bx) w ∧ ∀ x t, Rep S w β φ x t → Rep S w (shiftβ K β) φ x (t.remap (fun s => some (s + K)) some) := by
  obtain ⟨h1, h2⟩ := h.relabel (X' := X) (bx' := shiftB K bx) (ρ := fun s => some (s + K)) (ρi := fun s => if K ≤ s then some (s - K) else none) (η := some) (ηi := some)
    (fun l s => by
      simp only [Option.some.injEq]
      constructor
      · intro h; subst h; rw [if_pos (by omega)]; congr 1; omega
      · intro h; split at h
        · simp only [Option.some.injEq] at h; omega
        · cases h)
    (fun k k' => by simp [eq_comm]) (fun l s h => by simp only [Option.some.injEq] at h; omega)
    (fun l s cs h1 h2 => by
      simp only [Option.some.injEq] at h1
      subst h1
      rw [shiftB_get, if_pos (by omega), Nat.add_sub_cancel, h2]
      rfl)
    (fun s cs' h => by
      rw [shiftB_get] at h
      split at h
      · obtain ⟨o, ho, h⟩ := Option.map_eq_some_iff.1 h
        obtain ⟨cs, rfl, rfl⟩ := Option.map_eq_some_iff.1 h
        exact .inr ⟨s - K, cs, by congr 1; omega, ho, rfl⟩
      · cases h)
    (fun b hb => .inl hb)
  have e : (fun l => ((if K ≤ l then some (l - K) else none : Option Nat)).bind β) = shiftβ K β := by
    funext s
    unfold shiftβ
    split <;> rfl
  rw [e] at h1 h2
  exact ⟨h1, h2⟩

theorem Core.unshift {X : Nat → Prop} (h : Core P X S β φ bx w) {K : Nat} (hK : K % 2 = 0) : Core P X S (fun s => β (s + K)) φ (unshiftB K bx) w := by
  obtain ⟨h1, _⟩ := h.relabel (X' := X) (bx' := unshiftB K bx) (ρ := fun s => if K ≤ s then some (s - K) else none) (ρi := fun s => some (s + K)) (η := some) (ηi := some)
    (fun l s => by
      simp only [Option.some.injEq]
      constructor
      · intro h; split at h
        · simp only [Option.some.injEq] at h; omega
        · cases h
      · intro h; subst h; rw [if_pos (by omega)]; congr 1; omega)
    (fun k k' => by simp [eq_comm]) (fun l s h => by
      split at h <;> try (cases h; done)
      simp only [Option.some.injEq] at h; omega)
    (fun l s cs h1 h2 => by
      split at h1 <;> try (cases h1; done)
      simp only [Option.some.injEq] at h1
      subst h1
      rw [unshiftB_get, Nat.sub_add_cancel (by assumption), h2]
      rfl)
    (fun s cs' h => by
      rw [unshiftB_get] at h
      obtain ⟨o, ho, h⟩ := Option.map_eq_some_iff.1 h
      obtain ⟨cs, rfl, rfl⟩ := Option.map_eq_some_iff.1 h
      exact .inr ⟨s + K, cs, by rw [if_pos (by omega)]; congr 1; omega, ho, rfl⟩)
    (fun b hb => .inl hb)
  exact h1

/-- What the rounds take. -/
theorem setVars_rel {vm : List Nat} {nt : Nat} (hvm : vm.Nodup) : ∀ (ps : List Nat) (is : List Nat) (xs : List Value) (y : List T) (tmps : Array Value) (vars : List T), tmps.size = nt → (∀ p ∈ ps, p < nt) → ps.mapM (vm.idxOf? ·) = some is → xs.length = y.length → y.length = ps.length →
    (∀ (i : Nat) (x : Value) (t : T), xs[i]? = some x → y[i]? = some t → Rep S w β φ x t) → (∀ (i s : Nat) (u : T), vm[i]? = some s → vars[i]? = some u → Rep S w β φ (tmps.getD s undef) u) →
    (setVars is y vars).length = vars.length ∧ ((ps.zip xs).foldl (fun t (p, v) => t.setIfInBounds p v) tmps).size = nt ∧
      ∀ (i s : Nat) (u : T), vm[i]? = some s → (setVars is y vars)[i]? = some u → Rep S w β φ (((ps.zip xs).foldl (fun t (p, v) => t.setIfInBounds p v) tmps).getD s undef) u
  | [], is, xs, y, tmps, vars, hsz, _, his, _, hy, _, hv => by
    simp only [List.mapM_nil, Option.pure_def, Option.some.injEq] at his
    subst his
    have : setVars [] y vars = vars := by cases y <;> rfl
    rw [this]
    exact ⟨rfl, by simpa using hsz, by simpa using hv⟩
  | p :: ps, is, xs, y, tmps, vars, hsz, hlt, his, hx, hy, hr, hv => by
    simp only [List.mapM_cons, Option.bind_eq_bind, Option.pure_def] at his
    obtain ⟨i0, hi0, his⟩ := Option.bind_eq_some_iff.1 his
    obtain ⟨is', his', his⟩ := Option.bind_eq_some_iff.1 his
    simp only [Option.some.injEq] at his
    subst his
    cases y with
    | nil => simp at hy
    | cons t y =>
    cases xs with
    | nil => simp at hx
    | cons x xs =>
      simp only [setVars, List.zip_cons_cons, List.foldl_cons]
      have hi : vm[i0]? = some p := idxOf?_spec hi0
      have hp := hlt p (by simp)
      have key : ∀ (i s : Nat) (u : T), vm[i]? = some s → (vars.set i0 t)[i]? = some u → Rep S w β φ ((tmps.setIfInBounds p x).getD s undef) u := fun i s u hs hu => by
        rw [List.getElem?_set] at hu
        split at hu
        · rename_i he
          subst he
          rw [hi] at hs
          simp only [Option.some.injEq] at hs
          subst hs
          split at hu <;> try (cases hu; done)
          simp only [Option.some.injEq] at hu
          subst hu
          rw [getD_set_eq (by omega)]
          exact hr 0 x t rfl rfl
        · rename_i hne
          have hps : p ≠ s := fun e => by
            subst e
            obtain ⟨g1, g2⟩ := List.getElem?_eq_some_iff.1 hi
            obtain ⟨g3, g4⟩ := List.getElem?_eq_some_iff.1 hs
            exact hne ((List.getElem_inj hvm).1 (g2.trans g4.symm))
          rw [getD_set_ne hps]
          exact hv i s u hs hu
      obtain ⟨h1, h2, h3⟩ := setVars_rel hvm ps is' xs y (tmps.setIfInBounds p x) (vars.set i0 t) (by simpa using hsz) (fun q hq => hlt q (by simp [hq])) his' (by simpa using hx) (by simpa using hy)
        (fun i x t hx ht => hr (i + 1) x t (by simpa using hx) (by simpa using ht)) key
      exact ⟨by rw [h1]; simp, h2, h3⟩
end
end Go.Vi
end
section
/-
  A VERIFIED INTERPRETER (part 16): code, functions, the program.
-/
set_option linter.unusedSimpArgs false
set_option linter.unusedVariables false
namespace Go.Vi
open Go Go.RowKit

section
variable {P : Program} {W : Base} {w : World} {S0 S : Nat → Nat → Prop} {β : BMap} {φ : FMap} {a : Act} {o : Oper} {σ : St} {nt : Nat} {vm bm : List Nat}

/-- A later beginning of the same run. -/
structure Ext (S0 : Nat → Nat → Prop) (W W2 : Base) : Prop where
  X : ∀ b, W.X b → W2.X b
  bel : Bel W W2.w
  nb : W2.nb = W.nb
  β0 : W2.β0 = W.β0
  m0 : W2.m0 = W.m0
  stay : ∀ b o, S0 b o → ∀ sp v, W.w.cell? ⟨b, o, sp⟩ = some v → W2.w.cell? ⟨b, o, sp⟩ = some v

theorem Ext.refl {S0 : Nat → Nat → Prop} {W : Base} (h : ∀ k, W.X k → k < W.w.heap.size) : Ext S0 W W :=
  ⟨fun _ h => h, ⟨rfl, rfl, rfl, Nat.le_refl _, h, fun _ _ => rfl, Grows.refl _⟩, rfl, rfl, rfl, fun _ _ _ _ _ h => h⟩

theorem Ext.trans {S0 : Nat → Nat → Prop} {W W2 W3 : Base} (h : Ext S0 W W2) (k : Ext S0 W2 W3) : Ext S0 W W3 :=
  ⟨fun b hb => k.X b (h.X b hb), ⟨k.bel.os.trans h.bel.os, k.bel.tape.trans h.bel.tape, k.bel.output.trans h.bel.output, Nat.le_trans h.bel.size k.bel.size, h.bel.lt, fun b hb => (k.bel.block b (h.X b hb)).trans (h.bel.block b hb), h.bel.room.trans k.bel.room⟩,
    k.nb.trans h.nb, k.β0.trans h.β0, k.m0.trans h.m0, fun b o h0 sp v hv => k.stay b o h0 sp v (h.stay b o h0 sp v hv)⟩

/-- Between regions. -/
def CRel (P : Program) (W : Base) (S0 : Nat → Nat → Prop) (nt : Nat) (vm : List Nat) (σ : St) (a : Act) (w : World) : Prop := ∃ W2 S β φ, Ext S0 W W2 ∧ RegRel P W2 S0 S β φ nt vm [] σ a w

/-- Regions whose order is drawn. -/
def DrawSound (P : Program) (drawOk : List Nat → Array Oper → List (Option (Nat × Bool) × IOp) → Bool) : Prop :=
  ∀ (C : FuncId → List T → Option T) (io : FuncId → Nat) (W : Base) (w : World) (S0 S : Nat → Nat → Prop) (β : BMap) (φ : FMap) (nt : Nat) (vm bm : List Nat) (id : Nat) (ops : Array Oper) (il : List (Option (Nat × Bool) × IOp)) (σ σ' : St) (a : Act) (Q : Exit → Act → World → Prop) (rn : Option Nat) (n : Nat),
    (∀ f args r, C f args = some r → Sound P f args r) → 2 * bm.length ≤ W.nb → drawOk vm ops il = true → RegRel P W S0 S β φ nt vm [] σ a w → lowOps P io nt vm bm [] ops.toList = some il → runOps C σ il = some σ' →
    (∀ S' β' φ' a' w', RegRel P W S0 S' β' φ' nt vm (ops.toList.map (·.dst)) σ' a' w' → a'.defers = a.defers → Q .normal a' w') → (Code.region id ops true).wpIn (wd rn) n P Q a w

theorem drawSound_none : DrawSound P fun _ _ _ => false := by
  intro C io W w S0 S β φ nt vm bm id ops il σ σ' a Q rn n _ _ h
  cases h

/-- The end of a region. -/
theorem RegRel.fin {dsts : List (Option Nat)} (h : RegRel P W S0 S β φ nt vm dsts σ a w) : RegRel P W S0 S β φ nt vm [] ⟨[], outsOf σ.rs σ.vars (vm.map (lastIdx dsts)), σ.boxes⟩ a w := by
  refine ⟨h.inv, h.nd, h.size, by simp [outsOf, h.vlen], rfl, fun i s u hi _ hu => ?_, fun j s u hj => by simp at hj, fun j j' s hj => by simp at hj⟩
  simp only [outsOf, List.getElem?_zipWith] at hu
  simp only [List.getElem?_map, hi, Option.map_some] at hu
  cases hv : σ.vars[i]? with
  | none => rw [hv] at hu; simp at hu
  | some v =>
    rw [hv] at hu
    simp only [Option.some.injEq] at hu
    cases hl : lastIdx dsts s with
    | none =>
      rw [hl] at hu
      simp only at hu
      subst hu
      exact h.vars i s v hi (lastIdx_none hl) hv
    | some j =>
      rw [hl] at hu
      simp only at hu
      subst hu
      have hj := lastIdx_some hl
      have hlt : j < σ.rs.length := by rw [h.rlen]; exact (List.getElem?_eq_some_iff.1 hj).1
      exact h.regs j s _ hj (by simp [List.getD_eq_getElem?_getD, hlt])

theorem kill_rel : ∀ (vs : List Nat) (vars : List T), RegRel P W S0 S β φ nt vm [] { σ with vars := vars } a w → RegRel P W S0 S β φ nt vm [] { σ with vars := killVars vs vars } a w
  | [], vars, h => h
  | v :: vs, vars, h => by
    refine kill_rel vs (vars.set v .undef) ⟨h.inv, h.nd, h.size, by simpa using h.vlen, h.rlen, fun i s u hi hn hu => ?_, h.regs, h.dist⟩
    simp only [List.getElem?_set] at hu
    split at hu
    · split at hu
      · simp only [Option.some.injEq] at hu; subst hu; exact .undef ..
      · cases hu
    · exact h.vars i s u hi hn hu

theorem free_rel : ∀ (ss : List Nat) {σ σ' : St} {β : BMap}, RegRel P W S0 S β φ nt vm [] σ a w → freeBoxes ss σ = some σ' → ∃ β', RegRel P W S0 S β' φ nt vm [] σ' a w
  | [], σ, σ', β, h, hf => by
    simp only [freeBoxes, Option.some.injEq] at hf
    subst hf
    exact ⟨β, h⟩
  | s :: ss, σ, σ', β, h, hf => by
    simp only [freeBoxes] at hf
    split at hf <;> try (cases hf; done)
    rename_i hn
    simp only [St.noRef, Bool.and_eq_true, noRefL_all, List.all_eq_true] at hn
    obtain ⟨⟨_, hnv⟩, hnb⟩ := hn
    let β' : BMap := fun k => if k = s then none else β k
    have hβ : ∀ s' b, s' ≠ s → β s' = some b → β' s' = some b := fun s' b hne hb => by simp [β', hne, hb]
    have hβ' : ∀ s' b, β' s' = some b → s' ≠ s ∧ β s' = some b := fun s' b hb => by
      simp only [β'] at hb
      split at hb
      · cases hb
      · rename_i hne; exact ⟨hne, hb⟩
    refine free_rel ss (β := β') (σ := { σ with boxes := σ.boxes.set s none }) ⟨⟨h.inv.below, h.inv.lt, fun s' b hb => ?_, fun s' cs hs => ?_, fun s1 s2 b h1 h2 => h.inv.inj s1 s2 b (hβ' _ _ h1).2 (hβ' _ _ h2).2, fun k x e hk => ?_, h.inv.famInj, h.inv.top, h.inv.base, h.inv.stay, fun s' b hn' h0 => ?_⟩, h.nd, h.size, h.vlen, h.rlen, fun i s' u hi hn' hu => ?_, fun j s' u hj => by simp at hj, h.dist⟩ hf
    · obtain ⟨hne, hb⟩ := hβ' _ _ hb
      obtain ⟨h1, h2, cs, h3, h4⟩ := h.inv.box s' b hb
      have hcs := hnb _ (List.mem_of_getElem? h3)
      simp only [List.all_eq_true, noRefL_all] at hcs
      refine ⟨h1, h2, cs, by simp only [List.getElem?_set, if_neg (fun h => hne h.symm : ¬ s = s')]; exact h3, ?_⟩
      refine ⟨fun hp => ?_, fun hp => ?_⟩
      · obtain ⟨c, e, g1, g2, g3, g4⟩ := h4.1 hp
        exact ⟨c, e, g1, g2, g3, fun i x t hx ht => (g4 i x t hx ht).noRef (hcs t (List.mem_of_getElem? ht)) hβ⟩
      · obtain ⟨es, ck, g1, g2⟩ := h4.2 hp
        refine ⟨es, ck, g1, ?_⟩
        have : ∀ {es : List MapEntry} {ts : List T}, EntriesAt S w β φ es ts → (∀ t ∈ ts, t.noRef s = true) → EntriesAt S w β' φ es ts := fun h => by
          induction h with
          | nil => exact fun _ => .nil
          | cons e es k v ts hk hv h ih =>
            intro hall
            exact .cons _ _ _ _ _ (hk.noRef (hall k (by simp)) hβ) (hv.noRef (hall v (by simp)) hβ) (ih fun t ht => hall t (by simp [ht]))
        exact ⟨this g2.1 hcs, g2.2⟩
    · simp only [List.getElem?_set] at hs
      split at hs
      · split at hs <;> cases hs
      · rename_i hne
        exact (h.inv.boxed s' cs hs).imp id fun ⟨b, hb⟩ => ⟨b, hβ _ _ (fun h => hne h.symm) hb⟩
    · obtain ⟨g, n, c, sz, xs, i, h1, h2, h3, h4, h5, h6, h7⟩ := h.inv.fam k x e hk
      exact ⟨g, n, c, sz, xs, i, h1, h2, h3, h4, h5, fun s' hs' => h6 s' (hβ' _ _ hs').2, h7⟩
    · by_cases hne : s' = s
      · subst hne
        rcases h.inv.pin s' b hn' h0 with hb | hb
        · obtain ⟨_, _, cs, h3, _⟩ := h.inv.box s' b hb
          have := (List.getElem?_eq_some_iff.1 h3).1
          exact .inr (by simp [this])
        · have := (List.getElem?_eq_some_iff.1 hb).1
          exact .inr (by simp [this])
      · rcases h.inv.pin s' b hn' h0 with hb | hb
        · exact .inl (hβ _ _ hne hb)
        · exact .inr (by simp only [List.getElem?_set, if_neg (fun h => hne h.symm : ¬ s = s')]; exact hb)
    · exact (h.vars i s' u hi hn' hu).noRef (hnv u (List.mem_of_getElem? hu)) hβ

/-- An exit, or a jump. -/
def exitOf (j : Nat) : Exit := if j < gotoBase then .exit j else .goto (j - gotoBase)

/-- What is asked of the code's end. -/
def OutOk (P : Program) (W : Base) (S0 : Nat → Nat → Prop) (nt : Nat) (vm : List Nat) (Q : Exit → Act → World → Prop) : Out → Prop
  | .norm σ => ∀ a w, CRel P W S0 nt vm σ a w → Q .normal a w
  | .exit id σ => ∀ a w, CRel P W S0 nt vm σ a w → Q (exitOf id) a w
  | .ret σ => ∀ a w, CRel P W S0 nt vm σ a w → Q .ret a w

theorem OutOk.mono {Q Q' : Exit → Act → World → Prop} {o : Out} (h : OutOk P W S0 nt vm Q o) (hq : ∀ e a w, Q e a w → Q' e a w) : OutOk P W S0 nt vm Q' o := by
  cases o with
  | norm σ => exact fun a w hc => hq _ _ _ (h a w hc)
  | exit id σ => exact fun a w hc => hq _ _ _ (h a w hc)
  | ret σ => exact fun a w hc => hq _ _ _ (h a w hc)

theorem CRel.kill {vs : List Nat} (h : CRel P W S0 nt vm σ a w) : CRel P W S0 nt vm { σ with vars := killVars vs σ.vars } a w := by
  obtain ⟨W2, S, β, φ, h1, h2⟩ := h
  exact ⟨W2, S, β, φ, h1, kill_rel vs σ.vars h2⟩

theorem CRel.free {ss : List Nat} {σ' : St} (h : CRel P W S0 nt vm σ a w) (hf : freeBoxes ss σ = some σ') : CRel P W S0 nt vm σ' a w := by
  obtain ⟨W2, S, β, φ, h1, h2⟩ := h
  obtain ⟨β', h3⟩ := free_rel ss h2 hf
  exact ⟨W2, S, β', φ, h1, h3⟩

theorem exec_headed {C : FuncId → List T → Option T} {N : Nat} {kv kb : List Nat} {ia : IC} {σ : St} : exec C N (.seq (.kill kv) (.seq (.free kb) ia)) σ = (freeBoxes kb { σ with vars := killVars kv σ.vars }).bind fun σ1 => exec C N ia σ1 := by
  simp only [exec]
  cases freeBoxes kb { σ with vars := killVars kv σ.vars } <;> rfl

theorem Inv.unext {W2 : Base} {bx : List (Option (List T))} (h : Inv P W2 S0 S β φ bx w) (hE : Ext S0 W W2) : Inv P W S0 S β φ bx w := by
  refine ⟨⟨h.below.os.trans hE.bel.os, h.below.tape.trans hE.bel.tape, h.below.output.trans hE.bel.output, Nat.le_trans hE.bel.size h.below.size, hE.bel.lt, fun k hk => (h.below.block k (hE.X k hk)).trans (hE.bel.block k hk), hE.bel.room.trans h.below.room⟩, h.lt,
    fun s b hb => ?_, h.boxed, h.inj, fun k x e hk => ?_, h.famInj, fun b o hs => (h.top b o hs).imp id fun hn hx => hn (hE.X b hx), h.base, fun b o h0 sp v hv => h.stay b o h0 sp v (hE.stay b o h0 sp v hv), fun s b hn h0 => ?_⟩
  · obtain ⟨h1, h2, h3⟩ := h.box s b hb
    exact ⟨fun hx => h1 (hE.X b hx), h2, h3⟩
  · obtain ⟨g, n, c, sz, xs, i, h1, h2, h3, h4, h5, h6, h7⟩ := h.fam k x e hk
    exact ⟨g, n, c, sz, xs, i, h1, h2, h3, h4, h5, h6, fun hx => h7 (hE.X g hx)⟩
  · exact h.pin s b (by rw [hE.nb]; exact hn) (by rw [hE.β0]; exact h0)

end
end Go.Vi
end
section
/-
  A VERIFIED INTERPRETER (part 16b): ranges over functions; the code of functions.
-/
set_option linter.unusedSimpArgs false
set_option linter.unusedVariables false
namespace Go.Vi
open Go Go.RowKit

section
variable {P : Program} {W : Base} {w : World} {S0 S : Nat → Nat → Prop} {β : BMap} {φ : FMap} {a : Act} {σ : St} {nt : Nat} {vm bm : List Nat}

theorem roundsN_spec {run : St → Option Out} {K : Nat} {is : List Nat} : ∀ (ys : List (List T)) (vars : List T) (bx : List (Option (List T))) (σe : St), roundsN run K is (ys.map T.tup) vars bx = some σe →
    ∃ (V : Nat → List T) (B : Nat → List (Option (List T))), V 0 = vars ∧ B 0 = bx ∧ σe = ⟨[], V ys.length, B ys.length⟩ ∧ ∀ k y, ys[k]? = some y → y.length = is.length ∧
      ∃ σ', run ⟨[], setVars is y (remapL (fun s => some (s + K)) (fun _ => none) (V k)), shiftB K (B k)⟩ = some (.norm σ') ∧ B (k + 1) = unshiftB K σ'.boxes ∧ V (k + 1) = liveV (unshiftB K σ'.boxes) (V k)
  | [], vars, bx, σe, h => by
    simp only [List.map_nil, roundsN, Option.some.injEq] at h
    exact ⟨fun _ => vars, fun _ => bx, rfl, rfl, h.symm, fun k y hy => by simp at hy⟩
  | y :: ys, vars, bx, σe, h => by
    simp only [List.map_cons, roundsN] at h
    split at h <;> try (cases h; done)
    rename_i hl
    split at h <;> try (cases h; done)
    rename_i σ' hrun
    obtain ⟨V, B, h1, h2, h3, h4⟩ := roundsN_spec ys _ _ σe h
    refine ⟨fun k => match k with | 0 => vars | k + 1 => V k, fun k => match k with | 0 => bx | k + 1 => B k, rfl, rfl, h3, fun k z hz => ?_⟩
    cases k with
    | zero =>
      simp only [List.getElem?_cons_zero, Option.some.injEq] at hz
      subst hz
      exact ⟨hl, σ', hrun, h2, h1⟩
    | succ k =>
      simp only [List.getElem?_cons_succ] at hz
      exact h4 k z hz

theorem calleeOf_rep {x : Value} {u : T} {f : FuncId} {first cap : List T} (hx : Rep S w β φ x u) (hg : calleeOf u = some (f, first, cap)) :
    ∃ xs ys : Array Value, x = .func (.func f) xs ys ∧ xs.size = first.length ∧ ys.size = cap.length ∧ ∀ (i : Nat) (y : Value) (t : T), ys[i]? = some y → cap[i]? = some t → Rep S w β φ y t := by
  unfold calleeOf at hg
  split at hg
  · rename_i f' a b
    split at hg <;> try (cases hg; done)
    rename_i hab
    simp only [Option.some.injEq, Prod.mk.injEq] at hg
    obtain ⟨rfl, rfl, rfl⟩ := hg
    have := rep_v hx
    subst this
    exact ⟨a, b, rfl, by simpa using hab.1, by simpa using hab.2, fun i y t _ ht => by simp at ht⟩
  · simp only [Option.some.injEq, Prod.mk.injEq] at hg
    obtain ⟨rfl, rfl, rfl⟩ := hg
    cases hx with
    | clo _ _ _ xs ys _ _ hx hy _ k => exact ⟨xs, ys, rfl, hx, hy, k⟩
  · cases hg

theorem keepβ_some {ss : List Nat} {β : BMap} {s b : Nat} (hb : keepβ ss β s = some b) : ss.contains s = true ∧ β s = some b := by
  unfold keepβ at hb
  split at hb
  · rename_i hs; exact ⟨hs, hb⟩
  · cases hb

/-- What holds no memory holds in any. -/
theorem scal_repW {SL SR : Nat → Nat → Prop} {W : World} {β β' : BMap} {φ φ' : FMap} {x : Value} {t : T} (h : Rep SL W β φ x t) (ht : scal t = true) : Rep SR W β' φ' x t := by
  cases t <;> simp only [scal] at ht <;> try (cases ht; done)
  · cases h; exact .v ..
  · rename_i ts
    cases h with
    | agg _ _ xs _ hl h1 h =>
    refine .agg _ _ _ _ hl h1 fun i y u hy hu => ?_
    have := List.all_eq_true.1 ht u (List.mem_of_getElem? hu)
    have h2 := h i y u hy hu
    cases u <;> simp only [T.isV] at this <;> try (cases this; done)
    cases h2; exact .v ..

theorem scalY_all {ys : List (List T)} (h : scalY (ys.map T.tup) = true) : ∀ y ∈ ys, ∀ t ∈ y, scal t = true := fun y hy t ht => by
  unfold scalY at h
  rw [List.all_map, List.all_eq_true] at h
  have := h y hy
  simp only [Function.comp] at this
  exact List.all_eq_true.1 this t ht

set_option maxHeartbeats 1000000 in
/-- A range over a function. -/
theorem range_sound {C : FuncId → List T → Option T} (hC : ∀ f args r, C f args = some r → Sound P f args r) {N n : Nat} {g : Operand} {d : Opd} {ps : Array Tmp} {is : List Nat} {ca cb : Code} {ia ib : IC} {out : Out} {Q : Exit → Act → World → Prop}
    (hvm : vm.Nodup) (hps : ps.toList.all (· < nt) = true) (hd : lowOpd vm [] g = some d) (his : ps.toList.mapM (vm.idxOf? ·) = some is)
    (iha : ∀ {W : Base} {S0 : Nat → Nat → Prop} {rn : Option Nat} {n : Nat} {σ : St} {out : Out} {a : Act} {w : World} {Q : Exit → Act → World → Prop}, 2 * bm.length ≤ W.nb → W.m0 ≤ W.w.heap.size → exec C N ia σ = some out → CRel P W S0 nt vm σ a w → OutOk P W S0 nt vm Q out → ca.wpIn (wd rn) n P Q a w)
    (ihb : ∀ {W : Base} {S0 : Nat → Nat → Prop} {rn : Option Nat} {n : Nat} {σ : St} {out : Out} {a : Act} {w : World} {Q : Exit → Act → World → Prop}, 2 * bm.length ≤ W.nb → W.m0 ≤ W.w.heap.size → exec C N ib σ = some out → CRel P W S0 nt vm σ a w → OutOk P W S0 nt vm Q out → cb.wpIn (wd rn) n P Q a w)
    (hm0 : W.m0 ≤ W.w.heap.size) (he : exec C N (.range (2 * bm.length) d is ia ib) σ = some out) (hc : CRel P W S0 nt vm σ a w) (hQ : OutOk P W S0 nt vm Q out) :
    (Code.rangeFunc g ps ca cb).wpIn (wd none) n P Q a w := by
  generalize hK : 2 * bm.length = K at he iha ihb
  have hK2 : K % 2 = 0 := by omega
  simp only [exec] at he
  split at he <;> try (cases he; done)
  rename_i f caps hcal
  generalize reach σ.boxes 10000 [] (refsL caps) = ss at he
  obtain ⟨cs, hcs, he⟩ := Option.bind_eq_some_iff.1 he
  split at he <;> try (cases he; done)
  rename_i ys0 hCr
  obtain ⟨σe, hre, rfl⟩ := Option.map_eq_some_iff.1 he
  have hSq := hC _ _ _ hCr
  unfold Sound at hSq
  rw [if_neg (Nat.not_lt.2 (Nat.le_add_right _ _))] at hSq
  obtain ⟨cs', ys, e1, e2, hseq⟩ := hSq.resolve_left fun ⟨_, _, _, _, e1, _⟩ => by simp at e1
  simp only [List.cons.injEq, T.tup.injEq, and_true] at e1 e2
  subst e1 e2
  rw [Nat.add_sub_cancel_left] at hseq
  obtain ⟨V, B, hV0, hB0, rfl, hspec⟩ := roundsN_spec ys _ _ _ hre
  obtain ⟨W2, S, β, φ, hE, hR⟩ := hc
  obtain ⟨xs0, lb, hge, hxs0, hlb, hcap⟩ := calleeOf_rep (hR.opd g d hd) hcal
  have hxs0 : xs0 = #[] := by simpa using hxs0
  subst hxs0
  obtain ⟨SR, Lb, hSR, hSRw, hLb, hLbS, hcov, hscal, hgive⟩ : ∃ (SR : Nat → Nat → Prop) (Lb : Nat → Prop), (∀ b o, S b o → SR b o) ∧ (∀ b o, SR b o → withBoxes S (keepβ ss β) b o) ∧ (∀ b, Lb b → ∃ s, keepβ ss β s = some b ∧ β s = some b) ∧ (∀ b, Lb b → ∀ o, ¬ SR b o) ∧
      (∀ b o, withBoxes S (keepβ ss β) b o → SR b o ∨ Lb b) ∧ (∀ y ∈ ys, ∀ t ∈ y, ∀ W x, Rep (withBoxes S (keepβ ss β)) W noB noF x t → Rep SR W noB noF x t) ∧ (scalY (ys.map T.tup) = true → ∀ s b, keepβ ss β s = some b → Lb b) := by
    by_cases hs : scalY (ys.map T.tup) = true
    · exact ⟨S, fun b => ∃ s, keepβ ss β s = some b ∧ β s = some b, fun _ _ h => h, fun _ _ h => .inl h, fun _ h => h, fun b ⟨s, _, hb⟩ o => (hR.inv.box s b hb).2.1 o, fun b o h => h.imp id fun ⟨s, h⟩ => ⟨s, h, (keepβ_some h).2⟩,
        fun y hy t ht W x hx => scal_repW hx (scalY_all hs y hy t ht), fun _ s b h => ⟨s, h, (keepβ_some h).2⟩⟩
    · exact ⟨withBoxes S (keepβ ss β), fun _ => False, fun _ _ h => .inl h, fun _ _ h => h, fun _ h => h.elim, fun _ h => h.elim, fun _ _ h => .inl h, fun _ _ _ _ _ _ h => h, fun h => absurd h hs⟩
  obtain ⟨hclose, hI0, hout, hSL⟩ := hR.inv.lend ss hSR hSRw
  have hLbox : ∀ b, Lb b → b < w.heap.size ∧ ¬ W2.X b ∧ (∀ s, lendβ ss β s ≠ some b) ∧ ∀ k x e, φ k = some (x, e) → x.ownBlock ≠ some b := fun b hb => by
    obtain ⟨s, h1, h2⟩ := hLb b hb
    refine ⟨hR.inv.boxLt h2, (hR.inv.box s b h2).1, fun s' h3 => ?_, fun k x e hk he => ?_⟩
    · unfold lendβ at h3
      split at h3 <;> try (cases h3; done)
      rename_i hs
      have := hR.inv.inj s s' b h2 h3
      subst this
      exact hs (keepβ_some h1).1
    · obtain ⟨g, n, c, sz, xs, i, rfl, _, _, _, _, h6, _⟩ := hR.inv.fam k x e hk
      simp only [Value.ownBlock, Option.some.injEq] at he
      subst he
      exact h6 s h2
  generalize hSLdef : withBoxes S (keepβ ss β) = SL at hclose hSL hcov hscal hSRw
  generalize lendβ ss β = βo at hI0 hout hLbox
  have hSRlt : ∀ b o, SR b o → b < w.heap.size := hI0.lt
  have hSLlt : ∀ b o, SL b o → b < w.heap.size := fun b o h => (hcov b o h).elim (hSRlt b o) fun h => (hLbox b h).1
  have hSLtop : ∀ b o, SR b o → S0 b o ∨ ¬ W2.X b := hI0.top
  have hWX : ∀ b, W2.X b → b < w.heap.size := fun b hb => Nat.lt_of_lt_of_le (hR.inv.below.lt b hb) hR.inv.below.size
  obtain ⟨hcl, _⟩ := mapM_spec hcs
  let Xk : (Nat → Prop) → Nat → Prop := fun own b => W2.X b ∨ b = w.heap.size ∨ b = w.heap.size + 1 ∨ own b ∨ Lb b
  let I : Nat → (Nat → Prop) → World → Prop := fun k own Wk => Bel W2 Wk ∧ w.heap.size + 2 ≤ Wk.heap.size ∧ (∀ b o, SL b o → ∀ sp v, w.cell? ⟨b, o, sp⟩ = some v → Wk.cell? ⟨b, o, sp⟩ = some v) ∧ (∀ b, Lb b → Wk.heap[b]? = w.heap[b]?) ∧ Grows w Wk ∧
    ∃ S' β' φ', Inv P ⟨Wk, Xk own, 0, noB, 0⟩ SR S' β' φ' (B k) Wk ∧ (∀ s b, W2.nb ≤ s → W2.β0 s = some b → β' s = some b ∨ (B k)[s]? = some none) ∧
      (∀ (i s : Nat) (u : T), vm[i]? = some s → (V k)[i]? = some u → Rep S' Wk β' noF (a.tmps.getD s undef) u) ∧ (V k).length = vm.length
  refine range_law (S := SL) hge hseq hSLlt (by rw [hlb]; rw [remapL_map, List.length_map] at hcl; exact hcl) (fun i x t hx ht => ?_) (fun y hy => ?_) I (fun o => ?_) (fun k own own' Wk Wk' hIk hbo hsz hst => ?_) (fun k y own Wk xs m hy hIk hbo hl hD hxs hrep => ?_) (fun own Wk o hIk hbo hl hD => ?_)
  · obtain ⟨q, hq, hcq⟩ := mapM_map hcs i t ht
    rw [remapL_map, List.getElem?_map] at hq
    obtain ⟨t0, ht0, rfl⟩ := Option.map_eq_some_iff.1 hq
    exact hclose 8 x t0 t (hcap i x t0 hx ht0) hcq
  · obtain ⟨k, hk⟩ := List.mem_iff_getElem?.1 hy
    obtain ⟨h1, _⟩ := hspec k y hk
    rw [h1]
    obtain ⟨h2, _⟩ := mapM_spec his
    simpa using h2.symm
  · -- the beginning
    have hb1 : Below w.heap.size w ((w.alloc (.deferred (some []))).alloc (.loop o)) := ((Below.refl _ w).alloc (Nat.le_refl _) _).alloc (by simp) _
    have hsz : ((w.alloc (.deferred (some []))).alloc (.loop o)).heap.size = w.heap.size + 2 := by simp
    obtain ⟨J, hm, hcell⟩ := hI0.rebaseL (w' := (w.alloc (.deferred (some []))).alloc (.loop o)) (X' := Xk fun _ => False) (S0' := SR) (nb := 0) (m0 := 0) (β0 := noB) (fun _ => False) (by omega) (fun b hb _ => hb1.block b hb) (fun b hb => hb.elim)
      (fun b o hs sp v hv => (hb1.cell (p := ⟨b, o, sp⟩) (hSRlt b o hs)).trans hv)
      (fun b hb => by rcases hb with h | h | h | h | h
                      · exact .inl h
                      · exact .inr (.inl (by omega))
                      · exact .inr (.inl (by omega))
                      · exact h.elim
                      · exact .inr (.inr (hLbox b h).2.2))
      (fun b hb => by rcases hb with h | h | h | h | h
                      · have := hWX b h; omega
                      · omega
                      · omega
                      · exact h.elim
                      · have := (hLbox b h).1; omega)
      (fun _ _ h => h) (fun _ _ h => .inl h) (fun s b _ h => by simp [noB] at h) (grows_of_block hb1.block)
    rw [← hB0] at J
    refine ⟨(hI0.grow hb1).below, by omega, fun b o hs sp v hv => (hb1.cell (p := ⟨b, o, sp⟩) (hSLlt b o hs)).trans hv, fun b hb => hb1.block b (hLbox b hb).1, grows_of_block hb1.block, SR, βo, φ, J, fun s b hn h0 => ?_, fun i s u hi hu => ?_, ?_⟩
    · rw [hB0]; exact hI0.pin s b hn h0
    · rw [hV0, remapL_map, List.getElem?_map] at hu
      obtain ⟨u0, hu0, rfl⟩ := Option.map_eq_some_iff.1 hu
      exact hm _ _ _ (hout _ _ (hR.vars i s u0 hi (by simp) hu0))
    · rw [hV0, remapL_map, List.length_map]; exact hR.vlen
  · -- between rounds
    obtain ⟨hB, hsz0, hcell, hLw, hGw, S', β', φ', J, hpin, hV, hVl⟩ := hIk
    have hown : ∀ b o, own b → ¬ S' b o := fun b o hb hs => by
      rcases J.top b o hs with h | h
      · have h1 := hSRlt b o h; have h2 := (hbo b hb).1; omega
      · exact h (.inr (.inr (.inr (.inl hb))))
    have hblkL : ∀ b, Lb b → Wk'.heap[b]? = Wk.heap[b]? := fun b hb => hst.block b (by have := (hLbox b hb).1; omega) fun ho => by have h1 := (hLbox b hb).1; have h2 := (hbo b ho).1; omega
    obtain ⟨J', hm, hcell'⟩ := J.rebase (w' := Wk') (X' := Xk own') (S0' := SR) (nb := 0) (m0 := 0) (β0 := noB) own hst.size (fun b hb hn => hst.block b hb hn) (fun b hb => ⟨.inr (.inr (.inr (.inl hb))), fun o => hown b o hb⟩)
      (fun b hb => by rcases hb with h | h | h | h | h
                      · exact .inl (.inl h)
                      · exact .inl (.inr (.inl h))
                      · exact .inl (.inr (.inr (.inl h)))
                      · rcases hst.new b h with h' | h'
                        · exact .inl (.inr (.inr (.inr (.inl h'))))
                        · exact .inr h'.1
                      · exact .inl (.inr (.inr (.inr (.inr h)))))
      (fun b hb => by
        have h1 := hst.size
        rcases hb with h | h | h | h | h
        · have := hWX b h; omega
        · omega
        · omega
        · rcases hst.new b h with h' | h'
          · have := (hbo b h').2; omega
          · exact h'.2
        · have := (hLbox b h).1; omega)
      J.base (fun b o hs => (J.top b o hs).imp id fun hn hx => hn (by
        rcases hx with h | h | h | h | h
        · exact .inl h
        · exact .inr (.inl h)
        · exact .inr (.inr (.inl h))
        · rcases hst.new b h with h' | h'
          · exact .inr (.inr (.inr (.inl h')))
          · have := J.lt b o hs; omega
        · exact .inr (.inr (.inr (.inr h))))) (fun s b _ h => by simp [noB] at h) hst.room
    refine ⟨⟨hst.os.trans hB.os, hst.tape.trans hB.tape, hst.output.trans hB.output, Nat.le_trans hB.size hst.size, hB.lt, fun b hb => ?_, hB.room.trans hst.room⟩, Nat.le_trans hsz0 hst.size, fun b o hs sp v hv => ?_, fun b hb => (hblkL b hb).trans (hLw b hb), hGw.trans hst.room, S', β', φ', J', hpin, fun i s u hi hu => hm _ _ _ (hV i s u hi hu), hVl⟩
    · have hlt := hWX b hb
      exact (hst.block b (by omega) fun hb' => by have := (hbo b hb').1; omega).trans (hB.block b hb)
    · rcases hcov b o hs with h | h
      · exact hcell' b o (J.base b o h) sp v (hcell b o hs sp v hv)
      · rw [World.cell?_of_block (w := Wk) (hblkL b h)]
        exact hcell b o hs sp v hv
  · -- a round
    obtain ⟨rl, hl⟩ := hl
    obtain ⟨hB, hsz0, hcell, hLw, hGw, S', β', φ', J, hpin, hV, hVl⟩ := hIk
    obtain ⟨hyl, σ', hrun, hB1, hV1⟩ := hspec k y hy
    split at hrun <;> try (cases hrun; done)
    rename_i σ1 h1
    obtain ⟨hcore, hrel⟩ := J.core.shift hK2
    let Wk1 : Base := ⟨Wk, Xk own, K, fun s => (shiftβ K β' s).or (if K ≤ s ∧ W2.nb ≤ s - K then W2.β0 (s - K) else none), 0⟩
    have hXlt : ∀ b, Xk own b → b < Wk.heap.size := J.below.lt
    have hdead : ∀ s, (B k)[s]? = some none → β' s = none := fun s hs => by
      cases hb : β' s with
      | none => rfl
      | some b =>
        obtain ⟨_, _, cs, h3, _⟩ := J.box s b hb
        rw [hs] at h3; cases h3
    have hI1 : Inv P Wk1 S' S' (shiftβ K β') φ' (shiftB K (B k)) Wk :=
      ⟨⟨rfl, rfl, rfl, Nat.le_refl _, hXlt, fun _ _ => rfl, Grows.refl _⟩, hcore.lt, hcore.box, hcore.boxed, hcore.inj, hcore.fam, hcore.famInj, fun _ _ h => .inl h, fun _ _ h => h, fun _ _ _ _ _ h => h, fun s b hn h0 => by
        simp only [Wk1] at hn h0
        cases hb : shiftβ K β' s with
        | some b' => rw [hb] at h0; exact .inl (by simpa using h0)
        | none =>
          rw [hb] at h0
          simp only [Option.none_or] at h0
          split at h0 <;> try (cases h0; done)
          rename_i hs
          rcases hpin (s - K) b hs.2 h0 with h | h
          · simp only [shiftβ, if_pos hn] at hb
            rw [hb] at h; cases h
          · refine .inr ?_
            rw [shiftB_get, if_pos hn, h]; rfl⟩
    have hrel0 : ∀ x t, Rep S' Wk β' noF x t → Rep S' Wk (shiftβ K β') φ' x (t.remap (fun s => some (s + K)) fun _ => none) := fun x t hx => hx.remap (fun s s' b h1 h2 => by
        simp only [Option.some.injEq] at h1
        subst h1
        simp only [shiftβ, Nat.le_add_left, if_true, Nat.add_sub_cancel]
        exact h2) (fun s s' h1 => by simp only [Option.some.injEq] at h1; omega) (fun k k' p h => by cases h)
    have hisl : is.length = ps.size := by
      obtain ⟨h2, _⟩ := mapM_spec his
      simpa using h2.symm
    have htm := hR.size
    obtain ⟨hvl, htsz, hvars⟩ := setVars_rel (S := S') (w := Wk) (β := shiftβ K β') (φ := φ') hvm ps.toList is xs.toList y a.tmps (remapL (fun s => some (s + K)) (fun _ => none) (V k)) htm
      (fun p hp => by have := List.all_eq_true.1 hps p hp; simpa using this) his (by simpa using hxs) (by rw [hyl, hisl]; simp) (fun i x t hx ht => (hscal y (List.mem_of_getElem? hy) t (List.mem_of_getElem? ht) _ _ (hrep i x t (by simpa using hx) ht)).mono J.base (fun s b h => by simp [noB] at h) (fun k p h => by simp [noF] at h) (fun _ _ _ _ _ h => h) (Grows.refl _))
      (fun i s u hi hu => by
        rw [remapL_map, List.getElem?_map] at hu
        obtain ⟨u0, hu0, rfl⟩ := Option.map_eq_some_iff.1 hu
        exact hrel0 _ _ (hV i s u0 hi hu0))
    have htmps : (ps.zip xs).foldl (fun t (p, v) => t.setIfInBounds p v) a.tmps = (ps.toList.zip xs.toList).foldl (fun t (p, v) => t.setIfInBounds p v) a.tmps := by
      rw [← Array.foldl_toList, Array.toList_zip]
    rw [htmps]
    have hR1 : RegRel P Wk1 S' S' (shiftβ K β') φ' nt vm [] ⟨[], setVars is y (remapL (fun s => some (s + K)) (fun _ => none) (V k)), shiftB K (B k)⟩ { tmps := (ps.toList.zip xs.toList).foldl (fun t (p, v) => t.setIfInBounds p v) a.tmps, defers := [] } Wk :=
      ⟨hI1, ⟨[], by simp, rfl, by simp⟩, htsz, by rw [hvl, remapL_map, List.length_map]; exact hVl, rfl, fun i s u hi _ hu => hvars i s u hi hu, fun j s u hj => by simp at hj, fun j j' s hj => by simp at hj⟩
    have hll : w.heap.size + 1 < Wk.heap.size := (Array.getElem?_eq_some_iff.1 hl).1
    refine iha (W := Wk1) (S0 := S') (by show K ≤ K; exact Nat.le_refl _) (Nat.zero_le _) h1 ⟨Wk1, S', _, _, Ext.refl hXlt, hR1⟩ fun a1 W1 hc1 => ?_
    obtain ⟨W3, S3, β3, φ3, hE3, hR3⟩ := hc1
    have hI3 := hR3.inv.unext hE3
    refine ⟨hI3.below.block _ (.inr (.inr (.inl rfl))), fun o => ?_⟩
    have hl1 : W1.heap[w.heap.size + 1]? = some (.loop rl) := (hI3.below.block _ (.inr (.inr (.inl rfl)))).trans hl
    have hll1 : w.heap.size + 1 < W1.heap.size := (Array.getElem?_eq_some_iff.1 hl1).1
    have hSl : ∀ o, ¬ S' (w.heap.size + 1) o := fun o hs => by
      rcases J.top _ o hs with h | h
      · have := hSRlt _ o h; omega
      · exact h (.inr (.inr (.inl rfl)))
    have hXl : W3.X (w.heap.size + 1) := hE3.X _ (.inr (.inr (.inl rfl)))
    let w2 := W1.putObj (w.heap.size + 1) (.loop o)
    have hw2 : ∀ b, b ≠ w.heap.size + 1 → w2.heap[b]? = W1.heap[b]? := fun b hb => World.putObj_heap_other hb
    obtain ⟨J2, hm2, hcell2⟩ := hR3.inv.rebase (w' := w2) (X' := W3.X) (S0' := S') (nb := W3.nb) (m0 := 0) (β0 := W3.β0) (fun b => b = w.heap.size + 1) (by simp [w2]) (fun b _ hb => hw2 b hb)
      (fun b hb => by subst hb; exact ⟨hXl, fun o' hs => by
                                      rcases hR3.inv.top _ o' hs with h | h
                                      · exact hSl o' h
                                      · exact h hXl⟩)
      (fun b hb => .inl hb) (fun b hb => by have h1 := hR3.inv.below.lt b hb; have h2 := hR3.inv.below.size; simp [w2]; omega) hR3.inv.base hR3.inv.top hR3.inv.pin (grows_putObj _ hl1 rfl)
    let Wb : Base := ⟨w2, W3.X, W3.nb, W3.β0, 0⟩
    have hR2 : RegRel P Wb S' S3 β3 φ3 nt vm [] σ1 a1 w2 := by
      obtain ⟨Ds, g1, g2, g3⟩ := hR3.nd
      refine ⟨J2, ⟨Ds, g1, g2, fun D' hD' => ?_⟩, hR3.size, hR3.vlen, hR3.rlen, fun i s u hi hn hu => hm2 _ _ _ (hR3.vars i s u hi hn hu), fun j s u hj hu => hm2 _ _ _ (hR3.regs j s u hj hu), hR3.dist⟩
      obtain ⟨e1, e2, e3⟩ := g3 D' hD'
      have e4 := (hR3.inv.below.block D' e1).trans e2
      refine ⟨e1, ?_, Nat.zero_le _⟩
      show w2.heap[D']? = _
      rw [hw2 D' fun e => by subst e; rw [hl1] at e4; cases e4]
      exact e4
    refine ihb (W := Wb) (S0 := S') (by show K ≤ W3.nb; rw [hE3.nb]; exact Nat.le_refl _) (Nat.zero_le _) hrun ⟨Wb, S3, β3, φ3, Ext.refl J2.below.lt, hR2⟩ fun a3 W4 hc3 => ?_
    obtain ⟨W5, S5, β5, φ5, hE5, hR5⟩ := hc3
    have hI5 := hR5.inv.unext hE5
    have hX13 : ∀ b, Xk own b → W3.X b := hE3.X
    have hblk : ∀ b, Xk own b → b ≠ w.heap.size + 1 → W4.heap[b]? = Wk.heap[b]? := fun b hb hne => ((hI5.below.block b (hX13 b hb)).trans (hw2 b hne)).trans (hI3.below.block b hb)
    have hl4 : W4.heap[w.heap.size + 1]? = some (.loop o) := (hI5.below.block _ hXl).trans (World.putObj_heap_same hll1)
    have hll4 : w.heap.size + 1 < W4.heap.size := (Array.getElem?_eq_some_iff.1 hl4).1
    refine ⟨rfl, hl4, (hblk _ (.inr (.inl rfl)) (by omega)).trans hD, fun o' => ?_⟩
    let w4 := W4.putObj (w.heap.size + 1) (.loop o')
    have hw4 : ∀ b, b ≠ w.heap.size + 1 → w4.heap[b]? = W4.heap[b]? := fun b hb => World.putObj_heap_other hb
    have hcore5 := hI5.core.unshift hK2
    have hXb : ∀ b, Wb.X b → b < W4.heap.size := fun b hb => Nat.lt_of_lt_of_le (hI5.below.lt b hb) hI5.below.size
    have hI6 : Inv P ⟨W4, Wb.X, 0, noB, 0⟩ S5 S5 (fun s => β5 (s + K)) φ5 (unshiftB K σ'.boxes) W4 := hcore5.inv hXb
    have hSS : ∀ b o, SR b o → S5 b o := fun b o h => hI5.base b o (J.base b o h)
    obtain ⟨J4, hm4, hcell4⟩ := hI6.rebase (w' := w4) (X' := Xk own) (S0' := SR) (nb := 0) (m0 := 0) (β0 := noB) (fun b => b = w.heap.size + 1) (by simp [w4]) (fun b _ hb => hw4 b hb)
      (fun b hb => by subst hb; exact ⟨hXl, fun o'' hs => by
                                      rcases hI5.top _ o'' hs with h | h
                                      · exact hSl o'' h
                                      · exact h hXl⟩)
      (fun b hb => .inl (hX13 b hb)) (fun b hb => by have := hXb b (hX13 b hb); simp [w4]; omega) hSS
      (fun b o hs => by
        rcases hI5.top b o hs with h | h
        · exact J.top b o h
        · exact .inr fun hx => h (hX13 b hx)) (fun s b _ h => by simp [noB] at h) (grows_putObj _ hl4 rfl)
    -- a box that was there
    have hpin5 : ∀ s b, Wk1.β0 (s + K) = some b → β5 (s + K) = some b ∨ (unshiftB K σ'.boxes)[s]? = some none := fun s b h0 => by
      have h0' : Wb.β0 (s + K) = some b := by show W3.β0 (s + K) = some b; rw [hE3.β0]; exact h0
      rcases hI5.pin (s + K) b (by show W3.nb ≤ s + K; rw [hE3.nb]; exact Nat.le_add_left _ _) h0' with h | h
      · exact .inl h
      · refine .inr ?_
        rw [unshiftB_get, h]; rfl
    have hβ0 : ∀ s b, β' s = some b → Wk1.β0 (s + K) = some b := fun s b hb => by
      show (shiftβ K β' (s + K)).or _ = some b
      simp only [shiftβ, Nat.le_add_left, if_true, Nat.add_sub_cancel, hb, Option.some_or]
    have hcellk : ∀ b o, S' b o → ∀ sp v, Wk.cell? ⟨b, o, sp⟩ = some v → w4.cell? ⟨b, o, sp⟩ = some v := fun b o hs sp v hv =>
      hcell4 b o (hI5.base b o hs) sp v (hI5.stay b o hs sp v (hcell2 b o (hR3.inv.base b o hs) sp v (hI3.stay b o hs sp v hv)))
    have hgr4 : Grows Wk w4 := ((hI3.below.room.trans (grows_putObj _ hl1 rfl)).trans hI5.below.room).trans (grows_putObj _ hl4 rfl)
    have hos : w4.os = Wk.os ∧ w4.tape = Wk.tape ∧ w4.output = Wk.output := ⟨(hI5.below.os).trans hI3.below.os, (hI5.below.tape).trans hI3.below.tape, (hI5.below.output).trans hI3.below.output⟩
    have hsz4 : Wk.heap.size ≤ w4.heap.size := by
      have h1 := hI3.below.size
      have h2 := hI5.below.size
      simp only [Wb, w2, Wk1, World.putObj_size] at h1 h2
      simp [w4]; omega
    have hblk4 : ∀ b, Lb b → w4.heap[b]? = Wk.heap[b]? := fun b hb => by
      have h1 := (hLbox b hb).1
      exact (hw4 b (by omega)).trans (hblk b (.inr (.inr (.inr (.inr hb)))) (by omega))
    have hcellL : ∀ b o, SL b o → ∀ sp v, Wk.cell? ⟨b, o, sp⟩ = some v → w4.cell? ⟨b, o, sp⟩ = some v := fun b o hs sp v hv => by
      rcases hcov b o hs with h | h
      · exact hcellk b o (J.base b o h) sp v hv
      · rw [World.cell?_of_block (w := Wk) (hblk4 b h)]
        exact hv
    refine ⟨⟨⟨hos.1.trans hB.os, hos.2.1.trans hB.tape, hos.2.2.trans hB.output, Nat.le_trans hB.size hsz4, hB.lt, fun b hb => ?_, hB.room.trans hgr4⟩, Nat.le_trans hsz0 hsz4, fun b o hs sp v hv => hcellL b o hs sp v (hcell b o hs sp v hv), fun b hb => (hblk4 b hb).trans (hLw b hb), hGw.trans hgr4, S5, fun s => β5 (s + K), φ5, ?_, fun s b hn h0 => ?_, fun i s u hi hu => ?_, ?_⟩, ⟨hos.1, hos.2.1, hos.2.2, hsz4, fun b hb => ?_, hgr4, fun b o hs => hcellL b o hs⟩⟩
    · have hlt := hWX b hb
      exact ((hw4 b (by omega)).trans (hblk b (.inl hb) (by omega))).trans (hB.block b hb)
    · rw [hB1]; exact J4
    · rw [hB1]
      refine hpin5 s b ?_
      rcases hpin s b hn h0 with h | h
      · exact hβ0 s b h
      · show (shiftβ K β' (s + K)).or (if K ≤ s + K ∧ W2.nb ≤ s + K - K then W2.β0 (s + K - K) else none) = some b
        have : shiftβ K β' (s + K) = none := by
          simp only [shiftβ, Nat.le_add_left, if_true, Nat.add_sub_cancel]
          exact hdead s h
        rw [this, Option.none_or, Nat.add_sub_cancel, if_pos ⟨Nat.le_add_left _ _, hn⟩]
        exact h0
    · rw [hV1, liveV, remapL_map, List.getElem?_map] at hu
      obtain ⟨u0, hu0, rfl⟩ := Option.map_eq_some_iff.1 hu
      have h2 := (hV i s u0 hi hu0).mono (S' := S5) (w' := w4) (β' := β') (φ' := noF) (fun b o h => hI5.base b o h) (fun _ _ h => h) (fun _ _ h => h) hcellk hgr4
      refine h2.remap (fun s1 s2 b g1 g2 => ?_) (fun s1 s2 g1 => ?_) (fun k k' p g => by cases g)
      · split at g1 <;> try (cases g1; done)
        rename_i hsm
        simp only [Option.some.injEq] at g1
        subst g1
        rcases hpin5 s1 b (hβ0 s1 b g2) with h | h
        · exact h
        · unfold boxAt at hsm
          rw [h] at hsm
          cases hsm
      · split at g1 <;> try (cases g1; done)
        simp only [Option.some.injEq] at g1
        rw [g1]
    · rw [hV1, liveV, remapL_map, List.length_map]; exact hVl
    · have h3 := (hbo b hb).1
      exact (hw4 b (by omega)).trans (hblk b (.inr (.inr (.inr (.inl hb)))) (by omega))
  · -- the end
    obtain ⟨rl, hl⟩ := hl
    obtain ⟨hB, hsz0, hcell, hLw, hGw, S', β', φ', J, hpin, hV, hVl⟩ := hIk
    have hll : w.heap.size + 1 < Wk.heap.size := (Array.getElem?_eq_some_iff.1 hl).1
    let w' := Wk.putObj (w.heap.size + 1) (.loop o)
    have hw' : ∀ b, b ≠ w.heap.size + 1 → w'.heap[b]? = Wk.heap[b]? := fun b hb => World.putObj_heap_other hb
    have hS0 : ∀ b o, S0 b o → SR b o := fun b o h => hI0.base b o h
    obtain ⟨J', hm, hcell'⟩ := J.rebase (w' := w') (X' := Xk own) (S0' := S0) (nb := W2.nb) (m0 := W2.m0) (β0 := W2.β0) (fun b => b = w.heap.size + 1) (by simp [w']) (fun b _ hb => hw' b hb)
      (fun b hb => by subst hb; exact ⟨.inr (.inr (.inl rfl)), fun o' hs => by
                                      rcases J.top _ o' hs with h | h
                                      · have := hSRlt _ o' h; omega
                                      · exact h (.inr (.inr (.inl rfl)))⟩)
      (fun b hb => .inl hb) (fun b hb => by have := J.below.lt b hb; simpa [w'] using this) (fun b o h => J.base b o (hS0 b o h))
      (fun b o hs => by
        rcases J.top b o hs with h | h
        · rcases hSLtop b o h with h' | h'
          · exact .inl h'
          · refine .inr fun hx => ?_
            have hlt := hSRlt b o h
            rcases hx with hx | hx | hx | hx | hx
            · exact h' hx
            · omega
            · omega
            · have := (hbo b hx).1; omega
            · exact hLbS b hx o h
        · exact .inr h) hpin (grows_putObj _ hl rfl)
    have hcells : ∀ b o, SR b o → ∀ sp v, w.cell? ⟨b, o, sp⟩ = some v → w'.cell? ⟨b, o, sp⟩ = some v := fun b o hs sp v hv => hcell' b o (J.base b o hs) sp v (hcell b o (by
      rw [← hSLdef]; rw [← hSLdef] at hSRw; exact hSRw b o hs) sp v hv)
    have hext : ∀ X'' : Nat → Prop, (∀ b, W2.X b → X'' b) → Ext S0 W ⟨w', X'', W2.nb, W2.β0, W2.m0⟩ := fun X'' hX'' => by
      refine ⟨fun b hb => hX'' b (hE.X b hb), ?_, hE.nb, hE.β0, hE.m0, fun b o h0 sp v hv => hcells b o (hS0 b o h0) sp v (hR.inv.stay b o h0 sp v (hE.stay b o h0 sp v hv))⟩
      refine ⟨hB.os.trans hE.bel.os, hB.tape.trans hE.bel.tape, hB.output.trans hE.bel.output, ?_, hE.bel.lt, fun b hb => ?_, (hE.bel.room.trans hB.room).trans (grows_putObj _ hl rfl)⟩
      · have h1 := hE.bel.size
        have h2 := hB.size
        show _ ≤ w'.heap.size
        simp only [w', World.putObj_size]
        omega
      · have hlt := hWX b (hE.X b hb)
        exact ((hw' b (by omega)).trans (hB.block b (hE.X b hb))).trans (hE.bel.block b hb)
    have hfin : ∀ (X'' : Nat → Prop) (β'' : BMap) (bx'' : List (Option (List T))), (∀ b, W2.X b → X'' b) → X'' w.heap.size → Inv P ⟨w', X'', W2.nb, W2.β0, W2.m0⟩ S0 S' β'' φ' bx'' w' → (∀ x t, Rep S' w' β' noF x t → Rep S' w' β'' noF x t) →
        CRel P W S0 nt vm ⟨[], V ys.length, bx''⟩ { a with defers := markOf w.heap.size :: a.defers } w' := fun X'' β'' bx'' hX'' hXs J'' hm'' => by
      refine ⟨⟨w', X'', W2.nb, W2.β0, W2.m0⟩, S', β'', φ', hext X'' hX'', ?_⟩
      obtain ⟨Ds, g1, g2, g3⟩ := hR.nd
      refine ⟨J'', ⟨w.heap.size :: Ds, List.nodup_cons.2 ⟨fun hm => ?_, g1⟩, by simp [g2], fun D' hD' => ?_⟩, hR.size, hVl, rfl, fun i s u hi _ hu => ?_, fun j s u hj => by simp at hj, fun j j' s hj => by simp at hj⟩
      · have := hWX _ (g3 _ hm).1; omega
      · rcases List.mem_cons.1 hD' with rfl | hD'
        · refine ⟨hXs, (hw' _ (by omega)).trans hD, ?_⟩
          have h1 := hE.bel.size
          have h2 := hR.inv.below.size
          show W2.m0 ≤ _
          rw [hE.m0]
          omega
        · obtain ⟨e1, e2, e3⟩ := g3 D' hD'
          have hlt := hWX _ e1
          exact ⟨hX'' _ e1, ((hw' _ (by omega)).trans (hB.block D' e1)).trans e2, e3⟩
      · exact (hm'' _ _ (hm _ _ _ (hV i s u hi hu))).mono (fun _ _ h => h) (fun _ _ h => h) (fun k p h => by simp [noF] at h) (fun _ _ _ _ _ h => h) (Grows.refl _)
    by_cases hg : (scalY (ys.map T.tup) && ss.all fun s => boxFree (B ys.length) s) = true
    · rw [if_pos hg] at hQ
      obtain ⟨hg1, hg2⟩ := Bool.and_eq_true_iff.1 hg
      have hk := hgive hg1
      have hkl : ∀ s b, keepβ ss β s = some b → w'.heap[b]? = w.heap[b]? := fun s b hb => by
        have h1 := (hLbox b (hk s b hb)).1
        exact (hw' b (by omega)).trans (hLw b (hk s b hb))
      have hSS' : ∀ b o, S b o → S' b o := fun b o h => J.base b o (hSR b o h)
      obtain ⟨β'', J'', hm''⟩ := hR.inv.giveBack ss J' (X' := fun b => W2.X b ∨ b = w.heap.size ∨ b = w.heap.size + 1 ∨ own b) (fun s hs => boxFree_spec (List.all_eq_true.1 hg2 s (List.contains_iff_mem.1 hs))) hSS' (fun b o hs => hcells b o (hSR b o hs))
        (hGw.trans (grows_putObj _ hl rfl)) hkl (fun s b hb => .inr (.inr (.inr (.inr (hk s b hb))))) (fun s b o hb hs => by
          rcases J.top b o hs with h | h
          · exact hLbS b (hk s b hb) o h
          · exact h (.inr (.inr (.inr (.inr (hk s b hb)))))) (fun b hb => by
          rcases hb with h | h | h | h
          · exact .inl h
          · exact .inr (.inl h)
          · exact .inr (.inr (.inl h))
          · exact .inr (.inr (.inr (.inl h)))) (fun s b hb hx => by
          have h0 := hLbox b (hk s b hb)
          rcases hx with h | h | h | h
          · exact h0.2.1 h
          · omega
          · omega
          · have := (hbo b h).1; omega) hR.inv.pin
      exact hQ _ _ (hfin _ _ _ (fun b hb => .inl hb) (.inr (.inl rfl)) J'' fun x t => hm'' x t noF)
    · rw [if_neg hg] at hQ
      exact hQ _ _ (hfin _ _ _ (fun b hb => .inl hb) (.inr (.inl rfl)) J' fun x t h => h)
end
end Go.Vi
end
section
/-
  A VERIFIED INTERPRETER (part 16c): the code of functions.
-/
set_option linter.unusedSimpArgs false
set_option linter.unusedVariables false
namespace Go.Vi
open Go Go.RowKit

section
variable {P : Program} {nt : Nat} {vm bm : List Nat}

theorem exec_sound {C : FuncId → List T → Option T} (hC : ∀ f args r, C f args = some r → Sound P f args r) {io : FuncId → Nat} {drawOk : List Nat → Array Oper → List (Option (Nat × Bool) × IOp) → Bool} (hD : DrawSound P drawOk) (N : Nat) : ∀ (m : Nat) (c : Code) {W : Base} {S0 : Nat → Nat → Prop} {rn : Option Nat} {n : Nat} {h h' : Hints} {ic : IC} {σ : St} {out : Out} {a : Act} {w : World} {Q : Exit → Act → World → Prop},
    2 * bm.length ≤ W.nb → W.m0 ≤ W.w.heap.size → (rn = none ∨ noRange c = true) → lowCode P io nt vm bm drawOk m c h = some (ic, h') → exec C N ic σ = some out → CRel P W S0 nt vm σ a w → OutOk P W S0 nt vm Q out → c.wpIn (wd rn) n P Q a w := by
  intro m
  induction m with
  | zero => intro c W S0 rn n h h' ic σ out a w Q _ _ _ hl; simp [lowCode] at hl
  | succ m ih =>
  intro c W S0 rn n h h' ic σ out a w Q hnb hm0 hrn hl he hc hQ
  cases c with
  | skip =>
    simp only [lowCode, Option.some.injEq, Prod.mk.injEq] at hl
    obtain ⟨rfl, rfl⟩ := hl
    simp only [exec, Option.some.injEq] at he
    subst he
    exact wpIn_skip (hQ _ _ hc)
  | label l =>
    simp only [lowCode, Option.some.injEq, Prod.mk.injEq] at hl
    obtain ⟨rfl, rfl⟩ := hl
    simp only [exec, Option.some.injEq] at he
    subst he
    exact wpIn_label (hQ _ _ hc)
  | exit id =>
    simp only [lowCode] at hl
    split at hl <;> try (cases hl; done)
    rename_i hid
    simp only [Option.some.injEq, Prod.mk.injEq] at hl
    obtain ⟨rfl, rfl⟩ := hl
    simp only [exec, Option.some.injEq] at he
    subst he
    have := hQ _ _ hc
    simp only [exitOf, hid, if_true] at this
    exact wpIn_exit this
  | goto l =>
    simp only [lowCode, Option.some.injEq, Prod.mk.injEq] at hl
    obtain ⟨rfl, rfl⟩ := hl
    simp only [exec, Option.some.injEq] at he
    subst he
    have := hQ _ _ hc
    simp only [exitOf, show ¬ (gotoBase + l < gotoBase) by omega, if_false, Nat.add_sub_cancel_left] at this
    exact wpIn_goto this
  | ret =>
    simp only [lowCode, Option.some.injEq, Prod.mk.injEq] at hl
    obtain ⟨rfl, rfl⟩ := hl
    simp only [exec, Option.some.injEq] at he
    subst he
    exact wpIn_ret (hQ _ _ hc)
  | region id ops draw =>
    simp only [lowCode] at hl
    by_cases hpn : (lowOps P io nt vm bm [] ops.toList).isNone = true
    · rw [if_pos hpn] at hl
      simp only [Option.some.injEq, Prod.mk.injEq] at hl
      obtain ⟨rfl, rfl⟩ := hl
      simp [exec] at he
    rw [if_neg hpn] at hl
    obtain ⟨l, hlo, hl⟩ := Option.bind_eq_some_iff.1 hl
    split at hl <;> try (cases hl; done)
    rename_i hdr
    simp only [Option.some.injEq, Prod.mk.injEq] at hl
    obtain ⟨rfl, rfl⟩ := hl
    simp only [exec, runReg] at he
    obtain ⟨σ1, he1, rfl⟩ := Option.map_eq_some_iff.1 he
    obtain ⟨σ2, he2, he3⟩ := Option.bind_eq_some_iff.1 he1
    simp only [Option.some.injEq] at he3
    subst he3
    obtain ⟨W2, S, β, φ, hE, hR⟩ := hc
    have hnb2 : 2 * bm.length ≤ W2.nb := by rw [hE.nb]; exact hnb
    have hrs : σ.rs = [] := List.length_eq_zero_iff.1 (by simpa using hR.rlen)
    have hR' : RegRel P W2 S0 S β φ nt vm [] { σ with rs := [] } a w := by
      have : ({ σ with rs := [] } : St) = σ := by rw [← hrs]
      rw [this]; exact hR
    have fin : ∀ S' β' φ' a' w', RegRel P W2 S0 S' β' φ' nt vm (ops.toList.map (·.dst)) σ2 a' w' → Q .normal a' w' := fun S' β' φ' a' w' h => hQ _ _ ⟨_, _, _, _, hE, h.fin⟩
    cases draw with
    | false => exact wpIn_region_list (ops_sound hC hnb2 ops.toList [] (by simp) hR' (by simpa using hlo) he2 fin)
    | true =>
      simp only [Bool.true_and, Bool.not_eq_true', Bool.not_eq_false] at hdr
      exact hD C io W2 w S0 S β φ nt vm bm id ops l _ σ2 a Q rn n hC hnb2 hdr hR' hlo he2 fun S' β' φ' a' w' h _ => fin S' β' φ' a' w' h
  | seq x y =>
    have hxr : rn = none ∨ noRange x = true := hrn.imp (fun h => h) fun h => by simp only [noRange, Bool.and_eq_true] at h; exact h.1
    have hyr : rn = none ∨ noRange y = true := hrn.imp (fun h => h) fun h => by simp only [noRange, Bool.and_eq_true] at h; exact h.2
    simp only [lowCode, Option.bind_eq_bind] at hl
    obtain ⟨⟨ia, h1⟩, hl1, hl⟩ := Option.bind_eq_some_iff.1 hl
    obtain ⟨⟨ib, h2⟩, hl2, hl⟩ := Option.bind_eq_some_iff.1 hl
    simp only [Option.some.injEq, Prod.mk.injEq] at hl
    obtain ⟨rfl, rfl⟩ := hl
    simp only [exec] at he
    refine wpIn_seq ?_
    split at he
    · rename_i σ1 h1
      exact ih x hnb hm0 hxr hl1 h1 hc fun a' w' hc' => ih y hnb hm0 hyr hl2 he hc' hQ
    · rename_i hne
      refine ih x hnb hm0 hxr hl1 he hc ?_
      cases out with
      | norm σ1 => exact absurd he (hne σ1)
      | exit id σ1 =>
        intro a w hc
        have := hQ a w hc
        unfold exitOf at this ⊢
        split <;> simp_all [Exit.then]
      | ret σ1 => exact fun a w hc => hQ a w hc
  | cond c x y =>
    have hxr : rn = none ∨ noRange x = true := hrn.imp (fun h => h) fun h => by simp only [noRange, Bool.and_eq_true] at h; exact h.1
    have hyr : rn = none ∨ noRange y = true := hrn.imp (fun h => h) fun h => by simp only [noRange, Bool.and_eq_true] at h; exact h.2
    simp only [lowCode, Option.bind_eq_bind] at hl
    obtain ⟨d, hd, hl⟩ := Option.bind_eq_some_iff.1 hl
    obtain ⟨⟨ia, h1⟩, hl1, hl⟩ := Option.bind_eq_some_iff.1 hl
    obtain ⟨⟨ib, h2⟩, hl2, hl⟩ := Option.bind_eq_some_iff.1 hl
    simp only [Option.some.injEq, Prod.mk.injEq] at hl
    obtain ⟨rfl, rfl⟩ := hl
    simp only [exec] at he
    split at he <;> try (cases he; done)
    rename_i t ht
    obtain ⟨W2, S, β, φ, hE, hR⟩ := hc
    have hv := rep_v (ht ▸ hR.opd c d hd)
    refine wpIn_cond hv ?_
    cases t with
    | true => exact ih x hnb hm0 hxr hl1 (by simpa using he) ⟨W2, S, β, φ, hE, hR⟩ hQ
    | false => exact ih y hnb hm0 hyr hl2 (by simpa using he) ⟨W2, S, β, φ, hE, hR⟩ hQ
  | block id x =>
    have hxr : rn = none ∨ noRange x = true := hrn.imp (fun h => h) fun h => by simpa only [noRange] using h
    simp only [lowCode, Option.bind_eq_bind] at hl
    obtain ⟨⟨ia, h1⟩, hl1, hl⟩ := Option.bind_eq_some_iff.1 hl
    simp only at hl
    split at hl <;> try (cases hl; done)
    rename_i hid
    simp only [Option.some.injEq, Prod.mk.injEq] at hl
    obtain ⟨rfl, rfl⟩ := hl
    simp only [exec] at he
    refine wpIn_block ?_
    have key : ∀ j a w, j ≠ id → Q (exitOf j) a w → Exit.inBlock id Q (exitOf j) a w := fun j a w hj h => by
      unfold exitOf at h ⊢
      split
      · rename_i hlt
        simp only [hlt, if_true] at h
        simp only [Exit.inBlock]
        rw [if_neg hj]
        exact h
      · rename_i hlt
        simp only [hlt, if_false] at h
        exact h
    split at he
    · rename_i j σ1 h1
      refine ih x hnb hm0 hxr hl1 h1 hc fun a' w' hc' => ?_
      split at he
      · rename_i hj
        simp only [Option.some.injEq] at he
        subst he hj
        simp only [exitOf, hid, if_true, Exit.inBlock]
        exact hQ _ _ hc'
      · rename_i hj
        simp only [Option.some.injEq] at he
        subst he
        exact key _ _ _ hj (hQ _ _ hc')
    · rename_i hne
      refine ih x hnb hm0 hxr hl1 he hc ?_
      cases out with
      | norm σ1 => exact fun a w hc => hQ a w hc
      | exit id σ1 => exact absurd he (hne id σ1)
      | ret σ1 => exact fun a w hc => hQ a w hc
  | loop x =>
    have hxr : rn = none ∨ noRange x = true := hrn.imp (fun h => h) fun h => by simpa only [noRange] using h
    cases h with
    | nil => simp [lowCode] at hl
    | cons hd h =>
    obtain ⟨vs, ss⟩ := hd
    simp only [lowCode, Option.bind_eq_bind] at hl
    obtain ⟨⟨ia, h1⟩, hl1, hl⟩ := Option.bind_eq_some_iff.1 hl
    simp only [Option.some.injEq, Prod.mk.injEq] at hl
    obtain ⟨rfl, rfl⟩ := hl
    generalize vs.filterMap (vm.idxOf? ·) = kv at he
    generalize ((ss.filterMap (slotOf bm ·)).flatMap fun s => [s, s + 1]) = kb at he
    simp only [exec] at he
    refine wpIn_loop_rounds N ?_
    suffices key : ∀ q σ a w, loopN (exec C N (.seq (.kill kv) (.seq (.free kb) ia))) q σ = some out → CRel P W S0 nt vm σ a w → Code.roundsIn (wd rn) n P x Q q a w from key N σ a w he hc
    intro q
    induction q with
    | zero => intro σ a w he _; simp [loopN] at he
    | succ q ihn =>
      intro σ a w he hc
      rw [roundsIn_succ]
      simp only [loopN] at he
      rw [exec_headed] at he
      cases hfb : freeBoxes kb { σ with vars := killVars kv σ.vars } with
      | none => rw [hfb] at he; simp at he
      | some σ1 =>
        rw [hfb] at he
        simp only [Option.bind_some] at he
        have hc1 := (hc.kill (vs := kv)).free hfb
        split at he
        · rename_i σ2 h2
          exact ih x hnb hm0 hxr hl1 h2 hc1 fun a' w' hc' => ihn σ2 a' w' he hc'
        · rename_i hne
          refine ih x hnb hm0 hxr hl1 he hc1 ?_
          cases out with
          | norm σ2 => exact absurd he (hne σ2)
          | exit id σ1 =>
            intro a w hc
            have := hQ a w hc
            unfold exitOf at this ⊢
            split <;> simp_all [Exit.then]
          | ret σ1 => exact fun a w hc => hQ a w hc
  | scope x =>
    have hxr : rn = none ∨ noRange x = true := hrn.imp (fun h => h) fun h => by simp only [noRange, Bool.and_eq_true] at h; exact h.2
    simp only [lowCode] at hl
    split at hl
    · simp only [Option.bind_eq_bind] at hl
      obtain ⟨⟨ia, h1⟩, hl1, hl⟩ := Option.bind_eq_some_iff.1 hl
      simp only [Option.some.injEq, Prod.mk.injEq] at hl
      obtain ⟨rfl, rfl⟩ := hl
      simp only [exec] at he
      split at he
      · rename_i j σ1 h1
        split at he <;> try (cases he; done)
        rename_i hj
        simp only [Option.some.injEq] at he
        subst he
        refine wpIn_scope_straight (ih x hnb hm0 hxr hl1 h1 hc fun a w hc => ?_)
        have := hQ a w hc
        simp only [exitOf, hj, if_true] at this ⊢
        exact this
      · rename_i hne
        refine wpIn_scope_straight (ih x hnb hm0 hxr hl1 he hc ?_)
        cases out with
        | norm σ1 => exact fun a w hc => hQ a w hc
        | ret σ1 => exact fun a w hc => hQ a w hc
        | exit id σ1 => exact absurd he (hne id σ1)
    · rename_i l hgo
      have hrestr : ∀ y, rn = none ∨ noRange y = true := fun y => .inl (hrn.resolve_right fun h => by simp [noRange, hgo] at h)
      split at hl <;> try (cases hl; done)
      rename_i rest vs ss h2 hfl
      simp only [Option.bind_eq_bind] at hl
      obtain ⟨⟨ia, h1⟩, hl1, hl⟩ := Option.bind_eq_some_iff.1 hl
      obtain ⟨⟨ib, h2⟩, hl2, hl⟩ := Option.bind_eq_some_iff.1 hl
      simp only [Option.some.injEq, Prod.mk.injEq] at hl
      obtain ⟨rfl, rfl⟩ := hl
      generalize vs.filterMap (vm.idxOf? ·) = kv at he
      generalize ((ss.filterMap (slotOf bm ·)).flatMap fun s => [s, s + 1]) = kb at he
      simp only [exec] at he
      have hid : ¬ (gotoBase + l < gotoBase) := by omega
      -- what a run of either part comes to
      have leave : ∀ (f : St → Option Out) (o : Option Out) (J : Act → World → Prop), (match o with
          | some (.exit j σ') => if j = gotoBase + l then f σ' else if j < gotoBase then some (.exit j σ') else none
          | o => o) = some out → (∀ σ1, f σ1 = some out → ∀ a w, CRel P W S0 nt vm σ1 a w → J a w) → ∀ o1, o = some o1 → OutOk P W S0 nt vm (Exit.jump l J Q) o1 := by
        intro f o J ho hJ o1 h1
        subst h1
        cases o1 with
        | norm σ1 => simp only [Option.some.injEq] at ho; subst ho; exact fun a w hc => hQ a w hc
        | ret σ1 => simp only [Option.some.injEq] at ho; subst ho; exact fun a w hc => hQ a w hc
        | exit j σ1 =>
          simp only at ho
          intro a w hc
          by_cases hj : j = gotoBase + l
          · rw [if_pos hj] at ho
            subst hj
            simp only [exitOf, hid, if_false, Nat.add_sub_cancel_left]
            exact ⟨rfl, hJ σ1 ho a w hc⟩
          · rw [if_neg hj] at ho
            split at ho <;> try (cases ho; done)
            rename_i hlt
            simp only [Option.some.injEq] at ho
            subst ho
            have := hQ a w hc
            simp only [exitOf, hlt, if_true] at this ⊢
            exact this
      let J : Nat → Act → World → Prop := fun q a w => ∃ σ1, jumpN (exec C N (.seq (.kill kv) (.seq (.free kb) ib))) (gotoBase + l) q σ1 = some out ∧ CRel P W S0 nt vm σ1 a w
      refine wpIn_scope_jumps l J N hfl ?_ (fun a w ⟨σ1, h1, _⟩ => by simp [jumpN] at h1) fun q a w ⟨σ1, h1, hc1⟩ => ?_
      · cases hx : exec C N ia σ with
        | none => rw [hx] at he; simp at he
        | some o1 =>
          exact ih x hnb hm0 hxr hl1 hx hc (leave (fun σ' => jumpN (exec C N (.seq (.kill kv) (.seq (.free kb) ib))) (gotoBase + l) N σ') _ (J N) he (fun σ1 h1 a w hc => ⟨σ1, h1, hc⟩) o1 hx)
      · simp only [jumpN] at h1
        rw [exec_headed] at h1
        cases hfb : freeBoxes kb { σ1 with vars := killVars kv σ1.vars } with
        | none => rw [hfb] at h1; simp at h1
        | some σ2 =>
          rw [hfb] at h1
          simp only [Option.bind_some] at h1
          have hc2 := (hc1.kill (vs := kv)).free hfb
          cases hx : exec C N ib σ2 with
          | none => rw [hx] at h1; simp at h1
          | some o1 =>
            exact ih rest hnb hm0 (hrestr rest) hl2 hx hc2 (leave (fun σ' => jumpN (exec C N (.seq (.kill kv) (.seq (.free kb) ib))) (gotoBase + l) q σ') _ (J q) h1 (fun σ3 h3 a w hc => ⟨σ3, h3, hc⟩) o1 hx)
  | rangeFunc g ps x y =>
    have hrn0 : rn = none := hrn.resolve_right fun h => by simp [noRange] at h
    subst hrn0
    simp only [lowCode, Option.bind_eq_bind] at hl
    obtain ⟨d, hd, hl⟩ := Option.bind_eq_some_iff.1 hl
    obtain ⟨is, his, hl⟩ := Option.bind_eq_some_iff.1 hl
    split at hl <;> try (cases hl; done)
    rename_i hck
    obtain ⟨hvm, hps, hnx, hny⟩ := hck
    obtain ⟨⟨ia, h1⟩, hl1, hl⟩ := Option.bind_eq_some_iff.1 hl
    obtain ⟨⟨ib, h2⟩, hl2, hl⟩ := Option.bind_eq_some_iff.1 hl
    simp only [Option.some.injEq, Prod.mk.injEq] at hl
    obtain ⟨rfl, rfl⟩ := hl
    exact range_sound hC hvm hps hd his (fun g1 g2 => ih x g1 g2 (.inr hnx) hl1) (fun g1 g2 => ih y g1 g2 (.inr hny) hl2) hm0 he hc hQ
  | refuse _ => simp [lowCode] at hl
end
end Go.Vi
end
section
/-
  A VERIFIED INTERPRETER (part 17): functions, the program.
-/
set_option linter.unusedSimpArgs false
set_option linter.unusedVariables false
namespace Go.Vi
open Go Go.RowKit

section
variable {P : Program} {W : Base} {w : World} {S0 S : Nat → Nat → Prop} {β : BMap} {φ : FMap} {a : Act} {o : Oper} {σ : St} {nt : Nat} {vm bm : List Nat}

theorem export_sound {w w' : World} {nb m0 : Nat} {β0 : BMap} {S' : Nat → Nat → Prop} {bx : List (Option (List T))} (hI : Inv P ⟨w, fun b => b < w.heap.size, nb, β0, m0⟩ S S' β φ bx w') {x : Value} {t r : T} (hx : Rep S' w' β φ x t) (hr : exportT bx t = some r) : ResRep P S w w' x r := by
  have htop : ∀ b o, S' b o → S b o ∨ w.heap.size ≤ b := fun b o h => (hI.top b o h).imp id fun h => Nat.le_of_not_lt h
  simp only [exportT] at hr
  by_cases hh : t.hasRef = true
  · rw [if_pos hh] at hr
    refine ⟨withBoxes S' β, noF, fun b o h => ?_, fun b o h => ?_, close_sound hI 8 x t r hx hr, fun k x e hk => by simp [noF] at hk, fun k k' x x' e e' hk => by simp [noF] at hk⟩
    · rcases h with h | ⟨s, hs⟩
      · exact htop b o h
      · exact .inr (Nat.le_of_not_lt (hI.box s b hs).1)
    · rcases h with h | ⟨s, hs⟩
      · exact hI.lt b o h
      · exact hI.boxLt hs
  rw [if_neg hh] at hr
  split at hr <;> try (cases hr; done)
  rename_i hn
  simp only [Option.some.injEq] at hr
  subst hr
  refine ⟨S', fun i => (t.fams[i]?).bind φ, htop, hI.lt, hx.remap (fun s s' b h => by cases h) (fun s s' h => by cases h) (fun k k' p h1 h2 => ?_), fun k x e hk => ?_, fun k k' x x' e e' hk hk' hne => ?_⟩
  · simp [idxOf?_spec h1, h2]
  · obtain ⟨j, _, hk⟩ := Option.bind_eq_some_iff.1 hk
    obtain ⟨g, n, c, sz, xs, i, h1, h2, h3, h4, h5, h6, h7⟩ := hI.fam j x e hk
    exact ⟨g, n, c, sz, xs, i, h1, h2, h3, h4, h5, fun s => by simp [noB], h7⟩
  · obtain ⟨j, hj, hk⟩ := Option.bind_eq_some_iff.1 hk
    obtain ⟨j', hj', hk'⟩ := Option.bind_eq_some_iff.1 hk'
    refine hI.famInj j j' x x' e e' hk hk' fun h => hne ?_
    subst h
    obtain ⟨h1, h2⟩ := List.getElem?_eq_some_iff.1 hj
    obtain ⟨h1', h2'⟩ := List.getElem?_eq_some_iff.1 hj'
    exact (List.getElem_inj hn).1 (h2.trans h2'.symm)

/-- One result, as the machine reads it. -/
def readRes (tmps : Array Value) : ResultVar → Sem Value
  | .tmp t => pure (tmps.getD t undef)
  | .cell a t => do loadVar t (← asAddr (tmps.getD a undef))

theorem res_sound (hI : Inv P W S0 S β φ σ.boxes w) (hvars : ∀ (i s : Nat) (u : T), vm[i]? = some s → σ.vars[i]? = some u → Rep S w β φ (a.tmps.getD s undef) u) {r : ResultVar} {ir : IRes} {t : T} (hl : lowRes P vm r = some ir) (hr : resOf σ ir = some t) : ∃ x, (readRes a.tmps r).run P w = .ok x w ∧ Rep S w β φ x t := by
  have idx : ∀ {s i}, vm.idxOf? s = some i → vm[i]? = some s := fun {s i} hi => by
    rw [List.idxOf?, List.findIdx?_eq_some_iff_getElem] at hi
    obtain ⟨hi, h1, _⟩ := hi
    simp only [beq_iff_eq] at h1
    simp [hi, h1]
  cases r with
  | tmp s =>
    simp only [lowRes] at hl
    obtain ⟨i, hi, rfl⟩ := Option.map_eq_some_iff.1 hl
    simp only [resOf] at hr
    exact ⟨_, rfl, hvars i s t (idx hi) hr⟩
  | cell s ty =>
    simp only [lowRes, Option.bind_eq_bind] at hl
    obtain ⟨⟨g, n⟩, hg, hl⟩ := Option.bind_eq_some_iff.1 hl
    obtain ⟨i, hi, hl⟩ := Option.bind_eq_some_iff.1 hl
    simp only [Option.some.injEq] at hl
    subst hl
    simp only [resOf] at hr
    split at hr <;> try (cases hr; done)
    rename_i s' off hv
    split at hr <;> try (cases hr; done)
    rename_i cs hb
    have hx := hvars i s _ (idx hi) hv
    obtain ⟨y, h1, h2⟩ := load_sound (u := T.ref s' off) (t := t) hI hg hx (by simp [hb, hr])
    refine ⟨y, ?_, h2⟩
    generalize hxv : a.tmps.getD s undef = xv at hx h1
    cases hx with
    | ref _ _ s' off b hb' _ =>
      simp only [readRes, hxv, Sem.run_bind, asAddr]
      simpa [Instr.loadAt, Instr.sureAddr] using h1

theorem resList_sound (hI : Inv P W S0 S β φ σ.boxes w) (hvars : ∀ (i s : Nat) (u : T), vm[i]? = some s → σ.vars[i]? = some u → Rep S w β φ (a.tmps.getD s undef) u) : ∀ (rs : List ResultVar) {irs : List IRes} {ts : List T}, rs.mapM (lowRes P vm) = some irs → irs.mapM (resOf σ) = some ts →
    ∃ vs : List Value, (rs.mapM (readRes a.tmps)).run P w = .ok vs w ∧ vs.length = ts.length ∧ ∀ (i : Nat) (x : Value) (t : T), vs[i]? = some x → ts[i]? = some t → Rep S w β φ x t
  | [], irs, ts, hl, hr => by
    simp only [List.mapM_nil, Option.pure_def, Option.some.injEq] at hl
    subst hl
    simp only [List.mapM_nil, Option.pure_def, Option.some.injEq] at hr
    subst hr
    exact ⟨[], by simp, rfl, fun i x t hx => by simp at hx⟩
  | r :: rs, irs, ts, hl, hr => by
    simp only [List.mapM_cons, Option.bind_eq_bind, Option.pure_def] at hl
    obtain ⟨ir, h1, hl⟩ := Option.bind_eq_some_iff.1 hl
    obtain ⟨irs', h2, hl⟩ := Option.bind_eq_some_iff.1 hl
    simp only [Option.some.injEq] at hl
    subst hl
    simp only [List.mapM_cons, Option.bind_eq_bind, Option.pure_def] at hr
    obtain ⟨t, h3, hr⟩ := Option.bind_eq_some_iff.1 hr
    obtain ⟨ts', h4, hr⟩ := Option.bind_eq_some_iff.1 hr
    simp only [Option.some.injEq] at hr
    subst hr
    obtain ⟨x, hx, hrep⟩ := res_sound hI hvars h1 h3
    obtain ⟨vs, hvs, hlen, hreps⟩ := resList_sound hI hvars rs h2 h4
    refine ⟨x :: vs, by simp [hx, hvs], by simp [hlen], fun i y u hy hu => ?_⟩
    cases i with
    | zero => simp at hy hu; subst hy; subst hu; exact hrep
    | succ i => simp at hy hu; exact hreps i y u hy hu

theorem canonT_sound {x : Value} {t : T} (i : Nat) (c : CM) (h : Rep S w β φ x t) : Rep S w β φ x (canonT i c t) := by
  have nil' : ∀ (u : T), t = .sl .nil 0 [] → (x = .slice none 0 0 → Rep S w β φ x u) → Rep S w β φ x u := fun u ht hu => by
    refine hu ?_
    subst ht
    generalize hq : T.sl .nil 0 [] = q at h
    cases h with
    | nil => rfl
    | sl _ _ g ad n c cs f hnc hg hcs hr =>
      cases hq
      rcases hg with (h' | h') | ⟨h', _⟩ | ⟨k, e', h', _⟩ <;> cases h'
    | _ => cases hq
  unfold canonT
  split
  · exact h
  · exact h.weak
  · exact nil' _ rfl fun hx => by subst hx; exact .nil _ _ _ rfl
  · exact h
  · exact nil' _ rfl fun hx => by subst hx; exact .bsl0 ..
  · exact h

theorem canonL_sound : ∀ (cs : List CM) (ts : List T) (i : Nat), (canonL i cs ts).length = ts.length ∧ ∀ (j : Nat) (t' : T), (canonL i cs ts)[j]? = some t' → ∃ t, ts[j]? = some t ∧ ∀ x, Rep S w β φ x t → Rep S w β φ x t'
  | [], ts, i => ⟨by simp [canonL], fun j t' h => ⟨t', by simpa [canonL] using h, fun _ h => h⟩⟩
  | _ :: _, [], i => ⟨by simp [canonL], fun j t' h => by simp [canonL] at h⟩
  | c :: cs, t :: ts, i => by
    obtain ⟨h1, h2⟩ := canonL_sound cs ts (i + 1)
    refine ⟨by simp [canonL, h1], fun j t' h => ?_⟩
    cases j with
    | zero => simp [canonL] at h; subst h; exact ⟨t, rfl, fun x hx => canonT_sound i c hx⟩
    | succ j => simp only [canonL, List.getElem?_cons_succ] at h ⊢; exact h2 j t' h

theorem results_sound (hI : Inv P W S0 S β φ σ.boxes w) (hvars : ∀ (i s : Nat) (u : T), vm[i]? = some s → σ.vars[i]? = some u → Rep S w β φ (a.tmps.getD s undef) u) {fn : Func} {irs : List IRes} {cm : List CM} {t : T} (hl : fn.results.toList.mapM (lowRes P vm) = some irs) (hr : resultsOf σ irs cm = some t) :
    ∃ x, (results fn a.tmps).run P w = .ok x w ∧ Rep S w β φ x t := by
  simp only [resultsOf, Option.bind_eq_bind] at hr
  obtain ⟨ts0, hts, hr⟩ := Option.bind_eq_some_iff.1 hr
  obtain ⟨vs, hvs, hlen0, hreps0⟩ := resList_sound hI hvars _ hl hts
  obtain ⟨hcl, hcs⟩ := canonL_sound (S := S) (w := w) (β := β) (φ := φ) cm ts0 0
  generalize canonL 0 cm ts0 = ts at hr hcl hcs
  have hlen : vs.length = ts.length := by omega
  have hreps : ∀ (i : Nat) (x : Value) (t : T), vs[i]? = some x → ts[i]? = some t → Rep S w β φ x t := fun i x t hx ht => by
    obtain ⟨t0, ht0, hc⟩ := hcs i t ht
    exact hc x (hreps0 i x t0 hx ht0)
  have hrun : (results fn a.tmps).run P w = .ok (if h : vs.toArray.size = 1 then vs.toArray[0] else .tuple vs.toArray) w := by
    have : results fn a.tmps = (do
      let vs ← fn.results.mapM (readRes a.tmps)
      pure (if h : vs.size = 1 then vs[0] else .tuple vs)) := by
      unfold results
      congr 1
    rw [this, Array.mapM_eq_mapM_toList]
    simp [hvs]
  refine ⟨_, hrun, ?_⟩
  split at hr
  · rename_i t'
    simp only [Option.some.injEq] at hr
    subst hr
    match vs, hlen, hreps with
    | [v], _, hreps => simpa using hreps 0 v t' (by simp) (by simp)
  · rename_i ts' hne
    simp only [Option.some.injEq] at hr
    subst hr
    rw [dif_neg]
    · exact .tup _ _ _ _ (by simpa using hlen) fun i x t hx ht => hreps i x t (by simpa using hx) ht
    · intro h1
      have : ts.length = 1 := by rw [← hlen]; simpa using h1
      obtain ⟨t, rfl⟩ := List.length_eq_one_iff.1 this
      exact hne t rfl

/-! #### the end of a function -/
/-- A block that is no box and no row, and none of those that stay, is turned. -/
theorem Inv.turnOther {bx : List (Option (List T))} {D : Nat} {d : Option (List Deferred)} (o' : Obj) (h : Inv P W S0 S β φ bx w) (hD : w.heap[D]? = some (.deferred d)) (hX : ¬ W.X D) :
    Inv P W S0 S β φ bx (w.putObj D o') ∧ ∀ x t, Rep S w β φ x t → Rep S (w.putObj D o') β φ x t := by
  have hg := grownBy_putObj2 w D o'
  have hother : ∀ k, k < w.heap.size → k ≠ D → (w.putObj D o').heap[k]? = w.heap[k]? := fun k hk hne => hg.block k hk (by simpa using hne)
  have hcell : ∀ b o, S b o → ∀ sp v, w.cell? ⟨b, o, sp⟩ = some v → (w.putObj D o').cell? ⟨b, o, sp⟩ = some v := fun b o hS sp v hv => by
    have hne : b ≠ D := fun e => by
      subst e
      simp [World.cell?, hD] at hv
    rw [World.cell?_of_block (w := w) (hother b (h.lt _ _ hS) hne)]
    exact hv
  have hm : ∀ x t, Rep S w β φ x t → Rep S (w.putObj D o') β φ x t := fun x t hx => hx.mono (fun _ _ => id) (fun _ _ => id) (fun _ _ => id) hcell (grows_putObj o' hD rfl)
  refine ⟨⟨h.below.step hg (fun k e => by cases e; exact hX) (grows_putObj o' hD rfl), fun b o hs => by have := h.lt b o hs; simpa using this, fun s b hb => ?_, h.boxed, h.inj, fun k x e hk => ?_, h.famInj, h.top, h.base, fun b o h0 sp v hv => hcell b o (h.base b o h0) sp v (h.stay b o h0 sp v hv), h.pin⟩, hm⟩
  · obtain ⟨h1, h2, cs, h3, h4⟩ := h.box s b hb
    have hne : b ≠ D := fun e => by
      subst e
      rcases (by omega : s % 2 = 0 ∨ s % 2 = 1) with hp | hp
      · obtain ⟨_, _, g1, _⟩ := h4.1 hp; rw [hD] at g1; cases g1
      · obtain ⟨_, _, g1, _⟩ := h4.2 hp; rw [hD] at g1; cases g1
    exact ⟨h1, h2, cs, h3, h4.mono' (hother b h4.lt hne) hm⟩
  · obtain ⟨g, n, c, sz, xs, i, rfl, hi, hsz, ho, h1, h2⟩ := h.fam k x e hk
    have hne : g ≠ D := fun e => by
      subst e
      rcases ho.2 with ⟨h', _⟩ | ⟨g', cap, cur, e2', hx', _, hgc, _⟩
      · cases h'
      · simp only [Value.slice.injEq, Option.some.injEq, Addr.mk.injEq] at hx'
        obtain ⟨⟨rfl, _⟩, _, rfl⟩ := hx'
        rw [hD] at hgc
        cases hgc
    exact ⟨g, n, c, sz, xs, i, rfl, hi, hsz, ho.kept hg (.inr (by simpa [Value.ownBlock] using hne)), h1, h2⟩

/-- Functions leave: the marks are shut, the results read. -/
theorem leaveM {fn : Func} {tmps : Array Value} {R : Ending → World → Prop} {n : Nat} : ∀ (Ds : List Nat) (w : World), Ds.Nodup → (∀ D ∈ Ds, w.heap[D]? = some (.deferred (some [])) ∧ ¬ W.X D) → Inv P W S0 S β φ σ.boxes w →
    (∀ (s : Nat) (u : T), (∃ i : Nat, vm[i]? = some s ∧ σ.vars[i]? = some u) → Rep S w β φ (tmps.getD s undef) u) →
    (∀ w', Inv P W S0 S β φ σ.boxes w' → (∀ (s : Nat) (u : T), (∃ i : Nat, vm[i]? = some s ∧ σ.vars[i]? = some u) → Rep S w' β φ (tmps.getD s undef) u) → ∃ v, (results fn tmps).run P w' = .ok v w' ∧ R (.returned v) w') →
    LeavesInM (wd none) n P fn tmps R (Ds.map markOf) .returning w
  | [], w, _, _, hI, hv, hR => by
    simp only [List.map_nil, LeavesInM, LeavesIn]
    exact hR w hI hv
  | D :: Ds, w, hn, hD, hI, hv, hR => by
    obtain ⟨hn1, hn2⟩ := List.nodup_cons.1 hn
    obtain ⟨h1, h2⟩ := hD D (by simp)
    obtain ⟨hI', hm⟩ := hI.turnOther (.deferred none) h1 h2
    simp only [List.map_cons, LeavesInM]
    refine ⟨by simp, .inl ⟨D, _, rfl, run_takeDeferred h1, leaveM Ds _ hn2 (fun D' hD' => ?_) hI' (fun s u h => hm _ _ (hv s u h)) hR⟩⟩
    obtain ⟨g1, g2⟩ := hD D' (by simp [hD'])
    exact ⟨(World.putObj_heap_other (r := D) (k := D') (fun e : D' = D => hn1 (e ▸ hD'))).trans g1, g2⟩

/-- A function's body. -/
theorem body_sound {C : FuncId → List T → Option T} (hC : ∀ f args r, C f args = some r → Sound P f args r) {io : FuncId → Nat} {drawOk : List Nat → Array Oper → List (Option (Nat × Bool) × IOp) → Bool} (hD : DrawSound P drawOk) {N f : Nat} {fn : Func} {ifn : IFn} {h : Hints} {canon : List CM} {split : Bool}
    (hf : P.funcs[f]? = some fn) (hn : (fn.name == "runtime.NumGoroutine") = false) (hl : lower P io drawOk vm bm h canon split fn = some ifn) :
    ifn.nboxes = bm.length ∧ callable P f = true ∧ ∀ {args : List T} {bx : List (Option (List T))} {vs : Array Value} {t : T}, args.length = ifn.nparams → Inv P W S S β φ bx w → W.w = w → W.m0 = w.heap.size → 2 * bm.length ≤ W.nb → vs.size = args.length →
    (∀ (i : Nat) (x : Value) (t : T), vs[i]? = some x → args[i]? = some t → Rep S w β φ x t) →
    (exec C N ifn.body ⟨[], args ++ List.replicate (ifn.nvars - ifn.nparams) .undef, bx⟩ = some (.norm σ) ∨ exec C N ifn.body ⟨[], args ++ List.replicate (ifn.nvars - ifn.nparams) .undef, bx⟩ = some (.ret σ)) →
    resultsOf σ ifn.results ifn.canon = some t → Calls P f vs w fun e w' => ∃ x S' β' φ', e = .returned x ∧ Inv P W S S' β' φ' σ.boxes w' ∧ Rep S' w' β' φ' x t := by
  unfold lower at hl
  simp only at hl
  split at hl <;> try (cases hl; done)
  rename_i c hb
  split at hl <;> try (cases hl; done)
  rename_i hck
  obtain ⟨hvm, hbm, htake, hall⟩ := hck
  simp only [Option.bind_eq_bind] at hl
  obtain ⟨⟨ic, h'⟩, hlc, hl⟩ := Option.bind_eq_some_iff.1 hl
  obtain ⟨irs, hirs, hl⟩ := Option.bind_eq_some_iff.1 hl
  simp only [Option.some.injEq] at hl
  subst hl
  refine ⟨rfl, by simp [callable, hf, hb, hn], fun {args bx vs t} hlen hI hWw hm0 hnb hvl hreps hex hrs => ?_⟩
  simp only at hlen hex hrs
  generalize hp : fn.params.size + fn.nfree = p at htake hlen hex
  have hple : p ≤ vm.length := by
    have := congrArg List.length htake
    simp only [List.length_take, List.length_range] at this
    omega
  have hvmi : ∀ i, i < p → vm[i]? = some i := by
    intro i hi
    have : (vm.take p)[i]? = some i := by rw [htake]; simp [hi]
    rw [List.getElem?_take] at this
    simpa [hi] using this
  have hpn : p ≤ fn.ntmps := by
    by_cases h0 : p = 0
    · omega
    · have := hvmi (p - 1) (by omega)
      have hm := List.mem_of_getElem? this
      simp only [List.all_eq_true, decide_eq_true_eq] at hall
      have := hall _ hm
      omega
  have hR : RegRel P W S S β φ fn.ntmps vm [] ⟨[], args ++ List.replicate (vm.length - p) .undef, bx⟩ { tmps := vs ++ Array.replicate (fn.ntmps - vs.size) undef, defers := [] } w := by
    refine ⟨hI, ⟨[], by simp, rfl, by simp⟩, by simp; omega, by simp; omega, rfl, fun i s u hi _ hu => ?_, fun j s u hj => by simp at hj, fun j j' s hj => by simp at hj⟩
    rw [List.getElem?_append] at hu
    split at hu
    · rename_i hlt
      have := hvmi i (by omega)
      rw [this] at hi
      simp only [Option.some.injEq] at hi
      subst hi
      refine hreps i _ u ?_ hu
      simp only [Array.getD_eq_getD_getElem?]
      rw [Array.getElem?_append_left (by omega)]
      simp [show i < vs.size by omega]
    · rw [List.getElem?_replicate] at hu
      split at hu
      · simp only [Option.some.injEq] at hu; subst hu; exact .undef ..
      · cases hu
  have hE : Ext S W W := Ext.refl hI.below.lt
  refine (callsIn_wide (n := 3)).1 (callsIn_of_wp_marks (F := wd none) hf hb trivial ?_)
  have fin : ∀ a' w', CRel P W S fn.ntmps vm σ a' w' → LeavesInM (wd none) 3 P fn a'.tmps (fun e w' => ∃ x S' β' φ', e = .returned x ∧ Inv P W S S' β' φ' σ.boxes w' ∧ Rep S' w' β' φ' x t) a'.defers .returning w' := by
    rintro a' w' ⟨W2, S', β', φ', hE2, hR2⟩
    obtain ⟨Ds, hn1, hn2, hn3⟩ := hR2.nd
    rw [hn2]
    have hI1 := hR2.inv.unext hE2
    refine leaveM Ds w' hn1 (fun D hD => ?_) hI1 (fun s u ⟨i, h1, h2⟩ => hR2.vars i s u h1 (by simp) h2) fun w2 hI2 hv2 => ?_
    · obtain ⟨g1, g2, g3⟩ := hn3 D hD
      refine ⟨(hR2.inv.below.block D g1).trans g2, fun hx => ?_⟩
      have := hI1.below.lt D hx
      rw [hE2.m0, hm0, ← hWw] at g3
      omega
    · obtain ⟨x, hx, hrep⟩ := results_sound (a := a') hI2 (fun i s u h1 h2 => hv2 s u ⟨i, h1, h2⟩) hirs hrs
      exact ⟨x, hx, x, S', β', φ', rfl, hI2, hrep⟩
  rcases hex with hex | hex
  · exact exec_sound hC hD N 400 c hnb (by rw [hm0, hWw]; exact Nat.le_refl _) (.inl rfl) hlc hex ⟨W, S, β, φ, hE, hR⟩ fun a' w' hc => fin a' w' hc
  · exact exec_sound hC hD N 400 c hnb (by rw [hm0, hWw]; exact Nat.le_refl _) (.inl rfl) hlc hex ⟨W, S, β, φ, hE, hR⟩ fun a' w' hc => fin a' w' hc
end
end Go.Vi
end
section
/-
  A VERIFIED INTERPRETER (part 18): which operations may change places. Quiet operations.
-/
set_option linter.unusedSimpArgs false
set_option linter.unusedVariables false
namespace Go.Vi
open Go Go.RowKit

/-- Reads no box. -/
def IOp.pure : IOp → Bool
  | .sliceA .. | .bsliceB .. | .alloc .. | .box .. | .load .. | .store .. | .mkSlice .. | .mkBox .. | .mkCap .. | .bslice .. | .append .. | .copy .. | .call .. | .callv .. | .clearS .. | .appendB .. | .mkMap .. | .lookup .. | .mapUpdate .. | .lenM .. | .thaw .. | .callnew .. | .callio .. | .callvio .. => false
  | _ => true

/-- Changes nothing. -/
def IOp.quiet : IOp → Bool
  | .load .. | .lookup .. | .lenM .. | .sliceA .. => true
  | o => o.pure

/-- The value of an operation that changes nothing. -/
def quietVal (get : Opd → T) (bx : List (Option (List T))) : IOp → Option T
  | .mv a => some (get a)
  | .pick c a b => match get c with | .v (.bool t) => some (if t then get a else get b) | _ => none
  | .bin op t a b => binT op t (get a) (get b)
  | .eqb neg a b => match get a, get b with | .v (.bool x), .v (.bool y) => some (T.bool ((x == y) != neg)) | _, _ => none
  | .eqa neg ks a b => match get a, get b with
    | .agg xs, .agg ys => (eqCells ks xs ys).map fun e => T.bool (e != neg)
    | _, _ => none
  | .eqnil neg a => match get a with
    | .sl .nil _ _ => some (T.bool (!neg))
    | .sl .imm _ _ => some (T.bool neg)
    | .sl _ n _ => if 0 < n then some (T.bool neg) else none
    | .bsl _ _ n _ => if 0 < n then some (T.bool neg) else none
    | _ => none
  | .un op a => match get a with | .v x => (pure0 (Op.unary op x)).map fun y => .v y | _ => none
  | .toInt k a => match get a with
    | .v (.int _ n) => some (.v (.int k (k.wrap n)))
    | .v (.float s b) => (pure0 (Conv.floatToInt s b k)).map fun y => .v y
    | _ => none
  | .toFloat k a => match get a with | .v (.int _ n) => some (.v (.float k (k.nearest n))) | _ => none
  | .toStr a => match get a with
    | .sl _ n cs => if n = cs.length then (bytesOf cs).map fun b => .str ⟨b.toArray⟩ else none
    | _ => none
  | .build zero parts => (fillT get zero parts).map fun cs => .agg cs
  | .field isAgg off n a => match get a with | .agg cs => one? isAgg n cs off | _ => none
  | .indexA len sz isAgg a i => match get a, asNat (get i) with
    | .agg cs, some i => if i < len then one? isAgg sz cs (i * sz) else none
    | _, _ => none
  | .indexS a i => match get a, asNat (get i) with
    | .v (.string s), some i => (s.data[i]?).map fun b => .u8 b.toNat
    | _, _ => none
  | .extract a i => match get a with | .tup ts => ts[i]? | _ => none
  | .load isAgg n a => match get a with
    | .ref s off => match bx[s]? with
      | some (some cs) => one? isAgg n cs off
      | _ => none
    | .ptr cs off => (one? isAgg n cs off).filter T.closed
    | _ => none
  | .faddr off a => match get a with
    | .ref s o => some (.ref s (o + off))
    | .ptr cs o => some (.ptr cs (o + off))
    | _ => none
  | .iaddrA len sz a i => match get a, asNat (get i) with
    | .ref s o, some i => if i < len then some (.ref s (o + i * sz)) else none
    | .ptr cs o, some i => if i < len then some (.ptr cs (o + i * sz)) else none
    | _, _ => none
  | .iaddrS sz a i => match get a, asNat (get i) with
    | .sl _ n cs, some i => if i < n then some (.ptr cs (i * sz)) else none
    | .bsl s o n _, some i => if i < n then some (.ref s (o + i * sz)) else none
    | _, _ => none
  | .sliceS a lo hi => match get a with
    | .v (.string s) => do
      let h ← optNat get s.size hi
      let l ← optNat get 0 lo
      if l ≤ h ∧ h ≤ s.size then some (.str (s.extract l h)) else none
    | _ => none
  | .sliceT sz a lo hi mx => match get a with
    | .sl g n cs => do
      let h ← optNat get n hi
      let l ← optNat get 0 lo
      let m ← optNat get n mx
      if l ≤ h ∧ h ≤ m ∧ m ≤ n then some (.sl (if g = .nil then .nil else if mx.isSome ∧ h = m then .clip else .any) (h - l) ((cs.drop (l * sz)).take ((h - l) * sz)))
      else none
    | .bsl s o n c => do
      let h ← optNat get n hi
      let l ← optNat get 0 lo
      let m ← optNat get n mx
      if l ≤ h ∧ h ≤ m ∧ m ≤ n ∧ (n = 0 ∨ n * sz = c) then some (.bsl s (o + l * sz) (h - l) (if h = l then (if n = 0 then c else 1 + sz) else (h - l) * sz)) else none
    | _ => none
  | .sliceA len sz a lo hi => match get a with
    | .ref s o => do
      let h ← optNat get len hi
      let l ← optNat get 0 lo
      match bx[s]? with
      | some (some cs) => if l ≤ h ∧ h ≤ len ∧ o + len * sz ≤ cs.length then some (.bsl s (o + l * sz) (h - l) (if h = l then 1 else (h - l) * sz)) else none
      | _ => none
    | _ => none
  | .arrOf len a => match get a with
    | .bsl s o n _ => if len ≤ n ∧ 0 < n then some (.ref s o) else none
    | .sl _ n cs => if len ≤ n ∧ 0 < n then some (.ptr cs 0) else none
    | _ => none
  | .lookup k zero ok a i => match get a with
    | .mref s => match bx[s]? with
      | some (some cs) => (findT k (get i) cs).map fun r => match r with
        | some v => if ok then .tup [v, T.bool true] else v
        | none => if ok then .tup [zero, T.bool false] else zero
      | _ => none
    | _ => none
  | .lenM a => match get a with
    | .mref s => match bx[s]? with
      | some (some cs) => some (T.int (cs.length / 2 : Nat))
      | _ => none
    | _ => none
  | .len str a => lenT str (get a)
  | .capS a => match get a with
    | .sl .nil _ _ => some (T.int 0)
    | .sl .clip n _ => some (T.int n)
    | .bsl _ _ 0 0 => some (T.int 0)
    | _ => none
  | .minMax mx as => match as.map get with
    | .v (.int k x) :: rest => (foldMM mx x rest).map fun r => .v (.int k r)
    | _ => none
  | .part k a => match get a with
    | .v (.complex f re im) => some (.v (.float f (if k = 0 then re else im)))
    | _ => none
  | .cplx a b => match get a, get b with
    | .v (.float k re), .v (.float k' im) => if k = k' then some (.v (.complex k re im)) else none
    | _, _ => none
  | .mkFunc fn first cap => some (.clo fn (first.map get) (cap.map get))
  | .nilCheck a => match get a with
    | .ref s o => some (.ref s o)
    | .ptr cs o => some (.ptr cs o)
    | .clo (.func f) a b => some (.clo (.func f) a b)
    | .v (.func (.func f) a b) => some (.v (.func (.func f) a b))
    | _ => none
  | _ => none

theorem runOp_quiet {C : FuncId → List T → Option T} {σ : St} {o : IOp} (h : o.quiet = true) : runOp C σ o = (quietVal (Opd.get σ) σ.boxes o).map (·, σ) := by
  cases o <;> try (simp [IOp.quiet, IOp.pure] at h; done)
  case sliceS a lo hi =>
    simp only [runOp, quietVal]
    generalize Opd.get σ a = u
    cases u <;> try rfl
    rename_i x
    cases x <;> try rfl
    rename_i s
    simp only
    cases optNat (Opd.get σ) s.size hi <;> try rfl
    cases optNat (Opd.get σ) 0 lo <;> try rfl
    simp only [Option.bind_eq_bind, Option.bind_some]
    split <;> rfl
  case sliceA len sz a lo hi =>
    simp only [runOp, quietVal]
    generalize Opd.get σ a = u
    cases u <;> try rfl
    simp only
    rename_i s o
    cases optNat (Opd.get σ) len hi <;> try rfl
    cases optNat (Opd.get σ) 0 lo <;> try rfl
    simp only [Option.bind_eq_bind, Option.bind_some]
    cases σ.boxes[s]? with
    | none => rfl
    | some ob =>
      cases ob with
      | none => rfl
      | some cs => simp only; split <;> rfl
  case sliceT sz a lo hi mx =>
    simp only [runOp, quietVal]
    generalize Opd.get σ a = u
    cases u <;> try rfl
    · rename_i g n cs
      simp only
      cases optNat (Opd.get σ) n hi <;> try rfl
      cases optNat (Opd.get σ) 0 lo <;> try rfl
      cases optNat (Opd.get σ) n mx <;> try rfl
      simp only [Option.bind_eq_bind, Option.bind_some]
      split <;> rfl
    · rename_i s o n c
      simp only
      cases optNat (Opd.get σ) n hi <;> try rfl
      cases optNat (Opd.get σ) 0 lo <;> try rfl
      cases optNat (Opd.get σ) n mx <;> try rfl
      simp only [Option.bind_eq_bind, Option.bind_some]
      split <;> rfl
  case load g n a =>
    simp only [runOp, quietVal]
    generalize a.get σ = u
    cases u <;> try rfl
    rename_i s off
    simp only
    cases σ.boxes[s]? with
    | none => rfl
    | some ob => cases ob <;> rfl
  case pick c a b =>
    simp only [runOp, quietVal]
    generalize Opd.get σ c = u
    cases u <;> try rfl
    rename_i x
    cases x <;> rfl
  case eqb neg a b =>
    simp only [runOp, quietVal]
    generalize Opd.get σ a = u
    generalize Opd.get σ b = v
    cases u <;> try rfl
    rename_i x
    cases x <;> try rfl
    cases v <;> try rfl
    rename_i y
    cases y <;> rfl
  case eqa neg ks a b =>
    simp only [runOp, quietVal]
    generalize Opd.get σ a = u
    generalize Opd.get σ b = v
    cases u <;> try rfl
    cases v <;> try rfl
    simp only [Option.map_map]; rfl
  case eqnil neg a =>
    simp only [runOp, quietVal]
    generalize Opd.get σ a = u
    cases u <;> try rfl
    · rename_i g n cs
      cases g <;> first | rfl | (simp only; split <;> rfl)
    · simp only; split <;> rfl
  case lookup k zero ok a i =>
    simp only [runOp, quietVal]
    generalize a.get σ = u
    cases u <;> try rfl
    rename_i s
    simp only
    cases σ.boxes[s]? with
    | none => rfl
    | some ob =>
      cases ob with
      | none => rfl
      | some cs =>
        simp only
        cases findT k (Opd.get σ i) cs with
        | none => rfl
        | some r => cases r <;> rfl
  case lenM a =>
    simp only [runOp, quietVal]
    generalize a.get σ = u
    cases u <;> try rfl
    rename_i s
    simp only
    cases σ.boxes[s]? with
    | none => rfl
    | some ob => cases ob <;> rfl
  case capS a =>
    simp only [runOp, quietVal]
    generalize a.get σ = u
    cases u <;> try rfl
    · rename_i g n cs
      cases g <;> rfl
    · rename_i s o n c
      cases n <;> cases c <;> rfl
  case un op a =>
    simp only [runOp, quietVal]
    generalize Opd.get σ a = u
    cases u <;> try rfl
    simp only [Option.map_map]; rfl
  case toInt k a =>
    simp only [runOp, quietVal]
    generalize Opd.get σ a = u
    cases u <;> try rfl
    rename_i x
    cases x <;> try rfl
    simp only [Option.map_map]; rfl
  case toFloat k a =>
    simp only [runOp, quietVal]
    generalize Opd.get σ a = u
    cases u <;> try rfl
    rename_i x
    cases x <;> rfl
  case toStr a =>
    simp only [runOp, quietVal]
    generalize Opd.get σ a = u
    cases u <;> try rfl
    simp only
    split <;> try rfl
    simp only [Option.map_map]; rfl
  case field g off n a =>
    simp only [runOp, quietVal]
    generalize Opd.get σ a = u
    cases u <;> rfl
  case indexA len sz g a i =>
    simp only [runOp, quietVal]
    generalize Opd.get σ a = u
    generalize asNat (Opd.get σ i) = j
    cases u <;> try rfl
    cases j <;> try rfl
    simp only
    split <;> rfl
  case indexS a i =>
    simp only [runOp, quietVal]
    generalize Opd.get σ a = u
    generalize asNat (Opd.get σ i) = j
    cases u <;> try rfl
    rename_i x
    cases x <;> try rfl
    cases j <;> try rfl
    simp only [Option.map_map]; rfl
  case extract a i =>
    simp only [runOp, quietVal]
    generalize Opd.get σ a = u
    cases u <;> rfl
  case faddr off a =>
    simp only [runOp, quietVal]
    generalize Opd.get σ a = u
    cases u <;> rfl
  case iaddrA len sz a i =>
    simp only [runOp, quietVal]
    generalize Opd.get σ a = u
    generalize asNat (Opd.get σ i) = j
    cases u <;> try rfl
    all_goals
      cases j <;> try rfl
      simp only
      split <;> rfl
  case iaddrS sz a i =>
    simp only [runOp, quietVal]
    generalize Opd.get σ a = u
    generalize asNat (Opd.get σ i) = j
    cases u <;> try rfl
    all_goals
      cases j <;> try rfl
      simp only
      split <;> rfl
  case arrOf len a =>
    simp only [runOp, quietVal]
    generalize Opd.get σ a = u
    cases u <;> try rfl
    all_goals
      simp only
      split <;> rfl
  case minMax mx as =>
    simp only [runOp, quietVal]
    generalize as.map (Opd.get σ) = us
    cases us <;> try rfl
    rename_i u us
    cases u <;> try rfl
    rename_i x
    cases x <;> try rfl
    simp only [Option.map_map]; rfl
  case part k a =>
    simp only [runOp, quietVal]
    generalize Opd.get σ a = u
    cases u <;> try rfl
    rename_i x
    cases x <;> rfl
  case cplx a b =>
    simp only [runOp, quietVal]
    generalize Opd.get σ a = u
    generalize Opd.get σ b = v
    cases u <;> try rfl
    rename_i x
    cases x <;> try rfl
    cases v <;> try rfl
    rename_i y
    cases y <;> try rfl
    simp only
    split <;> rfl
  case nilCheck a =>
    simp only [runOp, quietVal]
    generalize Opd.get σ a = u
    cases u <;> try rfl
    · rename_i x
      cases x <;> try rfl
      rename_i f _ _
      cases f <;> rfl
    · rename_i f _ _
      cases f <;> rfl
  all_goals
    simp only [runOp, quietVal] <;> first
      | rfl
      | simp only [Option.map_map, Function.comp_def]

/-! #### the same operands -/
theorem fillT_congr {get get' : Opd → T} : ∀ (ps : List (Nat × Nat × Opd)) (cs : List T), (∀ x ∈ ps.map (fun p => p.2.2), get' x = get x) → fillT get' cs ps = fillT get cs ps
  | [], cs, _ => rfl
  | (off, n, a) :: ps, cs, h => by
    simp only [fillT]
    rw [h a (by simp)]
    cases cellsOf (get a) with
    | none => rfl
    | some ns =>
      simp only [Option.bind_eq_bind, Option.bind_some]
      split
      · exact fillT_congr ps _ fun x hx => h x (by simp at hx ⊢; exact .inr hx)
      · rfl

theorem optNat_congr {get get' : Opd → T} {d : Nat} {x : Option Opd} (h : ∀ y ∈ x.toList, get' y = get y) : optNat get' d x = optNat get d x := by
  cases x with
  | none => rfl
  | some y => simp only [optNat]; rw [h y (by simp)]

theorem map_congr' {get get' : Opd → T} {as : List Opd} (h : ∀ x ∈ as, get' x = get x) : as.map get' = as.map get := List.map_congr_left h

theorem quietVal_congr {get get' : Opd → T} {bx : List (Option (List T))} {o : IOp} (h : ∀ x ∈ o.reads, get' x = get x) : quietVal get' bx o = quietVal get bx o := by
  cases o
  case build zero ps => simp only [quietVal]; rw [fillT_congr ps zero h]
  case minMax mx as => simp only [quietVal]; rw [map_congr' (as := as) h]
  case mkFunc fn a b =>
    simp only [quietVal]
    rw [map_congr' (as := a) fun x hx => h x (by simp [IOp.reads, hx]), map_congr' (as := b) fun x hx => h x (by simp [IOp.reads, hx])]
  case sliceS a lo hi =>
    simp only [IOp.reads, List.mem_cons, List.mem_append] at h
    simp only [quietVal]
    rw [h a (.inl rfl)]
    simp only [fun d => optNat_congr (d := d) (x := lo) (get := get) (get' := get') fun y hy => h y (.inr (.inl hy)), fun d => optNat_congr (d := d) (x := hi) (get := get) (get' := get') fun y hy => h y (.inr (.inr hy))]
  case sliceA len sz a lo hi =>
    simp only [IOp.reads, List.mem_cons, List.mem_append] at h
    simp only [quietVal]
    rw [h a (.inl rfl)]
    simp only [fun d => optNat_congr (d := d) (x := lo) (get := get) (get' := get') fun y hy => h y (.inr (.inl hy)), fun d => optNat_congr (d := d) (x := hi) (get := get) (get' := get') fun y hy => h y (.inr (.inr hy))]
  case sliceT sz a lo hi mx =>
    simp only [IOp.reads, List.mem_cons, List.mem_append] at h
    simp only [quietVal]
    rw [h a (.inl rfl)]
    simp only [fun d => optNat_congr (d := d) (x := lo) (get := get) (get' := get') fun y hy => h y (.inr (.inl hy)), fun d => optNat_congr (d := d) (x := hi) (get := get) (get' := get') fun y hy => h y (.inr (.inr (.inl hy))), fun d => optNat_congr (d := d) (x := mx) (get := get) (get' := get') fun y hy => h y (.inr (.inr (.inr hy)))]
  all_goals
    simp only [IOp.reads, List.mem_cons, List.not_mem_nil, or_false, forall_eq_or_imp, forall_eq, List.mem_singleton] at h
    simp only [quietVal, h]
end Go.Vi
end
section
/-
  A VERIFIED INTERPRETER (part 19): families that are given up: quiet operations don't mind.
-/
set_option linter.unusedSimpArgs false
set_option linter.unusedVariables false
namespace Go.Vi
open Go Go.RowKit

mutual
theorem strip_closed (d : Nat) : ∀ t : T, t.closed = true → t.strip d = t
  | .undef, _ => rfl
  | .v _, _ => rfl
  | .sl g n cs, h => by cases g <;> first | rfl | simp [T.closed] at h
  | .ptr .., _ => rfl
  | .ref .., _ => rfl
  | .bsl .., _ => rfl
  | .mref .., _ => rfl
  | .agg ts, h => by simp only [T.strip]; rw [stripL_closed d ts (by simpa [T.closed] using h)]
  | .tup ts, h => by simp only [T.strip]; rw [stripL_closed d ts (by simpa [T.closed] using h)]
  | .clo f a b, h => by
    simp only [T.closed, Bool.and_eq_true] at h
    simp only [T.strip]; rw [stripL_closed d a h.1, stripL_closed d b h.2]
theorem stripL_closed (d : Nat) : ∀ ts : List T, closedL ts = true → stripL d ts = ts
  | [], _ => rfl
  | t :: ts, h => by
    simp only [closedL, Bool.and_eq_true] at h
    simp only [stripL]; rw [strip_closed d t h.1, stripL_closed d ts h.2]
end

def stripB (d : Nat) (bx : List (Option (List T))) : List (Option (List T)) := bx.map (Option.map (stripL d))

theorem strip_one (d : Nat) (t : T) : (t.strip d).one = t.one := by
  cases t <;> try rfl
  rename_i g n cs
  cases g <;> rfl

theorem strip_v {d : Nat} {t : T} {x : Value} : t.strip d = .v x ↔ t = .v x := by
  cases t with
  | sl g n cs => cases g <;> simp [T.strip]
  | _ => simp [T.strip]

theorem asNat_strip (d : Nat) (t : T) : asNat (t.strip d) = asNat t := by
  cases t <;> try rfl
  rename_i g n cs
  cases g <;> rfl

theorem one?_strip (d : Nat) (g : Bool) (n : Nat) (cs : List T) (off : Nat) : one? g n (stripL d cs) off = (one? g n cs off).map (T.strip d) := by
  unfold one?
  cases g with
  | true =>
    simp only [if_true, stripL_map, List.length_map]
    split
    · simp [T.strip, stripL_map, List.map_take, List.map_drop]
    · rfl
  | false => simp [stripL_map]

theorem cellsOf_strip (d : Nat) (t : T) : cellsOf (t.strip d) = (cellsOf t).map (stripL d) := by
  cases t <;> try rfl
  rename_i g n cs
  cases g <;> rfl

theorem setCells_strip (d : Nat) (cs : List T) (off : Nat) (ns : List T) : setCells (stripL d cs) off (stripL d ns) = stripL d (setCells cs off ns) := by
  simp [setCells, stripL_map, List.map_take, List.map_drop]

theorem stripL_length (d : Nat) (ts : List T) : (stripL d ts).length = ts.length := by simp [stripL_map]

theorem stripL_one (d : Nat) (ts : List T) : (stripL d ts).all T.one = ts.all T.one := by
  induction ts with
  | nil => rfl
  | cons t ts ih => simp [stripL, strip_one, ih]

theorem fillT_strip (d : Nat) {get : Opd → T} : ∀ (ps : List (Nat × Nat × Opd)) (cs : List T), fillT (fun x => (get x).strip d) (stripL d cs) ps = (fillT get cs ps).map (stripL d)
  | [], cs => rfl
  | (off, n, a) :: ps, cs => by
    simp only [fillT]
    rw [cellsOf_strip]
    cases cellsOf (get a) with
    | none => rfl
    | some ns =>
      simp only [Option.bind_eq_bind, Option.map_some, Option.bind_some, stripL_length, stripL_one]
      split
      · rw [setCells_strip, fillT_strip d ps]
      · rfl

theorem optNat_strip (d : Nat) {get : Opd → T} {k : Nat} (x : Option Opd) : optNat (fun x => (get x).strip d) k x = optNat get k x := by
  cases x with
  | none => rfl
  | some y => simp only [optNat, asNat_strip]

theorem eqCell_strip (d : Nat) (k : LK) (a b : T) : eqCell k (a.strip d) (b.strip d) = eqCell k a b := by
  have h : ∀ t : T, (∃ x, t = .v x) ∨ ((∀ x, t ≠ .v x) ∧ ∀ x, t.strip d ≠ .v x) := fun t => by
    cases t with
    | v x => exact .inl ⟨x, rfl⟩
    | _ => refine .inr ⟨by simp, fun x h => ?_⟩; rw [strip_v] at h; cases h
  have hn : ∀ (k : LK) (a b : T), (∀ x, a ≠ .v x) → eqCell k a b = none := fun k a b h => by
    cases a <;> first | exact absurd rfl (h _) | (cases k <;> rfl)
  have hn' : ∀ (k : LK) (a b : T), (∀ x, b ≠ .v x) → eqCell k a b = none := fun k a b h => by
    cases b <;> first | exact absurd rfl (h _) | (cases k <;> cases a <;> first | rfl | (rename_i x; cases x <;> rfl))
  rcases h a with ⟨x, rfl⟩ | ⟨h1, h2⟩
  · rcases h b with ⟨y, rfl⟩ | ⟨h3, h4⟩
    · rfl
    · rw [hn' _ _ _ h3, hn' _ _ _ h4]
  · rw [hn _ _ _ h1, hn _ _ _ h2]

theorem eqCells_strip (d : Nat) : ∀ (ks : List LK) (xs ys : List T), eqCells ks (stripL d xs) (stripL d ys) = eqCells ks xs ys
  | [], [], [] => rfl
  | [], [], _ :: _ => rfl
  | [], _ :: _, [] => rfl
  | [], _ :: _, _ :: _ => rfl
  | _ :: _, [], [] => rfl
  | _ :: _, [], _ :: _ => rfl
  | _ :: _, _ :: _, [] => rfl
  | k :: ks, a :: as, b :: bs => by simp only [stripL, eqCells, eqCell_strip, eqCells_strip d ks]

theorem foldMM_strip (d : Nat) (mx : Bool) : ∀ (ts : List T) (acc : Int), foldMM mx acc (stripL d ts) = foldMM mx acc ts
  | [], acc => rfl
  | t :: ts, acc => by
    simp only [stripL]
    cases t <;> try rfl
    · rename_i x
      simp only [T.strip]
      cases x <;> try rfl
      simp only [foldMM]
      rw [foldMM_strip d mx ts]
    · rename_i g n cs
      cases g <;> rfl

theorem lenT_strip (d : Nat) (str : Bool) (t : T) : lenT str (t.strip d) = lenT str t := by
  cases t <;> try rfl
  rename_i g n cs
  cases g <;> rfl

theorem binT_strip (d : Nat) (op : BinOp) (ty : TypeId) (a b : T) : binT op ty (a.strip d) (b.strip d) = binT op ty a b := by
  have hn : ∀ (a b : T), (∀ x, a ≠ .v x) → binT op ty a b = none := fun a b h => by
    cases a <;> first | exact absurd rfl (h _) | rfl
  have hn' : ∀ (a b : T), (∀ x, b ≠ .v x) → binT op ty a b = none := fun a b h => by
    cases b <;> first | exact absurd rfl (h _) | (cases a <;> rfl)
  by_cases h1 : ∃ x, a = .v x
  · obtain ⟨x, rfl⟩ := h1
    by_cases h2 : ∃ x, b = .v x
    · obtain ⟨y, rfl⟩ := h2; rfl
    · rw [hn' _ b fun x h => h2 ⟨x, h⟩, hn' _ (b.strip d) fun x h => h2 ⟨x, strip_v.1 h⟩]
  · rw [hn a _ fun x h => h1 ⟨x, h⟩, hn (a.strip d) _ fun x h => h1 ⟨x, strip_v.1 h⟩]

theorem binT_v {op : BinOp} {ty : TypeId} {a b t : T} (h : binT op ty a b = some t) (d : Nat) : t.strip d = t := by
  unfold binT at h
  split at h
  · split at h
    · obtain ⟨x, _, rfl⟩ := Option.map_eq_some_iff.1 h; rfl
    · cases h
  · cases h

theorem findT_strip (d : Nat) (k : LK) (key : T) : ∀ cs : List T, findT k (key.strip d) (stripL d cs) = (findT k key cs).map (Option.map (T.strip d))
  | [] => rfl
  | [_] => rfl
  | a :: v :: cs => by
    simp only [stripL, findT, eqCell_strip]
    cases eqCell k key a with
    | none => rfl
    | some e =>
      simp only [Option.bind_some]
      split
      · rfl
      · exact findT_strip d k key cs

/-- What an operation asks of its constants. -/
def zeroOk : IOp → Bool
  | .build zero _ | .alloc _ zero | .bslice _ _ _ _ zero _ => closedL zero
  | .lookup _ zero _ _ _ => zero.closed
  | _ => true

theorem quietVal_strip (d : Nat) {get : Opd → T} {bx : List (Option (List T))} {o : IOp} (hz : zeroOk o = true) : quietVal (fun x => (get x).strip d) (stripB d bx) o = (quietVal get bx o).map (T.strip d) := by
  cases o <;> try rfl
  case pick c a b =>
    simp only [quietVal]
    generalize get c = u
    cases u <;> try rfl
    · rename_i x
      simp only [T.strip]
      cases x <;> try rfl
      simp only [Option.map_some]
      split <;> rfl
    · rename_i g n cs
      cases g <;> rfl
  case bin op t a b =>
    simp only [quietVal, binT_strip]
    cases h : binT op t (get a) (get b) with
    | none => rfl
    | some r => simp [binT_v h]
  case eqb neg a b =>
    simp only [quietVal]
    generalize get a = u
    generalize get b = v
    cases u <;> try rfl
    · rename_i x
      simp only [T.strip]
      cases x <;> try rfl
      cases v <;> try rfl
      · rename_i y
        simp only [T.strip]
        cases y <;> rfl
      · rename_i g n cs
        cases g <;> rfl
    · rename_i g n cs
      cases g <;> rfl
  case eqa neg ks a b =>
    simp only [quietVal]
    generalize get a = u
    generalize get b = v
    cases u <;> try rfl
    · rename_i g n cs
      cases g <;> rfl
    · rename_i xs
      cases v <;> try rfl
      · rename_i g n cs
        cases g <;> rfl
      · rename_i ys
        simp only [T.strip, eqCells_strip, Option.map_map]
        rfl
  case eqnil neg a =>
    simp only [quietVal]
    generalize get a = u
    cases u <;> try rfl
    · rename_i g n cs
      cases g <;> try rfl
      · simp only [T.strip]; split <;> rfl
      · simp only [T.strip]; split <;> rfl
      · rename_i k e
        by_cases h : hit d k = true
        · simp only [T.strip, h, if_true]; split <;> rfl
        · simp only [T.strip, h]; simp only [Bool.false_eq_true, if_false]; split <;> rfl
    · simp only [T.strip]; split <;> rfl
  case lookup k zero ok a i =>
    simp only [quietVal]
    generalize get a = u
    cases u <;> try rfl
    · rename_i g n cs
      cases g <;> rfl
    · rename_i s
      simp only [T.strip, stripB, List.getElem?_map]
      cases bx[s]? with
      | none => rfl
      | some ob =>
        cases ob with
        | none => rfl
        | some cs =>
          simp only [Option.map_some, findT_strip, Option.map_map]
          refine congrArg (fun f => Option.map f (findT k (get i) cs)) (funext fun r => ?_)
          have hzz : zero.strip d = zero := strip_closed d zero (by simpa [zeroOk] using hz)
          cases r <;> cases ok <;> simp [T.strip, stripL, hzz]
  case capS a =>
    simp only [quietVal]
    generalize get a = u
    cases u <;> try rfl
    · rename_i g n cs
      cases g with
      | own k e =>
        simp only [T.strip]
        cases hit d k <;> rfl
      | _ => rfl
    · rename_i s o n c
      cases n <;> cases c <;> rfl
  case lenM a =>
    simp only [quietVal]
    generalize get a = u
    cases u <;> try rfl
    · rename_i g n cs
      cases g <;> rfl
    · rename_i s
      simp only [T.strip, stripB, List.getElem?_map]
      cases bx[s]? with
      | none => rfl
      | some ob =>
        cases ob with
        | none => rfl
        | some cs => simp only [Option.map_some, stripL_length, T.strip]
  case un op a =>
    simp only [quietVal]
    generalize get a = u
    cases u <;> try rfl
    · simp only [T.strip, Option.map_map]; rfl
    · rename_i g n cs
      cases g <;> rfl
  case toInt k a =>
    simp only [quietVal]
    generalize get a = u
    cases u <;> try rfl
    · rename_i x
      simp only [T.strip]
      cases x <;> try rfl
      simp only [Option.map_map]; rfl
    · rename_i g n cs
      cases g <;> rfl
  case toFloat k a =>
    simp only [quietVal]
    generalize get a = u
    cases u <;> try rfl
    · rename_i x
      simp only [T.strip]
      cases x <;> rfl
    · rename_i g n cs
      cases g <;> rfl
  case toStr a =>
    simp only [quietVal]
    generalize get a = u
    cases u <;> try rfl
    rename_i g n cs
    cases g <;> simp only [T.strip] <;> split <;> first | rfl | (simp only [Option.map_map]; rfl)
  case build zero ps =>
    simp only [quietVal]
    have hzz : stripL d zero = zero := stripL_closed d zero (by simpa [zeroOk] using hz)
    have := fillT_strip d (get := get) ps zero
    rw [hzz] at this
    rw [this]
    simp only [Option.map_map]; rfl
  case field g off n a =>
    simp only [quietVal]
    generalize get a = u
    cases u <;> try rfl
    · rename_i g n cs
      cases g <;> rfl
    · simp only [T.strip, one?_strip]
  case indexA len sz g a i =>
    simp only [quietVal, asNat_strip]
    generalize get a = u
    generalize asNat (get i) = j
    cases u <;> try rfl
    · rename_i g n cs
      cases g <;> rfl
    · cases j <;> try rfl
      simp only [T.strip, one?_strip]
      split <;> rfl
  case indexS a i =>
    simp only [quietVal, asNat_strip]
    generalize get a = u
    generalize asNat (get i) = j
    cases u <;> try rfl
    · rename_i x
      simp only [T.strip]
      cases x <;> try rfl
      cases j <;> try rfl
      simp only [Option.map_map]; rfl
    · rename_i g n cs
      cases g <;> rfl
  case extract a i =>
    simp only [quietVal]
    generalize get a = u
    cases u <;> try rfl
    · rename_i g n cs
      cases g <;> rfl
    · simp [T.strip, stripL_map]
  case load g n a =>
    simp only [quietVal]
    generalize get a = u
    cases u <;> try rfl
    · rename_i g n cs
      cases g <;> rfl
    · rename_i cs off
      simp only [T.strip]
      cases h : one? g n cs off with
      | none => rfl
      | some t =>
        by_cases hc : t.closed = true
        · simp [Option.filter, hc, strip_closed d t hc]
        · simp [Option.filter, hc]
    · rename_i s off
      simp only [T.strip, stripB, List.getElem?_map]
      cases bx[s]? with
      | none => rfl
      | some ob =>
        cases ob with
        | none => rfl
        | some cs => simp only [Option.map_some, one?_strip]
  case faddr off a =>
    simp only [quietVal]
    generalize get a = u
    cases u <;> try rfl
    rename_i g n cs
    cases g <;> rfl
  case iaddrA len sz a i =>
    simp only [quietVal, asNat_strip]
    generalize get a = u
    generalize asNat (get i) = j
    cases u <;> try rfl
    · rename_i g n cs
      cases g <;> rfl
    all_goals
      cases j <;> try rfl
      simp only [T.strip]
      split <;> rfl
  case iaddrS sz a i =>
    simp only [quietVal, asNat_strip]
    generalize get a = u
    generalize asNat (get i) = j
    cases u <;> try rfl
    · rename_i g n cs
      cases j <;> cases g <;> simp only [T.strip] <;> first | rfl | (split <;> rfl)
    · cases j <;> try rfl
      simp only [T.strip]
      split <;> rfl
  case sliceS a lo hi =>
    simp only [quietVal, optNat_strip]
    generalize get a = u
    cases u <;> try rfl
    · rename_i x
      simp only [T.strip]
      cases x <;> try rfl
      rename_i s
      simp only
      cases optNat get s.size hi <;> try rfl
      cases optNat get 0 lo <;> try rfl
      simp only [Option.bind_eq_bind, Option.bind_some]
      split <;> rfl
    · rename_i g n cs
      cases g <;> rfl
  case sliceA len sz a lo hi =>
    simp only [quietVal, optNat_strip]
    generalize get a = u
    cases u <;> try rfl
    · rename_i g n cs
      cases g <;> rfl
    · rename_i s o
      simp only [T.strip, stripB, List.getElem?_map]
      cases optNat get len hi <;> try rfl
      cases optNat get 0 lo <;> try rfl
      simp only [Option.bind_eq_bind, Option.bind_some]
      cases bx[s]? with
      | none => rfl
      | some ob =>
        cases ob with
        | none => rfl
        | some cs => simp only [Option.map_some, stripL_length]; split <;> rfl
  case sliceT sz a lo hi mx =>
    simp only [quietVal, optNat_strip]
    generalize get a = u
    cases u <;> try rfl
    · rename_i g n cs
      have key : ∀ g : Tag, (do
          let h ← optNat get n hi
          let l ← optNat get 0 lo
          let m ← optNat get n mx
          if l ≤ h ∧ h ≤ m ∧ m ≤ n then some (T.sl (if g = .nil then .nil else if mx.isSome ∧ h = m then .clip else .any) (h - l) ((cs.drop (l * sz)).take ((h - l) * sz)))
          else none) = Option.map (T.strip d) (do
          let h ← optNat get n hi
          let l ← optNat get 0 lo
          let m ← optNat get n mx
          if l ≤ h ∧ h ≤ m ∧ m ≤ n then some (T.sl (if g = .nil then .nil else if mx.isSome ∧ h = m then .clip else .any) (h - l) ((cs.drop (l * sz)).take ((h - l) * sz)))
          else none) := by
        intro g
        cases optNat get n hi <;> try rfl
        cases optNat get 0 lo <;> try rfl
        cases optNat get n mx <;> try rfl
        simp only [Option.bind_eq_bind, Option.bind_some]
        split <;> try rfl
        simp only [Option.map_some, Option.some.injEq]
        split <;> first | rfl | (split <;> rfl)
      cases g with
      | own k e =>
        simp only [T.strip]
        have h1 := key .any
        split <;> simpa using h1
      | nil => exact key .nil
      | any => exact key .any
      | imm => exact key .imm
      | clip => exact key .clip
    · simp only [T.strip]
      rename_i s o n c
      cases optNat get n hi <;> try rfl
      cases optNat get 0 lo <;> try rfl
      cases optNat get n mx <;> try rfl
      simp only [Option.bind_eq_bind, Option.bind_some]
      split <;> rfl
  case arrOf len a =>
    simp only [quietVal]
    generalize get a = u
    cases u <;> try rfl
    · rename_i g n cs
      cases g <;> simp only [T.strip] <;> split <;> rfl
    · simp only [T.strip]
      split <;> rfl
  case len str a =>
    simp only [quietVal, lenT_strip]
    generalize get a = u
    cases u <;> try rfl
    all_goals simp only [lenT]
    · rename_i x
      cases x <;> try rfl
      simp only; split <;> rfl
    all_goals split <;> rfl
  case minMax mx as =>
    simp only [quietVal]
    have : as.map (fun x => (get x).strip d) = stripL d (as.map get) := by simp [stripL_map, Function.comp_def]
    rw [this]
    generalize as.map get = us
    cases us <;> try rfl
    rename_i u us
    simp only [stripL]
    cases u <;> try rfl
    · rename_i x
      simp only [T.strip]
      cases x <;> try rfl
      simp only [foldMM_strip, Option.map_map]; rfl
    · rename_i g n cs
      cases g <;> rfl
  case part k a =>
    simp only [quietVal]
    generalize get a = u
    cases u <;> try rfl
    · rename_i x
      simp only [T.strip]
      cases x <;> try rfl
    · rename_i g n cs
      cases g <;> rfl
  case cplx a b =>
    simp only [quietVal]
    generalize get a = u
    generalize get b = v
    cases u <;> try rfl
    · rename_i x
      simp only [T.strip]
      cases x <;> try rfl
      cases v <;> try rfl
      · rename_i y
        simp only [T.strip]
        cases y <;> try rfl
        simp only
        split <;> rfl
      · rename_i g n cs
        cases g <;> rfl
    · rename_i g n cs
      cases g <;> rfl
  case mkFunc fn a b =>
    simp only [quietVal, Option.map_some, T.strip, stripL_map, List.map_map]
    rfl
  case nilCheck a =>
    simp only [quietVal]
    generalize get a = u
    cases u <;> try rfl
    · rename_i x
      simp only [T.strip]
      cases x <;> try rfl
      rename_i f _ _
      cases f <;> rfl
    · rename_i g n cs
      cases g <;> rfl
    · rename_i f _ _
      cases f <;> rfl
end Go.Vi
end
section
/-
  A VERIFIED INTERPRETER (part 20): operations that change places.
-/
set_option linter.unusedSimpArgs false
set_option linter.unusedVariables false
namespace Go.Vi
open Go Go.RowKit

def stripsT : List Nat → T → T
  | [], t => t
  | d :: ds, t => stripsT ds (t.strip d)

def St.strips : List Nat → St → St
  | [], σ => σ
  | d :: ds, σ => St.strips ds (σ.strip d)

theorem strips_rs : ∀ (ds : List Nat) (σ : St), (σ.strips ds).rs = σ.rs.map (stripsT ds)
  | [], σ => by simp [St.strips, show stripsT [] = id from funext fun _ => rfl]
  | d :: ds, σ => by
    simp only [St.strips]
    rw [strips_rs ds]
    simp only [St.strip, stripL_map, List.map_map]
    rfl
theorem strips_vars : ∀ (ds : List Nat) (σ : St), (σ.strips ds).vars = σ.vars.map (stripsT ds)
  | [], σ => by simp [St.strips, show stripsT [] = id from funext fun _ => rfl]
  | d :: ds, σ => by
    simp only [St.strips]
    rw [strips_vars ds]
    simp only [St.strip, stripL_map, List.map_map]
    rfl
theorem strips_boxes : ∀ (ds : List Nat) (σ σ' : St), σ.boxes = σ'.boxes → (σ.strips ds).boxes = (σ'.strips ds).boxes
  | [], σ, σ', h => h
  | d :: ds, σ, σ', h => by
    simp only [St.strips]
    exact strips_boxes ds _ _ (by simp only [St.strip, h])

theorem strips_put (ds : List Nat) (σ : St) (p : Nat) (t : T) : St.strips ds { σ with rs := σ.rs.set p t } = { σ.strips ds with rs := (σ.strips ds).rs.set p (stripsT ds t) } := by
  have h1 := strips_rs ds { σ with rs := σ.rs.set p t }
  have h2 := strips_vars ds { σ with rs := σ.rs.set p t }
  have h3 := strips_boxes ds { σ with rs := σ.rs.set p t } σ rfl
  have h4 := strips_rs ds σ
  have h5 := strips_vars ds σ
  generalize St.strips ds { σ with rs := σ.rs.set p t } = a at *
  generalize St.strips ds σ = b at *
  cases a; cases b
  simp only at h1 h2 h3 h4 h5
  subst h1 h2 h3 h4 h5
  simp [List.map_set]

theorem stripsT_skipped (ds : List Nat) : stripsT ds T.skipped = T.skipped := by
  induction ds with
  | nil => rfl
  | cons d ds ih => exact ih

/-- Whether a constant is one. -/
def Opd.cOk : Opd → Bool
  | .c t => t.closed
  | _ => true

def constOk (o : IOp) : Bool := o.reads.all Opd.cOk

def Opd.isR (p : Nat) : Opd → Bool
  | .r i => i == p
  | _ => false

theorem get_put {σ : St} {p : Nat} {t : T} {x : Opd} (h : x.isR p = false) : x.get { σ with rs := σ.rs.set p t } = x.get σ := by
  cases x <;> try rfl
  rename_i i
  simp only [Opd.isR, beq_eq_false_iff_ne, ne_eq] at h
  simp only [Opd.get, List.getD_eq_getElem?_getD, List.getElem?_set, if_neg (fun h' => h h'.symm : ¬ p = i)]

theorem get_strip {σ : St} {d : Nat} {x : Opd} (h : x.cOk = true) : x.get (σ.strip d) = (x.get σ).strip d := by
  cases x with
  | c t => exact (strip_closed d t h).symm
  | r i =>
    simp only [Opd.get, St.strip, List.getD_eq_getElem?_getD, stripL_map, List.getElem?_map]
    cases σ.rs[i]? <;> rfl
  | x i =>
    simp only [Opd.get, St.strip, List.getD_eq_getElem?_getD, stripL_map, List.getElem?_map]
    cases σ.vars[i]? <;> rfl

/-- A quiet operation, families having been given up. -/
theorem quiet_strip {C : FuncId → List T → Option T} {σ : St} {o : IOp} {d : Nat} (hq : o.quiet = true) (hz : zeroOk o = true) (hc : constOk o = true) :
    runOp C (σ.strip d) o = (runOp C σ o).map fun p => (p.1.strip d, p.2.strip d) := by
  rw [runOp_quiet hq, runOp_quiet hq]
  have h1 : quietVal (Opd.get (σ.strip d)) (σ.strip d).boxes o = quietVal (fun x => (x.get σ).strip d) (stripB d σ.boxes) o := by
    refine quietVal_congr fun x hx => get_strip ?_
    simp only [constOk, List.all_eq_true] at hc
    exact hc x hx
  rw [h1, quietVal_strip d hz]
  cases quietVal (Opd.get σ) σ.boxes o <;> rfl

theorem quiet_strips {C : FuncId → List T → Option T} {o : IOp} (hq : o.quiet = true) (hz : zeroOk o = true) (hc : constOk o = true) : ∀ (ds : List Nat) (σ : St),
    runOp C (σ.strips ds) o = (runOp C σ o).map fun p => (stripsT ds p.1, p.2.strips ds)
  | [], σ => by simp [St.strips, stripsT]
  | d :: ds, σ => by
    simp only [St.strips]
    rw [quiet_strips hq hz hc ds, quiet_strip hq hz hc]
    simp only [Option.map_map]
    rfl

theorem quiet_same {C : FuncId → List T → Option T} {σ σ1 : St} {o : IOp} {t : T} (hq : o.quiet = true) (h : runOp C σ o = some (t, σ1)) : σ1 = σ := by
  rw [runOp_quiet hq] at h
  obtain ⟨x, _, hx⟩ := Option.map_eq_some_iff.1 h
  simp only [Prod.mk.injEq] at hx
  exact hx.2.symm

theorem pure_boxes {get : Opd → T} {bx bx' : List (Option (List T))} {o : IOp} (hp : o.pure = true) : quietVal get bx o = quietVal get bx' o := by
  cases o <;> first | rfl | simp [IOp.pure] at hp

/-- Leaves the boxes as they are. -/
def IOp.boxless : IOp → Bool
  | .bsliceB .. | .alloc .. | .box .. | .mkBox .. | .store .. | .copy .. | .clearS .. | .appendB .. | .mkMap .. | .mapUpdate .. | .thaw .. | .callnew .. | .callio .. | .callvio .. => false
  | _ => true

/-- What changes both boxes and what is told of others. -/
def IOp.loud : IOp → Bool
  | .appendB .. | .thaw .. | .callnew .. | .callio .. | .callvio .. => true
  | _ => false

/-- What an operation does, looked at apart from what it does not read. -/
theorem runOp_eff {C : FuncId → List T → Option T} {σ σ1 : St} {o : IOp} {t : T} (hld : o.loud = false) (hr : runOp C σ o = some (t, σ1)) : ∃ ds bx, (o.quiet = true ∨ o.boxless = false → ds = []) ∧ (o.boxless = true → bx = σ.boxes) ∧ σ1 = St.strips ds { σ with boxes := bx } ∧
    ∀ rs vars, (∀ x ∈ o.reads, x.get ⟨rs, vars, σ.boxes⟩ = x.get σ) → runOp C ⟨rs, vars, σ.boxes⟩ o = some (t, St.strips ds ⟨rs, vars, bx⟩) := by
  by_cases hq : o.quiet = true
  · have hsame := quiet_same hq hr
    rw [hsame] at hr ⊢
    refine ⟨[], σ.boxes, fun _ => rfl, fun _ => rfl, rfl, fun rs vars h => ?_⟩
    rw [runOp_quiet hq] at hr ⊢
    rw [quietVal_congr (get := Opd.get σ) h]
    obtain ⟨x, hx, hxx⟩ := Option.map_eq_some_iff.1 hr
    simp only [Prod.mk.injEq] at hxx
    obtain ⟨rfl, _⟩ := hxx
    simp only [hx, Option.map_some]
    rfl
  · have callT : ∀ {d f as}, runOp.callT C σ d f as = some (t, σ1) → σ1 = St.strips [2 * d] σ ∧ ∀ rs vars, runOp.callT C ⟨rs, vars, σ.boxes⟩ d f as = some (t, St.strips [2 * d] ⟨rs, vars, σ.boxes⟩) := by
      intro d f as hr
      simp only [runOp.callT, Option.bind_eq_bind] at hr
      obtain ⟨cs, hcs, hr⟩ := Option.bind_eq_some_iff.1 hr
      obtain ⟨r, hr', hr⟩ := Option.bind_eq_some_iff.1 hr
      split at hr <;> try (cases hr; done)
      rename_i hfr
      simp only [Option.some.injEq, Prod.mk.injEq] at hr
      obtain ⟨rfl, rfl⟩ := hr
      refine ⟨rfl, fun rs vars => ?_⟩
      simp only [runOp.callT, Option.bind_eq_bind, hcs, Option.bind_some, hr', if_neg hfr]
      rfl
    cases o <;> try (exact absurd rfl hq)
    all_goals try (simp [IOp.loud] at hld; done)
    case alloc s zero =>
      simp only [runOp] at hr
      split at hr <;> try (cases hr; done)
      rename_i hb
      split at hr <;> try (cases hr; done)
      rename_i h1
      simp only [Option.some.injEq, Prod.mk.injEq] at hr
      obtain ⟨rfl, rfl⟩ := hr
      exact ⟨[], σ.boxes.set s (some zero), fun _ => rfl, fun h => by simp [IOp.boxless] at h, rfl, fun rs vars h => by simp only [runOp, hb, if_pos h1]; rfl⟩
    case box s a =>
      simp only [runOp] at hr
      split at hr <;> try (cases hr; done)
      rename_i cs hb hc
      split at hr <;> try (cases hr; done)
      rename_i h1
      simp only [Option.some.injEq, Prod.mk.injEq] at hr
      obtain ⟨rfl, rfl⟩ := hr
      refine ⟨[], σ.boxes.set s (some cs), fun _ => rfl, fun h => by simp [IOp.boxless] at h, rfl, fun rs vars h => ?_⟩
      simp only [IOp.reads, List.mem_singleton, forall_eq] at h
      simp only [runOp, hb, h, hc, h1, if_true]
      rfl
    case store n a b =>
      simp only [runOp] at hr
      split at hr <;> try (cases hr; done)
      rename_i s off ns ha hn
      split at hr <;> try (cases hr; done)
      rename_i cs hb
      split at hr <;> try (cases hr; done)
      rename_i h1
      simp only [Option.some.injEq, Prod.mk.injEq] at hr
      obtain ⟨rfl, rfl⟩ := hr
      refine ⟨[], σ.boxes.set s (some (setCells cs off ns)), fun _ => rfl, fun h => by simp [IOp.boxless] at h, rfl, fun rs vars h => ?_⟩
      simp only [IOp.reads, List.mem_cons, List.not_mem_nil, or_false, forall_eq_or_imp, forall_eq] at h
      simp only [runOp, hb, h, ha, hn]
      rw [if_pos h1]
      rfl
    case copy sz a b =>
      simp only [runOp] at hr
      split at hr <;> try (cases hr; done)
      rename_i s o n c m ys ha hsrc
      split at hr <;> try (cases hr; done)
      rename_i cs hb
      split at hr <;> try (cases hr; done)
      rename_i h1
      simp only [Option.some.injEq, Prod.mk.injEq] at hr
      obtain ⟨rfl, rfl⟩ := hr
      refine ⟨[], σ.boxes.set s (some (setCells cs o (ys.take (min m n * sz)))), fun _ => rfl, fun h => by simp [IOp.boxless] at h, rfl, fun rs vars h => ?_⟩
      simp only [IOp.reads, List.mem_cons, List.not_mem_nil, or_false, forall_eq_or_imp, forall_eq] at h
      simp only [runOp, hb, h, ha]
      rw [hsrc]
      simp only [hb]
      rw [if_pos h1]
      rfl
    case mkSlice d e sz bytes zero n =>
      simp only [runOp] at hr
      split at hr <;> try (cases hr; done)
      rename_i k hk
      split at hr <;> try (cases hr; done)
      rename_i h1
      simp only [Option.some.injEq, Prod.mk.injEq] at hr
      obtain ⟨rfl, rfl⟩ := hr
      refine ⟨[2 * d], σ.boxes, fun h => absurd h (by simp [IOp.quiet, IOp.pure, IOp.boxless]), fun _ => rfl, rfl, fun rs vars h => ?_⟩
      simp only [IOp.reads, List.mem_singleton, forall_eq] at h
      simp only [runOp, h, hk]
      rw [if_pos h1]
      rfl
    case bsliceB s sz len zero ps =>
      simp only [runOp] at hr
      split at hr <;> try (cases hr; done)
      rename_i hb
      obtain ⟨cs, hcs, hr⟩ := Option.bind_eq_some_iff.1 hr
      split at hr <;> try (cases hr; done)
      rename_i h1
      simp only [Option.some.injEq, Prod.mk.injEq] at hr
      obtain ⟨rfl, rfl⟩ := hr
      refine ⟨[], σ.boxes.set s (some cs), fun _ => rfl, fun h => by simp [IOp.boxless] at h, rfl, fun rs vars h => ?_⟩
      simp only [runOp, hb]
      rw [fillT_congr (get := Opd.get σ) ps _ fun x hx => h x hx, hcs, Option.bind_some, if_pos h1]
      rfl
    case mkCap d e bytes n =>
      simp only [runOp] at hr
      split at hr <;> try (cases hr; done)
      rename_i k hk
      split at hr <;> try (cases hr; done)
      rename_i h1
      simp only [Option.some.injEq, Prod.mk.injEq] at hr
      obtain ⟨rfl, rfl⟩ := hr
      refine ⟨[2 * d], σ.boxes, fun h => absurd h (by simp [IOp.quiet, IOp.pure, IOp.boxless]), fun _ => rfl, rfl, fun rs vars h => ?_⟩
      simp only [IOp.reads, List.mem_singleton, forall_eq] at h
      simp only [runOp, h, hk]
      rw [if_pos h1]
      rfl
    case mkBox s sz bytes zero n =>
      simp only [runOp] at hr
      split at hr <;> try (cases hr; done)
      rename_i k hk hb
      split at hr <;> try (cases hr; done)
      rename_i h1
      simp only [Option.some.injEq, Prod.mk.injEq] at hr
      obtain ⟨rfl, rfl⟩ := hr
      refine ⟨[], σ.boxes.set s (some (List.replicate k zero).flatten), fun _ => rfl, fun h => by simp [IOp.boxless] at h, rfl, fun rs vars h => ?_⟩
      simp only [IOp.reads, List.mem_singleton, forall_eq] at h
      simp only [runOp, h, hk, hb]
      rw [if_pos h1]
      rfl
    case bslice d e sz len zero ps =>
      simp only [runOp, Option.bind_eq_bind] at hr
      obtain ⟨cs, hcs, hr⟩ := Option.bind_eq_some_iff.1 hr
      split at hr <;> try (cases hr; done)
      rename_i h1
      simp only [Option.some.injEq, Prod.mk.injEq] at hr
      obtain ⟨rfl, rfl⟩ := hr
      refine ⟨[2 * d], σ.boxes, fun h => absurd h (by simp [IOp.quiet, IOp.pure, IOp.boxless]), fun _ => rfl, rfl, fun rs vars h => ?_⟩
      simp only [runOp, Option.bind_eq_bind]
      rw [fillT_congr (get := fun a => (Opd.get σ a).weak) ps _ fun x hx => by simp only [h x hx], hcs, Option.bind_some, if_pos h1]
      rfl
    case append d e sz bytes zero kind a b =>
      simp only [runOp] at hr
      split at hr <;> try (cases hr; done)
      rename_i g n xs m ys ha hsrc
      split at hr <;> try (cases hr; done)
      rename_i h1
      have fin : ∀ (ds : List Nat) (r : T), (∀ σ' : St, (match (generalizing := false) g with
        | .own k e' => if e' = e then some (.sl (.own (8 * d) e) (n + m) (xs ++ ys), (σ'.strip (2 * k + 1)).strip (2 * d)) else none
        | .nil => if n = 0 then some (.sl (.own (8 * d) e) m ys, σ'.strip (2 * d)) else none
        | .clip => if m = 0 then (if n = 0 then some (.sl (.own (8 * d) e) 0 [], σ'.strip (2 * d)) else none) else some (.sl (.own (8 * d) e) (n + m) (xs ++ ys), σ'.strip (2 * d))
        | .imm => if m = 0 then some (.sl .any n xs, σ') else none
        | .any => if m = 0 then some (.sl .any n xs, σ') else none : Option (T × St)) = some (r, St.strips ds σ')) → t = r → σ1 = St.strips ds σ → ∃ ds bx, ((IOp.append d e sz bytes zero kind a b).quiet = true ∨ (IOp.append d e sz bytes zero kind a b).boxless = false → ds = []) ∧ ((IOp.append d e sz bytes zero kind a b).boxless = true → bx = σ.boxes) ∧ σ1 = St.strips ds { σ with boxes := bx } ∧
          ∀ rs vars, (∀ x ∈ (IOp.append d e sz bytes zero kind a b).reads, x.get ⟨rs, vars, σ.boxes⟩ = x.get σ) → runOp C ⟨rs, vars, σ.boxes⟩ (IOp.append d e sz bytes zero kind a b) = some (t, St.strips ds ⟨rs, vars, bx⟩) := by
        intro ds r hall ht hσ
        subst ht
        refine ⟨ds, σ.boxes, fun h => absurd h (by simp [IOp.quiet, IOp.pure, IOp.boxless]), fun _ => rfl, hσ, fun rs vars h => ?_⟩
        simp only [IOp.reads, List.mem_cons, List.not_mem_nil, or_false, forall_eq_or_imp, forall_eq] at h
        simp only [runOp, h, ha]
        rw [hsrc]
        simp only
        rw [if_pos h1]
        exact hall ⟨rs, vars, σ.boxes⟩
      cases g with
      | nil =>
        simp only at hr
        split at hr <;> try (cases hr; done)
        rename_i hm
        simp only [Option.some.injEq, Prod.mk.injEq] at hr
        exact fin [2 * d] _ (fun σ' => by simp only [if_pos hm]; rfl) hr.1.symm hr.2.symm
      | clip =>
        simp only at hr
        split at hr
        · rename_i hm
          split at hr <;> try (cases hr; done)
          rename_i hn
          simp only [Option.some.injEq, Prod.mk.injEq] at hr
          exact fin [2 * d] _ (fun σ' => by simp only [if_pos hm, if_pos hn]; rfl) hr.1.symm hr.2.symm
        · rename_i hm
          simp only [Option.some.injEq, Prod.mk.injEq] at hr
          exact fin [2 * d] _ (fun σ' => by simp only [if_neg hm]; rfl) hr.1.symm hr.2.symm
      | imm =>
        simp only at hr
        split at hr <;> try (cases hr; done)
        rename_i hm
        simp only [Option.some.injEq, Prod.mk.injEq] at hr
        exact fin [] _ (fun σ' => by simp only [if_pos hm]; rfl) hr.1.symm hr.2.symm
      | any =>
        simp only at hr
        split at hr <;> try (cases hr; done)
        rename_i hm
        simp only [Option.some.injEq, Prod.mk.injEq] at hr
        exact fin [] _ (fun σ' => by simp only [if_pos hm]; rfl) hr.1.symm hr.2.symm
      | own k e' =>
        simp only at hr
        split at hr <;> try (cases hr; done)
        rename_i hm
        simp only [Option.some.injEq, Prod.mk.injEq] at hr
        exact fin [2 * k + 1, 2 * d] _ (fun σ' => by simp only [if_pos hm]; rfl) hr.1.symm hr.2.symm
    case clearS sz zero a =>
      simp only [runOp] at hr
      split at hr <;> try (cases hr; done)
      rename_i s o n c ha
      split at hr <;> try (cases hr; done)
      rename_i cs hb
      split at hr <;> try (cases hr; done)
      rename_i h1
      simp only [Option.some.injEq, Prod.mk.injEq] at hr
      obtain ⟨rfl, rfl⟩ := hr
      refine ⟨[], σ.boxes.set s (some (setCells cs o (List.replicate n zero).flatten)), fun _ => rfl, fun h => by simp [IOp.boxless] at h, rfl, fun rs vars h => ?_⟩
      simp only [IOp.reads, List.mem_singleton, forall_eq] at h
      simp only [runOp, hb, h, ha]
      rw [if_pos h1]
      rfl
    case mkMap s =>
      simp only [runOp] at hr
      split at hr <;> try (cases hr; done)
      rename_i hb
      split at hr <;> try (cases hr; done)
      rename_i h1
      simp only [Option.some.injEq, Prod.mk.injEq] at hr
      obtain ⟨rfl, rfl⟩ := hr
      exact ⟨[], σ.boxes.set s (some []), fun _ => rfl, fun h => by simp [IOp.boxless] at h, rfl, fun rs vars h => by simp only [runOp, hb, if_pos h1]; rfl⟩
    case mapUpdate k a i x =>
      simp only [runOp] at hr
      split at hr <;> try (cases hr; done)
      rename_i s ha
      split at hr <;> try (cases hr; done)
      rename_i cs hb
      obtain ⟨cs', hp, hr⟩ := Option.map_eq_some_iff.1 hr
      simp only [Prod.mk.injEq] at hr
      obtain ⟨rfl, rfl⟩ := hr
      refine ⟨[], σ.boxes.set s (some cs'), fun _ => rfl, fun h => by simp [IOp.boxless] at h, rfl, fun rs vars h => ?_⟩
      simp only [IOp.reads, List.mem_cons, List.not_mem_nil, or_false, forall_eq_or_imp, forall_eq] at h
      simp only [runOp, hb, h, ha, hp]
      rfl
    case call d f as =>
      simp only [runOp] at hr
      obtain ⟨h1, h2⟩ := callT hr
      refine ⟨[2 * d], σ.boxes, fun h => absurd h (by simp [IOp.quiet, IOp.pure, IOp.boxless]), fun _ => rfl, h1, fun rs vars h => ?_⟩
      simp only [runOp]
      rw [map_congr' (get := Opd.get σ) (as := as) h]
      exact h2 rs vars
    case callv d f as =>
      simp only [runOp] at hr
      split at hr <;> try (cases hr; done)
      rename_i f' first cap hf
      obtain ⟨h1, h2⟩ := callT hr
      refine ⟨[2 * d], σ.boxes, fun h => absurd h (by simp [IOp.quiet, IOp.pure, IOp.boxless]), fun _ => rfl, h1, fun rs vars h => ?_⟩
      simp only [runOp]
      rw [h f (by simp [IOp.reads]), hf, map_congr' (get := Opd.get σ) (as := as) fun x hx => h x (by simp [IOp.reads, hx])]
      exact h2 rs vars

/-- What is done to trees that an operation does not read. -/
structure Tame (F : T → T) : Prop where
  undef : F .undef = .undef
  v : ∀ x, F (.v x) = .v x
  inv : ∀ t x, F t = .v x → t = .v x

theorem tame_id : Tame id := ⟨rfl, fun _ => rfl, fun _ _ h => h⟩
theorem tame_strip (d : Nat) : Tame (T.strip d) := ⟨rfl, fun _ => rfl, fun t x h => strip_v.1 h⟩
theorem tame_strips (ds : List Nat) : Tame (stripsT ds) := by
  refine ⟨?_, fun x => ?_, ?_⟩
  · induction ds with
    | nil => rfl
    | cons d ds ih => exact ih
  · induction ds with
    | nil => rfl
    | cons d ds ih => exact ih
  · induction ds with
    | nil => exact fun t x h => h
    | cons d ds ih => exact fun t x h => strip_v.1 (ih _ x h)
theorem tame_remap (ρ η : Nat → Option Nat) : Tame (T.remap ρ η) := by
  refine ⟨rfl, fun _ => rfl, fun t x h => ?_⟩
  cases t with
  | v y => exact h
  | sl g n cs => cases g <;> cases h
  | ref s o => simp only [T.remap] at h; split at h <;> cases h
  | bsl s o n c => simp only [T.remap] at h; split at h <;> cases h
  | mref s => simp only [T.remap] at h; split at h <;> cases h
  | _ => cases h

/-- The places to which nothing may refer ahead of it. -/
def IOp.asks : IOp → List Nat
  | .callnew _ ad _ _ => ad ++ ad.map (· + 1)
  | _ => []

theorem asks_nil {o : IOp} (h : o.loud = false) : o.asks = [] := by
  cases o <;> first | rfl | (simp [IOp.loud] at h; done)

/-- .. of any operation. -/
theorem tame_comp {F G : T → T} (hF : Tame F) (hG : Tame G) : Tame (F ∘ G) := ⟨by simp [hG.undef, hF.undef], fun x => by simp [hG.v, hF.v], fun t x h => hG.inv _ _ (hF.inv _ _ h)⟩

theorem runOp_any {C : FuncId → List T → Option T} {σ σ1 : St} {o : IOp} {t : T} (hr : runOp C σ o = some (t, σ1)) : ∃ (F : T → T) (bx : List (Option (List T))), Tame F ∧ σ1 = ⟨σ.rs.map F, σ.vars.map F, bx⟩ ∧ (∀ s ∈ o.asks, σ.noRef s = true) ∧
    ∀ rs vars, (∀ x ∈ o.reads, x.get ⟨rs, vars, σ.boxes⟩ = x.get σ) → (∀ s ∈ o.asks, noRefL s rs = true ∧ noRefL s vars = true) → runOp C ⟨rs, vars, σ.boxes⟩ o = some (t, ⟨rs.map F, vars.map F, bx⟩) := by
  have mk : ∀ {σ' : St}, σ' = ⟨σ'.rs, σ'.vars, σ'.boxes⟩ := fun {σ'} => rfl
  have callNew : ∀ {d ad f as}, runOp.callNew C σ d ad f as = some (t, σ1) → ∃ (F : T → T) (bx : List (Option (List T))), Tame F ∧ σ1 = ⟨σ.rs.map F, σ.vars.map F, bx⟩ ∧ (∀ s ∈ ad ++ ad.map (· + 1), σ.noRef s = true) ∧
      ∀ rs vars, (∀ s ∈ ad ++ ad.map (· + 1), noRefL s rs = true ∧ noRefL s vars = true) → runOp.callNew C ⟨rs, vars, σ.boxes⟩ d ad f as = some (t, ⟨rs.map F, vars.map F, bx⟩) := by
    intro d ad f as hr
    unfold runOp.callNew at hr
    split at hr <;> try (cases hr; done)
    rename_i hnr
    split at hr <;> try (cases hr; done)
    rename_i r outs hC
    split at hr <;> try (cases hr; done)
    rename_i h1
    simp only [Option.some.injEq, Prod.mk.injEq] at hr
    obtain ⟨rfl, rfl⟩ := hr
    have hno : ∀ s ∈ ad ++ ad.map (· + 1), σ.noRef s = true := fun s hs => by
      have h2 := h1.2.1
      simp only [List.all_eq_true, Bool.and_eq_true] at h2
      simp only [List.mem_append, List.mem_map] at hs
      rcases hs with hs | ⟨s', hs, rfl⟩
      · exact (h2 s hs).1.2
      · exact (h2 s' hs).2
    refine ⟨T.strip (2 * d), adopt (ioBack [] ad) (ioFam d) (outs.map decB) 0 (σ.strip (2 * d)).boxes, tame_strip _, ?_, hno, fun rs vars hask => ?_⟩
    · simp only [St.strip, stripL_map]
    · unfold runOp.callNew
      rw [if_neg hnr, hC]
      simp only
      have hno' : ∀ s ∈ ad ++ ad.map (· + 1), St.noRef s ⟨rs, vars, σ.boxes⟩ = true := fun s hs => by
        have g1 := hno s hs
        have g2 := hask s hs
        simp only [St.noRef, Bool.and_eq_true] at g1 ⊢
        exact ⟨g2, g1.2⟩
      rw [if_pos ⟨h1.1, by
        have h2 := h1.2.1
        simp only [List.all_eq_true, Bool.and_eq_true] at h2 ⊢
        intro s hs
        exact ⟨⟨(h2 s hs).1.1, hno' s (by simp [hs])⟩, hno' (s + 1) (by simp [hs])⟩, h1.2.2⟩]
      simp only [St.strip, stripL_map]
  have callIO : ∀ {d ad f as}, runOp.callIO C σ d ad f as = some (t, σ1) → ∃ (F : T → T) (bx : List (Option (List T))), Tame F ∧ σ1 = ⟨σ.rs.map F, σ.vars.map F, bx⟩ ∧
      ∀ rs vars, runOp.callIO C ⟨rs, vars, σ.boxes⟩ d ad f as = some (t, ⟨rs.map F, vars.map F, bx⟩) := by
    intro d ad f as hr
    unfold runOp.callIO at hr
    simp only at hr
    split at hr <;> try (cases hr; done)
    rename_i r outs hC
    split at hr <;> try (cases hr; done)
    rename_i h1
    simp only [Option.some.injEq, Prod.mk.injEq] at hr
    obtain ⟨rfl, rfl⟩ := hr
    let ss := reach σ.boxes 10000 [] (refsL as)
    let fs := ss.flatMap fun s => famsL ((boxAt σ.boxes s).getD [])
    refine ⟨T.remap (ioLive ss outs) (ioKeep d fs), adopt (ioBack ss ad) (ioFam d) (outs.map decB) 0 (σ.boxes.map (Option.map (remapL (ioLive ss outs) (ioKeep d fs)))), tame_remap _ _, ?_, fun rs vars => ?_⟩
    · simp only [remapL_map, ss, fs]
    · unfold runOp.callIO
      simp only
      rw [hC]
      simp only
      rw [if_pos h1]
      simp only [remapL_map, ss, fs]
  by_cases hl : o.loud = false
  · obtain ⟨ds, bx, _, _, rfl, he⟩ := runOp_eff hl hr
    refine ⟨stripsT ds, (St.strips ds { σ with boxes := bx }).boxes, tame_strips ds, ?_, (fun s hs => by rw [asks_nil hl] at hs; cases hs), fun rs vars h _ => ?_⟩
    · have h1 := strips_rs ds { σ with boxes := bx }
      have h2 := strips_vars ds { σ with boxes := bx }
      generalize St.strips ds { σ with boxes := bx } = a at *
      cases a
      simp only at h1 h2
      subst h1 h2
      rfl
    · rw [he rs vars h]
      have h1 := strips_rs ds ⟨rs, vars, bx⟩
      have h2 := strips_vars ds ⟨rs, vars, bx⟩
      have h3 := strips_boxes ds ⟨rs, vars, bx⟩ { σ with boxes := bx } rfl
      generalize St.strips ds ⟨rs, vars, bx⟩ = a at *
      cases a
      simp only at h1 h2 h3
      subst h1 h2
      rw [h3]
  · cases o <;> try (exact absurd rfl hl)
    case appendB s e sz bytes zero kind a b =>
      simp only [runOp] at hr
      split at hr <;> try (cases hr; done)
      · rename_i g n xs m ys ha hsrc hb
        split at hr <;> try (cases hr; done)
        rename_i h1
        have fin : ∀ (F : T → T) (bx : List (Option (List T))), Tame F → σ1 = ⟨σ.rs.map F, σ.vars.map F, bx⟩ → (∀ rs vars, (match (generalizing := false) g with
            | .own k e' => if e' = e ∧ 0 < m then some (T.bsl s 0 m (m * sz), ({ St.strip (2 * k + 1) ⟨rs, vars, σ.boxes⟩ with boxes := (St.strip (2 * k + 1) ⟨rs, vars, σ.boxes⟩).boxes.set s (some ys) } : St)) else none
            | .nil => some (.bsl s 0 m (m * sz), { (⟨rs, vars, σ.boxes⟩ : St) with boxes := σ.boxes.set s (some ys) })
            | .clip => some (.bsl s 0 m (m * sz), { (⟨rs, vars, σ.boxes⟩ : St) with boxes := σ.boxes.set s (some ys) })
            | _ => none) = some (t, ⟨rs.map F, vars.map F, bx⟩)) → ∃ (F : T → T) (bx : List (Option (List T))), Tame F ∧ σ1 = ⟨σ.rs.map F, σ.vars.map F, bx⟩ ∧ (∀ s ∈ (IOp.appendB s e sz bytes zero kind a b).asks, σ.noRef s = true) ∧
            ∀ rs vars, (∀ x ∈ (IOp.appendB s e sz bytes zero kind a b).reads, x.get ⟨rs, vars, σ.boxes⟩ = x.get σ) → (∀ s ∈ (IOp.appendB s e sz bytes zero kind a b).asks, noRefL s rs = true ∧ noRefL s vars = true) → runOp C ⟨rs, vars, σ.boxes⟩ (IOp.appendB s e sz bytes zero kind a b) = some (t, ⟨rs.map F, vars.map F, bx⟩) := by
          intro F bx h2 h4 h5
          refine ⟨F, bx, h2, h4, (fun s hs => by simp [IOp.asks] at hs), fun rs vars h _ => ?_⟩
          simp only [IOp.reads, List.mem_cons, List.not_mem_nil, or_false, forall_eq_or_imp, forall_eq] at h
          simp only [runOp, h, ha]
          rw [hsrc, hb]
          simp only
          rw [if_pos h1]
          exact h5 rs vars
        cases g <;> simp only at hr <;> try (cases hr; done)
        · simp only [Option.some.injEq, Prod.mk.injEq] at hr
          obtain ⟨rfl, rfl⟩ := hr
          exact fin id (σ.boxes.set s (some ys)) tame_id (by simp) fun rs vars => by simp
        · simp only [Option.some.injEq, Prod.mk.injEq] at hr
          obtain ⟨rfl, rfl⟩ := hr
          exact fin id (σ.boxes.set s (some ys)) tame_id (by simp) fun rs vars => by simp
        · rename_i k e'
          split at hr <;> try (cases hr; done)
          rename_i he
          simp only [Option.some.injEq, Prod.mk.injEq] at hr
          obtain ⟨rfl, rfl⟩ := hr
          exact fin (T.strip (2 * k + 1)) ((σ.strip (2 * k + 1)).boxes.set s (some ys)) (tame_strip _) (by simp only [St.strip, stripL_map]) fun rs vars => by
            simp only [if_pos he, St.strip, stripL_map]
      · rename_i s' o' n cn m ys old ha hsrc hb
        split at hr <;> try (cases hr; done)
        rename_i h1
        simp only [Option.some.injEq, Prod.mk.injEq] at hr
        obtain ⟨rfl, rfl⟩ := hr
        refine ⟨T.remap (fun x => if x = s' then none else some x) some, (σ.drop s').boxes.set s (some (remapL (fun x => if x = s' then none else some x) some (((boxAt σ.boxes s').getD []).take (n * sz)) ++ ys)), tame_remap _ _, by simp only [St.drop, remapL_map], (fun s hs => by simp [IOp.asks] at hs), fun rs vars h _ => ?_⟩
        simp only [IOp.reads, List.mem_cons, List.not_mem_nil, or_false, forall_eq_or_imp, forall_eq] at h
        simp only [runOp, h, ha]
        rw [hsrc, hb]
        simp only
        rw [if_pos h1]
        simp only [St.drop, remapL_map]
    case thaw d e sz a =>
      simp only [runOp] at hr
      split at hr
      · rename_i s o n c ha
        split at hr <;> try (cases hr; done)
        rename_i h1
        simp only [Option.some.injEq, Prod.mk.injEq] at hr
        obtain ⟨rfl, rfl⟩ := hr
        refine ⟨T.strip (2 * d) ∘ T.remap (fun x => if x = s then none else some x) some, ((σ.drop s).strip (2 * d)).boxes, tame_comp (tame_strip _) (tame_remap _ _), by simp only [St.drop, St.strip, remapL_map, stripL_map, List.map_map], (fun s hs => by simp [IOp.asks] at hs), fun rs vars h _ => ?_⟩
        simp only [IOp.reads, List.mem_cons, List.not_mem_nil, or_false, forall_eq_or_imp, forall_eq] at h
        simp only [runOp, h, ha]
        rw [if_pos h1]
        simp only [St.drop, St.strip, remapL_map, stripL_map, List.map_map]
      · rename_i hne
        simp only [Option.some.injEq, Prod.mk.injEq] at hr
        obtain ⟨rfl, rfl⟩ := hr
        refine ⟨id, σ.boxes, tame_id, by simp, (fun s hs => by simp [IOp.asks] at hs), fun rs vars h _ => ?_⟩
        simp only [IOp.reads, List.mem_cons, List.not_mem_nil, or_false, forall_eq_or_imp, forall_eq] at h
        simp only [runOp, h]
        generalize a.get σ = u at hne
        cases u <;> first | (simp; done) | exact absurd rfl (hne _ _ _ _)
    case callnew d ad f as =>
      simp only [runOp] at hr
      obtain ⟨F, bx, h1, h3, h5, h4⟩ := callNew hr
      refine ⟨F, bx, h1, h3, h5, fun rs vars h hask => ?_⟩
      simp only [runOp]
      rw [map_congr' (get := Opd.get σ) (as := as) h]
      exact h4 rs vars hask
    case callio d ad f as =>
      simp only [runOp] at hr
      obtain ⟨F, bx, h1, h3, h4⟩ := callIO hr
      refine ⟨F, bx, h1, h3, (fun s hs => by simp [IOp.asks] at hs), fun rs vars h _ => ?_⟩
      simp only [runOp]
      rw [map_congr' (get := Opd.get σ) (as := as) h]
      exact h4 rs vars
    case callvio d ad f as =>
      simp only [runOp] at hr
      split at hr <;> try (cases hr; done)
      rename_i f' first cap hf
      obtain ⟨F, bx, h1, h3, h4⟩ := callIO hr
      refine ⟨F, bx, h1, h3, (fun s hs => by simp [IOp.asks] at hs), fun rs vars h _ => ?_⟩
      simp only [runOp]
      rw [h f (by simp [IOp.reads]), hf, map_congr' (get := Opd.get σ) (as := as) fun x hx => h x (by simp [IOp.reads, hx])]
      exact h4 rs vars
end Go.Vi
end
section
/-
  A VERIFIED INTERPRETER (part 20b): calls, rows and boxes that change places.
-/
set_option linter.unusedSimpArgs false
set_option linter.unusedVariables false
namespace Go.Vi
open Go Go.RowKit

theorem mapM_mono {α γ : Type} {f g : α → Option γ} (h : ∀ x y, f x = some y → g x = some y) : ∀ (xs : List α) (ys : List γ), xs.mapM f = some ys → xs.mapM g = some ys
  | [], ys, hh => by simpa using hh
  | x :: xs, ys, hh => by
    simp only [List.mapM_cons, Option.bind_eq_bind, Option.pure_def] at hh ⊢
    obtain ⟨y, h1, hh⟩ := Option.bind_eq_some_iff.1 hh
    obtain ⟨ys', h2, hh⟩ := Option.bind_eq_some_iff.1 hh
    rw [h x y h1, Option.bind_some, mapM_mono h xs ys' h2]
    exact hh

theorem set_other {bx : List (Option (List T))} {s s' : Nat} {v : Option (List T)} {cs : List T} (hs : bx[s]? = some none) (h : bx[s']? = some (some cs)) : (bx.set s v)[s']? = some (some cs) := by
  have : s ≠ s' := fun he => by subst he; rw [hs] at h; cases h
  rw [List.getElem?_set, if_neg this]
  exact h

/-- A new box is not looked at. -/
theorem close_set {bx : List (Option (List T))} {s : Nat} {v : Option (List T)} (hs : bx[s]? = some none) : ∀ (k : Nat) (t u : T), close bx k t = some u → close (bx.set s v) k t = some u := by
  intro k
  induction k with
  | zero => intro t u h; simp [close] at h
  | succ k ih =>
    intro t u h
    cases t with
    | sl g n cs => cases g <;> exact h
    | ref s' off =>
      simp only [close] at h ⊢
      split at h <;> try (cases h; done)
      rename_i cs hcs
      rw [set_other hs hcs]
      obtain ⟨cs', h1, rfl⟩ := Option.map_eq_some_iff.1 h
      simp only [mapM_mono ih cs cs' h1, Option.map_some]
    | bsl s' off n c =>
      simp only [close] at h ⊢
      split at h
      · rename_i h0; rw [if_pos h0]; exact h
      rename_i h0
      rw [if_neg h0]
      split at h <;> try (cases h; done)
      rename_i cs hcs
      rw [set_other hs hcs]
      obtain ⟨cs', h1, rfl⟩ := Option.map_eq_some_iff.1 h
      simp only [mapM_mono ih _ cs' h1, Option.map_some]
    | agg ts =>
      simp only [close] at h ⊢
      obtain ⟨cs', h1, rfl⟩ := Option.map_eq_some_iff.1 h
      simp only [mapM_mono ih ts cs' h1, Option.map_some]
    | tup ts =>
      simp only [close] at h ⊢
      obtain ⟨cs', h1, rfl⟩ := Option.map_eq_some_iff.1 h
      simp only [mapM_mono ih ts cs' h1, Option.map_some]
    | clo f a b =>
      simp only [close, Option.bind_eq_bind, Option.pure_def] at h ⊢
      obtain ⟨a', h1, h⟩ := Option.bind_eq_some_iff.1 h
      obtain ⟨b', h2, h⟩ := Option.bind_eq_some_iff.1 h
      rw [mapM_mono ih a a' h1, Option.bind_some, mapM_mono ih b b' h2]
      exact h
    | _ => exact h

theorem mapM_strip {γ : Type} {f g : T → Option γ} {d : Nat} (h : ∀ t, f (t.strip d) = g t) : ∀ ts : List T, (stripL d ts).mapM f = ts.mapM g
  | [] => rfl
  | t :: ts => by simp only [stripL, List.mapM_cons, h, mapM_strip h ts]

/-- What a callee sees does not hang on families. -/
theorem close_strip (d : Nat) (bx : List (Option (List T))) : ∀ (k : Nat) (t : T), close (stripB d bx) k (t.strip d) = close bx k t := by
  intro k
  induction k with
  | zero => intro t; rfl
  | succ k ih =>
    intro t
    cases t with
    | sl g n cs =>
      cases g <;> rfl
    | ref s off =>
      simp only [T.strip, close, stripB, List.getElem?_map]
      cases bx[s]? with
      | none => rfl
      | some ob =>
        cases ob with
        | none => rfl
        | some cs =>
          simp only [Option.map_some]
          have := mapM_strip (f := close (stripB d bx) k) (g := close bx k) (d := d) ih cs
          simp only [stripB] at this
          rw [this]
    | bsl s off n c =>
      simp only [T.strip, close, stripB, List.getElem?_map]
      split
      · rfl
      cases bx[s]? with
      | none => rfl
      | some ob =>
        cases ob with
        | none => rfl
        | some cs =>
          simp only [Option.map_some]
          have := mapM_strip (f := close (stripB d bx) k) (g := close bx k) (d := d) ih ((cs.drop off).take c)
          simp only [stripB] at this
          rw [← this]
          simp only [stripL_map, List.map_take, List.map_drop]
    | agg ts => simp only [T.strip, close, mapM_strip ih]
    | tup ts => simp only [T.strip, close, mapM_strip ih]
    | clo f a b => simp only [T.strip, close, mapM_strip ih]
    | _ => rfl

mutual
theorem hasRef_strip (d : Nat) : ∀ t : T, (t.strip d).hasRef = t.hasRef
  | .undef => rfl
  | .v _ => rfl
  | .sl g n cs => by cases g <;> rfl
  | .ptr .. => rfl
  | .ref .. => rfl
  | .bsl .. => rfl
  | .mref .. => rfl
  | .agg ts => by simp only [T.strip, T.hasRef, hasRefL_strip d ts]
  | .tup ts => by simp only [T.strip, T.hasRef, hasRefL_strip d ts]
  | .clo f a b => by simp only [T.strip, T.hasRef, hasRefL_strip d a, hasRefL_strip d b]
theorem hasRefL_strip (d : Nat) : ∀ ts : List T, hasRefL (stripL d ts) = hasRefL ts
  | [] => rfl
  | t :: ts => by simp only [stripL, hasRefL, hasRef_strip d t, hasRefL_strip d ts]
end

mutual
theorem weak_strip (d : Nat) : ∀ t : T, (t.strip d).weak = t.weak
  | .undef => rfl
  | .v _ => rfl
  | .sl g n cs => by
    cases g <;> rfl
  | .ptr .. => rfl
  | .ref .. => rfl
  | .bsl .. => rfl
  | .mref .. => rfl
  | .agg ts => by simp only [T.strip, T.weak, weakL_strip d ts]
  | .tup ts => by simp only [T.strip, T.weak, weakL_strip d ts]
  | .clo f a b => by simp only [T.strip, T.weak, weakL_strip d a, weakL_strip d b]
theorem weakL_strip (d : Nat) : ∀ ts : List T, weakL (stripL d ts) = weakL ts
  | [] => rfl
  | t :: ts => by simp only [stripL, weakL, weak_strip d t, weakL_strip d ts]
end

theorem weakN_strip (d : Nat) (t : T) : (t.strip d).weakN = t.weakN := by
  cases t with
  | sl g n cs =>
    cases g with
    | own k e => simp only [T.strip]; cases hit d k <;> rfl
    | _ => rfl
  | agg ts => exact weak_strip d (.agg ts)
  | tup ts => exact weak_strip d (.tup ts)
  | clo f a b => exact weak_strip d (.clo f a b)
  | _ => rfl

theorem hit_div (d k : Nat) : hit (2 * d) k = (k / 8 == d) := by
  unfold hit
  rw [if_pos (by omega), show 2 * d / 2 = d by omega]

mutual
theorem import_strip {d d' : Nat} (h : d ≠ d') : ∀ t : T, (t.import d).strip (2 * d') = t.import d
  | .undef => rfl
  | .v _ => rfl
  | .sl g n cs => by
    cases g <;> try rfl
    rename_i k e
    simp only [T.import]
    by_cases hk : k < 8
    · rw [if_pos hk]
      simp only [T.strip]
      rw [hit_div, if_neg (by simp; omega)]
    · rw [if_neg hk]; rfl
  | .ptr .. => rfl
  | .ref .. => rfl
  | .bsl .. => rfl
  | .mref .. => rfl
  | .agg ts => by simp only [T.import, T.strip, importL_strip h ts]
  | .tup ts => by simp only [T.import, T.strip, importL_strip h ts]
  | .clo f a b => by simp only [T.import, T.strip, importL_strip h a, importL_strip h b]
theorem importL_strip {d d' : Nat} (h : d ≠ d') : ∀ ts : List T, stripL (2 * d') (importL d ts) = importL d ts
  | [] => rfl
  | t :: ts => by simp only [importL, stripL, import_strip h t, importL_strip h ts]
end

theorem strip_own (d k : Nat) (e : TypeId) (n : Nat) (cs : List T) : T.strip d (.sl (.own k e) n cs) = .sl (if hit d k then .any else .own k e) n cs := rfl
theorem strip_any (d n : Nat) (cs : List T) : T.strip d (.sl .any n cs) = .sl .any n cs := rfl
theorem strip_comm_own (d d' k : Nat) (e : TypeId) (n : Nat) (cs : List T) : T.strip d' (T.strip d (.sl (.own k e) n cs)) = T.strip d (T.strip d' (.sl (.own k e) n cs)) := by
  rw [strip_own, strip_own]
  by_cases h : hit d k = true
  · rw [if_pos h, strip_any]
    by_cases h' : hit d' k = true
    · rw [if_pos h', strip_any]
    · rw [if_neg h', strip_own, if_pos h]
  · rw [if_neg h, strip_own]
    by_cases h' : hit d' k = true
    · rw [if_pos h', strip_any]
    · rw [if_neg h', strip_own, if_neg h]

mutual
theorem strip_comm (d d' : Nat) : ∀ t : T, (t.strip d).strip d' = (t.strip d').strip d
  | .undef => rfl
  | .v _ => rfl
  | .sl g n cs => by
    cases g <;> first | rfl | exact strip_comm_own d d' _ _ n cs
  | .ptr .. => rfl
  | .ref .. => rfl
  | .bsl .. => rfl
  | .mref .. => rfl
  | .agg ts => by simp only [T.strip, stripL_comm d d' ts]
  | .tup ts => by simp only [T.strip, stripL_comm d d' ts]
  | .clo f a b => by simp only [T.strip, stripL_comm d d' a, stripL_comm d d' b]
theorem stripL_comm (d d' : Nat) : ∀ ts : List T, stripL d' (stripL d ts) = stripL d (stripL d' ts)
  | [] => rfl
  | t :: ts => by simp only [stripL, strip_comm d d' t, stripL_comm d d' ts]
end

theorem st_strip_comm (d d' : Nat) (σ : St) : (σ.strip d).strip d' = (σ.strip d').strip d := by
  simp only [St.strip, stripL_comm d d', List.map_map, St.mk.injEq, true_and]
  refine List.map_congr_left fun o _ => ?_
  cases o with
  | none => rfl
  | some cs => simp [stripL_comm d d' cs]

/-- The slot of an operation that makes families of its own, and reads no families of others. -/
def IOp.fam : IOp → Option Nat
  | .call d _ _ | .callv d _ _ | .bslice d _ _ _ _ _ => some d
  | _ => none

theorem callT_strip {C : FuncId → List T → Option T} {σ : St} {d d' : Nat} {f : FuncId} {as : List T} : runOp.callT C (σ.strip d') d f (stripL d' as) = (runOp.callT C σ d f as).map fun p => (p.1, p.2.strip d') := by
  have h1 : (stripL d' as).mapM (close (σ.strip d').boxes 6) = as.mapM (close σ.boxes 6) := mapM_strip (close_strip d' σ.boxes 6) as
  simp only [runOp.callT, h1, hasRefL_strip, Option.bind_eq_bind]
  cases as.mapM (close σ.boxes 6) with
  | none => rfl
  | some cs =>
    simp only [Option.bind_some]
    cases callV C f cs with
    | none => rfl
    | some r =>
      simp only [Option.bind_some]
      split
      · rfl
      · simp only [Option.map_some, st_strip_comm d' (2 * d)]

theorem calleeOf_strip (d : Nat) (t : T) : calleeOf (t.strip d) = (calleeOf t).map fun p => (p.1, stripL d p.2.1, stripL d p.2.2) := by
  cases t <;> try rfl
  · rename_i x
    simp only [T.strip]
    cases x <;> try rfl
    rename_i fn a b
    cases fn <;> try rfl
    simp only [calleeOf]
    split <;> rfl
  · rename_i g n cs
    cases g <;> rfl
  · rename_i fn a b
    cases fn <;> rfl

/-- A call or a row built, a family of another having been given up. -/
theorem fam_strip {C : FuncId → List T → Option T} {σ : St} {o : IOp} {d d' : Nat} (hf : o.fam = some d) (hz : zeroOk o = true) (hc : constOk o = true) :
    runOp C (σ.strip d') o = (runOp C σ o).map fun p => (p.1, p.2.strip d') := by
  simp only [constOk, List.all_eq_true] at hc
  have hget : ∀ x ∈ o.reads, x.get (σ.strip d') = (x.get σ).strip d' := fun x hx => get_strip (hc x hx)
  cases o <;> simp only [IOp.fam, Option.some.injEq] at hf <;> try (cases hf; done)
  · subst hf
    rename_i e sz len zero ps
    simp only [runOp, Option.bind_eq_bind]
    have h1 : fillT (fun a => (Opd.get (σ.strip d') a).weak) (List.replicate len zero).flatten ps = fillT (fun a => (Opd.get σ a).weak) (List.replicate len zero).flatten ps :=
      fillT_congr ps _ fun x hx => by simp only [hget x hx, weak_strip]
    rw [h1]
    cases fillT (fun a => (Opd.get σ a).weak) (List.replicate len zero).flatten ps with
    | none => rfl
    | some cs =>
      simp only [Option.bind_some]
      split
      · simp only [Option.map_some, st_strip_comm d' _]
      · rfl
  · subst hf
    rename_i f as
    simp only [runOp]
    rw [show as.map (Opd.get (σ.strip d')) = stripL d' (as.map (Opd.get σ)) by rw [stripL_map, List.map_map]; exact List.map_congr_left hget]
    exact callT_strip
  · subst hf
    rename_i f as
    simp only [runOp]
    rw [hget f (by simp [IOp.reads]), calleeOf_strip]
    cases calleeOf (f.get σ) with
    | none => rfl
    | some p =>
      obtain ⟨f', first, cap⟩ := p
      simp only [Option.map_some]
      rw [show stripL d' first ++ as.map (Opd.get (σ.strip d')) ++ stripL d' cap = stripL d' (first ++ as.map (Opd.get σ) ++ cap) by
        simp only [stripL_map, List.map_append, List.map_map]
        congr 2
        exact List.map_congr_left fun x hx => hget x (by simp [IOp.reads, hx])]
      exact callT_strip

/-- What it gives bears its own family alone. -/
theorem fam_value {C : FuncId → List T → Option T} {σ σ' : St} {o : IOp} {d : Nat} {t : T} (hf : o.fam = some d) (h : runOp C σ o = some (t, σ')) : σ' = σ.strip (2 * d) ∧ ∀ d', d ≠ d' → t.strip (2 * d') = t := by
  have callT : ∀ {f as}, runOp.callT C σ d f as = some (t, σ') → σ' = σ.strip (2 * d) ∧ ∀ d', d ≠ d' → t.strip (2 * d') = t := by
    intro f as hr
    simp only [runOp.callT, Option.bind_eq_bind] at hr
    obtain ⟨cs, hcs, hr⟩ := Option.bind_eq_some_iff.1 hr
    obtain ⟨r, hr', hr⟩ := Option.bind_eq_some_iff.1 hr
    split at hr <;> try (cases hr; done)
    simp only [Option.some.injEq, Prod.mk.injEq] at hr
    obtain ⟨rfl, rfl⟩ := hr
    exact ⟨rfl, fun d' hd => import_strip hd r⟩
  cases o <;> simp only [IOp.fam, Option.some.injEq] at hf <;> try (cases hf; done)
  · subst hf
    simp only [runOp, Option.bind_eq_bind] at h
    obtain ⟨cs, hcs, h⟩ := Option.bind_eq_some_iff.1 h
    split at h <;> try (cases h; done)
    simp only [Option.some.injEq, Prod.mk.injEq] at h
    obtain ⟨rfl, rfl⟩ := h
    refine ⟨rfl, fun d' hd => ?_⟩
    split
    · rfl
    · simp only [T.strip]
      rw [hit_div, if_neg (by simp; omega)]
  · subst hf
    simp only [runOp] at h
    exact callT h
  · subst hf
    simp only [runOp] at h
    split at h <;> try (cases h; done)
    exact callT h

/-- A new box. -/
def IOp.isNew : IOp → Bool
  | .alloc .. | .box .. => true
  | _ => false

/-- What looks at boxes that there are, and changes none. -/
def IOp.looksOnly : IOp → Bool
  | .load .. | .call .. | .callv .. => true
  | _ => false

theorem new_strip {C : FuncId → List T → Option T} {σ : St} {o : IOp} {d : Nat} (hn : o.isNew = true) (hz : zeroOk o = true) (hc : constOk o = true) :
    runOp C (σ.strip d) o = (runOp C σ o).map fun p => (p.1, p.2.strip d) := by
  simp only [constOk, List.all_eq_true] at hc
  cases o <;> try (simp [IOp.isNew] at hn; done)
  · rename_i s zero
    simp only [runOp, St.strip, List.getElem?_map]
    cases σ.boxes[s]? with
    | none => rfl
    | some ob =>
      cases ob with
      | some cs => rfl
      | none =>
        simp only [Option.map_some, Option.map_none]
        split
        · simp only [Option.map_some, St.strip, List.map_set]
          rw [stripL_closed d zero (by simpa [zeroOk] using hz)]
        · rfl
  · rename_i s a
    have hg : a.get (σ.strip d) = (a.get σ).strip d := get_strip (hc a (by simp [IOp.reads]))
    simp only [runOp]
    rw [hg, cellsOf_strip]
    simp only [St.strip, List.getElem?_map]
    cases σ.boxes[s]? with
    | none => rfl
    | some ob =>
      cases ob with
      | some cs => rfl
      | none =>
        cases cellsOf (a.get σ) with
        | none => rfl
        | some cs =>
          simp only [Option.map_some, Option.map_none, stripL_one]
          split
          · simp only [Option.map_some, St.strip, List.map_set]
          · rfl

theorem new_strips {C : FuncId → List T → Option T} {o : IOp} (hn : o.isNew = true) (hz : zeroOk o = true) (hc : constOk o = true) : ∀ (ds : List Nat) (σ : St),
    runOp C (σ.strips ds) o = (runOp C σ o).map fun p => (p.1, p.2.strips ds)
  | [], σ => by simp [St.strips]
  | d :: ds, σ => by
    simp only [St.strips]
    rw [new_strips hn hz hc ds, new_strip hn hz hc]
    simp only [Option.map_map]
    rfl

theorem new_value {C : FuncId → List T → Option T} {σ σ' : St} {o : IOp} {t : T} (hn : o.isNew = true) (h : runOp C σ o = some (t, σ')) : (∃ s v, σ.boxes[s]? = some none ∧ σ' = { σ with boxes := σ.boxes.set s v }) ∧ ∀ ds, stripsT ds t = t := by
  have hs : ∀ (s : Nat) (ds : List Nat), stripsT ds (.ref s 0) = .ref s 0 := fun s ds => by
    induction ds with
    | nil => rfl
    | cons d ds ih => exact ih
  cases o <;> try (simp [IOp.isNew] at hn; done)
  · rename_i s zero
    simp only [runOp] at h
    split at h <;> try (cases h; done)
    rename_i hb
    split at h <;> try (cases h; done)
    simp only [Option.some.injEq, Prod.mk.injEq] at h
    obtain ⟨rfl, rfl⟩ := h
    exact ⟨⟨s, _, hb, rfl⟩, hs s⟩
  · rename_i s a
    simp only [runOp] at h
    split at h <;> try (cases h; done)
    rename_i hb _
    split at h <;> try (cases h; done)
    simp only [Option.some.injEq, Prod.mk.injEq] at h
    obtain ⟨rfl, rfl⟩ := h
    exact ⟨⟨s, _, hb, rfl⟩, hs s⟩

/-- What is given up by an operation that looks at boxes. -/
theorem looks_strips {C : FuncId → List T → Option T} {o : IOp} (ho : o.looksOnly = true) : ∃ ds, ∀ (σ1 : St) (t1 : T) (σ2 : St), runOp C σ1 o = some (t1, σ2) → σ2 = St.strips ds σ1 := by
  have callS : ∀ {σ1 σ2 : St} {t1 d f as}, runOp.callT C σ1 d f as = some (t1, σ2) → σ2 = St.strips [2 * d] σ1 := by
    intro σ1 σ2 t1 d f as hr
    simp only [runOp.callT, Option.bind_eq_bind] at hr
    obtain ⟨cs, hcs, hr⟩ := Option.bind_eq_some_iff.1 hr
    obtain ⟨r, hr', hr⟩ := Option.bind_eq_some_iff.1 hr
    split at hr <;> try (cases hr; done)
    simp only [Option.some.injEq, Prod.mk.injEq] at hr
    exact hr.2.symm
  cases o <;> try (simp [IOp.looksOnly] at ho; done)
  · exact ⟨[], fun σ1 t1 σ2 h => quiet_same rfl h⟩
  · rename_i d f as
    exact ⟨[2 * d], fun σ1 t1 σ2 h => callS (by simpa only [runOp] using h)⟩
  · rename_i d f as
    refine ⟨[2 * d], fun σ1 t1 σ2 h => ?_⟩
    simp only [runOp] at h
    split at h <;> try (cases h; done)
    exact callS h

/-- A new box is not looked at. -/
theorem looks_set {C : FuncId → List T → Option T} {σ σ' : St} {o : IOp} {t : T} {s : Nat} {v : Option (List T)} (ho : o.looksOnly = true) (hs : σ.boxes[s]? = some none) (h : runOp C σ o = some (t, σ')) :
    ∃ ds, (∀ σ1 : St, ∀ t1 σ2, runOp C σ1 o = some (t1, σ2) → σ2 = St.strips ds σ1) ∧ runOp C { σ with boxes := σ.boxes.set s v } o = some (t, St.strips ds { σ with boxes := σ.boxes.set s v }) := by
  have get_eq : ∀ x : Opd, x.get { σ with boxes := σ.boxes.set s v } = x.get σ := fun x => by cases x <;> rfl
  have callS : ∀ {σ1 σ2 : St} {t1 d f as}, runOp.callT C σ1 d f as = some (t1, σ2) → σ2 = St.strips [2 * d] σ1 := by
    intro σ1 σ2 t1 d f as hr
    simp only [runOp.callT, Option.bind_eq_bind] at hr
    obtain ⟨cs, hcs, hr⟩ := Option.bind_eq_some_iff.1 hr
    obtain ⟨r, hr', hr⟩ := Option.bind_eq_some_iff.1 hr
    split at hr <;> try (cases hr; done)
    simp only [Option.some.injEq, Prod.mk.injEq] at hr
    exact hr.2.symm
  have callT : ∀ {d f as}, runOp.callT C σ d f as = some (t, σ') → runOp.callT C { σ with boxes := σ.boxes.set s v } d f as = some (t, St.strips [2 * d] { σ with boxes := σ.boxes.set s v }) := by
    intro d f as hr
    simp only [runOp.callT, Option.bind_eq_bind] at hr
    obtain ⟨cs, hcs, hr⟩ := Option.bind_eq_some_iff.1 hr
    obtain ⟨r, hr', hr⟩ := Option.bind_eq_some_iff.1 hr
    split at hr <;> try (cases hr; done)
    rename_i hfr
    simp only [Option.some.injEq, Prod.mk.injEq] at hr
    obtain ⟨rfl, rfl⟩ := hr
    have := mapM_mono (close_set (v := v) hs 6) as cs hcs
    simp only [runOp.callT, Option.bind_eq_bind, this, Option.bind_some, hr', if_neg hfr]
    rfl
  cases o <;> try (simp [IOp.looksOnly] at ho; done)
  · rename_i g n a
    refine ⟨[], fun σ1 t1 σ2 h => quiet_same rfl h, ?_⟩
    simp only [runOp, get_eq] at h ⊢
    split at h
    · rename_i s' off ha
      split at h <;> try (cases h; done)
      rename_i cs hcs
      rw [set_other hs hcs]
      obtain ⟨x, hx, hxx⟩ := Option.map_eq_some_iff.1 h
      simp only [Prod.mk.injEq] at hxx
      obtain ⟨rfl, _⟩ := hxx
      simp only [hx, Option.map_some]; rfl
    · obtain ⟨x, hx, hxx⟩ := Option.map_eq_some_iff.1 h
      simp only [Prod.mk.injEq] at hxx
      obtain ⟨rfl, _⟩ := hxx
      simp only [hx, Option.map_some]; rfl
    · cases h
  · rename_i d f as
    refine ⟨[2 * d], fun σ1 t1 σ2 h => callS (by simpa only [runOp] using h), ?_⟩
    simp only [runOp] at h ⊢
    rw [show as.map (Opd.get { σ with boxes := σ.boxes.set s v }) = as.map (Opd.get σ) from List.map_congr_left fun x _ => get_eq x]
    exact callT h
  · rename_i d f as
    refine ⟨[2 * d], fun σ1 t1 σ2 h => ?_, ?_⟩
    · simp only [runOp] at h
      split at h <;> try (cases h; done)
      exact callS h
    · simp only [runOp, get_eq] at h ⊢
      split at h <;> try (cases h; done)
      rw [show as.map (Opd.get { σ with boxes := σ.boxes.set s v }) = as.map (Opd.get σ) from List.map_congr_left fun x _ => get_eq x]
      exact callT h
end Go.Vi
end
