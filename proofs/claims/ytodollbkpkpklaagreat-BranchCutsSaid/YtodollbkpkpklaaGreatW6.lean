/-
  A claim's own text, joined by a small program out of: Vj14, Vj14b.
-/
import Derived.Test.YtodollbkpkpklaaGreatW5
import Derived.RangeFuncNested
set_option linter.unusedVariables false
set_option linter.unusedSimpArgs false
section
/-
  A VERIFIED INTERPRETER (part 14): calls.
-/
set_option linter.unusedSimpArgs false
set_option linter.unusedVariables false
namespace Go.Vi
open Go Go.RowKit

section
variable {P : Program} {W : Base} {w : World} {S0 S : Nat → Nat → Prop} {β : BMap} {φ : FMap} {a : Act} {o : Oper} {σ : St}

/-- What is known of a result. -/
def ResRep (P : Program) (S : Nat → Nat → Prop) (w w' : World) (x : Value) (t : T) : Prop :=
  ∃ (S' : Nat → Nat → Prop) (φ : FMap), (∀ b o, S' b o → S b o ∨ w.heap.size ≤ b) ∧ (∀ b o, S' b o → b < w'.heap.size) ∧ Rep S' w' noB φ x t ∧
    (∀ k x e, φ k = some (x, e) → Fam P (fun b => b < w.heap.size) S' noB w' x e) ∧ ∀ k k' x x' e e', φ k = some (x, e) → φ k' = some (x', e') → k ≠ k' → x.ownBlock ≠ x'.ownBlock

/-- The function may be called as the interpreter calls it. -/
def callable (P : Program) (f : FuncId) : Bool :=
  match P.funcs[f]? with
  | some fn => fn.body.isSome && !(fn.name == "runtime.NumGoroutine")
  | none => false

/-- The call gives what is said, whatever the memory. -/
def SoundV (P : Program) (f : FuncId) (args : List T) (r : T) : Prop :=
  callable P f = true ∧ ∀ (w : World) (S : Nat → Nat → Prop) (vs : Array Value), (∀ b o, S b o → b < w.heap.size) → vs.size = args.length → (∀ (i : Nat) (x : Value) (t : T), vs[i]? = some x → args[i]? = some t → Rep S w noB noF x t) →
    Calls P f vs w fun e w' => ∃ x, e = .returned x ∧ Below w.heap.size w w' ∧ ResRep P S w w' x r

/-- The call gives what is said, and makes of the boxes that it is handed what is said. -/
def SoundIO (P : Program) (f : FuncId) (args : List T) (ins : List (Option (List T))) (r : T) (outs : List (Option (List T))) : Prop :=
  callable P f = true ∧ ∀ (B : Base) (S : Nat → Nat → Prop) (β : BMap) (φ : FMap) (vs : Array Value), Inv P B S S β φ ins B.w → vs.size = args.length → (∀ (i : Nat) (x : Value) (t : T), vs[i]? = some x → args[i]? = some t → Rep S B.w β φ x t) →
    Calls P f vs B.w fun e w' => ∃ x S' β' φ', e = .returned x ∧ Inv P { B with nb := 0, β0 := noB } S S' β' φ' outs w' ∧ Rep S' w' β' φ' x r ∧ ∀ l b, β l = some b → β' l = some b ∨ outs[l]? = some none

/-- A fence that shuts out nothing; r: of what make the frame is. -/
def wd (r : Option Nat) : Fence := { Fence.wide with round := r }

/-- What a function that yields does between two rounds: it turns blocks of its own alone. -/
structure IterStep (own own' : Nat → Prop) (W W' : World) : Prop where
  os : W'.os = W.os
  tape : W'.tape = W.tape
  output : W'.output = W.output
  size : W.heap.size ≤ W'.heap.size
  grow : ∀ b, own b → own' b
  new : ∀ b, own' b → own b ∨ (W.heap.size ≤ b ∧ b < W'.heap.size)
  block : ∀ b, b < W.heap.size → ¬ own b → W'.heap[b]? = W.heap[b]?
  room : Grows W W'

/-- What a round does: it turns no block of the iterator's, and no cell that stays. -/
structure RoundStep (S : Nat → Nat → Prop) (own : Nat → Prop) (W W' : World) : Prop where
  os : W'.os = W.os
  tape : W'.tape = W.tape
  output : W'.output = W.output
  size : W.heap.size ≤ W'.heap.size
  block : ∀ b, own b → W'.heap[b]? = W.heap[b]?
  room : Grows W W'
  cell : ∀ b o, S b o → ∀ sp v, W.cell? ⟨b, o, sp⟩ = some v → W'.cell? ⟨b, o, sp⟩ = some v

/-- The function, ranged over, yields what is said, if each round goes on. -/
def SeqSound (P : Program) (f : FuncId) (caps : List T) (ys : List (List T)) : Prop :=
  callable P f = true ∧ ∀ (l : Nat) (w : World) (S : Nat → Nat → Prop) (vs : Array Value), (∀ b o, S b o → b < w.heap.size) → vs.size = caps.length → (∀ (i : Nat) (x : Value) (t : T), vs[i]? = some x → caps[i]? = some t → Rep S w noB noF x t) →
    ∀ (J : Nat → (Nat → Prop) → World → Prop), (∀ k own own' W W', J k own W → (∀ b, own b → w.heap.size ≤ b ∧ b < W.heap.size) → IterStep own own' W W' → J k own' W') →
    (∀ k y own W (xs : Array Value), ys[k]? = some y → J k own W → (∀ b, own b → w.heap.size ≤ b ∧ b < W.heap.size) → xs.size = y.length → (∀ (i : Nat) (x : Value) (t : T), xs[i]? = some x → y[i]? = some t → Rep S W noB noF x t) →
      ∀ n, YieldAt (wd none) n P l xs W fun e W' => e = .returned (.bool true) ∧ J (k + 1) own W' ∧ RoundStep S own W W') →
    J 0 (fun _ => False) w → ∀ n, CallsIn (wd none) n P f (#[.func (.yield l) #[] #[]] ++ vs) w fun e W' => (∃ v, e = .returned v) ∧ ∃ own, (∀ b, own b → w.heap.size ≤ b ∧ b < W'.heap.size) ∧ J ys.length own W'

def Sound (P : Program) (f : FuncId) (args : List T) (r : T) : Prop :=
  if f < ioBase then SoundV P f args r
  else (∃ as ins r' outs, args = [.tup as, .tup ins] ∧ r = .tup [r', .tup outs] ∧ SoundIO P (f - ioBase) as (ins.map decB) r' (outs.map decB)) ∨
    ∃ caps ys, args = [.tup caps] ∧ r = .tup (ys.map .tup) ∧ SeqSound P (f - ioBase) caps ys

/-- With the boxes. -/
def withBoxes (S : Nat → Nat → Prop) (β : BMap) : Nat → Nat → Prop := fun b o => S b o ∨ ∃ s, β s = some b

theorem mapM_map {α γ : Type} {f : α → Option γ} {xs : List α} {ys : List γ} (h : xs.mapM f = some ys) : ∀ (i : Nat) (y : γ), ys[i]? = some y → ∃ x, xs[i]? = some x ∧ f x = some y := by
  intro i y hy
  obtain ⟨h1, h2⟩ := mapM_spec h
  have hi := (List.getElem?_eq_some_iff.1 hy).1
  have hi' : i < xs.length := by omega
  exact ⟨xs[i], by simp [hi'], h2 i _ y (by simp [hi']) hy⟩

theorem close_sound {bx : List (Option (List T))} (hI : Inv P W S0 S β φ bx w) : ∀ (k : Nat) (x : Value) (t u : T), Rep S w β φ x t → close bx k t = some u → Rep (withBoxes S β) w noB noF x u := by
  intro k
  induction k with
  | zero => intro x t u _ h; simp [close] at h
  | succ k ih =>
    intro x t u hr h
    have hS : ∀ b o, S b o → withBoxes S β b o := fun b o h => .inl h
    cases hr with
    | undef => simp only [close, Option.some.injEq] at h; subst h; exact .undef ..
    | v => simp only [close, Option.some.injEq] at h; subst h; exact .v ..
    | nil => simp only [close, Option.some.injEq] at h; subst h; exact .nil _ _ _ rfl
    | sl _ _ g ad n c cs f hnc hg hcs hrep =>
      have hcs' : ∀ i, i < cs.length → withBoxes S β ad.block (ad.off + i) ∧ w.cell? (ad.add i) = some (f i) ∧ (f i).oneCell' = true := fun i hi => ⟨hS _ _ (hcs i hi).1, (hcs i hi).2⟩
      have hrep' : ∀ (i : Nat) (t : T), cs[i]? = some t → Rep (withBoxes S β) w noB noF (f i) t := fun i t ht => (hrep i t ht).mono hS (fun _ _ => id) (fun _ _ => id) (fun _ _ _ _ _ => id) (Grows.refl _)
      simp only [close, Option.some.injEq] at h
      subst h
      exact .sl _ _ _ ad n c cs f hnc (.inl (.inr rfl)) hcs' hrep'
    | ptr _ _ ad cs off f hcs hrep =>
      simp only [close, Option.some.injEq] at h
      subst h
      exact .ptr _ _ ad cs off f (fun i hi => ⟨hS _ _ (hcs i hi).1, (hcs i hi).2⟩) fun i t ht => (hrep i t ht).mono hS (fun _ _ => id) (fun _ _ => id) (fun _ _ _ _ _ => id) (Grows.refl _)
    | mref => simp only [close, Option.some.injEq] at h; subst h; exact .undef ..
    | bsl0 _ _ ad s off m =>
      simp only [close, if_true, Option.some.injEq] at h
      subst h
      cases ad with
      | none => exact .nil _ _ _ rfl
      | some ad => exact .sl _ _ _ ad _ _ _ (fun _ => undef) (Nat.le_refl _) (.inl (.inr rfl)) (fun i hi => by simp at hi) (fun i t ht => by simp at ht)
    | ref _ _ s off b hb hp =>
      simp only [close] at h
      split at h <;> try (cases h; done)
      rename_i cs hs
      obtain ⟨cs', hcs', rfl⟩ := Option.map_eq_some_iff.1 h
      obtain ⟨c, e, hc, hsz, h1, hrep⟩ := box_cells hI hb hp hs
      obtain ⟨hl, _⟩ := mapM_spec hcs'
      have := Rep.ptr (S := withBoxes S β) (w := w) noB noF ⟨b, 0, none⟩ cs' off (fun i => c.getD i undef) (fun i hi => ⟨.inr ⟨s, hb⟩, by rw [add_none, Nat.zero_add, cell_box hc]; simp [Array.getD, show i < c.size by omega], h1 i _ (by omega) (by simp [Array.getD, show i < c.size by omega])⟩)
        (fun i t ht => by
          obtain ⟨q, hq, hcl⟩ := mapM_map hcs' i t ht
          have hi := (List.getElem?_eq_some_iff.1 hq).1
          exact ih _ q t (hrep i _ q (by simp [Array.getD, show i < c.size by omega]) hq) hcl)
      rwa [add_none, Nat.zero_add] at this
    | bsl _ _ s off n m b c hb hp hnc hzz =>
      simp only [close] at h
      split at h
      · rename_i hn
        simp only [Option.some.injEq] at h
        subst h hn
        exact .sl _ _ _ ⟨b, off, none⟩ 0 c [] (fun _ => undef) (Nat.zero_le _) (.inl (.inr rfl)) (fun i hi => by simp at hi) (fun i t ht => by simp at ht)
      split at h <;> try (cases h; done)
      rename_i cs hs
      obtain ⟨cs', hcs', rfl⟩ := Option.map_eq_some_iff.1 h
      obtain ⟨cc, e, hc, hsz, h1, hrep⟩ := box_cells hI hb hp hs
      obtain ⟨hl, _⟩ := mapM_spec hcs'
      simp only [List.length_take, List.length_drop] at hl
      exact .sl _ _ _ ⟨b, off, none⟩ n c cs' (fun i => cc.getD (off + i) undef) hnc (.inl (.inr rfl)) (fun i hi => ⟨.inr ⟨s, hb⟩, by rw [add_none, cell_box hc]; simp [Array.getD, show off + i < cc.size by omega], h1 (off + i) _ (by omega) (by simp [Array.getD, show off + i < cc.size by omega])⟩)
        (fun i t ht => by
          obtain ⟨q, hq, hcl⟩ := mapM_map hcs' i t ht
          rw [List.getElem?_take] at hq
          split at hq
          · rw [List.getElem?_drop] at hq
            have hi := (List.getElem?_eq_some_iff.1 hq).1
            exact ih _ q t (hrep (off + i) _ q (by simp [Array.getD, show off + i < cc.size by omega]) hq) hcl
          · cases hq)
    | agg _ _ xs ts hl h1 hrep =>
      simp only [close] at h
      obtain ⟨us, hus, rfl⟩ := Option.map_eq_some_iff.1 h
      obtain ⟨hlu, hsp⟩ := mapM_spec hus
      exact .agg _ _ _ _ (by omega) h1 fun i x u hx hu => by
        obtain ⟨q, hq, hcl⟩ := mapM_map hus i u hu
        exact ih x q u (hrep i x q hx hq) hcl
    | tup _ _ xs ts hl hrep =>
      simp only [close] at h
      obtain ⟨us, hus, rfl⟩ := Option.map_eq_some_iff.1 h
      obtain ⟨hlu, hsp⟩ := mapM_spec hus
      exact .tup _ _ _ _ (by omega) fun i x u hx hu => by
        obtain ⟨q, hq, hcl⟩ := mapM_map hus i u hu
        exact ih x q u (hrep i x q hx hq) hcl
    | clo _ _ fn xs ys ts us hx hy h1 h2 =>
      simp only [close, Option.bind_eq_bind, Option.pure_def] at h
      obtain ⟨ts', hts, h⟩ := Option.bind_eq_some_iff.1 h
      obtain ⟨us', hus, h⟩ := Option.bind_eq_some_iff.1 h
      simp only [Option.some.injEq] at h
      subst h
      obtain ⟨hl1, _⟩ := mapM_spec hts
      obtain ⟨hl2, _⟩ := mapM_spec hus
      exact .clo _ _ _ _ _ _ _ (by omega) (by omega) (fun i x u hx hu => by
        obtain ⟨q, hq, hcl⟩ := mapM_map hts i u hu
        exact ih x q u (h1 i x q hx hq) hcl) (fun i x u hx hu => by
        obtain ⟨q, hq, hcl⟩ := mapM_map hus i u hu
        exact ih x q u (h2 i x q hx hq) hcl)

/-- Without references the boxes are not wanted. -/
theorem close_sound' {bx : List (Option (List T))} : ∀ (k : Nat) (x : Value) (t u : T), Rep S w β φ x t → t.hasRef = false → close bx k t = some u → Rep S w noB noF x u := by
  intro k
  induction k with
  | zero => intro x t u _ _ h; simp [close] at h
  | succ k ih =>
    intro x t u hr hn h
    cases hr with
    | undef => simp only [close, Option.some.injEq] at h; subst h; exact .undef ..
    | v => simp only [close, Option.some.injEq] at h; subst h; exact .v ..
    | nil => simp only [close, Option.some.injEq] at h; subst h; exact .nil _ _ _ rfl
    | sl _ _ g ad n c cs f hnc hg hcs hrep =>
      simp only [close, Option.some.injEq] at h
      subst h
      exact .sl _ _ _ ad n c cs f hnc (.inl (.inr rfl)) hcs hrep
    | ptr _ _ ad cs off f hcs hrep => simp only [close, Option.some.injEq] at h; subst h; exact .ptr _ _ ad cs off f hcs hrep
    | ref => simp [T.hasRef] at hn
    | bsl => simp [T.hasRef] at hn
    | bsl0 => simp [T.hasRef] at hn
    | mref => simp [T.hasRef] at hn
    | agg _ _ xs ts hl h1 hrep =>
      simp only [T.hasRef, hasRefL_any, List.any_eq_false] at hn
      simp only [close] at h
      obtain ⟨us, hus, rfl⟩ := Option.map_eq_some_iff.1 h
      obtain ⟨hlu, hsp⟩ := mapM_spec hus
      exact .agg _ _ _ _ (by omega) h1 fun i x u hx hu => by
        obtain ⟨q, hq, hcl⟩ := mapM_map hus i u hu
        exact ih x q u (hrep i x q hx hq) (by simpa using hn q (List.mem_of_getElem? hq)) hcl
    | tup _ _ xs ts hl hrep =>
      simp only [T.hasRef, hasRefL_any, List.any_eq_false] at hn
      simp only [close] at h
      obtain ⟨us, hus, rfl⟩ := Option.map_eq_some_iff.1 h
      obtain ⟨hlu, hsp⟩ := mapM_spec hus
      exact .tup _ _ _ _ (by omega) fun i x u hx hu => by
        obtain ⟨q, hq, hcl⟩ := mapM_map hus i u hu
        exact ih x q u (hrep i x q hx hq) (by simpa using hn q (List.mem_of_getElem? hq)) hcl
    | clo _ _ fn xs ys ts us hx hy h1 h2 =>
      simp only [T.hasRef, hasRefL_any, Bool.or_eq_false_iff, List.any_eq_false] at hn
      simp only [close, Option.bind_eq_bind, Option.pure_def] at h
      obtain ⟨ts', hts, h⟩ := Option.bind_eq_some_iff.1 h
      obtain ⟨us', hus, h⟩ := Option.bind_eq_some_iff.1 h
      simp only [Option.some.injEq] at h
      subst h
      obtain ⟨hl1, _⟩ := mapM_spec hts
      obtain ⟨hl2, _⟩ := mapM_spec hus
      exact .clo _ _ _ _ _ _ _ (by omega) (by omega) (fun i x u hx hu => by
        obtain ⟨q, hq, hcl⟩ := mapM_map hts i u hu
        exact ih x q u (h1 i x q hx hq) (by simpa using hn.1 q (List.mem_of_getElem? hq)) hcl) (fun i x u hx hu => by
        obtain ⟨q, hq, hcl⟩ := mapM_map hus i u hu
        exact ih x q u (h2 i x q hx hq) (by simpa using hn.2 q (List.mem_of_getElem? hq)) hcl)

mutual
theorem import_remap (d : Nat) : ∀ t : T, t.import d = t.remap some (fun k => if k < 8 then some (8 * d + k) else none)
  | .sl (.own k e) n cs => by simp only [T.import, T.remap]; split <;> rfl
  | .sl .nil n cs | .sl .any n cs | .sl .imm n cs | .sl .clip n cs => rfl
  | .agg ts => by simp only [T.import, T.remap, importL_remap d ts]
  | .tup ts => by simp only [T.import, T.remap, importL_remap d ts]
  | .clo f a b => by simp only [T.import, T.remap, importL_remap d a, importL_remap d b]
  | .undef | .v _ | .ptr _ _ | .ref _ _ | .bsl _ _ _ _ | .mref _ => rfl
theorem importL_remap (d : Nat) : ∀ ts : List T, importL d ts = remapL some (fun k => if k < 8 then some (8 * d + k) else none) ts
  | [] => rfl
  | t :: ts => by simp only [importL, remapL, import_remap d t, importL_remap d ts]
end

theorem Rep.import {φ' : FMap} {x : Value} {t : T} (d : Nat) (h : Rep S w β φ x t) (hφ : ∀ k p, k < 8 → φ k = some p → φ' (8 * d + k) = some p) : Rep S w β φ' x (t.import d) := by
  rw [import_remap]
  refine h.remap (fun s s' b h1 h2 => ?_) (fun s s' h1 => ?_) fun k k' p h1 h2 => ?_
  · simp only [Option.some.injEq] at h1; subst h1; exact h2
  · simp only [Option.some.injEq] at h1; subst h1; rfl
  · split at h1
    · rename_i hh
      simp only [Option.some.injEq] at h1
      subst h1
      exact hφ _ _ hh h2
    · cases h1

theorem hit_iff (d k : Nat) : hit (2 * d) k = true ↔ k / 8 = d := by
  simp only [hit, show 2 * d % 2 = 0 by omega, if_true, beq_iff_eq]
  omega

/-- Behind a call. -/
theorem call_after {d : Nat} (hI : Inv P W S0 S β φ σ.boxes w) {w' : World} (hb : Below w.heap.size w w') {S' : Nat → Nat → Prop} {ψ : FMap} {x : Value} {r : T} (hlt : ∀ b o, S' b o → b < w'.heap.size)
    (hr : Rep (fun b o => S b o ∨ (w.heap.size ≤ b ∧ S' b o)) w' noB ψ x r) (hf : ∀ k x e, ψ k = some (x, e) → Fam P (fun b => b < w.heap.size) S' noB w' x e)
    (hinj : ∀ k k' x x' e e', ψ k = some (x, e) → ψ k' = some (x', e') → k ≠ k' → x.ownBlock ≠ x'.ownBlock) : After P W S0 S β φ w σ (σ.strip (2 * d)) (r.import d) x w' := by
  let S2 : Nat → Nat → Prop := fun b o => S b o ∨ (w.heap.size ≤ b ∧ S' b o)
  let φ2 : FMap := fun k => if k / 8 = d then ψ (k % 8) else φ k
  have hg := hI.grow hb
  have hsz := hb.size
  have hboxlt : ∀ s b, β s = some b → b < w.heap.size := fun s b hs => hI.boxLt hs
  have hmono : ∀ y u, Rep S w β φ y u → Rep S2 w' β φ2 y (u.strip (2 * d)) := fun y u h =>
    Rep.strip (2 * d) ((h.grow hI.lt hb).mono (fun b o h => .inl h) (fun _ _ => id) (fun _ _ => id) (fun _ _ _ _ _ => id) (Grows.refl _)) fun k p hk hne => by
      have : ¬ k / 8 = d := fun h => by rw [← hit_iff] at h; rw [h] at hne; cases hne
      simp [φ2, this, hk]
  refine ⟨S2, β, φ2, T.strip (2 * d), ?_, ⟨hg.below, ?_, ?_, ?_, hI.inj, ?_, ?_, fun b o h => ?_, fun b o h => .inl (hg.base b o h), hg.stay, fun s b hn h0 => (hI.pin s b hn h0).imp id fun h => by simp [St.strip, h]⟩, hmono, by simp [St.strip, stripL_map], by simp [St.strip, stripL_map]⟩
  · exact (hr.import d (φ' := φ2) fun k p hk hp => by
      have h1 : (8 * d + k) / 8 = d := by omega
      have h2 : (8 * d + k) % 8 = k := by omega
      simp [φ2, h1, h2, hp]).mono (fun _ _ => id) (fun s b h => by simp [noB] at h) (fun _ _ => id) (fun _ _ _ _ _ => id) (Grows.refl _)
  · intro b o h
    rcases h with h | ⟨_, h⟩
    · exact hg.lt b o h
    · exact hlt b o h
  · intro s b hs
    obtain ⟨h1, h2, cs, h3, h4⟩ := hI.box s b hs
    refine ⟨h1, fun o ho => ?_, cs.map (T.strip (2 * d)), ?_, h4.mono (hb.block b h4.lt) hmono⟩
    · rcases ho with ho | ⟨ho, _⟩
      · exact h2 o ho
      · have := hI.boxLt hs; omega
    · simp only [St.strip, List.getElem?_map, h3, Option.map_some, stripL_map]
  · intro s cs hs
    simp only [St.strip, List.getElem?_map, Option.map_eq_some_iff] at hs
    obtain ⟨ob, hob, hs⟩ := hs
    cases ob with
    | none => simp at hs
    | some cs' =>
      simp only [Option.map_some, Option.some.injEq] at hs
      exact (hI.boxed s cs' hob).imp (fun e => by obtain ⟨u, hu, hs⟩ := hs; subst hu; rw [← hs, e]; rfl) id
  · intro k y e hk
    by_cases h : k / 8 = d
    · simp only [φ2, h, if_true] at hk
      obtain ⟨g, n, c, sz, xs, i, rfl, hi, hs, ho, h1, h2, h3⟩ := hf _ y e hk
      refine ⟨g, n, c, sz, xs, i, rfl, hi, hs, ho, fun o h => ?_, fun s hs' => ?_, fun hX => ?_⟩
      · rcases h with h | ⟨_, h⟩
        · have := hI.lt g o h; omega
        · exact h1 o h
      · have := hboxlt s g hs'; omega
      · have := hI.below.lt _ hX; have := hI.below.size; omega
    · simp only [φ2, h, if_false] at hk
      obtain ⟨g, n, c, sz, xs, i, rfl, hi, hs, ho, h1, h2⟩ := hg.fam k y e hk
      have hgl := hI.famLt hk (g := g) (by simp [Value.ownBlock])
      refine ⟨g, n, c, sz, xs, i, rfl, hi, hs, ho, fun o h => ?_, h2⟩
      rcases h with h | ⟨h, _⟩
      · exact h1 o h
      · omega
  · have hnew : ∀ k y e, ψ k = some (y, e) → ∃ g, y.ownBlock = some g ∧ w.heap.size ≤ g := fun k y e hk => by
      obtain ⟨g, n, c, sz, xs, i, rfl, hi, hs, ho, h1, h2, h3⟩ := hf _ y e hk
      exact ⟨g, by simp [Value.ownBlock], Nat.le_of_not_lt h3⟩
    have hold : ∀ k y e, φ k = some (y, e) → ∃ g, y.ownBlock = some g ∧ g < w.heap.size := fun k y e hk => by
      obtain ⟨g, n, c, sz, xs, i, rfl, hi, hs, ho, h1, h2⟩ := hI.fam _ y e hk
      exact ⟨g, by simp [Value.ownBlock], (ho.lt g (by simp [Value.ownBlock])).2⟩
    intro k k' y y' e e' hk hk' hne
    by_cases h : k / 8 = d <;> by_cases h' : k' / 8 = d
    · simp only [φ2, h, if_true] at hk
      simp only [φ2, h', if_true] at hk'
      exact hinj _ _ _ _ _ _ hk hk' (by omega)
    · simp only [φ2, h, if_true] at hk
      simp only [φ2, h', if_false] at hk'
      obtain ⟨g, hg1, hg2⟩ := hnew _ _ _ hk
      obtain ⟨g', hg1', hg2'⟩ := hold _ _ _ hk'
      rw [hg1, hg1']; simp; omega
    · simp only [φ2, h, if_false] at hk
      simp only [φ2, h', if_true] at hk'
      obtain ⟨g, hg1, hg2⟩ := hold _ _ _ hk
      obtain ⟨g', hg1', hg2'⟩ := hnew _ _ _ hk'
      rw [hg1, hg1']; simp; omega
    · simp only [φ2, h, if_false] at hk
      simp only [φ2, h', if_false] at hk'
      exact hI.famInj _ _ _ _ _ _ hk hk' hne
  · rcases h with h | ⟨h, _⟩
    · exact hI.top b o h
    · exact .inr fun hX => by have := hI.below.lt _ hX; have := hI.below.size; omega

/-! #### results that bear no reference -/
theorem fresh1_rep {S' : Nat → Nat → Prop} {w' : World} {ψ : FMap} {x : Value} {t : T} {n0 : Nat} (hf : ∀ k x e, ψ k = some (x, e) → Fam P (fun b => b < n0) S' noB w' x e) (h : Rep S' w' noB ψ x t) (hfr : t.fresh1 = true) :
    Rep (fun b o => S b o ∨ (n0 ≤ b ∧ S' b o)) w' noB ψ x t := by
  cases h with
  | undef => exact .undef ..
  | v => exact .v ..
  | nil _ _ g hg => exact .nil _ _ g hg
  | sl _ _ g ad n c cs f hnc hg hcs hrep =>
    have nil' : cs = [] → Rep (fun b o => S b o ∨ (n0 ≤ b ∧ S' b o)) w' noB ψ (.slice (some ad) n c) (.sl g n cs) := fun h => by
      subst h
      exact .sl _ _ _ ad n c [] f hnc hg (fun i hi => by simp at hi) (fun i t ht => by simp at ht)
    rcases hg with (rfl | rfl) | ⟨rfl, hg⟩ | ⟨k, e, rfl, hk⟩
    · exact nil' (by cases cs <;> simp [T.fresh1] at hfr ⊢)
    · exact nil' (by cases cs <;> simp [T.fresh1] at hfr ⊢)
    · exact nil' (by cases cs <;> simp [T.fresh1] at hfr ⊢)
    · simp only [T.fresh1, List.all_eq_true] at hfr
      rcases hk with hk | ⟨_, _, rfl⟩
      · obtain ⟨g', n', c', sz, xs, i, hx, hi, hs, ho, h1, h2, h3⟩ := hf k _ e hk
        simp only [Value.slice.injEq, Option.some.injEq] at hx
        obtain ⟨rfl, rfl, rfl⟩ := hx
        refine .sl _ _ _ ⟨g', 0, none⟩ n c cs f hnc (.inr (.inr ⟨k, e, rfl, .inl hk⟩)) (fun i hi => ⟨.inr ⟨Nat.le_of_not_lt h3, (hcs i hi).1⟩, (hcs i hi).2⟩) (fun i t ht => ?_)
        have hv := hfr t (List.mem_of_getElem? ht)
        cases t <;> simp [T.isV] at hv
        have := hrep i _ ht
        have := rep_v this
        subst this
        exact .v ..
      · exact nil' rfl
  | ptr => simp [T.fresh1] at hfr
  | ref => simp [T.fresh1] at hfr
  | bsl => simp [T.fresh1] at hfr
  | bsl0 => simp [T.fresh1] at hfr
  | mref => simp [T.fresh1] at hfr
  | agg => simp [T.fresh1] at hfr
  | tup => simp [T.fresh1] at hfr
  | clo => simp [T.fresh1] at hfr

theorem fresh2_rep {S' : Nat → Nat → Prop} {w' : World} {ψ : FMap} {x : Value} {t : T} {n0 : Nat} (hf : ∀ k x e, ψ k = some (x, e) → Fam P (fun b => b < n0) S' noB w' x e) (h : Rep S' w' noB ψ x t) (hfr : t.fresh2 = true) :
    Rep (fun b o => S b o ∨ (n0 ≤ b ∧ S' b o)) w' noB ψ x t := by
  by_cases ha : ∃ cs, t = .agg cs
  · obtain ⟨cs, rfl⟩ := ha
    simp only [T.fresh2, List.all_eq_true] at hfr
    cases h with
    | agg _ _ xs ts hl h1 hrep => exact .agg _ _ _ _ hl h1 fun i x t hx ht => fresh1_rep hf (hrep i x t hx ht) (hfr t (List.mem_of_getElem? ht))
  · refine fresh1_rep hf h ?_
    cases t <;> first | exact hfr | exact absurd ⟨_, rfl⟩ ha

theorem fresh_rep {S' : Nat → Nat → Prop} {w' : World} {ψ : FMap} {x : Value} {t : T} {n0 : Nat} (hf : ∀ k x e, ψ k = some (x, e) → Fam P (fun b => b < n0) S' noB w' x e) (h : Rep S' w' noB ψ x t) (hfr : t.fresh = true) :
    Rep (fun b o => S b o ∨ (n0 ≤ b ∧ S' b o)) w' noB ψ x t := by
  by_cases ha : ∃ cs, t = .tup cs
  · obtain ⟨cs, rfl⟩ := ha
    simp only [T.fresh, List.all_eq_true] at hfr
    cases h with
    | tup _ _ xs ts hl hrep => exact .tup _ _ _ _ hl fun i x t hx ht => fresh2_rep hf (hrep i x t hx ht) (hfr t (List.mem_of_getElem? ht))
  · refine fresh2_rep hf h ?_
    cases t <;> first | exact hfr | exact absurd ⟨_, rfl⟩ ha

/-- A call. -/
theorem callT_sound {C : FuncId → List T → Option T} (hC : ∀ f args r, C f args = some r → Sound P f args r) {d f : Nat} {as : List T} {vs : Array Value} {t : T} {σ' : St} (hI : Inv P W S0 S β φ σ.boxes w)
    (hl : vs.size = as.length) (ha : ∀ (i : Nat) (x : Value) (t : T), vs[i]? = some x → as[i]? = some t → Rep S w β φ x t) (hr : runOp.callT C σ d f as = some (t, σ')) :
    callable P f = true ∧ Calls P f vs w fun e w' => ∃ x, e = .returned x ∧ After P W S0 S β φ w σ σ' t x w' := by
  simp only [runOp.callT, Option.bind_eq_bind] at hr
  obtain ⟨cs, hcs, hr⟩ := Option.bind_eq_some_iff.1 hr
  obtain ⟨r, hr', hr⟩ := Option.bind_eq_some_iff.1 hr
  split at hr <;> try (cases hr; done)
  rename_i hfr
  simp only [Option.some.injEq, Prod.mk.injEq] at hr
  obtain ⟨rfl, rfl⟩ := hr
  unfold callV at hr'
  split at hr' <;> try (cases hr'; done)
  rename_i hlt
  have hS := hC f cs r hr'
  unfold Sound at hS
  rw [if_pos hlt] at hS
  obtain ⟨hcall, hsound⟩ := hS
  refine ⟨hcall, ?_⟩
  obtain ⟨hlc, _⟩ := mapM_spec hcs
  by_cases href : hasRefL as = true
  · have hfresh : r.fresh = true := by simpa [href] using hfr
    refine (hsound w (withBoxes S β) vs (fun b o h => ?_) (by omega) (fun i x u hx hu => ?_)).mono fun e w' h => ?_
    · rcases h with h | ⟨s, h⟩
      · exact hI.lt b o h
      · exact hI.boxLt h
    · obtain ⟨q, hq, hcl⟩ := mapM_map hcs i u hu
      exact close_sound hI 6 x q u (ha i x q hx hq) hcl
    · obtain ⟨x, rfl, hb, S', ψ, h1, h2, h3, h4, h5⟩ := h
      exact ⟨x, rfl, call_after hI hb h2 (fresh_rep h4 h3 hfresh) h4 h5⟩
  · simp only [hasRefL_any, Bool.not_eq_true, List.any_eq_false] at href
    refine (hsound w S vs hI.lt (by omega) (fun i x u hx hu => ?_)).mono fun e w' h => ?_
    · obtain ⟨q, hq, hcl⟩ := mapM_map hcs i u hu
      exact close_sound' 6 x q u (ha i x q hx hq) (by simpa using href q (List.mem_of_getElem? hq)) hcl
    · obtain ⟨x, rfl, hb, S', ψ, h1, h2, h3, h4, h5⟩ := h
      refine ⟨x, rfl, call_after hI hb h2 (h3.mono (fun b o h => ?_) (fun _ _ => id) (fun _ _ => id) (fun _ _ _ _ _ => id) (Grows.refl _)) h4 h5⟩
      rcases h1 b o h with h' | h'
      · exact .inl h'
      · exact .inr ⟨h', h⟩

end
end Go.Vi
end
section
/-
  A VERIFIED INTERPRETER (part 14b): calls that change boxes.
-/
set_option linter.unusedSimpArgs false
set_option linter.unusedVariables false
namespace Go.Vi
open Go Go.RowKit

theorem idxOf?_nodup {l : List Nat} {x i : Nat} (hn : l.Nodup) (h : l[i]? = some x) : l.idxOf? x = some i := by
  have hm := List.mem_of_getElem? h
  cases hj : l.idxOf? x with
  | none =>
    rw [List.idxOf?, List.findIdx?_eq_none_iff] at hj
    have := hj x hm
    simp at this
  | some j =>
    have h2 := idxOf?_spec hj
    obtain ⟨h3, h4⟩ := List.getElem?_eq_some_iff.1 h
    obtain ⟨h5, h6⟩ := List.getElem?_eq_some_iff.1 h2
    have : j = i := (List.getElem_inj hn).1 (h6.trans h4.symm)
    rw [this]

theorem lab_unlab {ss : List Nat} {s l : Nat} (h : lab ss s = some l) : unlab ss l = some s ∧ l % 2 = s % 2 ∧ l < 2 * ss.length := by
  unfold lab at h
  obtain ⟨i, hi, rfl⟩ := Option.map_eq_some_iff.1 h
  have h1 := idxOf?_spec hi
  have h2 := (List.getElem?_eq_some_iff.1 h1).1
  have e1 : (2 * i + s % 2) / 2 = i := by omega
  have e2 : (2 * i + s % 2) % 2 = s % 2 := by omega
  refine ⟨?_, e2, by omega⟩
  simp only [unlab, e1, h1, Option.bind_some, e2, if_true]

theorem unlab_lab {ss : List Nat} (hn : ss.Nodup) {s l : Nat} (h : unlab ss l = some s) : lab ss s = some l := by
  unfold unlab at h
  obtain ⟨s', hs', h⟩ := Option.bind_eq_some_iff.1 h
  split at h
  · rename_i hp
    simp only [Option.some.injEq] at h
    subst h
    simp only [lab, idxOf?_nodup hn hs', Option.map_some, Option.some.injEq]
    omega
  · cases h

def famUn (fs : List Nat) (k' : Nat) : Option Nat :=
  if k' % 8 = 0 ∧ famBase ≤ k' / 8 then (fs[k' / 8 - famBase]?).bind fun k => if famLab fs k = some k' then some k else none else none

theorem famUn_iff {fs : List Nat} {k k' : Nat} : famLab fs k = some k' ↔ famUn fs k' = some k := by
  constructor
  · intro h
    have h0 := h
    unfold famLab at h
    obtain ⟨i, hi, rfl⟩ := Option.map_eq_some_iff.1 h
    have h1 := idxOf?_spec hi
    have e1 : 8 * (famBase + i) % 8 = 0 := by omega
    have e2 : 8 * (famBase + i) / 8 = famBase + i := by omega
    have e3 : famBase + i - famBase = i := by omega
    simp only [famUn, e1, e2, e3, h1, true_and, Nat.le_add_right, if_true, Option.bind_some, h0]
  · intro h
    unfold famUn at h
    split at h
    · obtain ⟨k2, hk2, h⟩ := Option.bind_eq_some_iff.1 h
      split at h
      · simp only [Option.some.injEq] at h; subst h; assumption
      · cases h
    · cases h

theorem decB_encB (o : Option (List T)) : decB (encB o) = o := by cases o <;> rfl

/-- What boxes and families are, wherever the run began. -/
structure Core (P : Program) (X : Nat → Prop) (S : Nat → Nat → Prop) (β : BMap) (φ : FMap) (bx : List (Option (List T))) (w : World) : Prop where
  lt : ∀ b o, S b o → b < w.heap.size
  box : ∀ s b, β s = some b → ¬ X b ∧ (∀ o, ¬ S b o) ∧ ∃ cs, bx[s]? = some (some cs) ∧ BoxAt S w β φ (s % 2) b cs
  boxed : ∀ s cs, bx[s]? = some (some cs) → cs = [] ∨ ∃ b, β s = some b
  inj : ∀ s s' b, β s = some b → β s' = some b → s = s'
  fam : ∀ k x e, φ k = some (x, e) → Fam P X S β w x e
  famInj : ∀ k k' x x' e e', φ k = some (x, e) → φ k' = some (x', e') → k ≠ k' → x.ownBlock ≠ x'.ownBlock

section
variable {P : Program} {W : Base} {w : World} {S0 S : Nat → Nat → Prop} {β : BMap} {φ : FMap} {a : Act} {o : Oper} {σ : St}

theorem Inv.core {bx : List (Option (List T))} (h : Inv P W S0 S β φ bx w) : Core P W.X S β φ bx w := ⟨h.lt, h.box, h.boxed, h.inj, h.fam, h.famInj⟩

/-- Boxes and families by other names. -/
theorem Core.relabel {X X' : Nat → Prop} {bx bx' : List (Option (List T))} {ρ ρi η ηi : Nat → Option Nat} (h : Core P X S β φ bx w) (hρ : ∀ s l, ρ s = some l ↔ ρi l = some s) (hη : ∀ k k', η k = some k' ↔ ηi k' = some k)
    (hp : ∀ s l, ρ s = some l → l % 2 = s % 2) (hb1 : ∀ s l cs, ρ s = some l → bx[s]? = some (some cs) → bx'[l]? = some (some (remapL ρ η cs)))
    (hb2 : ∀ l cs', bx'[l]? = some (some cs') → cs' = [] ∨ ∃ s cs, ρ s = some l ∧ bx[s]? = some (some cs) ∧ cs' = remapL ρ η cs)
    (hX : ∀ b, X' b → X b ∨ ((∀ l, (ρi l).bind β ≠ some b) ∧ ∀ k x e, (ηi k).bind φ = some (x, e) → x.ownBlock ≠ some b)) :
    Core P X' S (fun l => (ρi l).bind β) (fun k => (ηi k).bind φ) bx' w ∧ ∀ x t, Rep S w β φ x t → Rep S w (fun l => (ρi l).bind β) (fun k => (ηi k).bind φ) x (t.remap ρ η) := by
  have hm : ∀ x t, Rep S w β φ x t → Rep S w (fun l => (ρi l).bind β) (fun k => (ηi k).bind φ) x (t.remap ρ η) := fun x t hx =>
    hx.remap (fun s s' b h1 h2 => by simp [(hρ s s').1 h1, h2]) hp (fun k k' p h1 h2 => by simp [(hη k k').1 h1, h2])
  refine ⟨⟨h.lt, fun l b hb => ?_, fun l cs' hl => ?_, fun l l' b hb hb' => ?_, fun k x e hk => ?_, fun k k' x x' e e' hk hk' hne => ?_⟩, hm⟩
  · have hb0 := hb
    obtain ⟨s, hs, hb⟩ := Option.bind_eq_some_iff.1 hb
    obtain ⟨h1, h2, cs, h3, h4⟩ := h.box s b hb
    have hsl := (hρ s l).2 hs
    refine ⟨fun hx => ?_, h2, remapL ρ η cs, hb1 s l cs hsl h3, ?_⟩
    · rcases hX b hx with h' | h'
      · exact h1 h'
      · exact h'.1 l hb0
    · rw [remapL_map, hp s l hsl]
      exact h4.mono rfl hm
  · rcases hb2 l cs' hl with h' | ⟨s, cs, h1, h2, rfl⟩
    · exact .inl h'
    · refine (h.boxed s cs h2).imp (fun e => by rw [e]; rfl) fun ⟨b, hb⟩ => ⟨b, by simp [(hρ s l).1 h1, hb]⟩
  · obtain ⟨s, hs, hb⟩ := Option.bind_eq_some_iff.1 hb
    obtain ⟨s', hs', hb'⟩ := Option.bind_eq_some_iff.1 hb'
    have := h.inj s s' b hb hb'
    subst this
    have h1 := (hρ s l).2 hs
    have h2 := (hρ s l').2 hs'
    rw [h1] at h2
    exact Option.some.inj h2
  · have hk0 := hk
    obtain ⟨k0, hk1, hk2⟩ := Option.bind_eq_some_iff.1 hk
    obtain ⟨g, n, c, sz, xs, i, rfl, hi, hsz, ho, h1, h2, h3⟩ := h.fam k0 x e hk2
    refine ⟨g, n, c, sz, xs, i, rfl, hi, hsz, ho, h1, fun l hl => ?_, fun hx => ?_⟩
    · obtain ⟨s, _, hb⟩ := Option.bind_eq_some_iff.1 hl
      exact h2 s hb
    · rcases hX g hx with h' | h'
      · exact h3 h'
      · exact h'.2 k _ e hk0 (by simp [Value.ownBlock])
  · obtain ⟨k0, hk1, hk2⟩ := Option.bind_eq_some_iff.1 hk
    obtain ⟨k0', hk1', hk2'⟩ := Option.bind_eq_some_iff.1 hk'
    refine h.famInj k0 k0' x x' e e' hk2 hk2' fun he => hne ?_
    subst he
    have h1 := (hη k0 k).2 hk1
    have h2 := (hη k0 k').2 hk1'
    rw [h1] at h2
    exact Option.some.inj h2

/-! #### boxes behind a call -/
theorem adopt_length (back ζ : Nat → Option Nat) : ∀ (os : List (Option (List T))) (l : Nat) (bx : List (Option (List T))), (adopt back ζ os l bx).length = bx.length
  | [], _, _ => rfl
  | o :: os, l, bx => by
    rw [adopt, adopt_length back ζ os]
    cases back l <;> simp

theorem adopt_miss {back ζ : Nat → Option Nat} {s : Nat} : ∀ (os : List (Option (List T))) (l : Nat) (bx : List (Option (List T))), (∀ l', l ≤ l' → l' < l + os.length → back l' ≠ some s) → (adopt back ζ os l bx)[s]? = bx[s]?
  | [], _, _, _ => rfl
  | o :: os, l, bx, h => by
    rw [adopt, adopt_miss os (l + 1) _ fun l' h1 h2 => h l' (by omega) (by simp; omega)]
    have := h l (Nat.le_refl _) (by simp)
    cases hb : back l with
    | none => rfl
    | some s' =>
      have hne : s' ≠ s := fun e => this (by rw [hb, e])
      simp [List.getElem?_set, hne]

theorem adopt_hit {back ζ : Nat → Option Nat} {s : Nat} : ∀ (os : List (Option (List T))) (l l' : Nat) (bx : List (Option (List T))) (o : Option (List T)), (∀ i j, back i = some s → back j = some s → i = j) → back l' = some s → l ≤ l' → os[l' - l]? = some o →
    s < bx.length → (adopt back ζ os l bx)[s]? = some (o.map (remapL back ζ))
  | [], l, l', bx, o, _, _, _, h, _ => by simp at h
  | q :: os, l, l', bx, o, hinj, hb, hle, h, hlt => by
    by_cases he : l' = l
    · subst he
      simp only [Nat.sub_self, List.getElem?_cons_zero, Option.some.injEq] at h
      subst h
      rw [adopt, adopt_miss os (l' + 1) _ fun j h1 h2 hj => by have := hinj _ _ hb hj; omega]
      simp [hb, hlt]
    · rw [adopt]
      refine adopt_hit os (l + 1) l' _ o hinj hb (by omega) ?_ ?_
      · rw [show l' - l = (l' - (l + 1)) + 1 by omega, List.getElem?_cons_succ] at h
        exact h
      · cases back l <;> simp [hlt]

theorem boxFree_spec {bx : List (Option (List T))} {s : Nat} (h : boxFree bx s = true) : bx[s]? = some none := by
  unfold boxFree at h
  split at h
  · assumption
  · cases h

theorem boxAt_spec {bx : List (Option (List T))} {s : Nat} {cs : List T} : boxAt bx s = some cs ↔ bx[s]? = some (some cs) := by
  unfold boxAt
  cases h : bx[s]? with
  | none => simp
  | some o => cases o <;> simp

/-- A call that changes boxes. -/
theorem callIO_sound {C : FuncId → List T → Option T} (hC : ∀ f args r, C f args = some r → Sound P f args r) {d f : Nat} {ad : List Nat} {as : List T} {vs : Array Value} {t : T} {σ' : St} (hI : Inv P W S0 S β φ σ.boxes w)
    (had : ∀ s ∈ ad, s + 1 < W.nb) (hl : vs.size = as.length) (ha : ∀ (i : Nat) (x : Value) (t : T), vs[i]? = some x → as[i]? = some t → Rep S w β φ x t) (hr : runOp.callIO C σ d ad f as = some (t, σ')) :
    callable P f = true ∧ Calls P f vs w fun e w' => ∃ x, e = .returned x ∧ After P W S0 S β φ w σ σ' t x w' := by
  simp only [runOp.callIO] at hr
  generalize hss : reach σ.boxes 10000 [] (refsL as) = ss at hr
  generalize hfs : (ss.flatMap fun s => famsL ((boxAt σ.boxes s).getD [])) = fs at hr
  generalize hins : ((List.range (2 * ss.length)).map fun l => encB (((unlab ss l).bind (boxAt σ.boxes)).map (remapL (lab ss) (famLab fs)))) = ins at hr
  split at hr <;> try (cases hr; done)
  rename_i r outs hCr
  generalize hback : ioBack ss ad = back at hr
  generalize hζ : ioFam d = ζ at hr
  generalize hlive : ioLive ss outs = live at hr
  generalize hηl : ioKeep d fs = ηl at hr
  split at hr <;> try (cases hr; done)
  rename_i hck
  obtain ⟨hlen, hadall, hadnd, hssnd, hssall⟩ := hck
  simp only [Option.some.injEq, Prod.mk.injEq] at hr
  obtain ⟨rfl, rfl⟩ := hr
  -- the callee's contract
  have hS := hC _ _ _ hCr
  unfold Sound at hS
  rw [if_neg (Nat.not_lt.2 (Nat.le_add_right _ _))] at hS
  obtain ⟨as', ins', r', outs', e1, e2, hcall, hsound⟩ := hS.resolve_right fun ⟨_, _, e1, _⟩ => by simp at e1
  simp only [List.cons.injEq, T.tup.injEq, and_true] at e1 e2
  obtain ⟨e1a, e1b⟩ := e1
  obtain ⟨rfl, rfl⟩ := e2
  subst e1a e1b
  rw [Nat.add_sub_cancel_left] at hcall hsound
  refine ⟨hcall, ?_⟩
  -- the boxes and families by the callee's names
  let β1 : BMap := fun l => (unlab ss l).bind β
  let φ1 : FMap := fun k => (famUn fs k).bind φ
  let X1 : Nat → Prop := fun b => b < w.heap.size ∧ (∀ l, β1 l ≠ some b) ∧ ∀ k x e, φ1 k = some (x, e) → x.ownBlock ≠ some b
  have hρ : ∀ s l, lab ss s = some l ↔ unlab ss l = some s := fun s l => ⟨fun h => (lab_unlab h).1, unlab_lab hssnd⟩
  have hinsget : ∀ l : Nat, (ins.map decB)[l]? = if l < 2 * ss.length then some (((unlab ss l).bind (boxAt σ.boxes)).map (remapL (lab ss) (famLab fs))) else none := fun l => by
    rw [← hins, List.map_map, List.getElem?_map]
    by_cases hlt : l < 2 * ss.length
    · rw [List.getElem?_range hlt, if_pos hlt]
      simp [decB_encB]
    · rw [List.getElem?_eq_none (by simpa using hlt), if_neg hlt]
      rfl
  obtain ⟨hcore, hrel⟩ := hI.core.relabel (X' := X1) (bx' := ins.map decB) hρ (fun k k' => famUn_iff) (fun s l h => (lab_unlab h).2.1)
    (fun s l cs h1 h2 => by
      obtain ⟨h3, h4, h5⟩ := lab_unlab h1
      rw [hinsget, if_pos h5, h3]
      simp [boxAt_spec.2 h2])
    (fun l cs' h => by
      rw [hinsget] at h
      split at h
      · simp only [Option.some.injEq] at h
        obtain ⟨cs, hcs, rfl⟩ := Option.map_eq_some_iff.1 h
        obtain ⟨s, hs, hcs⟩ := Option.bind_eq_some_iff.1 hcs
        exact .inr ⟨s, cs, (hρ s l).2 hs, boxAt_spec.1 hcs, rfl⟩
      · cases h)
    (fun b hb => .inr ⟨hb.2.1, hb.2.2⟩)
  have hInv1 : Inv P ⟨w, X1, 0, noB, w.heap.size⟩ S S β1 φ1 (ins.map decB) w :=
    ⟨⟨rfl, rfl, rfl, Nat.le_refl _, fun k hk => hk.1, fun _ _ => rfl, Grows.refl _⟩, hcore.lt, hcore.box, hcore.boxed, hcore.inj, hcore.fam, hcore.famInj, fun b o h => .inl h, fun b o h => h, fun b o _ sp v hv => hv, fun s b _ h => by simp [noB] at h⟩
  refine (hsound ⟨w, X1, 0, noB, w.heap.size⟩ S β1 φ1 vs hInv1 (by simpa using hl) (fun i x t hx ht => ?_)).mono fun e w' hpost => ?_
  · rw [List.getElem?_map] at ht
    obtain ⟨u, hu, rfl⟩ := Option.map_eq_some_iff.1 ht
    exact (ha i x u hx hu).weakN.remap (fun s s' b h1 h2 => by simp [β1, (hρ s s').1 h1, h2]) (fun s s' h => (lab_unlab h).2.1) (fun k k' p h => by cases h)
  obtain ⟨x, S', β', φ', rfl, J, hx, hst⟩ := hpost
  refine ⟨x, rfl, ?_⟩
  have hOlen : (outs.map decB).length = 2 * (ss.length + ad.length) := by simpa using hlen
  rw [List.all_eq_true] at hadall hssall
  have hade : ∀ s ∈ ad, s % 2 = 0 ∧ σ.boxes[s]? = some none ∧ σ.boxes[s + 1]? = some none ∧ s ∉ ss ∧ s + 1 ∉ ss := fun s hs => by
    have := hadall s hs
    simp only [Bool.and_eq_true, beq_iff_eq, Bool.not_eq_true', List.contains_eq_mem, decide_eq_false_iff_not] at this
    exact ⟨this.1.1.1.1, boxFree_spec this.1.1.1.2, boxFree_spec this.1.1.2, this.1.2, this.2⟩
  have hlabmem : ∀ s l, lab ss s = some l → s ∈ ss := fun s l h => by
    unfold lab at h
    obtain ⟨i, hi, _⟩ := Option.map_eq_some_iff.1 h
    exact List.mem_of_getElem? (idxOf?_spec hi)
  -- where a box of the caller's is among the callee's
  let fwd : Nat → Option Nat := fun s => (lab ss s).or ((ad.idxOf? (s - s % 2)).map fun j => 2 * (ss.length + j) + s % 2)
  have hadl : ∀ s j, ad.idxOf? (s - s % 2) = some j → ad[j]? = some (s - s % 2) ∧ s - s % 2 ∈ ad := fun s j h => ⟨idxOf?_spec h, List.mem_of_getElem? (idxOf?_spec h)⟩
  have hbf : ∀ l s, back l = some s ↔ fwd s = some l := fun l s => by
    rw [← hback]
    unfold ioBack
    constructor
    · intro h
      split at h
      · have := unlab_lab hssnd h
        simp [fwd, this]
      · rename_i hlt
        obtain ⟨a', ha', rfl⟩ := Option.map_eq_some_iff.1 h
        have hmem := List.mem_of_getElem? ha'
        obtain ⟨h1, h2, h3, h4, h5⟩ := hade a' hmem
        have e1 : a' + l % 2 - (a' + l % 2) % 2 = a' := by omega
        have e2 : (a' + l % 2) % 2 = l % 2 := by omega
        have h6 : lab ss (a' + l % 2) = none := by
          cases hlab : lab ss (a' + l % 2) with
          | none => rfl
          | some l' =>
            have := hlabmem _ _ hlab
            rcases Nat.mod_two_eq_zero_or_one l with h0 | h0 <;> rw [h0] at this
            · exact absurd this h4
            · exact absurd this h5
        have h7 : fwd (a' + l % 2) = some (2 * (ss.length + (l / 2 - ss.length)) + l % 2) := by
          simp only [fwd]
          rw [h6, e1, e2, idxOf?_nodup hadnd ha']
          rfl
        rw [h7]
        congr 1
        omega
    · intro h
      simp only [fwd] at h
      cases hlab : lab ss s with
      | some l' =>
        simp only [hlab, Option.some_or, Option.some.injEq] at h
        subst h
        obtain ⟨h1, h2, h3⟩ := lab_unlab hlab
        simp only [show l' / 2 < ss.length by omega, if_true]
        exact h1
      | none =>
        simp only [hlab, Option.none_or] at h
        obtain ⟨j, hj, rfl⟩ := Option.map_eq_some_iff.1 h
        obtain ⟨h1, h2⟩ := hadl s j hj
        have e1 : (2 * (ss.length + j) + s % 2) / 2 = ss.length + j := by omega
        have e2 : (2 * (ss.length + j) + s % 2) % 2 = s % 2 := by omega
        simp only [e1, e2, show ¬ (ss.length + j < ss.length) by omega, if_false, show ss.length + j - ss.length = j by omega, h1, Option.map_some, Option.some.injEq]
        omega
  have hbinj : ∀ s i j, back i = some s → back j = some s → i = j := fun s i j h1 h2 => by
    have h1 := (hbf i s).1 h1
    have h2 := (hbf j s).1 h2
    rw [h1] at h2
    exact Option.some.inj h2
  have hfl : ∀ s l, fwd s = some l → l < (outs.map decB).length ∧ l % 2 = s % 2 := fun s l h => by
    simp only [fwd] at h
    cases hlab : lab ss s with
    | some l' =>
      simp only [hlab, Option.some_or, Option.some.injEq] at h
      subst h
      obtain ⟨h1, h2, h3⟩ := lab_unlab hlab
      exact ⟨by omega, h2⟩
    | none =>
      simp only [hlab, Option.none_or] at h
      obtain ⟨j, hj, rfl⟩ := Option.map_eq_some_iff.1 h
      have := (List.getElem?_eq_some_iff.1 (hadl s j hj).1).1
      exact ⟨by omega, by omega⟩
  -- a box that was not handed over
  have hkeep : ∀ s b, fwd s = none → β s = some b → X1 b := fun s b hf hb => by
    refine ⟨hI.boxLt hb, fun l hl => ?_, fun k y e hk hy => ?_⟩
    · obtain ⟨s', hs', hb'⟩ := Option.bind_eq_some_iff.1 hl
      have := hI.inj _ _ _ hb' hb
      subst this
      have := unlab_lab hssnd hs'
      simp [fwd, this] at hf
    · obtain ⟨k', _, hk'⟩ := Option.bind_eq_some_iff.1 hk
      obtain ⟨g, n, c, sz, xs, i, rfl, _, _, _, _, h2, _⟩ := hI.fam k' y e hk'
      simp only [Value.ownBlock, Option.some.injEq] at hy
      exact h2 s (hy ▸ hb)
  have hfree : ∀ s l, lab ss s = none → fwd s = some l → β s = none ∧ s < W.nb := fun s l hn h => by
    simp only [fwd, hn, Option.none_or] at h
    obtain ⟨j, hj, rfl⟩ := Option.map_eq_some_iff.1 h
    obtain ⟨_, hmem⟩ := hadl s j hj
    obtain ⟨h1, h2, h3, _, _⟩ := hade _ hmem
    have hnb := had _ hmem
    have hbx : σ.boxes[s]? = some none := by
      rcases Nat.mod_two_eq_zero_or_one s with h0 | h0
      · rwa [h0, Nat.sub_zero] at h2
      · rw [h0] at h3; rwa [show s - 1 + 1 = s by omega] at h3
    refine ⟨?_, by omega⟩
    cases hb : β s with
    | none => rfl
    | some b => obtain ⟨_, _, cs, h4, _⟩ := hI.box s b hb; rw [hbx] at h4; simp at h4
  -- a family that was not handed over
  have hkeepf : ∀ k y e g, k ∉ fs → φ k = some (y, e) → y.ownBlock = some g → X1 g := fun k y e g hk hy hg => by
    refine ⟨hI.famLt hy hg, fun l hl => ?_, fun k' y' e' hk' hy' => ?_⟩
    · obtain ⟨s', _, hb'⟩ := Option.bind_eq_some_iff.1 hl
      obtain ⟨g', n, c, sz, xs, i, rfl, _, _, _, _, h2, _⟩ := hI.fam k y e hy
      simp only [Value.ownBlock, Option.some.injEq] at hg
      exact h2 s' (hg ▸ hb')
    · obtain ⟨k2, hk2, hk'⟩ := Option.bind_eq_some_iff.1 hk'
      have hk3 := famUn_iff.2 hk2
      have hmem : k2 ∈ fs := by
        unfold famLab at hk3
        obtain ⟨i, hi, _⟩ := Option.map_eq_some_iff.1 hk3
        exact List.mem_of_getElem? (idxOf?_spec hi)
      exact hI.famInj k2 k y' y e' e hk' hy (fun h => hk (h ▸ hmem)) (by rw [hy', hg])
  have hXX : ∀ b, W.X b → X1 b := fun b hb => by
    refine ⟨by have := hI.below.lt b hb; have := hI.below.size; omega, fun l hl => ?_, fun k y e hk hy => ?_⟩
    · obtain ⟨s', _, hb'⟩ := Option.bind_eq_some_iff.1 hl
      exact (hI.box s' b hb').1 hb
    · obtain ⟨k', _, hk'⟩ := Option.bind_eq_some_iff.1 hk
      obtain ⟨g, n, c, sz, xs, i, rfl, _, _, _, _, _, h3⟩ := hI.fam k' y e hk'
      simp only [Value.ownBlock, Option.some.injEq] at hy
      exact h3 (hy ▸ hb)
  let β2 : BMap := fun s => match fwd s with
    | some l => β' l
    | none => β s
  let φ2 : FMap := fun k => if k / 8 = d then φ' (k % 8) else if k ∈ fs then none else φ k
  have hcells : ∀ b o, S b o → ∀ sp v, w.cell? ⟨b, o, sp⟩ = some v → w'.cell? ⟨b, o, sp⟩ = some v := fun b o h sp v hv => J.stay b o h sp v hv
  have hSS : ∀ b o, S b o → S' b o := J.base
  have hmono : ∀ y u, Rep S w β φ y u → Rep S' w' β2 φ2 y (u.remap live ηl) := fun y u hu => by
    refine (hu.mono (β' := β) (φ' := φ) hSS (fun _ _ => id) (fun _ _ => id) hcells J.below.room).remap (fun s s' b h1 h2 => ?_) (fun s s' h1 => ?_) (fun k k' p h1 h2 => ?_)
    · rw [← hlive] at h1
      unfold ioLive at h1
      cases hlab : lab ss s with
      | some l =>
        rw [hlab] at h1
        simp only at h1
        split at h1
        · rename_i hsome
          simp only [Option.some.injEq] at h1
          subst h1
          have hf : fwd s = some l := by simp [fwd, hlab]
          have hb1 : β1 l = some b := by simp [β1, (hρ s l).1 hlab, h2]
          rcases hst l b hb1 with h | h
          · simp [β2, hf, h]
          · rw [List.getElem?_map] at h
            obtain ⟨q, hq, hq2⟩ := Option.map_eq_some_iff.1 h
            simp [List.getD, hq, hq2] at hsome
        · cases h1
      | none =>
        rw [hlab] at h1
        simp only [Option.some.injEq] at h1
        subst h1
        cases hf : fwd s with
        | none => simp [β2, hf, h2]
        | some l => have := (hfree s l hlab hf).1; rw [this] at h2; cases h2
    · rw [← hlive] at h1
      unfold ioLive at h1
      split at h1
      · split at h1
        · simp only [Option.some.injEq] at h1; rw [h1]
        · cases h1
      · simp only [Option.some.injEq] at h1; rw [h1]
    · rw [← hηl] at h1
      unfold ioKeep at h1
      split at h1
      · cases h1
      · rename_i hh
        simp only [Bool.or_eq_true, List.contains_eq_mem, decide_eq_true_eq, hit_iff, not_or] at hh
        simp only [Option.some.injEq] at h1
        subst h1
        simp [φ2, hh.1, hh.2, h2]
  have hback2 : ∀ y u, Rep S' w' β' φ' y u → Rep S' w' β2 φ2 y (u.remap back ζ) := fun y u hu => by
    refine hu.remap (fun l s b h1 h2 => ?_) (fun l s h1 => ?_) (fun k k' p h1 h2 => ?_)
    · simp [β2, (hbf l s).1 h1, h2]
    · exact (hfl s l ((hbf l s).1 h1)).2.symm
    · rw [← hζ] at h1
      unfold ioFam at h1
      split at h1
      · rename_i hk
        simp only [Option.some.injEq] at h1
        subst h1
        have e1 : (8 * d + k) / 8 = d := by omega
        have e2 : (8 * d + k) % 8 = k := by omega
        simp [φ2, e1, e2, h2]
      · cases h1
  have hslt : ∀ s l, fwd s = some l → s < (σ.boxes.map (Option.map (remapL live ηl))).length := fun s l hf => by
    simp only [List.length_map]
    cases hlab : lab ss s with
    | some l' =>
      have := hssall s (hlabmem s l' hlab)
      obtain ⟨cs, hcs⟩ := Option.isSome_iff_exists.1 this
      exact (List.getElem?_eq_some_iff.1 (boxAt_spec.1 hcs)).1
    | none =>
      simp only [fwd, hlab, Option.none_or] at hf
      obtain ⟨j, hj, rfl⟩ := Option.map_eq_some_iff.1 hf
      obtain ⟨_, hmem⟩ := hadl s j hj
      obtain ⟨h1, h2, h3, _, _⟩ := hade _ hmem
      have := (List.getElem?_eq_some_iff.1 h2).1
      have := (List.getElem?_eq_some_iff.1 h3).1
      omega
  have hget : ∀ s l o, fwd s = some l → (outs.map decB)[l]? = some o → (adopt back ζ (outs.map decB) 0 (σ.boxes.map (Option.map (remapL live ηl))))[s]? = some (o.map (remapL back ζ)) := fun s l o hf ho =>
    adopt_hit _ 0 l _ o (hbinj s) ((hbf l s).2 hf) (Nat.zero_le _) (by simpa using ho) (hslt s l hf)
  have hmiss : ∀ s, fwd s = none → (adopt back ζ (outs.map decB) 0 (σ.boxes.map (Option.map (remapL live ηl))))[s]? = (σ.boxes[s]?).map (Option.map (remapL live ηl)) := fun s hf => by
    rw [adopt_miss _ 0 _ fun l _ _ h => by have := (hbf l s).1 h; rw [hf] at this; cases this]
    simp
  have hO : ∀ l, l < (outs.map decB).length → ∃ o, (outs.map decB)[l]? = some o := fun l h => ⟨_, List.getElem?_eq_getElem h⟩
  refine ⟨S', β2, φ2, T.remap live ηl, hback2 _ _ hx, ⟨?_, J.lt, ?_, ?_, ?_, ?_, ?_, ?_, fun b o h => hSS _ _ (hI.base b o h), fun b o h0 sp v hv => hcells b o (hI.base b o h0) sp v (hI.stay b o h0 sp v hv), ?_⟩, hmono, by simp [remapL_map], by simp [remapL_map]⟩
  · exact ⟨J.below.os.trans hI.below.os, J.below.tape.trans hI.below.tape, J.below.output.trans hI.below.output, Nat.le_trans hI.below.size J.below.size, hI.below.lt, fun k hk => (J.below.block k (hXX k hk)).trans (hI.below.block k hk), hI.below.room.trans J.below.room⟩
  · intro s b hb
    simp only [β2] at hb
    cases hf : fwd s with
    | some l =>
      rw [hf] at hb
      obtain ⟨h1, h2, cs, h3, h4⟩ := J.box l b hb
      refine ⟨fun hx => h1 (hXX b hx), h2, remapL back ζ cs, by rw [hget s l _ hf h3]; rfl, ?_⟩
      rw [← (hfl s l hf).2, remapL_map]
      exact h4.mono rfl hback2
    | none =>
      rw [hf] at hb
      obtain ⟨h1, h2, cs, h3, h4⟩ := hI.box s b hb
      have hX1 := hkeep s b hf hb
      refine ⟨h1, fun o ho => ?_, remapL live ηl cs, by rw [hmiss s hf, h3]; rfl, ?_⟩
      · rcases J.top b o ho with h | h
        · exact h2 o h
        · exact h hX1
      · rw [remapL_map]
        exact h4.mono (J.below.block b hX1) hmono
  · intro s cs hs
    cases hf : fwd s with
    | some l =>
      obtain ⟨o, ho⟩ := hO l (hfl s l hf).1
      rw [hget s l o hf ho] at hs
      simp only [Option.some.injEq] at hs
      obtain ⟨cs0, rfl, rfl⟩ := Option.map_eq_some_iff.1 hs
      exact (J.boxed l cs0 ho).imp (fun e => by rw [e]; rfl) fun ⟨b, hb⟩ => ⟨b, by simp [β2, hf, hb]⟩
    | none =>
      rw [hmiss s hf] at hs
      obtain ⟨o, ho, hs⟩ := Option.map_eq_some_iff.1 hs
      obtain ⟨cs0, rfl, rfl⟩ := Option.map_eq_some_iff.1 hs
      exact (hI.boxed s cs0 ho).imp (fun e => by rw [e]; rfl) fun ⟨b, hb⟩ => ⟨b, by simp [β2, hf, hb]⟩
  · intro s1 s2 b h1 h2
    simp only [β2] at h1 h2
    cases hf1 : fwd s1 with
    | some l1 =>
      rw [hf1] at h1
      cases hf2 : fwd s2 with
      | some l2 =>
        rw [hf2] at h2
        have := J.inj l1 l2 b h1 h2
        subst this
        have h3 := (hbf l1 s1).2 hf1
        have h4 := (hbf l1 s2).2 hf2
        rw [h3] at h4
        exact Option.some.inj h4
      | none =>
        rw [hf2] at h2
        exact absurd (hkeep s2 b hf2 h2) (J.box l1 b h1).1
    | none =>
      rw [hf1] at h1
      cases hf2 : fwd s2 with
      | some l2 =>
        rw [hf2] at h2
        exact absurd (hkeep s1 b hf1 h1) (J.box l2 b h2).1
      | none =>
        rw [hf2] at h2
        exact hI.inj s1 s2 b h1 h2
  · intro k y e hk
    simp only [φ2] at hk
    split at hk
    · obtain ⟨g, n, c, sz, xs, i, rfl, hi, hsz, ho, h1, h2, h3⟩ := J.fam _ y e hk
      refine ⟨g, n, c, sz, xs, i, rfl, hi, hsz, ho, h1, fun s hs => ?_, fun hx => h3 (hXX g hx)⟩
      simp only [β2] at hs
      cases hf : fwd s with
      | some l => rw [hf] at hs; exact h2 l hs
      | none => rw [hf] at hs; exact h3 (hkeep s g hf hs)
    · split at hk
      · cases hk
      · rename_i hkfs
        obtain ⟨g, n, c, sz, xs, i, rfl, hi, hsz, ho, h1, h2, h3⟩ := hI.fam _ y e hk
        have hX1 := hkeepf k _ e g hkfs hk (by simp [Value.ownBlock])
        have hblk := J.below.block g hX1
        refine ⟨g, n, c, sz, xs, i, rfl, hi, hsz, ⟨ho.1, ?_⟩, fun o hs => ?_, fun s hs => ?_, h3⟩
        · rcases ho.2 with h | ⟨g', cap, cur, e2, hv, hb, hg, r⟩
          · exact .inl h
          · simp only [Value.slice.injEq, Option.some.injEq, Addr.mk.injEq] at hv
            obtain ⟨⟨rfl, _⟩, _, rfl⟩ := hv
            exact .inr ⟨g, _, cur, e2, rfl, hb, hblk.trans hg, r⟩
        · rcases J.top g o hs with h | h
          · exact h1 o h
          · exact absurd hX1 h
        · simp only [β2] at hs
          cases hf : fwd s with
          | some l => rw [hf] at hs; exact (J.box l g hs).1 hX1
          | none => rw [hf] at hs; exact h2 s hs
  · intro k k' y y' e e' hk hk' hne
    simp only [φ2] at hk hk'
    have hnew : ∀ k y e, φ' k = some (y, e) → ∃ g, y.ownBlock = some g ∧ ¬ X1 g := fun k y e hk => by
      obtain ⟨g, n, c, sz, xs, i, rfl, _, _, _, _, _, h3⟩ := J.fam _ y e hk
      exact ⟨g, by simp [Value.ownBlock], h3⟩
    have hold : ∀ k y e, k ∉ fs → φ k = some (y, e) → ∃ g, y.ownBlock = some g ∧ X1 g := fun k y e hkf hk => by
      obtain ⟨g, n, c, sz, xs, i, rfl, _, _, _, _, _, _⟩ := hI.fam _ y e hk
      exact ⟨g, by simp [Value.ownBlock], hkeepf k _ e g hkf hk (by simp [Value.ownBlock])⟩
    split at hk
    · rename_i hd
      split at hk'
      · rename_i hd'
        exact J.famInj _ _ _ _ _ _ hk hk' (by omega)
      · split at hk'
        · cases hk'
        · rename_i hkf
          obtain ⟨g, hg1, hg2⟩ := hnew _ _ _ hk
          obtain ⟨g', hg1', hg2'⟩ := hold _ _ _ hkf hk'
          rw [hg1, hg1']
          intro h
          simp only [Option.some.injEq] at h
          exact hg2 (h ▸ hg2')
    · split at hk
      · cases hk
      · rename_i hkf
        split at hk'
        · obtain ⟨g, hg1, hg2⟩ := hold _ _ _ hkf hk
          obtain ⟨g', hg1', hg2'⟩ := hnew _ _ _ hk'
          rw [hg1, hg1']
          intro h
          simp only [Option.some.injEq] at h
          exact hg2' (h ▸ hg2)
        · split at hk'
          · cases hk'
          · exact hI.famInj _ _ _ _ _ _ hk hk' hne
  · intro b o h
    rcases J.top b o h with h | h
    · exact hI.top b o h
    · exact .inr fun hx => h (hXX b hx)
  · intro s b hn h0
    rcases hI.pin s b hn h0 with h | h
    · cases hf : fwd s with
      | none => exact .inl (by simp [β2, hf, h])
      | some l =>
        cases hlab : lab ss s with
        | none => have := (hfree s l hlab hf).2; omega
        | some l' =>
          have : l' = l := by simp [fwd, hlab] at hf; exact hf
          subst this
          have hb1 : β1 l' = some b := by simp [β1, (hρ s l').1 hlab, h]
          rcases hst l' b hb1 with h' | h'
          · exact .inl (by simp [β2, hf, h'])
          · exact .inr (by rw [hget s l' _ hf h']; rfl)
    · have hf : fwd s = none := by
        cases hf : fwd s with
        | none => rfl
        | some l =>
          cases hlab : lab ss s with
          | none => have := (hfree s l hlab hf).2; omega
          | some l' =>
            have := hssall s (hlabmem s l' hlab)
            obtain ⟨cs, hcs⟩ := Option.isSome_iff_exists.1 this
            rw [boxAt_spec, h] at hcs
            simp at hcs
      exact .inr (by rw [hmiss s hf, h]; rfl)
end
end Go.Vi
end
