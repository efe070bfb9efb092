/-
  A claim's own text, joined by a small program out of: Vj21, Vj21b, Vj22, Vj23, Vj24, Vj25, Vj26, Vj27, Vj17b.
-/
import Derived.Test.YtodollbkpkpklaaGreatW8
import Derived.OrdersIn
set_option linter.unusedVariables false
set_option linter.unusedSimpArgs false
section
/-
  A VERIFIED INTERPRETER (part 21): a region in another order.
-/
set_option linter.unusedSimpArgs false
set_option linter.unusedVariables false
namespace Go.Vi
open Go Go.RowKit

/-- An operation of a region, with its place. -/
abbrev Ent := Nat × Option (Nat × Bool) × IOp

def stepAt (C : FuncId → List T → Option T) (σ : St) (e : Ent) : Option St :=
  (wantedT σ.rs e.2.1).bind fun go =>
    if go then (runOp C σ e.2.2).bind fun p => some { p.2 with rs := p.2.rs.set e.1 p.1 }
    else some { σ with rs := σ.rs.set e.1 T.skipped }

def runAt (C : FuncId → List T → Option T) : List Ent → St → Option St
  | [], σ => some σ
  | e :: es, σ => (stepAt C σ e).bind (runAt C es)

def Ent.looks (e : Ent) (p : Nat) : Bool := e.2.2.reads.any (Opd.isR p) || (match e.2.1 with | some (j, _) => j == p | none => false)

def quietOk (o : IOp) : Bool := o.quiet && zeroOk o && constOk o

def commOk (o1 o2 : IOp) : Bool := (quietOk o1 && (o1.pure || o2.boxless)) || (quietOk o2 && (o2.pure || o1.boxless)) ||
  (o1.looksOnly && (o2.isNew && zeroOk o2 && constOk o2)) ||
  (match o1.fam, o2.fam with | some d1, some d2 => d1 != d2 && (zeroOk o1 && constOk o1) && (zeroOk o2 && constOk o2) | _, _ => false)

def swapOld (e1 e2 : Ent) : Bool := e1.1 != e2.1 && !(e2.looks e1.1) && !(e1.looks e2.1) && (!e1.2.2.loud && !e2.2.2.loud) && commOk e1.2.2 e2.2.2

theorem wantedT_put {rs : List T} {g : Option (Nat × Bool)} {p : Nat} {t : T} (h : ∀ j b, g = some (j, b) → j ≠ p) : wantedT (rs.set p t) g = wantedT rs g := by
  cases g with
  | none => rfl
  | some q =>
    obtain ⟨j, b⟩ := q
    simp only [wantedT, List.getElem?_set, if_neg (fun h' => h j b rfl h'.symm : ¬ p = j)]

theorem wantedT_strip {rs : List T} {g : Option (Nat × Bool)} (d : Nat) : wantedT (stripL d rs) g = wantedT rs g := by
  cases g with
  | none => rfl
  | some q =>
    obtain ⟨j, b⟩ := q
    simp only [wantedT, stripL_map, List.getElem?_map]
    cases rs[j]? with
    | none => rfl
    | some t =>
      simp only [Option.map_some]
      cases t <;> try rfl
      rename_i g n cs
      cases g <;> rfl

theorem wantedT_strips : ∀ (ds : List Nat) {σ : St} {g : Option (Nat × Bool)}, wantedT (σ.strips ds).rs g = wantedT σ.rs g
  | [], σ, g => rfl
  | d :: ds, σ, g => by
    simp only [St.strips]
    rw [wantedT_strips ds]
    exact wantedT_strip d

theorem looks_spec {e : Ent} {p : Nat} (h : e.looks p = false) : (∀ x ∈ e.2.2.reads, x.isR p = false) ∧ ∀ j b, e.2.1 = some (j, b) → j ≠ p := by
  simp only [Ent.looks, Bool.or_eq_false_iff, List.any_eq_false, Bool.not_eq_true] at h
  refine ⟨h.1, fun j b hg hj => ?_⟩
  have := h.2
  rw [hg] at this
  simp [hj] at this

/-- A result that is not read. -/
theorem runOp_put {C : FuncId → List T → Option T} {σ : St} {o : IOp} {t : T} {ds : List Nat} {bx : List (Option (List T))}
    (h : ∀ rs vars, (∀ x ∈ o.reads, x.get ⟨rs, vars, σ.boxes⟩ = x.get σ) → runOp C ⟨rs, vars, σ.boxes⟩ o = some (t, St.strips ds ⟨rs, vars, bx⟩)) {p : Nat} (hp : ∀ x ∈ o.reads, x.isR p = false) (u : T) :
    runOp C { σ with rs := σ.rs.set p u } o = some (t, St.strips ds { σ with rs := σ.rs.set p u, boxes := bx }) :=
  h (σ.rs.set p u) σ.vars fun x hx => get_put (hp x hx)

theorem set_set_comm {rs : List T} {p q : Nat} {t u : T} (h : p ≠ q) : (rs.set p t).set q u = (rs.set q u).set p t := List.set_comm _ _ h

/-- Two operations change places. -/
theorem swap_old {C : FuncId → List T → Option T} {σ σ1 σ2 : St} {e1 e2 : Ent} (hs : swapOld e1 e2 = true) (h1 : stepAt C σ e1 = some σ1) (h2 : stepAt C σ1 e2 = some σ2) :
    ∃ σ1', stepAt C σ e2 = some σ1' ∧ stepAt C σ1' e1 = some σ2 := by
  obtain ⟨p1, g1, o1⟩ := e1
  obtain ⟨p2, g2, o2⟩ := e2
  simp only [swapOld, Bool.and_eq_true, bne_iff_ne, ne_eq, Bool.not_eq_true'] at hs
  obtain ⟨⟨⟨⟨hp, hl2⟩, hl1⟩, hld1, hld2⟩, hc⟩ := hs
  obtain ⟨hr2, hg2⟩ := looks_spec hl2
  obtain ⟨hr1, hg1⟩ := looks_spec hl1
  simp only at hp hr1 hr2 hg1 hg2 hc hld1 hld2
  have hp' : ¬ p2 = p1 := fun h => hp h.symm
  simp only [stepAt] at h1 h2
  obtain ⟨go1, hw1, h1⟩ := Option.bind_eq_some_iff.1 h1
  obtain ⟨go2, hw2, h2⟩ := Option.bind_eq_some_iff.1 h2
  cases go1 with
  | false =>
    simp only [Bool.false_eq_true, if_false, Option.some.injEq] at h1
    subst h1
    rw [wantedT_put hg2] at hw2
    cases go2 with
    | false =>
      simp only [Bool.false_eq_true, if_false, Option.some.injEq] at h2
      subst h2
      refine ⟨{ σ with rs := σ.rs.set p2 T.skipped }, by simp [stepAt, hw2], ?_⟩
      simp only [stepAt, wantedT_put hg1, hw1, Option.bind_some, Bool.false_eq_true, if_false, set_set_comm hp]
    | true =>
      simp only [if_true] at h2
      obtain ⟨⟨t2, σ3⟩, h3, h2⟩ := Option.bind_eq_some_iff.1 h2
      simp only [Option.some.injEq] at h2
      subst h2
      obtain ⟨ds2, b2, _, _, rfl, he2⟩ := runOp_eff hld2 h3
      have h4 : runOp C σ o2 = some (t2, St.strips ds2 { σ with boxes := b2 }) := he2 σ.rs σ.vars fun x hx => (get_put (hr2 x hx)).symm
      refine ⟨_, by simp only [stepAt, hw2, Option.bind_some, if_true, h4]; rfl, ?_⟩
      simp only [stepAt]
      rw [wantedT_put hg1, wantedT_strips]
      simp only [hw1, Option.bind_some, Bool.false_eq_true, if_false, Option.some.injEq]
      have := strips_put ds2 { σ with boxes := b2 } p1 T.skipped
      simp only [stripsT_skipped] at this
      rw [this]
      simp only [set_set_comm hp]
  | true =>
    simp only [if_true] at h1
    obtain ⟨⟨t1, σ3⟩, h3, h1⟩ := Option.bind_eq_some_iff.1 h1
    simp only [Option.some.injEq] at h1
    subst h1
    obtain ⟨ds1, b1, hq1, hb1, rfl, he1⟩ := runOp_eff hld1 h3
    simp only at hw2 h2
    rw [wantedT_put hg2, wantedT_strips] at hw2
    simp only at hw2
    cases go2 with
    | false =>
      simp only [Bool.false_eq_true, if_false, Option.some.injEq] at h2
      subst h2
      refine ⟨{ σ with rs := σ.rs.set p2 T.skipped }, by simp [stepAt, hw2], ?_⟩
      have h4 := runOp_put he1 hr1 T.skipped
      simp only [stepAt, wantedT_put hg1, hw1, Option.bind_some, if_true, h4, Option.some.injEq]
      have := strips_put ds1 { σ with boxes := b1 } p2 T.skipped
      simp only [stripsT_skipped] at this
      rw [this]
      simp only [set_set_comm hp']
    | true =>
      simp only [if_true] at h2
      obtain ⟨⟨t2, σ4⟩, h4, h2⟩ := Option.bind_eq_some_iff.1 h2
      simp only [Option.some.injEq] at h2
      subst h2
      obtain ⟨ds2, b2, hq2, hb2, rfl, he2⟩ := runOp_eff hld2 h4
      simp only at he2 hb2 h4
      have h5 : runOp C (St.strips ds1 { σ with boxes := b1 }) o2 = some (t2, St.strips ds2 { St.strips ds1 { σ with boxes := b1 } with boxes := b2 }) :=
        he2 (St.strips ds1 { σ with boxes := b1 }).rs (St.strips ds1 { σ with boxes := b1 }).vars fun x hx => (get_put (hr2 x hx)).symm
      simp only [commOk, Bool.or_eq_true, Bool.and_eq_true] at hc
      rcases hc with ((⟨hqo, hpb⟩ | ⟨hqo, hpb⟩) | ⟨hlo, ⟨hnew, hz⟩, hco⟩) | hfam
      · -- the first is quiet
        simp only [quietOk, Bool.and_eq_true] at hqo
        obtain ⟨⟨hq, hz⟩, hco⟩ := hqo
        obtain rfl := hq1 (.inl hq)
        have hb : b1 = σ.boxes := hb1 (by cases o1 <;> first | rfl | simp [IOp.quiet, IOp.pure] at hq)
        subst hb
        simp only [St.strips] at *
        have h6 : runOp C σ o2 = some (t2, St.strips ds2 { σ with boxes := b2 }) := h5
        refine ⟨_, by simp only [stepAt, hw2, Option.bind_some, if_true, h6]; rfl, ?_⟩
        have h7 : runOp C { σ with boxes := b2 } o1 = some (t1, { σ with boxes := b2 }) := by
          rcases hpb with hpp | hbb
          · rw [runOp_quiet hq] at h3 ⊢
            obtain ⟨x, hx, hxx⟩ := Option.map_eq_some_iff.1 h3
            simp only [Prod.mk.injEq] at hxx
            obtain ⟨rfl, _⟩ := hxx
            have : quietVal (Opd.get { σ with boxes := b2 }) b2 o1 = quietVal (Opd.get σ) σ.boxes o1 := by
              rw [pure_boxes (bx := b2) (bx' := σ.boxes) hpp]
              exact quietVal_congr fun x _ => by cases x <;> rfl
            simp only [this, hx, Option.map_some]
          · have := hb2 hbb
            subst this
            exact h3
        have h8 : runOp C (St.strips ds2 { σ with boxes := b2 }) o1 = some (stripsT ds2 t1, St.strips ds2 { σ with boxes := b2 }) := by
          rw [quiet_strips hq hz hco, h7]; rfl
        obtain ⟨ds, bx, hds, hbx, hst, he⟩ := runOp_eff hld1 h8
        obtain rfl := hds (.inl hq)
        have hbx' := hbx (by cases o1 <;> first | rfl | simp [IOp.quiet, IOp.pure] at hq)
        subst hbx'
        have h9 := runOp_put he hr1 t2
        simp only [stepAt]
        rw [wantedT_put hg1, wantedT_strips]
        simp only [hw1, Option.bind_some, if_true]
        simp only [St.strips] at h9
        rw [h9]
        simp only [Option.bind_some, Option.some.injEq]
        have := strips_put ds2 { σ with boxes := b2 } p1 t1
        simp only at this
        rw [this]
        simp only [set_set_comm hp]
      · -- the second is quiet
        simp only [quietOk, Bool.and_eq_true] at hqo
        obtain ⟨⟨hq, hz⟩, hco⟩ := hqo
        obtain rfl := hq2 (.inl hq)
        have hbl : o2.boxless = true := by cases o2 <;> first | rfl | simp [IOp.quiet, IOp.pure] at hq
        have hb := hb2 hbl
        subst hb
        simp only [St.strips] at *
        -- the second, ahead of the first
        have h6 : ∃ t2', runOp C { σ with boxes := b1 } o2 = some (t2', { σ with boxes := b1 }) ∧ t2 = stripsT ds1 t2' := by
          have h5' : runOp C (St.strips ds1 { σ with boxes := b1 }) o2 = some (t2, St.strips ds1 { σ with boxes := b1 }) := h5
          rw [quiet_strips hq hz hco] at h5'
          obtain ⟨⟨x, σx⟩, hx, hxx⟩ := Option.map_eq_some_iff.1 h5'
          have := quiet_same hq hx
          subst this
          simp only [Prod.mk.injEq] at hxx
          exact ⟨x, hx, hxx.1.symm⟩
        obtain ⟨t2', h6, rfl⟩ := h6
        have h7 : runOp C σ o2 = some (t2', σ) := by
          rcases hpb with hpp | hbb
          · rw [runOp_quiet hq] at h6 ⊢
            obtain ⟨x, hx, hxx⟩ := Option.map_eq_some_iff.1 h6
            simp only [Prod.mk.injEq] at hxx
            obtain ⟨rfl, _⟩ := hxx
            have : quietVal (Opd.get σ) σ.boxes o2 = quietVal (Opd.get { σ with boxes := b1 }) b1 o2 := by
              rw [pure_boxes (bx := b1) (bx' := σ.boxes) hpp]
              exact quietVal_congr fun x _ => by cases x <;> rfl
            simp only at hx
            simp only [this, hx, Option.map_some]
          · have := hb1 hbb
            subst this
            exact h6
        refine ⟨{ σ with rs := σ.rs.set p2 t2' }, by simp only [stepAt, hw2, Option.bind_some, if_true, h7], ?_⟩
        have h8 := runOp_put he1 hr1 t2'
        simp only [stepAt]
        rw [wantedT_put hg1]
        simp only [hw1, Option.bind_some, if_true, h8, Option.some.injEq]
        have := strips_put ds1 { σ with boxes := b1 } p2 t2'
        simp only at this
        rw [this]
        simp only [set_set_comm hp']
      · -- a new box behind an operation that looks at boxes
        have hnb : o2.boxless = false := by cases o2 <;> first | rfl | simp [IOp.isNew] at hnew
        obtain rfl := hq2 (.inr hnb)
        have hb := hb1 (by cases o1 <;> first | rfl | simp [IOp.looksOnly] at hlo)
        subst hb
        obtain ⟨ds, hu⟩ := looks_strips (C := C) hlo
        have hS : St.strips ds1 σ = St.strips ds σ := hu _ _ _ h3
        have h5' : runOp C (St.strips ds σ) o2 = some (t2, { St.strips ds σ with boxes := b2 }) := by rw [← hS]; exact h5
        rw [new_strips hnew hz hco] at h5'
        obtain ⟨⟨t2', σ5⟩, h6, h7⟩ := Option.map_eq_some_iff.1 h5'
        simp only [Prod.mk.injEq] at h7
        obtain ⟨rfl, h7⟩ := h7
        obtain ⟨⟨s, v, hsb, rfl⟩, hst⟩ := new_value hnew h6
        refine ⟨_, by simp only [stepAt, hw2, Option.bind_some, if_true, h6]; rfl, ?_⟩
        obtain ⟨_, _, h9⟩ := looks_set (v := v) hlo hsb h3
        obtain ⟨ds', b', _, _, _, he⟩ := runOp_eff hld1 h9
        have h11 := runOp_put he hr1 t2'
        have h12 := hu _ _ _ h11
        rw [h12] at h11
        simp only at h11
        simp only [stepAt]
        rw [wantedT_put hg1]
        simp only [hw1, Option.bind_some, if_true]
        rw [h11]
        simp only [Option.bind_some, Option.some.injEq]
        have h13 := strips_put ds { σ with boxes := σ.boxes.set s v } p2 t2'
        simp only at h13
        rw [h13, hst ds, h7]
        simp only [St.strips]
        have h14 : St.strips ds1 { rs := σ.rs, vars := σ.vars, boxes := σ.boxes } = St.strips ds σ := hS
        rw [h14, set_set_comm hp']
      · -- calls and rows built
        split at hfam <;> try (cases hfam; done)
        rename_i d1 d2 hf1 hf2
        simp only [Bool.and_eq_true, bne_iff_ne, ne_eq] at hfam
        obtain ⟨⟨hdd, hz1, hc1⟩, hz2, hc2⟩ := hfam
        obtain ⟨hS1, ht1⟩ := fam_value hf1 h3
        have hw3 := (fam_value hf2 h4).1
        have ht2 := (fam_value hf2 h4).2
        have h5' : runOp C (σ.strip (2 * d1)) o2 = some (t2, (σ.strip (2 * d1)).strip (2 * d2)) := by
          have := h5
          rw [hS1] at this
          rw [this, (fam_value hf2 this).1]
        rw [fam_strip hf2 hz2 hc2] at h5'
        obtain ⟨⟨t2', σ5⟩, h6, h7⟩ := Option.map_eq_some_iff.1 h5'
        simp only [Prod.mk.injEq] at h7
        obtain ⟨rfl, h7⟩ := h7
        obtain ⟨rfl, _⟩ := fam_value hf2 h6
        refine ⟨_, by simp only [stepAt, hw2, Option.bind_some, if_true, h6]; rfl, ?_⟩
        have h8 : runOp C (σ.strip (2 * d2)) o1 = some (t1, (σ.strip (2 * d1)).strip (2 * d2)) := by
          rw [fam_strip hf1 hz1 hc1, h3, hS1]; rfl
        obtain ⟨ds', b', _, _, _, he⟩ := runOp_eff hld1 h8
        have h11 := runOp_put he hr1 t2'
        have h12 := (fam_value hf1 h11).1
        rw [h12] at h11
        simp only [stepAt]
        rw [wantedT_put hg1]
        have hwd : wantedT (σ.strip (2 * d2)).rs g1 = wantedT σ.rs g1 := wantedT_strip (2 * d2)
        rw [hwd]
        simp only [hw1, Option.bind_some, if_true]
        rw [h11]
        simp only [Option.bind_some, Option.some.injEq]
        rw [hw3]
        have e1 := strips_put [2 * d1] (σ.strip (2 * d2)) p2 t2'
        have e2 := strips_put [2 * d2] (σ.strip (2 * d1)) p1 t1
        simp only [St.strips, stripsT] at e1 e2
        rw [e1, hS1, e2, ht1 d2 hdd, ht2 d1 (fun h => hdd h.symm), st_strip_comm (2 * d1) (2 * d2), set_set_comm hp']

end Go.Vi
end
section
/-
  A VERIFIED INTERPRETER (part 21b): a call that hands over boxes changes places with what comes behind it.
-/
set_option linter.unusedSimpArgs false
set_option linter.unusedVariables false
namespace Go.Vi
open Go Go.RowKit

mutual
theorem closed_noRef (s : Nat) : ∀ t : T, t.closed = true → t.noRef s = true
  | .undef, _ => rfl
  | .v _, _ => rfl
  | .sl .., _ => rfl
  | .ptr .., _ => rfl
  | .ref .., h | .bsl .., h | .mref .., h => by simp [T.closed] at h
  | .agg ts, h => by simp only [T.closed] at h; simp only [T.noRef]; exact closedL_noRef s ts h
  | .tup ts, h => by simp only [T.closed] at h; simp only [T.noRef]; exact closedL_noRef s ts h
  | .clo f a b, h => by
    simp only [T.closed, Bool.and_eq_true] at h
    simp only [T.noRef, closedL_noRef s a h.1, closedL_noRef s b h.2, Bool.and_self]
theorem closedL_noRef (s : Nat) : ∀ ts : List T, closedL ts = true → noRefL s ts = true
  | [], _ => rfl
  | t :: ts, h => by
    simp only [closedL, Bool.and_eq_true] at h
    simp only [noRefL, closed_noRef s t h.1, closedL_noRef s ts h.2, Bool.and_self]
end

mutual
theorem noRef_strip (s d : Nat) : ∀ t : T, (t.strip d).noRef s = t.noRef s
  | .undef => rfl
  | .v _ => rfl
  | .sl g n cs => by cases g <;> rfl
  | .ptr .. => rfl
  | .ref .. => rfl
  | .bsl .. => rfl
  | .mref .. => rfl
  | .agg ts => by simp only [T.strip, T.noRef, noRefL_strip s d ts]
  | .tup ts => by simp only [T.strip, T.noRef, noRefL_strip s d ts]
  | .clo f a b => by simp only [T.strip, T.noRef, noRefL_strip s d a, noRefL_strip s d b]
theorem noRefL_strip (s d : Nat) : ∀ ts : List T, noRefL s (stripL d ts) = noRefL s ts
  | [] => rfl
  | t :: ts => by simp only [stripL, noRefL, noRef_strip s d t, noRefL_strip s d ts]
end

theorem stRef_strip (s d : Nat) (σ : St) : (σ.strip d).noRef s = σ.noRef s := by
  simp only [St.noRef, St.strip, noRefL_strip, List.all_map]
  congr 2
  funext o
  cases o with
  | none => rfl
  | some cs => simp [noRefL_strip]

theorem noRefL_mem {s : Nat} {ts : List T} : noRefL s ts = true ↔ ∀ t ∈ ts, t.noRef s = true := by
  rw [noRefL_all, List.all_eq_true]

theorem noRefL_set {s p : Nat} {rs : List T} {t : T} (h : noRefL s rs = true) (ht : t.noRef s = true) : noRefL s (rs.set p t) = true := by
  rw [noRefL_mem] at h ⊢
  intro u hu
  rcases List.mem_or_eq_of_mem_set hu with h1 | rfl
  · exact h u h1
  · exact ht

theorem get_noRef {σ : St} {s : Nat} {x : Opd} (h : σ.noRef s = true) (hc : x.cOk = true) : (x.get σ).noRef s = true := by
  simp only [St.noRef, Bool.and_eq_true, noRefL_mem] at h
  obtain ⟨⟨h1, h2⟩, _⟩ := h
  have key : ∀ (ts : List T) i, (∀ t ∈ ts, t.noRef s = true) → (ts.getD i .undef).noRef s = true := fun ts i h => by
    simp only [List.getD_eq_getElem?_getD]
    cases hi : ts[i]? with
    | none => rfl
    | some t => exact h t (List.mem_of_getElem? hi)
  cases x with
  | c t => exact closed_noRef s t hc
  | r i => exact key _ _ h1
  | x i => exact key _ _ h2

theorem one?_noRef {s : Nat} {g : Bool} {n : Nat} {cs : List T} {off : Nat} {t : T} (h : noRefL s cs = true) (ht : one? g n cs off = some t) : t.noRef s = true := by
  rw [noRefL_mem] at h
  unfold one? at ht
  split at ht
  · split at ht <;> try (cases ht; done)
    simp only [Option.some.injEq] at ht
    subst ht
    simp only [T.noRef, noRefL_mem]
    exact fun t ht => h t (List.mem_of_mem_drop (List.mem_of_mem_take ht))
  · exact h t (List.mem_of_getElem? ht)

theorem fillT_noRef {s : Nat} {get : Opd → T} : ∀ (ps : List (Nat × Nat × Opd)) (cells cs : List T), noRefL s cells = true → (∀ x ∈ ps.map (fun p => p.2.2), (get x).noRef s = true) → fillT get cells ps = some cs → noRefL s cs = true
  | [], cells, cs, h, _, hf => by simp only [fillT, Option.some.injEq] at hf; subst hf; exact h
  | (off, n, a) :: ps, cells, cs, h, hp, hf => by
    simp only [fillT, Option.bind_eq_bind] at hf
    obtain ⟨ns, hns, hf⟩ := Option.bind_eq_some_iff.1 hf
    split at hf <;> try (cases hf; done)
    refine fillT_noRef ps _ cs ?_ (fun x hx => hp x (by simp at hx ⊢; exact .inr hx)) hf
    have ha := hp a (by simp)
    have hn : noRefL s ns = true := by
      generalize get a = u at hns ha
      cases u <;> simp only [cellsOf, Option.some.injEq] at hns <;> try (cases hns; done)
      all_goals subst hns
      all_goals first
        | (simp [noRefL, ha]; done)
        | simpa [T.noRef] using ha
    rw [noRefL_mem] at h hn ⊢
    intro t ht
    simp only [setCells, List.mem_append] at ht
    rcases ht with (ht | ht) | ht
    · exact h t (List.mem_of_mem_take ht)
    · exact hn t ht
    · exact h t (List.mem_of_mem_drop ht)

/-- What may come ahead of a call that hands over boxes. -/
def behindNew (d : Nat) (o : IOp) : Bool := zeroOk o && constOk o && (match o with
  | .mv _ | .build .. | .load .. | .bin .. | .len .. => true
  | .bslice d2 .. => d2 != d
  | _ => false)

def newOk : IOp → IOp → Bool
  | .callnew d _ _ _, o => behindNew d o
  | _, _ => false

theorem val_noRef {s : Nat} {get : Opd → T} {bx : List (Option (List T))} {o : IOp} {t : T} {d : Nat} (hb : behindNew d o = true) (hq : o.quiet = true) (hg : ∀ x ∈ o.reads, (get x).noRef s = true) (hbx : ∀ (i : Nat) cs, bx[i]? = some (some cs) → noRefL s cs = true) (h : quietVal get bx o = some t) : t.noRef s = true := by
  unfold behindNew at hb
  simp only [Bool.and_eq_true] at hb
  obtain ⟨⟨hz, hc⟩, hm⟩ := hb
  cases o <;> try (simp at hm; done)
  case mv a =>
    simp only [quietVal, Option.some.injEq] at h
    subst h
    exact hg a (by simp [IOp.reads])
  case build zero ps =>
    simp only [quietVal] at h
    obtain ⟨cs, hcs, rfl⟩ := Option.map_eq_some_iff.1 h
    simp only [T.noRef]
    exact fillT_noRef ps zero cs (closedL_noRef s zero (by simpa [zeroOk] using hz)) hg hcs
  case load g n a =>
    simp only [quietVal] at h
    split at h
    · split at h <;> try (cases h; done)
      rename_i cs hcs
      exact one?_noRef (hbx _ cs hcs) h
    · obtain ⟨h1, h2⟩ := Option.filter_eq_some_iff.1 h
      exact closed_noRef s t h2
    · cases h
  case bin op ty a b =>
    simp only [quietVal] at h
    unfold binT at h
    split at h <;> try (cases h; done)
    split at h <;> try (cases h; done)
    obtain ⟨x, _, rfl⟩ := Option.map_eq_some_iff.1 h
    rfl
  case len str a =>
    simp only [quietVal] at h
    unfold lenT at h
    split at h <;> try (cases h; done)
    all_goals
      split at h <;> try (cases h; done)
      simp only [Option.some.injEq] at h
      subst h
      rfl
  case bslice => simp [IOp.quiet, IOp.pure] at hq

/-- A call that hands over boxes, apart from what it does not read. -/
theorem callNew_gen {C : FuncId → List T → Option T} {σ σ1 : St} {d f : Nat} {ad : List Nat} {as : List T} {t : T} (hr : runOp.callNew C σ d ad f as = some (t, σ1)) :
    ∃ r outs, t = T.remap (ioBack [] ad) (ioFam d) r ∧ σ1 = ⟨stripL (2 * d) σ.rs, stripL (2 * d) σ.vars, adopt (ioBack [] ad) (ioFam d) outs 0 (stripB (2 * d) σ.boxes)⟩ ∧ (∀ s ∈ ad ++ ad.map (· + 1), σ.noRef s = true) ∧
      ∀ (σ' : St) (as' : List T), as'.map T.weakN = as.map T.weakN → hasRefL as' = hasRefL as → (∀ s, boxFree σ'.boxes s = boxFree σ.boxes s) → (∀ s ∈ ad ++ ad.map (· + 1), σ'.noRef s = true) →
        runOp.callNew C σ' d ad f as' = some (t, ⟨stripL (2 * d) σ'.rs, stripL (2 * d) σ'.vars, adopt (ioBack [] ad) (ioFam d) outs 0 (stripB (2 * d) σ'.boxes)⟩) := by
  unfold runOp.callNew at hr
  split at hr <;> try (cases hr; done)
  rename_i hnr
  split at hr <;> try (cases hr; done)
  rename_i r outs hC
  split at hr <;> try (cases hr; done)
  rename_i h1
  simp only [Option.some.injEq, Prod.mk.injEq] at hr
  obtain ⟨rfl, rfl⟩ := hr
  have h2 := h1.2.1
  simp only [List.all_eq_true, Bool.and_eq_true] at h2
  refine ⟨r, outs.map decB, rfl, rfl, fun s hs => ?_, fun σ' as' has href hbf hno => ?_⟩
  · simp only [List.mem_append, List.mem_map] at hs
    rcases hs with hs | ⟨s', hs, rfl⟩
    · exact (h2 s hs).1.2
    · exact (h2 s' hs).2
  · unfold runOp.callNew
    have e : (as'.map fun t => t.weakN.remap (lab []) fun _ => none) = as.map fun t => t.weakN.remap (lab []) fun _ => none := by
      have := congrArg (List.map fun t => T.remap (lab []) (fun _ => none) t) has
      simpa [List.map_map, Function.comp_def] using this
    rw [href, if_neg hnr, e, hC]
    simp only
    rw [if_pos ⟨h1.1, by
      simp only [List.all_eq_true, Bool.and_eq_true]
      intro s hs
      refine ⟨⟨⟨⟨(h2 s hs).1.1.1.1, ?_⟩, ?_⟩, hno s (by simp [hs])⟩, hno (s + 1) (by simp [hs])⟩
      · rw [hbf]; exact (h2 s hs).1.1.1.2
      · rw [hbf]; exact (h2 s hs).1.1.2, h1.2.2⟩]
    rfl

mutual
theorem remap_fam_strip {d d2 : Nat} (h : d2 ≠ d) (ρ : Nat → Option Nat) : ∀ t : T, (t.remap ρ (ioFam d)).strip (2 * d2) = t.remap ρ (ioFam d)
  | .undef => rfl
  | .v _ => rfl
  | .sl g n cs => by
    cases g <;> try rfl
    rename_i k e
    simp only [T.remap, ioFam]
    by_cases hk : k < 8
    · rw [if_pos hk]
      simp only [T.strip]
      rw [hit_div, if_neg (by simp; omega)]
    · rw [if_neg hk]; rfl
  | .ptr .. => rfl
  | .ref s o => by simp only [T.remap]; split <;> rfl
  | .bsl s o n c => by simp only [T.remap]; split <;> rfl
  | .mref s => by simp only [T.remap]; split <;> rfl
  | .agg ts => by simp only [T.remap, T.strip, remapL_fam_strip h ρ ts]
  | .tup ts => by simp only [T.remap, T.strip, remapL_fam_strip h ρ ts]
  | .clo f a b => by simp only [T.remap, T.strip, remapL_fam_strip h ρ a, remapL_fam_strip h ρ b]
theorem remapL_fam_strip {d d2 : Nat} (h : d2 ≠ d) (ρ : Nat → Option Nat) : ∀ ts : List T, stripL (2 * d2) (remapL ρ (ioFam d) ts) = remapL ρ (ioFam d) ts
  | [] => rfl
  | t :: ts => by simp only [remapL, stripL, remap_fam_strip h ρ t, remapL_fam_strip h ρ ts]
end

theorem adopt_strip {d d2 : Nat} (h : d2 ≠ d) (back : Nat → Option Nat) : ∀ (os : List (Option (List T))) (l : Nat) (bx : List (Option (List T))), stripB (2 * d2) (adopt back (ioFam d) os l bx) = adopt back (ioFam d) os l (stripB (2 * d2) bx)
  | [], _, _ => rfl
  | o :: os, l, bx => by
    simp only [adopt]
    rw [adopt_strip h back os]
    congr 1
    cases back l with
    | none => rfl
    | some s =>
      simp only [stripB, List.map_set]
      congr 1
      cases o with
      | none => rfl
      | some cs => simp only [Option.map_some, remapL_fam_strip h]

theorem stripB_comm (d d' : Nat) (bx : List (Option (List T))) : stripB d' (stripB d bx) = stripB d (stripB d' bx) := by
  simp only [stripB, List.map_map]
  refine List.map_congr_left fun o _ => ?_
  cases o with
  | none => rfl
  | some cs => simp [stripL_comm d d' cs]

theorem boxFree_strip (d : Nat) (bx : List (Option (List T))) (s : Nat) : boxFree (stripB d bx) s = boxFree bx s := by
  unfold boxFree stripB
  rw [List.getElem?_map]
  cases bx[s]? with
  | none => rfl
  | some o => cases o <;> rfl

theorem ioBack_mem {ad : List Nat} {l s : Nat} (h : ioBack [] ad l = some s) : s ∈ ad ++ ad.map (· + 1) := by
  unfold ioBack at h
  simp only [List.length_nil, Nat.not_lt_zero, if_false, Nat.sub_zero] at h
  obtain ⟨a, ha, rfl⟩ := Option.map_eq_some_iff.1 h
  have hm := List.mem_of_getElem? ha
  simp only [List.mem_append, List.mem_map]
  rcases Nat.mod_two_eq_zero_or_one l with h0 | h0
  · rw [h0]; exact .inl hm
  · rw [h0]; exact .inr ⟨a, hm, rfl⟩

def swapNew (e1 e2 : Ent) : Bool := e1.1 != e2.1 && !(e2.looks e1.1) && !(e1.looks e2.1) && newOk e1.2.2 e2.2.2

set_option maxHeartbeats 1000000 in
theorem swap_new {C : FuncId → List T → Option T} {σ σ1 σ2 : St} {e1 e2 : Ent} (hs : swapNew e1 e2 = true) (h1 : stepAt C σ e1 = some σ1) (h2 : stepAt C σ1 e2 = some σ2) :
    ∃ σ1', stepAt C σ e2 = some σ1' ∧ stepAt C σ1' e1 = some σ2 := by
  obtain ⟨p1, g1, o1⟩ := e1
  obtain ⟨p2, g2, o2⟩ := e2
  simp only [swapNew, Bool.and_eq_true, bne_iff_ne, ne_eq, Bool.not_eq_true'] at hs
  obtain ⟨⟨⟨hp, hl2⟩, hl1⟩, hc⟩ := hs
  obtain ⟨hr2, hg2⟩ := looks_spec hl2
  obtain ⟨hr1, hg1⟩ := looks_spec hl1
  simp only at hp hr1 hr2 hg1 hg2 hc
  have hp' : ¬ p2 = p1 := fun h => hp h.symm
  cases o1 <;> try (simp [newOk] at hc; done)
  rename_i d ad f as
  simp only [newOk] at hc
  have hz : zeroOk o2 = true := by simp only [behindNew, Bool.and_eq_true] at hc; exact hc.1.1
  have hco : constOk o2 = true := by simp only [behindNew, Bool.and_eq_true] at hc; exact hc.1.2
  have hld2 : o2.loud = false := by cases o2 <;> first | rfl | simp [behindNew] at hc
  have hcok : ∀ x ∈ o2.reads, x.cOk = true := fun x hx => by
    simp only [constOk, List.all_eq_true] at hco
    exact hco x hx
  simp only [IOp.reads] at hr1
  simp only [stepAt] at h1 h2
  obtain ⟨go1, hw1, h1⟩ := Option.bind_eq_some_iff.1 h1
  obtain ⟨go2, hw2, h2⟩ := Option.bind_eq_some_iff.1 h2
  cases go1 with
  | false =>
    simp only [Bool.false_eq_true, if_false, Option.some.injEq] at h1
    subst h1
    rw [wantedT_put hg2] at hw2
    cases go2 with
    | false =>
      simp only [Bool.false_eq_true, if_false, Option.some.injEq] at h2
      subst h2
      refine ⟨{ σ with rs := σ.rs.set p2 T.skipped }, by simp [stepAt, hw2], ?_⟩
      simp only [stepAt, wantedT_put hg1, hw1, Option.bind_some, Bool.false_eq_true, if_false, set_set_comm hp]
    | true =>
      simp only [if_true] at h2
      obtain ⟨⟨t2, σ3⟩, h3, h2⟩ := Option.bind_eq_some_iff.1 h2
      simp only [Option.some.injEq] at h2
      subst h2
      obtain ⟨ds2, b2, _, _, rfl, he2⟩ := runOp_eff hld2 h3
      have h4 : runOp C σ o2 = some (t2, St.strips ds2 { σ with boxes := b2 }) := he2 σ.rs σ.vars fun x hx => (get_put (hr2 x hx)).symm
      refine ⟨_, by simp only [stepAt, hw2, Option.bind_some, if_true, h4]; rfl, ?_⟩
      simp only [stepAt]
      rw [wantedT_put hg1, wantedT_strips]
      simp only [hw1, Option.bind_some, Bool.false_eq_true, if_false, Option.some.injEq]
      have := strips_put ds2 { σ with boxes := b2 } p1 T.skipped
      simp only [stripsT_skipped] at this
      rw [this]
      simp only [set_set_comm hp]
  | true =>
    simp only [if_true] at h1
    obtain ⟨⟨t1, σ3⟩, h3, h1⟩ := Option.bind_eq_some_iff.1 h1
    simp only [Option.some.injEq] at h1
    subst h1
    simp only [runOp] at h3
    obtain ⟨r, outs, ht1, rfl, hask, hgen⟩ := callNew_gen h3
    simp only at hw2 h2
    rw [wantedT_put hg2, wantedT_strip] at hw2
    have hsk : stripL (2 * d) (σ.rs.set p2 T.skipped) = (stripL (2 * d) σ.rs).set p2 T.skipped := by rw [stripL_map, stripL_map, List.map_set]; rfl
    have hgas : ∀ t, as.map (Opd.get { σ with rs := σ.rs.set p2 t }) = as.map (Opd.get σ) := fun t => List.map_congr_left fun x hx => get_put (hr1 x hx)
    have hnoput : ∀ t : T, (∀ s ∈ ad ++ ad.map (· + 1), t.noRef s = true) → ∀ s ∈ ad ++ ad.map (· + 1), St.noRef s { σ with rs := σ.rs.set p2 t } = true := fun t ht s hs => by
      have := hask s hs
      simp only [St.noRef, Bool.and_eq_true] at this ⊢
      exact ⟨⟨noRefL_set this.1.1 (ht s hs), this.1.2⟩, this.2⟩
    cases go2 with
    | false =>
      simp only [Bool.false_eq_true, if_false, Option.some.injEq] at h2
      subst h2
      refine ⟨{ σ with rs := σ.rs.set p2 T.skipped }, by simp [stepAt, hw2], ?_⟩
      have h5 := hgen { σ with rs := σ.rs.set p2 T.skipped } (as.map (Opd.get { σ with rs := σ.rs.set p2 T.skipped })) (by rw [hgas]) (by rw [hgas]) (fun s => rfl) (hnoput T.skipped fun s _ => rfl)
      simp only [stepAt, runOp]
      rw [wantedT_put hg1]
      simp only [hw1, Option.bind_some, if_true, h5, Option.some.injEq]
      rw [hsk, set_set_comm hp']
    | true =>
      simp only [if_true] at h2
      obtain ⟨⟨t2, σ4⟩, h4, h2⟩ := Option.bind_eq_some_iff.1 h2
      simp only [Option.some.injEq] at h2
      subst h2
      have hget : ∀ x ∈ o2.reads, x.get ⟨(stripL (2 * d) σ.rs).set p1 t1, stripL (2 * d) σ.vars, adopt (ioBack [] ad) (ioFam d) outs 0 (stripB (2 * d) σ.boxes)⟩ = (x.get σ).strip (2 * d) := fun x hx => by
        rw [← get_strip (hcok x hx)]
        exact get_put (σ := ⟨stripL (2 * d) σ.rs, stripL (2 * d) σ.vars, adopt (ioBack [] ad) (ioFam d) outs 0 (stripB (2 * d) σ.boxes)⟩) (hr2 x hx) |>.trans (by cases x <;> rfl)
      by_cases hq : o2.quiet = true
      · -- a value
        have hsame := quiet_same hq h4
        subst hsame
        rw [runOp_quiet hq] at h4
        obtain ⟨x2, hx2, hxx⟩ := Option.map_eq_some_iff.1 h4
        simp only [Prod.mk.injEq] at hxx
        obtain ⟨rfl, _⟩ := hxx
        rw [quietVal_congr (get := fun x => (x.get σ).strip (2 * d)) hget] at hx2
        have hx3 : quietVal (fun x => (x.get σ).strip (2 * d)) (stripB (2 * d) σ.boxes) o2 = some x2 := by
          rw [← hx2]
          by_cases hpu : o2.pure = true
          · exact pure_boxes hpu
          · cases o2 with
            | load g n a =>
              simp only [quietVal]
              have hna : ∀ s ∈ ad ++ ad.map (· + 1), (a.get σ).noRef s = true := fun s hs => get_noRef (hask s hs) (hcok a (by simp [IOp.reads]))
              generalize a.get σ = u at hna
              cases u <;> try rfl
              · rename_i g' n' cs'; cases g' <;> rfl
              · rename_i s off
                simp only [T.strip]
                have hmiss : (adopt (ioBack [] ad) (ioFam d) outs 0 (stripB (2 * d) σ.boxes))[s]? = (stripB (2 * d) σ.boxes)[s]? := adopt_miss outs 0 _ fun l' _ _ hb => by
                  have := hna s (ioBack_mem hb)
                  simp [T.noRef] at this
                rw [hmiss]
            | _ => first | exact absurd rfl hpu | (simp [behindNew] at hc; done) | (simp [IOp.quiet, IOp.pure] at hq; done)
        rw [quietVal_strip (2 * d) hz] at hx3
        obtain ⟨t2', ht2', rfl⟩ := Option.map_eq_some_iff.1 hx3
        have h6 : runOp C σ o2 = some (t2', σ) := by rw [runOp_quiet hq, ht2']; rfl
        refine ⟨{ σ with rs := σ.rs.set p2 t2' }, by simp only [stepAt, hw2, Option.bind_some, if_true, h6], ?_⟩
        have hn2 : ∀ s ∈ ad ++ ad.map (· + 1), t2'.noRef s = true := fun s hs => by
          refine val_noRef hc hq (fun x hx => get_noRef (hask s hs) (hcok x hx)) (fun i cs hcs => ?_) ht2'
          have := hask s hs
          simp only [St.noRef, Bool.and_eq_true, List.all_eq_true] at this
          exact this.2 _ (List.mem_of_getElem? hcs)
        have h5 := hgen { σ with rs := σ.rs.set p2 t2' } (as.map (Opd.get { σ with rs := σ.rs.set p2 t2' })) (by rw [hgas]) (by rw [hgas]) (fun s => rfl) (hnoput t2' hn2)
        simp only [stepAt, runOp]
        rw [wantedT_put hg1]
        simp only [hw1, Option.bind_some, if_true, h5, Option.some.injEq]
        have e : stripL (2 * d) (σ.rs.set p2 t2') = (stripL (2 * d) σ.rs).set p2 (t2'.strip (2 * d)) := by rw [stripL_map, stripL_map, List.map_set]
        rw [e, set_set_comm hp']
      · -- a row
        cases o2 with
        | bslice d2 e sz len zero ps =>
          have hdd : d2 ≠ d := by simp only [behindNew, Bool.and_eq_true, bne_iff_ne] at hc; exact hc.2
          simp only [runOp, Option.bind_eq_bind] at h4
          obtain ⟨cs, hcs, h4⟩ := Option.bind_eq_some_iff.1 h4
          split at h4 <;> try (cases h4; done)
          rename_i hck
          simp only [Option.some.injEq, Prod.mk.injEq] at h4
          obtain ⟨rfl, rfl⟩ := h4
          rw [fillT_congr (get := fun a => (Opd.get σ a).weak) ps _ fun x hx => by simp only [hget x hx, weak_strip]] at hcs
          have h6 : runOp C σ (.bslice d2 e sz len zero ps) = some (.sl (if len = 0 then .clip else .own (8 * d2) e) len cs, σ.strip (2 * d2)) := by
            simp only [runOp, Option.bind_eq_bind, hcs, Option.bind_some, if_pos hck]
          refine ⟨_, by simp only [stepAt, hw2, Option.bind_some, if_true, h6]; rfl, ?_⟩
          have hgas2 : as.map (Opd.get { σ.strip (2 * d2) with rs := (σ.strip (2 * d2)).rs.set p2 (.sl (if len = 0 then .clip else .own (8 * d2) e) len cs) }) = as.map (Opd.get (σ.strip (2 * d2))) := List.map_congr_left fun x hx => get_put (hr1 x hx)
          have hw : ∀ x : Opd, (x.get (σ.strip (2 * d2))).weakN = (x.get σ).weakN ∧ (x.get (σ.strip (2 * d2))).hasRef = (x.get σ).hasRef := fun x => by
            cases x with
            | c t => exact ⟨rfl, rfl⟩
            | r i => rw [get_strip (x := .r i) rfl, weakN_strip, hasRef_strip]; exact ⟨rfl, rfl⟩
            | x i => rw [get_strip (x := .x i) rfl, weakN_strip, hasRef_strip]; exact ⟨rfl, rfl⟩
          have hrl : ∀ as : List Opd, hasRefL (as.map (Opd.get (σ.strip (2 * d2)))) = hasRefL (as.map (Opd.get σ)) := fun as => by
            induction as with
            | nil => rfl
            | cons x as ih => simp only [List.map_cons, hasRefL, ih, (hw x).2]
          have h5 := hgen { σ.strip (2 * d2) with rs := (σ.strip (2 * d2)).rs.set p2 (.sl (if len = 0 then .clip else .own (8 * d2) e) len cs) } (as.map (Opd.get { σ.strip (2 * d2) with rs := (σ.strip (2 * d2)).rs.set p2 (.sl (if len = 0 then .clip else .own (8 * d2) e) len cs) }))
            (by rw [hgas2, List.map_map, List.map_map]; exact List.map_congr_left fun x _ => (hw x).1) (by rw [hgas2]; exact hrl as) (fun s => boxFree_strip (2 * d2) σ.boxes s) (fun s hs => by
              have := hask s hs
              rw [← stRef_strip s (2 * d2)] at this
              simp only [St.noRef, Bool.and_eq_true] at this ⊢
              exact ⟨⟨noRefL_set this.1.1 rfl, this.1.2⟩, this.2⟩)
          simp only [stepAt, runOp]
          have hwd : wantedT ((σ.strip (2 * d2)).rs.set p2 (.sl (if len = 0 then .clip else .own (8 * d2) e) len cs)) g1 = wantedT σ.rs g1 := by rw [wantedT_put hg1]; exact wantedT_strip (2 * d2)
          rw [hwd]
          simp only [hw1, Option.bind_some, if_true]
          rw [h5]
          simp only [Option.bind_some, Option.some.injEq, St.strip]
          have e1 : T.strip (2 * d) (.sl (if len = 0 then .clip else .own (8 * d2) e) len cs) = .sl (if len = 0 then .clip else .own (8 * d2) e) len cs := by
            by_cases h0 : len = 0
            · rw [if_pos h0]; rfl
            · rw [if_neg h0]
              simp only [T.strip]
              rw [hit_div, if_neg (by simp; omega)]
          have e2 : t1.strip (2 * d2) = t1 := by rw [ht1]; exact remap_fam_strip hdd _ r
          have e3 : stripL (2 * d) ((stripL (2 * d2) σ.rs).set p2 (.sl (if len = 0 then .clip else .own (8 * d2) e) len cs)) = (stripL (2 * d) (stripL (2 * d2) σ.rs)).set p2 (.sl (if len = 0 then .clip else .own (8 * d2) e) len cs) := by
            rw [stripL_map (2 * d), List.map_set, e1, ← stripL_map]
          have e4 : stripL (2 * d2) ((stripL (2 * d) σ.rs).set p1 t1) = (stripL (2 * d2) (stripL (2 * d) σ.rs)).set p1 t1 := by
            rw [stripL_map (2 * d2), List.map_set, e2, ← stripL_map]
          have e5 : List.map (Option.map (stripL (2 * d2))) (adopt (ioBack [] ad) (ioFam d) outs 0 (stripB (2 * d) σ.boxes)) = adopt (ioBack [] ad) (ioFam d) outs 0 (stripB (2 * d) (List.map (Option.map (stripL (2 * d2))) σ.boxes)) := by
            have := adopt_strip hdd (ioBack [] ad) outs 0 (stripB (2 * d) σ.boxes)
            rw [stripB_comm] at this
            exact this
          rw [e3, e4, e5, stripL_comm (2 * d) (2 * d2), stripL_comm (2 * d) (2 * d2) σ.vars, set_set_comm hp']
        | _ => first | exact absurd rfl hq | (simp [behindNew] at hc; done)

def swapOk (e1 e2 : Ent) : Bool := swapOld e1 e2 || swapNew e1 e2

theorem swapOk_looks {e1 e2 : Ent} (h : swapOk e1 e2 = true) : e2.looks e1.1 = false := by
  simp only [swapOk, swapOld, swapNew, Bool.or_eq_true, Bool.and_eq_true, Bool.not_eq_true'] at h
  rcases h with h | h
  · exact h.1.1.1.2
  · exact h.1.1.2

/-- Two operations change places. -/
theorem swap_step {C : FuncId → List T → Option T} {σ σ1 σ2 : St} {e1 e2 : Ent} (hs : swapOk e1 e2 = true) (h1 : stepAt C σ e1 = some σ1) (h2 : stepAt C σ1 e2 = some σ2) :
    ∃ σ1', stepAt C σ e2 = some σ1' ∧ stepAt C σ1' e1 = some σ2 := by
  simp only [swapOk, Bool.or_eq_true] at hs
  rcases hs with h | h
  · exact swap_old h h1 h2
  · exact swap_new h h1 h2

/-- One operation is brought to the front. -/
theorem front {C : FuncId → List T → Option T} {e : Ent} {l2 : List Ent} {σ' : St} : ∀ (l1 : List Ent) (σ : St), (∀ x ∈ l1, swapOk x e = true) → runAt C (l1 ++ e :: l2) σ = some σ' → ∃ σ1, stepAt C σ e = some σ1 ∧ runAt C (l1 ++ l2) σ1 = some σ'
  | [], σ, _, h => by
    simp only [List.nil_append, runAt] at h ⊢
    exact Option.bind_eq_some_iff.1 h
  | x :: l1, σ, hx, h => by
    simp only [List.cons_append, runAt] at h
    obtain ⟨σ1, h1, h⟩ := Option.bind_eq_some_iff.1 h
    obtain ⟨σ2, h2, h3⟩ := front l1 σ1 (fun y hy => hx y (by simp [hy])) h
    obtain ⟨σ3, h4, h5⟩ := swap_step (hx x (by simp)) h1 h2
    exact ⟨σ3, h4, by simp only [List.cons_append, runAt, h5, Option.bind_some, h3]⟩
end Go.Vi
end
section
/-
  A VERIFIED INTERPRETER (part 22): regions whose order is drawn.
-/
set_option linter.unusedSimpArgs false
set_option linter.unusedVariables false
namespace Go.Vi
open Go Go.RowKit

def entsFrom : Nat → List (Option (Nat × Bool) × IOp) → List Ent
  | _, [] => []
  | k, (g, o) :: r => (k, g, o) :: entsFrom (k + 1) r

theorem stripsT_undef (ds : List Nat) : stripsT ds .undef = .undef := by
  induction ds with
  | nil => rfl
  | cons d ds ih => exact ih

theorem wantedT_pad {rs pad : List T} {g : Option (Nat × Bool)} {go : Bool} (h : wantedT rs g = some go) : wantedT (rs ++ pad) g = some go := by
  cases g with
  | none => exact h
  | some q =>
    obtain ⟨j, b⟩ := q
    simp only [wantedT] at h ⊢
    by_cases hj : j < rs.length
    · rw [List.getElem?_append_left hj]; exact h
    · rw [List.getElem?_eq_none (by omega)] at h; cases h

theorem runOps_runAt {C : FuncId → List T → Option T} {σ' : St} : ∀ (il : List (Option (Nat × Bool) × IOp)) (σ : St), runOps C σ il = some σ' → runAt C (entsFrom σ.rs.length il) { σ with rs := σ.rs ++ List.replicate il.length .undef } = some σ'
  | [], σ, h => by
    simp only [runOps, Option.some.injEq] at h
    subst h
    simp [entsFrom, runAt]
  | (g, o) :: il, σ, h => by
    simp only [runOps] at h
    obtain ⟨go, hw, h⟩ := Option.bind_eq_some_iff.1 h
    have hset : ∀ (rs : List T) (t : T) (k : Nat), rs.length = k → (rs ++ List.replicate (il.length + 1) T.undef).set k t = (rs ++ [t]) ++ List.replicate il.length T.undef := by
      intro rs t k hk
      subst hk
      rw [List.set_append_right _ _ (Nat.le_refl _)]
      simp [List.replicate_succ]
    have hw' := wantedT_pad (pad := List.replicate (il.length + 1) T.undef) hw
    cases go with
    | true =>
      simp only [if_true] at h
      obtain ⟨⟨t, σ1⟩, h1, h⟩ := Option.bind_eq_some_iff.1 h
      obtain ⟨F, bx, hF, rfl, hask, he⟩ := runOp_any h1
      have h2 := he (σ.rs ++ List.replicate (il.length + 1) T.undef) σ.vars (fun x _ => by
        cases x with
        | x i => rfl
        | c t => rfl
        | r i =>
          simp only [Opd.get, List.getD_eq_getElem?_getD, List.getElem?_append, List.getElem?_replicate]
          by_cases hi : i < σ.rs.length
          · rw [if_pos hi]
          · rw [if_neg hi, List.getElem?_eq_none (by omega : σ.rs.length ≤ i)]
            split <;> rfl) (fun s hs => by
          have := hask s hs
          simp only [St.noRef, Bool.and_eq_true] at this
          refine ⟨?_, this.1.2⟩
          rw [noRefL_mem] at this ⊢
          intro t ht
          rcases List.mem_append.1 ht with h | h
          · exact this.1.1 t h
          · rw [(List.mem_replicate.1 h).2]; rfl)
      have ih := runOps_runAt il _ h
      simp only [entsFrom, runAt, stepAt, List.length_cons, hw', Option.bind_some, if_true, h2]
      rw [List.map_append, List.map_replicate, hF.undef, hset _ _ _ (by simp)]
      simp only [List.length_append, List.length_map, List.length_singleton] at ih
      exact ih
    | false =>
      simp only [Bool.false_eq_true, if_false] at h
      have ih := runOps_runAt il _ h
      simp only [entsFrom, runAt, stepAt, List.length_cons, hw', Option.bind_some, Bool.false_eq_true, if_false]
      rw [hset _ _ _ rfl]
      simp only [List.length_append, List.length_singleton] at ih
      exact ih

section
variable {P : Program} {W : Base} {w : World} {S0 S : Nat → Nat → Prop} {β : BMap} {φ : FMap} {a : Act} {o : Oper} {σ : St} {nt : Nat} {vm bm : List Nat}

theorem put_defers (a : Act) (d : Option Nat) (x : Value) : (a.put d x).defers = a.defers := by cases d <;> rfl

theorem RegRel.putAt {done : List (Option Nat)} (h : RegRel P W S0 S β φ nt vm done σ a w) {i : Nat} {dst : Option Nat} (hi : done[i]? = some none) (hd : ∀ s, dst = some s → some s ∉ done ∧ s < nt) {t : T} {x : Value} (hx : Rep S w β φ x t) :
    RegRel P W S0 S β φ nt vm (done.set i dst) { σ with rs := σ.rs.set i t } (a.put dst x) w := by
  have hlt : i < done.length := (List.getElem?_eq_some_iff.1 hi).1
  have hne' : ∀ s', some s' ≠ dst → (a.put dst x).tmps.getD s' undef = a.tmps.getD s' undef := by
    intro s' hs'
    cases dst with
    | none => rfl
    | some s => simp only [Act.put]; exact getD_set_ne (by intro h; subst h; exact hs' rfl)
  have key : ∀ (j s : Nat), (done.set i dst)[j]? = some (some s) → (j ≠ i ∧ done[j]? = some (some s)) ∨ (j = i ∧ dst = some s) := by
    intro j s hj
    rw [List.getElem?_set] at hj
    split at hj
    · rename_i hij
      simp only [hlt, if_true, Option.some.injEq] at hj
      exact .inr ⟨hij.symm, hj⟩
    · rename_i hij; exact .inl ⟨fun h => hij h.symm, hj⟩
  refine ⟨h.inv, ?_, ?_, h.vlen, by simp [h.rlen], fun v s u hv hn hu => ?_, fun j s u hj hu => ?_, fun j j' s hj hj' => ?_⟩
  · obtain ⟨Ds, h1, h2, h3⟩ := h.nd
    exact ⟨Ds, h1, by cases dst <;> simpa [Act.put] using h2, h3⟩
  · cases dst <;> simp [Act.put, h.size]
  · have h1 : some s ≠ dst := fun he => hn (by rw [he]; exact List.mem_of_getElem? (i := i) (by simp [hlt]))
    have h2 : some s ∉ done := fun hm => hn (by
      obtain ⟨k, hk⟩ := List.mem_iff_getElem?.1 hm
      have hki : i ≠ k := fun he => by subst he; rw [hi] at hk; cases hk
      exact List.mem_of_getElem? (i := k) (by rw [List.getElem?_set, if_neg hki]; exact hk))
    rw [hne' s h1]
    exact h.vars v s u hv h2 hu
  · rcases key j s hj with ⟨hne, hj'⟩ | ⟨rfl, rfl⟩
    · simp only [List.getElem?_set, if_neg (fun h => hne h.symm : ¬ i = j)] at hu
      rw [hne' s (fun he => (hd s he.symm).1 (List.mem_of_getElem? hj'))]
      exact h.regs j s u hj' hu
    · simp only [List.getElem?_set, if_true] at hu
      split at hu <;> try (cases hu; done)
      simp only [Option.some.injEq] at hu
      subst hu
      simp only [Act.put]
      rw [getD_set_eq (by rw [h.size]; exact (hd s rfl).2)]
      exact hx
  · rcases key j s hj with ⟨hne, h1⟩ | ⟨h1, h1'⟩ <;> rcases key j' s hj' with ⟨hne', h2⟩ | ⟨h2, h2'⟩
    · exact h.dist j j' s h1 h2
    · exact absurd (List.mem_of_getElem? h1) (hd s h2').1
    · exact absurd (List.mem_of_getElem? h2) (hd s h1').1
    · omega

theorem RegRel.grow {done : List (Option Nat)} {w' : World} (h : RegRel P W S0 S β φ nt vm done σ a w) (hb : Below w.heap.size w w') : RegRel P W S0 S β φ nt vm done σ a w' :=
  ⟨h.inv.grow hb, h.nd, h.size, h.vlen, h.rlen, fun i s u hi hn hu => (h.vars i s u hi hn hu).grow h.inv.lt hb, fun j s u hj hu => (h.regs j s u hj hu).grow h.inv.lt hb, h.dist⟩

/-- One operation, others having been done. -/
theorem step_sound {C : FuncId → List T → Option T} (hC : ∀ f args r, C f args = some r → Sound P f args r) {ops : Array Oper} {done pre : List (Option Nat)} {i : Nat} {io : IOp} {iom : FuncId → Nat} {σ1 : St} (hnb : 2 * bm.length ≤ W.nb) {rn : Option Nat} {n : Nat} {K : Act → World → Prop} {Q : Exit → Act → World → Prop}
    (h : RegRel P W S0 S β φ nt vm done σ a w) (hops : ops[i]? = some o) (hlow : lowOp P iom vm bm pre o = some io)
    (hpre : ∀ k s, pre[k]? = some (some s) → done[k]? = some (some s) ∨ σ.rs.getD k .undef = .undef)
    (hsub : ∀ (j s : Nat), done[j]? = some (some s) → (ops[j]?).bind (·.dst) = some s)
    (hvar : ∀ v s, Opd.x v ∈ io.reads → vm[v]? = some s → some s ∉ done)
    (hni : done[i]? = some none) (hd : ∀ s, o.dst = some s → some s ∉ done ∧ s < nt)
    (hg : ∀ j b, o.guard = some (j, b) → ((done[j]?).join).isSome = true)
    (hs : stepAt C σ (i, o.guard, io) = some σ1)
    (hK : ∀ S' β' φ' a' w', RegRel P W S0 S' β' φ' nt vm (done.set i o.dst) σ1 a' w' → a'.defers = a.defers → K a' w') : wpOpIn (wd rn) n P ops Q i K a w := by
  simp only [stepAt] at hs
  obtain ⟨go, hw, hs⟩ := Option.bind_eq_some_iff.1 hs
  have hwant := guard_spec h hsub hg hw
  unfold wpOpIn
  simp only [hops, hwant]
  cases go with
  | false =>
    simp only [Bool.false_eq_true, if_false, Option.some.injEq] at hs ⊢
    subst hs
    exact ⟨fun _ _ => trivial, hK _ _ _ _ _ (h.putAt hni hd (.v ..)) (put_defers _ _ _)⟩
  | true =>
    simp only [if_true] at hs ⊢
    obtain ⟨⟨t, σ2⟩, h1, hs⟩ := Option.bind_eq_some_iff.1 hs
    simp only [Option.some.injEq] at hs
    subst hs
    obtain ⟨F, bx, hF, rfl, hask, he⟩ := runOp_any h1
    -- what is written already is forgotten
    let vs : List T := List.zipWith (fun s t => if some s ∈ done then T.undef else t) vm σ.vars
    let σ3 : St := ⟨σ.rs, vs, σ.boxes⟩
    have hvs : ∀ (v s : Nat) (u : T), vm[v]? = some s → σ.vars[v]? = some u → vs[v]? = some (if some s ∈ done then T.undef else u) := by
      intro v s u hv hu
      simp [vs, List.getElem?_zipWith, hv, hu]
    have hvs' : ∀ (v : Nat) (u : T), vs[v]? = some u → ∃ s u', vm[v]? = some s ∧ σ.vars[v]? = some u' ∧ u = if some s ∈ done then T.undef else u' := by
      intro v u hu
      simp only [vs, List.getElem?_zipWith] at hu
      split at hu <;> try (cases hu; done)
      rename_i s u' hv hu'
      simp only [Option.some.injEq] at hu
      exact ⟨s, u', hv, hu', hu.symm⟩
    have h3 : RegRel P W S0 S β φ nt vm done σ3 a w := by
      refine ⟨h.inv, h.nd, h.size, by simp [σ3, vs, h.vlen], h.rlen, fun v s u hv hn hu => ?_, h.regs, h.dist⟩
      obtain ⟨s', u', hv', hu', rfl⟩ := hvs' v u hu
      rw [hv] at hv'
      simp only [Option.some.injEq] at hv'
      subst hv'
      rw [if_neg hn]
      exact h.vars v s u' hv hn hu'
    have hop : ∀ x d, lowOpd vm pre x = some d → Rep S w β φ (a.eval x) (d.get σ3) := by
      intro x d hx
      cases x with
      | tmp s =>
        simp only [lowOpd] at hx
        split at hx
        · rename_i k hk
          simp only [Option.some.injEq] at hx
          subst hx
          have hk' := lastIdx_some hk
          simp only [Opd.get, Act.eval]
          rcases hpre k s hk' with hdn | hun
          · have hlt : k < σ.rs.length := by rw [h.rlen]; exact (List.getElem?_eq_some_iff.1 hdn).1
            exact h.regs k s _ hdn (by simp [σ3, List.getD_eq_getElem?_getD, hlt])
          · simp only [σ3]; rw [hun]; exact .undef ..
        · obtain ⟨v, hv, rfl⟩ := Option.map_eq_some_iff.1 hx
          rw [List.idxOf?, List.findIdx?_eq_some_iff_getElem] at hv
          obtain ⟨hv, hvs1, _⟩ := hv
          simp only [beq_iff_eq] at hvs1
          have hvm : vm[v]? = some s := by simp [hv, hvs1]
          have hlt : v < σ.vars.length := by rw [h.vlen]; exact hv
          have := hvs v s _ hvm (List.getElem?_eq_getElem hlt)
          simp only [Opd.get, Act.eval, σ3, List.getD_eq_getElem?_getD, this, Option.getD_some]
          split
          · exact .undef ..
          · rename_i hn
            exact h.vars v s _ hvm hn (List.getElem?_eq_getElem hlt)
      | const v =>
        simp only [lowOpd] at hx
        split at hx
        · rename_i hk
          simp only [Option.some.injEq] at hx
          subst hx
          exact rep_ofValue v hk
        · cases hx
      | func f =>
        simp only [lowOpd, Option.some.injEq] at hx
        subst hx
        exact .v ..
      | global g => simp [lowOpd] at hx
    have hrun : runOp C σ3 io = some (t, ⟨σ.rs.map F, vs.map F, bx⟩) := he σ.rs vs (fun x hx => by
      cases x with
      | r k => rfl
      | c u => rfl
      | x v =>
        simp only [Opd.get, List.getD_eq_getElem?_getD]
        cases hv : vm[v]? with
        | none =>
          have h4 : σ.vars.length ≤ v := by rw [h.vlen]; exact List.getElem?_eq_none_iff.1 hv
          have h5 : vs.length ≤ v := by rw [show vs.length = vm.length by simp [vs, h.vlen]]; exact List.getElem?_eq_none_iff.1 hv
          rw [List.getElem?_eq_none h4, List.getElem?_eq_none h5]
        | some s =>
          have hlt : v < σ.vars.length := by rw [h.vlen]; exact (List.getElem?_eq_some_iff.1 hv).1
          rw [hvs v s _ hv (List.getElem?_eq_getElem hlt), if_neg (hvar v s hx hv), List.getElem?_eq_getElem hlt]) (fun s hs => by
        have := hask s hs
        simp only [St.noRef, Bool.and_eq_true] at this
        refine ⟨this.1.1, ?_⟩
        have h2 := this.1.2
        rw [noRefL_mem] at h2 ⊢
        intro t ht
        obtain ⟨v, hv⟩ := List.mem_iff_getElem?.1 ht
        obtain ⟨s', u', hv1, hu', rfl⟩ := hvs' v t hv
        split
        · rfl
        · exact h2 _ (List.mem_of_getElem? hu'))
    have fin : ∀ x w', After P W S0 S β φ w σ3 ⟨σ.rs.map F, vs.map F, bx⟩ t x w' → K (a.put o.dst x) w' := by
      intro x w' ⟨S', β', φ', adj, hx, hI, hm, hrs, hvars⟩
      simp only [σ3] at hrs hvars
      have hR2 : RegRel P W S0 S' β' φ' nt vm done ⟨σ.rs.map F, σ.vars.map F, bx⟩ a w' := by
        refine ⟨hI, h.nd, h.size, by simp [h.vlen], by simp [h.rlen], fun v s u hv hn hu => ?_, fun j s u hj hu => ?_, h.dist⟩
        · simp only [List.getElem?_map] at hu
          obtain ⟨u', hu', rfl⟩ := Option.map_eq_some_iff.1 hu
          have h1 := hvs v s u' hv hu'
          rw [if_neg hn] at h1
          have h2 := hm _ _ (h3.vars v s u' hv hn h1)
          have h4 : F u' = adj u' := by
            have := congrArg (·[v]?) hvars
            simp only [List.getElem?_map, h1, Option.map_some, Option.some.injEq] at this
            exact this
          rw [h4]; exact h2
        · simp only [List.getElem?_map] at hu
          obtain ⟨u', hu', rfl⟩ := Option.map_eq_some_iff.1 hu
          have h2 := hm _ _ (h3.regs j s u' hj hu')
          have h4 : F u' = adj u' := by
            have := congrArg (·[j]?) hrs
            simp only [List.getElem?_map, hu', Option.map_some, Option.some.injEq] at this
            exact this
          rw [h4]; exact h2
      exact hK _ _ _ _ _ (hR2.putAt hni hd hx) (put_defers _ _ _)
    by_cases hc : ∃ c f, o.op = .call c ∧ c.callee = .value f
    · obtain ⟨c, f, ho, hcv⟩ := hc
      exact opcall_sound hC h3.inv hnb hop hlow ho hcv hrun fin
    · obtain ⟨x, w', hrun', hA⟩ := op_sound (a := a) (o := o) h3.inv hnb hop hlow (fun c f ho hcv => hc ⟨c, f, ho, hcv⟩) hrun
      exact hrun'.wpIn (low_nodefer hlow) (fin _ _ hA)
end
end Go.Vi
end
section
/-
  A VERIFIED INTERPRETER (part 23): the check of a region whose order is drawn, and that it suffices.
-/
set_option linter.unusedSimpArgs false
set_option linter.unusedVariables false
namespace Go.Vi
open Go Go.RowKit

/-- The operations that an operation waits for. -/
def direct (ops : Array Oper) (i : Nat) : List Nat :=
  match ops[i]? with
  | some o => (o.after.toList.filter (Region.binds .any)).map (·.on)
  | none => []

/-- What lies ahead of each operation (checked by `drawOk`). -/
def ahead (ops : Array Oper) : List (List Nat) :=
  (List.range ops.size).foldl (fun tb i => tb ++ [((direct ops i) ++ (direct ops i).flatMap fun k => tb.getD k []).eraseDups]) []

def tbOk (ops : Array Oper) (tb : List (List Nat)) : Bool :=
  (List.range ops.size).all fun i => (direct ops i).all (fun k => decide (k < i)) && (tb.getD i []).all fun j => (direct ops i).contains j || (direct ops i).any fun k => (tb.getD k []).contains j

def pairsOk (tb : List (List Nat)) (es : List Ent) : Bool :=
  es.all fun e2 => es.all fun e1 => !(decide (e1.1 < e2.1)) || (tb.getD e2.1 []).contains e1.1 || swapOk e1 e2

def varsOk (vm : List Nat) (ops : Array Oper) (tb : List (List Nat)) (es : List Ent) : Bool :=
  es.all fun e => e.2.2.reads.all fun x => match x with
    | .x v => match vm[v]? with
      | some s => (List.range ops.size).all fun j => j == e.1 || (ops[j]?).bind (·.dst) != some s || (tb.getD j []).contains e.1
      | none => true
    | _ => true

/-- A region may be walked in the order of the text. -/
def drawOk (vm : List Nat) (ops : Array Oper) (l : List (Option (Nat × Bool) × IOp)) : Bool :=
  let tb := ahead ops
  tbOk ops tb && pairsOk tb (entsFrom 0 l) && varsOk vm ops tb (entsFrom 0 l)

theorem mem_entsFrom : ∀ (il : List (Option (Nat × Bool) × IOp)) (k i : Nat) (g : Option (Nat × Bool)) (io : IOp), (i, g, io) ∈ entsFrom k il ↔ k ≤ i ∧ il[i - k]? = some (g, io)
  | [], k, i, g, io => by simp [entsFrom]
  | (g', o') :: il, k, i, g, io => by
    simp only [entsFrom, List.mem_cons, Prod.mk.injEq, mem_entsFrom il (k + 1)]
    constructor
    · rintro (⟨rfl, rfl, rfl⟩ | ⟨h1, h2⟩)
      · simp
      · refine ⟨by omega, ?_⟩
        rw [show i - k = (i - (k + 1)) + 1 by omega]
        simpa using h2
    · rintro ⟨h1, h2⟩
      by_cases h : i = k
      · subst h
        simp at h2
        exact .inl ⟨rfl, h2.1.symm, h2.2.symm⟩
      · refine .inr ⟨by omega, ?_⟩
        rw [show i - k = (i - (k + 1)) + 1 by omega] at h2
        simpa using h2

/-- The entries in the order of the text, split at one. -/
theorem ents_split : ∀ (il : List (Option (Nat × Bool) × IOp)) (k i : Nat) (g : Option (Nat × Bool)) (io : IOp), (i, g, io) ∈ entsFrom k il →
    ∃ l1 l2, entsFrom k il = l1 ++ (i, g, io) :: l2 ∧ (∀ e ∈ l1, e.1 < i) ∧ ∀ e ∈ l2, i < e.1
  | [], k, i, g, io, h => by simp [entsFrom] at h
  | (g', o') :: il, k, i, g, io, h => by
    simp only [entsFrom, List.mem_cons, Prod.mk.injEq] at h
    rcases h with ⟨rfl, rfl, rfl⟩ | h
    · refine ⟨[], entsFrom (i + 1) il, by simp [entsFrom], by simp, fun e he => ?_⟩
      have := (mem_entsFrom il (i + 1) e.1 e.2.1 e.2.2).1 he
      omega
    · obtain ⟨l1, l2, h1, h2, h3⟩ := ents_split il (k + 1) i g io h
      refine ⟨(k, g', o') :: l1, l2, by simp [entsFrom, h1], fun e he => ?_, h3⟩
      have hk := ((mem_entsFrom il (k + 1) i g io).1 h).1
      simp only [List.mem_cons] at he
      rcases he with rfl | he
      · simp only; omega
      · exact h2 e he

theorem lowOps_spec {P : Program} {iom : FuncId → Nat} {nt : Nat} {vm bm : List Nat} : ∀ (rest pre : List Oper) {il : List (Option (Nat × Bool) × IOp)}, lowOps P iom nt vm bm (pre.map (·.dst)) rest = some il →
    il.length = rest.length ∧ ∀ (i : Nat) (o : Oper), rest[i]? = some o → ∃ io, il[i]? = some (o.guard, io) ∧ lowOp P iom vm bm ((pre ++ rest.take i).map (·.dst)) o = some io ∧ operBad nt ((pre ++ rest.take i).map (·.dst)) o = false
  | [], pre, il, h => by
    simp only [lowOps, Option.some.injEq] at h
    subst h
    exact ⟨rfl, fun i o ho => by simp at ho⟩
  | o' :: rest, pre, il, h => by
    unfold lowOps at h
    split at h <;> try (cases h; done)
    rename_i hb
    obtain ⟨i', hi, h⟩ := Option.bind_eq_some_iff.1 h
    obtain ⟨r, hr, h⟩ := Option.bind_eq_some_iff.1 h
    simp only [Option.some.injEq] at h
    subst h
    have hr' : lowOps P iom nt vm bm ((pre ++ [o']).map (·.dst)) rest = some r := by simpa using hr
    obtain ⟨h1, h2⟩ := lowOps_spec rest (pre ++ [o']) hr'
    refine ⟨by simp [h1], fun i o ho => ?_⟩
    cases i with
    | zero =>
      simp at ho
      subst ho
      exact ⟨i', by simp, by simpa using hi, by simpa using hb⟩
    | succ i =>
      simp at ho
      obtain ⟨io, h3, h4, h5⟩ := h2 i o ho
      exact ⟨io, by simpa using h3, by simpa using h4, by simpa using h5⟩

/-- What is done. -/
def doneOf (ops : Array Oper) (listed : Array Bool) : List (Option Nat) := (List.range ops.size).map fun k => if listed.getD k true then (ops[k]?).bind (·.dst) else none

theorem doneOf_get (ops : Array Oper) (listed : Array Bool) (k : Nat) (hk : k < ops.size) : (doneOf ops listed)[k]? = some (if listed.getD k true then (ops[k]?).bind (·.dst) else none) := by
  simp [doneOf, hk]

theorem doneOf_lt {ops : Array Oper} {listed : Array Bool} {k : Nat} {x : Option Nat} (h : (doneOf ops listed)[k]? = some x) : k < ops.size := by
  have := (List.getElem?_eq_some_iff.1 h).1
  simpa [doneOf] using this

theorem listed_set {listed : Array Bool} {i k : Nat} (hi : i < listed.size) : (listed.setIfInBounds i true).getD k true = (if k = i then true else listed.getD k true) := by
  simp only [Array.getD_eq_getD_getElem?, Array.getElem?_setIfInBounds]
  by_cases h : k = i
  · subst h; simp [hi]
  · rw [if_neg (fun h' : i = k => h h'.symm), if_neg h]

theorem doneOf_set {ops : Array Oper} {listed : Array Bool} {i : Nat} (hi : i < ops.size) (hs : listed.size = ops.size) : doneOf ops (listed.setIfInBounds i true) = (doneOf ops listed).set i ((ops[i]?).bind (·.dst)) := by
  refine List.ext_getElem? fun k => ?_
  by_cases hk : k < ops.size
  · rw [doneOf_get _ _ _ hk, listed_set (by omega), List.getElem?_set]
    by_cases h : k = i
    · subst h; simp [doneOf, hk]
    · rw [if_neg h, if_neg (fun h' : i = k => h h'.symm), doneOf_get _ _ _ hk]
  · rw [List.getElem?_eq_none (by simp [doneOf]; omega), List.getElem?_eq_none (by simp [doneOf]; omega)]

section
variable {P : Program} {W : Base} {w : World} {S0 S : Nat → Nat → Prop} {β : BMap} {φ : FMap} {a : Act} {o : Oper} {σ : St} {nt : Nat} {vm bm : List Nat}

theorem stepAt_undef {C : FuncId → List T → Option T} {σ σ1 : St} {e : Ent} (h : stepAt C σ e = some σ1) {k : Nat} (hk : k ≠ e.1) (hu : σ.rs.getD k .undef = .undef) : σ1.rs.getD k .undef = .undef := by
  simp only [stepAt] at h
  obtain ⟨go, _, h⟩ := Option.bind_eq_some_iff.1 h
  rw [List.getD_eq_getElem?_getD] at hu ⊢
  cases go with
  | false =>
    simp only [Bool.false_eq_true, if_false, Option.some.injEq] at h
    subst h
    simp only [List.getElem?_set, if_neg (fun h' : e.1 = k => hk h'.symm)]
    exact hu
  | true =>
    simp only [if_true] at h
    obtain ⟨⟨t, σ2⟩, h1, h⟩ := Option.bind_eq_some_iff.1 h
    simp only [Option.some.injEq] at h
    subst h
    obtain ⟨F, bx, hF, rfl, _, _⟩ := runOp_any h1
    simp only [List.getElem?_set, if_neg (fun h' : e.1 = k => hk h'.symm), List.getElem?_map]
    cases hc : σ.rs[k]? with
    | none => rfl
    | some u =>
      rw [hc] at hu
      simp only [Option.getD_some] at hu
      subst hu
      simp [hF.undef]

theorem any_sound {C : FuncId → List T → Option T} (hC : ∀ f args r, C f args = some r → Sound P f args r) {iom : FuncId → Nat} (hnb : 2 * bm.length ≤ W.nb) {rn : Option Nat} {m : Nat} {ops : Array Oper} {il : List (Option (Nat × Bool) × IOp)} {σ' : St} {Q : Exit → Act → World → Prop}
    (hl : lowOps P iom nt vm bm [] ops.toList = some il) (hok : drawOk vm ops il = true) {D0 : List Deferred} (hQ : ∀ S' β' φ' a' w', RegRel P W S0 S' β' φ' nt vm (ops.toList.map (·.dst)) σ' a' w' → a'.defers = D0 → Q .normal a' w') :
    ∀ (n : Nat) (listed : Array Bool) (S : Nat → Nat → Prop) (β : BMap) (φ : FMap) (σ : St) (a : Act) (w : World), a.defers = D0 → listed.size = ops.size → ((entsFrom 0 il).filter fun e => !listed.getD e.1 true).length = n →
      (∀ k, k < ops.size → listed.getD k true = true → ∀ j ∈ (ahead ops).getD k [], j < ops.size ∧ listed.getD j true = true) →
      RegRel P W S0 S β φ nt vm (doneOf ops listed) σ a w → (∀ k, k < ops.size → listed.getD k true = false → σ.rs.getD k .undef = .undef) →
      runAt C ((entsFrom 0 il).filter fun e => !listed.getD e.1 true) σ = some σ' → wpAnyIn (wd rn) m P .any ops Q n listed a w := by
  simp only [drawOk, Bool.and_eq_true] at hok
  obtain ⟨⟨htb, hpairs⟩, hvars⟩ := hok
  generalize ahead ops = tb at htb hpairs hvars
  simp only [tbOk, List.all_eq_true, List.mem_range, Bool.and_eq_true, decide_eq_true_eq, Bool.or_eq_true, List.any_eq_true, List.contains_iff_mem] at htb
  obtain ⟨hlen, hspec⟩ := lowOps_spec (P := P) (iom := iom) (nt := nt) (vm := vm) (bm := bm) ops.toList [] (by simpa using hl)
  simp only [List.nil_append, Array.length_toList] at hlen hspec
  -- every operation has its entry
  have hent : ∀ i, i < ops.size → ∃ o io, ops[i]? = some o ∧ (i, o.guard, io) ∈ entsFrom 0 il ∧ lowOp P iom vm bm ((ops.toList.take i).map (·.dst)) o = some io ∧ operBad nt ((ops.toList.take i).map (·.dst)) o = false := by
    intro i hi
    obtain ⟨io, h1, h2, h3⟩ := hspec i ops[i] (by simp [hi])
    exact ⟨ops[i], io, by simp [hi], (mem_entsFrom il 0 i _ io).2 ⟨by omega, by simpa using h1⟩, h2, h3⟩
  have hready : ∀ (listed : Array Bool), Region.ready .any ops listed = [] → listed.size = ops.size → ∀ i, i < ops.size → listed.getD i true = true := by
    intro listed hr hsz i
    induction i using Nat.strongRecOn with
    | _ i ih =>
      intro hi
      cases hli : listed.getD i true with
      | true => rfl
      | false =>
        exfalso
        obtain ⟨o, io, ho, _⟩ := hent i hi
        have hmem : i ∈ Region.ready .any ops listed := by
          simp only [Region.ready, List.mem_filter, List.mem_range, hi, true_and, hli, ho, Option.map_some, Option.getD_some, Bool.not_false, Bool.true_and, Array.all_eq_true', Bool.or_eq_true, Bool.not_eq_true']
          intro e he
          cases hb : Region.binds .any e with
          | false => exact .inl rfl
          | true =>
            refine .inr ?_
            have hd : e.on ∈ direct ops i := by
              simp only [direct, ho, List.mem_map, List.mem_filter]
              exact ⟨e, ⟨by simpa using he, hb⟩, rfl⟩
            have hlt := (htb i hi).1 e.on hd
            have := ih e.on hlt (by omega)
            rw [Array.getD_eq_getD_getElem?] at this ⊢
            rw [Array.getElem?_eq_getElem (by omega)] at this ⊢
            exact this
        rw [hr] at hmem
        cases hmem
  intro n
  induction n with
  | zero =>
    intro listed S β φ σ a w ha0 hsz hn hdown hR hU hrun
    have hnil : (entsFrom 0 il).filter (fun e => !listed.getD e.1 true) = [] := List.length_eq_zero_iff.1 hn
    have hall : ∀ i, i < ops.size → listed.getD i true = true := by
      intro i hi
      obtain ⟨o, io, _, hm, _⟩ := hent i hi
      rw [List.filter_eq_nil_iff] at hnil
      have := hnil _ hm
      simpa using this
    rw [hnil] at hrun
    simp only [runAt, Option.some.injEq] at hrun
    subst hrun
    refine ⟨?_, hQ _ _ _ _ _ (?_ : RegRel P W S0 S β φ nt vm (ops.toList.map (·.dst)) σ a w) ha0⟩
    · rw [Region.ready, List.filter_eq_nil_iff]
      intro i hi
      simp [hall i (by simpa using hi)]
    · have : doneOf ops listed = ops.toList.map (·.dst) := by
        refine List.ext_getElem? fun k => ?_
        by_cases hk : k < ops.size
        · rw [doneOf_get _ _ _ hk, hall k hk]; simp [hk]
        · rw [List.getElem?_eq_none (by simp [doneOf]; omega), List.getElem?_eq_none (by simp; omega)]
      rw [← this]; exact hR
  | succ n ih =>
    intro listed S β φ σ a w ha0 hsz hn hdown hR hU hrun
    refine ⟨fun hr => ?_, fun i hi => ?_⟩
    · exfalso
      have hall := hready listed hr hsz
      have : (entsFrom 0 il).filter (fun e => !listed.getD e.1 true) = [] := by
        rw [List.filter_eq_nil_iff]
        intro e he
        have := ((mem_entsFrom il 0 e.1 e.2.1 e.2.2).1 he).2
        have hlt := (List.getElem?_eq_some_iff.1 this).1
        simp [hall e.1 (by omega)]
      rw [this] at hn
      simp at hn
    · simp only [Region.ready, List.mem_filter, List.mem_range, Bool.and_eq_true, Bool.not_eq_true'] at hi
      obtain ⟨hi, hli, hafter⟩ := hi
      obtain ⟨o, io, ho, hm, hlow, hbad⟩ := hent i hi
      simp only [ho, Option.map_some, Option.getD_some, Array.all_eq_true', Bool.or_eq_true, Bool.not_eq_true'] at hafter
      have hdir : ∀ k ∈ direct ops i, k < ops.size ∧ listed.getD k true = true := by
        intro k hk
        have hlt := (htb i hi).1 k hk
        simp only [direct, ho, List.mem_map, List.mem_filter] at hk
        obtain ⟨e, ⟨he, hb⟩, rfl⟩ := hk
        refine ⟨by omega, ?_⟩
        have := hafter e (by simpa using he)
        rcases this with h | h
        · rw [h] at hb; cases hb
        · rw [Array.getD_eq_getD_getElem?] at h ⊢
          rw [Array.getElem?_eq_getElem (by omega)] at h ⊢
          exact h
      have hanc : ∀ j ∈ tb.getD i [], j < ops.size ∧ listed.getD j true = true := by
        intro j hj
        rcases (htb i hi).2 j hj with h | ⟨k, hk, hjk⟩
        · exact hdir j h
        · exact hdown k (hdir k hk).1 (hdir k hk).2 j hjk
      obtain ⟨l1, l2, hsplit, hl1, hl2⟩ := ents_split il 0 i o.guard io hm
      have hf : (entsFrom 0 il).filter (fun e => !listed.getD e.1 true) = l1.filter (fun e => !listed.getD e.1 true) ++ (i, o.guard, io) :: l2.filter (fun e => !listed.getD e.1 true) := by
        rw [hsplit, List.filter_append, List.filter_cons_of_pos (by simp [hli])]
      have hf' : (entsFrom 0 il).filter (fun e => !(listed.setIfInBounds i true).getD e.1 true) = l1.filter (fun e => !listed.getD e.1 true) ++ l2.filter (fun e => !listed.getD e.1 true) := by
        rw [hsplit, List.filter_append, List.filter_cons_of_neg (by rw [listed_set (by omega)]; simp)]
        congr 1
        · refine List.filter_congr fun e he => ?_
          rw [listed_set (by omega), if_neg (by have := hl1 e he; omega)]
        · refine List.filter_congr fun e he => ?_
          rw [listed_set (by omega), if_neg (by have := hl2 e he; omega)]
      rw [hf] at hrun hn
      obtain ⟨σ1, hs1, hrun1⟩ := front _ σ (fun e he => by
        simp only [List.mem_filter, Bool.not_eq_true'] at he
        have hmem : e ∈ entsFrom 0 il := by rw [hsplit]; simp [he.1]
        simp only [pairsOk, List.all_eq_true, Bool.or_eq_true, Bool.not_eq_true', decide_eq_false_iff_not, List.contains_iff_mem] at hpairs
        rcases hpairs _ hm e hmem with (h | h) | h
        · exact absurd (hl1 e he.1) h
        · have := (hanc e.1 h).2
          rw [he.2] at this
          cases this
        · exact h) hrun
      have hdn : ∀ s, o.dst = some s → some s ∉ doneOf ops listed ∧ s < nt := by
        intro s hs
        -- a slot is written once
        have hb : ∀ j o', ops[j]? = some o' → operBad nt ((ops.toList.take j).map (·.dst)) o' = false := fun j o' ho' => by
          have hj : j < ops.size := (Array.getElem?_eq_some_iff.1 ho').1
          obtain ⟨o2, _, ho2, _, _, hb⟩ := hent j hj
          rw [ho'] at ho2
          simp only [Option.some.injEq] at ho2
          subst ho2
          exact hb
        have hbs : ∀ j o', ops[j]? = some o' → o'.dst = some s → some s ∉ (ops.toList.take j).map (·.dst) ∧ s < nt := by
          intro j o' ho' hs'
          have := hb j o' ho'
          simp only [operBad, hs', Bool.or_eq_false_iff, Bool.not_eq_false', decide_eq_true_eq] at this
          refine ⟨fun hm => ?_, this.1.2⟩
          have h2 := this.1.1
          rw [List.contains_iff_mem.2 hm] at h2
          cases h2
        refine ⟨fun hm => ?_, (hbs i o ho hs).2⟩
        obtain ⟨k, hk⟩ := List.mem_iff_getElem?.1 hm
        have hklt := doneOf_lt hk
        rw [doneOf_get _ _ _ hklt] at hk
        simp only [Option.some.injEq] at hk
        split at hk <;> try (cases hk; done)
        rename_i hkl
        have hki : k ≠ i := fun h => by subst h; rw [hli] at hkl; cases hkl
        obtain ⟨ok, hok, hokd⟩ := Option.bind_eq_some_iff.1 hk
        have take : ∀ p q op, p < q → ops[p]? = some op → op.dst = some s → some s ∈ (ops.toList.take q).map (·.dst) := by
          intro p q op hpq hop hos
          refine List.mem_map.2 ⟨op, List.mem_of_getElem? (i := p) ?_, hos⟩
          rw [List.getElem?_take, if_pos hpq]
          simpa using hop
        rcases Nat.lt_or_gt_of_ne hki with h | h
        · exact (hbs i o ho hs).1 (take k i ok h hok hokd)
        · exact (hbs k ok hok hokd).1 (take i k o h ho hs)
      refine step_sound hC hnb hR ho hlow (fun k s hk => ?_) (fun j s hj => ?_) (fun v s hx hv hmem => ?_) (by rw [doneOf_get _ _ _ hi, hli]; rfl) hdn (fun j b hg => ?_) hs1 fun S' β' φ' a' w' hR' ha' => ?_
      · rw [List.getElem?_map, Option.map_eq_some_iff] at hk
        obtain ⟨q, hq, hqs⟩ := hk
        rw [List.getElem?_take] at hq
        split at hq <;> try (cases hq; done)
        rename_i hki
        have hklt : k < ops.size := by omega
        have hq' : ops[k]? = some q := by simpa using hq
        cases hlk : listed.getD k true with
        | true => exact .inl (by rw [doneOf_get _ _ _ hklt, hlk, hq']; simp [hqs])
        | false => exact .inr (hU k hklt hlk)
      · have hjlt := doneOf_lt hj
        rw [doneOf_get _ _ _ hjlt] at hj
        simp only [Option.some.injEq] at hj
        split at hj
        · exact hj
        · cases hj
      · obtain ⟨k, hk⟩ := List.mem_iff_getElem?.1 hmem
        have hklt := doneOf_lt hk
        rw [doneOf_get _ _ _ hklt] at hk
        simp only [Option.some.injEq] at hk
        split at hk <;> try (cases hk; done)
        rename_i hkl
        have hki : k ≠ i := fun h => by subst h; rw [hli] at hkl; cases hkl
        simp only [varsOk, List.all_eq_true] at hvars
        have := hvars _ hm _ hx
        simp only [hv, List.all_eq_true, List.mem_range, Bool.or_eq_true, beq_iff_eq, bne_iff_ne, ne_eq, List.contains_iff_mem] at this
        rcases this k hklt with (h | h) | h
        · exact hki h
        · exact h hk
        · have := (hdown k hklt hkl i h).2
          rw [hli] at this
          cases this
      · -- the guard
        simp only [operBad, hg, Bool.or_eq_false_iff, Bool.not_eq_false'] at hbad
        have h2 := hbad.2
        have hji : j < i := by
          by_cases h : j < i
          · exact h
          · rw [List.getElem?_eq_none (by simp; omega)] at h2
            simp at h2
        have hjlt : j < ops.size := by omega
        obtain ⟨oj, ioj, hoj, hmj, _, _⟩ := hent j hjlt
        have hjl : listed.getD j true = true := by
          simp only [pairsOk, List.all_eq_true, Bool.or_eq_true, Bool.not_eq_true', decide_eq_false_iff_not, List.contains_iff_mem] at hpairs
          rcases hpairs _ hm _ hmj with (h | h) | h
          · exact absurd hji h
          · exact (hanc j h).2
          · exfalso
            have h3 := swapOk_looks h
            simp [Ent.looks, hg] at h3
        rw [doneOf_get _ _ _ hjlt, hjl, hoj]
        simp only [if_true, Option.bind_some, Option.join_some]
        rw [List.getElem?_map, List.getElem?_take, if_pos hji] at h2
        have hoj' : ops.toList[j]? = some oj := by simpa using hoj
        rw [hoj'] at h2
        simpa using h2
      · refine ih (listed.setIfInBounds i true) S' β' φ' σ1 a' w' (ha'.trans ha0) (by simp [hsz]) ?_ ?_ ?_ ?_ ?_
        · rw [hf']
          simp only [List.length_append, List.length_cons] at hn ⊢
          omega
        · intro k hk hkl j hj
          rw [listed_set (by omega)] at hkl
          rw [listed_set (by omega)]
          by_cases hki : k = i
          · subst hki
            have := hanc j hj
            refine ⟨this.1, ?_⟩
            rw [this.2]; simp
          · rw [if_neg hki] at hkl
            have := hdown k hk hkl j hj
            refine ⟨this.1, ?_⟩
            rw [this.2]; simp
        · rw [doneOf_set hi hsz, ho]; exact hR'
        · intro k hk hkl
          rw [listed_set (by omega)] at hkl
          split at hkl
          · cases hkl
          · rename_i hki
            exact stepAt_undef hs1 hki (hU k hk hkl)
        · rw [hf']; exact hrun1

theorem drawSound (hm : P.follows .mixedOrders = true) : DrawSound P drawOk := by
  intro C iom W w S0 S β φ nt vm bm id ops il σ σ' a Q rn m hC hnb hok hR hl hr hQ
  refine wpIn_region_any hm ?_
  have hb : Below w.heap.size w { w with drawn := w.drawn + 1 } := ⟨rfl, rfl, rfl, Nat.le_refl _, fun _ _ => rfl⟩
  have hR := hR.grow hb
  have hrs : σ.rs = [] := List.length_eq_zero_iff.1 (by simpa using hR.rlen)
  have hrun := runOps_runAt il σ hr
  obtain ⟨hlen, _⟩ := lowOps_spec (P := P) (iom := iom) (nt := nt) (vm := vm) (bm := bm) ops.toList [] (by simpa using hl)
  simp only [Array.length_toList] at hlen
  rw [hrs, hlen] at hrun
  simp only [List.length_nil, List.nil_append] at hrun
  have hfalse : ∀ k, k < ops.size → (Array.replicate ops.size false).getD k true = false := fun k hk => by simp [Array.getD_eq_getD_getElem?, hk]
  have hfilt : (entsFrom 0 il).filter (fun e => !(Array.replicate ops.size false).getD e.1 true) = entsFrom 0 il := by
    rw [List.filter_eq_self]
    intro e he
    have := ((mem_entsFrom il 0 e.1 e.2.1 e.2.2).1 he).2
    have hlt := (List.getElem?_eq_some_iff.1 this).1
    rw [hfalse e.1 (by omega)]; rfl
  have hel : ∀ (l : List (Option (Nat × Bool) × IOp)) k, (entsFrom k l).length = l.length := by
    intro l
    induction l with
    | nil => intro k; rfl
    | cons x l ih => intro k; obtain ⟨g, o⟩ := x; simp [entsFrom, ih]
  refine any_sound hC hnb hl hok hQ ops.size (Array.replicate ops.size false) S β φ { σ with rs := List.replicate ops.size .undef } a _ rfl (by simp) (by rw [hfilt, hel, hlen]) (fun k hk h => ?_) ?_ (fun k hk _ => ?_) (by rw [hfilt]; exact hrun)
  · rw [hfalse k hk] at h; cases h
  · have hnone : ∀ (k : Nat) (x : Option Nat), (doneOf ops (Array.replicate ops.size false))[k]? = some x → x = none := by
      intro k x hk
      have hlt := doneOf_lt hk
      rw [doneOf_get _ _ _ hlt, hfalse k hlt] at hk
      simpa using hk.symm
    refine ⟨hR.inv, hR.nd, hR.size, hR.vlen, by simp [doneOf], fun v s u hv _ hu => hR.vars v s u hv (by simp) hu, fun j s u hj => ?_, fun j j' s hj => ?_⟩
    · cases hnone j _ hj
    · cases hnone j _ hj
  · simp [List.getD_eq_getElem?_getD, hk]
end
end Go.Vi
end
section
/-
  A VERIFIED INTERPRETER (part 24): functions that are ranged over: what they yield does not hang on the loop.
-/
set_option linter.unusedSimpArgs false
set_option linter.unusedVariables false
namespace Go.Vi
open Go Go.RowKit

/-- Another loop's. -/
def thY (l' : Nat) (t : T) : T := if isY t then yT l' else t
def St.thY (l' : Nat) (σ : St) : St := ⟨σ.rs.map (Vi.thY l'), σ.vars.map (Vi.thY l'), σ.boxes⟩
def Out.thY (l' : Nat) : Out → Out
  | .norm σ => .norm (σ.thY l')
  | .exit j σ => .exit j (σ.thY l')
  | .ret σ => .ret (σ.thY l')

theorem isY_v {t : T} (h : isY t = true) : ∃ l a b, t = .v (.func (.yield l) a b) := by
  unfold isY at h
  split at h
  · exact ⟨_, _, _, rfl⟩
  · cases h

theorem thY_not {l' : Nat} {t : T} (h : isY t = false) : thY l' t = t := by unfold thY; rw [h]; rfl
theorem thY_yes {l' : Nat} {t : T} (h : isY t = true) : thY l' t = yT l' := by unfold thY; rw [h]; rfl

theorem tame_thY {F : T → T} (hF : Tame F) (l' : Nat) (t : T) : F (thY l' t) = thY l' (F t) := by
  cases h : isY t with
  | true =>
    obtain ⟨l, a, b, rfl⟩ := isY_v h
    rw [thY_yes h, hF.v, thY_yes h]
    exact hF.v _
  | false =>
    rw [thY_not h, thY_not]
    cases h2 : isY (F t) with
    | false => rfl
    | true =>
      obtain ⟨l, a, b, h3⟩ := isY_v h2
      have := hF.inv _ _ h3
      rw [this] at h
      cases h

theorem getD_thY (l' : Nat) (ts : List T) (i : Nat) : (ts.map (thY l')).getD i .undef = thY l' (ts.getD i .undef) := by
  simp only [List.getD_eq_getElem?_getD, List.getElem?_map]
  cases ts[i]? <;> rfl

theorem get_thY {l' : Nat} {σ : St} {x : Opd} (h : isY (x.get σ) = false) : x.get (σ.thY l') = x.get σ := by
  cases x with
  | c t => rfl
  | r i => simp only [Opd.get, St.thY, getD_thY] at h ⊢; exact thY_not h
  | x i => simp only [Opd.get, St.thY, getD_thY] at h ⊢; exact thY_not h

theorem get_thY' {l' : Nat} {σ : St} {x : Opd} (h : ∀ t, x ≠ .c t) : x.get (σ.thY l') = thY l' (x.get σ) := by
  cases x with
  | c t => exact absurd rfl (h t)
  | r i => simp only [Opd.get, St.thY, getD_thY]
  | x i => simp only [Opd.get, St.thY, getD_thY]

theorem noRefL_thY0 (s l' : Nat) (ts : List T) : noRefL s (ts.map (thY l')) = noRefL s ts := by
  induction ts with
  | nil => rfl
  | cons t ts ih =>
    simp only [List.map_cons, noRefL, ih]
    cases h : isY t with
    | true =>
      obtain ⟨l, a, b, rfl⟩ := isY_v h
      rw [thY_yes h]; rfl
    | false => rw [thY_not h]

theorem plainY_par {C : FuncId → List T → Option T} {σ : St} {o : IOp} {p : T × St × List (List T)} (l' : Nat) (h : plainY C σ o = some p) : plainY C (σ.thY l') o = some (thY l' p.1, p.2.1.thY l', p.2.2) ∧ p.2.2 = [] ∧ runOp C σ o = some (p.1, p.2.1) := by
  unfold plainY at h
  split at h <;> try (cases h; done)
  rename_i hr
  obtain ⟨⟨t, σ1⟩, h1, h⟩ := Option.bind_eq_some_iff.1 h
  split at h <;> try (cases h; done)
  rename_i hy
  simp only [Option.some.injEq] at h
  subst h
  simp only [List.all_eq_true, Bool.not_eq_true'] at hr
  obtain ⟨F, bx, hF, rfl, hask, he⟩ := runOp_any h1
  have h2 : runOp C (σ.thY l') o = some (t, ⟨(σ.rs.map (thY l')).map F, (σ.vars.map (thY l')).map F, bx⟩) := he _ _ (fun x hx => get_thY (hr x hx)) fun s hs => by
    have := hask s hs
    simp only [St.noRef, Bool.and_eq_true] at this
    rw [noRefL_thY0, noRefL_thY0]; exact this.1
  have h3 : (⟨(σ.rs.map (thY l')).map F, (σ.vars.map (thY l')).map F, bx⟩ : St) = St.thY l' ⟨σ.rs.map F, σ.vars.map F, bx⟩ := by
    simp only [St.thY, List.map_map, St.mk.injEq, and_true]
    exact ⟨List.map_congr_left fun t _ => tame_thY hF l' t, List.map_congr_left fun t _ => tame_thY hF l' t⟩
  refine ⟨?_, rfl, h1⟩
  unfold plainY
  rw [if_pos (by simp only [List.all_eq_true, Bool.not_eq_true']; intro x hx; rw [get_thY (hr x hx)]; exact hr x hx), h2]
  simp only [Option.bind_some]
  rw [if_neg hy, h3, thY_not (by simpa using hy)]

theorem opY_par {C : FuncId → List T → Option T} {l : Nat} {σ : St} {o : IOp} {p : T × St × List (List T)} (l' : Nat) (h : opY C l σ o = some p) : opY C l' (σ.thY l') o = some (thY l' p.1, p.2.1.thY l', p.2.2) := by
  unfold opY at h
  split at h
  · rename_i d f as
    split at h
    · rename_i hy
      split at h <;> try (cases h; done)
      rename_i hnc
      have hg : f.get (σ.thY l') = yT l' := by rw [get_thY' hnc, thY_yes hy]
      unfold yieldY at h
      split at h <;> try (cases h; done)
      split at h <;> try (cases h; done)
      rename_i hck
      obtain ⟨_, _, _, hs, hn⟩ := hck
      simp only [Option.some.injEq] at h
      subst h
      have has : as.map (Opd.get (σ.thY l')) = as.map (Opd.get σ) := List.map_congr_left fun x hx => by
        simp only [List.all_eq_true, List.mem_map, forall_exists_index, and_imp, forall_apply_eq_imp_iff₂, Bool.not_eq_true'] at hn
        exact get_thY (hn x hx)
      unfold opY
      simp only
      rw [hg, if_pos (show isY (yT l') = true from rfl), has]
      unfold yieldY yT
      simp only
      rw [if_pos ⟨trivial, rfl, rfl, hs, hn⟩]
      rfl
    · rename_i hy
      have := plainY_par l' h
      unfold opY
      simp only
      rw [get_thY (by simpa using hy), if_neg hy]
      exact this.1
  · rename_i t
    split at h <;> try (cases h; done)
    rename_i hy
    simp only [Option.some.injEq] at h
    subst h
    show (if isY t = true then none else some (t, σ.thY l', [])) = _
    rw [if_neg hy, thY_not (by simpa using hy)]
  · rename_i a hnc
    simp only [Option.some.injEq] at h
    subst h
    unfold opY
    split
    · rename_i h1; cases h1
    · rename_i h1; cases h1; exact absurd rfl (hnc _)
    · rename_i h1 h2; cases h2
      rw [get_thY' fun t ht => hnc t (by rw [ht])]
    · rename_i h1 h2 h3; exact absurd rfl (h3 a)
  · rename_i h1 h2 h3
    have := plainY_par l' h
    unfold opY
    split
    · exact absurd rfl (h1 _ _ _)
    · exact absurd rfl (h2 _)
    · exact absurd rfl (h3 _)
    · exact this.1

theorem wantedT_thY (l' : Nat) (rs : List T) (g : Option (Nat × Bool)) : wantedT (rs.map (thY l')) g = wantedT rs g := by
  cases g with
  | none => rfl
  | some q =>
    obtain ⟨j, b⟩ := q
    simp only [wantedT, List.getElem?_map]
    cases rs[j]? with
    | none => rfl
    | some t =>
      simp only [Option.map_some]
      cases h : isY t with
      | true =>
        obtain ⟨l, a, b', rfl⟩ := isY_v h
        rw [thY_yes h]; rfl
      | false => rw [thY_not h]

theorem opsY_par {C : FuncId → List T → Option T} {l : Nat} (l' : Nat) : ∀ (il : List (Option (Nat × Bool) × IOp)) (σ : St) (q : St × List (List T)), opsY C l σ il = some q → opsY C l' (σ.thY l') il = some (q.1.thY l', q.2)
  | [], σ, q, h => by
    simp only [opsY, Option.some.injEq] at h ⊢
    subst h; rfl
  | (g, o) :: il, σ, q, h => by
    simp only [opsY] at h ⊢
    obtain ⟨go, hg, h⟩ := Option.bind_eq_some_iff.1 h
    rw [show (σ.thY l').rs = σ.rs.map (thY l') from rfl, wantedT_thY, hg]
    simp only [Option.bind_some]
    cases go with
    | true =>
      simp only [if_true] at h ⊢
      obtain ⟨p, hp, h⟩ := Option.bind_eq_some_iff.1 h
      obtain ⟨q', hq, rfl⟩ := Option.map_eq_some_iff.1 h
      have h2 := opsY_par l' il _ _ hq
      rw [opY_par l' hp]
      simp only [Option.bind_some]
      have e : ({ p.2.1.thY l' with rs := (p.2.1.thY l').rs ++ [thY l' p.1] } : St) = St.thY l' { p.2.1 with rs := p.2.1.rs ++ [p.1] } := by simp [St.thY]
      rw [e, h2]
      rfl
    | false =>
      simp only [Bool.false_eq_true, if_false] at h ⊢
      have h2 := opsY_par l' il _ _ h
      have e : ({ σ.thY l' with rs := σ.rs.map (thY l') ++ [T.skipped] } : St) = St.thY l' { σ with rs := σ.rs ++ [T.skipped] } := by simp [St.thY, Vi.thY, isY, T.skipped, Go.undef]
      rw [e, h2]

theorem thY_undef (l' : Nat) : thY l' .undef = .undef := rfl

theorem noRefL_thY (s l' : Nat) (ts : List T) : noRefL s (ts.map (thY l')) = noRefL s ts := by
  induction ts with
  | nil => rfl
  | cons t ts ih =>
    simp only [List.map_cons, noRefL, ih]
    cases h : isY t with
    | true =>
      obtain ⟨l, a, b, rfl⟩ := isY_v h
      rw [thY_yes h]; rfl
    | false => rw [thY_not h]

theorem freeBoxes_thY (l' : Nat) : ∀ (ss : List Nat) (σ σ' : St), freeBoxes ss σ = some σ' → freeBoxes ss (σ.thY l') = some (σ'.thY l')
  | [], σ, σ', h => by
    simp only [freeBoxes, Option.some.injEq] at h ⊢
    subst h; rfl
  | s :: ss, σ, σ', h => by
    simp only [freeBoxes] at h ⊢
    split at h <;> try (cases h; done)
    rename_i hn
    have e : (σ.thY l').noRef s = σ.noRef s := by simp only [St.noRef, St.thY, noRefL_thY]
    rw [e, if_pos hn]
    exact freeBoxes_thY l' ss _ _ h

theorem killVars_thY (l' : Nat) : ∀ (vs : List Nat) (vars : List T), killVars vs (vars.map (thY l')) = (killVars vs vars).map (thY l')
  | [], _ => rfl
  | v :: vs, vars => by
    simp only [killVars]
    rw [← killVars_thY l' vs, List.map_set, thY_undef]

theorem outsOf_thY (l' : Nat) (rs vars : List T) (outs : List (Option Nat)) : outsOf (rs.map (thY l')) (vars.map (thY l')) outs = (outsOf rs vars outs).map (thY l') := by
  unfold outsOf
  rw [List.zipWith_map_left, List.map_zipWith]
  congr 1
  funext t o
  cases o with
  | none => rfl
  | some j => exact getD_thY l' rs j

theorem cond_thY (l' : Nat) (σ : St) (c : Opd) (t : Bool) (h : c.get σ = .v (.bool t)) : c.get (σ.thY l') = .v (.bool t) := by
  rw [get_thY (by rw [h]; rfl), h]

theorem loopY_par {f f' : St → Option (Out × List (List T))} {l' : Nat} (hf : ∀ σ q, f σ = some q → f' (σ.thY l') = some (q.1.thY l', q.2)) : ∀ (n : Nat) (σ : St) (q : Out × List (List T)), loopY f n σ = some q → loopY f' n (σ.thY l') = some (q.1.thY l', q.2)
  | 0, σ, q, h => by simp [loopY] at h
  | n + 1, σ, q, h => by
    simp only [loopY] at h ⊢
    split at h
    · rename_i σ' ys h1
      obtain ⟨q', hq, rfl⟩ := Option.map_eq_some_iff.1 h
      rw [hf _ _ h1]
      simp only [Out.thY, loopY_par hf n _ _ hq, Option.map_some]
    · rename_i hne
      rw [hf _ _ h]
      obtain ⟨o, ys⟩ := q
      cases o with
      | norm σ' => exact absurd h (hne σ' ys)
      | exit j σ' => rfl
      | ret σ' => rfl

theorem execY_par {C : FuncId → List T → Option T} {l N : Nat} (l' : Nat) : ∀ (ic : IC) (σ : St) (q : Out × List (List T)), execY C l N ic σ = some q → execY C l' N ic (σ.thY l') = some (q.1.thY l', q.2) := by
  intro ic
  induction ic with
  | skip => intro σ q h; simp only [execY, Option.some.injEq] at h ⊢; subst h; rfl
  | reg r =>
    intro σ q h
    simp only [execY] at h ⊢
    obtain ⟨q', hq, h⟩ := Option.bind_eq_some_iff.1 h
    split at h <;> try (cases h; done)
    rename_i hdr
    simp only [Option.some.injEq] at h
    subst h
    have := opsY_par l' _ _ _ hq
    have e : ({ σ.thY l' with rs := [] } : St) = St.thY l' { σ with rs := [] } := rfl
    rw [e, this]
    simp only [Option.bind_some]
    rw [if_neg hdr]
    simp only [Out.thY, St.thY, outsOf_thY, List.map_nil]
  | seq a b iha ihb =>
    intro σ q h
    simp only [execY] at h ⊢
    split at h
    · rename_i σ' ys h1
      obtain ⟨q', hq, rfl⟩ := Option.map_eq_some_iff.1 h
      rw [iha _ _ h1]
      simp only [Out.thY, ihb _ _ hq, Option.map_some]
    · rename_i hne
      rw [iha _ _ h]
      obtain ⟨o, ys⟩ := q
      cases o with
      | norm σ' => exact absurd h (hne σ' ys)
      | exit j σ' => rfl
      | ret σ' => rfl
  | cond c a b iha ihb =>
    intro σ q h
    simp only [execY] at h ⊢
    split at h <;> try (cases h; done)
    rename_i t ht
    rw [cond_thY l' σ c t ht]
    cases t with
    | true => exact iha _ _ (by simpa using h)
    | false => exact ihb _ _ (by simpa using h)
  | block id a iha =>
    intro σ q h
    simp only [execY] at h ⊢
    split at h
    · rename_i j σ' ys h1
      rw [iha _ _ h1]
      simp only [Out.thY]
      split at h
      · rename_i hj; rw [if_pos hj]; simp only [Option.some.injEq] at h ⊢; subst h; rfl
      · rename_i hj; rw [if_neg hj]; simp only [Option.some.injEq] at h ⊢; subst h; rfl
    · rename_i hne
      rw [iha _ _ h]
      obtain ⟨o, ys⟩ := q
      cases o with
      | norm σ' => rfl
      | exit j σ' => exact absurd h (hne j σ' ys)
      | ret σ' => rfl
  | loop a iha =>
    intro σ q h
    simp only [execY] at h ⊢
    exact loopY_par iha N σ q h
  | nojump a iha =>
    intro σ q h
    simp only [execY] at h ⊢
    split at h
    · rename_i j σ' ys h1
      rw [iha _ _ h1]
      simp only [Out.thY]
      split at h <;> try (cases h; done)
      rename_i hj; rw [if_pos hj]; simp only [Option.some.injEq] at h ⊢; subst h; rfl
    · rename_i hne
      rw [iha _ _ h]
      obtain ⟨o, ys⟩ := q
      cases o with
      | norm σ' => rfl
      | exit j σ' => exact absurd h (hne j σ' ys)
      | ret σ' => rfl
  | exit id => intro σ q h; simp only [execY, Option.some.injEq] at h ⊢; subst h; rfl
  | ret => intro σ q h; simp only [execY, Option.some.injEq] at h ⊢; subst h; rfl
  | kill vs =>
    intro σ q h
    simp only [execY, Option.some.injEq] at h ⊢
    subst h
    simp only [Out.thY, St.thY, killVars_thY]
  | free ss =>
    intro σ q h
    simp only [execY] at h ⊢
    obtain ⟨σ', h1, rfl⟩ := Option.map_eq_some_iff.1 h
    rw [freeBoxes_thY l' _ _ _ h1]
    rfl
  | jumps id a b => intro σ q h; simp [execY] at h
  | range K g ps a b => intro σ q h; simp [execY] at h

theorem runSeq_par {C : FuncId → List T → Option T} {N l : Nat} {fn : IFn} {caps : List T} {ys : List (List T)} (h : runSeq C N l fn caps = some ys) (l' : Nat) : runSeq C N l' fn caps = some ys := by
  unfold runSeq at h ⊢
  split at h <;> try (cases h; done)
  rename_i hck
  rw [if_pos hck]
  have hcaps : caps.map (thY l') = caps := by
    conv => rhs; rw [← List.map_id caps]
    refine List.map_congr_left fun t ht => ?_
    have := List.all_eq_true.1 hck.2.1 t ht
    exact thY_not (by simpa using this)
  have key : ∀ q, execY C l N fn.body ⟨[], yT l :: caps ++ List.replicate (fn.nvars - fn.nparams) .undef, List.replicate (2 * fn.nboxes) none⟩ = some q →
      execY C l' N fn.body ⟨[], yT l' :: caps ++ List.replicate (fn.nvars - fn.nparams) .undef, List.replicate (2 * fn.nboxes) none⟩ = some (q.1.thY l', q.2) := fun q hq => by
    have := execY_par l' _ _ _ hq
    simp only [St.thY, List.map_nil, List.cons_append, List.map_cons, List.map_append, hcaps, List.map_replicate, thY_undef] at this
    exact this
  split at h <;> try (cases h; done)
  · rename_i σ ys' h1
    rw [key _ h1]
    exact h
  · rename_i σ ys' h1
    rw [key _ h1]
    exact h
end Go.Vi
end
section
/-
  A VERIFIED INTERPRETER (part 25): functions that are ranged over.
-/
set_option linter.unusedSimpArgs false
set_option linter.unusedVariables false
namespace Go.Vi
open Go Go.RowKit

section
variable {P : Program} {nt : Nat} {vm bm : List Nat} {o : Oper}

def NC (x : Option IOp) : Prop := ∀ d q ds, x ≠ some (.callv d q ds)
theorem NC.none : NC none := fun _ _ _ h => by cases h
theorem NC.some {i : IOp} (h : ∀ d q ds, i ≠ .callv d q ds) : NC (some i) := fun d q ds h' => h d q ds (Option.some.inj h')
theorem NC.bind {α : Type} {x : Option α} {f : α → Option IOp} (h : ∀ a, NC (f a)) : NC (x.bind f) := fun d q ds h' => by
  obtain ⟨a, _, h'⟩ := Option.bind_eq_some_iff.1 h'
  exact h a d q ds h'
theorem NC.map {α : Type} {x : Option α} {f : α → IOp} (h : ∀ a d q ds, f a ≠ .callv d q ds) : NC (x.map f) := fun d q ds h' => by
  obtain ⟨a, _, h'⟩ := Option.map_eq_some_iff.1 h'
  exact h a d q ds h'
theorem nc_mkOp (bm : List Nat) (d : Nat) (e : TypeId) (sz bytes : Nat) (zs : List T) (q : Opd) (d' : Nat) (q' : Opd) (ds : List Opd) : mkOp bm d e sz bytes zs q ≠ .callv d' q' ds := by
  unfold mkOp; split <;> (intro h; cases h)
theorem nc_bsOp (bm : List Nat) (d : Nat) (e : TypeId) (sz len : Nat) (zs : List T) (qs : List (Nat × Nat × Opd)) (d' : Nat) (q' : Opd) (ds : List Opd) : bsOp bm d e sz len zs qs ≠ .callv d' q' ds := by
  unfold bsOp; split <;> (intro h; cases h)
theorem nc_appOp (bm : List Nat) (d : Nat) (e : TypeId) (sz bytes : Nat) (zs : List T) (k : Nat) (x y : Opd) (d' : Nat) (q' : Opd) (ds : List Opd) : appOp bm d e sz bytes zs k x y ≠ .callv d' q' ds := by
  unfold appOp; split <;> (intro h; cases h)

theorem nc_mvOp (bm : List Nat) (dst : Option Nat) (q : Opd) (d' : Nat) (q' : Opd) (ds : List Opd) : mvOp P bm dst q ≠ .callv d' q' ds := by
  unfold mvOp; repeat' split
  all_goals (intro h; cases h)

theorem nc_lowEq (opd : Operand → Option Opd) (neg : Bool) (op : BinOp) (t : TypeId) (x y : Operand) : NC (lowEq P opd neg op t x y) := by
  unfold lowEq
  simp only [Option.bind_eq_bind]
  split <;> repeat' (first
    | exact NC.none
    | (refine NC.some fun _ _ _ => ?_; intro h; cases h; done)
    | refine NC.bind fun _ => ?_
    | split)

theorem low_callv {io : FuncId → Nat} {done : List (Option Nat)} {d : Nat} {q : Opd} {ds : List Opd} (h : lowOp P io vm bm done o = some (.callv d q ds)) : ∃ c fo, o.op = .call c ∧ c.callee = .value fo := by
  by_cases hc : ∃ c fo, o.op = .call c ∧ c.callee = .value fo
  · exact hc
  exfalso
  suffices hn : NC (lowOp P io vm bm done o) from hn _ _ _ h
  clear h
  cases ho : o.op <;> simp only [lowOp, ho, Option.bind_eq_bind]
  case call c =>
    cases hcl : c.callee with
    | value fo => exact absurd ⟨c, fo, ho, hcl⟩ hc
    | _ =>
      repeat' (first
        | exact NC.none
        | contradiction
        | exact NC.some (nc_appOp _ _ _ _ _ _ _ _ _)
        | (refine NC.some fun _ _ _ => ?_; intro h; cases h; done)
        | (refine NC.map fun _ _ _ _ => ?_; intro h; cases h; done)
        | refine NC.bind fun _ => ?_
        | split)
  all_goals
    repeat' (first
      | exact NC.none
      | contradiction
      | exact nc_lowEq _ _ _ _ _ _
      | exact NC.some (nc_mkOp _ _ _ _ _ _ _)
      | exact NC.map fun _ _ _ _ => nc_mvOp _ _ _ _ _ _
      | exact NC.some (nc_bsOp _ _ _ _ _ _ _)
      | (refine NC.some fun _ _ _ => ?_; intro h; cases h; done)
      | (refine NC.map fun _ _ _ _ => ?_; intro h; cases h; done)
      | refine NC.bind fun _ => ?_
      | split)

theorem scal_rep {S S' : Nat → Nat → Prop} {w : World} {β : BMap} {φ : FMap} {x : Value} {t : T} (h : Rep S w β φ x t) (hs : scal t = true) : Rep S' w noB noF x t := by
  cases h with
  | v => exact .v ..
  | agg _ _ xs ts hl h1 hr =>
    refine .agg _ _ _ _ hl h1 fun i y u hy hu => ?_
    have h2 := hr i y u hy hu
    simp only [scal, List.all_eq_true] at hs
    have h3 := hs u (List.mem_of_getElem? hu)
    cases u with
    | v z => rw [rep_v h2]; exact .v ..
    | _ => simp [T.isV] at h3
  | _ => simp [scal] at hs

variable {w0 : World} {l nb : Nat} {Sc : Nat → Nat → Prop} {J : Nat → (Nat → Prop) → World → Prop} {ys : List (List T)}

/-- A function that is ranged over, between operations: k rounds have been. -/
def YR (P : Program) (w0 : World) (nb : Nat) (Sc : Nat → Nat → Prop) (J : Nat → (Nat → Prop) → World → Prop) (nt : Nat) (vm : List Nat) (k : Nat) (done : List (Option Nat)) (σ : St) (a : Act) (w : World) : Prop :=
  ∃ (Wb : Base) (own : Nat → Prop) (S : Nat → Nat → Prop) (β : BMap) (φ : FMap), RegRel P Wb Sc S β φ nt vm done σ a w ∧ a.defers = [] ∧ Wb.nb = nb ∧ (∀ b, Wb.X b ↔ b < Wb.w.heap.size ∧ ¬ own b) ∧
    (∀ b, own b → w0.heap.size ≤ b ∧ b < Wb.w.heap.size) ∧ w0.heap.size ≤ Wb.w.heap.size ∧ J k own Wb.w

/-- The iterator's steps, and the rounds. -/
structure YHyp (P : Program) (w0 : World) (l : Nat) (Sc : Nat → Nat → Prop) (J : Nat → (Nat → Prop) → World → Prop) (ys : List (List T)) : Prop where
  lt : ∀ b o, Sc b o → b < w0.heap.size
  step : ∀ k own own' W W', J k own W → (∀ b, own b → w0.heap.size ≤ b ∧ b < W.heap.size) → IterStep own own' W W' → J k own' W'
  yield : ∀ k y own W (xs : Array Value), ys[k]? = some y → J k own W → (∀ b, own b → w0.heap.size ≤ b ∧ b < W.heap.size) → xs.size = y.length → (∀ (i : Nat) (x : Value) (t : T), xs[i]? = some x → y[i]? = some t → Rep Sc W noB noF x t) →
    ∀ n, YieldAt (wd none) n P l xs W fun e W' => e = .returned (.bool true) ∧ J (k + 1) own W' ∧ RoundStep Sc own W W'

/-- What the iterator has turned since the last round. -/
def ownNow (Wb : Base) (own : Nat → Prop) (w : World) (b : Nat) : Prop := own b ∨ (Wb.w.heap.size ≤ b ∧ b < w.heap.size)

theorem YR.now {k : Nat} {σ : St} {a : Act} {w : World} {done : List (Option Nat)} {Wb : Base} {own : Nat → Prop} {S : Nat → Nat → Prop} {β : BMap} {φ : FMap} (hy : YHyp P w0 l Sc J ys)
    (hR : RegRel P Wb Sc S β φ nt vm done σ a w) (hX : ∀ b, Wb.X b ↔ b < Wb.w.heap.size ∧ ¬ own b) (hown : ∀ b, own b → w0.heap.size ≤ b ∧ b < Wb.w.heap.size) (hsz : w0.heap.size ≤ Wb.w.heap.size) (hJ : J k own Wb.w) :
    J k (ownNow Wb own w) w ∧ ∀ b, ownNow Wb own w b → w0.heap.size ≤ b ∧ b < w.heap.size := by
  have hb := hR.inv.below
  have hle := hb.size
  refine ⟨hy.step k own _ Wb.w w hJ hown ⟨hb.os, hb.tape, hb.output, hle, fun b h => .inl h, fun b h => h, fun b hlt hn => hb.block b ((hX b).2 ⟨hlt, hn⟩), hb.room⟩, fun b h => ?_⟩
  rcases h with h | h
  · have := hown b h; omega
  · omega

set_option maxHeartbeats 1000000 in
theorem opsY_sound {C : FuncId → List T → Option T} (hC : ∀ f args r, C f args = some r → Sound P f args r) {io : FuncId → Nat} (hnb : 2 * bm.length ≤ nb) (hy : YHyp P w0 l Sc J ys) {n : Nat} {ops : Array Oper} {Q : Exit → Act → World → Prop} {σ' : St} :
    ∀ (rest pre : List Oper) {il : List (Option (Nat × Bool) × IOp)} {σ : St} {a : Act} {w : World} {k : Nat} {zs suf : List (List T)},
    ops.toList = pre ++ rest → YR P w0 nb Sc J nt vm k (pre.map (·.dst)) σ a w → lowOps P io nt vm bm (pre.map (·.dst)) rest = some il → opsY C l σ il = some (σ', zs) → ys.drop k = zs ++ suf →
    (∀ a' w', YR P w0 nb Sc J nt vm (k + zs.length) (ops.toList.map (·.dst)) σ' a' w' → Q .normal a' w') → wpListIn (wd none) n P ops Q rest a w
  | [], pre, il, σ, a, w, k, zs, suf, hops, h, hl, hr, hdrop, hQ => by
    simp only [lowOps, Option.some.injEq] at hl
    subst hl
    simp only [opsY, Option.some.injEq, Prod.mk.injEq] at hr
    obtain ⟨rfl, rfl⟩ := hr
    simp only [List.append_nil] at hops
    rw [← hops] at h
    exact hQ _ _ h
  | o :: rest, pre, il, σ, a, w, k, zs, suf, hops, h, hl, hr, hdrop, hQ => by
    have ih := @opsY_sound C hC io hnb hy n ops Q σ' rest (pre ++ [o])
    unfold lowOps at hl
    split at hl <;> try (cases hl; done)
    rename_i hck
    rw [Bool.not_eq_true, operBad, Bool.or_eq_false_iff] at hck
    obtain ⟨hck1, hck2⟩ := hck
    obtain ⟨i, hi, hl⟩ := Option.bind_eq_some_iff.1 hl
    obtain ⟨r, hr1, hl⟩ := Option.bind_eq_some_iff.1 hl
    simp only [Option.some.injEq] at hl
    subst hl
    have hd : ∀ s, o.dst = some s → some s ∉ pre.map (·.dst) ∧ s < nt := by
      intro s hs
      rw [hs] at hck1
      simp only [Bool.or_eq_false_iff, Bool.not_eq_false', decide_eq_true_eq] at hck1
      refine ⟨fun hm => ?_, hck1.2⟩
      have := hck1.1
      rw [List.contains_iff_mem.2 hm] at this
      cases this
    have hg : ∀ j b, o.guard = some (j, b) → (((pre.map (·.dst))[j]?).join).isSome = true := by
      intro j b hg
      rw [hg] at hck2
      simpa using hck2
    have hops' : ∀ (j s : Nat), (pre.map (·.dst))[j]? = some (some s) → (ops[j]?).bind (·.dst) = some s := by
      intro j s hj
      rw [List.getElem?_map, Option.map_eq_some_iff] at hj
      obtain ⟨q, hq, hqs⟩ := hj
      have hlt := (List.getElem?_eq_some_iff.1 hq).1
      have : ops[j]? = some q := by
        rw [← Array.getElem?_toList, hops, List.getElem?_append, if_pos hlt, hq]
      rw [this]
      exact hqs
    simp only [opsY] at hr
    obtain ⟨go, hgo, hr⟩ := Option.bind_eq_some_iff.1 hr
    obtain ⟨Wb, own, S, β, φ, hR, hdf, hWnb, hX, hown, hsz, hJ⟩ := h
    have hw := guard_spec hR hops' hg hgo
    simp only [wpListIn, hw]
    have hdone : (pre ++ [o]).map (·.dst) = pre.map (·.dst) ++ [o.dst] := by simp
    have hnbW : 2 * bm.length ≤ Wb.nb := by rw [hWnb]; exact hnb
    cases go with
    | false =>
      simp only [Bool.false_eq_true, if_false] at hr ⊢
      exact ⟨fun _ _ => trivial, ih (by simp [hops]) (by rw [hdone]; exact ⟨Wb, own, S, β, φ, hR.put hd (.v ..), by rw [put_defers]; exact hdf, hWnb, hX, hown, hsz, hJ⟩) (by rw [hdone]; exact hr1) hr hdrop hQ⟩
    | true =>
      simp only [if_true] at hr ⊢
      obtain ⟨⟨t, σ1, zs1⟩, hr2, hr⟩ := Option.bind_eq_some_iff.1 hr
      obtain ⟨⟨σ2, zs2⟩, hr3, hr4⟩ := Option.map_eq_some_iff.1 hr
      simp only [Prod.mk.injEq] at hr4
      obtain ⟨rfl, rfl⟩ := hr4
      -- an operation that yields nothing
      have plain : zs1 = [] → runOp C σ i = some (t, σ1) → o.wpIn (wd none) n P a w (wpListIn (wd none) n P ops Q rest) Q := by
        intro hz hrun
        subst hz
        have fin : ∀ x w', After P Wb Sc S β φ w σ σ1 t x w' → wpListIn (wd none) n P ops Q rest (a.put o.dst x) w' := fun x w' hA => by
          obtain ⟨S', β', φ', hR'⟩ := hR.after hA hd
          exact ih (by simp [hops]) (by rw [hdone]; exact ⟨Wb, own, S', β', φ', hR', by rw [put_defers]; exact hdf, hWnb, hX, hown, hsz, hJ⟩) (by rw [hdone]; exact hr1) hr3 hdrop hQ
        by_cases hc : ∃ c f, o.op = .call c ∧ c.callee = .value f
        · obtain ⟨c, f, ho, hcv⟩ := hc
          exact opcall_sound hC hR.inv hnbW hR.opd hi ho hcv hrun fin
        · obtain ⟨x, w', hrun', hA⟩ := op_sound (a := a) (o := o) hR.inv hnbW hR.opd hi (fun c f ho hcv => hc ⟨c, f, ho, hcv⟩) hrun
          exact hrun'.wpIn (low_nodefer hi) (fin _ _ hA)
      unfold opY at hr2
      split at hr2
      · rename_i d q ds
        split at hr2
        · rename_i hyq
          split at hr2 <;> try (cases hr2; done)
          obtain ⟨l0, aa, bb, hq⟩ := isY_v hyq
          rw [hq] at hr2
          simp only [yieldY] at hr2
          split at hr2 <;> try (cases hr2; done)
          rename_i hc5
          obtain ⟨rfl, ha0, hb0, hsc, hny⟩ := hc5
          obtain rfl := Array.eq_empty_of_size_eq_zero ha0
          obtain rfl := Array.eq_empty_of_size_eq_zero hb0
          simp only [Option.some.injEq, Prod.mk.injEq] at hr2
          obtain ⟨rfl, rfl, rfl⟩ := hr2
          -- the call
          obtain ⟨c, fo, ho, hcv⟩ := low_callv hi
          have hnd := low_nodefer hi
          have hR2 := hR.opd
          obtain ⟨cl, ar, at'⟩ := c
          simp only at hcv
          subst hcv
          simp only [lowOp, ho, Option.bind_eq_bind] at hi
          cases hdst : o.dst with
          | none => rw [hdst] at hi; cases fo <;> simp at hi
          | some d' =>
            rw [hdst] at hi
            cases fo with
            | const v => simp at hi
            | global g => simp at hi
            | func f =>
              simp only at hi
              obtain ⟨ds', _, hi⟩ := Option.bind_eq_some_iff.1 hi
              simp only [Option.some.injEq] at hi
              unfold callOp at hi
              split at hi <;> cases hi
            | tmp s =>
              simp only at hi
              obtain ⟨q', hq', hi⟩ := Option.bind_eq_some_iff.1 hi
              obtain ⟨ds', hds', hi⟩ := Option.bind_eq_some_iff.1 hi
              simp only [Option.some.injEq] at hi
              unfold callvOp at hi
              split at hi <;> try (cases hi; done)
              simp only [IOp.callv.injEq] at hi
              obtain ⟨rfl, rfl, rfl⟩ := hi
              have hv : a.eval (.tmp s) = .func (.yield l0) #[] #[] := by
                have := hR.opd _ _ hq'
                rw [hq] at this
                exact rep_v this
              have hrun : (execOp a.eval o).run P w = (Instr.yield l0 (ar.map a.eval)).run P w := by
                simp [execOp, ho, resolve, hv, Deferred.ofValue, invoke]
              obtain ⟨hm1, hm2⟩ := mapM_spec hds'
              have hk : ys[k]? = some (ds'.map (Opd.get σ)) := by
                have := congrArg (·[0]?) hdrop
                simpa using this
              obtain ⟨hJn, hon⟩ := YR.now hy hR hX hown hsz hJ
              obtain ⟨fn, tmps, assign, body, hyr, hround⟩ := hy.yield k _ _ w (ar.map a.eval) hk hJn hon (by simpa using hm1) (fun i x t hx ht => by
                simp only [Array.getElem?_map, Option.map_eq_some_iff, List.getElem?_map] at hx ht
                obtain ⟨p, hp, rfl⟩ := hx
                obtain ⟨q, hqq, rfl⟩ := ht
                refine scal_rep (hR.opd p q (hm2 i p q (by simpa using hp) hqq)) ?_
                exact List.all_eq_true.1 hsc _ (List.mem_map.2 ⟨q, List.mem_of_getElem? hqq, rfl⟩)) (n - 1)
              unfold Oper.wpIn
              refine ⟨fun _ _ => trivial, ?_⟩
              rw [Oper.semAt_eq _ _ _ hnd, hrun, hyr, Oper.uponIn_round]
              refine ⟨(fun h => by cases h), hround.mono fun e w' ⟨he, hJ', hst⟩ => ?_⟩
              subst he
              -- a later beginning
              let Wb' : Base := ⟨w', fun b => b < w'.heap.size ∧ ¬ ownNow Wb own w b, nb, noB, 0⟩
              have htop : ∀ b o, S b o → Sc b o ∨ ownNow Wb own w b := fun b o hs => by
                rcases hR.inv.top b o hs with h | h
                · exact .inl h
                · have hlt := hR.inv.lt b o hs
                  by_cases hb : b < Wb.w.heap.size
                  · refine .inr (.inl ?_)
                    by_cases ho : own b
                    · exact ho
                    · exact absurd ((hX b).2 ⟨hb, ho⟩) h
                  · exact .inr (.inr ⟨by omega, hlt⟩)
              have hnow : ∀ b, b < w.heap.size → ¬ ownNow Wb own w b → Wb.X b := fun b hb hn =>
                (hX b).2 ⟨by
                  by_cases hlt : b < Wb.w.heap.size
                  · exact hlt
                  · exact absurd (.inr ⟨by omega, hb⟩) hn, fun h => hn (.inl h)⟩
              obtain ⟨J', hm', _⟩ := hR.inv.rebase' (w' := w') (X' := Wb'.X) (S0' := Sc) (nb := nb) (m0 := 0) (β0 := noB) (fun b => b < w.heap.size ∧ ¬ ownNow Wb own w b) hst.size
                (fun b hb hz => hst.block b (by
                  by_cases hn : ownNow Wb own w b
                  · exact hn
                  · exact absurd ⟨hb, hn⟩ hz))
                (fun b hb => hnow b hb.1 hb.2)
                (fun b o hs sp v hv => by
                  rcases htop b o hs with h | h
                  · exact hst.cell b o h sp v hv
                  · rw [World.cell?_of_block (w := w) (hst.block b h)]; exact hv)
                (fun b hb => by
                  by_cases hlt : b < w.heap.size
                  · exact .inl (hnow b hlt hb.2)
                  · exact .inr (by omega)) (fun b hb => hb.1) hR.inv.base
                (fun b o hs => (htop b o hs).imp id fun h hx => hx.2 h) (fun s b _ h => by simp [noB] at h) hst.room
              have hR' : RegRel P Wb' Sc S β φ nt vm (pre.map (·.dst)) σ a w' :=
                ⟨J', ⟨[], by simp, by simp [hdf], by simp⟩, hR.size, hR.vlen, hR.rlen, fun i s u h1 h2 h3 => hm' _ _ _ (hR.vars i s u h1 h2 h3), fun j s u h1 h2 => hm' _ _ _ (hR.regs j s u h1 h2), hR.dist⟩
              have hR3 := hR'.put (dst := o.dst) hd (x := .bool true) (t := T.bool true) (.v ..)
              have hYR : YR P w0 nb Sc J nt vm (k + 1) (pre.map (·.dst) ++ [o.dst]) { σ with rs := σ.rs ++ [T.bool true] } (a.put o.dst (.bool true)) w' := by
                refine ⟨Wb', ownNow Wb own w, S, β, φ, hR3, by rw [put_defers]; exact hdf, rfl, fun b => Iff.rfl, fun b hb => ?_, ?_, hJ'⟩
                · have h1 := hon b hb
                  have h2 := hst.size
                  exact ⟨h1.1, by show b < w'.heap.size; omega⟩
                · have h2 := hst.size
                  have h3 := hR.inv.below.size
                  show w0.heap.size ≤ w'.heap.size
                  omega
              refine ih (k := k + 1) (zs := zs2) (suf := suf) (by simp [hops]) (by rw [hdone]; exact hYR) (by rw [hdone]; exact hr1) hr3 ?_ ?_
              · rw [← List.drop_drop, hdrop]
                simp
              · intro a' w'' hYR
                refine hQ a' w'' ?_
                have e : k + ([ds'.map (Opd.get σ)] ++ zs2).length = k + 1 + zs2.length := by simp; omega
                rw [e]; exact hYR
        · have := plainY_par 0 hr2
          exact plain this.2.1 this.2.2
      · split at hr2 <;> try (cases hr2; done)
        simp only [Option.some.injEq, Prod.mk.injEq] at hr2
        obtain ⟨rfl, rfl, rfl⟩ := hr2
        exact plain rfl rfl
      · simp only [Option.some.injEq, Prod.mk.injEq] at hr2
        obtain ⟨rfl, rfl, rfl⟩ := hr2
        exact plain rfl rfl
      · have := plainY_par 0 hr2
        exact plain this.2.1 this.2.2
end
end Go.Vi
end
section
/-
  A VERIFIED INTERPRETER (part 26): functions that are ranged over: their code.
-/
set_option linter.unusedSimpArgs false
set_option linter.unusedVariables false
namespace Go.Vi
open Go Go.RowKit

section
variable {P : Program} {nt : Nat} {vm bm : List Nat} {w0 : World} {l nb : Nat} {Sc : Nat → Nat → Prop} {J : Nat → (Nat → Prop) → World → Prop} {ys : List (List T)}

theorem opY_runOp {C : FuncId → List T → Option T} {σ σ' : St} {o : IOp} {t : T} (h : opY C l σ o = some (t, σ', [])) : runOp C σ o = some (t, σ') := by
  unfold opY at h
  split at h
  · split at h
    · split at h <;> try (cases h; done)
      unfold yieldY at h
      split at h <;> try (cases h; done)
      split at h <;> (cases h; done)
    · exact (plainY_par 0 h).2.2
  · split at h <;> try (cases h; done)
    simp only [Option.some.injEq, Prod.mk.injEq] at h
    obtain ⟨rfl, rfl, _⟩ := h
    rfl
  · simp only [Option.some.injEq, Prod.mk.injEq] at h
    obtain ⟨rfl, rfl, _⟩ := h
    rfl
  · exact (plainY_par 0 h).2.2

theorem opsY_runOps {C : FuncId → List T → Option T} {σ' : St} : ∀ (il : List (Option (Nat × Bool) × IOp)) (σ : St), opsY C l σ il = some (σ', []) → runOps C σ il = some σ'
  | [], σ, h => by
    simp only [opsY, Option.some.injEq, Prod.mk.injEq] at h
    simp only [runOps, h.1]
  | (g, o) :: il, σ, h => by
    simp only [opsY] at h
    obtain ⟨go, hg, h⟩ := Option.bind_eq_some_iff.1 h
    simp only [runOps, hg, Option.bind_some]
    cases go with
    | true =>
      simp only [if_true] at h ⊢
      obtain ⟨⟨t, σ1, z1⟩, h1, h⟩ := Option.bind_eq_some_iff.1 h
      obtain ⟨⟨σ2, z2⟩, h2, h⟩ := Option.map_eq_some_iff.1 h
      simp only [Prod.mk.injEq, List.append_eq_nil_iff] at h
      obtain ⟨rfl, rfl, rfl⟩ := h
      rw [opY_runOp h1]
      simp only [Option.bind_some]
      exact opsY_runOps il _ h2
    | false =>
      simp only [Bool.false_eq_true, if_false] at h ⊢
      exact opsY_runOps il _ h

/-- What is asked of the code's end. -/
def OutOkY (P : Program) (w0 : World) (nb : Nat) (Sc : Nat → Nat → Prop) (J : Nat → (Nat → Prop) → World → Prop) (nt : Nat) (vm : List Nat) (k : Nat) (Q : Exit → Act → World → Prop) : Out → Prop
  | .norm σ => ∀ a w, YR P w0 nb Sc J nt vm k [] σ a w → Q .normal a w
  | .exit id σ => ∀ a w, YR P w0 nb Sc J nt vm k [] σ a w → Q (exitOf id) a w
  | .ret σ => ∀ a w, YR P w0 nb Sc J nt vm k [] σ a w → Q .ret a w

theorem YR.kill {k : Nat} {vs : List Nat} {σ : St} {a : Act} {w : World} (h : YR P w0 nb Sc J nt vm k [] σ a w) : YR P w0 nb Sc J nt vm k [] { σ with vars := killVars vs σ.vars } a w := by
  obtain ⟨Wb, own, S, β, φ, hR, h⟩ := h
  exact ⟨Wb, own, S, β, φ, kill_rel vs σ.vars hR, h⟩

theorem YR.free {k : Nat} {ss : List Nat} {σ σ' : St} {a : Act} {w : World} (h : YR P w0 nb Sc J nt vm k [] σ a w) (hf : freeBoxes ss σ = some σ') : YR P w0 nb Sc J nt vm k [] σ' a w := by
  obtain ⟨Wb, own, S, β, φ, hR, h⟩ := h
  obtain ⟨β', h3⟩ := free_rel ss hR hf
  exact ⟨Wb, own, S, β', φ, h3, h⟩

theorem YR.fin {k : Nat} {dsts : List (Option Nat)} {σ : St} {a : Act} {w : World} (h : YR P w0 nb Sc J nt vm k dsts σ a w) : YR P w0 nb Sc J nt vm k [] ⟨[], outsOf σ.rs σ.vars (vm.map (lastIdx dsts)), σ.boxes⟩ a w := by
  obtain ⟨Wb, own, S, β, φ, hR, h⟩ := h
  exact ⟨Wb, own, S, β, φ, hR.fin, h⟩

theorem execY_headed {C : FuncId → List T → Option T} {N : Nat} {kv kb : List Nat} {ia : IC} {σ : St} : execY C l N (.seq (.kill kv) (.seq (.free kb) ia)) σ = (freeBoxes kb { σ with vars := killVars kv σ.vars }).bind fun σ1 => execY C l N ia σ1 := by
  simp only [execY]
  cases freeBoxes kb { σ with vars := killVars kv σ.vars } with
  | none => rfl
  | some σ1 =>
    simp only [Option.map_some, Option.bind_some, List.nil_append]
    cases execY C l N ia σ1 <;> rfl

theorem execY_sound {C : FuncId → List T → Option T} (hC : ∀ f args r, C f args = some r → Sound P f args r) {io : FuncId → Nat} {drawOk : List Nat → Array Oper → List (Option (Nat × Bool) × IOp) → Bool} (hD : DrawSound P drawOk) (N : Nat) (hnb : 2 * bm.length ≤ nb) (hy : YHyp P w0 l Sc J ys) :
    ∀ (m : Nat) (c : Code) {n : Nat} {h h' : Hints} {ic : IC} {σ : St} {out : Out} {zs suf : List (List T)} {k : Nat} {a : Act} {w : World} {Q : Exit → Act → World → Prop},
    lowCode P io nt vm bm drawOk m c h = some (ic, h') → execY C l N ic σ = some (out, zs) → ys.drop k = zs ++ suf → YR P w0 nb Sc J nt vm k [] σ a w → OutOkY P w0 nb Sc J nt vm (k + zs.length) Q out → c.wpIn (wd none) n P Q a w := by
  intro m
  induction m with
  | zero => intro c n h h' ic σ out zs suf k a w Q hl; simp [lowCode] at hl
  | succ m ih =>
  intro c n h h' ic σ out zs suf k a w Q hl he hdr hc hQ
  cases c with
  | skip =>
    simp only [lowCode, Option.some.injEq, Prod.mk.injEq] at hl
    obtain ⟨rfl, rfl⟩ := hl
    simp only [execY, Option.some.injEq, Prod.mk.injEq] at he
    obtain ⟨rfl, rfl⟩ := he
    exact wpIn_skip (hQ _ _ hc)
  | label l =>
    simp only [lowCode, Option.some.injEq, Prod.mk.injEq] at hl
    obtain ⟨rfl, rfl⟩ := hl
    simp only [execY, Option.some.injEq, Prod.mk.injEq] at he
    obtain ⟨rfl, rfl⟩ := he
    exact wpIn_label (hQ _ _ hc)
  | exit id =>
    simp only [lowCode] at hl
    split at hl <;> try (cases hl; done)
    rename_i hid
    simp only [Option.some.injEq, Prod.mk.injEq] at hl
    obtain ⟨rfl, rfl⟩ := hl
    simp only [execY, Option.some.injEq, Prod.mk.injEq] at he
    obtain ⟨rfl, rfl⟩ := he
    have := hQ _ _ hc
    simp only [exitOf, hid, if_true] at this
    exact wpIn_exit this
  | goto l =>
    simp only [lowCode, Option.some.injEq, Prod.mk.injEq] at hl
    obtain ⟨rfl, rfl⟩ := hl
    simp only [execY, Option.some.injEq, Prod.mk.injEq] at he
    obtain ⟨rfl, rfl⟩ := he
    have := hQ _ _ hc
    simp only [exitOf, show ¬ (gotoBase + l < gotoBase) by omega, if_false, Nat.add_sub_cancel_left] at this
    exact wpIn_goto this
  | ret =>
    simp only [lowCode, Option.some.injEq, Prod.mk.injEq] at hl
    obtain ⟨rfl, rfl⟩ := hl
    simp only [execY, Option.some.injEq, Prod.mk.injEq] at he
    obtain ⟨rfl, rfl⟩ := he
    exact wpIn_ret (hQ _ _ hc)
  | region id ops draw =>
    simp only [lowCode] at hl
    by_cases hpn : (lowOps P io nt vm bm [] ops.toList).isNone = true
    · rw [if_pos hpn] at hl
      simp only [Option.some.injEq, Prod.mk.injEq] at hl
      obtain ⟨rfl, rfl⟩ := hl
      simp [execY] at he
    rw [if_neg hpn] at hl
    obtain ⟨il, hlo, hl⟩ := Option.bind_eq_some_iff.1 hl
    split at hl <;> try (cases hl; done)
    rename_i hdrw
    simp only [Option.some.injEq, Prod.mk.injEq] at hl
    obtain ⟨rfl, rfl⟩ := hl
    simp only [execY] at he
    obtain ⟨⟨σ2, zs'⟩, he2, he⟩ := Option.bind_eq_some_iff.1 he
    split at he <;> try (cases he; done)
    rename_i hnd
    simp only [Option.some.injEq, Prod.mk.injEq] at he
    obtain ⟨rfl, rfl⟩ := he
    have hc' : YR P w0 nb Sc J nt vm k ([] : List (Option Nat)) { σ with rs := [] } a w := by
      obtain ⟨Wb, own, S, β, φ, hR, h⟩ := hc
      have hrs : σ.rs = [] := List.length_eq_zero_iff.1 (by simpa using hR.rlen)
      have : ({ σ with rs := [] } : St) = σ := by rw [← hrs]
      rw [this]; exact ⟨Wb, own, S, β, φ, hR, h⟩
    have fin : ∀ a' w', YR P w0 nb Sc J nt vm (k + zs'.length) (ops.toList.map (·.dst)) σ2 a' w' → Q .normal a' w' := fun a' w' h => hQ _ _ h.fin
    cases draw with
    | false => exact wpIn_region_list (opsY_sound hC hnb hy ops.toList [] (by simp) hc' (by simpa using hlo) he2 hdr fin)
    | true =>
      simp only [Bool.true_and, Bool.not_eq_true', Bool.not_eq_false] at hdrw
      simp only [true_and, Bool.not_eq_false] at hnd
      have hz : zs' = [] := by simpa using hnd
      subst hz
      obtain ⟨Wb, own, S, β, φ, hR, hdf, hWnb, hX⟩ := hc'
      exact hD C io Wb w Sc S β φ nt vm bm id ops il _ σ2 a Q none n hC (by rw [hWnb]; exact hnb) hdrw hR hlo (opsY_runOps il _ he2) fun S' β' φ' a' w' hR' hdf' => fin a' w' ⟨Wb, own, S', β', φ', hR', hdf'.trans hdf, hWnb, hX⟩
  | seq x y =>
    simp only [lowCode, Option.bind_eq_bind] at hl
    obtain ⟨⟨ia, h1⟩, hl1, hl⟩ := Option.bind_eq_some_iff.1 hl
    obtain ⟨⟨ib, h2⟩, hl2, hl⟩ := Option.bind_eq_some_iff.1 hl
    simp only [Option.some.injEq, Prod.mk.injEq] at hl
    obtain ⟨rfl, rfl⟩ := hl
    simp only [execY] at he
    refine wpIn_seq ?_
    split at he
    · rename_i σ1 z1 h1
      obtain ⟨⟨o2, z2⟩, he2, he⟩ := Option.map_eq_some_iff.1 he
      simp only [Prod.mk.injEq] at he
      obtain ⟨rfl, rfl⟩ := he
      refine ih x hl1 h1 (suf := z2 ++ suf) (by rw [hdr, List.append_assoc]) hc fun a' w' hc' => ?_
      refine ih y hl2 he2 (k := k + z1.length) (suf := suf) (by rw [← List.drop_drop, hdr]; simp) hc' ?_
      rw [Nat.add_assoc, ← List.length_append]
      exact hQ
    · rename_i hne
      refine ih x hl1 he hdr hc ?_
      cases out with
      | norm σ1 => exact absurd he (hne σ1 zs)
      | exit id σ1 =>
        intro a w hc
        have := hQ a w hc
        unfold exitOf at this ⊢
        split <;> simp_all [Exit.then]
      | ret σ1 => exact fun a w hc => hQ a w hc
  | cond c x y =>
    simp only [lowCode, Option.bind_eq_bind] at hl
    obtain ⟨d, hd, hl⟩ := Option.bind_eq_some_iff.1 hl
    obtain ⟨⟨ia, h1⟩, hl1, hl⟩ := Option.bind_eq_some_iff.1 hl
    obtain ⟨⟨ib, h2⟩, hl2, hl⟩ := Option.bind_eq_some_iff.1 hl
    simp only [Option.some.injEq, Prod.mk.injEq] at hl
    obtain ⟨rfl, rfl⟩ := hl
    simp only [execY] at he
    split at he <;> try (cases he; done)
    rename_i t ht
    have hc0 := hc
    obtain ⟨Wb, own, S, β, φ, hR, _⟩ := hc
    have hv := rep_v (ht ▸ hR.opd c d hd)
    refine wpIn_cond hv ?_
    cases t with
    | true => exact ih x hl1 (by simpa using he) hdr hc0 hQ
    | false => exact ih y hl2 (by simpa using he) hdr hc0 hQ
  | block id x =>
    simp only [lowCode, Option.bind_eq_bind] at hl
    obtain ⟨⟨ia, h1⟩, hl1, hl⟩ := Option.bind_eq_some_iff.1 hl
    simp only at hl
    split at hl <;> try (cases hl; done)
    rename_i hid
    simp only [Option.some.injEq, Prod.mk.injEq] at hl
    obtain ⟨rfl, rfl⟩ := hl
    simp only [execY] at he
    refine wpIn_block ?_
    have key : ∀ j a w, j ≠ id → Q (exitOf j) a w → Exit.inBlock id Q (exitOf j) a w := fun j a w hj h => by
      unfold exitOf at h ⊢
      split
      · rename_i hlt
        simp only [hlt, if_true] at h
        simp only [Exit.inBlock]
        rw [if_neg hj]
        exact h
      · rename_i hlt
        simp only [hlt, if_false] at h
        exact h
    split at he
    · rename_i j σ1 z1 h1
      split at he
      · rename_i hj
        simp only [Option.some.injEq, Prod.mk.injEq] at he
        obtain ⟨rfl, rfl⟩ := he
        refine ih x hl1 h1 hdr hc fun a' w' hc' => ?_
        subst hj
        simp only [exitOf, hid, if_true, Exit.inBlock]
        exact hQ _ _ hc'
      · rename_i hj
        simp only [Option.some.injEq, Prod.mk.injEq] at he
        obtain ⟨rfl, rfl⟩ := he
        exact ih x hl1 h1 hdr hc fun a' w' hc' => key _ _ _ hj (hQ _ _ hc')
    · rename_i hne
      refine ih x hl1 he hdr hc ?_
      cases out with
      | norm σ1 => exact fun a w hc => hQ a w hc
      | exit id σ1 => exact absurd he (hne id σ1 zs)
      | ret σ1 => exact fun a w hc => hQ a w hc
  | loop x =>
    cases h with
    | nil => simp [lowCode] at hl
    | cons hd h =>
    obtain ⟨vs, ss⟩ := hd
    simp only [lowCode, Option.bind_eq_bind] at hl
    obtain ⟨⟨ia, h1⟩, hl1, hl⟩ := Option.bind_eq_some_iff.1 hl
    simp only [Option.some.injEq, Prod.mk.injEq] at hl
    obtain ⟨rfl, rfl⟩ := hl
    generalize vs.filterMap (vm.idxOf? ·) = kv at he
    generalize ((ss.filterMap (slotOf bm ·)).flatMap fun s => [s, s + 1]) = kb at he
    simp only [execY] at he
    refine wpIn_loop_rounds N ?_
    suffices key : ∀ q σ a w k zs, loopY (fun σ => execY C l N (.seq (.kill kv) (.seq (.free kb) ia)) σ) q σ = some (out, zs) → ys.drop k = zs ++ suf → YR P w0 nb Sc J nt vm k [] σ a w → OutOkY P w0 nb Sc J nt vm (k + zs.length) Q out → Code.roundsIn (wd none) n P x Q q a w from key N σ a w k zs he hdr hc hQ
    intro q
    induction q with
    | zero => intro σ a w k zs he; simp [loopY] at he
    | succ q ihn =>
      intro σ a w k zs he hdr hc hQ
      rw [roundsIn_succ]
      simp only [loopY] at he
      rw [execY_headed] at he
      cases hfb : freeBoxes kb { σ with vars := killVars kv σ.vars } with
      | none => rw [hfb] at he; simp at he
      | some σ1 =>
        rw [hfb] at he
        simp only [Option.bind_some] at he
        have hc1 := (hc.kill (vs := kv)).free hfb
        split at he
        · rename_i σ2 z1 h2
          obtain ⟨⟨o2, z2⟩, he2, he⟩ := Option.map_eq_some_iff.1 he
          simp only [Prod.mk.injEq] at he
          obtain ⟨rfl, rfl⟩ := he
          refine ih x hl1 h2 (suf := z2 ++ suf) (by rw [hdr, List.append_assoc]) hc1 fun a' w' hc' => ?_
          refine ihn σ2 a' w' (k + z1.length) z2 he2 (by rw [← List.drop_drop, hdr]; simp) hc' ?_
          rw [Nat.add_assoc, ← List.length_append]
          exact hQ
        · rename_i hne
          refine ih x hl1 he hdr hc1 ?_
          cases out with
          | norm σ2 => exact absurd he (hne σ2 zs)
          | exit id σ1 =>
            intro a w hc
            have := hQ a w hc
            unfold exitOf at this ⊢
            split <;> simp_all [Exit.then]
          | ret σ1 => exact fun a w hc => hQ a w hc
  | scope x =>
    simp only [lowCode] at hl
    split at hl
    · simp only [Option.bind_eq_bind] at hl
      obtain ⟨⟨ia, h1⟩, hl1, hl⟩ := Option.bind_eq_some_iff.1 hl
      simp only [Option.some.injEq, Prod.mk.injEq] at hl
      obtain ⟨rfl, rfl⟩ := hl
      simp only [execY] at he
      split at he
      · rename_i j σ1 z1 h1
        split at he <;> try (cases he; done)
        rename_i hj
        simp only [Option.some.injEq, Prod.mk.injEq] at he
        obtain ⟨rfl, rfl⟩ := he
        refine wpIn_scope_straight (ih x hl1 h1 hdr hc fun a w hc => ?_)
        have := hQ a w hc
        simp only [exitOf, hj, if_true] at this ⊢
        exact this
      · rename_i hne
        refine wpIn_scope_straight (ih x hl1 he hdr hc ?_)
        cases out with
        | norm σ1 => exact fun a w hc => hQ a w hc
        | ret σ1 => exact fun a w hc => hQ a w hc
        | exit id σ1 => exact absurd he (hne id σ1 zs)
    · split at hl <;> try (cases hl; done)
      simp only [Option.bind_eq_bind] at hl
      obtain ⟨⟨ia, h1⟩, hl1, hl⟩ := Option.bind_eq_some_iff.1 hl
      obtain ⟨⟨ib, h2⟩, hl2, hl⟩ := Option.bind_eq_some_iff.1 hl
      simp only [Option.some.injEq, Prod.mk.injEq] at hl
      obtain ⟨rfl, rfl⟩ := hl
      simp [execY] at he
  | rangeFunc g ps x y =>
    simp only [lowCode, Option.bind_eq_bind] at hl
    obtain ⟨d, hd, hl⟩ := Option.bind_eq_some_iff.1 hl
    obtain ⟨is, his, hl⟩ := Option.bind_eq_some_iff.1 hl
    split at hl <;> try (cases hl; done)
    obtain ⟨⟨ia, h1⟩, hl1, hl⟩ := Option.bind_eq_some_iff.1 hl
    obtain ⟨⟨ib, h2⟩, hl2, hl⟩ := Option.bind_eq_some_iff.1 hl
    simp only [Option.some.injEq, Prod.mk.injEq] at hl
    obtain ⟨rfl, rfl⟩ := hl
    simp [execY] at he
  | refuse _ => simp [lowCode] at hl
end
end Go.Vi
end
section
/-
  A VERIFIED INTERPRETER (part 27): functions that are ranged over.
-/
set_option linter.unusedSimpArgs false
set_option linter.unusedVariables false
namespace Go.Vi
open Go Go.RowKit

section
variable {P : Program} {vm bm : List Nat}

theorem inv_none' (w : World) (S : Nat → Nat → Prop) (hS : ∀ b o, S b o → b < w.heap.size) (m : Nat) : Inv P ⟨w, fun b => b < w.heap.size, m, noB, w.heap.size⟩ S S noB noF (List.replicate m none) w := by
  refine ⟨⟨rfl, rfl, rfl, Nat.le_refl _, fun _ h => h, fun _ _ => rfl, Grows.refl _⟩, hS, fun s b hb => by simp [noB] at hb, fun s cs hs => ?_, fun s s' b hb => by simp [noB] at hb, fun k x e hk => by simp [noF] at hk, fun k k' x x' e e' hk => by simp [noF] at hk,
    fun b o h => .inl h, fun _ _ h => h, fun _ _ _ _ _ h => h, fun s b _ h => by simp [noB] at h⟩
  simp only [List.getElem?_replicate] at hs
  split at hs <;> cases hs

theorem runSeq_sound {C : FuncId → List T → Option T} (hC : ∀ f args r, C f args = some r → Sound P f args r) {io : FuncId → Nat} {drawOk : List Nat → Array Oper → List (Option (Nat × Bool) × IOp) → Bool} (hD : DrawSound P drawOk) {N f : Nat} {fn : Func} {ifn : IFn} {h : Hints} {canon : List CM} {split : Bool} {caps : List T} {ys : List (List T)}
    (hf : P.funcs[f]? = some fn) (hn : (fn.name == "runtime.NumGoroutine") = false) (hl : lower P io drawOk vm bm h canon split fn = some ifn) (hr0 : runSeq C N 0 ifn caps = some ys) : SeqSound P f caps ys := by
  have hcall : callable P f = true := by
    unfold lower at hl
    simp only at hl
    split at hl <;> try (cases hl; done)
    rename_i c hb
    simp [callable, hf, hb, hn]
  refine ⟨hcall, fun l w S vs hS hvl hreps J hstep hyield hJ0 n => ?_⟩
  have hr := runSeq_par hr0 l
  unfold runSeq at hr
  split at hr <;> try (cases hr; done)
  rename_i hck0
  obtain ⟨hlen, _, hres⟩ := hck0
  unfold lower at hl
  simp only at hl
  split at hl <;> try (cases hl; done)
  rename_i c hb
  split at hl <;> try (cases hl; done)
  rename_i hck
  obtain ⟨hvm, hbm, htake, hall⟩ := hck
  simp only [Option.bind_eq_bind] at hl
  obtain ⟨⟨ic, h'⟩, hlc, hl⟩ := Option.bind_eq_some_iff.1 hl
  obtain ⟨irs, hirs, hl⟩ := Option.bind_eq_some_iff.1 hl
  simp only [Option.some.injEq] at hl
  subst hl
  simp only at hlen hr hres
  have hirs0 : irs = [] := by simpa using hres
  subst hirs0
  generalize hp : fn.params.size + fn.nfree = p at htake hlen hr
  have hple : p ≤ vm.length := by
    have := congrArg List.length htake
    simp only [List.length_take, List.length_range] at this
    omega
  have hvmi : ∀ i, i < p → vm[i]? = some i := by
    intro i hi
    have : (vm.take p)[i]? = some i := by rw [htake]; simp [hi]
    rw [List.getElem?_take] at this
    simpa [hi] using this
  have hpn : p ≤ fn.ntmps := by
    by_cases h0 : p = 0
    · omega
    · have := hvmi (p - 1) (by omega)
      have hm := List.mem_of_getElem? this
      simp only [List.all_eq_true, decide_eq_true_eq] at hall
      have := hall _ hm
      omega
  have hI := inv_none' (P := P) w S hS (2 * bm.length)
  have hsz1 : (#[Value.func (.yield l) #[] #[]] ++ vs).size = p := by simp; omega
  have hY0 : YR P w (2 * bm.length) S J fn.ntmps vm 0 [] ⟨[], yT l :: caps ++ List.replicate (vm.length - p) .undef, List.replicate (2 * bm.length) none⟩
      { tmps := (#[Value.func (.yield l) #[] #[]] ++ vs) ++ Array.replicate (fn.ntmps - (#[Value.func (.yield l) #[] #[]] ++ vs).size) undef, defers := [] } w := by
    refine ⟨_, fun _ => False, S, noB, noF, ⟨hI, ⟨[], by simp, rfl, by simp⟩, by simp; omega, by simp; omega, rfl, fun i s u hi _ hu => ?_, fun j s u hj => by simp at hj, fun j j' s hj => by simp at hj⟩, rfl, rfl, fun b => by simp, fun b hb => hb.elim, Nat.le_refl _, hJ0⟩
    rw [List.getElem?_append] at hu
    split at hu
    · rename_i hlt
      simp only [List.length_cons] at hlt
      have := hvmi i (by omega)
      rw [this] at hi
      simp only [Option.some.injEq] at hi
      subst hi
      have hlt2 : i < (#[Value.func (.yield l) #[] #[]] ++ vs).size := by omega
      simp only [Array.getD_eq_getD_getElem?]
      rw [Array.getElem?_append_left hlt2]
      cases i with
      | zero =>
        simp only [List.getElem?_cons_zero, Option.some.injEq] at hu
        subst hu
        rw [Array.getElem?_append_left (by simp)]
        exact .v ..
      | succ i =>
        simp only [List.getElem?_cons_succ] at hu
        rw [Array.getElem?_append_right (by simp)]
        simp only [List.size_toArray, List.length_cons, List.length_nil, Nat.zero_add, Nat.add_sub_cancel]
        have hiv : i < vs.size := by omega
        refine hreps i _ u ?_ hu
        simp [hiv]
    · rw [List.getElem?_replicate] at hu
      split at hu
      · simp only [Option.some.injEq] at hu; subst hu; exact .undef ..
      · cases hu
  have hy : YHyp P w l S J ys := ⟨hS, hstep, hyield⟩
  refine callsIn_of_wp_marks (F := wd none) hf hb trivial ?_
  have fin : ∀ (σ : St) a' w', YR P w (2 * bm.length) S J fn.ntmps vm (0 + ys.length) [] σ a' w' → LeavesInM (wd none) n P fn a'.tmps (fun e w' => (∃ v, e = .returned v) ∧ ∃ own, (∀ b, own b → w.heap.size ≤ b ∧ b < w'.heap.size) ∧ J ys.length own w') a'.defers .returning w' := by
    rintro σ a' w' ⟨Wb, own, S', β', φ', hR, hdf, hWnb, hX, hown, hsz, hJ⟩
    obtain ⟨hJn, hon⟩ := YR.now hy hR hX hown hsz hJ
    rw [hdf]
    rw [Nat.zero_add] at hJn
    have hrs : resultsOf σ [] canon = some (.tup []) := by cases canon <;> simp [resultsOf, canonL]
    obtain ⟨x, hx, hrep⟩ := results_sound (a := a') (σ := σ) hR.inv (fun i s u h1 h2 => hR.vars i s u h1 (by simp) h2) hirs hrs
    simp only [LeavesInM, LeavesIn]
    exact ⟨x, hx, ⟨x, rfl⟩, ownNow Wb own w', hon, hJn⟩
  split at hr <;> try (cases hr; done)
  · rename_i σ ys' he
    simp only [Option.some.injEq] at hr
    subst hr
    exact execY_sound hC hD N (Nat.le_refl _) hy 400 c hlc he (suf := []) (by simp) hY0 fun a' w' hc => fin σ a' w' hc
  · rename_i σ ys' he
    simp only [Option.some.injEq] at hr
    subst hr
    exact execY_sound hC hD N (Nat.le_refl _) hy 400 c hlc he (suf := []) (by simp) hY0 fun a' w' hc => fin σ a' w' hc
end
end Go.Vi
end
section
/-
  A VERIFIED INTERPRETER (part 17b): functions, the program.
-/
set_option linter.unusedSimpArgs false
set_option linter.unusedVariables false
namespace Go.Vi
open Go Go.RowKit

section
variable {P : Program} {W : Base} {w : World} {S0 S : Nat → Nat → Prop} {β : BMap} {φ : FMap} {a : Act} {o : Oper} {σ : St} {nt : Nat} {vm bm : List Nat}

theorem runFn_sound {C : FuncId → List T → Option T} (hC : ∀ f args r, C f args = some r → Sound P f args r) {io : FuncId → Nat} {drawOk : List Nat → Array Oper → List (Option (Nat × Bool) × IOp) → Bool} (hD : DrawSound P drawOk) {N f : Nat} {fn : Func} {ifn : IFn} {h : Hints} {canon : List CM} {split : Bool} {args : List T} {r : T}
    (hf : P.funcs[f]? = some fn) (hn : (fn.name == "runtime.NumGoroutine") = false) (hl : lower P io drawOk vm bm h canon split fn = some ifn) (hr : runFn C N ifn args = some r) : SoundV P f args r := by
  simp only [runFn] at hr
  split at hr <;> try (cases hr; done)
  rename_i hlen
  obtain ⟨σ, hex, hr⟩ : ∃ σ, (exec C N ifn.body ⟨[], args ++ List.replicate (ifn.nvars - ifn.nparams) .undef, List.replicate (2 * ifn.nboxes) none⟩ = some (.norm σ) ∨ exec C N ifn.body ⟨[], args ++ List.replicate (ifn.nvars - ifn.nparams) .undef, List.replicate (2 * ifn.nboxes) none⟩ = some (.ret σ)) ∧
      (resultsOf σ ifn.results ifn.canon).bind (exportT σ.boxes) = some r := by
    split at hr <;> try (cases hr; done)
    · rename_i σ he; exact ⟨σ, .inl he, hr⟩
    · rename_i σ he; exact ⟨σ, .inr he, hr⟩
  obtain ⟨t, ht, hr⟩ := Option.bind_eq_some_iff.1 hr
  obtain ⟨hnb, hcall, _⟩ := body_sound (W := ⟨default, fun _ => False, 0, noB, 0⟩) (w := default) (S := fun _ _ => False) (β := noB) (φ := noF) (σ := σ) hC hD (N := N) hf hn hl
  refine ⟨hcall, fun w S vs hS hvl hreps => ?_⟩
  obtain ⟨_, _, hb⟩ := body_sound (W := ⟨w, fun b => b < w.heap.size, 2 * ifn.nboxes, noB, w.heap.size⟩) (w := w) (S := S) (β := noB) (φ := noF) (σ := σ) hC hD (N := N) hf hn hl
  refine (hb (args := args) hlen (inv_none' w S hS _) rfl rfl (by rw [hnb]; exact Nat.le_refl _) hvl hreps hex ht).mono fun e w' ⟨x, S', β', φ', he, hI, hrep⟩ => ?_
  exact ⟨x, he, ⟨hI.below.os, hI.below.tape, hI.below.output, hI.below.size, hI.below.block⟩, export_sound hI hrep hr⟩

theorem outLab_iff {nb K : Nat} {own : List Nat} {s l : Nat} : outLab nb K own s = some l ↔ outUn nb K own l = some s := by
  constructor
  · intro h
    have h0 := h
    unfold outLab at h
    have key : (if l < 2 * K then some (l + nb) else unlab own (l - 2 * K)) = some s := by
      split at h
      · obtain ⟨i, hi, rfl⟩ := Option.map_eq_some_iff.1 h
        have h1 := idxOf?_spec hi
        rw [if_neg (by omega)]
        have e1 : (2 * (K + i) + s % 2 - 2 * K) / 2 = i := by omega
        have e2 : (2 * (K + i) + s % 2 - 2 * K) % 2 = s % 2 := by omega
        simp [unlab, e1, e2, h1]
      · split at h
        · simp only [Option.some.injEq] at h
          subst h
          rw [if_pos (by omega)]
          congr 1
          omega
        · cases h
    simp [outUn, key, h0]
  · intro h
    unfold outUn at h
    obtain ⟨s', _, h⟩ := Option.bind_eq_some_iff.1 h
    split at h
    · simp only [Option.some.injEq] at h; subst h; assumption
    · cases h

theorem outLab_parity {nb K : Nat} {own : List Nat} {s l : Nat} (hnb : nb % 2 = 0) (h : outLab nb K own s = some l) : l % 2 = s % 2 := by
  unfold outLab at h
  split at h
  · obtain ⟨i, _, rfl⟩ := Option.map_eq_some_iff.1 h
    omega
  · split at h
    · simp only [Option.some.injEq] at h; omega
    · cases h

theorem outLab_lt {nb K : Nat} {own : List Nat} {s l : Nat} (h : outLab nb K own s = some l) : l < 2 * (K + own.length) := by
  unfold outLab at h
  split at h
  · obtain ⟨i, hi, rfl⟩ := Option.map_eq_some_iff.1 h
    have := (List.getElem?_eq_some_iff.1 (idxOf?_spec hi)).1
    omega
  · split at h
    · simp only [Option.some.injEq] at h; omega
    · cases h

def famsUn (fs : List Nat) (i : Nat) : Option Nat := (fs[i]?).bind fun k => if fs.idxOf? k = some i then some k else none

theorem famsUn_iff {fs : List Nat} {k i : Nat} : fs.idxOf? k = some i ↔ famsUn fs i = some k := by
  constructor
  · intro h
    simp [famsUn, idxOf?_spec h, h]
  · intro h
    unfold famsUn at h
    obtain ⟨k', _, h⟩ := Option.bind_eq_some_iff.1 h
    split at h
    · simp only [Option.some.injEq] at h; subst h; assumption
    · cases h

/-- What a call hands back that changes boxes. -/
theorem exportIO_sound {bx : List (Option (List T))} {w' : World} {nb K : Nat} {t : T} {x : Value} (hI : Inv P W S0 S β φ bx w') (hnb : nb % 2 = 0) (hx : Rep S w' β φ x t) :
    ∃ r outs, exportIO nb K bx t = .tup [r, .tup outs] ∧ ∃ β' φ', Core P W.X S β' φ' (outs.map decB) w' ∧ Rep S w' β' φ' x r ∧ ∀ l, l < 2 * K → β' l = β (l + nb) ∧ (bx[l + nb]? = some none → (outs.map decB)[l]? = some none) := by
  unfold exportIO
  generalize (t.fams ++ (insOf nb K ++ ownOf nb K bx t).flatMap fun s => famsL ((boxAt bx s).getD [])) = fs
  generalize ownOf nb K bx t = own
  unfold exportAs
  refine ⟨_, _, rfl, fun l => (outUn nb K own l).bind β, fun k => (famsUn fs k).bind φ, ?_⟩
  have hget : ∀ l : Nat, (((List.range (2 * (K + own.length))).map fun l => encB ((outUn nb K own l).bind fun s => if s < nb then some (remapL (outLab nb K own) (fun k => fs.idxOf? k) ((boxAt bx s).getD [])) else (boxAt bx s).map (remapL (outLab nb K own) (fun k => fs.idxOf? k)))).map decB)[l]? =
      if l < 2 * (K + own.length) then some ((outUn nb K own l).bind fun s => if s < nb then some (remapL (outLab nb K own) (fun k => fs.idxOf? k) ((boxAt bx s).getD [])) else (boxAt bx s).map (remapL (outLab nb K own) (fun k => fs.idxOf? k))) else none := fun l => by
    rw [List.map_map, List.getElem?_map]
    by_cases hlt : l < 2 * (K + own.length)
    · rw [List.getElem?_range hlt, if_pos hlt]
      simp [decB_encB]
    · rw [List.getElem?_eq_none (by simpa using hlt), if_neg hlt]
      rfl
  obtain ⟨h1, h2⟩ := hI.core.relabel (X' := W.X) (bx' := (((List.range (2 * (K + own.length))).map fun l => encB ((outUn nb K own l).bind fun s => if s < nb then some (remapL (outLab nb K own) (fun k => fs.idxOf? k) ((boxAt bx s).getD [])) else (boxAt bx s).map (remapL (outLab nb K own) (fun k => fs.idxOf? k)))).map decB))
    (ρ := outLab nb K own) (ρi := outUn nb K own) (η := fun k => fs.idxOf? k) (ηi := famsUn fs) (fun s l => outLab_iff) (fun k k' => famsUn_iff) (fun s l h => outLab_parity hnb h)
    (fun s l cs h1 h2 => by
      rw [hget, if_pos (outLab_lt h1), outLab_iff.1 h1]
      simp only [Option.bind_some, boxAt_spec.2 h2, Option.getD_some, Option.map_some]
      split <;> rfl)
    (fun l cs' h => by
      rw [hget] at h
      split at h <;> try (cases h; done)
      simp only [Option.some.injEq] at h
      obtain ⟨s, hs, h⟩ := Option.bind_eq_some_iff.1 h
      have hsl := outLab_iff.2 hs
      split at h
      · simp only [Option.some.injEq] at h
        cases hb : boxAt bx s with
        | none => rw [hb] at h; exact .inl h.symm
        | some cs => rw [hb] at h; exact .inr ⟨s, cs, hsl, boxAt_spec.1 hb, h.symm⟩
      · obtain ⟨cs, hcs, rfl⟩ := Option.map_eq_some_iff.1 h
        exact .inr ⟨s, cs, hsl, boxAt_spec.1 hcs, rfl⟩)
    (fun b hb => .inl hb)
  refine ⟨h1, h2 x t hx, fun l hl => ?_⟩
  have hu : outUn nb K own l = some (l + nb) := outLab_iff.1 (by
    unfold outLab
    rw [if_neg (by omega), if_pos (by omega)]
    congr 1
    omega)
  refine ⟨by simp [hu], fun hb => ?_⟩
  rw [hget, if_pos (by omega), hu]
  have hb' : boxAt bx (l + nb) = none := by unfold boxAt; rw [hb]; rfl
  simp [hb']

theorem runIO_sound {C : FuncId → List T → Option T} (hC : ∀ f args r, C f args = some r → Sound P f args r) {io : FuncId → Nat} {drawOk : List Nat → Array Oper → List (Option (Nat × Bool) × IOp) → Bool} (hD : DrawSound P drawOk) {N f : Nat} {fn : Func} {ifn : IFn} {h : Hints} {canon : List CM} {split : Bool} {args : List T} {ins : List (Option (List T))} {r0 : T}
    (hf : P.funcs[f]? = some fn) (hn : (fn.name == "runtime.NumGoroutine") = false) (hl : lower P io drawOk vm bm h canon split fn = some ifn) (hr : runIO C N ifn args ins = some r0) : ∃ r outs, r0 = .tup [r, .tup outs] ∧ SoundIO P f args ins r (outs.map decB) := by
  simp only [runIO] at hr
  split at hr <;> try (cases hr; done)
  rename_i hck
  obtain ⟨hlen, hpar⟩ := hck
  generalize hnb : 2 * ifn.nboxes = nb at hr
  generalize hargs : args.map (T.remap (fun l => some (l + nb)) some) = args' at hr
  generalize hbx : List.replicate nb none ++ ins.map (Option.map (remapL (fun l => some (l + nb)) some)) = bx at hr
  obtain ⟨σ, hex, hr⟩ : ∃ σ, (exec C N ifn.body ⟨[], args' ++ List.replicate (ifn.nvars - ifn.nparams) .undef, bx⟩ = some (.norm σ) ∨ exec C N ifn.body ⟨[], args' ++ List.replicate (ifn.nvars - ifn.nparams) .undef, bx⟩ = some (.ret σ)) ∧
      (resultsOf σ ifn.results ifn.canon).map (exportIO nb (ins.length / 2) σ.boxes) = some r0 := by
    split at hr <;> try (cases hr; done)
    · rename_i σ he; exact ⟨σ, .inl he, hr⟩
    · rename_i σ he; exact ⟨σ, .inr he, hr⟩
  obtain ⟨t, ht, rfl⟩ := Option.map_eq_some_iff.1 hr
  obtain ⟨hnbm, hcall, _⟩ := body_sound (W := ⟨default, fun _ => False, 0, noB, 0⟩) (w := default) (S := fun _ _ => False) (β := noB) (φ := noF) (σ := σ) hC hD (N := N) hf hn hl
  obtain ⟨r, outs, hexp⟩ : ∃ r outs, exportIO nb (ins.length / 2) σ.boxes t = .tup [r, .tup outs] := ⟨_, _, rfl⟩
  refine ⟨r, outs, hexp, hcall, fun B S β φ vs hI hvl hreps => ?_⟩
  let ρi : Nat → Option Nat := fun s => if nb ≤ s then some (s - nb) else none
  have hnb2 : nb % 2 = 0 := by omega
  obtain ⟨hcore, hrel⟩ := hI.core.relabel (X' := B.X) (bx' := bx) (ρ := fun l => some (l + nb)) (ρi := ρi) (η := some) (ηi := some)
    (fun l s => by
      simp only [ρi, Option.some.injEq]
      constructor
      · intro h; subst h; rw [if_pos (by omega)]; congr 1; omega
      · intro h; split at h
        · simp only [Option.some.injEq] at h; omega
        · cases h)
    (fun k k' => by simp [eq_comm]) (fun l s h => by simp only [Option.some.injEq] at h; omega)
    (fun l s cs h1 h2 => by
      simp only [Option.some.injEq] at h1
      subst h1
      rw [← hbx, List.getElem?_append_right (by simp), List.length_replicate, Nat.add_sub_cancel, List.getElem?_map, h2]
      rfl)
    (fun s cs' h => by
      rw [← hbx, List.getElem?_append] at h
      split at h
      · rw [List.getElem?_replicate] at h
        split at h <;> cases h
      · rename_i hge
        rw [List.length_replicate, List.getElem?_map] at h
        rw [List.length_replicate] at hge
        obtain ⟨o, ho, h⟩ := Option.map_eq_some_iff.1 h
        obtain ⟨cs, rfl, rfl⟩ := Option.map_eq_some_iff.1 h
        exact .inr ⟨s - nb, cs, by congr 1; omega, ho, rfl⟩)
    (fun b hb => .inl hb)
  let W : Base := ⟨B.w, B.X, nb, fun s => (ρi s).bind β, B.w.heap.size⟩
  have hI0 : Inv P W S S (fun s => (ρi s).bind β) (fun k => (some k).bind φ) bx B.w :=
    ⟨⟨rfl, rfl, rfl, Nat.le_refl _, hI.below.lt, fun _ _ => rfl, Grows.refl _⟩, hcore.lt, hcore.box, hcore.boxed, hcore.inj, hcore.fam, hcore.famInj, fun b o h => .inl h, fun _ _ h => h, fun _ _ _ _ _ h => h, fun s b _ h => .inl h⟩
  obtain ⟨_, _, hb⟩ := body_sound (W := W) (w := B.w) (S := S) (β := fun s => (ρi s).bind β) (φ := fun k => (some k).bind φ) (σ := σ) hC hD (N := N) hf hn hl
  refine (hb (args := args') (vs := vs) (by rw [← hargs]; simpa using hlen) hI0 rfl rfl (by show 2 * bm.length ≤ nb; rw [← hnbm, hnb]; exact Nat.le_refl _) (by rw [← hargs]; simpa using hvl) (fun i x t hx ht => ?_) hex ht).mono fun e w' ⟨x, S', β', φ', he, hI', hrep⟩ => ?_
  · rw [← hargs, List.getElem?_map] at ht
    obtain ⟨u, hu, rfl⟩ := Option.map_eq_some_iff.1 ht
    exact hrel _ _ (hreps i x u hx hu)
  · obtain ⟨r', outs', h1, β2, φ2, h2, h3, h4⟩ := exportIO_sound (K := ins.length / 2) hI' hnb2 hrep
    rw [hexp] at h1
    simp only [T.tup.injEq, List.cons.injEq, and_true] at h1
    obtain ⟨rfl, rfl⟩ := h1
    refine ⟨x, S', β2, φ2, he, ⟨⟨hI'.below.os, hI'.below.tape, hI'.below.output, hI'.below.size, hI'.below.lt, hI'.below.block, hI'.below.room⟩, h2.lt, h2.box, h2.boxed, h2.inj, h2.fam, h2.famInj, hI'.top, hI'.base, hI'.stay, fun s b _ h => by simp [noB] at h⟩, h3, fun l b hlb => ?_⟩
    obtain ⟨_, _, cs, hcs, _⟩ := hI.box l b hlb
    have hlt := (List.getElem?_eq_some_iff.1 hcs).1
    obtain ⟨g1, g2⟩ := h4 l (by omega)
    have hpin : W.β0 (l + nb) = some b := by
      show (ρi (l + nb)).bind β = some b
      simp only [ρi, show nb ≤ l + nb by omega, if_true, Nat.add_sub_cancel, Option.bind_some]
      exact hlb
    rcases hI'.pin (l + nb) b (by show nb ≤ l + nb; omega) hpin with h | h
    · exact .inl (by rw [g1]; exact h)
    · exact .inr (g2 h)

/-- Where a slice's nilness is not known, both ways come to the same. -/
theorem same_eq : ∀ (t u : T), t.same u = true → t = u := by
  intro t
  induction t using T.rec (motive_2 := fun ts => ∀ us, sameL ts us = true → ts = us) with
  | undef => intro u h; cases u <;> simp [T.same] at h; rfl
  | v x => intro u h; cases u <;> simp [T.same] at h
  | sl g n cs ih =>
    intro u h
    cases u <;> try (cases cs <;> simp [T.same] at h; done)
    rename_i g' n' cs'
    cases cs <;> cases cs' <;> simp [T.same] at h
    obtain ⟨rfl, rfl⟩ := h
    rfl
  | ptr => intro u h; cases u <;> simp [T.same] at h
  | ref => intro u h; cases u <;> simp [T.same] at h; obtain ⟨rfl, rfl⟩ := h; rfl
  | bsl => intro u h; cases u <;> simp [T.same] at h; obtain ⟨⟨⟨rfl, rfl⟩, rfl⟩, rfl⟩ := h; rfl
  | mref => intro u h; cases u <;> simp [T.same] at h; subst h; rfl
  | agg ts ih => intro u h; cases u <;> simp only [T.same] at h <;> first | (rw [ih _ h]) | cases h
  | tup ts ih => intro u h; cases u <;> simp only [T.same] at h <;> first | (rw [ih _ h]) | cases h
  | clo => intro u h; cases u <;> simp [T.same] at h
  | nil => rename_i us h; cases us <;> simp [sameL] at h; rfl
  | cons t ts ih1 ih2 =>
    rename_i us h
    cases us with
    | nil => simp [sameL] at h
    | cons u us => simp only [sameL, Bool.and_eq_true] at h; rw [ih1 _ h.1, ih2 _ h.2]

theorem rep_any0 {S : Nat → Nat → Prop} {w : World} {β : BMap} {φ : FMap} {v : Value} (h : Rep S w β φ v (.sl .any 0 [])) : Rep S w β φ v (.sl .nil 0 []) ∨ Rep S w β φ v (.sl .imm 0 []) := by
  generalize hq : T.sl .any 0 [] = q at h
  cases h with
  | nil _ _ g hg => exact .inl (.nil _ _ _ rfl)
  | sl _ _ g ad n c cs f hnc hg hcs hrep =>
    cases hq
    exact .inr (.sl _ _ _ ad _ c [] f hnc (.inl (.inl rfl)) (fun i hi => by simp at hi) (fun i t ht => by simp at ht))
  | _ => cases hq

theorem splits_sound {S : Nat → Nat → Prop} {w : World} {β : BMap} {φ : FMap} : ∀ (args : List T) (vs : List Value), vs.length = args.length → (∀ (i : Nat) (x : Value) (t : T), vs[i]? = some x → args[i]? = some t → Rep S w β φ x t) →
    ∃ args' ∈ splits args, args'.length = args.length ∧ ∀ (i : Nat) (x : Value) (t : T), vs[i]? = some x → args'[i]? = some t → Rep S w β φ x t
  | [], vs, _, _ => ⟨[], by simp [splits], rfl, fun i x t _ h => by simp at h⟩
  | t :: ts, [], hl, _ => by simp at hl
  | t :: ts, v :: vs, hl, hr => by
    obtain ⟨as, h1, h2, h3⟩ := splits_sound ts vs (by simpa using hl) fun i x t hx ht => hr (i + 1) x t (by simpa using hx) (by simpa using ht)
    have h0 := hr 0 v t rfl rfl
    have fin : ∀ u, u :: as ∈ splits (t :: ts) → Rep S w β φ v u → ∃ args' ∈ splits (t :: ts), args'.length = (t :: ts).length ∧ ∀ (i : Nat) (x : Value) (t : T), (v :: vs)[i]? = some x → args'[i]? = some t → Rep S w β φ x t := fun u hm hu =>
      ⟨u :: as, hm, by simp [h2], fun i x t hx ht => by
        cases i with
        | zero => simp at hx ht; subst hx ht; exact hu
        | succ i => simp at hx ht; exact h3 i x t hx ht⟩
    by_cases hs : t = .sl .any 0 []
    · subst hs
      rcases rep_any0 h0 with h' | h'
      · exact fin (.sl .nil 0 []) (by simp [splits, h1]) h'
      · exact fin (.sl .imm 0 []) (by simp [splits, h1]) h'
    · refine fin t ?_ h0
      have : splits (t :: ts) = (splits ts).map (t :: ·) := by
        conv => lhs; unfold splits
        split
        · rename_i h; cases h
        · rename_i h; simp only [List.cons.injEq] at h; exact absurd h.1 hs
        · rename_i h; simp only [List.cons.injEq] at h; obtain ⟨rfl, rfl⟩ := h; rfl
      rw [this]
      exact List.mem_map.2 ⟨as, h1, rfl⟩

theorem runSplit_spec {split : Bool} {args : List T} {F : List T → Option T} {r : T} (h : runSplit split args F = some r) : (split = false ∧ F args = some r) ∨ ∀ as ∈ splits args, F as = some r := by
  unfold runSplit at h
  split at h
  · right
    intro as has
    split at h <;> try (cases h; done)
    rename_i r0 rs hm
    split at h <;> try (cases h; done)
    rename_i hall
    simp only [Option.some.injEq] at h
    subst h
    obtain ⟨i, hi⟩ := List.mem_iff_getElem?.1 has
    obtain ⟨hlen, hsp⟩ := mapM_spec hm
    have hlt := (List.getElem?_eq_some_iff.1 hi).1
    have hlt' : i < (r0 :: rs).length := by omega
    have := hsp i _ ((r0 :: rs)[i]) hi (by simp [hlt'])
    rw [this]
    rw [List.all_eq_true] at hall
    cases i with
    | zero => rfl
    | succ i =>
      simp only [List.getElem_cons_succ]
      have := same_eq _ _ (hall (rs[i]'(by simpa using hlt')) (List.getElem_mem _))
      rw [← this]
  · rename_i hs
    exact .inl ⟨by simpa using hs, h⟩

/-- What the environment must be. -/
structure EnvOK (P : Program) (E : Env) : Prop where
  fn : ∀ f ifn, E.fn f = some ifn → ∃ (io : FuncId → Nat) (drawOk : List Nat → Array Oper → List (Option (Nat × Bool) × IOp) → Bool) (vm bm : List Nat) (h : Hints) (canon : List CM) (split : Bool) (fn : Func), DrawSound P drawOk ∧ P.funcs[f]? = some fn ∧ (fn.name == "runtime.NumGoroutine") = false ∧ lower P io drawOk vm bm h canon split fn = some ifn
  prim : ∀ f g args r, E.prim f = some g → g args = some r → Sound P f args r

theorem SoundV.split {f : FuncId} {args : List T} {r : T} (h : ∀ as ∈ splits args, SoundV P f as r) : SoundV P f args r := by
  have hne : ∃ as, as ∈ splits args := by
    have : ∀ l : List T, ∃ as, as ∈ splits l := by
      intro l
      induction l with
      | nil => exact ⟨[], by simp [splits]⟩
      | cons t ts ih =>
        obtain ⟨as, has⟩ := ih
        unfold splits
        split
        · exact ⟨[], by simp⟩
        · rename_i h; simp only [List.cons.injEq] at h; obtain ⟨_, rfl⟩ := h; exact ⟨.sl .nil 0 [] :: as, by simp [has]⟩
        · rename_i h; simp only [List.cons.injEq] at h; obtain ⟨rfl, rfl⟩ := h; exact ⟨t :: as, by simp [has]⟩
    exact this args
  obtain ⟨as0, has0⟩ := hne
  refine ⟨(h as0 has0).1, fun w S vs hS hl hreps => ?_⟩
  obtain ⟨as, has, hlen, hr⟩ := splits_sound (S := S) (w := w) (β := noB) (φ := noF) args vs.toList (by simpa using hl) (fun i x t hx ht => hreps i x t (by simpa using hx) ht)
  exact (h as has).2 w S vs hS (by omega) fun i x t hx ht => hr i x t (by simpa using hx) ht

theorem SoundIO.split {f : FuncId} {args : List T} {ins outs : List (Option (List T))} {r : T} (hc : callable P f = true) (h : ∀ as ∈ splits args, SoundIO P f as ins r outs) : SoundIO P f args ins r outs := by
  refine ⟨hc, fun B S β φ vs hI hl hreps => ?_⟩
  obtain ⟨as, has, hlen, hr⟩ := splits_sound (S := S) (w := B.w) (β := β) (φ := φ) args vs.toList (by simpa using hl) (fun i x t hx ht => hreps i x t (by simpa using hx) ht)
  exact (h as has).2 B S β φ vs hI (by omega) fun i x t hx ht => hr i x t (by simpa using hx) ht

theorem callN_sound {E : Env} (hE : EnvOK P E) : ∀ (n : Nat) (f : FuncId) (args : List T) (r : T), callN E n f args = some r → Sound P f args r
  | 0, f, args, r, h => by simp [callN] at h
  | n + 1, f, args, r, h => by
    simp only [callN] at h
    split at h
    · rename_i g hg
      exact hE.prim f g args r hg h
    · split at h
      · rename_i hlt
        unfold Sound
        rw [if_pos hlt]
        split at h <;> try (cases h; done)
        rename_i fn hfn
        obtain ⟨io, drawOk, vm, bm, hh, cn, sp, fn', hD, hf, hn, hl⟩ := hE.fn f fn hfn
        rcases runSplit_spec h with ⟨_, h⟩ | h
        · exact runFn_sound (callN_sound hE n) hD hf hn hl h
        · exact SoundV.split fun as has => runFn_sound (callN_sound hE n) hD hf hn hl (h as has)
      · rename_i hlt
        unfold Sound
        rw [if_neg hlt]
        split at h <;> try (cases h; done)
        · rename_i fn as ins hfn
          obtain ⟨io, drawOk, vm, bm, hh, cn, sp, fn', hD, hf, hn, hl⟩ := hE.fn _ fn hfn
          rcases runSplit_spec h with ⟨_, h⟩ | h
          · obtain ⟨r', outs, rfl, hs⟩ := runIO_sound (callN_sound hE n) hD hf hn hl h
            exact .inl ⟨as, ins, r', outs, rfl, rfl, hs⟩
          · have hne : ∃ as', as' ∈ splits as := by
              have : ∀ l : List T, ∃ as, as ∈ splits l := by
                intro l
                induction l with
                | nil => exact ⟨[], by simp [splits]⟩
                | cons t ts ih =>
                  obtain ⟨as, has⟩ := ih
                  unfold splits
                  split
                  · exact ⟨[], by simp⟩
                  · rename_i h; simp only [List.cons.injEq] at h; obtain ⟨_, rfl⟩ := h; exact ⟨.sl .nil 0 [] :: as, by simp [has]⟩
                  · rename_i h; simp only [List.cons.injEq] at h; obtain ⟨rfl, rfl⟩ := h; exact ⟨t :: as, by simp [has]⟩
              exact this as
            obtain ⟨as0, has0⟩ := hne
            obtain ⟨r', outs, rfl, hs⟩ := runIO_sound (callN_sound hE n) hD hf hn hl (h as0 has0)
            refine .inl ⟨as, ins, r', outs, rfl, rfl, SoundIO.split hs.1 fun as' has' => ?_⟩
            obtain ⟨r2, outs2, e, hs2⟩ := runIO_sound (callN_sound hE n) hD hf hn hl (h as' has')
            simp only [T.tup.injEq, List.cons.injEq, and_true] at e
            obtain ⟨rfl, rfl⟩ := e
            exact hs2
        · rename_i fn caps hfn
          obtain ⟨io, drawOk, vm, bm, hh, cn, sp, fn', hD, hf, hn, hl⟩ := hE.fn _ fn hfn
          obtain ⟨ys, h1, rfl⟩ := Option.map_eq_some_iff.1 h
          exact .inr ⟨caps, ys, rfl, rfl, runSeq_sound (callN_sound hE n) hD hf hn hl h1⟩
end
end Go.Vi
end
