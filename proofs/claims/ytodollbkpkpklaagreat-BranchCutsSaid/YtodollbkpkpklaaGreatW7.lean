/-
  A claim's own text, joined by a small program out of: Vj14c, Vj15.
-/
import Derived.Test.YtodollbkpkpklaaGreatW6
import Derived.TacticsIn
import Derived.OrdersIn
import Derived.LoopNIn
import Derived.RangeFuncWrites
import Derived.RangeFuncLeaves
set_option linter.unusedVariables false
set_option linter.unusedSimpArgs false
section
/-
  A VERIFIED INTERPRETER (part 14c): an operation that is a call.
-/
set_option linter.unusedSimpArgs false
set_option linter.unusedVariables false
namespace Go.Vi
open Go Go.RowKit

section
variable {P : Program} {W : Base} {w : World} {S0 S : Nat → Nat → Prop} {β : BMap} {φ : FMap} {a : Act} {o : Oper} {σ : St}

theorem callsIn_wd {r : Option Nat} {n f : Nat} {args : Array Value} {R : Ending → World → Prop} (h : Calls P f args w R) : CallsIn (wd r) n P f args w R := (callsIn_wide (n := n)).2 h

theorem RunsTo.wpIn {r : Option Nat} {n : Nat} {x : Value} {w' : World} {K : Act → World → Prop} {Q : Exit → Act → World → Prop} (h : RunsTo P a o w x w') (hd : ∀ c, o.op ≠ .defer c) (hK : K (a.put o.dst x) w') : o.wpIn (wd r) n P a w K Q := by
  unfold Oper.wpIn
  refine ⟨fun _ _ => trivial, ?_⟩
  rw [Oper.semAt_eq _ _ _ hd]
  rcases h with h | ⟨rfl, h⟩
  · rw [h]; exact hK
  · rw [h]; exact hK

theorem low_nodefer {io : FuncId → Nat} {vm bm : List Nat} {done : List (Option Nat)} {i : IOp} (h : lowOp P io vm bm done o = some i) : ∀ c, o.op ≠ .defer c := by
  intro c hc
  simp only [lowOp, hc] at h
  cases h

theorem remapL_some : ∀ (η : Nat → Option Nat) (ts : List T), remapL (fun s => match lab [] s with | some l => none | none => some s) η ts = remapL some η ts := by
  intro η ts
  have : (fun s => match lab [] s with | some l => none | none => some s) = (some : Nat → Option Nat) := by funext s; rfl
  rw [this]

mutual
theorem refs_nil : ∀ t : T, t.hasRef = false → t.refs = []
  | .ref .., h | .bsl .., h | .mref .., h => by simp [T.hasRef] at h
  | .agg ts, h => by simp only [T.hasRef] at h; simp only [T.refs, refsL_nil ts h]
  | .tup ts, h => by simp only [T.hasRef] at h; simp only [T.refs, refsL_nil ts h]
  | .clo f a b, h => by simp only [T.hasRef, Bool.or_eq_false_iff] at h; simp only [T.refs, refsL_nil a h.1, refsL_nil b h.2, List.append_nil]
  | .undef, _ | .v _, _ | .sl .., _ | .ptr .., _ => rfl
theorem refsL_nil : ∀ ts : List T, hasRefL ts = false → refsL ts = []
  | [], _ => rfl
  | t :: ts, h => by simp only [hasRefL, Bool.or_eq_false_iff] at h; simp only [refsL, refs_nil t h.1, refsL_nil ts h.2, List.append_nil]
end

/-- A call that hands over boxes that it made. -/
theorem callNew_callIO {C : FuncId → List T → Option T} {d f : Nat} {ad : List Nat} {as : List T} {p : T × St} (h : runOp.callNew C σ d ad f as = some p) : runOp.callIO C σ d ad f as = some p := by
  unfold runOp.callNew at h
  split at h
  · cases h
  · rename_i href
    have hr := refsL_nil as (by simpa using href)
    unfold runOp.callIO
    have h0 : reach σ.boxes 10000 [] (refsL as) = [] := by rw [hr]; rfl
    simp only [h0, List.flatMap_nil, List.length_nil, Nat.mul_zero, List.range_zero, List.map_nil]
    split at h
    · rename_i r outs hC
      split at h
      · rename_i hck
        obtain ⟨h1, h2, h3⟩ := hck
        have hl : ioLive [] outs = some := by funext s; rfl
        have hη : ioKeep d [] = fun k => if hit (2 * d) k then none else some k := by funext k; simp [ioKeep]
        rw [if_pos ⟨by simpa using h1, by
          rw [List.all_eq_true] at h2 ⊢
          intro s hs
          have := h2 s hs
          simp only [Bool.and_eq_true] at this ⊢
          exact ⟨⟨this.1.1, by simp⟩, by simp⟩, h3, List.nodup_nil, by simp⟩]
        simp only [hl, hη]
        rw [← h]
        simp only [St.strip]
        have e : ∀ ts, stripL (2 * d) ts = remapL some (fun k => if hit (2 * d) k then none else some k) ts := stripL_remap (2 * d)
        simp only [e]
        have e2 : stripL (2 * d) = remapL some (fun k => if hit (2 * d) k then none else some k) := by funext ts; exact e ts
        rw [e2]
      · cases h
    · cases h

theorem adOf_lt {bm : List Nat} {d s : Nat} (h : s ∈ adOf bm d) : s + 1 < 2 * bm.length := by
  unfold adOf at h
  obtain ⟨j, _, hj⟩ := List.mem_filterMap.1 h
  exact slotOf_lt hj

theorem run_callFunc {f : Nat} {vs : Array Value} (h : callable P f = true) : (callFunc f vs).run P w = .ok (.enter f vs) w := by
  unfold callable at h
  split at h
  · rename_i fn hfn
    simp only [Bool.and_eq_true, Bool.not_eq_true'] at h
    have hb : fn.body.isNone = false := by
      cases hb : fn.body with
      | none => rw [hb] at h; simp at h
      | some _ => rfl
    have h1 : ¬ fn.name = "runtime.NumGoroutine" := by simpa using h.2
    have h2 : ¬ fn.body = none := fun h => by rw [h] at hb; cases hb
    simp [callFunc, hfn, h1, h2]
  · cases h

/-- An operation that is a call. -/
theorem opcall_sound {C : FuncId → List T → Option T} (hC : ∀ f args r, C f args = some r → Sound P f args r) {io : FuncId → Nat} {vm bm : List Nat} {done : List (Option Nat)} {i : IOp} {t : T} {σ' : St} (hI : Inv P W S0 S β φ σ.boxes w) (hnb : 2 * bm.length ≤ W.nb)
    (hop : ∀ x d, lowOpd vm done x = some d → Rep S w β φ (a.eval x) (d.get σ)) (hl : lowOp P io vm bm done o = some i) {c : Call} {fo : Operand} (ho : o.op = .call c) (hcv : c.callee = .value fo) (hr : runOp C σ i = some (t, σ')) {K : Act → World → Prop} {Q : Exit → Act → World → Prop}
    (hK : ∀ x w', After P W S0 S β φ w σ σ' t x w' → K (a.put o.dst x) w') {rn : Option Nat} {n : Nat} : o.wpIn (wd rn) n P a w K Q := by
  have hnd := low_nodefer hl
  generalize hopd : lowOpd vm done = opd at hop
  have fin0 : ∀ f (vs : Array Value), (execOp a.eval o).run P w = (callFunc f vs).run P w → (callable P f = true ∧ Calls P f vs w fun e w' => ∃ x, e = .returned x ∧ After P W S0 S β φ w σ σ' t x w') → o.wpIn (wd rn) n P a w K Q := by
    intro f vs hrun ⟨hcall, hcalls⟩
    unfold Oper.wpIn
    refine ⟨fun _ _ => trivial, ?_⟩
    rw [Oper.semAt_eq _ _ _ hnd, hrun, run_callFunc hcall, Oper.uponIn_enter]
    refine ⟨(fun h => by cases h), (callsIn_wd hcalls).mono fun e w' h => ?_⟩
    obtain ⟨x, rfl, hA⟩ := h
    exact hK x w' hA
  have had : ∀ d, ∀ s ∈ adOf bm d, s + 1 < W.nb := fun d s hs => by have := adOf_lt hs; omega
  -- however it is called
  have fin : ∀ f (vs : Array Value) (as : List T), (execOp a.eval o).run P w = (callFunc f vs).run P w → vs.size = as.length → (∀ (i : Nat) (x : Value) (t : T), vs[i]? = some x → as[i]? = some t → Rep S w β φ x t) → ∀ d,
      (runOp.callT C σ d f as = some (t, σ') ∨ runOp.callNew C σ d (adOf bm d) f as = some (t, σ') ∨ runOp.callIO C σ d (adOf bm d) f as = some (t, σ')) → o.wpIn (wd rn) n P a w K Q := by
    intro f vs as hrun hl ha d hr
    rcases hr with hr | hr | hr
    · exact fin0 f vs hrun (callT_sound hC hI hl ha hr)
    · exact fin0 f vs hrun (callIO_sound hC hI (had d) hl ha (callNew_callIO hr))
    · exact fin0 f vs hrun (callIO_sound hC hI (had d) hl ha hr)
  have args : ∀ (xs : Array Operand) (ds : List Opd), xs.toList.mapM opd = some ds → (xs.map a.eval).size = (ds.map (Opd.get σ)).length ∧ ∀ (i : Nat) (x : Value) (t : T), (xs.map a.eval)[i]? = some x → (ds.map (Opd.get σ))[i]? = some t → Rep S w β φ x t := by
    intro xs ds h
    obtain ⟨h1, h2⟩ := mapM_spec h
    refine ⟨by simpa using h1, fun i x t hx ht => ?_⟩
    simp only [Array.getElem?_map, Option.map_eq_some_iff, List.getElem?_map] at hx ht
    obtain ⟨p, hp, rfl⟩ := hx
    obtain ⟨q, hq, rfl⟩ := ht
    exact hop p q (h2 i p q (by simpa using hp) hq)
  obtain ⟨cl, ar, at'⟩ := c
  simp only at hcv
  subst hcv
  simp only [lowOp, ho, hopd, Option.bind_eq_bind] at hl
  cases hd : o.dst with
  | none => rw [hd] at hl; cases fo <;> simp at hl
  | some d =>
    rw [hd] at hl
    cases fo with
    | const v => simp at hl
    | global g => simp at hl
    | func f =>
      simp only at hl
      obtain ⟨ds, hds, hl⟩ := Option.bind_eq_some_iff.1 hl
      simp only [Option.some.injEq] at hl
      subst hl
      obtain ⟨h1, h2⟩ := args _ _ hds
      refine fin f (ar.map a.eval) _ (by simp [execOp, ho, resolve, Act.eval, Deferred.ofValue, invoke]) h1 h2 d ?_
      unfold callOp at hr
      split at hr
      · exact .inl hr
      · exact .inr (.inl hr)
      · exact .inr (.inr hr)
    | tmp s =>
      simp only at hl
      obtain ⟨q, hq, hl⟩ := Option.bind_eq_some_iff.1 hl
      obtain ⟨ds, hds, hl⟩ := Option.bind_eq_some_iff.1 hl
      simp only [Option.some.injEq] at hl
      subst hl
      have hx := hop _ _ hq
      obtain ⟨h1, h2⟩ := args _ _ hds
      generalize hv : a.eval (.tmp s) = xv at hx
      obtain ⟨f, first, cap, hg, hr⟩ : ∃ f first cap, calleeOf (q.get σ) = some (f, first, cap) ∧ (runOp.callT C σ d f (first ++ ds.map (Opd.get σ) ++ cap) = some (t, σ') ∨ runOp.callNew C σ d (adOf bm d) f (first ++ ds.map (Opd.get σ) ++ cap) = some (t, σ') ∨ runOp.callIO C σ d (adOf bm d) f (first ++ ds.map (Opd.get σ) ++ cap) = some (t, σ')) := by
        unfold callvOp at hr
        split at hr
        · simp only [runOp] at hr
          split at hr <;> try (cases hr; done)
          rename_i f first cap hg
          exact ⟨f, first, cap, hg, .inr (.inr hr)⟩
        · simp only [runOp] at hr
          split at hr <;> try (cases hr; done)
          rename_i f first cap hg
          exact ⟨f, first, cap, hg, .inl hr⟩
      generalize q.get σ = u at hg hx
      unfold calleeOf at hg
      split at hg
      · rename_i f' aa bb
        split at hg <;> try (cases hg; done)
        rename_i hz
        simp only [Option.some.injEq, Prod.mk.injEq] at hg
        obtain ⟨rfl, rfl, rfl⟩ := hg
        have := rep_v hx
        subst this
        obtain rfl : aa = #[] := Array.eq_empty_of_size_eq_zero hz.1
        obtain rfl : bb = #[] := Array.eq_empty_of_size_eq_zero hz.2
        exact fin f' (ar.map a.eval) (ds.map (Opd.get σ)) (by simp [execOp, ho, resolve, hv, Deferred.ofValue, invoke]) (by simpa using h1) (by simpa using h2) d (by simpa using hr)
      · rename_i f' first' cap'
        simp only [Option.some.injEq, Prod.mk.injEq] at hg
        obtain ⟨rfl, rfl, rfl⟩ := hg
        cases hx with
        | clo _ _ fn xs ys ts us hxl hyl k1 k2 =>
          refine fin f' (xs ++ ar.map a.eval ++ ys) (first' ++ ds.map (Opd.get σ) ++ cap') (by simp [execOp, ho, resolve, hv, Deferred.ofValue, invoke]) (by simp at h1 ⊢; omega) (fun i x t hx ht => ?_) d hr
          rw [Array.getElem?_append] at hx
          rw [List.getElem?_append] at ht
          have e1 : (xs ++ ar.map a.eval).size = (first' ++ ds.map (Opd.get σ)).length := by simp at h1 ⊢; omega
          rw [← e1] at ht
          split at hx
          · rename_i hi
            rw [if_pos hi] at ht
            rw [Array.getElem?_append] at hx
            rw [List.getElem?_append, ← hxl] at ht
            split at hx
            · rename_i hi'; rw [if_pos hi'] at ht; exact k1 i x t hx ht
            · rename_i hi'; rw [if_neg hi'] at ht; exact h2 _ x t hx ht
          · rename_i hi; rw [if_neg hi] at ht; exact k2 _ x t hx ht
      · cases hg
end
end Go.Vi
end
section
/-
  A VERIFIED INTERPRETER (part 15): regions, code, functions.
-/
set_option linter.unusedSimpArgs false
set_option linter.unusedVariables false
namespace Go.Vi
open Go Go.RowKit

section
variable {P : Program} {W : Base} {w : World} {S0 S : Nat → Nat → Prop} {β : BMap} {φ : FMap} {a : Act} {o : Oper} {σ : St} {nt : Nat} {vm bm : List Nat}

/-- What a range over a function leaves among the deferred calls. -/
def markOf (D : Nat) : Deferred := { target := .collected D, args := #[] }

/-- The activation is as the interpreter's state tells. -/
structure RegRel (P : Program) (W : Base) (S0 S : Nat → Nat → Prop) (β : BMap) (φ : FMap) (nt : Nat) (vm : List Nat) (done : List (Option Nat)) (σ : St) (a : Act) (w : World) : Prop where
  inv : Inv P W S0 S β φ σ.boxes w
  nd : ∃ Ds : List Nat, Ds.Nodup ∧ a.defers = Ds.map markOf ∧ ∀ D ∈ Ds, W.X D ∧ W.w.heap[D]? = some (.deferred (some [])) ∧ W.m0 ≤ D
  size : a.tmps.size = nt
  vlen : σ.vars.length = vm.length
  rlen : σ.rs.length = done.length
  vars : ∀ (i s : Nat) (u : T), vm[i]? = some s → some s ∉ done → σ.vars[i]? = some u → Rep S w β φ (a.tmps.getD s undef) u
  regs : ∀ (j s : Nat) (u : T), done[j]? = some (some s) → σ.rs[j]? = some u → Rep S w β φ (a.tmps.getD s undef) u
  dist : ∀ (j j' s : Nat), done[j]? = some (some s) → done[j']? = some (some s) → j = j'

theorem lastIdx_some {done : List (Option Nat)} {s i : Nat} (h : lastIdx done s = some i) : done[i]? = some (some s) := by
  unfold lastIdx at h
  rw [List.idxOf?, List.findIdx?_eq_some_iff_getElem] at h
  obtain ⟨hi, h, _⟩ := h
  simp only [beq_iff_eq] at h
  simp [hi, h]

theorem lastIdx_none {done : List (Option Nat)} {s : Nat} (h : lastIdx done s = none) : some s ∉ done := by
  unfold lastIdx at h
  simpa using h

theorem RegRel.opd {done : List (Option Nat)} (h : RegRel P W S0 S β φ nt vm done σ a w) (x : Operand) (d : Opd) (hx : lowOpd vm done x = some d) : Rep S w β φ (a.eval x) (d.get σ) := by
  unfold lowOpd at hx
  cases x with
  | tmp s =>
    simp only at hx
    split at hx
    · rename_i i hi
      simp only [Option.some.injEq] at hx
      subst hx
      have h1 := lastIdx_some hi
      have hlt : i < σ.rs.length := by rw [h.rlen]; exact (List.getElem?_eq_some_iff.1 h1).1
      simp only [Opd.get, Act.eval, List.getD_eq_getElem?_getD]
      exact h.regs i s _ h1 (by simp [hlt])
    · rename_i hn
      obtain ⟨i, hi, rfl⟩ := Option.map_eq_some_iff.1 hx
      rw [List.idxOf?, List.findIdx?_eq_some_iff_getElem] at hi
      obtain ⟨hi, h1, _⟩ := hi
      simp only [beq_iff_eq] at h1
      have hlt : i < σ.vars.length := by rw [h.vlen]; exact hi
      simp only [Opd.get, Act.eval, List.getD_eq_getElem?_getD]
      exact h.vars i s _ (by simp [hi, h1]) (lastIdx_none hn) (by simp [hlt])
  | const v =>
    simp only at hx
    split at hx
    · rename_i hk
      simp only [Option.some.injEq] at hx
      subst hx
      exact rep_ofValue v hk
    · cases hx
  | func f =>
    simp only [Option.some.injEq] at hx
    subst hx
    exact .v ..
  | global g => cases hx

theorem getD_set_ne {ts : Array Value} {d s : Nat} {x : Value} (h : d ≠ s) : (ts.setIfInBounds d x).getD s undef = ts.getD s undef := by
  simp [Array.getD_eq_getD_getElem?, Array.getElem?_setIfInBounds, h]

theorem getD_set_eq {ts : Array Value} {d : Nat} {x : Value} (h : d < ts.size) : (ts.setIfInBounds d x).getD d undef = x := by
  simp [Array.getD_eq_getD_getElem?, Array.getElem?_setIfInBounds, h]

/-- An operation's result is laid down. -/
theorem RegRel.put {done : List (Option Nat)} (h : RegRel P W S0 S β φ nt vm done σ a w) {dst : Option Nat} (hd : ∀ s, dst = some s → some s ∉ done ∧ s < nt) {t : T} {x : Value} (hx : Rep S w β φ x t) :
    RegRel P W S0 S β φ nt vm (done ++ [dst]) { σ with rs := σ.rs ++ [t] } (a.put dst x) w := by
  have hne : ∀ s, s ∈ dst → ∀ s', some s' ≠ dst → (a.put dst x).tmps.getD s' undef = a.tmps.getD s' undef := by
    intro s hs s' hs'
    rw [Option.mem_def] at hs
    subst hs
    simp only [Act.put]
    exact getD_set_ne (by intro h; subst h; exact hs' rfl)
  have hne' : ∀ s', some s' ≠ dst → (a.put dst x).tmps.getD s' undef = a.tmps.getD s' undef := by
    intro s' hs'
    cases dst with
    | none => rfl
    | some s => exact hne s rfl s' hs'
  refine ⟨h.inv, ?_, ?_, h.vlen, by simp [h.rlen], fun i s u hi hn hu => ?_, fun j s u hj hu => ?_, fun j j' s hj hj' => ?_⟩
  · obtain ⟨Ds, h1, h2, h3⟩ := h.nd
    exact ⟨Ds, h1, by cases dst <;> simpa [Act.put] using h2, h3⟩
  · cases dst <;> simp [Act.put, h.size]
  · simp only [List.mem_append, List.mem_singleton, not_or] at hn
    rw [hne' s hn.2]
    exact h.vars i s u hi hn.1 hu
  · simp only [List.getElem?_append] at hj hu
    rw [h.rlen] at hu
    split at hj
    · rename_i hlt
      rw [if_pos hlt] at hu
      by_cases hs : some s = dst
      · exact absurd (List.mem_of_getElem? hj) (hd s hs.symm).1
      · rw [hne' s hs]; exact h.regs j s u hj hu
    · rename_i hlt
      rw [if_neg hlt] at hu
      rw [List.getElem?_singleton] at hj hu
      split at hj
      · rename_i h0
        rw [if_pos h0] at hu
        simp only [Option.some.injEq] at hj hu
        subst hu
        subst hj
        simp only [Act.put]
        rw [getD_set_eq (by rw [h.size]; exact (hd s rfl).2)]
        exact hx
      · cases hj
  · have key : ∀ j, (done ++ [dst])[j]? = some (some s) → (j < done.length ∧ done[j]? = some (some s)) ∨ (j = done.length ∧ dst = some s) := by
      intro j hj
      rw [List.getElem?_append] at hj
      split at hj
      · rename_i hlt; exact .inl ⟨hlt, hj⟩
      · rename_i hlt
        rw [List.getElem?_singleton] at hj
        split at hj
        · rename_i h0; simp only [Option.some.injEq] at hj; exact .inr ⟨by omega, hj⟩
        · cases hj
    rcases key j hj with ⟨_, h1⟩ | ⟨h1, h1'⟩ <;> rcases key j' hj' with ⟨_, h2⟩ | ⟨h2, h2'⟩
    · exact h.dist j j' s h1 h2
    · exact absurd (List.mem_of_getElem? h1) (hd s h2').1
    · exact absurd (List.mem_of_getElem? h2) (hd s h1').1
    · omega

/-- Behind an operation. -/
theorem RegRel.after {done : List (Option Nat)} (h : RegRel P W S0 S β φ nt vm done σ a w) {σ' : St} {t : T} {x : Value} {w' : World} (hA : After P W S0 S β φ w σ σ' t x w') {dst : Option Nat} (hd : ∀ s, dst = some s → some s ∉ done ∧ s < nt) :
    ∃ S' β' φ', RegRel P W S0 S' β' φ' nt vm (done ++ [dst]) { σ' with rs := σ'.rs ++ [t] } (a.put dst x) w' := by
  obtain ⟨S', β', φ', adj, hx, hI, hm, hrs, hvs⟩ := hA
  refine ⟨S', β', φ', RegRel.put ⟨hI, h.nd, h.size, by simp [hvs, h.vlen], by simp [hrs, h.rlen], fun i s u hi hn hu => ?_, fun j s u hj hu => ?_, h.dist⟩ hd hx⟩
  · rw [hvs, List.getElem?_map] at hu
    obtain ⟨u', hu', rfl⟩ := Option.map_eq_some_iff.1 hu
    exact hm _ _ (h.vars i s u' hi hn hu')
  · rw [hrs, List.getElem?_map] at hu
    obtain ⟨u', hu', rfl⟩ := Option.map_eq_some_iff.1 hu
    exact hm _ _ (h.regs j s u' hj hu')

/-- One operation of a region that is wanted. -/
theorem oper_sound {C : FuncId → List T → Option T} (hC : ∀ f args r, C f args = some r → Sound P f args r) {done : List (Option Nat)} (h : RegRel P W S0 S β φ nt vm done σ a w) {io : FuncId → Nat} {i : IOp} {t : T} {σ' : St} (hnb : 2 * bm.length ≤ W.nb)
    (hl : lowOp P io vm bm done o = some i) (hd : ∀ s, o.dst = some s → some s ∉ done ∧ s < nt) (hr : runOp C σ i = some (t, σ')) {K : Act → World → Prop} {Q : Exit → Act → World → Prop}
    (hK : ∀ S' β' φ' a' w', RegRel P W S0 S' β' φ' nt vm (done ++ [o.dst]) { σ' with rs := σ'.rs ++ [t] } a' w' → K a' w') {rn : Option Nat} {n : Nat} : o.wpIn (wd rn) n P a w K Q := by
  by_cases hc : ∃ c f, o.op = .call c ∧ c.callee = .value f
  · obtain ⟨c, f, ho, hcv⟩ := hc
    refine opcall_sound hC h.inv hnb h.opd hl ho hcv hr fun x w' hA => ?_
    obtain ⟨S', β', φ', hR⟩ := h.after hA hd
    exact hK _ _ _ _ _ hR
  · obtain ⟨x, w', hrun, hA⟩ := op_sound (a := a) (o := o) h.inv hnb h.opd hl (fun c f ho hcv => hc ⟨c, f, ho, hcv⟩) hr
    obtain ⟨S', β', φ', hR⟩ := h.after hA hd
    exact hrun.wpIn (low_nodefer hl) (hK _ _ _ _ _ hR)

/-- A guard. -/
theorem guard_spec {done : List (Option Nat)} (h : RegRel P W S0 S β φ nt vm done σ a w) {ops : Array Oper} (hops : ∀ (j s : Nat), done[j]? = some (some s) → (ops[j]?).bind (·.dst) = some s)
    (hg : ∀ j b, o.guard = some (j, b) → ((done[j]?).join).isSome = true) {go : Bool}
    (hgo : wantedT σ.rs o.guard = some go) : Region.wanted o (yielded ops a.tmps) = go := by
  unfold Region.wanted
  unfold wantedT at hgo
  cases hgd : o.guard with
  | none => rw [hgd] at hgo; simpa using hgo
  | some p =>
    obtain ⟨j, want⟩ := p
    rw [hgd] at hgo
    simp only at hgo
    have h1 := hg j want hgd
    obtain ⟨s, hs⟩ : ∃ s, done[j]? = some (some s) := by
      cases hd : done[j]? with
      | none => rw [hd] at h1; simp at h1
      | some q => cases q with
        | none => rw [hd] at h1; simp at h1
        | some s => exact ⟨s, rfl⟩
    have hy : yielded ops a.tmps j = match a.tmps[s]? with | some (.bool b) => some b | _ => none := by
      unfold yielded
      rw [hops j s hs]
      rfl
    simp only [hy]
    have hval : ∀ v, a.tmps.getD s undef = v → v ≠ undef → a.tmps[s]? = some v := by
      intro v hv hne
      rw [Array.getD_eq_getD_getElem?] at hv
      cases ht : a.tmps[s]? with
      | none => rw [ht] at hv; exact absurd hv.symm hne
      | some x => rw [ht] at hv; simp at hv; rw [hv]
    split at hgo
    · rename_i b hb
      have := rep_v (h.regs j s _ hs hb)
      rw [hval _ this (by simp [undef])]
      simp only [Option.some.injEq] at hgo
      subst hgo
      cases b <;> cases want <;> rfl
    · rename_i b hb
      have := rep_v (h.regs j s _ hs hb)
      simp only [Option.some.injEq] at hgo
      subst hgo
      have hnb : (match a.tmps[s]? with | some (.bool b) => some b | _ => none) = (none : Option Bool) := by
        rw [Array.getD_eq_getD_getElem?] at this
        cases ht : a.tmps[s]? with
        | none => rfl
        | some x => rw [ht] at this; simp at this; subst this; rfl
      rw [hnb]; rfl
    · cases hgo

/-- The operations of a region, in the order of the text. -/
theorem ops_sound {C : FuncId → List T → Option T} (hC : ∀ f args r, C f args = some r → Sound P f args r) {io : FuncId → Nat} (hnb : 2 * bm.length ≤ W.nb) {rn : Option Nat} {n : Nat} {ops : Array Oper} {Q : Exit → Act → World → Prop} {σ' : St} : ∀ (rest pre : List Oper) {il : List (Option (Nat × Bool) × IOp)} {S : Nat → Nat → Prop} {β : BMap} {φ : FMap} {σ : St} {a : Act} {w : World},
    ops.toList = pre ++ rest → RegRel P W S0 S β φ nt vm (pre.map (·.dst)) σ a w → lowOps P io nt vm bm (pre.map (·.dst)) rest = some il → runOps C σ il = some σ' →
    (∀ S' β' φ' a' w', RegRel P W S0 S' β' φ' nt vm (ops.toList.map (·.dst)) σ' a' w' → Q .normal a' w') → wpListIn (wd rn) n P ops Q rest a w
  | [], pre, il, S, β, φ, σ, a, w, hops, h, hl, hr, hQ => by
    simp only [lowOps, Option.some.injEq] at hl
    subst hl
    simp only [runOps, Option.some.injEq] at hr
    subst hr
    simp only [List.append_nil] at hops
    rw [← hops] at h
    exact hQ _ _ _ _ _ h
  | o :: rest, pre, il, S, β, φ, σ, a, w, hops, h, hl, hr, hQ => by
    unfold lowOps at hl
    split at hl <;> try (cases hl; done)
    rename_i hck
    rw [Bool.not_eq_true, operBad, Bool.or_eq_false_iff] at hck
    obtain ⟨hck1, hck2⟩ := hck
    obtain ⟨i, hi, hl⟩ := Option.bind_eq_some_iff.1 hl
    obtain ⟨r, hr1, hl⟩ := Option.bind_eq_some_iff.1 hl
    simp only [Option.some.injEq] at hl
    subst hl
    have hd : ∀ s, o.dst = some s → some s ∉ pre.map (·.dst) ∧ s < nt := by
      intro s hs
      rw [hs] at hck1
      simp only [Bool.or_eq_false_iff, Bool.not_eq_false', decide_eq_true_eq] at hck1
      refine ⟨fun hm => ?_, hck1.2⟩
      have := hck1.1
      rw [List.contains_iff_mem.2 hm] at this
      cases this
    have hg : ∀ j b, o.guard = some (j, b) → (((pre.map (·.dst))[j]?).join).isSome = true := by
      intro j b hg
      rw [hg] at hck2
      simpa using hck2
    have hops' : ∀ (j s : Nat), (pre.map (·.dst))[j]? = some (some s) → (ops[j]?).bind (·.dst) = some s := by
      intro j s hj
      rw [List.getElem?_map, Option.map_eq_some_iff] at hj
      obtain ⟨q, hq, hqs⟩ := hj
      have hlt := (List.getElem?_eq_some_iff.1 hq).1
      have : ops[j]? = some q := by
        rw [← Array.getElem?_toList, hops, List.getElem?_append, if_pos hlt, hq]
      rw [this]
      exact hqs
    simp only [runOps] at hr
    obtain ⟨go, hgo, hr⟩ := Option.bind_eq_some_iff.1 hr
    have hw := guard_spec h hops' hg hgo
    simp only [wpListIn, hw]
    have hdone : (pre ++ [o]).map (·.dst) = pre.map (·.dst) ++ [o.dst] := by simp
    cases go with
    | true =>
      simp only [if_true] at hr ⊢
      obtain ⟨⟨t, σ1⟩, hr2, hr⟩ := Option.bind_eq_some_iff.1 hr
      refine oper_sound hC h hnb hi hd hr2 fun S' β' φ' a' w' hR => ?_
      refine ops_sound hC hnb rest (pre ++ [o]) (by simp [hops]) (by rw [hdone]; exact hR) (by rw [hdone]; exact hr1) hr hQ
    | false =>
      simp only [Bool.false_eq_true, if_false] at hr ⊢
      refine ⟨fun _ _ => trivial, ops_sound hC hnb rest (pre ++ [o]) (by simp [hops]) (by rw [hdone]; exact h.put hd (.v ..)) (by rw [hdone]; exact hr1) hr hQ⟩
end
end Go.Vi
end
