/-
  A claim's own text, joined by a small program out of: Vj12b, Vj12c, Vj13.
-/
import Derived.Test.YtodollbkpkpklaaGreatW4
import Derived.MapKept
import Derived.RangeFuncRecord
set_option linter.unusedVariables false
set_option linter.unusedSimpArgs false
section
/-
  A VERIFIED INTERPRETER (part 12b): what is appended as a box; rows that are cleared; maps.
-/
set_option linter.unusedSimpArgs false
set_option linter.unusedVariables false
namespace Go.Vi
open Go Go.RowKit

section
variable {P : Program} {W : Base} {w : World} {S0 S : Nat → Nat → Prop} {β : BMap} {φ : FMap} {a : Act} {o : Oper} {σ : St}

theorem grownBy_putObj2 (W : World) (l : Nat) (o : Obj) : W.grownBy (W.putObj l o) (some l) :=
  ⟨rfl, rfl, rfl, by simp, fun k _ hk => World.putObj_heap_other (fun h => hk (by rw [h]))⟩

/-- An empty box, without a block. -/
theorem hollow {s : Nat} {t : T} {x : Value} (hI : Inv P W S0 S β φ σ.boxes w) (hn : s < W.nb) (hs : σ.boxes[s]? = some none) (h : Rep S w β φ x t) : After P W S0 S β φ w σ { σ with boxes := σ.boxes.set s (some []) } t x w := by
  have hlt : s < σ.boxes.length := (List.getElem?_eq_some_iff.1 hs).1
  refine ⟨S, β, φ, id, h, ⟨hI.below, hI.lt, fun s' b hb => ?_, fun s' cs' hb => ?_, hI.inj, hI.fam, hI.famInj, hI.top, hI.base, hI.stay, fun s' b hn' h0 => (hI.pin s' b hn' h0).imp id fun h => by simpa [List.getElem?_set, show ¬ s = s' by omega] using h⟩, fun _ _ => id, by simp, by simp⟩
  · obtain ⟨h1, h2, cs, h3, h4⟩ := hI.box s' b hb
    refine ⟨h1, h2, cs, ?_, h4⟩
    by_cases es : s' = s
    · subst es; rw [hs] at h3; simp at h3
    · simpa [List.getElem?_set, Ne.symm es] using h3
  · by_cases es : s' = s
    · subst es
      simp [hlt] at hb
      exact .inl hb
    · simp only [List.getElem?_set, Ne.symm es, if_false] at hb
      exact hI.boxed s' cs' hb

theorem After.from_grow {σ' : St} {t : T} {x : Value} {w1 w' : World} (hI : Inv P W S0 S β φ σ.boxes w) (hb : Below w.heap.size w w1) (h : After P W S0 S β φ w1 σ σ' t x w') : After P W S0 S β φ w σ σ' t x w' := by
  obtain ⟨S', β', φ', adj, h1, h2, h3, h4, h5⟩ := h
  exact ⟨S', β', φ', adj, h1, h2, fun y u hu => h3 _ _ (hu.grow hI.lt hb), h4, h5⟩

/-- 'append' to what is empty: a box. -/
theorem s_appendB (hI : Inv P W S0 S β φ σ.boxes w) {c : Call} {x y : Operand} {t u e s m : Nat} {g : Tag} {xs ys zs : List T} {i : TypeInfo} {z : Value} {news : List Value} {r : T} {σ' : St} (ho : o.op = .call c) (hc : c.callee = .builtin .append) (ha : c.args.toList = [x, y]) (hat : c.argTypes.toList = [t, u])
    (ht : P.underlying t = some (.slice e)) (hi : P.info? e = some i) (hz : i.zero = some z) (hzs : z.cells.size = i.size) (hsz : 0 < i.size) (hx : Rep S w β φ (a.eval x) (.sl g 0 xs)) (hyl : ys.length = m * i.size)
    (hsrc : SrcOK P u i z (a.eval y) m news w) (hnl : news.length = ys.length) (h1 : ∀ v ∈ news, v.oneCell' = true) (hr : ∀ (j : Nat) (q : Value) (t : T), news[j]? = some q → ys[j]? = some t → Rep S w noB noF q t)
    (h63 : m ≤ 4294967296) (hfit : m * i.bytes ≤ 4294967296) (hs : σ.boxes[s]? = some none) (hp : s % 2 = 0) (hns : s < W.nb)
    (h : (match (generalizing := false) g with
        | .own k e' => if e' = e ∧ 0 < m then some (T.bsl s 0 m (m * i.size), { σ.strip (2 * k + 1) with boxes := (σ.strip (2 * k + 1)).boxes.set s (some ys) }) else none
        | .nil => some (T.bsl s 0 m (m * i.size), { σ with boxes := σ.boxes.set s (some ys) })
        | .clip => some (T.bsl s 0 m (m * i.size), { σ with boxes := σ.boxes.set s (some ys) })
        | _ => none) = some (r, σ')) :
    ∃ x w', RunsTo P a o w x w' ∧ After P W S0 S β φ w σ σ' r x w' := by
  have he := call_eq (P := P) (w := w) (a := a) ho hc [x, y] ha [t, u] hat
  have hwrap : ∀ v w', (Builtin.append_ #[t, u] o.type #[a.eval x, a.eval y]).run P w = .ok v w' → RunsTo P a o w v w' := fun v w' hh => .inl (by rw [he]; simp [builtin, hh])
  have hys : m = 0 → ys = [] := fun hm => List.eq_nil_of_length_eq_zero (by rw [hyl, hm]; simp)
  generalize hv : a.eval x = xv at hx hwrap
  -- a new block
  have grow : ∀ (base : Option Addr) (c' : Nat) (φ1 : FMap) (σ1 : St), xv = .slice base 0 c' → c' < m → Inv P W S0 S β φ1 σ1.boxes w → σ1.boxes[s]? = some none →
      ∃ x w', RunsTo P a o w x w' ∧ After P W S0 S β φ1 w σ1 { σ1 with boxes := σ1.boxes.set s (some ys) } (.bsl s 0 m (m * i.size)) x w' := fun base c' φ1 σ1 hxv hcm hI1 hs1 => by
    have hrun := append_grow (P := P) (t := t) (u := u) (ty := o.type) (base := base) (sLen := 0) (sCap := c') (olds := []) ht hi hz hsrc (by cases base <;> simp [Builtin.firstCells, run_load0]) (by omega) (by omega) (by omega) (by rw [Nat.zero_add]; omega)
    refine ⟨_, _, hwrap _ _ (by rw [hxv]; exact hrun), ?_⟩
    have hg1 := hI1.grow (w' := w.drew) (Below.refl _ _).drew
    refine After.from_grow hI1 (Below.refl _ _).drew (newobj_sound (σ := σ1) (o := .cells (([] : List Value).toArray ++ news.toArray ++ Builtin.zeroCells z.cells (grownCap w (0 + m) c' e - (0 + m))) e) hg1 hns hs1 (fun β' hm => ⟨fun _ => ⟨_, e, heap_alloc_new w.drew _, ?_, ?_, ?_⟩, fun h => by omega⟩) (fun β' h => ?_))
    · simp [hnl]
    · intro j q hj hq
      simp only [List.append_toArray, List.nil_append] at hq
      rw [Array.getElem?_append_left (by simp [hnl]; omega)] at hq
      exact h1 q (List.mem_of_getElem? (by simpa using hq))
    · intro j q u hq hu
      have hj := (List.getElem?_eq_some_iff.1 hu).1
      simp only [List.append_toArray, List.nil_append] at hq
      rw [Array.getElem?_append_left (by simp [hnl]; omega)] at hq
      have := hr j q u (by simpa using hq) hu
      refine hm _ _ ((this.grow hI.lt (w' := w.drew) (Below.refl _ _).drew).mono (fun _ _ => id) (fun _ _ h => by simp [noB] at h) (fun _ _ h => by simp [noF] at h) (fun _ _ _ _ _ => id) (Grows.refl _))
    · simp only [Nat.zero_add]
      refine .bsl _ _ _ _ _ _ _ _ h hp (by have := grownCap_ge w (0 + m) c' e; simpa using this) ⟨fun hpos sz' hm => ?_, fun h0 => by omega, fun h0 => by omega⟩
      have e2 : i.size = sz' := Nat.eq_of_mul_eq_mul_left hpos hm
      refine ⟨_, e, heap_alloc_new w.drew _, ?_⟩
      have hge := grownCap_ge w (0 + m) c' e
      simp only [Nat.zero_add] at hge ⊢
      have e3 : m + (grownCap w m c' e - m) = grownCap w m c' e := by omega
      simp only [Array.size_append, List.size_toArray, List.length_nil, Nat.zero_add, hnl, hyl, size_zeroCells, hzs]
      rw [← e2, ← Nat.add_mul, e3]
      exact Nat.le_refl _
  -- nothing is appended to what has no room
  have none' : ∀ (base : Option Addr) (φ1 : FMap) (σ1 : St), xv = .slice base 0 0 → m = 0 → Inv P W S0 S β φ1 σ1.boxes w → σ1.boxes[s]? = some none →
      ∃ x w', RunsTo P a o w x w' ∧ After P W S0 S β φ1 w σ1 { σ1 with boxes := σ1.boxes.set s (some ys) } (.bsl s 0 m (m * i.size)) x w' := fun base φ1 σ1 hxv hm hI1 hs1 => by
    rw [hys hm]
    refine ⟨xv, w, hwrap _ _ ?_, hollow hI1 hns hs1 (by rw [hxv, hm]; exact .bsl0 ..)⟩
    subst hm
    have hn0 : news = [] := List.eq_nil_of_length_eq_zero (by rw [hnl, hyl]; simp)
    subst hn0
    rw [hxv]
    rcases hsrc with ⟨dd, hu, hd, hs⟩ | ⟨kn, kq, hu, hy, hm, hb', hs0, hzs', hnew⟩
    · obtain ⟨s1, s2⟩ := hs w rfl
      have hint : (match (generalizing := false) dd with | .int _ => true | _ => false) = false := by cases dd <;> first | rfl | exact absurd rfl (hd _)
      cases base <;> simp [Builtin.append_, run_underlying ht, run_underlying hu, sizeOf, typeInfo, hi, hint, s1, s2, storeCells]
    · rw [hy]
      cases base <;> simp [Builtin.append_, run_underlying ht, run_underlying hu, sizeOf, typeInfo, hi, asInt, asIntOf, IntKind.wrap_i64, storeCells]
  have both : ∀ (base : Option Addr) (φ1 : FMap) (σ1 : St), xv = .slice base 0 0 → Inv P W S0 S β φ1 σ1.boxes w → σ1.boxes[s]? = some none →
      ∃ x w', RunsTo P a o w x w' ∧ After P W S0 S β φ1 w σ1 { σ1 with boxes := σ1.boxes.set s (some ys) } (.bsl s 0 m (m * i.size)) x w' := fun base φ1 σ1 hxv hI1 hs1 => by
    by_cases hm : m = 0
    · exact none' base φ1 σ1 hxv hm hI1 hs1
    · exact grow base 0 φ1 σ1 hxv (by omega) hI1 hs1
  have hstrip : ∀ c, (σ.strip c).boxes[s]? = some none := fun c => by simp [St.strip, hs]
  cases hx with
  | nil _ _ _ hg =>
    cases g with
    | nil => simp only [Option.some.injEq, Prod.mk.injEq] at h; obtain ⟨rfl, rfl⟩ := h; exact both none φ σ rfl hI hs
    | imm => cases h
    | any => cases h
    | clip => simp only [Option.some.injEq, Prod.mk.injEq] at h; obtain ⟨rfl, rfl⟩ := h; exact both none φ σ rfl hI hs
    | own k e' =>
      simp only at h
      split at h
      · simp only [Option.some.injEq, Prod.mk.injEq] at h
        obtain ⟨rfl, rfl⟩ := h
        obtain ⟨x', w', hrun, hA⟩ := both none _ _ rfl (dropped (2 * k + 1) hI) (hstrip _)
        exact ⟨x', w', hrun, hA.pre (2 * k + 1)⟩
      · cases h
  | sl _ _ _ ad _ c' _ f hnc hg hcs hrep =>
    cases g with
    | nil => rcases hg with (h' | h') | ⟨h', _⟩ | ⟨k, e', h', _⟩ <;> cases h'
    | imm => cases h
    | any => cases h
    | clip =>
      have hcn : c' = 0 := by
        rcases hg with (h' | h') | ⟨_, h'⟩ | ⟨k, e', h', _⟩
        · cases h'
        · cases h'
        · exact h'
        · cases h'
      subst hcn
      simp only [Option.some.injEq, Prod.mk.injEq] at h
      obtain ⟨rfl, rfl⟩ := h
      exact both (some ad) φ σ rfl hI hs
    | own k e' =>
      simp only at h
      split at h
      · rename_i he'
        obtain ⟨rfl, hmpos⟩ := he'
        simp only [Option.some.injEq, Prod.mk.injEq] at h
        obtain ⟨rfl, rfl⟩ := h
        have hk : φ k = some (.slice (some ad) 0 c', e') ∨ ((0 : Nat) = 0 ∧ c' = 0 ∧ xs = []) := by
          rcases hg with (h' | h') | ⟨h', _⟩ | ⟨k', e2, h', hk⟩
          · cases h'
          · cases h'
          · cases h'
          · cases h'; exact hk
        rcases hk with hk | ⟨_, rfl, _⟩
        · by_cases hroom : m ≤ c'
          · obtain ⟨gb, n', c2, sz, xs', i', hxe, hi', hsz', hown, hSg, hgβ, hgW⟩ := hI.fam k _ e' hk
            rw [hi] at hi'
            simp only [Option.some.injEq] at hi'
            subst hi'
            simp only [Value.slice.injEq, Option.some.injEq] at hxe
            obtain ⟨rfl, rfl, rfl⟩ := hxe
            rcases hown.2 with ⟨h', _⟩ | ⟨g', cap, cur, e2', hx', _, hgc, hnc', hcs', htake⟩
            · cases h'
            simp only [Value.slice.injEq, Option.some.injEq, Addr.mk.injEq] at hx'
            obtain ⟨⟨rfl, _⟩, _, rfl⟩ := hx'
            have hfit' : 0 * i.size + news.length ≤ cur.size := by rw [hnl, hyl]; have h9 := Nat.mul_le_mul_right i.size hroom; rw [← hsz'] at hcs'; omega
            have hrun := append_room (P := P) (t := t) (u := u) (ty := o.type) ht hi hz hsrc hgc h1 (sLen := 0) (sCap := c') (by omega) hfit'
            refine ⟨_, _, hwrap _ _ hrun, After.pre (2 * k + 1) (box_gen (g := gb) (σ := σ.strip (2 * k + 1)) (dropped (2 * k + 1) hI) hns (hstrip _) ⟨rfl, rfl, rfl, by simp, fun j _ hj => setRow_other w gb j _ (fun h => hj (by rw [h]))⟩ hgW (fun o hS => by have := hSg o hS; omega) hgβ (fun k' x' e2 hk' => ?_)
              (fun β' hm => ⟨fun _ => ⟨_, e2', setRow_heap w gb cur _ e2' _ hgc, ?_, ?_, ?_⟩, fun h => by omega⟩) (fun β' h => ?_)
              (grows_of_row (g := gb) (fun j _ hj => setRow_other w gb j _ hj) fun q ⟨cc, e2, q1, q2⟩ => ⟨_, e2', setRow_heap w gb cur _ e2' _ hgc, by
                rw [hgc] at q1
                simp only [Option.some.injEq, Obj.cells.injEq] at q1
                obtain ⟨rfl, _, _⟩ := q1
                simp only [List.size_toArray, List.length_append, List.length_take, List.length_drop, Array.length_toList]
                omega⟩))⟩
            · split at hk'
              · cases hk'
              · rename_i hh
                have hne : k' ≠ k := fun e => hh (by subst e; simp [hit]; omega)
                have := hI.famInj k' k _ _ _ _ hk' hk hne
                simpa [Value.ownBlock] using this
            · simp only [List.size_toArray, List.length_append, List.length_take, List.length_drop, Array.length_toList, hnl]
              omega
            · intro j q hj hq
              rw [getElem?_setVals _ _ _ _ hfit', if_pos (by omega)] at hq
              exact h1 q (List.mem_of_getElem? hq)
            · intro j q u hq hu
              have hj := (List.getElem?_eq_some_iff.1 hu).1
              rw [getElem?_setVals _ _ _ _ hfit', if_pos (by omega)] at hq
              exact hm _ _ ((hr j q u (by simpa using hq) hu).mono (fun _ _ => id) (fun _ _ h => by simp [noB] at h) (fun _ _ h => by simp [noF] at h) (fun _ _ _ _ _ => id) (Grows.refl _))
            · simp only [Nat.zero_add]
              refine .bsl _ _ _ _ _ _ _ _ h hp hroom ⟨fun hpos sz' hm => ?_, fun h0 => by omega, fun h0 => by omega⟩
              have e2 : i.size = sz' := Nat.eq_of_mul_eq_mul_left hpos hm
              refine ⟨_, e2', setRow_heap w gb cur _ e2' _ hgc, ?_⟩
              simp only [List.size_toArray, List.length_append, List.length_take, List.length_drop, Array.length_toList]
              rw [← e2]
              rw [hsz'] at *
              omega
          · obtain ⟨x', w', hrun, hA⟩ := grow (some ad) c' _ _ rfl (by omega) (dropped (2 * k + 1) hI) (hstrip _)
            exact ⟨x', w', hrun, hA.pre (2 * k + 1)⟩
        · obtain ⟨x', w', hrun, hA⟩ := both (some ad) _ _ rfl (dropped (2 * k + 1) hI) (hstrip _)
          exact ⟨x', w', hrun, hA.pre (2 * k + 1)⟩
      · cases h

theorem set_same {bx : List (Option (List T))} {s : Nat} {o : Option (List T)} (h : bx[s]? = some o) : bx.set s o = bx := by
  have hlt := (List.getElem?_eq_some_iff.1 h).1
  have : bx[s] = o := (List.getElem?_eq_some_iff.1 h).2
  rw [← this]
  exact List.set_getElem_self hlt

/-- 'clear' of a row. -/
theorem s_clearS (hI : Inv P W S0 S β φ σ.boxes w) {c : Call} {x : Operand} {t e s off n cn : Nat} {cs zs : List T} {sz : Nat} (ho : o.op = .call c) (hc : c.callee = .builtin .clear) (ha : c.args.toList = [x]) (hat : c.argTypes.toList = [t])
    (ht : P.underlying t = some (.slice e)) (hsz : P.cellsOf e = sz) (hz : zeroOf P e = some zs) (hx : Rep S w β φ (a.eval x) (.bsl s off n cn)) (hs : σ.boxes[s]? = some (some cs)) (hp : s % 2 = 0)
    (hzl : zs.length = sz) (hle : off + n * sz ≤ cs.length) :
    ∃ x w', RunsTo P a o w x w' ∧ After P W S0 S β φ w σ { σ with boxes := σ.boxes.set s (some (setCells cs off (List.replicate n zs).flatten)) } .undef x w' := by
  have he := call_eq (P := P) (w := w) (a := a) ho hc [x] ha [t] hat
  have quiet0 : n = 0 → ∀ ad c', a.eval x = .slice ad 0 c' → ∃ x w', RunsTo P a o w x w' ∧ After P W S0 S β φ w σ { σ with boxes := σ.boxes.set s (some (setCells cs off (List.replicate n zs).flatten)) } .undef x w' := fun hn ad c' hv => by
    subst hn
    refine ⟨.tuple #[], w, .inl ?_, ?_⟩
    · rw [he]
      cases ad <;> simp [hv, builtin, Builtin.clear_, run_underlying ht]
    · have : setCells cs off (List.replicate 0 zs).flatten = cs := by simp [setCells]
      rw [this, set_same hs]
      exact After.same hI (.undef ..)
  generalize hv : a.eval x = xv at hx
  cases hx with
  | bsl0 _ _ ad _ _ _ => exact quiet0 rfl ad 0 hv
  | bsl _ _ _ _ _ _ b cap hb _ hnc hzz =>
    by_cases hn : n = 0
    · subst hn; exact quiet0 rfl _ cap hv
    · obtain ⟨cc, ce, hcc, hsz', h10, hr0⟩ := box_cells hI hb hp hs
      obtain ⟨i, z, hi, hz', hzs, hR⟩ := zeroOf_spec (S := S) (w := w) (β := β) (φ := φ) hz
      obtain ⟨r1, r2, r3⟩ := repA_replicate hR n
      have hfl : (Builtin.zeroCells z.cells n).toList = (List.replicate n z.cells.toList).flatten := by
        by_cases h0 : z.cells.size = 0
        · have : z.cells = #[] := Array.eq_empty_of_size_eq_zero h0
          simp [Builtin.zeroCells, this, range0]
        · have := replicate_flat z.cells n (by omega)
          simp only [Builtin.zeroCells]
          rw [this]
      have hlen : ((List.replicate n z.cells.toList).flatten).length = (List.replicate n zs).flatten.length := by simpa using r1
      have hl2 : (List.replicate n zs).flatten.length = n * sz := by simp [List.length_flatten, hzl]
      refine ⟨.tuple #[], _, .inl ?_, put_sound hI hb hp hs hcc (vs := (List.replicate n z.cells.toList).flatten) (ns := (List.replicate n zs).flatten) (o := off) hlen (by omega) (fun v hv => ?_) (fun j y u hy hu => r3 j y u (by simpa using hy) hu) _ _ (fun w' => .undef ..)⟩
      · rw [he]
        have hst := store_world (P := P) (w := w) (vs := (List.replicate n z.cells.toList).flatten) (o := off) hcc (by omega) (fun v hv => by
          obtain ⟨j, hj⟩ := List.mem_iff_getElem?.1 hv
          exact r2 j v (by simpa using hj))
        have hzv : (zeroValue e).run P w = .ok z w := by simp [zeroValue, typeInfo, hi, hz']
        obtain ⟨n', rfl⟩ : ∃ n', n = n' + 1 := ⟨n - 1, by omega⟩
        simp [hv, builtin, Builtin.clear_, run_underlying ht, hzv, hfl, hst]
      · obtain ⟨j, hj⟩ := List.mem_iff_getElem?.1 hv
        exact r2 j v (by simpa using hj)

/-! #### maps -/
theorem getMap {b : Nat} {es : Array MapEntry} {ck : Nat} (h : w.heap[b]? = some (.map es ck)) : (getObj b).run P w = .ok (.map es ck) w := by simp [getObj, Sem.run, h]
theorem setMap {b : Nat} {es : Array MapEntry} {ck : Nat} (o : Obj) (h : w.heap[b]? = some (.map es ck)) : (setObj b o).run P w = .ok () (w.putObj b o) := by simp [setObj, Sem.run, h, World.putObj]

theorem s_mkMap (hI : Inv P W S0 S β φ σ.boxes w) {t s : Nat} (ho : o.op = .makeMap t none) (hs : σ.boxes[s]? = some none) (hp : s % 2 = 1) (hn : s < W.nb) :
    ∃ x w', RunsTo P a o w x w' ∧ After P W S0 S β φ w σ { σ with boxes := σ.boxes.set s (some []) } (.mref s) x w' :=
  ⟨.map (some w.heap.size), w.alloc (.map #[] 0), .inl (by simp [execOp, ho, Instr.makeMap]),
    newobj_sound hI hn hs (fun β' hm => ⟨fun h => by omega, fun _ => ⟨#[], 0, heap_alloc_new w _, .nil, by simp [BornOk]⟩⟩) (fun β' h => .mref _ _ _ _ h hp)⟩

theorem rep_mref {v : Value} {s : Nat} (h : Rep S w β φ v (.mref s)) : ∃ b, β s = some b ∧ s % 2 = 1 ∧ v = .map (some b) := by
  generalize ht : T.mref s = t at h
  cases h <;> cases ht
  rename_i b hp hb
  exact ⟨b, hb, hp, rfl⟩

theorem s_lenM (hI : Inv P W S0 S β φ σ.boxes w) {c : Call} {x : Operand} {ty k e s : TypeId} {cs : List T} (ho : o.op = .call c) (hc : c.callee = .builtin .len) (ha : c.args.toList = [x]) (hat : c.argTypes.toList = [ty])
    (hu : P.underlying ty = some (.map k e)) (hx : Rep S w β φ (a.eval x) (.mref s)) (hs : σ.boxes[s]? = some (some cs)) : ∃ x w', RunsTo P a o w x w' ∧ After P W S0 S β φ w σ σ (T.int (cs.length / 2 : Nat)) x w' := by
  have he := call_eq (P := P) (w := w) (a := a) ho hc [x] ha [ty] hat
  obtain ⟨b, hb, hp, hv⟩ := rep_mref hx
  obtain ⟨es, ck, h1, h2, hborn⟩ := box_map hI hb hp hs
  have hl : ∀ {es : List MapEntry} {ts : List T}, EntriesAt S w β φ es ts → ts.length = 2 * es.length := fun h => by
    induction h with
    | nil => rfl
    | cons e es k v ts hk hv h ih => simp [ih]; omega
  have := hl h2
  refine quiet hI (x := .int .i64 (es.size : Nat)) ?_ ?_
  · rw [he]
    simp [hv, builtin, Builtin.len_, run_underlying hu, getMap h1, goInt]
  · rw [show cs.length / 2 = es.size by simp at this; omega]
    exact .v ..

def scalarKind : LK → TypeDesc → Bool
  | .int, .int _ => true
  | .bool, .bool => true
  | _, _ => false

theorem keyKind_spec {t : TypeId} {k : LK} (h : keyKind P t = some k) : ∃ d, P.underlying t = some d ∧ scalarKind k d = true := by
  unfold keyKind at h
  split at h
  · rename_i q hq; simp only [Option.some.injEq] at h; subst h; exact ⟨_, hq, rfl⟩
  · rename_i hq; simp only [Option.some.injEq] at h; subst h; exact ⟨_, hq, rfl⟩
  · cases h

theorem eqCell_same {k : LK} {d : TypeDesc} (hd : scalarKind k d = true) {x y : Value} {t u : T} {r : Bool} (h : eqCell k t u = some r) (hx : Rep S w β φ x t) (hy : Rep S w β φ y u) :
    Instr.sameNow d x y = some r ∧ (r = true → x = y ∧ Instr.sameBits 10000 y x = true) := by
  unfold eqCell at h
  split at h
  · have h1 := rep_v hx; have h2 := rep_v hy
    subst h1 h2
    cases d <;> simp [scalarKind] at hd
    split at h
    · rename_i hk
      simp only [Option.some.injEq] at h
      subst hk h
      refine ⟨by simp [Instr.sameNow], fun hab => ?_⟩
      simp only [beq_iff_eq] at hab
      subst hab
      exact ⟨rfl, by simp [Instr.sameBits]⟩
    · cases h
  · have h1 := rep_v hx; have h2 := rep_v hy
    subst h1 h2
    cases d <;> simp [scalarKind] at hd
    simp only [Option.some.injEq] at h
    subst h
    refine ⟨by simp [Instr.sameNow], fun hab => ?_⟩
    simp only [beq_iff_eq] at hab
    subst hab
    exact ⟨rfl, by simp [Instr.sameBits]⟩
  · cases d <;> simp [scalarKind] at hd
  · cases h

theorem findT_spec {k : LK} {d : TypeDesc} (hd : scalarKind k d = true) {x : Value} {key : T} (hx : Rep S w β φ x key) : ∀ {es : List MapEntry} {ts : List T} {r : Option T} (i : Nat), EntriesAt S w β φ es ts → findT k key ts = some r →
    ∃ q, Instr.findNow d x es i = some q ∧ (r = none → q = none) ∧ ∀ v, r = some v → ∃ j y, q = some (j, y) ∧ Rep S w β φ y v
  | [], _, r, i, .nil, h => by
    simp only [findT, Option.some.injEq] at h
    subst h
    exact ⟨none, rfl, fun _ => rfl, fun v hv => by cases hv⟩
  | e :: es, _, r, i, .cons _ _ kt v ts hk hv hrest, h => by
    simp only [findT] at h
    obtain ⟨b, hb, h⟩ := Option.bind_eq_some_iff.1 h
    obtain ⟨h1, h2⟩ := eqCell_same hd hb hx hk
    simp only [Instr.findNow, h1]
    cases b with
    | true =>
      simp only [if_true, Option.some.injEq] at h
      subst h
      exact ⟨_, rfl, (fun h => by cases h), fun v' hv' => ⟨_, _, rfl, by simp only [Option.some.injEq] at hv'; subst hv'; exact hv⟩⟩
    | false =>
      simp only [Bool.false_eq_true, if_false] at h
      exact findT_spec hd hx (i + 1) hrest h

theorem run_checkKey {k : LK} {d : TypeDesc} (hd : scalarKind k d = true) {t : TypeId} (ht : P.underlying t = some d) (b : Bool) (n : Nat) (v : Value) : (Instr.checkKey b (n + 1) t v).run P w = .ok () w := by
  cases k <;> cases d <;> simp [scalarKind] at hd <;> (unfold Instr.checkKey; cases v <;> simp [run_underlying ht])

theorem s_lookup (hI : Inv P W S0 S β φ σ.boxes w) {ty kt e s : TypeId} {x ix : Operand} {ok : Bool} {k : LK} {z key : T} {cs : List T} {r : Option T} (ho : o.op = .lookup ty x ix ok) (hu : P.underlying ty = some (.map kt e)) (hk : keyKind P kt = some k) (hz : zeroTree P e = some z)
    (hx : Rep S w β φ (a.eval x) (.mref s)) (hi : Rep S w β φ (a.eval ix) key) (hs : σ.boxes[s]? = some (some cs)) (hf : findT k key cs = some r) {t : T}
    (h : t = match (generalizing := false) r with
      | some v => if ok then T.tup [v, T.bool true] else v
      | none => if ok then T.tup [z, T.bool false] else z) : ∃ x w', RunsTo P a o w x w' ∧ After P W S0 S β φ w σ σ t x w' := by
  obtain ⟨b, hb, hp, hv⟩ := rep_mref hx
  obtain ⟨es, ck, h1, h2, hborn⟩ := box_map hI hb hp hs
  obtain ⟨d, hd, hsd⟩ := keyKind_spec hk
  obtain ⟨q, hq, hq1, hq2⟩ := findT_spec hsd hi 0 h2 hf
  have hck := run_checkKey (w := w) hsd hd es.isEmpty 9999 (a.eval ix)
  obtain ⟨zi, zv, hzi, hzv, hzk, rfl⟩ : ∃ zi zv, P.info? e = some zi ∧ zi.zero = some zv ∧ kval zv = true ∧ z = ofValue zv := by
    unfold zeroTree at hz
    cases hi : P.info? e with
    | none => simp [hi] at hz
    | some zi =>
      cases hzz : zi.zero with
      | none => simp [hi, hzz] at hz
      | some zv =>
        simp only [hi, hzz] at hz
        split at hz
        · rename_i hkv; simp only [Option.some.injEq] at hz; exact ⟨zi, zv, rfl, hzz, hkv, hz.symm⟩
        · cases hz
  have hzr : (zeroValue e).run P w = .ok zv w := by simp [zeroValue, typeInfo, hzi, hzv]
  have pair : ∀ (y : Value) (v : T) (bb : Bool), Rep S w β φ y v → Rep S w β φ (.tuple #[y, .bool bb]) (.tup [v, T.bool bb]) := fun y v bb hyv => by
    refine .tup _ _ _ _ rfl fun i x t hx ht => ?_
    match i, hx, ht with
    | 0, hx, ht => simp at hx ht; subst hx ht; exact hyv
    | 1, hx, ht => simp at hx ht; subst hx ht; exact .v ..
    | i + 2, hx, _ => simp at hx
  cases r with
  | none =>
    have := hq1 rfl
    subst this
    subst h
    cases ok
    · exact quiet hI (x := zv) (by simp [execOp, ho, hv, Instr.lookup, run_underlying hu, getMap h1, hck, Instr.findKey, run_underlying hd, hq, hzr]) (rep_ofValue zv hzk)
    · exact quiet hI (x := .tuple #[zv, .bool false]) (by simp [execOp, ho, hv, Instr.lookup, run_underlying hu, getMap h1, hck, Instr.findKey, run_underlying hd, hq, hzr]) (pair _ _ _ (rep_ofValue zv hzk))
  | some v =>
    obtain ⟨j, y, rfl, hyv⟩ := hq2 v rfl
    subst h
    cases ok
    · exact quiet hI (x := y) (by simp [execOp, ho, hv, Instr.lookup, run_underlying hu, getMap h1, hck, Instr.findKey, run_underlying hd, hq]) hyv
    · exact quiet hI (x := .tuple #[y, .bool true]) (by simp [execOp, ho, hv, Instr.lookup, run_underlying hu, getMap h1, hck, Instr.findKey, run_underlying hd, hq]) (pair _ _ _ hyv)

/-- What a store into a map makes of its entries. -/
theorem putT_spec {k : LK} {d : TypeDesc} (hd : scalarKind k d = true) {x y : Value} {key v : T} (hx : Rep S w β φ x key) (hy : Rep S w β φ y v) : ∀ {es : List MapEntry} {ts ts' : List T} (i : Nat), EntriesAt S w β φ es ts → putT k key v ts = some ts' →
    (Instr.findNow d x es i = some none ∧ ∀ n, EntriesAt S w β φ (es ++ [{ key := x, val := y, born := n }]) ts') ∨
    ∃ j q, Instr.findNow d x es i = some (some (i + j, q)) ∧ (∃ e, es[j]? = some e ∧ Instr.sameBits 10000 e.key x = true) ∧ EntriesAt S w β φ (es.modify j fun e => { e with key := x, val := y }) ts'
  | [], _, ts', i, .nil, h => by
    simp only [putT, Option.some.injEq] at h
    subst h
    exact .inl ⟨rfl, fun n => .cons _ _ _ _ _ hx hy .nil⟩
  | e :: es, _, ts', i, .cons _ _ kt vt ts hk hv hrest, h => by
    simp only [putT] at h
    obtain ⟨b, hb, h⟩ := Option.bind_eq_some_iff.1 h
    obtain ⟨h1, h2⟩ := eqCell_same hd hb hx hk
    simp only [Instr.findNow, h1]
    cases b with
    | true =>
      simp only [if_true, Option.some.injEq] at h
      subst h
      obtain ⟨h3, h4⟩ := h2 rfl
      exact .inr ⟨0, _, rfl, ⟨e, rfl, h4⟩, by simpa using .cons _ _ _ _ _ hx hy hrest⟩
    | false =>
      simp only [Bool.false_eq_true, if_false] at h
      obtain ⟨ts2, hts2, rfl⟩ := Option.map_eq_some_iff.1 h
      rcases putT_spec hd hx hy (i + 1) hrest hts2 with ⟨g1, g2⟩ | ⟨j, q, g1, g2, g3⟩
      · exact .inl ⟨g1, fun n => .cons _ _ _ _ _ hk hv (g2 n)⟩
      · exact .inr ⟨j + 1, q, by rw [g1, Nat.add_assoc, Nat.add_comm 1 j], by simpa using g2, by simpa using .cons _ _ _ _ _ hk hv g3⟩

theorem s_mapUpdate (hI : Inv P W S0 S β φ σ.boxes w) {ty kt e s : TypeId} {x ix y : Operand} {k : LK} {key v : T} {cs cs' : List T} (ho : o.op = .mapUpdate ty x ix y) (hu : P.underlying ty = some (.map kt e)) (hk : keyKind P kt = some k)
    (hx : Rep S w β φ (a.eval x) (.mref s)) (hi : Rep S w β φ (a.eval ix) key) (hy : Rep S w β φ (a.eval y) v) (hs : σ.boxes[s]? = some (some cs)) (hf : putT k key v cs = some cs') :
    ∃ x w', RunsTo P a o w x w' ∧ After P W S0 S β φ w σ { σ with boxes := σ.boxes.set s (some cs') } .undef x w' := by
  obtain ⟨b, hb, hp, hv⟩ := rep_mref hx
  obtain ⟨es, ck, h1, h2, hborn⟩ := box_map hI hb hp hs
  obtain ⟨d, hd, hsd⟩ := keyKind_spec hk
  have hck := run_checkKey (w := w) hsd hd false 9999 (a.eval ix)
  have hlt : s < σ.boxes.length := (List.getElem?_eq_some_iff.1 hs).1
  have hblt : b < w.heap.size := (Array.getElem?_eq_some_iff.1 h1).1
  rcases putT_spec hsd hi hy 0 h2 hf with ⟨g1, g2⟩ | ⟨j, q, g1, ⟨e', g2, g3⟩, g4⟩
  · refine ⟨undef, w.putObj b (.map (es.push { key := a.eval ix, val := a.eval y, born := ck }) (ck + 1)), .inr ⟨rfl, ?_⟩, turn_sound hI hb hlt (grownBy_putObj2 _ _ _) (fun hm => ⟨fun h => by omega, fun _ => ⟨_, _, World.putObj_heap_same hblt, ?_, ?_⟩⟩) _ _ (.undef ..) (grows_of_row (g := b) (fun j hj hne => (grownBy_putObj2 _ _ _).block j hj (by simpa using hne)) fun q ⟨cc, e2, q1, _⟩ => by rw [h1] at q1; cases q1)⟩
    · simp only [execOp, ho, hv, Instr.mapUpdate, Sem.run_bind, run_underlying hu, Result.andThen_ok, getMap h1, hck, Instr.findKey, run_underlying hd, g1, Sem.run_pure, setMap _ h1]
    · have := (g2 ck).mono (adj := id) hm
      simpa using this
    · refine ⟨?_, fun x hx => ?_⟩
      · simp only [Array.toList_push, List.map_append, List.map_cons, List.map_nil]
        refine List.nodup_append.2 ⟨hborn.1, by simp, fun a ha b hb => ?_⟩
        obtain ⟨x, hx, rfl⟩ := List.mem_map.1 ha
        simp only [List.mem_singleton] at hb
        subst hb
        have := hborn.2 x hx
        omega
      · simp only [Array.toList_push, List.mem_append, List.mem_singleton] at hx
        rcases hx with hx | rfl
        · have := hborn.2 x hx; omega
        · exact Nat.lt_succ_self ck
  · have g2' : es[j]? = some e' := by simpa using g2
    refine ⟨undef, w.putObj b (.map (es.modify j fun e => { e with key := a.eval ix, val := a.eval y }) ck), .inr ⟨rfl, ?_⟩, turn_sound hI hb hlt (grownBy_putObj2 _ _ _) (fun hm => ⟨fun h => by omega, fun _ => ⟨_, _, World.putObj_heap_same hblt, ?_, ?_⟩⟩) _ _ (.undef ..) (grows_of_row (g := b) (fun j hj hne => (grownBy_putObj2 _ _ _).block j hj (by simpa using hne)) fun q ⟨cc, e2, q1, _⟩ => by rw [h1] at q1; cases q1)⟩
    · rw [Nat.zero_add] at g1
      simp only [execOp, ho, hv, Instr.mapUpdate, Sem.run_bind, run_underlying hu, Result.andThen_ok, getMap h1, hck, Instr.findKey, run_underlying hd, g1, Sem.run_pure, Instr.keyThatStays, g2', Option.map_some, Option.getD_some, g3, if_true, setMap _ h1]
    · have := g4.mono (adj := id) hm
      simpa using this
    · have hmap : ∀ (l : List MapEntry) (j : Nat), ((l.modify j fun e => { e with key := a.eval ix, val := a.eval y }).map (·.born)) = l.map (·.born) := fun l j => by
        apply List.ext_getElem?
        intro i
        simp only [List.getElem?_map, List.getElem?_modify]
        cases l[i]? with
        | none => rfl
        | some q => simp only [Option.map_eq_map, Option.map_some]; split <;> rfl
      have e1 : (es.modify j fun e => { e with key := a.eval ix, val := a.eval y }).toList = es.toList.modify j fun e => { e with key := a.eval ix, val := a.eval y } := by simp
      refine ⟨by rw [e1, hmap]; exact hborn.1, fun x hx => ?_⟩
      rw [e1] at hx
      have : x.born ∈ es.toList.map (·.born) := by rw [← hmap es.toList j]; exact List.mem_map.2 ⟨x, hx, rfl⟩
      obtain ⟨z, hz, hz2⟩ := List.mem_map.1 this
      rw [← hz2]
      exact hborn.2 z hz
end
end Go.Vi
end
section
/-
  A VERIFIED INTERPRETER (part 12c): 'append' to a box's own slice; capacities.
-/
set_option linter.unusedSimpArgs false
set_option linter.unusedVariables false
namespace Go.Vi
open Go Go.RowKit

section
variable {P : Program} {W : Base} {w : World} {S0 S : Nat → Nat → Prop} {β : BMap} {φ : FMap} {a : Act} {o : Oper} {σ : St}

/-- Names without one. -/
def butS (s : Nat) : Nat → Option Nat := fun x => if x = s then none else some x

theorem drop_eq (s : Nat) (σ : St) : σ.drop s = ⟨remapL (butS s) some σ.rs, remapL (butS s) some σ.vars, (σ.boxes.map (Option.map (remapL (butS s) some))).set s none⟩ := rfl

theorem Rep.but {y : Value} {u : T} (s : Nat) (h : Rep S w β φ y u) : Rep S w (fun x => if x = s then none else β x) φ y (u.remap (butS s) some) :=
  h.remap (fun k k' b h1 h2 => by
    unfold butS at h1
    split at h1
    · cases h1
    · rename_i hne
      simp only [Option.some.injEq] at h1
      subst h1
      simp [hne, h2]) (fun k k' h1 => by
    unfold butS at h1
    split at h1
    · cases h1
    · simp only [Option.some.injEq] at h1; subst h1; rfl) fun k k' p h1 h2 => by simp only [Option.some.injEq] at h1; subst h1; exact h2

/-- A box that is given up. -/
theorem dropBox (s : Nat) (hI : Inv P W S0 S β φ σ.boxes w) : Inv P W S0 S (fun x => if x = s then none else β x) φ (σ.drop s).boxes w := by
  have hget : ∀ s', s' ≠ s → (σ.drop s).boxes[s']? = (σ.boxes[s']?).map (Option.map (remapL (butS s) some)) := fun s' h => by
    rw [drop_eq]
    simp [List.getElem?_set, Ne.symm h]
  refine ⟨hI.below, hI.lt, fun s' b hb => ?_, fun s' cs hs => ?_, fun s1 s2 b h1 h2 => ?_, fun k x e hk => ?_, hI.famInj, hI.top, hI.base, hI.stay, fun s' b hn h0 => ?_⟩
  · by_cases hne : s' = s
    · simp [hne] at hb
    · simp only [hne, if_false] at hb
      obtain ⟨h1, h2, cs, h3, h4⟩ := hI.box s' b hb
      refine ⟨h1, h2, cs.map (T.remap (butS s) some), ?_, h4.mono rfl fun y u h => h.but s⟩
      rw [hget s' hne, h3]
      simp [remapL_map]
  · by_cases hne : s' = s
    · subst hne
      rw [drop_eq] at hs
      simp only [List.getElem?_set, if_true] at hs
      split at hs <;> simp at hs
    · rw [hget s' hne] at hs
      obtain ⟨o', ho', h⟩ := Option.map_eq_some_iff.1 hs
      cases o' with
      | none => simp at h
      | some cs' =>
        simp only [Option.map_some, Option.some.injEq] at h
        refine (hI.boxed s' cs' ho').imp (fun e => by rw [← h, e]; rfl) fun ⟨b, hb⟩ => ⟨b, by simp [hne, hb]⟩
  · by_cases e1 : s1 = s
    · simp [e1] at h1
    · by_cases e2 : s2 = s
      · simp [e2] at h2
      · simp only [e1, e2, if_false] at h1 h2
        exact hI.inj _ _ _ h1 h2
  · obtain ⟨g, n, c, sz, xs, i, h1, h2, h3, h4, h5, h6, h7⟩ := hI.fam k x e hk
    refine ⟨g, n, c, sz, xs, i, h1, h2, h3, h4, h5, fun s' hs' => ?_, h7⟩
    by_cases e1 : s' = s
    · simp [e1] at hs'
    · simp only [e1, if_false] at hs'
      exact h6 _ hs'
  · by_cases hne : s' = s
    · subst hne
      right
      rw [drop_eq]
      have hlt : s' < σ.boxes.length := by
        rcases hI.pin s' b hn h0 with h | h
        · obtain ⟨_, _, cs, h3, _⟩ := hI.box s' b h
          exact (List.getElem?_eq_some_iff.1 h3).1
        · exact (List.getElem?_eq_some_iff.1 h).1
      simp [hlt]
    · rcases hI.pin s' b hn h0 with h | h
      · left; simp [hne, h]
      · right; rw [hget s' hne, h]; rfl

theorem After.preBox {σ' : St} {t : T} {x : Value} {w' : World} (s : Nat) (h : After P W S0 S (fun x => if x = s then none else β x) φ w (σ.drop s) σ' t x w') : After P W S0 S β φ w σ σ' t x w' := by
  obtain ⟨S', β', φ', adj, h1, h2, h3, h4, h5⟩ := h
  exact ⟨S', β', φ', adj ∘ T.remap (butS s) some, h1, h2, fun y u hu => h3 _ _ (hu.but s), by rw [h4]; simp [drop_eq, remapL_map], by rw [h5]; simp [drop_eq, remapL_map]⟩

/-- 'append' to what a box holds, from its head on. -/
theorem s_appendBB (hI : Inv P W S0 S β φ σ.boxes w) {c : Call} {x y : Operand} {t u e s s' n cn m : Nat} {ys : List T} {i : TypeInfo} {z : Value} {news : List Value} (ho : o.op = .call c) (hc : c.callee = .builtin .append) (ha : c.args.toList = [x, y]) (hat : c.argTypes.toList = [t, u])
    (ht : P.underlying t = some (.slice e)) (hi : P.info? e = some i) (hz : i.zero = some z) (hzs : z.cells.size = i.size) (hsz : 0 < i.size) (hx : Rep S w β φ (a.eval x) (.bsl s' 0 n cn)) (hyl : ys.length = m * i.size)
    (hsrc : SrcOK P u i z (a.eval y) m news w) (hnl : news.length = ys.length) (h1 : ∀ v ∈ news, v.oneCell' = true) (hr : ∀ (j : Nat) (q : Value) (t : T), news[j]? = some q → ys[j]? = some t → Rep S w noB noF q t)
    (h63 : n + m ≤ 4294967296) (hfit : (n + m) * i.bytes ≤ 4294967296) (hs : s = s' ∨ σ.boxes[s]? = some none) (hlt : s < σ.boxes.length) (hp : s % 2 = 0) (hns : s < W.nb)
    (hcn : 0 < n ∧ cn = n * i.size ∨ n = 0 ∧ (cn = 0 ∨ cn = 1 + i.size)) (hle : n * i.size ≤ ((boxAt σ.boxes s').getD []).length) :
    ∃ x w', RunsTo P a o w x w' ∧ After P W S0 S β φ w σ { σ.drop s' with boxes := (σ.drop s').boxes.set s (some (remapL (butS s') some (((boxAt σ.boxes s').getD []).take (n * i.size)) ++ ys)) } (.bsl s 0 (n + m) (if n + m = 0 then cn else (n + m) * i.size)) x w' := by
  have he := call_eq (P := P) (w := w) (a := a) ho hc [x, y] ha [t, u] hat
  have hwrap : ∀ v w', (Builtin.append_ #[t, u] o.type #[a.eval x, a.eval y]).run P w = .ok v w' → RunsTo P a o w v w' := fun v w' hh => .inl (by rw [he]; simp [builtin, hh])
  have hys : m = 0 → ys = [] := fun hm => List.eq_nil_of_length_eq_zero (by rw [hyl, hm]; simp)
  have hI1 := dropBox s' hI
  have hs1 : (σ.drop s').boxes[s]? = some none := by
    rw [drop_eq]
    rcases hs with rfl | hs
    · simp [hlt]
    · simp only [List.getElem?_set, List.length_map, List.getElem?_map, hs]
      split <;> simp_all
  generalize hv : a.eval x = xv at hx hwrap
  -- a new block
  have grow : ∀ (base : Option Addr) (c' : Nat) (olds : List Value) (cs : List T), xv = .slice base n c' → c' < n + m → (Builtin.firstCells i.size n (.slice base n c')).run P w.drew = .ok olds.toArray w.drew → olds.length = n * i.size → olds.length = cs.length →
      (∀ v ∈ olds, v.oneCell' = true) → (∀ (j : Nat) (y : Value) (u : T), olds[j]? = some y → cs[j]? = some u → Rep S w β φ y u) → n ≤ c' →
      ∃ x w', RunsTo P a o w x w' ∧ After P W S0 S β φ w σ { σ.drop s' with boxes := (σ.drop s').boxes.set s (some (remapL (butS s') some cs ++ ys)) } (.bsl s 0 (n + m) (if n + m = 0 then cn else (n + m) * i.size)) x w' := fun base c' olds cs hxv hcm hold hlo hlc ho1 hor hnc => by
    have hrun := append_grow (P := P) (t := t) (u := u) (ty := o.type) (base := base) (sLen := n) (sCap := c') (olds := olds) ht hi hz hsrc hold hcm (by omega) h63 (by omega)
    refine ⟨_, _, hwrap _ _ (by rw [hxv]; exact hrun), After.preBox s' ?_⟩
    have hg1 := hI1.grow (w' := w.drew) (Below.refl _ _).drew
    have hrl : (remapL (butS s') some cs).length = olds.length := by rw [remapL_map, List.length_map, hlc]
    refine After.from_grow hI1 (Below.refl _ _).drew (newobj_sound (σ := σ.drop s') (o := .cells (olds.toArray ++ news.toArray ++ Builtin.zeroCells z.cells (grownCap w (n + m) c' e - (n + m))) e) hg1 hns hs1 (fun β' hm => ⟨fun _ => ⟨_, e, heap_alloc_new w.drew _, ?_, ?_, ?_⟩, fun h => by omega⟩) (fun β' h => ?_))
    · simp [hnl, hrl]
    · intro j q hj hq
      simp only [List.append_toArray] at hq
      rw [Array.getElem?_append_left (by simp [hnl, ← hrl]; simp at hj; omega)] at hq
      have hq' : (olds ++ news)[j]? = some q := by simpa using hq
      rcases List.mem_append.1 (List.mem_of_getElem? hq') with h | h
      · exact ho1 q h
      · exact h1 q h
    · intro j q u hq hu
      have hj := (List.getElem?_eq_some_iff.1 hu).1
      simp only [List.append_toArray] at hq
      rw [Array.getElem?_append_left (by simp [hnl, ← hrl]; simp at hj; omega)] at hq
      have hq' : (olds ++ news)[j]? = some q := by simpa using hq
      by_cases hjo : j < olds.length
      · rw [List.getElem?_append_left hjo] at hq'
        rw [List.getElem?_append_left (by omega), remapL_map, List.getElem?_map] at hu
        obtain ⟨u', hu', rfl⟩ := Option.map_eq_some_iff.1 hu
        exact hm _ _ (((hor j q u' hq' hu').but s').grow hI.lt (Below.refl _ _).drew)
      · rw [List.getElem?_append_right (by omega)] at hq'
        rw [List.getElem?_append_right (by omega), hrl] at hu
        have := hr _ q u hq' hu
        refine hm _ _ ((this.grow hI.lt (w' := w.drew) (Below.refl _ _).drew).mono (fun _ _ => id) (fun _ _ h => by simp [noB] at h) (fun _ _ h => by simp [noF] at h) (fun _ _ _ _ _ => id) (Grows.refl _))
    · rw [if_neg (by omega)]
      refine .bsl _ _ _ _ _ _ _ _ h hp (grownCap_ge w (n + m) c' e) ⟨fun hpos sz' hm => ?_, fun h0 => by omega, fun h0 => by omega⟩
      have e2 : i.size = sz' := Nat.eq_of_mul_eq_mul_left hpos hm
      refine ⟨_, e, heap_alloc_new w.drew _, ?_⟩
      have hge := grownCap_ge w (n + m) c' e
      have e3 : n + m + (grownCap w (n + m) c' e - (n + m)) = grownCap w (n + m) c' e := by omega
      simp only [Array.size_append, List.size_toArray, hnl, hyl, hlo, size_zeroCells, hzs]
      rw [← e2, ← Nat.add_mul, ← Nat.add_mul, e3]
      omega
  -- nothing is appended to what has no room
  have none' : ∀ (base : Option Addr), xv = .slice base 0 0 → n = 0 → m = 0 →
      ∃ x w', RunsTo P a o w x w' ∧ After P W S0 S β φ w σ { σ.drop s' with boxes := (σ.drop s').boxes.set s (some (remapL (butS s') some (((boxAt σ.boxes s').getD []).take (n * i.size)) ++ ys)) } (.bsl s 0 (n + m) (if n + m = 0 then cn else (n + m) * i.size)) x w' := fun base hxv hn hm => by
    subst hn hm
    rw [hys rfl]
    simp only [Nat.zero_mul, List.take_zero, List.append_nil, Nat.add_zero]
    refine ⟨xv, w, hwrap _ _ ?_, After.preBox s' (hollow hI1 hns hs1 (by rw [hxv]; exact .bsl0 ..))⟩
    have hn0 : news = [] := List.eq_nil_of_length_eq_zero (by rw [hnl, hyl]; simp)
    subst hn0
    rw [hxv]
    rcases hsrc with ⟨dd, hu, hd, hs⟩ | ⟨kn, kq, hu, hy, hm, hb', hs0, hzs', hnew⟩
    · obtain ⟨s1, s2⟩ := hs w rfl
      have hint : (match (generalizing := false) dd with | .int _ => true | _ => false) = false := by cases dd <;> first | rfl | exact absurd rfl (hd _)
      cases base <;> simp [Builtin.append_, run_underlying ht, run_underlying hu, sizeOf, typeInfo, hi, hint, s1, s2, storeCells]
    · rw [hy]
      cases base <;> simp [Builtin.append_, run_underlying ht, run_underlying hu, sizeOf, typeInfo, hi, asInt, asIntOf, IntKind.wrap_i64, storeCells]
  have noroom : ∀ (base : Option Addr), xv = .slice base 0 0 → n = 0 →
      ∃ x w', RunsTo P a o w x w' ∧ After P W S0 S β φ w σ { σ.drop s' with boxes := (σ.drop s').boxes.set s (some (remapL (butS s') some (((boxAt σ.boxes s').getD []).take (n * i.size)) ++ ys)) } (.bsl s 0 (n + m) (if n + m = 0 then cn else (n + m) * i.size)) x w' := fun base hxv hn => by
    by_cases hm : m = 0
    · exact none' base hxv hn hm
    · subst hn
      have := grow base 0 [] [] hxv (by omega) (by cases base <;> simp [Builtin.firstCells, run_load0]) (by simp) rfl (fun v hv => (nomatch hv)) (fun j y u hy => (nomatch hy)) (Nat.le_refl _)
      simpa using this
  cases hx with
  | bsl0 _ _ ad _ _ _ => exact noroom ad rfl rfl
  | bsl _ _ _ _ _ _ b cap hb hp' hnc hzz =>
    obtain ⟨hbX, hbS, cs, hbx, hbox⟩ := hI.box s' b hb
    obtain ⟨cc, e', hcc, hccs, hc1, hcr⟩ := hbox.1 hp'
    have hba : (boxAt σ.boxes s').getD [] = cs := by simp [boxAt, hbx]
    rw [hba] at hle none' noroom ⊢
    -- room in the block
    have hroomAt : cap * i.size ≤ cc.size := by
      have fit : RoomAt w b (0 + cap * i.size) → cap * i.size ≤ cc.size := fun ⟨c2, e2, q1, q2⟩ => by
        rw [hcc] at q1
        simp only [Option.some.injEq, Obj.cells.injEq] at q1
        obtain ⟨rfl, _, _⟩ := q1
        omega
      rcases hcn with ⟨hn, hm⟩ | ⟨hn, hm | hm⟩
      · exact fit (hzz.1 hn _ hm)
      · have := hzz.2.1 hn hm; subst this; omega
      · exact fit (hzz.2.2 hn _ hsz hm)
    have hoin : ∀ j, j < n * i.size → j < cc.size := fun j hj => by omega
    have hold : ∀ w' : World, w'.heap = w.heap → (Builtin.firstCells i.size n (.slice (some ⟨b, 0, none⟩) n cap)).run P w' = .ok (cc.toList.take (n * i.size)).toArray w' := fun w' hw => by
      simp only [Builtin.firstCells]
      have := run_loadCells (P := P) w' ⟨b, 0, none⟩ (n * i.size) (fun j => cc.getD j undef) fun j hj => by
        rw [add_none, World.cell?_of_block (w := w) (w' := w') (by rw [hw]), cell_box hcc]
        have := hoin j hj
        simp [Array.getD, this]
      rw [this]
      congr 1
      apply Array.ext'
      simp only [List.toList_toArray]
      apply List.ext_getElem?
      intro j
      rw [List.getElem?_take]
      by_cases hj : j < n * i.size
      · have := hoin j hj
        simp [hj, this, Array.getD]
      · simp [hj]
    have hol : (cc.toList.take (n * i.size)).length = n * i.size := by simp; omega
    have hctl : (cs.take (n * i.size)).length = n * i.size := by simp; omega
    have ho1 : ∀ v ∈ cc.toList.take (n * i.size), v.oneCell' = true := fun v hv => by
      obtain ⟨j, hj⟩ := List.mem_iff_getElem?.1 hv
      rw [List.getElem?_take] at hj
      split at hj
      · exact hc1 j v (by omega) (by simpa using hj)
      · cases hj
    have hor : ∀ (j : Nat) (y : Value) (u : T), (cc.toList.take (n * i.size))[j]? = some y → (cs.take (n * i.size))[j]? = some u → Rep S w β φ y u := fun j y u hy hu => by
      rw [List.getElem?_take] at hy hu
      split at hy
      · rename_i hj
        rw [if_pos hj] at hu
        exact hcr j y u (by simpa using hy) hu
      · cases hy
    by_cases hroom : n + m ≤ cap
    · have hfit' : n * i.size + news.length ≤ cc.size := by
        rw [hnl, hyl, ← Nat.add_mul]
        have := Nat.mul_le_mul_right i.size hroom
        omega
      have hrun := append_room (P := P) (t := t) (u := u) (ty := o.type) ht hi hz hsrc hcc h1 (sLen := n) (sCap := cap) hroom hfit'
      have hgr : Grows w (w.setRow b (cc.toList.take (n * i.size) ++ news ++ cc.toList.drop (n * i.size + news.length)).toArray) := grows_of_row (g := b) (fun j _ hj => setRow_other w b j _ hj) fun q ⟨c2, e2, q1, q2⟩ => ⟨_, e', setRow_heap w b cc _ e' _ hcc, by
        rw [hcc] at q1
        simp only [Option.some.injEq, Obj.cells.injEq] at q1
        obtain ⟨rfl, _, _⟩ := q1
        simp only [List.size_toArray, List.length_append, List.length_take, List.length_drop, Array.length_toList]
        omega⟩
      have hrl : (remapL (butS s') some (cs.take (n * i.size))).length = n * i.size := by rw [remapL_map, List.length_map, hctl]
      refine ⟨_, _, hwrap _ _ hrun, After.preBox s' (box_gen (g := b) (σ := σ.drop s') hI1 hns hs1 ⟨rfl, rfl, rfl, by simp, fun j _ hj => setRow_other w b j _ (fun h => hj (by rw [h]))⟩ hbX hbS (fun s2 h2 => ?_) (fun k' x' e2 hk' he2 => ?_)
        (fun β' hm => ⟨fun _ => ⟨_, e', setRow_heap w b cc _ e' _ hcc, ?_, ?_, ?_⟩, fun h => by omega⟩) (fun β' h => ?_) hgr)⟩
      · by_cases hne : s2 = s'
        · simp [hne] at h2
        · simp only [hne, if_false] at h2
          exact hne (hI.inj _ _ _ h2 hb)
      · obtain ⟨g, n2, c2, sz2, xs2, i2, rfl, _, _, _, _, h6, _⟩ := hI.fam k' x' e2 hk'
        simp only [Value.ownBlock, Option.some.injEq] at he2
        exact h6 s' (by rw [hb]; simpa using he2.symm)
      · simp only [List.size_toArray, List.length_append, List.length_take, List.length_drop, Array.length_toList, hrl, hnl]
        omega
      · intro j q hj hq
        rw [getElem?_setVals _ _ _ _ hfit'] at hq
        rw [List.length_append, hrl] at hj
        split at hq
        · exact h1 q (List.mem_of_getElem? hq)
        · exact hc1 j q (by omega) hq
      · intro j q u hq hu
        have hj := (List.getElem?_eq_some_iff.1 hu).1
        rw [List.length_append, hrl] at hj
        rw [getElem?_setVals _ _ _ _ hfit'] at hq
        split at hq
        · rename_i hj2
          rw [List.getElem?_append_right (by omega), hrl] at hu
          exact hm _ _ ((hr _ q u hq hu).mono (fun _ _ => id) (fun _ _ h => by simp [noB] at h) (fun _ _ h => by simp [noF] at h) (fun _ _ _ _ _ => id) (Grows.refl _))
        · have hj3 : j < n * i.size := by omega
          rw [List.getElem?_append_left (by omega), remapL_map, List.getElem?_map] at hu
          obtain ⟨u', hu', rfl⟩ := Option.map_eq_some_iff.1 hu
          rw [List.getElem?_take, if_pos hj3] at hu'
          exact hm _ _ ((hcr j q u' hq hu').but s')
      · refine .bsl _ _ _ _ _ _ _ _ h hp hroom (BslOk.grows (w := w) ⟨fun hpos sz' hm => ?_, fun h0 hm => ?_, fun h0 sz' hs' hm => ?_⟩ hgr)
        · rw [if_neg (by omega)] at hm
          have e2 : i.size = sz' := Nat.eq_of_mul_eq_mul_left hpos hm
          exact ⟨cc, e', hcc, by rw [← e2]; omega⟩
        · rw [if_pos h0] at hm
          exact hzz.2.1 (by omega) hm
        · rw [if_pos h0] at hm
          exact hzz.2.2 (by omega) sz' hs' hm
    · exact grow (some ⟨b, 0, none⟩) cap _ _ rfl (by omega) (hold w.drew rfl) hol (by rw [hol, hctl]) ho1 hor hnc

/-- A box's row becomes a family of the call's own. -/
theorem s_thaw (hI : Inv P W S0 S β φ σ.boxes w) {d e s n cn : Nat} {x : Value} {i : TypeInfo} (hi : P.info? e = some i) (hsz : 0 < i.size) (hx : Rep S w β φ x (.bsl s 0 n cn))
    (hcn : 0 < n ∧ cn = n * i.size ∨ n = 0 ∧ (cn = 0 ∨ cn = 1 + i.size)) (hle : n * i.size ≤ ((boxAt σ.boxes s).getD []).length) (hcl : closedL (((boxAt σ.boxes s).getD []).take (n * i.size)) = true) :
    After P W S0 S β φ w σ ((σ.drop s).strip (2 * d)) (.sl (.own (8 * d) e) n (((boxAt σ.boxes s).getD []).take (n * i.size))) x w := by
  have hI1 := dropBox s hI
  refine After.preBox s ?_
  have noroom : ∀ (base : Option Addr), x = .slice base 0 0 → n = 0 → After P W S0 S (fun x => if x = s then none else β x) φ w (σ.drop s) ((σ.drop s).strip (2 * d)) (.sl (.own (8 * d) e) n (((boxAt σ.boxes s).getD []).take (n * i.size))) x w := fun base hxv hn => by
    subst hn hxv
    refine After.drop (2 * d) hI1 fun φ' => ?_
    simp only [Nat.zero_mul, List.take_zero]
    cases base with
    | none => exact .nil _ _ _ rfl
    | some ad => exact .sl _ _ _ ad _ _ _ (fun _ => undef) (Nat.le_refl _) (.inr (.inr ⟨_, e, rfl, .inr ⟨rfl, rfl, rfl⟩⟩)) (fun i hi => by simp at hi) (fun i t ht => by simp at ht)
  cases hx with
  | bsl0 _ _ ad _ _ _ => exact noroom ad rfl rfl
  | bsl _ _ _ _ _ _ b cap hb hp' hnc hzz =>
    by_cases h00 : n = 0 ∧ cn = 0
    · have := hzz.2.1 h00.1 h00.2
      subst this
      have hn := h00.1
      subst hn
      exact noroom (some ⟨b, 0, none⟩) rfl rfl
    obtain ⟨hbX, hbS, cs, hbx, hbox⟩ := hI.box s b hb
    obtain ⟨cc, e', hcc, hccs, hc1, hcr⟩ := hbox.1 hp'
    have hba : (boxAt σ.boxes s).getD [] = cs := by simp [boxAt, hbx]
    rw [hba] at hle hcl ⊢
    have hroomAt : cap * i.size ≤ cc.size := by
      have fit : RoomAt w b (0 + cap * i.size) → cap * i.size ≤ cc.size := fun ⟨c2, e2, q1, q2⟩ => by
        rw [hcc] at q1
        simp only [Option.some.injEq, Obj.cells.injEq] at q1
        obtain ⟨rfl, _, _⟩ := q1
        omega
      rcases hcn with ⟨hn, hm⟩ | ⟨hn, hm | hm⟩
      · exact fit (hzz.1 hn _ hm)
      · exact absurd ⟨hn, hm⟩ h00
      · exact fit (hzz.2.2 hn _ hsz hm)
    have hol : (cc.toList.take (n * i.size)).length = n * i.size := by simp; omega
    have hctl : (cs.take (n * i.size)).length = n * i.size := by simp; omega
    rw [closedL_all, List.all_eq_true] at hcl
    refine fam_gen (σ := σ.drop s) (w' := w) (g := b) (n := n) (c := cap) (sz := i.size) (xs := cc.toList.take (n * i.size)) hI1 hi rfl ⟨rfl, rfl, rfl, Nat.le_refl _, fun j _ _ => rfl⟩ (Grows.refl w) hbX (fun s2 h2 => ?_) (fun k => hit (2 * d) k = false) (fun k' x' e2 _ hk' he2 => ?_) (fun o sp v hS _ => absurd hS (hbS o)) (fun o hS => absurd hS (hbS o))
      ⟨hol, .inr ⟨b, cap, cc, e', rfl, Nat.zero_le _, hcc, hnc, hroomAt, rfl⟩⟩ (by rw [hol, hctl]) (fun v hv => ?_) (fun j y u hy hu => ?_) (8 * d) (by simpa using hit_site d 0 (by omega)) (T.strip (2 * d)) (fun y u S' w'' β' φ' h hp => h.strip (2 * d) fun k p hk hne => hp k p hk hne) ?_ ?_ ?_
    · by_cases hne : s2 = s
      · simp [hne] at h2
      · simp only [hne, if_false] at h2
        exact hne (hI.inj _ _ _ h2 hb)
    · obtain ⟨g, n2, c2, sz2, xs2, i2, rfl, _, _, _, _, h6, _⟩ := hI.fam k' x' e2 hk'
      simp only [Value.ownBlock, Option.some.injEq] at he2
      exact h6 s (by rw [hb]; simpa using he2.symm)
    · obtain ⟨j, hj⟩ := List.mem_iff_getElem?.1 hv
      rw [List.getElem?_take] at hj
      split at hj
      · exact hc1 j v (by omega) (by simpa using hj)
      · cases hj
    · have hu' := hu
      rw [List.getElem?_take] at hy hu
      split at hy
      · rename_i hj
        rw [if_pos hj] at hu
        exact (hcr j y u (by simpa using hy) hu).of_closed (hcl u (List.mem_of_getElem? hu'))
      · cases hy
    · simp [St.strip, stripL_map]
    · simp [St.strip, stripL_map]
    · simp only [St.strip]
      congr 1
      funext o
      cases o <;> simp [stripL_map]

/-- A capacity. -/
theorem s_capS (hI : Inv P W S0 S β φ σ.boxes w) {c : Call} {x : Operand} {ty e : TypeId} {u : T} {n : Nat} (ho : o.op = .call c) (hc : c.callee = .builtin .cap) (ha : c.args.toList = [x]) (hat : c.argTypes.toList = [ty])
    (hu : P.underlying ty = some (.slice e)) (hx : Rep S w β φ (a.eval x) u) (h : (match (generalizing := false) u with
      | .sl .nil _ _ => some 0
      | .sl .clip n _ => some n
      | .bsl _ _ 0 0 => some 0
      | _ => none) = some n) : ∃ x w', RunsTo P a o w x w' ∧ After P W S0 S β φ w σ σ (T.int (n : Nat)) x w' := by
  have he := call_eq (P := P) (w := w) (a := a) ho hc [x] ha [ty] hat
  have fin : ∀ base l, a.eval x = .slice base l n → ∃ x w', RunsTo P a o w x w' ∧ After P W S0 S β φ w σ σ (T.int (n : Nat)) x w' := fun base l hv =>
    quiet hI (x := .int .i64 n) (by rw [he]; simp [hv, builtin, Builtin.cap_, run_underlying hu, goInt]) (.v ..)
  generalize hv : a.eval x = xv at hx fin
  cases hx with
  | nil _ _ g hg =>
    cases g <;> simp at h <;> subst h <;> exact fin _ _ rfl
  | sl _ _ g ad l c' cs f hnc hg hcs hrep =>
    cases g <;> simp at h
    · rcases hg with (h' | h') | ⟨h', _⟩ | ⟨k, e', h', _⟩ <;> cases h'
    · subst h
      rcases hg with (h' | h') | ⟨_, rfl⟩ | ⟨k, e', h', _⟩
      · cases h'
      · cases h'
      · exact fin _ _ rfl
      · cases h'
  | bsl _ _ s off l m b c' hb hp hn hz =>
    split at h <;> try (cases h; done)
    · rename_i h'; cases h'
    · rename_i h'; cases h'
    · rename_i h'
      cases h'
      simp only [Option.some.injEq] at h
      subst h
      have := hz.2.1 rfl rfl
      subst this
      exact fin _ _ rfl
  | bsl0 _ _ ad s off m =>
    split at h <;> try (cases h; done)
    · rename_i h'; cases h'
    · rename_i h'; cases h'
    · simp only [Option.some.injEq] at h
      subst h
      exact fin _ _ rfl
  | _ => simp at h
end
end Go.Vi
end
section
/-
  A VERIFIED INTERPRETER (part 13): every operation that is no call.
-/
set_option linter.unusedSimpArgs false
set_option linter.unusedVariables false
namespace Go.Vi
open Go Go.RowKit

section
variable {P : Program} {W : Base} {w : World} {S0 S : Nat → Nat → Prop} {β : BMap} {φ : FMap} {a : Act} {o : Oper} {σ : St}

def IOp.isCall : IOp → Bool
  | .call .. | .callv .. | .callnew .. | .callio .. | .callvio .. => true
  | _ => false

theorem eq_of_low {C : FuncId → List T → Option T} (hI : Inv P W S0 S β φ σ.boxes w) {opd : Operand → Option Opd} (hop : ∀ x d, opd x = some d → Rep S w β φ (a.eval x) (d.get σ)) {neg : Bool} {ty yt : TypeId} {x y : Operand} {i : IOp} {t : T} {σ' : St}
    (ho : o.op = .binOp (if neg then .neq else .eql) ty x y yt) (hl : lowEq P opd neg (if neg then .neq else .eql) ty x y = some i) (hr : runOp C σ i = some (t, σ')) : ∃ x w', RunsTo P a o w x w' ∧ After P W S0 S β φ w σ σ' t x w' := by
  unfold lowEq at hl
  have scal : ∀ {ud : TypeDesc}, (do some (IOp.bin (if neg then .neq else .eql) ty (← opd x) (← opd y))) = some i → ∃ x w', RunsTo P a o w x w' ∧ After P W S0 S β φ w σ σ' t x w' := by
    intro _ hl
    simp only [Option.bind_eq_bind] at hl
    obtain ⟨d, hd, hl⟩ := Option.bind_eq_some_iff.1 hl
    obtain ⟨e, he, hl⟩ := Option.bind_eq_some_iff.1 hl
    simp only [Option.some.injEq] at hl
    subst hl
    simp only [runOp] at hr
    obtain ⟨r, hr1, hrr⟩ := Option.map_eq_some_iff.1 hr
    simp only [Prod.mk.injEq] at hrr
    obtain ⟨rfl, rfl⟩ := hrr
    exact s_bin hI ho (hop _ _ hd) (hop _ _ he) hr1
  cases hu : P.underlying ty with
  | none => simp [hu] at hl
  | some ud =>
    rw [hu] at hl
    cases ud <;> try (simp at hl; done)
    case int k => exact scal (ud := .bool) hl
    case float k => exact scal (ud := .bool) hl
    case complex k => exact scal (ud := .bool) hl
    case string => exact scal (ud := .bool) hl
    case bool =>
      simp only [Option.bind_eq_bind] at hl
      obtain ⟨d, hd, hl⟩ := Option.bind_eq_some_iff.1 hl
      obtain ⟨e, he, hl⟩ := Option.bind_eq_some_iff.1 hl
      simp only [Option.some.injEq] at hl
      subst hl
      simp only [runOp] at hr
      split at hr
      · rename_i p q hp hq
        simp only [Option.some.injEq, Prod.mk.injEq] at hr
        obtain ⟨rfl, rfl⟩ := hr
        exact s_eqb (u := T.v (.bool p)) (v := T.v (.bool q)) hI ho hu (hp ▸ hop _ _ hd) (hq ▸ hop _ _ he) rfl
      · cases hr
    case slice e =>
      simp only [Option.bind_eq_bind] at hl
      split at hl
      · rename_i hnc
        obtain ⟨d, hd, hl⟩ := Option.bind_eq_some_iff.1 hl
        simp only [Option.some.injEq] at hl
        subst hl
        have hy : a.eval y = .slice none 0 0 := by
          unfold isNilConst at hnc
          split at hnc
          · rfl
          · cases hnc
        simp only [runOp] at hr
        have hx := hop _ _ hd
        generalize d.get σ = u at hr hx
        have fin : ∀ b : T, (b, σ) = (t, σ') → (match (generalizing := false) u with
            | .sl .nil _ _ => some (T.bool (!neg))
            | .sl .imm _ _ => some (T.bool neg)
            | .sl _ n _ => if 0 < n then some (T.bool neg) else none
            | .bsl _ _ n _ => if 0 < n then some (T.bool neg) else none
            | _ => none) = some b → ∃ x w', RunsTo P a o w x w' ∧ After P W S0 S β φ w σ σ' t x w' := fun b hb h => by
          simp only [Prod.mk.injEq] at hb
          obtain ⟨rfl, rfl⟩ := hb
          exact s_eqnil hI ho hu hx hy h
        split at hr
        · simp only [Option.some.injEq] at hr
          exact fin _ hr rfl
        · simp only [Option.some.injEq] at hr
          exact fin _ hr rfl
        · split at hr <;> try (cases hr; done)
          rename_i g n cs hg1 hg2 h0
          simp only [Option.some.injEq] at hr
          refine fin _ hr ?_
          cases g <;> simp_all
        · split at hr <;> try (cases hr; done)
          rename_i h0
          simp only [Option.some.injEq] at hr
          exact fin _ hr (by simp [h0])
        · cases hr
      · cases hl
    case struct fs =>
      simp only [Option.bind_eq_bind] at hl
      obtain ⟨ks, hks, hl⟩ := Option.bind_eq_some_iff.1 hl
      split at hl
      · cases hl
      · rename_i hc
        simp only [not_or, Bool.not_eq_true, ne_eq, Decidable.not_not] at hc
        obtain ⟨d, hd, hl⟩ := Option.bind_eq_some_iff.1 hl
        obtain ⟨e, he, hl⟩ := Option.bind_eq_some_iff.1 hl
        simp only [Option.some.injEq] at hl
        subst hl
        simp only [runOp] at hr
        split at hr
        · rename_i p q hp hq
          obtain ⟨r, hr1, hrr⟩ := Option.map_eq_some_iff.1 hr
          simp only [Prod.mk.injEq] at hrr
          obtain ⟨rfl, rfl⟩ := hrr
          exact s_eqa (u := T.agg p) (v := T.agg q) hI ho hks hc.2 hc.1 (hp ▸ hop _ _ hd) (hq ▸ hop _ _ he) (by simp [hr1])
        · cases hr
    case array n e' =>
      simp only [Option.bind_eq_bind] at hl
      obtain ⟨ks, hks, hl⟩ := Option.bind_eq_some_iff.1 hl
      split at hl
      · cases hl
      · rename_i hc
        simp only [not_or, Bool.not_eq_true, ne_eq, Decidable.not_not] at hc
        obtain ⟨d, hd, hl⟩ := Option.bind_eq_some_iff.1 hl
        obtain ⟨e, he, hl⟩ := Option.bind_eq_some_iff.1 hl
        simp only [Option.some.injEq] at hl
        subst hl
        simp only [runOp] at hr
        split at hr
        · rename_i p q hp hq
          obtain ⟨r, hr1, hrr⟩ := Option.map_eq_some_iff.1 hr
          simp only [Prod.mk.injEq] at hrr
          obtain ⟨rfl, rfl⟩ := hrr
          exact s_eqa (u := T.agg p) (v := T.agg q) hI ho hks hc.2 hc.1 (hp ▸ hop _ _ hd) (hq ▸ hop _ _ he) (by simp [hr1])
        · cases hr

theorem getD_get {x : Nat → Option Opd} : True := trivial

theorem slotOf_lt {bm : List Nat} {d s : Nat} (h : slotOf bm d = some s) : s + 1 < 2 * bm.length := by
  unfold slotOf at h
  obtain ⟨i, hi, rfl⟩ := Option.map_eq_some_iff.1 h
  have := (List.getElem?_eq_some_iff.1 (idxOf?_spec hi)).1
  omega

/-- A value that is handed on: as it is, or as a family of the call's own. -/
theorem mv_sound {C : FuncId → List T → Option T} {bm : List Nat} {dst : Option Nat} {q : Opd} {t : T} {σ' : St} {x : Value} (hI : Inv P W S0 S β φ σ.boxes w) (hrun : RunsTo P a o w x w) (hx : Rep S w β φ x (q.get σ))
    (hr : runOp C σ (mvOp P bm dst q) = some (t, σ')) : ∃ x w', RunsTo P a o w x w' ∧ After P W S0 S β φ w σ σ' t x w' := by
  have plain : runOp C σ (.mv q) = some (t, σ') → ∃ x w', RunsTo P a o w x w' ∧ After P W S0 S β φ w σ σ' t x w' := fun hr => by
    simp only [runOp, Option.some.injEq, Prod.mk.injEq] at hr
    obtain ⟨rfl, rfl⟩ := hr
    exact ⟨x, w, hrun, After.same hI hx⟩
  unfold mvOp at hr
  split at hr
  · split at hr
    · split at hr
      · rename_i d e _ hc
        obtain ⟨hc0, hc1⟩ := hc
        obtain ⟨i, hi⟩ := Option.isSome_iff_exists.1 hc1
        have hsi : P.cellsOf e = i.size := by simp [Program.cellsOf, hi]
        rw [hsi] at hc0 hr
        simp only [runOp] at hr
        split at hr
        · rename_i s off n cn hg
          split at hr <;> try (cases hr; done)
          rename_i hh
          obtain ⟨rfl, hcn, hle, hcl⟩ := hh
          simp only [Option.some.injEq, Prod.mk.injEq] at hr
          obtain ⟨rfl, rfl⟩ := hr
          rw [hg] at hx
          exact ⟨x, w, hrun, s_thaw hI hi hc0 hx hcn hle hcl⟩
        · simp only [Option.some.injEq, Prod.mk.injEq] at hr
          obtain ⟨rfl, rfl⟩ := hr
          exact ⟨x, w, hrun, After.same hI hx⟩
      · exact plain hr
    · exact plain hr
  · exact plain hr

theorem op_sound {C : FuncId → List T → Option T} {io : FuncId → Nat} {vm bm : List Nat} {done : List (Option Nat)} {i : IOp} {t : T} {σ' : St} (hI : Inv P W S0 S β φ σ.boxes w) (hnb : 2 * bm.length ≤ W.nb)
    (hop : ∀ x d, lowOpd vm done x = some d → Rep S w β φ (a.eval x) (d.get σ)) (hl : lowOp P io vm bm done o = some i) (hnc : ∀ c f, o.op = .call c → c.callee ≠ .value f) (hr : runOp C σ i = some (t, σ')) :
    ∃ x w', RunsTo P a o w x w' ∧ After P W S0 S β φ w σ σ' t x w' := by
  generalize hopd : lowOpd vm done = opd at hop
  cases ho : o.op
  all_goals (simp only [lowOp, ho, hopd, Option.bind_eq_bind] at hl)
  all_goals try (cases hl; done)
  case move x =>
    obtain ⟨d, hd, rfl⟩ := Option.map_eq_some_iff.1 hl
    exact mv_sound hI (.inl (by simp [execOp, ho])) (hop _ _ hd) hr
  case assign x =>
    obtain ⟨d, hd, rfl⟩ := Option.map_eq_some_iff.1 hl
    exact mv_sound hI (.inl (by simp [execOp, ho])) (hop _ _ hd) hr
  case pick c x y =>
    obtain ⟨dc, hdc, hl⟩ := Option.bind_eq_some_iff.1 hl
    obtain ⟨dx, hdx, hl⟩ := Option.bind_eq_some_iff.1 hl
    obtain ⟨dy, hdy, hl⟩ := Option.bind_eq_some_iff.1 hl
    simp only [Option.some.injEq] at hl
    subst hl
    simp only [runOp] at hr
    split at hr
    · rename_i b hb
      simp only [Option.some.injEq, Prod.mk.injEq] at hr
      obtain ⟨rfl, rfl⟩ := hr
      exact s_pick (tc := T.v (.bool b)) hI ho (hb ▸ hop _ _ hdc) (hop _ _ hdx) (hop _ _ hdy) rfl
    · cases hr
  case binOp op ty x y yt =>
    by_cases h1 : op = .eql
    · subst h1
      exact eq_of_low (neg := false) hI hop (by simpa using ho) (by simpa using hl) hr
    · by_cases h2 : op = .neq
      · subst h2
        exact eq_of_low (neg := true) hI hop (by simpa using ho) (by simpa using hl) hr
      · have hl' : ((opd x).bind fun d => (opd y).bind fun e => some (IOp.bin op ty d e)) = some i := by
          cases op <;> first | exact hl | exact absurd rfl h1 | exact absurd rfl h2
        obtain ⟨d, hd, hl'⟩ := Option.bind_eq_some_iff.1 hl'
        obtain ⟨e, he, hl'⟩ := Option.bind_eq_some_iff.1 hl'
        simp only [Option.some.injEq] at hl'
        subst hl'
        simp only [runOp] at hr
        obtain ⟨r, hr1, hrr⟩ := Option.map_eq_some_iff.1 hr
        simp only [Prod.mk.injEq] at hrr
        obtain ⟨rfl, rfl⟩ := hrr
        exact s_bin hI ho (hop _ _ hd) (hop _ _ he) hr1
  case unOp op ty x =>
    obtain ⟨d, hd, rfl⟩ := Option.map_eq_some_iff.1 hl
    have hx := hop _ _ hd
    simp only [runOp] at hr
    split at hr
    · rename_i v hv
      obtain ⟨z, hz, hrr⟩ := Option.map_eq_some_iff.1 hr
      simp only [Prod.mk.injEq] at hrr
      obtain ⟨rfl, rfl⟩ := hrr
      exact s_un (u := T.v v) hI ho (hv ▸ hx) (by simp [hz])
    · cases hr
  case convert s d x =>
    split at hl
    · rename_i ks k hs hd'
      obtain ⟨q, hq, rfl⟩ := Option.map_eq_some_iff.1 hl
      have hx := hop _ _ hq
      simp only [runOp] at hr
      split at hr
      · rename_i k' n hv
        simp only [Option.some.injEq, Prod.mk.injEq] at hr
        obtain ⟨rfl, rfl⟩ := hr
        exact s_toInt (u := T.v (.int k' n)) hI ho hs hd' (hv ▸ hx) rfl
      · rename_i f b hv
        obtain ⟨z, hz, hrr⟩ := Option.map_eq_some_iff.1 hr
        simp only [Prod.mk.injEq] at hrr
        obtain ⟨rfl, rfl⟩ := hrr
        exact s_toInt (u := T.v (.float f b)) hI ho hs hd' (hv ▸ hx) (by simp [hz])
      · cases hr
    · rename_i ks k hs hd'
      obtain ⟨q, hq, rfl⟩ := Option.map_eq_some_iff.1 hl
      have hx := hop _ _ hq
      simp only [runOp] at hr
      split at hr
      · rename_i k' n hv
        simp only [Option.some.injEq, Prod.mk.injEq] at hr
        obtain ⟨rfl, rfl⟩ := hr
        exact s_toInt (u := T.v (.int k' n)) hI ho hs hd' (hv ▸ hx) rfl
      · rename_i f b hv
        obtain ⟨z, hz, hrr⟩ := Option.map_eq_some_iff.1 hr
        simp only [Prod.mk.injEq] at hrr
        obtain ⟨rfl, rfl⟩ := hrr
        exact s_toInt (u := T.v (.float f b)) hI ho hs hd' (hv ▸ hx) (by simp [hz])
      · cases hr
    · rename_i ks k hs hd'
      obtain ⟨q, hq, rfl⟩ := Option.map_eq_some_iff.1 hl
      have hx := hop _ _ hq
      simp only [runOp] at hr
      split at hr
      · rename_i k' n hv
        simp only [Option.some.injEq, Prod.mk.injEq] at hr
        obtain ⟨rfl, rfl⟩ := hr
        exact s_toFloat (u := T.v (.int k' n)) hI ho hs hd' (hv ▸ hx) rfl
      · cases hr
    · rename_i e hs hd'
      split at hl
      · rename_i he
        obtain ⟨q, hq, rfl⟩ := Option.map_eq_some_iff.1 hl
        have hx := hop _ _ hq
        simp only [runOp] at hr
        split at hr
        · rename_i g n cs hv
          split at hr
          · rename_i hn
            obtain ⟨z, hz, hrr⟩ := Option.map_eq_some_iff.1 hr
            simp only [Prod.mk.injEq] at hrr
            obtain ⟨rfl, rfl⟩ := hrr
            exact s_toStr (u := T.sl g n cs) hI ho hs he hd' (hv ▸ hx) (by simp [hn, hz])
          · cases hr
        · cases hr
      · cases hl
    · cases hl
  case extract x k =>
    obtain ⟨d, hd, hl⟩ := Option.bind_eq_some_iff.1 hl
    simp only [Option.some.injEq] at hl
    subst hl
    have hx := hop _ _ hd
    simp only [runOp] at hr
    split at hr
    · rename_i ts hv
      obtain ⟨z, hz, hrr⟩ := Option.map_eq_some_iff.1 hr
      simp only [Prod.mk.injEq] at hrr
      obtain ⟨rfl, rfl⟩ := hrr
      exact s_extract (u := T.tup ts) hI ho (hv ▸ hx) hz
    · cases hr
  case build ty parts =>
    split at hl <;> try (cases hl; done)
    all_goals
      rename_i hu
      split at hl <;> try (cases hl; done)
      rename_i hpo
      obtain ⟨zs, hzs, hl⟩ := Option.bind_eq_some_iff.1 hl
      obtain ⟨qs, hqs, hl⟩ := Option.bind_eq_some_iff.1 hl
      simp only [Option.some.injEq] at hl
      subst hl
      simp only [runOp] at hr
      obtain ⟨z, hz, hrr⟩ := Option.map_eq_some_iff.1 hr
      simp only [Prod.mk.injEq] at hrr
      obtain ⟨rfl, rfl⟩ := hrr
      exact s_build hI ho hpo (fun e he => by rw [hu] at he; cases he) hop hzs hqs (by simp [hz])
  case field ty x k =>
    split at hl <;> try (cases hl; done)
    rename_i fs hu
    split at hl <;> try (cases hl; done)
    rename_i f hf
    obtain ⟨⟨g, n⟩, hg, hl⟩ := Option.bind_eq_some_iff.1 hl
    obtain ⟨d, hd, hl⟩ := Option.bind_eq_some_iff.1 hl
    simp only [Option.some.injEq] at hl
    subst hl
    have hx := hop _ _ hd
    simp only [runOp] at hr
    split at hr
    · rename_i cs hv
      obtain ⟨z, hz, hrr⟩ := Option.map_eq_some_iff.1 hr
      simp only [Prod.mk.injEq] at hrr
      obtain ⟨rfl, rfl⟩ := hrr
      exact s_field (u := T.agg cs) hI ho hu hf hg (hv ▸ hx) hz
    · cases hr
  case index ty x ix =>
    split at hl <;> try (cases hl; done)
    · rename_i len e hu
      obtain ⟨⟨g, n⟩, hg, hl⟩ := Option.bind_eq_some_iff.1 hl
      obtain ⟨d, hd, hl⟩ := Option.bind_eq_some_iff.1 hl
      obtain ⟨d', hd', hl⟩ := Option.bind_eq_some_iff.1 hl
      simp only [Option.some.injEq] at hl
      subst hl
      have hx := hop _ _ hd
      simp only [runOp] at hr
      split at hr
      · rename_i cs j hv hj
        split at hr
        · rename_i hlt
          obtain ⟨z, hz, hrr⟩ := Option.map_eq_some_iff.1 hr
          simp only [Prod.mk.injEq] at hrr
          obtain ⟨rfl, rfl⟩ := hrr
          exact s_indexA (u := T.agg cs) hI ho hu hg (hv ▸ hx) (hop _ _ hd') (by simp [hj, hlt, hz])
        · cases hr
      · cases hr
    · rename_i hu
      obtain ⟨d, hd, hl⟩ := Option.bind_eq_some_iff.1 hl
      obtain ⟨d', hd', hl⟩ := Option.bind_eq_some_iff.1 hl
      simp only [Option.some.injEq] at hl
      subst hl
      have hx := hop _ _ hd
      simp only [runOp] at hr
      split at hr
      · rename_i s j hv hj
        obtain ⟨z, hz, hrr⟩ := Option.map_eq_some_iff.1 hr
        simp only [Prod.mk.injEq] at hrr
        obtain ⟨rfl, rfl⟩ := hrr
        exact s_indexS (u := T.v (.string s)) hI ho hu (hv ▸ hx) (hop _ _ hd') (by simp [hj, hz])
      · cases hr
  case alloc ty =>
    split at hl <;> try (cases hl; done)
    obtain ⟨s, hs, hl⟩ := Option.bind_eq_some_iff.1 hl
    obtain ⟨zs, hzs, hl⟩ := Option.bind_eq_some_iff.1 hl
    simp only [Option.some.injEq] at hl
    subst hl
    simp only [runOp] at hr
    split at hr <;> try (cases hr; done)
    rename_i hb
    split at hr <;> try (cases hr; done)
    rename_i hp
    simp only [Option.some.injEq, Prod.mk.injEq] at hr
    obtain ⟨rfl, rfl⟩ := hr
    exact s_alloc hI ho hzs hb hp (by have := slotOf_lt hs; omega)
  case box ty x =>
    split at hl <;> try (cases hl; done)
    obtain ⟨s, hs, hl⟩ := Option.bind_eq_some_iff.1 hl
    obtain ⟨d, hd, hl⟩ := Option.bind_eq_some_iff.1 hl
    simp only [Option.some.injEq] at hl
    subst hl
    simp only [runOp] at hr
    split at hr <;> try (cases hr; done)
    rename_i cs hb hc
    split at hr <;> try (cases hr; done)
    rename_i h1
    simp only [Option.some.injEq, Prod.mk.injEq] at hr
    obtain ⟨rfl, rfl⟩ := hr
    exact s_box hI ho (hop _ _ hd) hc h1.1 hb h1.2 (by have := slotOf_lt hs; omega)
  case load ty x =>
    obtain ⟨⟨g, n⟩, hg, hl⟩ := Option.bind_eq_some_iff.1 hl
    obtain ⟨d, hd, hl⟩ := Option.bind_eq_some_iff.1 hl
    simp only [Option.some.injEq] at hl
    subst hl
    have hx := hop _ _ hd
    simp only [runOp] at hr
    split at hr
    · rename_i s off hv
      split at hr <;> try (cases hr; done)
      rename_i cs hb
      obtain ⟨z, hz, hrr⟩ := Option.map_eq_some_iff.1 hr
      simp only [Prod.mk.injEq] at hrr
      obtain ⟨rfl, rfl⟩ := hrr
      obtain ⟨y, h1, h2⟩ := load_sound (u := T.ref s off) (t := z) hI hg (hv ▸ hx) (by simp [hb, hz])
      exact quiet hI (by simp [execOp, ho, h1]) h2
    · rename_i cs off hv
      obtain ⟨z, hz, hrr⟩ := Option.map_eq_some_iff.1 hr
      simp only [Prod.mk.injEq] at hrr
      obtain ⟨rfl, rfl⟩ := hrr
      have hz := (Option.filter_eq_some_iff.1 hz).1
      obtain ⟨y, h1, h2⟩ := load_sound (u := T.ptr cs off) (t := z) hI hg (hv ▸ hx) (by simp [hz])
      exact quiet hI (by simp [execOp, ho, h1]) h2
    · cases hr
  case store ty x y =>
    obtain ⟨⟨g, n⟩, hg, hl⟩ := Option.bind_eq_some_iff.1 hl
    obtain ⟨d, hd, hl⟩ := Option.bind_eq_some_iff.1 hl
    obtain ⟨d', hd', hl⟩ := Option.bind_eq_some_iff.1 hl
    simp only [Option.some.injEq] at hl
    subst hl
    simp only [runOp] at hr
    obtain ⟨w', h1, h2⟩ := store_sound hI hg (hop _ _ hd) (hop _ _ hd') hr
    exact ⟨undef, w', .inr ⟨rfl, by simp [execOp, ho, h1]⟩, h2⟩
  case fieldAddr ty x k =>
    split at hl <;> try (cases hl; done)
    rename_i fs hu
    split at hl <;> try (cases hl; done)
    rename_i f hf
    split at hl <;> try (cases hl; done)
    rename_i hz
    obtain ⟨d, hd, hl⟩ := Option.bind_eq_some_iff.1 hl
    simp only [Option.some.injEq] at hl
    subst hl
    have hx := hop _ _ hd
    simp only [runOp] at hr
    split at hr
    · rename_i s off hv
      simp only [Option.some.injEq, Prod.mk.injEq] at hr
      obtain ⟨rfl, rfl⟩ := hr
      obtain ⟨y, h1, h2⟩ := faddr_sound (u := T.ref s off) hu hf hz (hv ▸ hx) rfl
      exact quiet hI (by simp [execOp, ho, h1]) h2
    · rename_i cs off hv
      simp only [Option.some.injEq, Prod.mk.injEq] at hr
      obtain ⟨rfl, rfl⟩ := hr
      obtain ⟨y, h1, h2⟩ := faddr_sound (u := T.ptr cs off) hu hf hz (hv ▸ hx) rfl
      exact quiet hI (by simp [execOp, ho, h1]) h2
    · cases hr
  case indexAddr ty x ix =>
    split at hl <;> try (cases hl; done)
    · rename_i len e hu
      split at hl <;> try (cases hl; done)
      rename_i hz
      obtain ⟨d, hd, hl⟩ := Option.bind_eq_some_iff.1 hl
      obtain ⟨d', hd', hl⟩ := Option.bind_eq_some_iff.1 hl
      simp only [Option.some.injEq] at hl
      subst hl
      have hx := hop _ _ hd
      simp only [runOp] at hr
      split at hr
      · rename_i s off j hv hj
        split at hr <;> try (cases hr; done)
        rename_i hlt
        simp only [Option.some.injEq, Prod.mk.injEq] at hr
        obtain ⟨rfl, rfl⟩ := hr
        obtain ⟨y, h1, h2⟩ := iaddrA_sound (u := T.ref s off) (t := T.ref s (off + j * P.cellsOf e)) hu hz (hv ▸ hx) (hop _ _ hd') (by simp [hj, hlt])
        exact quiet hI (by simp [execOp, ho, h1]) h2
      · rename_i cs off j hv hj
        split at hr <;> try (cases hr; done)
        rename_i hlt
        simp only [Option.some.injEq, Prod.mk.injEq] at hr
        obtain ⟨rfl, rfl⟩ := hr
        obtain ⟨y, h1, h2⟩ := iaddrA_sound (u := T.ptr cs off) (t := T.ptr cs (off + j * P.cellsOf e)) hu hz (hv ▸ hx) (hop _ _ hd') (by simp [hj, hlt])
        exact quiet hI (by simp [execOp, ho, h1]) h2
      · cases hr
    · rename_i e hu
      split at hl <;> try (cases hl; done)
      rename_i hz
      obtain ⟨d, hd, hl⟩ := Option.bind_eq_some_iff.1 hl
      obtain ⟨d', hd', hl⟩ := Option.bind_eq_some_iff.1 hl
      simp only [Option.some.injEq] at hl
      subst hl
      have hx := hop _ _ hd
      simp only [runOp] at hr
      split at hr
      · rename_i g n cs j hv hj
        split at hr <;> try (cases hr; done)
        rename_i hlt
        simp only [Option.some.injEq, Prod.mk.injEq] at hr
        obtain ⟨rfl, rfl⟩ := hr
        obtain ⟨y, h1, h2⟩ := iaddrS_sound (u := T.sl g n cs) (t := T.ptr cs (j * P.cellsOf e)) hu hz (hv ▸ hx) (hop _ _ hd') (by simp [hj, hlt])
        exact quiet hI (by simp [execOp, ho, h1]) h2
      · rename_i s off n cn j hv hj
        split at hr <;> try (cases hr; done)
        rename_i hlt
        simp only [Option.some.injEq, Prod.mk.injEq] at hr
        obtain ⟨rfl, rfl⟩ := hr
        obtain ⟨y, h1, h2⟩ := iaddrS_sound (u := T.bsl s off n cn) (t := T.ref s (off + j * P.cellsOf e)) hu hz (hv ▸ hx) (hop _ _ hd') (by simp [hj, hlt])
        exact quiet hI (by simp [execOp, ho, h1]) h2
      · cases hr
  case sliceToArrayPointer ty x =>
    split at hl <;> try (cases hl; done)
    rename_i len e hu
    obtain ⟨d, hd, rfl⟩ := Option.map_eq_some_iff.1 hl
    have hx := hop _ _ hd
    simp only [runOp] at hr
    split at hr
    · rename_i s off n cn hv
      split at hr <;> try (cases hr; done)
      rename_i hle
      simp only [Option.some.injEq, Prod.mk.injEq] at hr
      obtain ⟨rfl, rfl⟩ := hr
      exact s_arrOf (u := T.bsl s off n cn) hI ho hu (hv ▸ hx) (by simp [hle])
    · rename_i g n cs hv
      split at hr <;> try (cases hr; done)
      rename_i hle
      simp only [Option.some.injEq, Prod.mk.injEq] at hr
      obtain ⟨rfl, rfl⟩ := hr
      exact s_arrOf (u := T.sl g n cs) hI ho hu (hv ▸ hx) (by simp [hle])
    · cases hr
  case makeMap ty r =>
    cases r with
    | some r => simp at hl
    | none =>
      simp only at hl
      split at hl <;> try (cases hl; done)
      obtain ⟨s, hs, rfl⟩ := Option.map_eq_some_iff.1 hl
      simp only [runOp] at hr
      split at hr <;> try (cases hr; done)
      rename_i hb
      split at hr <;> try (cases hr; done)
      rename_i hp
      simp only [Option.some.injEq, Prod.mk.injEq] at hr
      obtain ⟨rfl, rfl⟩ := hr
      exact s_mkMap hI ho hb hp (by have := slotOf_lt hs; omega)
  case lookup ty x ix ok =>
    split at hl <;> try (cases hl; done)
    rename_i kt e hu
    obtain ⟨k, hk, hl⟩ := Option.bind_eq_some_iff.1 hl
    obtain ⟨z, hz, hl⟩ := Option.bind_eq_some_iff.1 hl
    obtain ⟨d, hd, hl⟩ := Option.bind_eq_some_iff.1 hl
    obtain ⟨d', hd', hl⟩ := Option.bind_eq_some_iff.1 hl
    simp only [Option.some.injEq] at hl
    subst hl
    have hx := hop _ _ hd
    simp only [runOp] at hr
    split at hr <;> try (cases hr; done)
    rename_i s hv
    split at hr <;> try (cases hr; done)
    rename_i cs hb
    obtain ⟨r, hf, hr⟩ := Option.bind_eq_some_iff.1 hr
    cases r with
    | some v =>
      simp only [Option.some.injEq, Prod.mk.injEq] at hr
      obtain ⟨rfl, rfl⟩ := hr
      exact s_lookup (r := some v) hI ho hu hk hz (hv ▸ hx) (hop _ _ hd') hb hf rfl
    | none =>
      simp only [Option.some.injEq, Prod.mk.injEq] at hr
      obtain ⟨rfl, rfl⟩ := hr
      exact s_lookup (r := none) hI ho hu hk hz (hv ▸ hx) (hop _ _ hd') hb hf rfl
  case mapUpdate ty x ix y =>
    split at hl <;> try (cases hl; done)
    rename_i kt e hu
    obtain ⟨k, hk, hl⟩ := Option.bind_eq_some_iff.1 hl
    obtain ⟨d, hd, hl⟩ := Option.bind_eq_some_iff.1 hl
    obtain ⟨d', hd', hl⟩ := Option.bind_eq_some_iff.1 hl
    obtain ⟨d2, hd2, hl⟩ := Option.bind_eq_some_iff.1 hl
    simp only [Option.some.injEq] at hl
    subst hl
    have hx := hop _ _ hd
    simp only [runOp] at hr
    split at hr <;> try (cases hr; done)
    rename_i s hv
    split at hr <;> try (cases hr; done)
    rename_i cs hb
    obtain ⟨cs', hf, hrr⟩ := Option.map_eq_some_iff.1 hr
    simp only [Prod.mk.injEq] at hrr
    obtain ⟨rfl, rfl⟩ := hrr
    exact s_mapUpdate hI ho hu hk (hv ▸ hx) (hop _ _ hd') (hop _ _ hd2) hb hf
  case makeFunc fn first cap =>
    obtain ⟨fs, hfs, hl⟩ := Option.bind_eq_some_iff.1 hl
    obtain ⟨cs, hcs, hl⟩ := Option.bind_eq_some_iff.1 hl
    simp only [Option.some.injEq] at hl
    subst hl
    simp only [runOp, Option.some.injEq, Prod.mk.injEq] at hr
    obtain ⟨rfl, rfl⟩ := hr
    exact s_mkFunc hI ho hop hfs hcs
  case nilCheck x =>
    obtain ⟨d, hd, rfl⟩ := Option.map_eq_some_iff.1 hl
    have hx := hop _ _ hd
    simp only [runOp] at hr
    generalize d.get σ = u at hr hx
    split at hr <;> try (cases hr; done)
    all_goals
      simp only [Option.some.injEq, Prod.mk.injEq] at hr
      obtain ⟨rfl, rfl⟩ := hr
      exact s_nilCheck hI ho hx rfl
  case slice ty x lo hi mx =>
    split at hl <;> try (cases hl; done)
    · rename_i hu
      split at hl <;> try (cases hl; done)
      rename_i hmx
      rw [Option.isNone_iff_eq_none] at hmx
      subst hmx
      obtain ⟨d, hd, hl⟩ := Option.bind_eq_some_iff.1 hl
      obtain ⟨l', e1, hl⟩ := Option.bind_eq_some_iff.1 hl
      obtain ⟨h', e2, hl⟩ := Option.bind_eq_some_iff.1 hl
      simp only [Option.some.injEq] at hl
      subst hl
      have hx := hop _ _ hd
      simp only [runOp] at hr
      split at hr <;> try (cases hr; done)
      rename_i s hv
      obtain ⟨h, f2, hr⟩ := Option.bind_eq_some_iff.1 hr
      obtain ⟨l, f1, hr⟩ := Option.bind_eq_some_iff.1 hr
      split at hr <;> try (cases hr; done)
      rename_i hh
      simp only [Option.some.injEq, Prod.mk.injEq] at hr
      obtain ⟨rfl, rfl⟩ := hr
      exact s_sliceS (u := T.v (.string s)) hI ho hu hop e1 e2 (hv ▸ hx) (by simp only; rw [f2, Option.bind_some, f1, Option.bind_some, if_pos hh])
    · rename_i e hu
      split at hl <;> try (cases hl; done)
      rename_i hc
      simp only [not_or, not_and, Option.isNone_iff_eq_none] at hc
      obtain ⟨d, hd, hl⟩ := Option.bind_eq_some_iff.1 hl
      obtain ⟨l', e1, hl⟩ := Option.bind_eq_some_iff.1 hl
      obtain ⟨h', e2, hl⟩ := Option.bind_eq_some_iff.1 hl
      obtain ⟨m', e3, hl⟩ := Option.bind_eq_some_iff.1 hl
      simp only [Option.some.injEq] at hl
      subst hl
      have hx := hop _ _ hd
      have hmh : mx.isSome = true → hi.isSome = true := fun h => by
        have := hc.2 h
        cases hi with
        | none => exact absurd rfl this
        | some _ => rfl
      simp only [runOp] at hr
      split at hr <;> try (cases hr; done)
      · rename_i g n cs hv
        obtain ⟨h, f2, hr⟩ := Option.bind_eq_some_iff.1 hr
        obtain ⟨l, f1, hr⟩ := Option.bind_eq_some_iff.1 hr
        obtain ⟨m, f3, hr⟩ := Option.bind_eq_some_iff.1 hr
        split at hr <;> try (cases hr; done)
        rename_i hh
        simp only [Option.some.injEq, Prod.mk.injEq] at hr
        obtain ⟨rfl, rfl⟩ := hr
        refine s_sliceT (u := T.sl g n cs) hI ho hu hc.1 hop e1 e2 e3 hmh (hv ▸ hx) ?_
        simp only
        rw [f2, Option.bind_some, f1, Option.bind_some, f3, Option.bind_some, if_pos hh]
      · rename_i s off n cn hv
        obtain ⟨h, f2, hr⟩ := Option.bind_eq_some_iff.1 hr
        obtain ⟨l, f1, hr⟩ := Option.bind_eq_some_iff.1 hr
        obtain ⟨m, f3, hr⟩ := Option.bind_eq_some_iff.1 hr
        split at hr <;> try (cases hr; done)
        rename_i hh
        simp only [Option.some.injEq, Prod.mk.injEq] at hr
        obtain ⟨rfl, rfl⟩ := hr
        refine s_sliceT (u := T.bsl s off n cn) hI ho hu hc.1 hop e1 e2 e3 hmh (hv ▸ hx) ?_
        simp only
        rw [f2, Option.bind_some, f1, Option.bind_some, f3, Option.bind_some, if_pos hh]
    · rename_i len e hu
      split at hl <;> try (cases hl; done)
      rename_i hc
      simp only [not_or, Option.isSome_iff_ne_none, ne_eq, Decidable.not_not] at hc
      obtain ⟨hz, rfl⟩ := hc
      obtain ⟨d, hd, hl⟩ := Option.bind_eq_some_iff.1 hl
      obtain ⟨l', e1, hl⟩ := Option.bind_eq_some_iff.1 hl
      obtain ⟨h', e2, hl⟩ := Option.bind_eq_some_iff.1 hl
      simp only [Option.some.injEq] at hl
      subst hl
      have hx := hop _ _ hd
      simp only [runOp] at hr
      split at hr <;> try (cases hr; done)
      rename_i s off hv
      obtain ⟨h, f2, hr⟩ := Option.bind_eq_some_iff.1 hr
      obtain ⟨l, f1, hr⟩ := Option.bind_eq_some_iff.1 hr
      split at hr <;> try (cases hr; done)
      rename_i cs hbx
      split at hr <;> try (cases hr; done)
      rename_i hh
      simp only [Option.some.injEq, Prod.mk.injEq] at hr
      obtain ⟨rfl, rfl⟩ := hr
      refine s_sliceA (u := T.ref s off) hI ho hu hz hop e1 e2 (hv ▸ hx) ?_
      simp only
      rw [f2, Option.bind_some, f1, Option.bind_some, hbx]
      simp only
      rw [if_pos hh]
  case makeSlice ty l c =>
    split at hl <;> try (cases hl; done)
    rename_i e d hu hdst
    have key : ∀ (q : Opd) zs, 0 < P.cellsOf e → zeroOf P e = some zs → opd l = some q → a.eval c = a.eval l → i = mkOp bm d e (P.cellsOf e) (P.bytesOf e) zs q → ∃ x w', RunsTo P a o w x w' ∧ After P W S0 S β φ w σ σ' t x w' := by
      rintro q zs hz0 hzs hq hcl rfl
      unfold mkOp at hr
      split at hr
      · rename_i s hs
        simp only [runOp] at hr
        split at hr <;> try (cases hr; done)
        rename_i n hn hb
        split at hr <;> try (cases hr; done)
        rename_i hh
        simp only [Option.some.injEq, Prod.mk.injEq] at hr
        obtain ⟨rfl, rfl⟩ := hr
        exact s_mkBox hI ho hu hz0 hcl (hop _ _ hq) hn hzs hh.1 hh.2.1 hb hh.2.2 (by have := slotOf_lt hs; omega)
      simp only [runOp] at hr
      split at hr <;> try (cases hr; done)
      rename_i n hn
      split at hr <;> try (cases hr; done)
      rename_i hh
      simp only [Option.some.injEq, Prod.mk.injEq] at hr
      obtain ⟨rfl, rfl⟩ := hr
      exact s_mkSlice hI ho hu hz0 hcl (hop _ _ hq) hn hzs hh.1 hh.2
    split at hl <;> try (cases hl; done)
    · rename_i l' c'
      split at hl <;> try (cases hl; done)
      rename_i hh
      obtain ⟨zs, hzs, hl⟩ := Option.bind_eq_some_iff.1 hl
      obtain ⟨q, hq, hl⟩ := Option.bind_eq_some_iff.1 hl
      simp only [Option.some.injEq] at hl
      exact key q zs hh.2 hzs hq (by rw [hh.1]) hl.symm
    · rename_i m m'
      split at hl <;> try (cases hl; done)
      rename_i hh
      obtain ⟨zs, hzs, hl⟩ := Option.bind_eq_some_iff.1 hl
      obtain ⟨q, hq, hl⟩ := Option.bind_eq_some_iff.1 hl
      simp only [Option.some.injEq] at hl
      exact key q zs hh.2 hzs hq (by rw [hh.1]) hl.symm
    · rename_i c'
      split at hl <;> try (cases hl; done)
      rename_i hh
      obtain ⟨q, hq, rfl⟩ := Option.map_eq_some_iff.1 hl
      obtain ⟨zs, hzs⟩ := Option.isSome_iff_exists.1 hh.2
      simp only [runOp] at hr
      split at hr <;> try (cases hr; done)
      rename_i n hn
      split at hr <;> try (cases hr; done)
      rename_i hb
      simp only [Option.some.injEq, Prod.mk.injEq] at hr
      obtain ⟨rfl, rfl⟩ := hr
      exact s_mkCap hI ho hu hh.1 rfl (hop _ _ hq) hn hzs hb.1 hb.2
  case buildSlice ty len parts =>
    split at hl <;> try (cases hl; done)
    rename_i e d hu hdst
    split at hl <;> try (cases hl; done)
    rename_i hh
    obtain ⟨zs, hzs, hl⟩ := Option.bind_eq_some_iff.1 hl
    obtain ⟨qs, hqs, hl⟩ := Option.bind_eq_some_iff.1 hl
    simp only [Option.some.injEq] at hl
    subst hl
    unfold bsOp at hr
    split at hr
    · rename_i s hs
      simp only [runOp] at hr
      split at hr <;> try (cases hr; done)
      rename_i hb0
      obtain ⟨cs, hcs, hr⟩ := Option.bind_eq_some_iff.1 hr
      split at hr <;> try (cases hr; done)
      rename_i hb
      simp only [Option.some.injEq, Prod.mk.injEq] at hr
      obtain ⟨rfl, rfl⟩ := hr
      exact s_bsliceB hI ho hu hh.2 hh.1 hop hzs hqs hcs hb.1 hb.2.1 hb0 hb.2.2 (by have := slotOf_lt hs; omega)
    simp only [runOp, Option.bind_eq_bind] at hr
    obtain ⟨cs, hcs, hr⟩ := Option.bind_eq_some_iff.1 hr
    split at hr <;> try (cases hr; done)
    rename_i hb
    simp only [Option.some.injEq, Prod.mk.injEq] at hr
    obtain ⟨rfl, rfl⟩ := hr
    exact s_bslice hI ho hu hh.2 hh.1 hop hzs hqs hcs hb.1 hb.2.1 hb.2.2
  case call c =>
    split at hl
    · -- append
      rename_i d hcal hdst
      split at hl <;> try (cases hl; done)
      rename_i x y ty uy hargs htys
      have key : ∀ (e : TypeId) (sz : Nat) (zs : List T) (kind : Nat) (qx qy : Opd), P.underlying ty = some (.slice e) → 0 < sz → P.cellsOf e = sz → zeroOf P e = some zs → opd x = some qx → opd y = some qy → i = appOp bm d e sz (P.bytesOf e) zs kind qx qy →
          ((kind = 0 ∧ ∃ e', P.underlying uy = some (.slice e')) ∨ (kind = 1 ∧ P.underlying uy = some .string) ∨ (kind = 2 ∧ ∃ k, P.underlying uy = some (.int k))) → ∃ x w', RunsTo P a o w x w' ∧ After P W S0 S β φ w σ σ' t x w' := by
        rintro e sz zs kind qx qy hu hz0 hsz hzs hqx hqy rfl hkind
        obtain ⟨i, z, hi, hz, hzc, hR⟩ := zeroOf_spec (S := S) (w := w) (β := noB) (φ := noF) hzs
        have hsi : sz = i.size := by rw [← hsz]; simp [Program.cellsOf, hi]
        have hbi : P.bytesOf e = i.bytes := by simp [Program.bytesOf, hi]
        subst hsi
        have hx := hop _ _ hqx
        have hy := hop _ _ hqy
        have hsrc' : ∀ m ys, srcOf σ.boxes kind i.size zs (qy.get σ) = some (m, ys) → ys.length = m * i.size → m ≤ room → m * i.bytes ≤ room → srcClosed (qy.get σ) ys = true →
            ∃ news, SrcOK P uy i z (a.eval y) m news w ∧ news.length = ys.length ∧ (∀ v ∈ news, v.oneCell' = true) ∧ ∀ (j : Nat) (q : Value) (t : T), news[j]? = some q → ys[j]? = some t → Rep S w noB noF q t := by
          intro m ys hsrc hyl h63 hbytes hcl
          unfold srcOf at hsrc
          rcases hkind with ⟨rfl, e', hu'⟩ | ⟨rfl, hu'⟩ | ⟨rfl, k, hk⟩
          · simp only at hsrc
            split at hsrc
            · rename_i g' m' ys' hgy
              simp only [Option.some.injEq, Prod.mk.injEq] at hsrc
              obtain ⟨rfl, rfl⟩ := hsrc
              rw [hgy] at hy; exact src_slice hu' hy hyl
            · rename_i s off m' c' hgy
              split at hsrc <;> try (cases hsrc; done)
              rename_i cs hbx
              split at hsrc <;> try (cases hsrc; done)
              rename_i hp
              simp only [Option.some.injEq, Prod.mk.injEq] at hsrc
              obtain ⟨rfl, rfl⟩ := hsrc
              rw [hgy] at hy hcl
              exact src_box hI hu' hy hbx hyl hcl
            · cases hsrc
          · simp only at hsrc
            split at hsrc <;> try (cases hsrc; done)
            rename_i s hgy
            split at hsrc <;> try (cases hsrc; done)
            rename_i hs1
            simp only [Option.some.injEq, Prod.mk.injEq] at hsrc
            obtain ⟨rfl, rfl⟩ := hsrc
            rw [hgy] at hy
            rw [rep_v hy]
            exact src_str hu' hs1
          · simp only at hsrc
            obtain ⟨m', hm', hmm⟩ := Option.map_eq_some_iff.1 hsrc
            simp only [Prod.mk.injEq] at hmm
            obtain ⟨rfl, rfl⟩ := hmm
            obtain ⟨kq, hkq⟩ := asNat_spec hy hm'
            rw [hkq]
            exact src_zero hk (by simp only [room] at h63; omega) (by simp only [room] at hbytes; omega) hz0 hzc hR
        unfold appOp at hr
        split at hr
        · rename_i s hsl
          simp only [runOp] at hr
          split at hr <;> try (cases hr; done)
          · rename_i g n xs m ys hgx hsrc hbs
            split at hr <;> try (cases hr; done)
            rename_i hh
            obtain ⟨hn0, hyl, hbytes, h63, hcl, hp⟩ := hh
            subst hn0
            rw [hbi] at hbytes
            rw [hgx] at hx
            obtain ⟨news, k1, k2, k3, k4⟩ := hsrc' m ys hsrc hyl h63 hbytes hcl
            refine s_appendB (zs := []) hI ho hcal hargs htys hu hi hz hzc hz0 hx hyl k1 k2 k3 k4 (by simp only [room] at h63; exact h63) (by simp only [room] at hbytes; exact hbytes) hbs hp (by have := slotOf_lt hsl; omega) ?_
            cases g <;> exact hr
          · rename_i s' o' n cn m ys old hgx hsrc hbs
            split at hr <;> try (cases hr; done)
            rename_i hh
            obtain ⟨ho0, hss, hp, hcn, hle, hyl, hbytes, h63, hcl⟩ := hh
            subst ho0
            simp only [Option.some.injEq, Prod.mk.injEq] at hr
            obtain ⟨rfl, rfl⟩ := hr
            rw [hbi] at hbytes
            rw [hgx] at hx
            obtain ⟨news, k1, k2, k3, k4⟩ := hsrc' m ys hsrc hyl (by omega) (by
              have : m * i.bytes ≤ (n + m) * i.bytes := Nat.mul_le_mul_right _ (by omega)
              omega) hcl
            exact s_appendBB hI ho hcal hargs htys hu hi hz hzc hz0 hx hyl k1 k2 k3 k4 (by simp only [room] at h63; exact h63) (by simp only [room] at hbytes; exact hbytes) (hss.imp id fun h => by
              cases old with
              | none => exact hbs
              | some _ => cases h) (List.getElem?_eq_some_iff.1 hbs).1 hp (by have := slotOf_lt hsl; omega) hcn hle
        simp only [runOp] at hr
        split at hr <;> try (cases hr; done)
        rename_i g n xs m ys hgx hsrc
        split at hr <;> try (cases hr; done)
        rename_i hh
        obtain ⟨hxl, hyl, hbytes, h63, hcl⟩ := hh
        rw [hbi] at hbytes
        rw [hgx] at hx
        obtain ⟨news, k1, k2, k3, k4⟩ := hsrc' m ys hsrc hyl (by omega) (by
          have : m * i.bytes ≤ (n + m) * i.bytes := Nat.mul_le_mul_right _ (by omega)
          omega) hcl
        refine s_append (zs := []) (d := d) hI ho hcal hargs htys hu hi hz hzc hz0 hx hxl hyl k1 k2 k3 k4 (by simp only [room] at h63; exact h63) (by simp only [room] at hbytes; exact hbytes) ?_
        cases g <;> exact hr
      split at hl <;> try (cases hl; done)
      · rename_i e e' hu hu'
        split at hl <;> try (cases hl; done)
        rename_i hh
        obtain ⟨zs, hzs, hl⟩ := Option.bind_eq_some_iff.1 hl
        obtain ⟨qx, hqx, hl⟩ := Option.bind_eq_some_iff.1 hl
        obtain ⟨qy, hqy, hl⟩ := Option.bind_eq_some_iff.1 hl
        simp only [Option.some.injEq] at hl
        exact key e _ zs 0 qx qy hu hh rfl hzs hqx hqy hl.symm (.inl ⟨rfl, e', hu'⟩)
      · rename_i e hu hu'
        split at hl <;> try (cases hl; done)
        rename_i hh
        obtain ⟨zs, hzs, hl⟩ := Option.bind_eq_some_iff.1 hl
        obtain ⟨qx, hqx, hl⟩ := Option.bind_eq_some_iff.1 hl
        obtain ⟨qy, hqy, hl⟩ := Option.bind_eq_some_iff.1 hl
        simp only [Option.some.injEq] at hl
        exact key e 1 zs 1 qx qy hu (by omega) hh hzs hqx hqy hl.symm (.inr (.inl ⟨rfl, hu'⟩))
      · rename_i e k hu hu'
        split at hl <;> try (cases hl; done)
        rename_i hh
        obtain ⟨zs, hzs, hl⟩ := Option.bind_eq_some_iff.1 hl
        obtain ⟨qx, hqx, hl⟩ := Option.bind_eq_some_iff.1 hl
        obtain ⟨qy, hqy, hl⟩ := Option.bind_eq_some_iff.1 hl
        simp only [Option.some.injEq] at hl
        exact key e _ zs 2 qx qy hu hh rfl hzs hqx hqy hl.symm (.inr (.inr ⟨rfl, k, hu'⟩))
    · -- len
      rename_i hcal
      split at hl <;> try (cases hl; done)
      rename_i x ty hargs htys
      split at hl <;> try (cases hl; done)
      · rename_i e hu
        obtain ⟨d, hd, rfl⟩ := Option.map_eq_some_iff.1 hl
        simp only [runOp] at hr
        obtain ⟨z, hz, hrr⟩ := Option.map_eq_some_iff.1 hr
        simp only [Prod.mk.injEq] at hrr
        obtain ⟨rfl, rfl⟩ := hrr
        exact s_len hI ho hcal hargs htys (.inl ⟨rfl, _, hu⟩) (hop _ _ hd) hz
      · rename_i hu
        obtain ⟨d, hd, rfl⟩ := Option.map_eq_some_iff.1 hl
        simp only [runOp] at hr
        obtain ⟨z, hz, hrr⟩ := Option.map_eq_some_iff.1 hr
        simp only [Prod.mk.injEq] at hrr
        obtain ⟨rfl, rfl⟩ := hrr
        exact s_len hI ho hcal hargs htys (.inr ⟨rfl, hu⟩) (hop _ _ hd) hz
      · rename_i n e hu
        simp only [Option.some.injEq] at hl
        subst hl
        simp only [runOp, Option.some.injEq, Prod.mk.injEq] at hr
        obtain ⟨rfl, rfl⟩ := hr
        have he := call_eq (P := P) (w := w) (a := a) ho hcal [x] hargs [ty] htys
        exact quiet hI (x := .int .i64 n) (by rw [he]; simp [builtin, Builtin.len_, run_underlying hu, goInt]) (.v ..)
      · rename_i hu
        obtain ⟨d, hd, rfl⟩ := Option.map_eq_some_iff.1 hl
        have hx := hop _ _ hd
        simp only [runOp] at hr
        split at hr <;> try (cases hr; done)
        rename_i s hv
        split at hr <;> try (cases hr; done)
        rename_i cs hb
        simp only [Option.some.injEq, Prod.mk.injEq] at hr
        obtain ⟨rfl, rfl⟩ := hr
        exact s_lenM hI ho hcal hargs htys hu (hv ▸ hx) hb
    · -- cap
      rename_i hcal
      split at hl <;> try (cases hl; done)
      rename_i x ty hargs htys
      split at hl <;> try (cases hl; done)
      rename_i e hu
      obtain ⟨d, hd, rfl⟩ := Option.map_eq_some_iff.1 hl
      have hx := hop _ _ hd
      simp only [runOp] at hr
      split at hr <;> try (cases hr; done)
      · rename_i hv
        simp only [Option.some.injEq, Prod.mk.injEq] at hr
        obtain ⟨rfl, rfl⟩ := hr
        exact s_capS hI ho hcal hargs htys hu (hv ▸ hx) rfl
      · rename_i n cs hv
        simp only [Option.some.injEq, Prod.mk.injEq] at hr
        obtain ⟨rfl, rfl⟩ := hr
        exact s_capS hI ho hcal hargs htys hu (hv ▸ hx) rfl
      · rename_i hv
        simp only [Option.some.injEq, Prod.mk.injEq] at hr
        obtain ⟨rfl, rfl⟩ := hr
        exact s_capS hI ho hcal hargs htys hu (hv ▸ hx) rfl
    · rename_i hcal
      obtain ⟨as, has, hl⟩ := Option.bind_eq_some_iff.1 hl
      simp only [Option.some.injEq] at hl
      subst hl
      simp only [runOp] at hr
      split at hr <;> try (cases hr; done)
      rename_i k x rest hts
      obtain ⟨z, hz, hrr⟩ := Option.map_eq_some_iff.1 hr
      simp only [Prod.mk.injEq] at hrr
      obtain ⟨rfl, rfl⟩ := hrr
      exact s_minMax (mx := true) hI ho hcal hop has (by rw [hts]; simp [hz])
    · rename_i hcal
      obtain ⟨as, has, hl⟩ := Option.bind_eq_some_iff.1 hl
      simp only [Option.some.injEq] at hl
      subst hl
      simp only [runOp] at hr
      split at hr <;> try (cases hr; done)
      rename_i k x rest hts
      obtain ⟨z, hz, hrr⟩ := Option.map_eq_some_iff.1 hr
      simp only [Prod.mk.injEq] at hrr
      obtain ⟨rfl, rfl⟩ := hrr
      exact s_minMax (mx := false) hI ho hcal hop has (by rw [hts]; simp [hz])
    · rename_i hcal
      split at hl <;> try (cases hl; done)
      rename_i x hargs
      obtain ⟨d, hd, rfl⟩ := Option.map_eq_some_iff.1 hl
      have hx := hop _ _ hd
      simp only [runOp] at hr
      split at hr <;> try (cases hr; done)
      rename_i f re im hv
      simp only [Option.some.injEq, Prod.mk.injEq] at hr
      obtain ⟨rfl, rfl⟩ := hr
      exact s_part (k := 0) (u := T.v (.complex f re im)) hI ho hcal hargs (hv ▸ hx) rfl
    · rename_i hcal
      split at hl <;> try (cases hl; done)
      rename_i x hargs
      obtain ⟨d, hd, rfl⟩ := Option.map_eq_some_iff.1 hl
      have hx := hop _ _ hd
      simp only [runOp] at hr
      split at hr <;> try (cases hr; done)
      rename_i f re im hv
      simp only [Option.some.injEq, Prod.mk.injEq] at hr
      obtain ⟨rfl, rfl⟩ := hr
      exact s_part (k := 1) (u := T.v (.complex f re im)) hI ho hcal hargs (hv ▸ hx) rfl
    · rename_i hcal
      split at hl <;> try (cases hl; done)
      rename_i x y hargs
      obtain ⟨d, hd, hl⟩ := Option.bind_eq_some_iff.1 hl
      obtain ⟨d', hd', hl⟩ := Option.bind_eq_some_iff.1 hl
      simp only [Option.some.injEq] at hl
      subst hl
      have hx := hop _ _ hd
      have hy := hop _ _ hd'
      simp only [runOp] at hr
      split at hr <;> try (cases hr; done)
      rename_i k re k' im hv hv'
      split at hr <;> try (cases hr; done)
      rename_i hk
      simp only [Option.some.injEq, Prod.mk.injEq] at hr
      obtain ⟨rfl, rfl⟩ := hr
      exact s_cplx (u := T.v (.float k re)) (v := T.v (.float k' im)) hI ho hcal hargs (hv ▸ hx) (hv' ▸ hy) (by simp [hk])
    · rename_i hcal
      split at hl <;> try (cases hl; done)
      rename_i x y ty uy hargs htys
      split at hl <;> try (cases hl; done)
      rename_i e hu
      split at hl <;> try (cases hl; done)
      rename_i hz
      obtain ⟨d, hd, hl⟩ := Option.bind_eq_some_iff.1 hl
      obtain ⟨d', hd', hl⟩ := Option.bind_eq_some_iff.1 hl
      simp only [Option.some.injEq] at hl
      subst hl
      simp only [runOp] at hr
      exact s_copy hI ho hcal hargs htys hu rfl (by omega) (hop _ _ hd) (hop _ _ hd') hr
    · rename_i hcal
      split at hl <;> try (cases hl; done)
      rename_i x ty hargs htys
      split at hl <;> try (cases hl; done)
      rename_i e hu
      split at hl <;> try (cases hl; done)
      rename_i hz0
      obtain ⟨zs, hzs, hl⟩ := Option.bind_eq_some_iff.1 hl
      obtain ⟨d, hd, hl⟩ := Option.bind_eq_some_iff.1 hl
      simp only [Option.some.injEq] at hl
      subst hl
      have hx := hop _ _ hd
      simp only [runOp] at hr
      split at hr <;> try (cases hr; done)
      rename_i s off n cn hv
      split at hr <;> try (cases hr; done)
      rename_i cs hb
      split at hr <;> try (cases hr; done)
      rename_i hh
      simp only [Option.some.injEq, Prod.mk.injEq] at hr
      obtain ⟨rfl, rfl⟩ := hr
      exact s_clearS hI ho hcal hargs htys hu rfl hzs (hv ▸ hx) hb hh.1 hh.2.2.1 hh.2.2.2.1
    · rename_i f d hcal hdst
      exact absurd hcal (hnc c _ ho)
    · rename_i s d hcal hdst
      exact absurd hcal (hnc c _ ho)
    · cases hl
end
end Go.Vi
end
