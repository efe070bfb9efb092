/-
  A claim's own text, joined by a small program out of: Vj5, Vj6.
-/
import Derived.Test.YtodollbkpkpklaaGreatW1
import Derived.Lib.AppendStr
set_option linter.unusedVariables false
set_option linter.unusedSimpArgs false
section
/-
  A VERIFIED INTERPRETER (part 5): rows of the call's own: made, appended to.
-/
set_option linter.unusedSimpArgs false
set_option linter.unusedVariables false
namespace Go.Vi
open Go Go.RowKit

section
variable {P : Program}

/-- What is appended. -/
def SrcOK (P : Program) (u : TypeId) (i : TypeInfo) (z x : Value) (m : Nat) (news : List Value) (w : World) : Prop :=
  (∃ d, P.underlying u = some d ∧ (∀ k, d ≠ .int k) ∧ ∀ w' : World, w'.heap = w.heap → (Builtin.lenOf x).run P w' = .ok m w' ∧ (Builtin.firstCells i.size m x).run P w' = .ok news.toArray w') ∨
  (∃ kn kq, P.underlying u = some (.int kn) ∧ x = .int kq (m : Int) ∧ m ≤ 4294967296 ∧ m * i.bytes ≤ 281474976710656 ∧ 0 < i.size ∧ z.cells.size = i.size ∧ news = (Builtin.zeroCells z.cells m).toList)

theorem append_room {t u ty e : TypeId} {i : TypeInfo} {z : Value} (ht : P.underlying t = some (.slice e)) (hi : P.info? e = some i) (hz : i.zero = some z) {x : Value} {m : Nat} {news : List Value} {w : World} (hs : SrcOK P u i z x m news w)
    {g sLen sCap : Nat} {cur : Array Value} {e2 : TypeId} (hg : w.heap[g]? = some (.cells cur e2 (0, 0))) (h1 : ∀ v ∈ news, v.oneCell' = true) (hroom : sLen + m ≤ sCap) (hfit : sLen * i.size + news.length ≤ cur.size) :
    (Builtin.append_ #[t, u] ty #[.slice (some ⟨g, 0, none⟩) sLen sCap, x]).run P w =
      .ok (.slice (some ⟨g, 0, none⟩) (sLen + m) sCap) (w.setRow g (cur.toList.take (sLen * i.size) ++ news ++ cur.toList.drop (sLen * i.size + news.length)).toArray) := by
  have hst := run_storeCells_at P g (sLen * i.size) e2 news 0 cur w hg (by simpa using hfit) h1
  simp only [Nat.add_zero] at hst
  rcases hs with ⟨d, hu, hd, hsrc⟩ | ⟨kn, kq, hu, rfl, hm, hb, hsz, hzs, rfl⟩
  · obtain ⟨hl, hf⟩ := hsrc w rfl
    have hint : (match (generalizing := false) d with | .int _ => true | _ => false) = false := by cases d <;> first | rfl | exact absurd rfl (hd _)
    simp [Builtin.append_, run_underlying ht, run_underlying hu, sizeOf, typeInfo, hi, hint, hl, hroom, hf, Addr.add_lit, hst]
  · have hw : IntKind.i64.wrap (m : Int) = m := by rw [IntKind.wrap_i64]; omega
    have hneg : ¬ ((m : Int) < 0) := by omega
    have h48i : ¬ (281474976710656 < (m : Int) * (i.bytes : Int)) := by rw [← Int.natCast_mul]; omega
    by_cases h0 : m * i.size = 0
    · have hm0 : m = 0 := by rcases Nat.mul_eq_zero.1 h0 with h | h <;> omega
      subst hm0
      have e0 : (Builtin.zeroCells z.cells 0).toList = [] := by simp [Builtin.zeroCells]
      rw [e0] at hst ⊢
      simp [Builtin.append_, run_underlying ht, run_underlying hu, sizeOf, typeInfo, zeroValue, hi, hz, asInt, asIntOf, IntKind.wrap_i64, hroom, Addr.add_lit] at hst ⊢
      simp at hroom
      simp [hroom, hst]
    · simp [Builtin.append_, run_underlying ht, run_underlying hu, sizeOf, typeInfo, zeroValue, hi, hz, asInt, asIntOf, hw, hneg, h48i, h0, hroom, Addr.add_lit, hst]

theorem append_grow {t u ty e : TypeId} {i : TypeInfo} {z : Value} (ht : P.underlying t = some (.slice e)) (hi : P.info? e = some i) (hz : i.zero = some z) {x : Value} {m : Nat} {news : List Value} {w : World} (hs : SrcOK P u i z x m news w)
    {base : Option Addr} {sLen sCap : Nat} {olds : List Value} (hold : (Builtin.firstCells i.size sLen (.slice base sLen sCap)).run P w.drew = .ok olds.toArray w.drew) (hg : sCap < sLen + m) (h0m : 0 < m)
    (h63 : sLen + m ≤ 4294967296) (hfit : (sLen + m) * i.bytes ≤ 140737488355328) :
    (Builtin.append_ #[t, u] ty #[.slice base sLen sCap, x]).run P w =
      .ok (.slice (some ⟨w.heap.size, 0, none⟩) (sLen + m) (grownCap w (sLen + m) sCap e))
        (w.drew.alloc (.cells (olds.toArray ++ news.toArray ++ Builtin.zeroCells z.cells (grownCap w (sLen + m) sCap e - (sLen + m))) e)) := by
  have hn : ¬ (sLen + m ≤ sCap) := by omega
  have h63' : ¬ (9223372036854775807 < ((sLen : Int) + (m : Int))) := by omega
  have h48' : ¬ (281474976710656 < Builtin.nextslicecap (sLen + m) sCap * i.bytes) := by have := growslice_fits hg hfit; omega
  rcases hs with ⟨d, hu, hd, hsrc⟩ | ⟨kn, kq, hu, rfl, hm, hb, hsz, hzs, rfl⟩
  · obtain ⟨hl, _⟩ := hsrc w rfl
    obtain ⟨_, hf⟩ := hsrc w.drew rfl
    have hint : (match (generalizing := false) d with | .int _ => true | _ => false) = false := by cases d <;> first | rfl | exact absurd rfl (hd _)
    simp [Builtin.append_, run_underlying ht, run_underlying hu, sizeOf, typeInfo, zeroValue, hi, hz, hint, hl, hn, h63', h48', Question.forced, hf, hold, newRow, grownCap]
    simp only [← Array.append_assoc, List.append_toArray]
  · have hw : IntKind.i64.wrap (m : Int) = m := by rw [IntKind.wrap_i64]; omega
    have hneg : ¬ ((m : Int) < 0) := by omega
    have h48i : ¬ (281474976710656 < (m : Int) * (i.bytes : Int)) := by rw [← Int.natCast_mul]; omega
    have h0 : ¬ (m * i.size = 0) := Nat.mul_ne_zero (by omega) (by omega)
    simp [Builtin.append_, run_underlying ht, run_underlying hu, sizeOf, typeInfo, zeroValue, hi, hz, asInt, asIntOf, hw, hn, hneg, h0, h63', h48', h48i, Question.forced, hold, newRow, grownCap]

/-- A new row that an append makes. -/
theorem grown_row {base e : Nat} {i : TypeInfo} {z : Value} {w : World} {n m old : Nat} {xs news : List Value} (hsize : z.cells.size = i.size) (hb : base ≤ w.heap.size) (hx : xs.length = n * i.size) (hl : news.length = m * i.size) (h63 : n + m ≤ 4294967296) :
    (w.drew.alloc (.cells (xs.toArray ++ news.toArray ++ Builtin.zeroCells z.cells (grownCap w (n + m) old e - (n + m))) e)).ownsRow base e i.size
      (.slice (some ⟨w.heap.size, 0, none⟩) (n + m) (grownCap w (n + m) old e)) (n + m) (xs ++ news) := by
  have hge := grownCap_ge w (n + m) old e
  have hcm : grownCap w (n + m) old e ≤ maxLen := grownCap_le_maxLen w (n + m) old e (by simp only [maxLen]; omega)
  have hlen : (xs ++ news).length = (n + m) * i.size := by rw [List.length_append, hx, hl, Nat.add_mul]
  refine ⟨hlen, .inr ⟨w.heap.size, _, _, rfl, hb, heap_alloc_new w.drew _, hge, hcm, ?_, ?_⟩⟩
  · simp only [Array.size_append, List.size_toArray, size_zeroCells, hsize, hx, hl, ← Nat.add_mul]
    congr 1
    omega
  · simp only [Array.toList_append, List.append_assoc]
    rw [← List.append_assoc, ← hlen]
    exact List.take_left
end
end Go.Vi
end
section
/-
  A VERIFIED INTERPRETER (part 6): a family that begins, or goes on.
-/
set_option linter.unusedSimpArgs false
set_option linter.unusedVariables false
namespace Go.Vi
open Go Go.RowKit

section
variable {P : Program} {W : Base} {w : World} {S0 S : Nat → Nat → Prop} {β : BMap} {φ : FMap}

theorem ownsRow_base {base base' e sz : Nat} {v : Value} {n : Nat} {xs : List Value} (h : OwnR w base e sz v n xs) (hb : base' ≤ base) : OwnR w base' e sz v n xs := by
  refine ⟨h.1, ?_⟩
  rcases h.2 with h2 | ⟨g, cap, cur, e', hv, hg, r⟩
  · exact .inl h2
  · exact .inr ⟨g, cap, cur, e', hv, by omega, r⟩

theorem fam_gen {σ σ' : St} (hI : Inv P W S0 S β φ σ.boxes w) {w' : World} {g n c e sz : Nat} {xs : List Value} {cs : List T} {i : TypeInfo} (hi : P.info? e = some i) (hsz : i.size = sz)
    (hgrow : w.grownBy w' (some g)) (hgr : Grows w w') (hgW : ¬ W.X g) (hgβ : ∀ s, β s ≠ some g) (keep : Nat → Prop) [DecidablePred keep]
    (hkeep : ∀ k x e, keep k → φ k = some (x, e) → x.ownBlock ≠ some g)
    (hcell : ∀ o sp v, S g o → w.cell? ⟨g, o, sp⟩ = some v → w'.cell? ⟨g, o, sp⟩ = some v) (hSg : ∀ o, S g o → o < n * sz)
    (ho : OwnR w' 0 e sz (.slice (some ⟨g, 0, none⟩) n c) n xs) (hx : xs.length = cs.length) (h1 : ∀ v ∈ xs, v.oneCell' = true)
    (hr : ∀ (j : Nat) (y : Value) (u : T), xs[j]? = some y → cs[j]? = some u → Rep S w noB noF y u) (k1 : Nat) (hk1 : ¬ keep k1) (adj : T → T)
    (hadj : ∀ (y : Value) (u : T) (S' : Nat → Nat → Prop) (w'' : World) (β' : BMap) (φ' : FMap), Rep S' w'' β' φ y u → (∀ k p, φ k = some p → keep k → φ' k = some p) → Rep S' w'' β' φ' y (adj u))
    (hrs : σ'.rs = σ.rs.map adj) (hvars : σ'.vars = σ.vars.map adj) (hbx : σ'.boxes = σ.boxes.map (Option.map (List.map adj))) :
    After P W S0 S β φ w σ σ' (.sl (.own k1 e) n cs) (.slice (some ⟨g, 0, none⟩) n c) w' := by
  let S' : Nat → Nat → Prop := fun b o => S b o ∨ (b = g ∧ o < n * sz)
  let φ' : FMap := fun k => if k = k1 then some (.slice (some ⟨g, 0, none⟩) n c, e) else if keep k then φ k else none
  have hφ : ∀ k p, φ k = some p → keep k → φ' k = some p := fun k p hk hkk => by
    have : k ≠ k1 := fun h => hk1 (h ▸ hkk)
    simp [φ', this, hkk, hk]
  have hlen : cs.length = n * sz := by rw [← hx]; exact ho.1
  have hSS : ∀ b o, S b o → S' b o := fun b o h => .inl h
  have hcells : ∀ b o, S b o → ∀ sp v, w.cell? ⟨b, o, sp⟩ = some v → w'.cell? ⟨b, o, sp⟩ = some v := fun b o hS sp v hv => by
    by_cases hb : b = g
    · subst hb; exact hcell o sp v hS hv
    · rw [World.cell?_of_block (w := w) (hgrow.block b (hI.lt _ _ hS) (by simpa using hb))]
      exact hv
  have hmono : ∀ y u, Rep S w β φ y u → Rep S' w' β φ' y (adj u) := fun y u h => hadj y u S' w' β φ' (h.mono hSS (fun _ _ => id) (fun _ _ => id) hcells hgr) hφ
  have hgsz : g < w'.heap.size := (ho.lt g (by simp [Value.ownBlock])).2
  have hnc : n ≤ c := by
    rcases ho.2 with ⟨h, _⟩ | ⟨_, _, _, _, h, _, _, h2, _⟩
    · cases h
    · simp only [Value.slice.injEq] at h; obtain ⟨_, _, rfl⟩ := h; exact h2
  have hsize := hgrow.size
  refine ⟨S', β, φ', adj, ?_, ⟨?_, ?_, ?_, ?_, hI.inj, ?_, ?_, fun b o h => ?_, fun b o h => .inl (hI.base b o h), fun b o h0 sp v hv => hcells b o (hI.base b o h0) sp v (hI.stay b o h0 sp v hv), fun s b hn h0 => (hI.pin s b hn h0).imp id fun h => by rw [hbx, List.getElem?_map, h]; rfl⟩, hmono, hrs, hvars⟩
  · refine .sl _ _ _ ⟨g, 0, none⟩ n c cs (fun j => xs.getD j undef) hnc (.inr (.inr ⟨k1, e, rfl, .inl (by simp [φ'])⟩)) (fun j hj => ?_) (fun j u hu => ?_)
    · have hj' : j < xs.length := by omega
      refine ⟨.inr ⟨rfl, by simpa using (by omega : j < n * sz)⟩, ?_, ?_⟩
      · have := ho.cells (g := g) (by simp [Value.ownBlock]) j xs[j] (by simp [hj'])
        simpa [hj'] using this
      · have : xs.getD j undef = xs[j] := by simp [hj']
        rw [this]
        exact h1 _ (List.getElem_mem hj')
    · have hj := (List.getElem?_eq_some_iff.1 hu).1
      have hj' : j < xs.length := by omega
      exact (hr j _ u (by simp [hj']) hu).mono hSS (fun _ _ => id) (fun _ _ => id) hcells hgr
  · exact hI.below.step hgrow (fun k e => by cases e; exact hgW) hgr
  · intro b o h
    rcases h with h | ⟨rfl, _⟩
    · have := hI.lt _ _ h; omega
    · exact hgsz
  · intro s b hb
    obtain ⟨h1', h2', cs', h3', h4'⟩ := hI.box s b hb
    have hne : b ≠ g := fun h => hgβ s (h ▸ hb)
    refine ⟨h1', fun o ho' => ?_, cs'.map adj, ?_, h4'.mono (hgrow.block b h4'.lt (by simpa using hne)) hmono⟩
    · rcases ho' with ho' | ⟨h, _⟩
      · exact h2' o ho'
      · exact hne h
    · rw [hbx, List.getElem?_map, h3']; rfl
  · intro s cs' hs
    rw [hbx, List.getElem?_map] at hs
    obtain ⟨o, ho', h⟩ := Option.map_eq_some_iff.1 hs
    cases o with
    | none => simp at h
    | some cs'' =>
      simp only [Option.map_some, Option.some.injEq] at h
      exact (hI.boxed s cs'' ho').imp (fun e => by rw [← h, e]; rfl) id
  · intro k x e' hk
    by_cases h : k = k1
    · simp only [φ', h, if_true, Option.some.injEq, Prod.mk.injEq] at hk
      obtain ⟨rfl, rfl⟩ := hk
      refine ⟨g, n, c, sz, xs, i, rfl, hi, hsz, ho, fun o h => ?_, hgβ, hgW⟩
      rcases h with h | ⟨_, h⟩
      · exact hSg o h
      · exact h
    · simp only [φ', h, if_false] at hk
      split at hk
      · rename_i hkk
        obtain ⟨g', n', c', sz', xs', i', rfl, hi', hsz', ho', h2', h3', h4'⟩ := hI.fam k x e' hk
        have hne : g' ≠ g := fun h => hkeep k _ e' hkk hk (by simp [Value.ownBlock, h])
        refine ⟨g', n', c', sz', xs', i', rfl, hi', hsz', ho'.kept hgrow (.inr (by simpa [Value.ownBlock] using hne)), fun o h => ?_, h3', h4'⟩
        rcases h with h | ⟨h, _⟩
        · exact h2' o h
        · exact absurd h hne
      · cases hk
  · intro k k' x x' e1 e2 hk hk' hne
    by_cases h : k = k1 <;> by_cases h' : k' = k1
    · exact absurd (h.trans h'.symm) hne
    · simp only [φ', h, if_true, Option.some.injEq, Prod.mk.injEq] at hk
      simp only [φ', h', if_false] at hk'
      split at hk'
      · rename_i hkk
        obtain ⟨rfl, rfl⟩ := hk
        exact fun he => hkeep k' _ _ hkk hk' (by rw [← he]; simp [Value.ownBlock])
      · cases hk'
    · simp only [φ', h', if_true, Option.some.injEq, Prod.mk.injEq] at hk'
      simp only [φ', h, if_false] at hk
      split at hk
      · rename_i hkk
        obtain ⟨rfl, rfl⟩ := hk'
        exact fun he => hkeep k _ _ hkk hk (by rw [he]; simp [Value.ownBlock])
      · cases hk
    · simp only [φ', h, if_false] at hk
      simp only [φ', h', if_false] at hk'
      split at hk <;> split at hk'
      · exact hI.famInj k k' x x' e1 e2 hk hk' hne
      all_goals first | cases hk | cases hk'
  · rcases h with h | ⟨rfl, _⟩
    · exact hI.top b o h
    · exact .inr hgW

theorem hit_site (d i : Nat) (hi : i < 8) : hit (2 * d) (8 * d + i) = true := by
  simp only [hit, show 2 * d % 2 = 0 by omega, if_true, beq_iff_eq]
  omega

/-- A row that is made: a new family. -/
theorem newfam {σ : St} {d : Nat} (hI : Inv P W S0 S β φ σ.boxes w) {w' : World} (hb : Below w.heap.size w w') {g n c e sz : Nat} {xs : List Value} {cs : List T} {i : TypeInfo} (hi : P.info? e = some i) (hsz : i.size = sz)
    (ho : OwnR w' w.heap.size e sz (.slice (some ⟨g, 0, none⟩) n c) n xs) (hx : xs.length = cs.length) (h1 : ∀ v ∈ xs, v.oneCell' = true)
    (hr : ∀ (j : Nat) (y : Value) (u : T), xs[j]? = some y → cs[j]? = some u → Rep S w noB noF y u) :
    After P W S0 S β φ w σ (σ.strip (2 * d)) (.sl (.own (8 * d) e) n cs) (.slice (some ⟨g, 0, none⟩) n c) w' := by
  have hgw : w.heap.size ≤ g := (ho.lt g (by simp [Value.ownBlock])).1
  have hW := hI.below.size
  refine fam_gen hI hi hsz ⟨hb.os, hb.tape, hb.output, hb.size, fun k hk _ => hb.block k hk⟩ (grows_of_block hb.block) (fun h => by have := hI.below.lt _ h; omega) (fun s hs => ?_) (fun k => hit (2 * d) k = false) (fun k x e' _ hk => ?_) (fun o sp v hS _ => by have := hI.lt _ _ hS; omega)
    (fun o hS => by have := hI.lt _ _ hS; omega) (ownsRow_base ho (Nat.zero_le _)) hx h1 hr (8 * d) (by simpa using hit_site d 0 (by omega)) (T.strip (2 * d)) (fun y u S' w'' β' φ' h hp => h.strip (2 * d) fun k p hk hne => hp k p hk hne) ?_ ?_ ?_
  · have := hI.boxLt hs
    omega
  · intro h
    have := hI.famLt hk h
    omega
  · simp [St.strip, stripL_map]
  · simp [St.strip, stripL_map]
  · simp only [St.strip]
    congr 1
    funext o
    cases o <;> simp [stripL_map]

/-- A family that goes on: 'append' to its slice. -/
theorem append_own {σ : St} {d k e u t ty : Nat} {n m : Nat} {x0 x : Value} {cs ys : List T} {news : List Value} {i : TypeInfo} {z : Value} (hI : Inv P W S0 S β φ σ.boxes w) (ht : P.underlying t = some (.slice e)) (hi : P.info? e = some i) (hz : i.zero = some z)
    (hzs : z.cells.size = i.size) (hs : SrcOK P u i z x m news w) (hl : news.length = m * i.size) (hly : news.length = ys.length) (h1 : ∀ v ∈ news, v.oneCell' = true)
    (hr : ∀ (j : Nat) (y : Value) (u : T), news[j]? = some y → ys[j]? = some u → Rep S w noB noF y u)
    (hx0 : Rep S w β φ x0 (.sl (.own k e) n cs)) (hown : ∃ a c, x0 = .slice (some a) n c ∧ φ k = some (.slice (some a) n c, e)) (hcs : cs.length = n * i.size) (h63 : n + m ≤ 4294967296) (hfit : (n + m) * i.bytes ≤ 4294967296) :
    ∃ x' w', (Builtin.append_ #[t, u] ty #[x0, x]).run P w = .ok x' w' ∧ After P W S0 S β φ w σ ((σ.strip (2 * k + 1)).strip (2 * d)) (.sl (.own (8 * d) e) (n + m) (cs ++ ys)) x' w' := by
  obtain ⟨a, c, f, hk, hcells, hreps, rfl⟩ : ∃ (a : Addr) (c : Nat) (f : Nat → Value), φ k = some (.slice (some a) n c, e) ∧ (∀ i, i < cs.length → S a.block (a.off + i) ∧ w.cell? (a.add i) = some (f i) ∧ (f i).oneCell' = true) ∧
      (∀ i t, cs[i]? = some t → Rep S w noB noF (f i) t) ∧ x0 = .slice (some a) n c := by
    obtain ⟨a', c', rfl, hk'⟩ := hown
    generalize ht : T.sl (.own k e) n cs = tt at hx0
    cases hx0 with
    | sl _ _ g a n c cs f hnc hg hcs h => cases ht; exact ⟨_, _, f, hk', hcs, h, rfl⟩
    | undef => cases ht
    | v => cases ht
    | bsl => cases ht
    | bsl0 => cases ht
  obtain ⟨g, n', c', sz, xs, i', hx, hi', hsz, ho, hSg, hgβ, hgW⟩ := hI.fam k _ e hk
  rw [hi] at hi'
  simp only [Option.some.injEq] at hi'
  subst hi'
  simp only [Value.slice.injEq, Option.some.injEq] at hx
  obtain ⟨rfl, rfl, rfl⟩ := hx
  have hgw : g < w.heap.size := (ho.lt g (by simp [Value.ownBlock])).2
  have hxs : ∀ j y u, xs[j]? = some y → cs[j]? = some u → Rep S w noB noF y u := fun j y u hy hu => by
    have h2 := (hcells j ((List.getElem?_eq_some_iff.1 hu).1)).2.1
    have h3 := ho.cells (g := g) (by simp [Value.ownBlock]) j y hy
    rw [h2] at h3
    simp only [Option.some.injEq] at h3
    subst h3
    exact hreps j u hu
  have hx1 : ∀ v ∈ xs, v.oneCell' = true := fun v hv => by
    obtain ⟨j, hj⟩ := List.mem_iff_getElem?.1 hv
    have hlt : j < cs.length := by have := (List.getElem?_eq_some_iff.1 hj).1; rw [hcs, hsz, ← ho.1]; exact this
    obtain ⟨_, h2, h3⟩ := hcells j hlt
    have h4 := ho.cells (g := g) (by simp [Value.ownBlock]) j v hj
    rw [h2] at h4
    simp only [Option.some.injEq] at h4
    exact h4 ▸ h3
  have hxl : xs.length = cs.length := by rw [ho.1, hcs, hsz]
  have hr2 : ∀ (j : Nat) (y : Value) (u : T), (xs ++ news)[j]? = some y → (cs ++ ys)[j]? = some u → Rep S w noB noF y u := fun j y u hy hu => by
    by_cases hj : j < xs.length
    · rw [List.getElem?_append_left hj] at hy
      rw [List.getElem?_append_left (by omega)] at hu
      exact hxs j y u hy hu
    · rw [List.getElem?_append_right (by omega)] at hy
      rw [List.getElem?_append_right (by omega), ← hxl] at hu
      exact hr _ y u hy hu
  have h12 : ∀ v ∈ xs ++ news, v.oneCell' = true := fun v hv => by
    rcases List.mem_append.1 hv with h | h
    · exact hx1 v h
    · exact h1 v h
  have hstrip : ∀ (y : Value) (u : T) (S' : Nat → Nat → Prop) (w'' : World) (β' : BMap) (φ' : FMap), Rep S' w'' β' φ y u → (∀ k' p, φ k' = some p → (k' ≠ k ∧ hit (2 * d) k' = false) → φ' k' = some p) →
      Rep S' w'' β' φ' y ((T.strip (2 * d) ∘ T.strip (2 * k + 1)) u) := fun y u S' w'' β' φ' h hp =>
    Rep.strip (φ := fun k' => if k' = k then none else φ k') (2 * d) (h.strip (2 * k + 1) fun k' p hk' hne => by
      have : k' ≠ k := fun e => by subst e; simp [hit] at hne; omega
      simp [this, hk']) fun k' p hk' hne => by
      by_cases hh : k' = k
      · simp [hh] at hk'
      · simp only [hh, if_false] at hk'; exact hp k' p hk' ⟨hh, hne⟩
  have hs1 : ((σ.strip (2 * k + 1)).strip (2 * d)).rs = σ.rs.map (T.strip (2 * d) ∘ T.strip (2 * k + 1)) := by simp [St.strip, stripL_map]
  have hs2 : ((σ.strip (2 * k + 1)).strip (2 * d)).vars = σ.vars.map (T.strip (2 * d) ∘ T.strip (2 * k + 1)) := by simp [St.strip, stripL_map]
  have hs3 : ((σ.strip (2 * k + 1)).strip (2 * d)).boxes = σ.boxes.map (Option.map (List.map (T.strip (2 * d) ∘ T.strip (2 * k + 1)))) := by
    simp only [St.strip, List.map_map]
    congr 1
    funext o
    cases o <;> simp [stripL_map]
  have hd8 : ¬ (8 * d ≠ k ∧ hit (2 * d) (8 * d) = false) := fun h => by
    have := hit_site d 0 (by omega)
    simp only [Nat.add_zero] at this
    rw [this] at h
    exact absurd h.2 (by simp)
  have hlen2 : (xs ++ news).length = (cs ++ ys).length := by simp [hxl, hly]
  rcases ho.2 with ⟨h, _⟩ | ⟨g', cap, cur, e2, hx', _, hg, hnc, hcs', htake⟩
  · cases h
  simp only [Value.slice.injEq, Option.some.injEq, Addr.mk.injEq] at hx'
  obtain ⟨⟨rfl, _⟩, _, rfl⟩ := hx'
  by_cases hroom : n + m ≤ c
  · have hfit' : n * i.size + news.length ≤ cur.size := by rw [hl, ← Nat.add_mul]; exact Nat.le_trans (Nat.mul_le_mul_right _ hroom) (hsz ▸ hcs')
    refine ⟨_, _, append_room ht hi hz hs hg h1 hroom hfit', ?_⟩
    have hown : OwnR (w.setRow g (cur.toList.take (n * i.size) ++ news ++ cur.toList.drop (n * i.size + news.length)).toArray) 0 e i.size (.slice (some ⟨g, 0, none⟩) (n + m) c) (n + m) (xs ++ news) := by
      refine ⟨by rw [List.length_append, ho.1, hl, hsz, Nat.add_mul], .inr ⟨g, c, _, e2, rfl, Nat.zero_le _, setRow_heap w g cur _ e2 _ hg, hroom, ?_, ?_⟩⟩
      · simp only [List.size_toArray, List.length_append, List.length_take, List.length_drop, Array.length_toList]
        rw [hsz]
        rw [hsz] at hfit'
        omega
      · rw [hsz, htake]
        have e1 : (n + m) * sz = (xs ++ news).length := by rw [List.length_append, ho.1, hl, hsz, Nat.add_mul]
        rw [e1]
        exact List.take_left
    refine fam_gen (w' := w.setRow g (cur.toList.take (n * i.size) ++ news ++ cur.toList.drop (n * i.size + news.length)).toArray) hI hi rfl ⟨rfl, rfl, rfl, by simp, fun j _ hj => setRow_other w g j _ (fun h => hj (by rw [h]))⟩ (grows_of_row (g := g) (fun j _ hj => setRow_other w g j _ hj) fun q ⟨cc, e', q1, q2⟩ => ⟨_, e2, setRow_heap w g cur _ e2 _ hg, by
      rw [hg] at q1
      simp only [Option.some.injEq, Obj.cells.injEq] at q1
      obtain ⟨rfl, _, _⟩ := q1
      simp only [List.size_toArray, List.length_append, List.length_take, List.length_drop, Array.length_toList]
      omega⟩) hgW hgβ (fun k' => k' ≠ k ∧ hit (2 * d) k' = false) (fun k' x' e' hkk hk' => ?_) (fun o sp v hS hv => ?_)
      (fun o hS => ?_) hown hlen2 h12 hr2 (8 * d) hd8 _ hstrip hs1 hs2 hs3
    · have := hI.famInj k' k _ _ _ _ hk' hk hkk.1
      simpa [Value.ownBlock] using this
    · have hlt := hSg o hS
      simp only [World.cell?, hg] at hv
      simp only [World.cell?, setRow_heap w g cur _ e2 _ hg]
      split at hv
      · cases hv
      · rename_i hsp
        rw [if_neg hsp, getElem?_setVals _ _ _ _ hfit', if_neg (by rw [hsz]; omega)]
        exact hv
    · have := hSg o hS
      have h3 : n * sz ≤ (n + m) * i.size := by rw [hsz]; exact Nat.mul_le_mul_right _ (by omega)
      omega
  · have hm0 : 0 < m := by omega
    have hfo : (Builtin.firstCells i.size n (.slice (some ⟨g, 0, none⟩) n c)).run P w.drew = .ok xs.toArray w.drew :=
      run_firstCells_some w.drew i.size n ⟨g, 0, none⟩ n c xs (by rw [ho.1, hsz]) (by simpa using ho.cells (g := g) (by simp [Value.ownBlock]))
    refine ⟨_, _, append_grow ht hi hz hs hfo (by omega) hm0 h63 (by omega), ?_⟩
    have hown := ownR_of (grown_row (w := w) (base := w.heap.size) (e := e) (i := i) (z := z) (n := n) (m := m) (old := c) (xs := xs) (news := news) hzs (Nat.le_refl _) (by rw [ho.1, hsz]) hl h63)
    refine fam_gen (w' := w.drew.alloc (.cells (xs.toArray ++ news.toArray ++ Builtin.zeroCells z.cells (grownCap w (n + m) c e - (n + m))) e)) hI hi rfl ⟨rfl, rfl, rfl, by simp, fun j hj _ => heap_alloc_old w.drew _ j hj⟩ (grows_of_block fun j hj => heap_alloc_old w.drew _ j hj) (fun h => by have := hI.below.lt _ h; have := hI.below.size; omega) (fun s hs' => ?_) (fun k' => k' ≠ k ∧ hit (2 * d) k' = false) (fun k' x' e' hkk hk' => ?_)
      (fun o sp v hS hv => ?_) (fun o hS => ?_) (ownsRow_base hown (Nat.zero_le _)) hlen2 h12 hr2 (8 * d) hd8 _ hstrip hs1 hs2 hs3
    · have := hI.boxLt hs'
      omega
    · intro h
      have := hI.famLt hk' h
      omega
    · have := hI.lt _ _ hS; omega
    · have := hI.lt _ _ hS; omega

/-- 'append' to a slice without room: a new family. -/
theorem append_new {σ : St} {d e u t ty : Nat} {n m c : Nat} {base : Option Addr} {x : Value} {cs ys : List T} {olds news : List Value} {i : TypeInfo} {z : Value} (hI : Inv P W S0 S β φ σ.boxes w) (ht : P.underlying t = some (.slice e)) (hi : P.info? e = some i) (hz : i.zero = some z)
    (hzs : z.cells.size = i.size) (hs : SrcOK P u i z x m news w) (hl : news.length = m * i.size) (hly : news.length = ys.length) (h1 : ∀ v ∈ news, v.oneCell' = true)
    (hr : ∀ (j : Nat) (y : Value) (u : T), news[j]? = some y → ys[j]? = some u → Rep S w noB noF y u)
    (hold : (Builtin.firstCells i.size n (.slice base n c)).run P w.drew = .ok olds.toArray w.drew) (hlo : olds.length = n * i.size) (hlc : olds.length = cs.length) (ho1 : ∀ v ∈ olds, v.oneCell' = true)
    (hor : ∀ (j : Nat) (y : Value) (u : T), olds[j]? = some y → cs[j]? = some u → Rep S w noB noF y u)
    (hc : c < n + m) (hm0 : 0 < m) (h63 : n + m ≤ 4294967296) (hfit : (n + m) * i.bytes ≤ 4294967296) :
    ∃ x' w', (Builtin.append_ #[t, u] ty #[.slice base n c, x]).run P w = .ok x' w' ∧ After P W S0 S β φ w σ (σ.strip (2 * d)) (.sl (.own (8 * d) e) (n + m) (cs ++ ys)) x' w' := by
  refine ⟨_, _, append_grow ht hi hz hs hold hc hm0 h63 (by omega), ?_⟩
  have hown := ownR_of (grown_row (w := w) (base := w.heap.size) (e := e) (i := i) (z := z) (n := n) (m := m) (old := c) (xs := olds) (news := news) hzs (Nat.le_refl _) hlo hl h63)
  refine newfam (w' := w.drew.alloc (.cells (olds.toArray ++ news.toArray ++ Builtin.zeroCells z.cells (grownCap w (n + m) c e - (n + m))) e)) hI ⟨rfl, rfl, rfl, by simp, fun j hj => heap_alloc_old w.drew _ j hj⟩ hi rfl hown (by simp [hlc, hly]) (fun v hv => ?_) (fun j y u hy hu => ?_)
  · rcases List.mem_append.1 hv with h | h
    · exact ho1 v h
    · exact h1 v h
  · by_cases hj : j < olds.length
    · rw [List.getElem?_append_left hj] at hy
      rw [List.getElem?_append_left (by omega)] at hu
      exact hor j y u hy hu
    · rw [List.getElem?_append_right (by omega)] at hy
      rw [List.getElem?_append_right (by omega), ← hlc] at hu
      exact hr _ y u hy hu
end
end Go.Vi
end
