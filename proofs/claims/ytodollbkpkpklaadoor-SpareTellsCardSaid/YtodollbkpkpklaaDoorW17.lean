/-
  A claim's own text, joined by a small program out of: InsD5.
-/
import Derived.Test.YtodollbkpkpklaaDoorW16
import Derived.Test.YtodollbkpkpklaaDoorW9
set_option linter.unusedVariables false
set_option linter.unusedSimpArgs false
section
/-
  slices.Insert at []api.Entry, of seat D: as an operation on boxes.
-/
set_option linter.unusedSimpArgs false
set_option linter.unusedVariables false
namespace Go.Vi.InsD
open Go Go.RowKit Go.Proofs Go.Lib

theorem ins_sound (f : FuncId) (args : List T) (r : T) (hf : f = ioBase + 24) (h : insP 3 args = some r) : Sound Tryd.prog f args r := by
  unfold insP at h
  split at h <;> try (cases h; done)
  rename_i n mm i gt m ys cs
  split at h <;> try (cases h; done)
  rename_i hc
  obtain ⟨hi0, hin, hm, hcl, hyl, hmm, hbig, hcs, hys⟩ := hc
  simp only [Option.some.injEq] at h
  subst h
  obtain ⟨i, rfl⟩ : ∃ k : Nat, i = k := ⟨i.toNat, by omega⟩
  have hin : i ≤ n := by omega
  rw [Int.toNat_natCast]
  unfold Sound
  rw [if_neg (by rw [hf]; exact Nat.not_lt.2 (Nat.le_add_right _ _))]
  refine .inl ⟨_, _, _, _, rfl, rfl, ?_⟩
  rw [hf, Nat.add_sub_cancel_left]
  refine ⟨by kernel_rfl, fun B S β φ vs hI hvs hrep => ?_⟩
  simp only [List.map_cons, List.map_nil, decB] at hI ⊢
  have hv3 : vs.size = 3 := by simpa using hvs
  obtain ⟨x0, x1, x2, rfl⟩ : ∃ a b c, vs = #[a, b, c] := by
    match vs, hv3 with
    | ⟨[a, b, c]⟩, _ => exact ⟨a, b, c, rfl⟩
  have r0 := hrep 0 x0 _ rfl rfl
  have r1 := hrep 1 x1 _ rfl rfl
  have r2 := hrep 2 x2 _ rfl rfl
  have e1 := rep_v r1
  subst e1
  have hycl : (ys.map T.val).length = m * 3 := by simpa using hyl
  have h1v : ∀ v ∈ ys.map T.val, v.oneCell' = true := fun v hv => by
    obtain ⟨t, ht, rfl⟩ := List.mem_map.1 hv
    exact (isV_val (List.all_eq_true.1 hys t ht)).2
  obtain ⟨a, c2, rfl, hvc⟩ : ∃ a c2, x2 = .slice (some a) m c2 ∧ ∀ j v, (ys.map T.val)[j]? = some v → S a.block (a.off + j) ∧ B.w.cell? (a.add j) = some v := by
    cases r2 with
    | nil => omega
    | sl _ _ g a n c cs f hnc hg hc h =>
      refine ⟨a, c, rfl, fun j v hj => ?_⟩
      rw [List.getElem?_map] at hj
      obtain ⟨t, ht, rfl⟩ := Option.map_eq_some_iff.1 hj
      obtain ⟨k1, k2, k3⟩ := hc j (List.getElem?_eq_some_iff.1 ht).1
      exact ⟨k1, by rw [k2, rep_isV (h j t ht) (List.all_eq_true.1 hys t (List.mem_of_getElem? ht))]⟩
  have hvs' : ∀ j v, (ys.map T.val)[j]? = some v → B.w.cell? (a.add j) = some v := fun j v hj => (hvc j v hj).2
  have haS : S a.block (a.off + 0) := by
    have hj : 0 < (ys.map T.val).length := by omega
    exact (hvc 0 _ (List.getElem?_eq_getElem hj)).1
  have hout : (cs.take (i * 3) ++ ys ++ cs.drop (i * 3)).all T.isV = true := by
    rw [List.all_append, List.all_append, hys, Bool.and_true, Bool.and_eq_true]
    exact ⟨List.all_eq_true.2 fun t ht => List.all_eq_true.1 hcs t (List.mem_of_mem_take ht), List.all_eq_true.2 fun t ht => List.all_eq_true.1 hcs t (List.mem_of_mem_drop ht)⟩
  have hol : (cs.take (i * 3) ++ ys ++ cs.drop (i * 3)).length = (n + m) * 3 := by simp only [List.length_append, List.length_take, List.length_drop]; omega
  have hXlt : ∀ b, B.X b → b < B.w.heap.size := hI.below.lt
  have hSlt := hI.lt
  have hdone : ∀ {w' : World} {x : Value} {g C : Nat} {cur' : Array Value} {e' : TypeId}, x = .slice (some ⟨g, 0, none⟩) (n + m) C → n + m ≤ C → B.w.grownBy w' (some g) → Grows B.w w' → w'.heap[g]? = some (.cells cur' e' (0, 0)) → C * 3 ≤ cur'.size → ¬ B.X g → (∀ o, ¬ S g o) →
      cur'.toList.take ((n + m) * 3) = (cs.map T.val).take (i * 3) ++ ys.map T.val ++ (cs.map T.val).drop (i * 3) →
      ∃ x' S' β' φ', Ending.returned x = .returned x' ∧ Inv Tryd.prog { B with nb := 0, β0 := noB } S S' β' φ' [none, none, some (cs.take (i * 3) ++ ys ++ cs.drop (i * 3)), none] w' ∧ Rep S' w' β' φ' x' (.bsl 2 0 (n + m) ((n + m) * 3)) ∧
        ∀ l b, β l = some b → β' l = some b ∨ [none, none, some (cs.take (i * 3) ++ ys ++ cs.drop (i * 3)), none][l]? = some none := by
    intro w' x g C cur' e' hx hC hgrow hgr hg hsz hX hS ht
    have hl2 : (cs.take (i * 3) ++ ys ++ cs.drop (i * 3)).length ≤ cur'.size := by rw [hol]; omega
    refine ⟨x, S, _, _, rfl, ins_post hI hgrow hgr hg hX hS hout hl2 ?_, ?_, fun l b hb => ?_⟩
    · rw [hol, ht]; simp [List.map_take, List.map_drop]
    · rw [hx]; exact ins_rep hg (by omega) hC hsz
    · obtain ⟨_, _, cs0, h3, _⟩ := hI.box l b hb
      match l, h3 with
      | 0, _ => exact .inr rfl
      | 1, h3 => simp at h3
      | l + 2, h3 => simp at h3
  cases r0 with
  | bsl _ _ _ _ _ _ b c hb hp hnc hz =>
    obtain ⟨hbX, hbS, cs0, h3, h4⟩ := hI.box 0 b hb
    simp only [List.getElem?_cons_zero, Option.some.injEq] at h3
    subst h3
    obtain ⟨cur, te, hg, hcc, hone, htake⟩ := cells_vals (h4.1 rfl) hcs
    have hcur : c * 3 ≤ cur.size := by
      by_cases h0 : n = 0
      · have := hz.2 h0 (by rw [hmm, h0]); omega
      · obtain ⟨cc, ee, k1, k2⟩ := hz.1 (by omega) 3 hmm
        rw [hg] at k1
        cases k1
        omega
    have hvb : a.block ≠ b := fun e => hbS _ (e ▸ haS)
    have hblt : b < B.w.heap.size := (Array.getElem?_eq_some_iff.1 hg).1
    rw [hcl] at htake hone
    have hrow : ∀ {w' : World} {cur' : Array Value}, w' = B.w.drew.setRow b cur' ∨ w' = B.w.setRow b cur' → cur'.size = cur.size → B.w.grownBy w' (some b) ∧ Grows B.w w' ∧ w'.heap[b]? = some (.cells cur' te (0, 0)) := by
      intro w' cur' hw hs
      have h1 : w'.os = B.w.os ∧ w'.tape = B.w.tape ∧ w'.output = B.w.output ∧ w'.heap.size = B.w.heap.size ∧ (∀ k, k ≠ b → w'.heap[k]? = B.w.heap[k]?) ∧ w'.heap[b]? = some (.cells cur' te (0, 0)) := by
        rcases hw with rfl | rfl
        · exact ⟨rfl, rfl, rfl, by rw [setRow_size]; rfl, fun k hk => setRow_other _ b k _ hk, setRow_heap _ b cur _ te _ hg⟩
        · exact ⟨rfl, rfl, rfl, by rw [setRow_size], fun k hk => setRow_other _ b k _ hk, setRow_heap _ b cur _ te _ hg⟩
      obtain ⟨q1, q2, q3, q4, q5, q6⟩ := h1
      exact ⟨⟨q1, q2, q3, Nat.le_of_eq q4.symm, fun k hk hne => q5 k fun e => hne (by rw [e])⟩, grows_of_row (g := b) (fun k _ hk => q5 k hk) fun k ⟨cc, ee, k1, k2⟩ => ⟨cur', te, q6, by rw [hg] at k1; cases k1; omega⟩, q6⟩
    by_cases hlast : i = n
    · subst hlast
      by_cases hroom : i + m ≤ c
      · refine (ins_end_room b i c m c2 a cur te _ B.w hm hroom (by omega) hg hcur hycl hvs' h1v).mono ?_
        rintro e w' ⟨rfl, hw'⟩
        have hs2 : (cur.toList.take (i * 3) ++ ys.map T.val ++ cur.toList.drop (i * 3 + (ys.map T.val).length)).toArray.size = cur.size := by
          simp only [List.size_toArray, List.length_append, List.length_take, List.length_drop, Array.length_toList]; omega
        obtain ⟨g1, g2, g3⟩ := hrow (.inr hw') hs2
        refine hdone rfl hroom g1 g2 g3 (by rw [hs2]; exact hcur) hbX hbS ?_
        have hl : (cur.toList.take (i * 3) ++ ys.map T.val).length = (i + m) * 3 := by simp only [List.length_append, List.length_take, Array.length_toList]; omega
        show (cur.toList.take (i * 3) ++ ys.map T.val ++ _).take _ = _
        rw [← hl, List.take_left' rfl, htake]
        rw [List.take_of_length_le (by simp; omega), List.drop_eq_nil_of_le (by simp; omega), List.append_nil]
      · have hold : (Builtin.firstCells 3 i (.slice (some ⟨b, 0, none⟩) i c)).run Tryd.prog B.w.drew = .ok (cur.toList.take (i * 3)).toArray B.w.drew := by
          have hl := run_loadCells_list (P := Tryd.prog) B.w.drew ⟨b, 0, none⟩ (cur.toList.take (i * 3)) fun j v hj => by
            rw [List.getElem?_take] at hj
            split at hj
            · rw [Addr.add_lit]
              have hgd : B.w.drew.heap[b]? = some (.cells cur te (0, 0)) := hg
              simp only [World.cell?, hgd]
              simpa using hj
            · cases hj
          have h2 : (cur.toList.take (i * 3)).length = i * 3 := by simp only [List.length_take, Array.length_toList]; omega
          rw [h2] at hl
          simpa [Builtin.firstCells] using hl
        refine (ins_end_grow (some ⟨b, 0, none⟩) i c m c2 a _ _ B.w hm hnc (by omega) (by omega) hold hycl hvs' (fun h => by cases h)).mono ?_
        rintro e w' ⟨rfl, hw'⟩
        have hge := grownCap_ge B.w (i + m) c 44
        have hbel : Below B.w.heap.size B.w w' := by rw [hw']; exact ((Below.refl _ B.w).drew).alloc (Nat.le_refl _) _
        refine hdone rfl hge ⟨hbel.os, hbel.tape, hbel.output, hbel.size, fun k hk _ => hbel.block k hk⟩ (grows_of_block hbel.block) (by rw [hw']; exact heap_alloc_new B.w.drew _) ?_ (fun hx => by have := hXlt _ hx; omega) (fun o hs => by have := hSlt _ _ hs; omega) ?_
        · have hz3 : (Value.agg #[.int .i64 0, .int .i64 0, .string ⟨#[]⟩]).cells.size = 3 := rfl
          simp only [Array.size_append, List.size_toArray, size_zeroCells, hz3, List.length_take, Array.length_toList, hycl]
          omega
        · have hl : (cur.toList.take (i * 3) ++ ys.map T.val).length = (i + m) * 3 := by simp only [List.length_append, List.length_take, Array.length_toList]; omega
          rw [Array.toList_append, Array.toList_append]
          show (cur.toList.take (i * 3) ++ ys.map T.val ++ _).take _ = _
          rw [← hl, List.take_left' rfl, htake]
          rw [List.take_of_length_le (by simp; omega), List.drop_eq_nil_of_le (by simp; omega), List.append_nil]
    · have hlt : i < n := by omega
      have htk : cur.toList.take (i * 3) = (cs.map T.val).take (i * 3) := by
        rw [← htake, List.take_take]; congr 1; omega
      by_cases hroom : n + m ≤ c
      · refine (ins_shift b n c i m c2 a cur te _ B.w hlt hm hroom (by omega) hg hcur (fun j x hj => hone j x hj) hycl hvs' h1v hvb).mono ?_
        rintro e w' ⟨rfl, cur', hw', hs2, ht⟩
        obtain ⟨g1, g2, g3⟩ := hrow (.inl hw') hs2
        refine hdone rfl hroom g1 g2 g3 (by rw [hs2]; exact hcur) hbX hbS ?_
        rw [ht, htake, htk]
      · refine (ins_grow_mid b n c i m c2 a cur te _ B.w hlt hnc hm (by omega) (by omega) hg hcur (fun j x hj => hone j x hj) hycl hvs' h1v).mono ?_
        rintro e w' ⟨C, cur', hC, rfl, hbel, hg', hs', ht⟩
        refine hdone rfl hC ⟨hbel.os, hbel.tape, hbel.output, hbel.size, fun k hk _ => hbel.block k hk⟩ (grows_of_block hbel.block) hg' hs' (fun hx => by have := hXlt _ hx; omega) (fun o hs => by have := hSlt _ _ hs; omega) ?_
        rw [ht, htake, htk]
  | bsl0 _ _ ba _ _ _ =>
    have hi00 : i = 0 := by omega
    subst hi00
    have hold : (Builtin.firstCells 3 0 (.slice ba 0 0)).run Tryd.prog B.w.drew = .ok ([] : List Value).toArray B.w.drew := by
      cases ba with
      | none => simp [Builtin.firstCells]
      | some a0 =>
        have hl := run_loadCells_list (P := Tryd.prog) B.w.drew a0 [] fun j v hj => by simp at hj
        simpa [Builtin.firstCells] using hl
    refine (ins_end_grow ba 0 0 m c2 a _ _ B.w hm (Nat.le_refl _) (by omega) (by omega) hold hycl hvs' (fun h => ⟨rfl, rfl⟩)).mono ?_
    rintro e w' ⟨rfl, hw'⟩
    have hge := grownCap_ge B.w (0 + m) 0 44
    have hbel : Below B.w.heap.size B.w w' := by rw [hw']; exact ((Below.refl _ B.w).drew).alloc (Nat.le_refl _) _
    have hcs0 : cs = [] := List.length_eq_zero_iff.1 (by omega)
    refine hdone rfl hge ⟨hbel.os, hbel.tape, hbel.output, hbel.size, fun k hk _ => hbel.block k hk⟩ (grows_of_block hbel.block) (by rw [hw']; exact heap_alloc_new B.w.drew _) ?_ (fun hx => by have := hXlt _ hx; omega) (fun o hs => by have := hSlt _ _ hs; omega) ?_
    · have hz3 : (Value.agg #[.int .i64 0, .int .i64 0, .string ⟨#[]⟩]).cells.size = 3 := rfl
      simp only [Array.size_append, List.size_toArray, size_zeroCells, hz3, List.length_nil, hycl]
      omega
    · rw [Array.toList_append, Array.toList_append]
      have hl : (([] : List Value) ++ ys.map T.val).length = (0 + m) * 3 := by simp only [List.nil_append]; omega
      show (([] : List Value) ++ ys.map T.val ++ _).take _ = _
      rw [← hl, List.take_left' rfl, hcs0]
      simp

end Go.Vi.InsD
end
