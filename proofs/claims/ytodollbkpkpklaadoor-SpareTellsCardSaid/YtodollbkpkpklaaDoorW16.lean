/-
  A claim's own text, joined by a small program out of: InsD2, InsD3, InsD4.
-/
import Derived.Test.YtodollbkpkpklaaDoorW15
import Derived.Lib.Hide
set_option linter.unusedVariables false
set_option linter.unusedSimpArgs false
section
/-
  slices.Insert at []api.Entry, of seat D: in place, in the middle.
-/
set_option linter.unusedSimpArgs false
set_option linter.unusedVariables false
namespace Go.Vi.InsD
open Go Go.RowKit Go.Proofs Go.Lib

theorem z44 : ∀ w, (Go.sizeOf 44).run Tryd.prog w = .ok 3 w := fun w => by
  obtain ⟨i0, hi0, h0, h1, h2⟩ := info_parts i44
  simp [sizeOf, typeInfo, hi0, h1]
theorem s44 : (Tryd.prog.info? 44).map (·.size) = some 3 := by
  obtain ⟨i0, hi0, h0, h1, h2⟩ := info_parts i44
  rw [hi0]; simp [h1]

theorem shift_list {α : Type} (L D N : List α) (a k : Nat) (hL : a + k ≤ L.length) (hN : N.length = k) :
    (L.take (a + k) ++ D ++ L.drop (a + k + D.length)).take a ++ N ++ (L.take (a + k) ++ D ++ L.drop (a + k + D.length)).drop (a + N.length) = L.take a ++ N ++ D ++ L.drop (a + k + D.length) := by
  have h1 : (L.take (a + k)).length = a + k := by simp; omega
  have e1 : (L.take (a + k) ++ D ++ L.drop (a + k + D.length)).take a = L.take a := by
    rw [List.append_assoc, List.take_append_of_le_length (by omega), List.take_take]
    congr 1; omega
  have e2 : (L.take (a + k) ++ D ++ L.drop (a + k + D.length)).drop (a + N.length) = D ++ L.drop (a + k + D.length) := by
    rw [hN, List.append_assoc, List.drop_append_of_le_length (by omega), List.drop_eq_nil_of_le (by omega), List.nil_append]
  rw [e1, e2]
  simp

theorem addr_add0 (a : Addr) : a.add 0 = a := by
  obtain ⟨b, o, sp⟩ := a
  unfold Addr.add
  split <;> simp_all

set_option maxHeartbeats 4000000 in
set_option maxRecDepth 100000 in
theorem ins_shift (b n c i m vc : Nat) (va : Addr) (cur : Array Value) (t : TypeId) (news : List Value) (w : World)
    (hi : i < n) (hm : 0 < m) (hroom : n + m ≤ c) (hbig : n + m ≤ 4294967296)
    (hg : w.heap[b]? = some (.cells cur t (0, 0))) (hcur : c * 3 ≤ cur.size) (hone : ∀ j x, j < n * 3 → cur[j]? = some x → x.oneCell' = true)
    (hvl : news.length = m * 3) (hvs : ∀ j v, news[j]? = some v → w.cell? (va.add j) = some v) (h1v : ∀ v ∈ news, v.oneCell' = true) (hvb : va.block ≠ b) :
    Calls Tryd.prog 24 #[.slice (some ⟨b, 0, none⟩) n c, .int .i64 i, .slice (some va) m vc] w fun e w' =>
      e = .returned (.slice (some ⟨b, 0, none⟩) (n + m) c) ∧ ∃ cur', w' = w.drew.setRow b cur' ∧ cur'.size = cur.size ∧ cur'.toList.take ((n + m) * 3) = cur.toList.take (i * 3) ++ news ++ (cur.toList.take (n * 3)).drop (i * 3) := by
  have hz1 : ¬ ((m : Int) = 0) := by omega
  have hz2 : ¬ ((i : Int) = (n : Int)) := by omega
  have hw1 : IntKind.i64.wrap ((i : Int) + (m : Int)) = (i : Int) + (m : Int) := by rw [IntKind.wrap_i64]; omega
  have hw2 : IntKind.i64.wrap ((n : Int) + (m : Int)) = (n : Int) + (m : Int) := by rw [IntKind.wrap_i64]; omega
  have hb1 : (0 : Int) ≤ (i : Int) + (m : Int) := by omega
  have htn : ((i : Int) + (m : Int)).toNat = i + m := by omega
  have hb2 : ¬ (c = i + m) := by omega
  have hb3 : (i : Int) ≤ (n : Int) + (m : Int) := by omega
  have hb4 : ¬ (c = i) := by omega
  have hin : i ≤ n := by omega
  have hin2 : i ≤ n + m := by omega
  have hin3 : i + m ≤ n + m := by omega
  have u26' := run_underlying u26
  have u3' := run_underlying u3
  have hov : ∀ lb cb, (callFunc 39 #[.slice (some va) m vc, .slice (some ⟨b, (i + m) * 3, none⟩) lb cb]).run Tryd.prog w = .ok (.value (.bool false)) w := fun lb cb => by
    rw [run_callFunc_extern Tryd.func39 (by kernel_rfl) (by kernel_rfl) (by kernel_rfl) (e := Extern.SlicesOverlaps.overlaps #[26, 26] #[4]) (by kernel_rfl)]
    obtain ⟨v0, hv0⟩ : ∃ v, news[0]? = some v := ⟨_, List.getElem?_eq_getElem (by omega)⟩
    have hc0 := hvs 0 v0 hv0
    rw [addr_add0] at hc0
    rw [run_overlaps_row w 26 4 44 u26 3 z44 va b ((i + m) * 3) m vc lb cb hvb v0 hc0 cur t hg (by omega)]
    rfl
  have hdl : ((cur.toList.take (n * 3)).drop (i * 3)).length = (n - i) * 3 := by simp only [List.length_drop, List.length_take, Array.length_toList]; omega
  have hgd : w.drew.heap[b]? = some (.cells cur t (0, 0)) := hg
  have hcp1 : ∀ ty dc sc, (Builtin.copy_ #[26, 26] ty #[.slice (some ⟨b, (i + m) * 3, none⟩) (n + m - (i + m)) dc, .slice (some ⟨b, i * 3, none⟩) (n + m - i) sc]).run Tryd.prog w.drew =
      .ok (goInt (Nat.min (n + m - i) (n + m - (i + m)) : Nat)) (w.drew.setRow b (cur.toList.take ((i + m) * 3) ++ (cur.toList.take (n * 3)).drop (i * 3) ++ cur.toList.drop ((i + m) * 3 + ((cur.toList.take (n * 3)).drop (i * 3)).length)).toArray) := fun ty dc sc =>
    run_copy_wide w.drew u26 s44 hgd (by rw [hdl]; simp only [Nat.min_def]; split <;> omega)
      (fun j v hj => by
        rw [Addr.add_lit]
        rw [List.getElem?_drop, List.getElem?_take] at hj
        split at hj
        · simp only [World.cell?, hgd]
          simpa using hj
        · cases hj) (by rw [hdl]; omega) (fun v hv => by
        obtain ⟨j, hj⟩ := List.mem_iff_getElem?.1 hv
        rw [List.getElem?_drop, List.getElem?_take] at hj
        split at hj
        · exact hone (i * 3 + j) v (by omega) (by simpa using hj)
        · cases hj)
  obtain ⟨X1, hX1⟩ : ∃ X1, X1 = (cur.toList.take ((i + m) * 3) ++ (cur.toList.take (n * 3)).drop (i * 3) ++ cur.toList.drop ((i + m) * 3 + ((cur.toList.take (n * 3)).drop (i * 3)).length)).toArray := ⟨_, rfl⟩
  rw [← hX1] at hcp1
  have hX1s : X1.size = cur.size := by rw [hX1]; simp only [List.size_toArray, List.length_append, List.length_take, List.length_drop, Array.length_toList]; omega
  obtain ⟨W1, hW1⟩ : ∃ W1, W1 = w.drew.setRow b X1 := ⟨_, rfl⟩
  have hg1 : W1.heap[b]? = some (.cells X1 t (0, 0)) := by rw [hW1]; exact setRow_heap _ b cur _ t _ hgd
  obtain ⟨X2, hX2⟩ : ∃ X2, X2 = (X1.toList.take (i * 3) ++ news ++ X1.toList.drop (i * 3 + news.length)).toArray := ⟨_, rfl⟩
  have hcp2 : ∀ ty dc, (Builtin.copy_ #[26, 26] ty #[.slice (some ⟨b, i * 3, none⟩) (n + m - i) dc, .slice (some va) m vc]).run Tryd.prog W1 = .ok (goInt (Nat.min m (n + m - i) : Nat)) (W1.setRow b X2) := fun ty dc => by
    rw [hX2]
    exact run_copy_wide W1 u26 s44 hg1 (by rw [hvl]; simp only [Nat.min_def]; split <;> omega)
      (fun j v hj => by
        rw [hW1, cell_setRow_other]
        · exact hvs j v hj
        · rw [Addr.add]; split <;> exact hvb) (by rw [hX1s]; omega) h1v
  have hfin : W1.setRow b X2 = w.drew.setRow b X2 := by rw [hW1, setRow_setRow]
  have hX2l : X2.toList = cur.toList.take (i * 3) ++ news ++ (cur.toList.take (n * 3)).drop (i * 3) ++ cur.toList.drop ((i + m) * 3 + ((cur.toList.take (n * 3)).drop (i * 3)).length) := by
    have := shift_list cur.toList ((cur.toList.take (n * 3)).drop (i * 3)) news (i * 3) (m * 3) (by simp; omega) hvl
    rw [hX2, hX1]
    simp only [Nat.add_mul] at this ⊢
    exact this
  have hX2s : X2.size = cur.size := by
    rw [← Array.length_toList, hX2l]
    simp only [List.length_append, hdl, List.length_take, List.length_drop, Array.length_toList, hvl]
    omega
  have hX2t : X2.toList.take ((n + m) * 3) = cur.toList.take (i * 3) ++ news ++ (cur.toList.take (n * 3)).drop (i * 3) := by
    rw [hX2l, List.take_append_of_le_length (by simp only [List.length_append, hdl, List.length_take, Array.length_toList, hvl]; omega), List.take_of_length_le (by simp only [List.length_append, hdl, List.length_take, Array.length_toList, hvl]; omega)]
  rw [← hW1] at hcp1
  have H1 := Lib.hid hfin
  have H2 := Lib.hid hX2s
  have H3 := Lib.hid hX2t
  clear hW1 hfin hX2s hX2t
  clear hX2l hX1s hdl hg1 hX2 hX1 hgd hvs hvl h1v hone hcur hg
  go_enter Tryd.func24, Tryd.ntmps24
  go_wp2_with (simp only [hov])
  go_region_law (refine step_cpy rfl _ _ 26 26 rfl _ _ (by simp [Act.eval, Act.put]) (by simp [Act.eval, Act.put]) (hcp1 _ _ _) ?_)
  go_wp2_with (with_reducible refine wpl_cpy rfl _ _ 26 26 rfl _ _ rfl rfl (hcp2 _ _) ?_)
  go_ret
  exact ⟨rfl, X2, H1.out, H2.out, H3.out⟩

end Go.Vi.InsD
end
section
/-
  slices.Insert at []api.Entry, of seat D: at the end; into a new row.
-/
set_option linter.unusedSimpArgs false
set_option linter.unusedVariables false
namespace Go.Vi.InsD
open Go Go.RowKit Go.Proofs Go.Lib

/-- append where there is room, into a row of any type. -/
theorem append_room2 {P : Program} {t u ty e te : TypeId} {i : TypeInfo} {z : Value} (ht : P.underlying t = some (.slice e)) (hi : P.info? e = some i) (hz : i.zero = some z) {x : Value} {m : Nat} {news : List Value} {w : World}
    {d : TypeDesc} (hu : P.underlying u = some d) (hd : ∀ k, d ≠ .int k) (hl : (Builtin.lenOf x).run P w = .ok m w) (hf : (Builtin.firstCells i.size m x).run P w = .ok news.toArray w)
    {g sLen sCap : Nat} {cur : Array Value} (hg : w.heap[g]? = some (.cells cur te (0, 0))) (h1 : ∀ v ∈ news, v.oneCell' = true) (hroom : sLen + m ≤ sCap) (hfit : sLen * i.size + news.length ≤ cur.size) :
    (Builtin.append_ #[t, u] ty #[.slice (some ⟨g, 0, none⟩) sLen sCap, x]).run P w =
      .ok (.slice (some ⟨g, 0, none⟩) (sLen + m) sCap) (w.setRow g (cur.toList.take (sLen * i.size) ++ news ++ cur.toList.drop (sLen * i.size + news.length)).toArray) := by
  have hst := run_storeCells_at P g (sLen * i.size) te news 0 cur w hg (by simpa using hfit) h1
  simp only [Nat.add_zero] at hst
  have hint : (match (generalizing := false) d with | .int _ => true | _ => false) = false := by cases d <;> first | rfl | exact absurd rfl (hd _)
  simp [Builtin.append_, run_underlying ht, run_underlying hu, sizeOf, typeInfo, hi, hint, hl, hroom, hf, Addr.add_lit, hst]

theorem src_ok {w : World} {va : Addr} {m vc : Nat} {news : List Value} {i0 : TypeInfo} {z : Value} (hs : i0.size = 3) (hvl : news.length = m * 3) (hvs : ∀ j v, news[j]? = some v → w.cell? (va.add j) = some v) :
    SrcOK Tryd.prog 26 i0 z (.slice (some va) m vc) m news w := by
  refine .inl ⟨_, u26, (fun k h => by cases h), fun w' hw' => ⟨by simp [Builtin.lenOf], ?_⟩⟩
  have hl := run_loadCells_list (P := Tryd.prog) w' va news fun j v hj => by
    have := hvs j v hj
    simpa only [World.cell?, hw'] using this
  rw [hvl] at hl
  simpa [Builtin.firstCells, hs] using hl

set_option maxHeartbeats 4000000 in
set_option maxRecDepth 100000 in
theorem ins_end_room (b n c m vc : Nat) (va : Addr) (cur : Array Value) (te : TypeId) (news : List Value) (w : World)
    (hm : 0 < m) (hroom : n + m ≤ c) (hbig : n + m ≤ 4294967296)
    (hg : w.heap[b]? = some (.cells cur te (0, 0))) (hcur : c * 3 ≤ cur.size)
    (hvl : news.length = m * 3) (hvs : ∀ j v, news[j]? = some v → w.cell? (va.add j) = some v) (h1v : ∀ v ∈ news, v.oneCell' = true) :
    Calls Tryd.prog 24 #[.slice (some ⟨b, 0, none⟩) n c, .int .i64 n, .slice (some va) m vc] w fun e w' =>
      e = .returned (.slice (some ⟨b, 0, none⟩) (n + m) c) ∧ w' = w.setRow b (cur.toList.take (n * 3) ++ news ++ cur.toList.drop (n * 3 + news.length)).toArray := by
  obtain ⟨i0, hi0, hz0, hzs, hzb⟩ := info_parts i44
  have hrun : ∀ ty, (Builtin.append_ #[26, 26] ty #[.slice (some ⟨b, 0, none⟩) n c, .slice (some va) m vc]).run Tryd.prog w = _ := fun ty =>
    append_room2 (ty := ty) u26 hi0 hz0 u26 (fun k h => by cases h) (by simp [Builtin.lenOf]) (by
      have hl := run_loadCells_list (P := Tryd.prog) w va news hvs
      rw [hvl] at hl
      simpa [Builtin.firstCells, hzs] using hl) hg h1v hroom (by rw [hzs, hvl]; omega)
  simp only [hzs] at hrun
  obtain ⟨X, hX⟩ : ∃ X, X = (cur.toList.take (n * 3) ++ news ++ cur.toList.drop (n * 3 + news.length)).toArray := ⟨_, rfl⟩
  rw [← hX] at hrun
  rw [← hX]
  clear hX
  have hz1 : ¬ ((m : Int) = 0) := by omega
  clear hi0 hz0 hzs hzb hvl hvs h1v hg hcur
  go_enter Tryd.func24, Tryd.ntmps24
  go_wp2_with (with_reducible refine wpl_app rfl _ _ 26 26 rfl _ _ rfl rfl (hrun _) ?_)
  all_goals (go_ret; exact ⟨rfl, rfl⟩)

set_option maxHeartbeats 4000000 in
set_option maxRecDepth 100000 in
theorem ins_end_grow (base : Option Addr) (n c m vc : Nat) (va : Addr) (olds news : List Value) (w : World)
    (hm : 0 < m) (hnc : n ≤ c) (hroom : c < n + m) (hbig : n + m ≤ 16777216)
    (hold : (Builtin.firstCells 3 n (.slice base n c)).run Tryd.prog w.drew = .ok olds.toArray w.drew)
    (hvl : news.length = m * 3) (hvs : ∀ j v, news[j]? = some v → w.cell? (va.add j) = some v) (hb0 : base = none → n = 0 ∧ c = 0) :
    Calls Tryd.prog 24 #[.slice base n c, .int .i64 n, .slice (some va) m vc] w fun e w' =>
      e = .returned (.slice (some ⟨w.heap.size, 0, none⟩) (n + m) (grownCap w (n + m) c 44)) ∧
      w' = w.drew.alloc (.cells (olds.toArray ++ news.toArray ++ Builtin.zeroCells (Value.agg #[.int .i64 0, .int .i64 0, .string ⟨#[]⟩]).cells (grownCap w (n + m) c 44 - (n + m))) 44) := by
  obtain ⟨i0, hi0, hz0, hzs, hzb⟩ := info_parts i44
  have hrun : ∀ ty, (Builtin.append_ #[26, 26] ty #[.slice base n c, .slice (some va) m vc]).run Tryd.prog w = _ := fun ty =>
    append_grow (ty := ty) u26 hi0 hz0 (src_ok hzs hvl hvs) (by rw [hzs]; exact hold) hroom hm (by omega) (by rw [hzb]; omega)
  have hz1 : ¬ ((m : Int) = 0) := by omega
  clear hi0 hz0 hzs hzb hvl hvs hold
  cases base with
  | none =>
    obtain ⟨rfl, rfl⟩ := hb0 rfl
    go_enter Tryd.func24, Tryd.ntmps24
    go_wp2_with (with_reducible refine wpl_app rfl _ _ 26 26 rfl _ _ rfl rfl (hrun _) ?_)
    all_goals (go_ret; exact ⟨rfl, rfl⟩)
  | some a =>
    obtain ⟨ab, ao, asp⟩ := a
    go_enter Tryd.func24, Tryd.ntmps24
    go_wp2_with (with_reducible refine wpl_app rfl _ _ 26 26 rfl _ _ rfl rfl (hrun _) ?_)
    all_goals (go_ret; exact ⟨rfl, rfl⟩)
end Go.Vi.InsD
end
section
/-
  slices.Insert at []api.Entry, of seat D: in the middle, into a new row.
-/
set_option linter.unusedSimpArgs false
set_option linter.unusedVariables false
namespace Go.Vi.InsD
open Go Go.RowKit Go.Proofs Go.Lib

theorem below_row {B g : Nat} {w0 w : World} (hb : Below B w0 w) (hBg : B ≤ g) (cs : Array Value) : Below B w0 (w.setRow g cs) :=
  ⟨hb.os, hb.tape, hb.output, by rw [setRow_size]; exact hb.size, fun k hk => (setRow_other w g k cs (by omega)).trans (hb.block k hk)⟩

theorem mid_list {α : Type} (O N D Z : List α) (a k : Nat) (hO : O.length = a) (hN : N.length = k) (hZ : k + D.length ≤ Z.length) :
    ((O ++ Z).take a ++ N ++ (O ++ Z).drop (a + k)).take (a + k) ++ D ++ ((O ++ Z).take a ++ N ++ (O ++ Z).drop (a + k)).drop (a + k + D.length) = O ++ N ++ D ++ Z.drop (k + D.length) := by
  have e1 : (O ++ Z).take a = O := by rw [← hO, List.take_left']; rfl
  have e2 : (O ++ Z).drop (a + k) = Z.drop k := by rw [← hO, ← List.drop_drop, List.drop_left']; rfl
  rw [e1, e2]
  have hON : (O ++ N).length = a + k := by simp [hO, hN]
  have e3 : (O ++ N ++ Z.drop k).take (a + k) = O ++ N := by rw [← hON]; exact List.take_left' rfl
  have e4 : (O ++ N ++ Z.drop k).drop (a + k + D.length) = Z.drop (k + D.length) := by
    rw [← List.drop_drop, ← hON, List.drop_left' rfl, List.drop_drop]
  rw [e3, e4]

set_option maxHeartbeats 4000000 in
set_option maxRecDepth 100000 in
theorem ins_grow_mid (b n c i m vc : Nat) (va : Addr) (cur : Array Value) (te : TypeId) (news : List Value) (w : World)
    (hi : i < n) (hnc : n ≤ c) (hm : 0 < m) (hroom : c < n + m) (hbig : n + m ≤ 16777216)
    (hg : w.heap[b]? = some (.cells cur te (0, 0))) (hcur : c * 3 ≤ cur.size) (hone : ∀ j x, j < n * 3 → cur[j]? = some x → x.oneCell' = true)
    (hvl : news.length = m * 3) (hvs : ∀ j v, news[j]? = some v → w.cell? (va.add j) = some v) (h1v : ∀ v ∈ news, v.oneCell' = true) :
    Calls Tryd.prog 24 #[.slice (some ⟨b, 0, none⟩) n c, .int .i64 i, .slice (some va) m vc] w fun e w' =>
      ∃ C cur', n + m ≤ C ∧ e = .returned (.slice (some ⟨w.heap.size, 0, none⟩) (n + m) C) ∧ Below w.heap.size w w' ∧ w'.heap[w.heap.size]? = some (.cells cur' 44 (0, 0)) ∧ C * 3 ≤ cur'.size ∧
        cur'.toList.take ((n + m) * 3) = cur.toList.take (i * 3) ++ news ++ (cur.toList.take (n * 3)).drop (i * 3) := by
  obtain ⟨i0, hi0, hz0, hzs, hzb⟩ := info_parts i44
  have hb0 : b < w.heap.size := (Array.getElem?_eq_some_iff.1 hg).1
  have hold : (Builtin.firstCells 3 i (.slice (some ⟨b, 0, none⟩) i c)).run Tryd.prog w.drew = .ok (cur.toList.take (i * 3)).toArray w.drew := by
    have hl := run_loadCells_list (P := Tryd.prog) w.drew ⟨b, 0, none⟩ (cur.toList.take (i * 3)) fun j v hj => by
      rw [List.getElem?_take] at hj
      split at hj
      · rw [Addr.add_lit]
        have hgd : w.drew.heap[b]? = some (.cells cur te (0, 0)) := hg
        simp only [World.cell?, hgd]
        simpa using hj
      · cases hj
    have h2 : (cur.toList.take (i * 3)).length = i * 3 := by simp only [List.length_take, Array.length_toList]; omega
    rw [h2] at hl
    simpa [Builtin.firstCells] using hl
  have hcast : ((n + m - i : Nat) : Int) = (n : Int) + (m : Int) - (i : Int) := by omega
  have hrun0 : ∀ ty, (Builtin.append_ #[26, 3] ty #[.slice (some ⟨b, 0, none⟩) i c, .int .i64 ((n + m - i : Nat) : Int)]).run Tryd.prog w = _ := fun ty =>
    append_grow (ty := ty) u26 hi0 hz0 (x := .int .i64 ((n + m - i : Nat) : Int)) (m := n + m - i) (news := (Builtin.zeroCells (Value.agg #[.int .i64 0, .int .i64 0, .string ⟨#[]⟩]).cells (n + m - i)).toList)
      (.inr ⟨_, _, u3, rfl, by omega, by rw [hzb]; omega, by rw [hzs]; omega, by rw [hzs]; rfl, rfl⟩) (by rw [hzs]; exact hold) (by omega) (by omega) (by omega) (by rw [hzb]; omega)
  rw [show i + (n + m - i) = n + m by omega, hcast] at hrun0
  obtain ⟨C, hC⟩ : ∃ C, C = grownCap w (n + m) c 44 := ⟨_, rfl⟩
  have hCge : n + m ≤ C := by rw [hC]; exact grownCap_ge w (n + m) c 44
  obtain ⟨Y, hY⟩ : ∃ Y, Y = (cur.toList.take (i * 3)).toArray ++ (Builtin.zeroCells (Value.agg #[.int .i64 0, .int .i64 0, .string ⟨#[]⟩]).cells (n + m - i)).toList.toArray ++ Builtin.zeroCells (Value.agg #[.int .i64 0, .int .i64 0, .string ⟨#[]⟩]).cells (C - (n + m)) := ⟨_, rfl⟩
  rw [← hC] at hrun0
  rw [← hY] at hrun0
  obtain ⟨W1, hW1⟩ : ∃ W1, W1 = w.drew.alloc (.cells Y 44) := ⟨_, rfl⟩
  rw [← hW1] at hrun0
  have hz3 : (Value.agg #[.int .i64 0, .int .i64 0, .string ⟨#[]⟩]).cells.size = 3 := rfl
  have hYs : Y.size = C * 3 := by
    rw [hY]
    simp only [Array.size_append, List.size_toArray, Array.length_toList, size_zeroCells, hz3, List.length_take]
    omega
  have hgW : W1.heap[w.heap.size]? = some (.cells Y 44 (0, 0)) := by rw [hW1]; exact heap_alloc_new w.drew _
  have hbel1 : Below w.heap.size w W1 := by rw [hW1]; exact ((Below.refl _ w).drew).alloc (Nat.le_refl _) _
  have hdl : ((cur.toList.take (n * 3)).drop (i * 3)).length = (n - i) * 3 := by simp only [List.length_drop, List.length_take, Array.length_toList]; omega
  -- the first copy
  obtain ⟨Y1, hY1⟩ : ∃ Y1, Y1 = (Y.toList.take (i * 3) ++ news ++ Y.toList.drop (i * 3 + news.length)).toArray := ⟨_, rfl⟩
  have hcp1 : ∀ ty dc, (Builtin.copy_ #[26, 26] ty #[.slice (some ⟨w.heap.size, i * 3, none⟩) (n + m - i) dc, .slice (some va) m vc]).run Tryd.prog W1 = .ok (goInt (Nat.min m (n + m - i) : Nat)) (W1.setRow w.heap.size Y1) := fun ty dc => by
    rw [hY1]
    refine run_copy_wide W1 u26 s44 hgW (by rw [hvl]; simp only [Nat.min_def]; split <;> omega) (fun j v hj => ?_) (by rw [hYs]; omega) h1v
    have h1 := hvs j v hj
    have h2 : (va.add j).block < w.heap.size := by
      unfold World.cell? at h1
      split at h1
      · rename_i hh; exact (Array.getElem?_eq_some_iff.1 hh).1
      · cases h1
    exact (hbel1.cell h2).trans h1
  have hY1s : Y1.size = C * 3 := by
    rw [hY1]
    simp only [List.size_toArray, List.length_append, List.length_take, List.length_drop, Array.length_toList, hYs, hvl]
    omega
  obtain ⟨W2, hW2⟩ : ∃ W2, W2 = W1.setRow w.heap.size Y1 := ⟨_, rfl⟩
  have hgW2 : W2.drew.heap[w.heap.size]? = some (.cells Y1 44 (0, 0)) := by rw [hW2]; exact setRow_heap _ _ Y _ 44 _ hgW
  have hbel2 : Below w.heap.size w W2.drew := by rw [hW2]; exact (below_row hbel1 (Nat.le_refl _) _).drew
  obtain ⟨Y2, hY2⟩ : ∃ Y2, Y2 = (Y1.toList.take ((i + m) * 3) ++ (cur.toList.take (n * 3)).drop (i * 3) ++ Y1.toList.drop ((i + m) * 3 + ((cur.toList.take (n * 3)).drop (i * 3)).length)).toArray := ⟨_, rfl⟩
  have hcp2 : ∀ ty dc sc, (Builtin.copy_ #[26, 26] ty #[.slice (some ⟨w.heap.size, (i + m) * 3, none⟩) (n + m - (i + m)) dc, .slice (some ⟨b, i * 3, none⟩) (n - i) sc]).run Tryd.prog W2.drew =
      .ok (goInt (Nat.min (n - i) (n + m - (i + m)) : Nat)) (W2.drew.setRow w.heap.size Y2) := fun ty dc sc => by
    rw [hY2]
    refine run_copy_wide W2.drew u26 s44 hgW2 (by rw [hdl]; simp only [Nat.min_def]; split <;> omega) (fun j v hj => ?_) (by rw [hdl, hY1s]; omega) (fun v hv => ?_)
    · rw [List.getElem?_drop, List.getElem?_take] at hj
      split at hj
      · refine (hbel2.cell (p := (⟨b, i * 3, none⟩ : Addr).add j) (by rw [Addr.add_lit]; exact hb0)).trans ?_
        rw [Addr.add_lit]
        simp only [World.cell?, hg]
        simpa using hj
      · cases hj
    · obtain ⟨j, hj⟩ := List.mem_iff_getElem?.1 hv
      rw [List.getElem?_drop, List.getElem?_take] at hj
      split at hj
      · exact hone (i * 3 + j) v (by omega) (by simpa using hj)
      · cases hj
  have hres : Y2.toList.take ((n + m) * 3) = cur.toList.take (i * 3) ++ news ++ (cur.toList.take (n * 3)).drop (i * 3) := by
    obtain ⟨Z, hZ⟩ : ∃ Z, Y.toList = cur.toList.take (i * 3) ++ Z ∧ Z.length = (C - i) * 3 := by
      refine ⟨(Builtin.zeroCells (Value.agg #[.int .i64 0, .int .i64 0, .string ⟨#[]⟩]).cells (n + m - i)).toList ++ (Builtin.zeroCells (Value.agg #[.int .i64 0, .int .i64 0, .string ⟨#[]⟩]).cells (C - (n + m))).toList, by rw [hY, Array.toList_append, Array.toList_append, List.append_assoc], ?_⟩
      simp only [List.length_append, Array.length_toList, size_zeroCells, hz3]
      omega
    obtain ⟨hZ, hZl⟩ := hZ
    have hOl : (cur.toList.take (i * 3)).length = i * 3 := by simp only [List.length_take, Array.length_toList]; omega
    have := mid_list (cur.toList.take (i * 3)) news ((cur.toList.take (n * 3)).drop (i * 3)) Z (i * 3) (m * 3) hOl hvl (by rw [hdl, hZl]; omega)
    rw [← hZ] at this
    have e : Y2.toList = cur.toList.take (i * 3) ++ news ++ (cur.toList.take (n * 3)).drop (i * 3) ++ Z.drop (m * 3 + ((cur.toList.take (n * 3)).drop (i * 3)).length) := by
      rw [← this, hY2, hY1]
      simp only [Nat.add_mul, hvl]
    rw [e, List.take_append_of_le_length (by simp only [List.length_append, hdl, hOl, hvl]; omega), List.take_of_length_le (by simp only [List.length_append, hdl, hOl, hvl]; omega)]
  have hY2s : Y2.size = C * 3 := by
    rw [hY2]
    simp only [List.size_toArray, List.length_append, hdl, List.length_take, List.length_drop, Array.length_toList, hY1s]
    omega
  have hgW3 : (W2.drew.setRow w.heap.size Y2).heap[w.heap.size]? = some (.cells Y2 44 (0, 0)) := setRow_heap _ _ Y1 _ 44 _ hgW2
  have hbel3 : Below w.heap.size w (W2.drew.setRow w.heap.size Y2) := below_row hbel2 (Nat.le_refl _) _
  rw [← hW2] at hcp1
  obtain ⟨g, hgg⟩ : ∃ g, g = w.heap.size := ⟨_, rfl⟩
  rw [← hgg] at hcp1 hcp2 hrun0 hgW3 ⊢
  rw [← hgg] at hbel3
  have hz1 : ¬ ((m : Int) = 0) := by omega
  have hz2 : ¬ ((i : Int) = (n : Int)) := by omega
  have hw1 : IntKind.i64.wrap ((i : Int) + (m : Int)) = (i : Int) + (m : Int) := by rw [IntKind.wrap_i64]; omega
  have hw2 : IntKind.i64.wrap ((n : Int) + (m : Int)) = (n : Int) + (m : Int) := by rw [IntKind.wrap_i64]; omega
  have hw3 : IntKind.i64.wrap ((n : Int) + (m : Int) - (i : Int)) = (n : Int) + (m : Int) - (i : Int) := by rw [IntKind.wrap_i64]; omega
  have hb1 : (0 : Int) ≤ (i : Int) + (m : Int) := by omega
  have htn : ((i : Int) + (m : Int)).toNat = i + m := by omega
  have hb2 : ¬ (C = i + m) := by omega
  have hb3 : (i : Int) ≤ (n : Int) + (m : Int) := by omega
  have hb4 : ¬ (c = i) := by omega
  have hb5 : ¬ (C = i) := by omega
  have hin : i ≤ n := by omega
  have hin2 : i ≤ n + m := by omega
  have hin3 : i + m ≤ n + m := by omega
  have hic : i ≤ c := by omega
  have K1 := Lib.hid hgW3
  have K2 := Lib.hid hY2s
  have K3 := Lib.hid hres
  have K4 := Lib.hid hbel3
  clear hgW3 hY2s hres hbel3 hbel2 hgW2 hY1s hbel1 hgW hYs hdl hW1 hW2 hY hY1 hY2 hz3 hC hcast hold hi0 hz0 hzs hzb hg hcur hone hvl hvs h1v hgg hb0
  go_enter Tryd.func24, Tryd.ntmps24
  go_wp2_with (with_reducible refine wpl_app rfl _ _ 26 3 rfl _ _ rfl rfl (hrun0 _) ?_)
  go_region_law (refine step_cpy rfl _ _ 26 26 rfl _ _ (by simp [Act.eval, Act.put]) (by simp [Act.eval, Act.put]) (hcp2 _ _ _) ?_)
  go_wp2
  go_ret
  exact ⟨C, Y2, hCge, rfl, K4.out, K1.out, Nat.le_of_eq K2.out.symm, K3.out⟩

end Go.Vi.InsD
end
