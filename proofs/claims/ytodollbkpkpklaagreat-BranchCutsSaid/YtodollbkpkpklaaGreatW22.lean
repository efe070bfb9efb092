/-
  A claim's own text, joined by a small program out of: RowZ, CutsZ.
-/
import Derived.Test.YtodollbkpkpklaaGreatRows
import Derived.Test.YtodollbkpkpklaaGreatW20
import Derived.Test.YtodollbkpkpklaaGreatW14
import Derived.Test.YtodollbkpkpklaaGreatW21
import Derived.ProofKit
import Derived.Handed
import Derived.Lay
import Derived.LaidHandle
import Derived.LaidLaws
import Derived.OpenShut
set_option linter.unusedVariables false
set_option linter.unusedSimpArgs false
section
/-
  The row of BranchCuts.
-/
namespace Go.Vi.Sz
open Go Go.Vi Go.Vi.Zz Go.Proofs
open Go.ChangeShapes Go.WideShapes Go.ChangeAt Go.RowKit
set_option maxRecDepth 1000000

section
variable {H : Type} {enc : TypeId × Value → H} {w : World}

theorem c3 : Tryz.prog.cellsOf 3 = 1 := by kernel_rfl
theorem c5 : Tryz.prog.cellsOf 5 = 1 := by kernel_rfl
theorem c23 : Tryz.prog.cellsOf 23 = 4 := by kernel_rfl
theorem c37 : Tryz.prog.cellsOf 37 = 1 := by kernel_rfl

theorem tI : Tells enc Tryz.prog w 3 (fun n : Int => [.v (.int .i64 n)]) (fun n => (Lit.int .i64 n).wf = true) := tells_int Tryz.underlying3

theorem tG : Tells enc Tryz.prog w 23 eG (fun _ => True) := by
  intro fuel cs x h
  obtain ⟨xs, n, -, -, hl, hx, hf⟩ := DataW.trod_struct Tryz.underlying23 h
  rw [c23] at hl
  have hx : xs.length = 4 := hx
  obtain ⟨a0, -, r0⟩ := tells_field c3 rfl tI (by omega) (hf 0 _ rfl)
  obtain ⟨a1, -, r1⟩ := tells_field c3 rfl tI (by omega) (hf 1 _ rfl)
  obtain ⟨a2, -, r2⟩ := tells_field c3 rfl tI (by omega) (hf 2 _ rfl)
  obtain ⟨a3, -, r3⟩ := tells_field c3 rfl tI (by omega) (hf 3 _ rfl)
  exact ⟨⟨a0, a1, a2, a3⟩, trivial, rel_field r0 (rel_field r1 (rel_field r2 (rel_field r3 (rel_end (Nat.le_of_eq hl)))))⟩

theorem tData : Tells enc Tryz.prog w 37 (fun l : List UInt8 => [sl eB l]) (fun l => l.length ≤ maxLen ∧ ∀ a ∈ l, True) := tells_slice Tryz.underlying37 c5 (by omega) (tells_byte Tryz.underlying5) eB_len

theorem rep_struct {t : TypeId} {fs : Array Field} {α : Type} {en : α → List T} {ok : α → Prop} {r : Reach} {b0 : Nat} {v : Value} {d : DataW H} {ps : List MemPlace} (hT : Tells enc Tryz.prog w t en ok)
    (hu : Tryz.prog.underlying t = some (.struct fs)) (hval : Value.okWide Tryz.prog w r b0 t v) (h : DataW.Trod enc Tryz.prog w 0 (fun _ => true) true t v d ps) : ∃ a, ok a ∧ Rep (fun b _ => b < w.heap.size) w noB noF v (.agg (en a)) := by
  obtain ⟨cs, rfl, -⟩ := okWide_struct hu hval
  obtain ⟨fuel, hf⟩ := h
  obtain ⟨a, ha, hr⟩ := hT hf
  have hr : Rel w cs.toList (en a) := hr
  refine ⟨a, ha, .agg _ _ _ _ (by simpa using rel_length hr) (fun i x hx => ?_) fun i x t hx ht => (rel_get hr i x t (by simpa using hx) ht).2⟩
  have hi : i < (en a).length := by
    rw [← rel_length hr]
    simpa using (Array.getElem?_eq_some_iff.1 hx).1
  exact (rel_get hr i x _ (by simpa using hx) (List.getElem?_eq_getElem hi)).1

theorem rep_one {t e : TypeId} {α : Type} {en : α → T} {ok : α → Prop} {r : Reach} {b0 : Nat} {v : Value} {d : DataW H} {ps : List MemPlace} (hT : Tells enc Tryz.prog w t (fun a => [en a]) ok)
    (hu : Tryz.prog.underlying t = some (.slice e)) (hval : Value.okWide Tryz.prog w r b0 t v) (h : DataW.Trod enc Tryz.prog w 0 (fun _ => true) true t v d ps) : ∃ a, ok a ∧ Rep (fun b _ => b < w.heap.size) w noB noF v (en a) := by
  have hc : v.cells = #[v] := by
    cases v with
    | agg cs => simp [Value.okWide, hu, Cell.okWide, Cell.ok] at hval
    | _ => rfl
  obtain ⟨fuel, hf⟩ := h
  obtain ⟨a, ha, hr⟩ := hT hf
  rw [hc] at hr
  exact ⟨a, ha, (rel_get hr 0 v (en a) rfl rfl).2⟩
end

theorem own : ownKnob Tryz.prog.godebug = none := by kernel_rfl
theorem laidOut : laidOutB Tryz.prog = true := by kernel_rfl

/-- What the call does. -/
theorem cuts_calls (w : World) (v0 v1 v2 : Value) (g : Geo) (bs : List UInt8) (layer : Int) (hl : bs.length ≤ 9223372036854775807) (h0 : Rep (fun b _ => b < w.heap.size) w noB noF v0 (.agg (eG g)))
    (h1 : Rep (fun b _ => b < w.heap.size) w noB noF v1 (sl eB bs)) (h2 : v2 = .int .i64 layer) :
    Calls Tryz.prog 4 #[v0, v1, v2] w fun e w' => e = .returned (.bool true) ∧ Below w.heap.size w w' := by
  obtain ⟨k, hk⟩ := branchCuts_ev awake_ev g bs layer hl
  have hs := callN_sound eok k _ _ _ hk
  unfold Sound at hs
  rw [if_pos Lt_law12_BranchCuts] at hs
  have hc : Calls Tryz.prog 4 #[v0, v1, v2] w _ := hs.2 w (fun b _ => b < w.heap.size) #[v0, v1, v2] (fun _ _ h => h) rfl fun i x t hx ht => by
    match i, hx, ht with
    | 0, hx, ht => simp at hx ht; subst hx; subst ht; exact h0
    | 1, hx, ht => simp at hx ht; subst hx; subst ht; exact h1
    | 2, hx, ht => simp at hx ht; subst hx; subst ht; subst h2; exact .v _ _ _
    | k + 3, hx, ht => simp at hx
  refine hc.mono fun e w' ⟨x, he, hb, S', φ, _, _, hr, _⟩ => ?_
  cases hr
  exact ⟨he, hb⟩

theorem lifted (os : Os) (started : os.Started) (H : Type) (enc : TypeId × Value → H) :
    ReturnsInHanded {} Tryz.checked os 4 .any (Go.Proofs.YtodollbkpkpklaaGreat.Rows.branchCutsSpec.pre6 enc Tryz.prog Tryz.f4 [] false)
      (Go.Proofs.YtodollbkpkpklaaGreat.Rows.branchCutsSpec.post enc Tryz.prog Tryz.f4 false true false false) := by
  refine returnsInHanded_of_change (C := Tryz.checked) own started (by kernel_rfl) Tryz.func4 ?_ ?_
  · obtain ⟨w, tape, i, h1, h2, h3, h4, ⟨⟨hp, _⟩, hs⟩, ha⟩ := ChangeSpec.witness_at (enc := enc) (C := Tryz.checked) (os := os) (f := 4) (fn := Tryz.f4) (s := Go.Proofs.YtodollbkpkpklaaGreat.Rows.branchCutsSpec) (conds := []) (apart := false) (X := fun _ _ => True) false (World.laidAll Tryz.prog os [])
      #[.agg #[.int .i64 0, .int .i64 0, .int .i64 0, .int .i64 0], .slice none 0 0, .int .i64 0] 8
      rfl (by kernel_rfl) (by kernel_rfl) (by kernel_rfl) (by kernel_rfl) (by kernel_rfl) trivial
    exact ⟨w, tape, i, h1, h2, h3, h4, ⟨hp, hs⟩, ha⟩
  intro W base args ds gs before hval0 hW _ _
  have hval : ∀ (j : Nat) t v, Tryz.f4.params[j]? = some t → args[j]? = some v → Value.okWide Tryz.prog W .any base t v := hval0
  have hW' := hW
  obtain ⟨p, q, hA0, hV, rfl, hfz, hnd⟩ := hW
  have hA : DataW.TrodAll enc Tryz.prog W 0 (fun _ => true) true Tryz.f4.params.toList args.toList ds p := hA0
  rw [Tryz.params4] at hA hval
  obtain ⟨v0, vs0, d0, ds0, p0, q0, hargs, rfl, rfl, h0, r0⟩ := trodAll_cons hA
  obtain ⟨v1, vs1, d1, ds1, p1, q1, rfl, rfl, rfl, h1, r1⟩ := trodAll_cons r0
  obtain ⟨v2, vs2, d2, ds2, p2, q2, rfl, rfl, rfl, h2, r2⟩ := trodAll_cons r1
  obtain ⟨rfl, rfl, rfl⟩ := trodAll_nil r2
  obtain rfl : args = #[v0, v1, v2] := by cases args; simp_all
  obtain ⟨rfl, rfl⟩ := trodVars_none hV
  have lt : ∀ {t v d ps}, DataW.Trod enc Tryz.prog W 0 (fun _ => true) true t v d ps → ∀ x ∈ ps, x.block < W.heap.size := fun ⟨m, hm⟩ => DataW.trod_lt m _ _ _ hm
  obtain ⟨g, -, rg⟩ := rep_struct tG Tryz.underlying23 (hval 0 23 v0 rfl rfl) h0
  obtain ⟨bs, hb, rb⟩ := rep_one tData Tryz.underlying37 (hval 1 37 v1 rfl rfl) h1
  obtain ⟨layer, e2, -, -, -⟩ := open_int Tryz.underlying3 (hval 2 3 v2 rfl rfl) h2
  refine (cuts_calls W v0 v1 v2 g bs layer hb.1 rg rb e2).mono fun e W' ⟨he, bel⟩ => ?_
  subst he
  exact ⟨_, rfl, _, _, _, [], _, [], hW', trodAll_mk1 (shut_bool Tryz.underlying4 _),
    trodAll_cons_mk (Below.trod laidOut (by kernel_rfl) (of_decide_eq_true (by kernel_rfl)) h0 bel (lt h0)) (trodAll_cons_mk (Below.trod laidOut (by kernel_rfl) (of_decide_eq_true (by kernel_rfl)) h1 bel (lt h1))
      (trodAll_cons_mk (Below.trod laidOut (by kernel_rfl) (of_decide_eq_true (by kernel_rfl)) h2 bel (lt h2)) trodAll_mk0)),
    rfl, bel.frame _, fun h => by cases h⟩

theorem row_holds : Go.Proofs.YtodollbkpkpklaaGreat.Rows.BranchCutsSaid :=
  OpenClaim.holds_of_wide 4 Tryz.f4 rfl rfl rfl rfl rfl rfl rfl ⟨rfl, rfl, rfl, rfl, rfl⟩ rfl rfl rfl rfl rfl (by kernel_rfl) Tryz.func4 (by kernel_rfl)
    (of_decide_eq_true (by kernel_rfl)) (by unfold Func.isWrapper; first | (rw [if_pos (by decide +kernel)]; kernel_rfl) | (rw [if_neg (by decide +kernel)]; exact ⟨rfl, rfl⟩))
    (fun os started H enc _ => lifted os started H enc)
end Go.Vi.Sz
end
section
/-
  craquelurelaw12.BranchCuts answers true for every input; its arguments read as they did. No conditions.
-/
namespace Go.Proofs.YtodollbkpkpklaaGreat

/-- The given statement. -/
theorem branchCuts_holds : Rows.BranchCutsSaid := Go.Vi.Sz.row_holds
end Go.Proofs.YtodollbkpkpklaaGreat
end
