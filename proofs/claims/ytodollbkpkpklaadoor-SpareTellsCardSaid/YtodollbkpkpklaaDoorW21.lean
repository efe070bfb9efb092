/-
  A claim's own text, joined by a small program out of: RowD.
-/
import Derived.Test.YtodollbkpkpklaaDoorRows
import Derived.Test.YtodollbkpkpklaaDoorW18
import Derived.Test.YtodollbkpkpklaaDoorW19
import Derived.Test.YtodollbkpkpklaaDoorW20
import Derived.ProofKit
import Derived.Handed
import Derived.Lay
import Derived.LaidHandle
import Derived.LaidLaws
import Derived.OpenShut
set_option linter.unusedVariables false
set_option linter.unusedSimpArgs false
section
/-
  The row of SpareTells.
-/
namespace Go.Vi.Sp
open Go Go.Vi Go.Vi.Dd Go.Proofs
open Go.ChangeShapes Go.WideShapes Go.ChangeAt Go.RowKit
set_option maxRecDepth 1000000

section
variable {H : Type} {enc : TypeId × Value → H} {w : World}

theorem c3 : Tryd.prog.cellsOf 3 = 1 := by kernel_rfl
theorem c9 : Tryd.prog.cellsOf 9 = 1 := by kernel_rfl
theorem c5 : Tryd.prog.cellsOf 5 = 1 := by kernel_rfl
theorem c25 : Tryd.prog.cellsOf 25 = 1 := by kernel_rfl
theorem c26 : Tryd.prog.cellsOf 26 = 1 := by kernel_rfl
theorem c28 : Tryd.prog.cellsOf 28 = 3 := by kernel_rfl
theorem c30 : Tryd.prog.cellsOf 30 = 7 := by kernel_rfl
theorem c31 : Tryd.prog.cellsOf 31 = 13 := by kernel_rfl
theorem c32 : Tryd.prog.cellsOf 32 = 13 := by kernel_rfl
theorem c44 : Tryd.prog.cellsOf 44 = 3 := by kernel_rfl

theorem tI : Tells enc Tryd.prog w 3 (fun n : Int => [.v (.int .i64 n)]) (fun n => (Lit.int .i64 n).wf = true) := tells_int Tryd.underlying3
theorem tS : Tells enc Tryd.prog w 9 (fun s : ByteArray => [.v (.string s)]) (fun s => s.size ≤ maxLen) := tells_string Tryd.underlying9

theorem tE : Tells enc Tryd.prog w 44 eE (fun _ => True) := by
  intro fuel cs x h
  obtain ⟨xs, n, -, -, hl, hx, hf⟩ := DataW.trod_struct Tryd.underlying44 h
  rw [c44] at hl
  have hx : xs.length = 3 := hx
  obtain ⟨a0, -, r0⟩ := tells_field c3 rfl tI (by omega) (hf 0 _ rfl)
  obtain ⟨a1, -, r1⟩ := tells_field c3 rfl tI (by omega) (hf 1 _ rfl)
  obtain ⟨a2, -, r2⟩ := tells_field c9 rfl tS (by omega) (hf 2 _ rfl)
  exact ⟨⟨a0, a1, a2⟩, trivial, rel_field r0 (rel_field r1 (rel_field r2 (rel_end (Nat.le_of_eq hl))))⟩

theorem tData : Tells enc Tryd.prog w 25 (fun l : List UInt8 => [sl eB l]) (fun l => l.length ≤ maxLen ∧ ∀ a ∈ l, True) := tells_slice Tryd.underlying25 c5 (by omega) (tells_byte Tryd.underlying5) eB_len
theorem tEs : Tells enc Tryd.prog w 26 (fun l : List Entry => [sl eE l]) (fun l => l.length ≤ maxLen ∧ ∀ a ∈ l, True) := tells_slice Tryd.underlying26 c44 (by omega) tE eE_len

theorem tO : Tells enc Tryd.prog w 28 (fun o : Int × Int × Int => [.v (.int .i64 o.1), .v (.int .i64 o.2.1), .v (.int .i64 o.2.2)]) (fun _ => True) := by
  intro fuel cs x h
  obtain ⟨xs, n, -, -, hl, hx, hf⟩ := DataW.trod_struct Tryd.underlying28 h
  rw [c28] at hl
  have hx : xs.length = 3 := hx
  obtain ⟨a0, -, r0⟩ := tells_field c3 rfl tI (by omega) (hf 0 _ rfl)
  obtain ⟨a1, -, r1⟩ := tells_field c3 rfl tI (by omega) (hf 1 _ rfl)
  obtain ⟨a2, -, r2⟩ := tells_field c3 rfl tI (by omega) (hf 2 _ rfl)
  exact ⟨⟨a0, a1, a2⟩, trivial, rel_field r0 (rel_field r1 (rel_field r2 (rel_end (Nat.le_of_eq hl))))⟩

theorem tA : Tells enc Tryd.prog w 30 eA (fun _ => True) := by
  intro fuel cs x h
  obtain ⟨xs, n, -, -, hl, hx, hf⟩ := DataW.trod_struct Tryd.underlying30 h
  rw [c30] at hl
  have hx : xs.length = 5 := hx
  obtain ⟨a0, -, r0⟩ := tells_field c3 rfl tI (by omega) (hf 0 _ rfl)
  obtain ⟨a1, -, r1⟩ := tells_field c3 rfl tI (by omega) (hf 1 _ rfl)
  obtain ⟨a2, -, r2⟩ := tells_field c9 rfl tS (by omega) (hf 2 _ rfl)
  obtain ⟨a3, -, r3⟩ := tells_field c28 rfl tO (by omega) (hf 3 _ rfl)
  obtain ⟨a4, -, r4⟩ := tells_field c3 rfl tI (by omega) (hf 4 _ rfl)
  exact ⟨⟨a0, a1, a2, a3.1, a3.2.1, a3.2.2, a4⟩, trivial, rel_field r0 (rel_field r1 (rel_field r2 (rel_field r3 (rel_field r4 (rel_end (Nat.le_of_eq hl))))))⟩

def NodeFew (n : Node) : Prop := n.entries.length ≤ 9223372036854775807 ∧ n.data.length ≤ 9223372036854775807

theorem tN' {t : TypeId} {fs : Array Field} (hu : Tryd.prog.underlying t = some (.struct fs)) (hfs : some (.struct fs) = Tryd.prog.underlying 31) (hc : Tryd.prog.cellsOf t = 13) : Tells enc Tryd.prog w t eN NodeFew := by
  intro fuel cs x h
  rw [hfs, Tryd.underlying31] at hu
  obtain ⟨xs, n, -, -, hl, hx, hf⟩ := DataW.trod_struct hu h
  rw [hc] at hl
  have hx : xs.length = 7 := hx
  obtain ⟨a0, -, r0⟩ := tells_field c3 rfl tI (by omega) (hf 0 _ rfl)
  obtain ⟨a1, -, r1⟩ := tells_field c3 rfl tI (by omega) (hf 1 _ rfl)
  obtain ⟨a2, -, r2⟩ := tells_field c3 rfl tI (by omega) (hf 2 _ rfl)
  obtain ⟨a3, -, r3⟩ := tells_field c3 rfl tI (by omega) (hf 3 _ rfl)
  obtain ⟨a4, h4, r4⟩ := tells_field c25 rfl tData (by omega) (hf 4 _ rfl)
  obtain ⟨a5, h5, r5⟩ := tells_field c26 rfl tEs (by omega) (hf 5 _ rfl)
  obtain ⟨a6, -, r6⟩ := tells_field c30 rfl tA (by omega) (hf 6 _ rfl)
  exact ⟨⟨a0, a1, a2, a3, a4, a5, a6⟩, ⟨h5.1, h4.1⟩, rel_field r0 (rel_field r1 (rel_field r2 (rel_field r3 (rel_field r4 (rel_field r5 (rel_field r6 (rel_end (Nat.le_of_eq hl))))))))⟩
theorem tN : Tells enc Tryd.prog w 32 eN NodeFew := tN' Tryd.underlying32 (by rw [Tryd.underlying31]) c32
theorem tNs {t : TypeId} (hu : Tryd.prog.underlying t = some (.slice 32)) : Tells enc Tryd.prog w t (fun l : List Node => [sl eN l]) (fun l => l.length ≤ maxLen ∧ ∀ a ∈ l, NodeFew a) := tells_slice hu c32 (by omega) tN eN_len

theorem tL : Tells enc Tryd.prog w 24 (fun l : List Node => [sl eN l]) (fun l => Few l) := by
  intro fuel cs x h
  obtain ⟨xs, n, -, -, hl, hx, hf⟩ := DataW.trod_struct Tryd.underlying24 h
  have hc : Tryd.prog.cellsOf 24 = 1 := by kernel_rfl
  rw [hc] at hl
  have hx : xs.length = 1 := hx
  obtain ⟨a0, h0, r0⟩ := tells_field (c := 1) (o := 0) (by kernel_rfl) rfl (tNs Tryd.underlying22) (by omega) (hf 0 _ rfl)
  refine ⟨a0, ⟨h0.1, fun n hn => h0.2 n hn⟩, ?_⟩
  rw [List.drop_zero, List.take_of_length_le (Nat.le_of_eq hl)] at r0
  exact r0

theorem rep_struct {t : TypeId} {fs : Array Field} {α : Type} {en : α → List T} {ok : α → Prop} {r : Reach} {b0 : Nat} {v : Value} {d : DataW H} {ps : List MemPlace} (hT : Tells enc Tryd.prog w t en ok)
    (hu : Tryd.prog.underlying t = some (.struct fs)) (hval : Value.okWide Tryd.prog w r b0 t v) (h : DataW.Trod enc Tryd.prog w 0 (fun _ => true) true t v d ps) : ∃ a, ok a ∧ Rep (fun b _ => b < w.heap.size) w noB noF v (.agg (en a)) := by
  obtain ⟨cs, rfl, -⟩ := okWide_struct hu hval
  obtain ⟨fuel, hf⟩ := h
  obtain ⟨a, ha, hr⟩ := hT hf
  have hr : Rel w cs.toList (en a) := hr
  refine ⟨a, ha, .agg _ _ _ _ (by simpa using rel_length hr) (fun i x hx => ?_) fun i x t hx ht => (rel_get hr i x t (by simpa using hx) ht).2⟩
  have hi : i < (en a).length := by
    rw [← rel_length hr]
    simpa using (Array.getElem?_eq_some_iff.1 hx).1
  exact (rel_get hr i x _ (by simpa using hx) (List.getElem?_eq_getElem hi)).1
end

theorem own : ownKnob Tryd.prog.godebug = none := by kernel_rfl
theorem laidOut : laidOutB Tryd.prog = true := by kernel_rfl

/-- What the call does. -/
theorem tells_calls (w : World) (v0 v1 v2 v3 : Value) (l : List Node) (n : Node) (ino : Int) (name : ByteArray) (hl : Few l) (hn : NodeFew n) (h0 : Rep (fun b _ => b < w.heap.size) w noB noF v0 (.agg [sl eN l]))
    (h1 : Rep (fun b _ => b < w.heap.size) w noB noF v1 (.agg (eN n))) (h2 : v2 = .int .i64 ino) (h3 : v3 = .string name) :
    Calls Tryd.prog 3 #[v0, v1, v2, v3] w fun e w' => e = .returned (.bool true) ∧ Below w.heap.size w w' := by
  obtain ⟨k, hk⟩ := spareTells_ev ⟨300, awake_run⟩ l n ino name hl hn.1
  have hs := callN_sound eok k _ _ _ hk
  unfold Sound at hs
  rw [if_pos Lt_law46_SpareTells] at hs
  have hc : Calls Tryd.prog 3 #[v0, v1, v2, v3] w _ := hs.2 w (fun b _ => b < w.heap.size) #[v0, v1, v2, v3] (fun _ _ h => h) rfl fun i x t hx ht => by
    match i, hx, ht with
    | 0, hx, ht => simp at hx ht; subst hx; subst ht; exact h0
    | 1, hx, ht => simp at hx ht; subst hx; subst ht; exact h1
    | 2, hx, ht => simp at hx ht; subst hx; subst ht; subst h2; exact .v _ _ _
    | 3, hx, ht => simp at hx ht; subst hx; subst ht; subst h3; exact .v _ _ _
    | k + 4, hx, ht => simp at hx
  refine hc.mono fun e w' ⟨x, he, hb, S', φ, _, _, hr, _⟩ => ?_
  cases hr
  exact ⟨he, hb⟩

theorem lifted (os : Os) (started : os.Started) (H : Type) (enc : TypeId × Value → H) :
    ReturnsInHanded {} Tryd.checked os 3 .any (fun w args => (Go.Proofs.YtodollbkpkpklaaDoor.Rows.spareTellsSpec.pre enc Tryd.prog Tryd.f3 [] false w args ∧ laidMetH Tryd.prog Go.Proofs.YtodollbkpkpklaaDoor.Rows.spareTellsRow.laid w) ∧ sizedMet enc Tryd.prog Tryd.f3 (OpenSpec.ofChange Go.Proofs.YtodollbkpkpklaaDoor.Rows.spareTellsSpec) false w args)
      (Go.Proofs.YtodollbkpkpklaaDoor.Rows.spareTellsSpec.post enc Tryd.prog Tryd.f3 false true false false) := by
  refine returnsInHanded_of_change_and (C := Tryd.checked) (X := fun w _ => laidMetH Tryd.prog Go.Proofs.YtodollbkpkpklaaDoor.Rows.spareTellsRow.laid w) (fun _ _ _ hh h => h.of_heap hh) own started (by kernel_rfl) Tryd.func3
    (ChangeSpec.witness_at (enc := enc) (C := Tryd.checked) (os := os) (X := fun w _ => laidMetH Tryd.prog Go.Proofs.YtodollbkpkpklaaDoor.Rows.spareTellsRow.laid w) false (World.laidAll Tryd.prog os Go.Proofs.YtodollbkpkpklaaDoor.Rows.spareTellsRow.laid)
      #[.agg #[.slice none 0 0], .agg #[.int .i64 0, .int .i64 0, .int .i64 0, .int .i64 0, .slice none 0 0, .slice none 0 0, .int .i64 0, .int .i64 0, .string ByteArray.empty, .int .i64 0, .int .i64 0, .int .i64 0, .int .i64 0], .int .i64 0, .string ByteArray.empty] 8
      rfl (by kernel_rfl) (by kernel_rfl) (by kernel_rfl) (by kernel_rfl) (by kernel_rfl) (laidMetH_of_parts (laidMet_laidAll _ (by kernel_rfl) (by kernel_rfl)) (by kernel_rfl))) ?_
  intro W base args ds gs before hval0 hW _ _ _ _
  have hval : ∀ (j : Nat) t v, Tryd.f3.params[j]? = some t → args[j]? = some v → Value.okWide Tryd.prog W .any base t v := hval0
  have hW' := hW
  obtain ⟨p, q, hA0, hV, rfl, hfz, hnd⟩ := hW
  have hA : DataW.TrodAll enc Tryd.prog W 0 (fun _ => true) true Tryd.f3.params.toList args.toList ds p := hA0
  rw [Tryd.params3] at hA hval
  obtain ⟨v0, vs0, d0, ds0, p0, q0, hargs, rfl, rfl, h0, r0⟩ := trodAll_cons hA
  obtain ⟨v1, vs1, d1, ds1, p1, q1, rfl, rfl, rfl, h1, r1⟩ := trodAll_cons r0
  obtain ⟨v2, vs2, d2, ds2, p2, q2, rfl, rfl, rfl, h2, r2⟩ := trodAll_cons r1
  obtain ⟨v3, vs3, d3, ds3, p3, q3, rfl, rfl, rfl, h3, r3⟩ := trodAll_cons r2
  obtain ⟨rfl, rfl, rfl⟩ := trodAll_nil r3
  obtain rfl : args = #[v0, v1, v2, v3] := by cases args; simp_all
  obtain ⟨rfl, rfl⟩ := trodVars_none hV
  have lt : ∀ {t v d ps}, DataW.Trod enc Tryd.prog W 0 (fun _ => true) true t v d ps → ∀ x ∈ ps, x.block < W.heap.size := fun ⟨m, hm⟩ => DataW.trod_lt m _ _ _ hm
  obtain ⟨l, hl, rl⟩ := rep_struct tL Tryd.underlying24 (hval 0 24 v0 rfl rfl) h0
  obtain ⟨n, hn, rn⟩ := rep_struct tN Tryd.underlying32 (hval 1 32 v1 rfl rfl) h1
  obtain ⟨ino, e2, -, -, -⟩ := open_int Tryd.underlying3 (hval 2 3 v2 rfl rfl) h2
  obtain ⟨name, e3, -, -, -⟩ := Go.ChangeMaps.open_string Tryd.underlying9 (hval 3 9 v3 rfl rfl) h3
  refine (tells_calls W v0 v1 v2 v3 l n ino name hl hn rl rn e2 e3).mono fun e W' ⟨he, bel⟩ => ?_
  subst he
  exact ⟨_, rfl, _, _, _, [], _, [], hW', trodAll_mk1 (shut_bool Tryd.underlying4 _),
    trodAll_cons_mk (Below.trod laidOut (by kernel_rfl) (of_decide_eq_true (by kernel_rfl)) h0 bel (lt h0)) (trodAll_cons_mk (Below.trod laidOut (by kernel_rfl) (of_decide_eq_true (by kernel_rfl)) h1 bel (lt h1))
      (trodAll_cons_mk (Below.trod laidOut (by kernel_rfl) (of_decide_eq_true (by kernel_rfl)) h2 bel (lt h2)) (trodAll_cons_mk (Below.trod laidOut (by kernel_rfl) (of_decide_eq_true (by kernel_rfl)) h3 bel (lt h3)) trodAll_mk0))),
    rfl, bel.frame _, fun h => by cases h⟩

theorem row_holds : Go.Proofs.YtodollbkpkpklaaDoor.Rows.SpareTellsSaid :=
  OpenClaim.holds_of_wide 3 Tryd.f3 rfl rfl rfl rfl rfl rfl rfl ⟨rfl, rfl, rfl, rfl, rfl⟩ rfl rfl rfl rfl rfl (by kernel_rfl) Tryd.func3 (by kernel_rfl)
    (of_decide_eq_true (by kernel_rfl)) (by unfold Func.isWrapper; first | (rw [if_pos (by decide +kernel)]; kernel_rfl) | (rw [if_neg (by decide +kernel)]; exact ⟨rfl, rfl⟩))
    (fun os started H enc _ => lifted os started H enc)
end Go.Vi.Sp
end
