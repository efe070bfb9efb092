/-
  A claim's own text, joined by a small program out of: PzValid.
-/
import Derived.Test.YtodollbkpkpklaaGreatW15
import Derived.Test.YtodollbkpkpklaaGreatW16
import Derived.Maps.RangeRun
import Derived.Laws.IdiomRangeMap
import Derived.Laws.StructEq
import Derived.WalkKit
import Derived.LoopTactic
import Derived.LoopN
import Derived.KernelRfl
set_option linter.unusedVariables false
set_option linter.unusedSimpArgs false
section
/-
  claim.Valid, of seat Z: whatever order the owners are ranged over in.
-/
set_option maxRecDepth 1000000
set_option linter.unusedSimpArgs false
set_option linter.unusedVariables false
namespace Go.Vi.Zz
open Go Go.Vi Go.Proofs Go.RowKit

theorem zu117 : Tryz.prog.underlying 117 = some (.map 3 123) := by kernel_rfl
theorem zu123 : (Tryz.prog.underlying 123).isSome = true := by kernel_rfl

/-- What is known of the owners' map. -/
structure Owned (w w1 : World) (b : Nat) (es : Array MapEntry) (clock : Nat) : Prop where
  below : Below w.heap.size w w1
  map : w1.heap[b]? = some (.map es clock)
  born : BornOk es.toList clock

/-- Is it this place? -/
def valM (ino k : Int) (v : Value) : Bool := match v with
  | .agg a => (match a.toList with
    | [.int .i64 p, .int .i64 q] => p == ino && q == k
    | _ => false)
  | _ => false

set_option maxHeartbeats 4000000 in
theorem valid_walk (w : World) (lv bv : Value) (ino k : Int) (bb : Bool)
    (cO : Calls Tryz.prog 64 #[lv, bv] w fun e w1 => ∃ b es clock, e = .returned (.map (some b)) ∧ Owned w w1 b es clock ∧ (∀ x ∈ es.toList, ∃ p q : Int, x.val = .agg #[.int .i64 p, .int .i64 q]) ∧ bb = es.toList.any fun x => valM ino k x.val) :
    Calls Tryz.prog 91 #[lv, bv, .int .i64 ino, .int .i64 k] w fun e w' => e = .returned (.bool bb) ∧ Below w.heap.size w w' := by
  have u117 := run_underlying zu117
  have mixed : Tryz.prog.follows .mixedOrders = true := by kernel_rfl
  have e64 : ∀ args w, (callFunc 64 args).run Tryz.prog w = .ok (.enter 64 args) w := enters_of (f := 64) (fn := Tryz.f64) (by kernel_rfl) rfl rfl
  have a123 : ∀ w, (isAgg 123).run Tryz.prog w = .ok true w := fun w => by kernel_rfl
  have z123 : ∀ w, (Go.sizeOf 123).run Tryz.prog w = .ok 2 w := fun w => by kernel_rfl
  have v123 : ∀ w, (zeroValue 123).run Tryz.prog w = .ok (.agg #[.int .i64 0, .int .i64 0]) w := fun w => by kernel_rfl
  have hf : Tryz.prog.funcs[91]? = some Tryz.f91 := by kernel_rfl
  have hn : Tryz.f91.ntmps = 24 := rfl
  go_enter hf, hn
  go_wp2_with (first
    | (go_at_fn 64; refine cO.mono ?_; rintro e w1 ⟨b, es, clock, rfl, ho, hval, hbb⟩; have hrg := run_range_map (P := Tryz.prog) w1 117 3 123 b es clock zu117 ho.map; have hblt : b < w1.heap.size := (Array.getElem?_eq_some_iff.1 ho.map).1; have hwsz := ho.below.size))
  go_loopw [] (fun wr => ∃ seen : Array Nat, wr.heap[w1.heap.size]? = some (.mapIter (some b) clock seen clock) ∧ wr.heap[b]? = some (.map es clock) ∧ Below w.heap.size w wr ∧ ∀ x ∈ es.toList, seen.contains x.born = true → valM ino k x.val = false)
    (fun wr => (leftOf es (wr.iterSeen w1.heap.size)).size)
  case atStart => exact ⟨#[], heap_alloc_new w1 _, by rw [heap_alloc_old w1 _ hblt]; exact ho.map, ho.below.alloc hwsz _, fun x _ h => by simp at h⟩
  case round =>
    obtain ⟨seen, hr, hb, hbel, hno⟩ := hrel
    have hiter : wr.iterSeen w1.heap.size = seen := by simp [World.iterSeen, hr]
    rcases run_next_at (P := Tryz.prog) wr 0 w1.heap.size b clock clock seen es clock hr hb ho.born.2 (Nat.le_refl _) with ⟨h0, hrun⟩ | ⟨e, he, w2, hal, hrun⟩
    · have hnx : ∀ ty, (Instr.next (.pointer (some ⟨w1.heap.size, 0, none⟩)) false ty).run Tryz.prog wr = _ := fun _ => hrun
      go_wp2
      go_ret
      have hf : (es.toList.any fun x => valM ino k x.val) = false := by
        rw [List.any_eq_false]
        intro x hx
        have := hno x hx (all_seen es seen h0 x hx)
        simp [this]
      rw [hbb, hf]
      exact ⟨rfl, hbel⟩
    · obtain ⟨p, q, hpq⟩ := hval e (mem_left he).1
      obtain ⟨W2, hW2⟩ : ∃ W2, ChangeMaps.setBlock w2 w1.heap.size (.mapIter (some b) clock (seen.push e.born) clock) = W2 := ⟨_, rfl⟩
      rw [hW2] at hrun
      have hnx : ∀ ty, (Instr.next (.pointer (some ⟨w1.heap.size, 0, none⟩)) false ty).run Tryz.prog wr = _ := fun _ => hrun
      have hrlt : w1.heap.size < wr.heap.size := (Array.getElem?_eq_some_iff.1 hr).1
      have hw2 : w2.heap = wr.heap ∧ w2.os = wr.os ∧ w2.tape = wr.tape ∧ w2.output = wr.output := by rcases hal with rfl | rfl <;> exact ⟨rfl, rfl, rfl, rfl⟩
      have hr2 : W2.heap[w1.heap.size]? = some (.mapIter (some b) clock (seen.push e.born) clock) := by
        rw [← hW2]
        simp [ChangeMaps.setBlock, hw2.1, hrlt]
      have hb2 : W2.heap[b]? = some (.map es clock) := by
        rw [← hW2]
        simp only [ChangeMaps.setBlock, hw2.1]
        rw [Array.getElem?_setIfInBounds_ne (by omega)]
        exact hb
      have hbel2 : Below w.heap.size w W2 := by
        rw [← hW2]
        refine ⟨hw2.2.1.trans hbel.os, hw2.2.2.1.trans hbel.tape, hw2.2.2.2.trans hbel.output, by simp [ChangeMaps.setBlock, hw2.1]; exact hbel.size, fun j hj => ?_⟩
        simp only [ChangeMaps.setBlock, hw2.1]
        rw [Array.getElem?_setIfInBounds_ne (by omega)]
        exact hbel.block j hj
      have hen := run_entry_at (P := Tryz.prog) W2 w1.heap.size b clock seen es clock e hr2 hb2 (mem_left he).1 ho.born.1
      rw [hpq] at hen
      have fin : ∀ o : Obj, valM ino k e.val = false → (∃ seen, (W2.alloc o).heap[w1.heap.size]? = some (.mapIter (some b) clock seen clock) ∧ (W2.alloc o).heap[b]? = some (.map es clock) ∧ Below w.heap.size w (W2.alloc o) ∧
          ∀ x ∈ es.toList, seen.contains x.born = true → valM ino k x.val = false) ∧ (leftOf es ((W2.alloc o).iterSeen w1.heap.size)).size < (leftOf es (wr.iterSeen w1.heap.size)).size := fun o hf => by
        have hr3 : (W2.alloc o).heap[w1.heap.size]? = some (.mapIter (some b) clock (seen.push e.born) clock) := by
          rw [heap_alloc_old W2 _ (Array.getElem?_eq_some_iff.1 hr2).1]; exact hr2
        refine ⟨⟨seen.push e.born, hr3, by rw [heap_alloc_old W2 _ (Array.getElem?_eq_some_iff.1 hb2).1]; exact hb2, hbel2.alloc hbel2.size _, fun x hx hc => ?_⟩, ?_⟩
        · rw [contains_push] at hc
          rcases Bool.or_eq_true _ _ ▸ hc with h1 | h1
          · exact hno x hx h1
          · have : x = e := born_inj ho.born.1 hx (mem_left he).1 (beq_iff_eq.1 h1)
            rw [this]
            exact hf
        · have : (W2.alloc o).iterSeen w1.heap.size = seen.push e.born := by simp only [World.iterSeen, hr3]
          rw [this, hiter]
          exact left_shrinks es seen e he
      clear hrun hW2
      go_wp2
      · rename_i h1 h2
        go_ret
        have ht : (es.toList.any fun x => valM ino k x.val) = true := List.any_eq_true.2 ⟨e, (mem_left he).1, by rw [hpq]; simp [valM, h1, h2]⟩
        rw [hbb, ht]
        exact ⟨rfl, hbel2.alloc hbel2.size _⟩
      · rename_i h1 h2
        exact fin _ (by rw [hpq]; simp [valM, h2])
      · rename_i h1
        exact fin _ (by rw [hpq]; simp [valM, h1])

theorem rep_agg2 {S : Nat → Nat → Prop} {w : World} {β : BMap} {φ : FMap} {x : Value} {a b : Value} (h : Rep S w β φ x (.agg [.v a, .v b])) : x = .agg #[a, b] := by
  generalize ht : T.agg [.v a, .v b] = t at h
  cases h with
  | agg _ _ xs ts hl h1 h =>
    cases ht
    match xs, hl, h with
    | ⟨[p, q]⟩, _, h =>
      have e1 := rep_v (h 0 p _ rfl rfl)
      have e2 := rep_v (h 1 q _ rfl rfl)
      rw [e1, e2]
  | _ => cases ht

theorem findV_spec {S : Nat → Nat → Prop} {w : World} {β : BMap} {φ : FMap} {ino k : Int} : ∀ {es : List MapEntry} {ts : List T} {bb : Bool}, EntriesAt S w β φ es ts → findV ino k ts = some bb →
    (∀ x ∈ es, ∃ p q : Int, x.val = .agg #[.int .i64 p, .int .i64 q]) ∧ bb = es.any fun x => valM ino k x.val
  | _, _, _, .nil, h => by
    simp only [findV, Option.some.injEq] at h
    exact ⟨fun x hx => (by cases hx), by rw [← h]; rfl⟩
  | _, _, _, .cons e es kt vt ts hk hv hrest, h => by
    unfold findV at h
    split at h
    · rename_i h'; cases h'
    · rename_i k' a b es' heq
      cases heq
      obtain ⟨r, hr, rfl⟩ := Option.map_eq_some_iff.1 h
      obtain ⟨i1, i2⟩ := findV_spec hrest hr
      have hval := rep_agg2 hv
      refine ⟨fun x hx => ?_, ?_⟩
      · rcases List.mem_cons.1 hx with rfl | hx
        · exact ⟨_, _, hval⟩
        · exact i1 x hx
      · rw [List.any_cons, hval, ← i2]
        simp [valM]
    · cases h

theorem valid_sound (args : List T) (r : T) (h : valP args = some r) : Sound Tryz.prog F_claim_Valid args r := by
  unfold valP at h
  split at h <;> try (cases h; done)
  rename_i g n cs bl ino k
  split at h <;> try (cases h; done)
  rename_i lm outs hC
  split at h <;> try (cases h; done)
  rename_i es hes
  obtain ⟨bb, hbb, rfl⟩ := Option.map_eq_some_iff.1 h
  have hS0 := callN_sound eok0 _ _ _ _ hC
  unfold Sound at hS0 ⊢
  rw [if_neg (Nat.not_lt.2 (Nat.le_add_right _ _)), Nat.add_sub_cancel_left] at hS0
  rw [if_pos (by decide)]
  rcases hS0 with ⟨as1, ins, r', outs', he, hr', hio⟩ | ⟨caps, ys, he, _⟩
  · simp only [List.cons.injEq, T.tup.injEq, and_true] at he hr'
    obtain ⟨rfl, rfl⟩ := he
    obtain ⟨rfl, rfl⟩ := hr'
    refine ⟨by kernel_rfl, fun w S vs hS hsz hrep => ?_⟩
    obtain ⟨x0, x1, x2, x3, rfl⟩ : ∃ a b c d, vs = #[a, b, c, d] := by
      match vs, hsz with
      | ⟨[a, b, c, d]⟩, _ => exact ⟨a, b, c, d, rfl⟩
    have e2 := rep_v (hrep 2 x2 _ rfl rfl)
    have e3 := rep_v (hrep 3 x3 _ rfl rfl)
    subst e2 e3
    have hI := inv_none' (P := Tryz.prog) w S hS 0
    have hcall := hio.2 ⟨w, fun b => b < w.heap.size, 0, noB, w.heap.size⟩ S noB noF #[x0, x1] hI rfl (fun i x t hx ht => by
      match i, hx, ht with
      | 0, hx, ht => exact hrep 0 x t hx ht
      | 1, hx, ht => exact hrep 1 x t hx ht
      | i + 2, hx, _ => simp at hx)
    have hwalk := valid_walk w x0 x1 ino k bb (Calls.mono hcall fun e w1 ⟨x, S', β', φ', he, hJ, hx, _⟩ => by
      generalize ht : T.mref lm = t at hx
      cases hx with
      | mref _ _ s b hb hp =>
        cases ht
        obtain ⟨_, _, cs', h3, h4⟩ := hJ.box lm b hb
        obtain ⟨ee, clock, q1, q2, q3⟩ := h4.2 hp
        have hcs : cs' = es := by
          have : (outs.map decB)[lm]? = some (some cs') := h3
          rw [List.getElem?_map] at this
          obtain ⟨o, ho, ho2⟩ := Option.map_eq_some_iff.1 this
          have hd : outs.getD lm .undef = o := by simp [List.getD_eq_getElem?_getD, ho]
          rw [hd, ho2] at hes
          exact Option.some.inj hes
        subst hcs
        obtain ⟨f1, f2⟩ := findV_spec q2 hbb
        exact ⟨b, ee, clock, he, ⟨⟨hJ.below.os, hJ.below.tape, hJ.below.output, hJ.below.size, fun j hj => hJ.below.block j hj⟩, q1, q3⟩, f1, f2⟩
      | _ => cases ht)
    refine Calls.mono hwalk fun e w' ⟨he, hb⟩ => ⟨_, he, hb, S, noF, fun b o h => .inl h, fun b o h => Nat.lt_of_lt_of_le (hS b o h) hb.size, .v .., (fun k x e hk => by cases hk), (fun k k' x x' e e' hk => by cases hk)⟩
  · simp at he
end Go.Vi.Zz
end
