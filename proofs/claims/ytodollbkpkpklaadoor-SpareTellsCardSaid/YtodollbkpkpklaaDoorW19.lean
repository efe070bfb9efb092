/-
  A claim's own text, joined by a small program out of: S1, S2, S3, S4, S5, S6, S7, S8, S9, S10.
-/
import Derived.Test.YtodollbkpkpklaaDoorW14
import Derived.Test.YtodollbkpkpklaaDoorW13
set_option linter.unusedVariables false
set_option linter.unusedSimpArgs false
section
/-
  What the small functions of the library give: IndexFunc, ContainsFunc.
-/
set_option maxRecDepth 100000
set_option linter.unusedSimpArgs false
set_option linter.unusedVariables false
namespace Go.Vi.Sp
open Go Go.Vi Go.Vi.Dd

def idxT (o : Option Nat) : Int := match o with | some i => i | none => -1

/-- A function value without references to boxes. -/
structure FnT (g : T) (f : FuncId) (caps : List T) : Prop where
  callee : calleeOf g = some (f, [], caps)
  strip : ∀ d, g.strip d = g
  noRef : ∀ s, g.noRef s = true
  close : ∀ bx, caps.mapM (close bx 6) = some caps
  clo : ∀ bx, Go.Vi.close bx 6 g = some g
  hasRef : hasRefL caps = false
  hasRef' : g.hasRef = false
  lt : f < ioBase

theorem FnT.func (f : FuncId) (hf : f < ioBase) : FnT (.v (.func (.func f) #[] #[])) f [] :=
  ⟨rfl, by simp, by simp, by simp, by simp, rfl, by simp, hf⟩
theorem FnT.ofClo (f : FuncId) (hf : f < ioBase) (caps : List T) (h1 : ∀ d, stripL d caps = caps) (h2 : ∀ s, noRefL s caps = true) (h3 : ∀ bx, caps.mapM (Go.Vi.close bx 6) = some caps) (h3' : ∀ bx, caps.mapM (Go.Vi.close bx 5) = some caps) (h4 : hasRefL caps = false) : FnT (.clo (.func f) [] caps) f caps :=
  ⟨rfl, by simp [h1], by simp [h2], h3, by simp [h3'], h4, by simp [h4], hf⟩

theorem findIdx_none {α : Type} (p : α → Bool) (l : List α) (h : ∀ j (hj : j < l.length), p l[j] = false) : l.findIdx? p = none := by
  rw [List.findIdx?_eq_none_iff]
  intro x hx
  obtain ⟨j, hj, rfl⟩ := List.mem_iff_getElem.1 hx
  exact h j hj
theorem findIdx_some {α : Type} (p : α → Bool) (l : List α) (k : Nat) (hk : k < l.length) (h : ∀ j (hj : j < l.length), j < k → p l[j] = false) (hp : p l[k] = true) : l.findIdx? p = some k := by
  rw [List.findIdx?_eq_some_iff_getElem]
  exact ⟨hk, hp, fun j hj => by simp [h j (by omega) hj]⟩

theorem indexFunc_Node {g : T} {f : FuncId} {caps : List T} (hg : FnT g f caps) (p : Node → Bool) (l : List Node) (hl : l.length ≤ 9223372036854775807)
    (hp : ∀ n ∈ l, Ev E f (.agg (eN n) :: caps) (.v (.bool (p n)))) : Ev E F_slices_IndexFunc_Node [sl eN l, g] (.v (.int .i64 (idxT (l.findIdx? p)))) := by
  refine ev_of (fn := c_slices_IndexFunc_Node) rfl (by decide) rfl rfl rfl ?_
  simp [c_slices_IndexFunc_Node]
  refine m_loop l.length (fun k σ => ∃ a b c d, σ = ⟨[], [sl eN l, g, d, a, .v (.int .i64 l.length), .v (.int .i64 k), b, c], []⟩ ∧ ∀ j (h : j < l.length), j < k → p l[j] = false) (by simp) ?_
  rintro k σ hk ⟨a, b, c, d, rfl, hno⟩
  by_cases hlt : k < l.length
  · have hw : IntKind.i64.wrap ((k : Int) + 1) = (k : Int) + 1 := wrap_ok (by omega) (by omega)
    have hc := callR_some (hp _ (List.getElem_mem hlt))
    simp [hlt, hw, hg.callee, hg.close, hg.lt, hg.strip, hg.hasRef, hc]
    cases hpk : p l[k]
    · simp [hw]
      intro j hj hjk
      rcases Nat.lt_succ_iff_lt_or_eq.1 hjk with h | h
      · exact hno j hj h
      · subst h; exact hpk
    · simp [findIdx_some p l k hlt hno hpk, idxT]
  · have : k = l.length := by omega
    subst this
    simp [findIdx_none p l fun j hj => hno j hj hj, idxT]

theorem containsFunc_Node {g : T} {f : FuncId} {caps : List T} (hg : FnT g f caps) (p : Node → Bool) (l : List Node) (hl : l.length ≤ 9223372036854775807)
    (hp : ∀ n ∈ l, Ev E f (.agg (eN n) :: caps) (.v (.bool (p n)))) : Ev E F_slices_ContainsFunc_Node [sl eN l, g] (.v (.bool (l.any p))) := by
  refine ev_of (fn := c_slices_ContainsFunc_Node) rfl (by decide) rfl rfl rfl ?_
  simp [c_slices_ContainsFunc_Node, hg.clo, hg.hasRef', callR_some (indexFunc_Node hg p l hl hp)]
  cases h : l.findIdx? p with
  | none =>
    rw [List.findIdx?_eq_none_iff] at h
    simp only [idxT]
    rw [eq_comm]
    simpa using h
  | some i =>
    rw [List.findIdx?_eq_some_iff_getElem] at h
    obtain ⟨h1, h2, _⟩ := h
    simp only [idxT]
    have : l.any p = true := List.any_eq_true.2 ⟨l[i], List.getElem_mem h1, h2⟩
    rw [this]
    simp

theorem indexFunc_Entry {g : T} {f : FuncId} {caps : List T} (hg : FnT g f caps) (p : Entry → Bool) (l : List Entry) (hl : l.length ≤ 9223372036854775807)
    (hp : ∀ n ∈ l, Ev E f (.agg (eE n) :: caps) (.v (.bool (p n)))) : Ev E F_slices_IndexFunc_Entry [sl eE l, g] (.v (.int .i64 (idxT (l.findIdx? p)))) := by
  refine ev_of (fn := c_slices_IndexFunc_Entry) rfl (by decide) rfl rfl rfl ?_
  simp [c_slices_IndexFunc_Entry]
  refine m_loop l.length (fun k σ => ∃ a b c d, σ = ⟨[], [sl eE l, g, d, a, .v (.int .i64 l.length), .v (.int .i64 k), b, c], []⟩ ∧ ∀ j (h : j < l.length), j < k → p l[j] = false) (by simp) ?_
  rintro k σ hk ⟨a, b, c, d, rfl, hno⟩
  by_cases hlt : k < l.length
  · have hw : IntKind.i64.wrap ((k : Int) + 1) = (k : Int) + 1 := wrap_ok (by omega) (by omega)
    have hc := callR_some (hp _ (List.getElem_mem hlt))
    simp [hlt, hw, hg.callee, hg.close, hg.lt, hg.strip, hg.hasRef, hc]
    cases hpk : p l[k]
    · simp [hw]
      intro j hj hjk
      rcases Nat.lt_succ_iff_lt_or_eq.1 hjk with h | h
      · exact hno j hj h
      · subst h; exact hpk
    · simp [findIdx_some p l k hlt hno hpk, idxT]
  · have : k = l.length := by omega
    subst this
    simp [findIdx_none p l fun j hj => hno j hj hj, idxT]

theorem containsFunc_Entry {g : T} {f : FuncId} {caps : List T} (hg : FnT g f caps) (p : Entry → Bool) (l : List Entry) (hl : l.length ≤ 9223372036854775807)
    (hp : ∀ n ∈ l, Ev E f (.agg (eE n) :: caps) (.v (.bool (p n)))) : Ev E F_slices_ContainsFunc_Entry [sl eE l, g] (.v (.bool (l.any p))) := by
  refine ev_of (fn := c_slices_ContainsFunc_Entry) rfl (by decide) rfl rfl rfl ?_
  simp [c_slices_ContainsFunc_Entry, hg.clo, hg.hasRef', callR_some (indexFunc_Entry hg p l hl hp)]
  cases h : l.findIdx? p with
  | none =>
    rw [List.findIdx?_eq_none_iff] at h
    simp only [idxT]
    rw [eq_comm]
    simpa using h
  | some i =>
    rw [List.findIdx?_eq_some_iff_getElem] at h
    obtain ⟨h1, h2, _⟩ := h
    simp only [idxT]
    have : l.any p = true := List.any_eq_true.2 ⟨l[i], List.getElem_mem h1, h2⟩
    rw [this]
    simp

end Go.Vi.Sp
end
section
/-
  Names, nodes, layers: which are asked.
-/
set_option maxRecDepth 100000
set_option linter.unusedSimpArgs false
set_option linter.unusedVariables false
namespace Go.Vi.Sp
open Go Go.Vi Go.Vi.Dd

def letterI (c : Int) : Bool := decide (97 ≤ c) && decide (c ≤ 122) || decide (48 ≤ c) && decide (c ≤ 57) || c == 46 || c == 95 || c == 45

theorem letter_ev (c : Int) : Ev E F_ref03_letter [.v (.int .u8 c)] (.v (.bool (letterI c))) := by
  refine ev_of (fn := c_ref03_letter) rfl (by decide) rfl rfl rfl ?_
  unfold letterI
  simp [c_ref03_letter]
  repeat' (refine g_split (fun h => ?_) (fun h => ?_) <;> simp [*])

def letters (s : ByteArray) : Bool := s.data.toList.all fun b => letterI b.toNat
def rightName (s : ByteArray) : Bool := !(decide ((s.size : Int) < 1) || decide (12 < (s.size : Int)) || (s.toList == (⟨#[46]⟩ : ByteArray).toList) || (s.toList == (⟨#[46, 46]⟩ : ByteArray).toList)) && letters s

theorem letters_iff (s : ByteArray) : letters s = true ↔ ∀ j (h : j < s.data.size), letterI (s.data[j]).toNat = true := by
  unfold letters
  rw [List.all_eq_true]
  constructor
  · intro h j hj
    exact h _ (by simp)
  · intro h b hb
    obtain ⟨j, hj, rfl⟩ := List.mem_iff_getElem.1 hb
    simpa using h j (by simpa using hj)

theorem right_ev (s : ByteArray) : Ev E F_ref03_Right [.v (.string s)] (.v (.bool (rightName s))) := by
  refine ev_of (fn := c_ref03_Right) rfl (by decide) rfl rfl rfl ?_
  simp [c_ref03_Right]
  repeat' (first | refine g_split (fun h => ?_) (fun h => ?_) | refine condM_split (fun h => ?_) (fun h => ?_)) <;> simp [*]
  all_goals try (simp [rightName, *]; done)
  have e1 : decide ((s.size : Int) < 1) = false := by assumption
  have e2 : decide (12 < (s.size : Int)) = false := by assumption
  have e3 : (s.toList == [46]) = false := by assumption
  have e4 : (s.toList == [46, 46]) = false := by assumption
  have hlet : letters s = rightName s := by simp [rightName, e1, e2, e3, e4]
  have h12 : s.size ≤ 12 := by simp at e2; omega
  refine m_loop s.size (fun k σ => ∃ a b c d, σ = ⟨[], [.v (.string s), d, .v (.int .i64 k), a, b, c], []⟩ ∧ ∀ j (h : j < s.data.size), j < k → letterI (s.data[j]).toNat = true) (by simp) ?_
  rintro k σ hk ⟨a, b, c, d, rfl, hno⟩
  have hsz : s.size = s.data.size := rfl
  by_cases hlt : k < s.size
  · have hw : IntKind.i64.wrap ((k : Int) + 1) = (k : Int) + 1 := wrap_ok (by omega) (by omega)
    have hget : s.data[k]? = some (s.data[k]'(by omega)) := Array.getElem?_eq_getElem (by omega)
    simp [hlt, hw, hget, callR_some (letter_ev _)]
    refine condM_split (fun h => ?_) (fun h => ?_)
    · simp
      have : letters s = false := by
        rw [Bool.eq_false_iff]
        intro hl
        have := (letters_iff s).1 hl k (by omega)
        rw [this] at h
        simp at h
      rw [← hlet, this]
    · simp [hw]
      intro j hj hjk
      rcases Nat.lt_succ_iff_lt_or_eq.1 hjk with h' | h'
      · exact hno j hj h'
      · subst h'; simpa using h
  · have : k = s.size := by omega
    subst this
    have : letters s = true := (letters_iff s).2 fun j hj => hno j hj hj
    simp [← hlet, this]

theorem odd_ev (e : Entry) : Ev E F_plain_odd [.agg (eE e)] (.v (.bool (!rightName e.name))) := by
  refine ev_of (fn := c_plain_odd) rfl (by decide) rfl rfl rfl ?_
  simp [c_plain_odd, callR_some (right_ev _)]

end Go.Vi.Sp
end
section
/-
  Nodes, layers: which are asked.
-/
set_option maxRecDepth 100000
set_option linter.unusedSimpArgs false
set_option linter.unusedVariables false
namespace Go.Vi.Sp
open Go Go.Vi Go.Vi.Dd

structure NodeOK (n : Node) : Prop where
  slots : ∀ i (h : i < n.entries.length), 0 ≤ n.entries[i].slot ∧ n.entries[i].slot < 16 ∧ (0 < i → (n.entries[i - 1]'(by omega)).slot < n.entries[i].slot)
  kind : 0 ≤ n.kind ∧ n.kind ≤ 4
  nlink : -9007199254740992 ≤ n.nlink ∧ n.nlink ≤ 9007199254740992
  has : 0 ≤ n.attr.has ∧ n.attr.has ≤ 31
  data : n.data.length ≤ 300
  entries : n.entries.length ≤ 16
  redirect : n.attr.redirect.size ≤ 40
  names : ∀ e ∈ n.entries, rightName e.name = true
noncomputable def nodeB (n : Node) : Bool := by classical exact decide (NodeOK n)
theorem nodeB_true {n : Node} (h : NodeOK n) : nodeB n = true := by unfold nodeB; simpa using h
theorem nodeB_false {n : Node} (h : ¬ NodeOK n) : nodeB n = false := by unfold nodeB; simpa using h
theorem nodeB_iff (n : Node) : nodeB n = true ↔ NodeOK n := by unfold nodeB; simp

theorem node_ev (n : Node) (hl : n.entries.length ≤ 9223372036854775807) : Ev E F_plain_Node [.agg (eN n)] (.v (.bool (nodeB n))) := by
  refine ev_of (fn := c_plain_Node) rfl (by decide) rfl rfl rfl ?_
  simp [c_plain_Node]
  refine m_loop n.entries.length (fun k σ => ∃ a b c d e f, ∃ o : Option Entry, σ = ⟨[], [a, .ref 0 0, b, c, d, sl eE n.entries, .v (.int .i64 n.entries.length), .v (.int .i64 k), e, f], [some (eN n), none, o.map eE, none]⟩ ∧
    ∀ i (h : i < n.entries.length), i < k → 0 ≤ n.entries[i].slot ∧ n.entries[i].slot < 16 ∧ (0 < i → (n.entries[i - 1]'(by omega)).slot < n.entries[i].slot)) ⟨_, _, _, _, _, _, none, rfl, fun i h h' => by omega⟩ ?_
  rintro k σ hk ⟨a, b, c, d, e, f, o, rfl, hno⟩
  have H := Hd.mk hno
  have Hk := Hd.mk hk
  clear hno hk
  by_cases hlt : k < n.entries.length
  · have hw : IntKind.i64.wrap ((k : Int) + 1) = (k : Int) + 1 := wrap_ok (by omega) (by omega)
    have hgo : (0 ≤ n.entries[k].slot ∧ n.entries[k].slot < 16 ∧ (0 < k → (n.entries[k - 1]'(by omega)).slot < n.entries[k].slot)) → ((∃ x : Option Entry, some (eE n.entries[k]) = Option.map eE x) ∧
      ∀ i (h : i < n.entries.length), i < k + 1 → 0 ≤ n.entries[i].slot ∧ n.entries[i].slot < 16 ∧ (0 < i → (n.entries[i - 1]'(by omega)).slot < n.entries[i].slot)) := fun h => ⟨⟨some _, rfl⟩, fun i hi hik => by
        rcases Nat.lt_succ_iff_lt_or_eq.1 hik with h' | h'
        · exact H.out i hi h'
        · subst h'; exact h⟩
    have hbad : ¬ (0 ≤ n.entries[k].slot ∧ n.entries[k].slot < 16 ∧ (0 < k → (n.entries[k - 1]'(by omega)).slot < n.entries[k].slot)) → nodeB n = false := fun h => nodeB_false fun hn => h (hn.slots k hlt)
    have Hgo := Hd.mk hgo
    have Hbad := Hd.mk hbad
    clear hgo hbad
    by_cases h0 : 0 < k
    · have hw2 : IntKind.i64.wrap ((k : Int) - 1) = (k : Int) - 1 := wrap_ok (by omega) (by omega)
      have hw3 : ((k : Int) - 1).toNat = k - 1 := by omega
      have hw4 : k - 1 < n.entries.length := by omega
      have hw5 : (1 : Int) ≤ k := by omega
      cases o <;> simp [hlt, hw]
      all_goals repeat' (first | refine g_split (fun h => ?_) (fun h => ?_) | refine condM_split (fun h => ?_) (fun h => ?_)) <;> simp [*]
      all_goals first
        | (refine Hgo.out ⟨?_, ?_, ?_⟩ <;> simp_all; done)
        | (refine Hbad.out ?_; simp_all; done)
        | (refine Hbad.out ?_; simp_all; omega)
        | trace_state
    · cases o <;> simp [hlt, hw]
      all_goals repeat' (first | refine g_split (fun h => ?_) (fun h => ?_) | refine condM_split (fun h => ?_) (fun h => ?_)) <;> simp [*]
      all_goals first
        | (refine Hgo.out ⟨?_, ?_, ?_⟩ <;> simp_all; done)
        | (refine Hbad.out ?_; simp_all; done)
        | (refine Hbad.out ?_; simp_all; omega)
        | trace_state
  · have : k = n.entries.length := by have := Hk.out; omega
    subst this
    have hsl : ∀ i (h : i < n.entries.length), 0 ≤ n.entries[i].slot ∧ n.entries[i].slot < 16 ∧ (0 < i → (n.entries[i - 1]'(by omega)).slot < n.entries[i].slot) := fun i h => H.out i h h
    have H2 := Hd.mk hsl
    have Hyes : 0 ≤ n.kind → n.kind ≤ 4 → -9007199254740992 ≤ n.nlink → n.nlink ≤ 9007199254740992 → 0 ≤ n.attr.has → n.attr.has ≤ 31 → (n.data.length : Int) ≤ 300 → (n.entries.length : Int) ≤ 16 → (n.attr.redirect.size : Int) ≤ 40 →
        (n.entries.any fun e => !rightName e.name) = !nodeB n := fun e1 e2 e3 e4 e5 e6 e7 e8 e9 => by
      cases hany : n.entries.any fun e => !rightName e.name
      · rw [nodeB_true ⟨H2.out, ⟨e1, e2⟩, ⟨e3, e4⟩, ⟨e5, e6⟩, by omega, by omega, by omega, fun e he => by
          have := List.any_eq_false.1 hany e he
          simpa using this⟩]
        rfl
      · rw [nodeB_false fun hn => by
          obtain ⟨e, he, h1⟩ := List.any_eq_true.1 hany
          rw [hn.names e he] at h1
          cases h1]
        rfl
    have Hy := Hd.mk Hyes
    clear Hyes
    clear hsl H
    have hodd := callR_some (containsFunc_Entry (FnT.func F_plain_odd (by decide)) (fun e => !rightName e.name) n.entries hl fun e _ => odd_ev e)
    cases o <;> simp
    all_goals repeat' (first | refine g_split (fun h => ?_) (fun h => ?_) | refine condM_split (fun h => ?_) (fun h => ?_)) <;> simp [*]
    all_goals try
      (refine Hy.out ?_ ?_ ?_ ?_ ?_ ?_ ?_ ?_ ?_ <;> exact of_decide_eq_true (by assumption))
    all_goals
      refine nodeB_false fun hn => ?_
      have e1 := hn.kind
      have e2 := hn.nlink
      have e3 := hn.has
      have e4 := hn.data
      have e5 := hn.entries
      have e6 := hn.redirect
      have hf := of_decide_eq_false h
      omega

end Go.Vi.Sp
end
section
/-
  Layers that are asked; the least inode that is free; nodes that are the same.
-/
set_option maxRecDepth 100000
set_option linter.unusedSimpArgs false
set_option linter.unusedVariables false
namespace Go.Vi.Sp
open Go Go.Vi Go.Vi.Dd

/-- Nodes whose entries may be counted. -/
def Few (l : List Node) : Prop := l.length ≤ 9223372036854775807 ∧ ∀ n ∈ l, n.entries.length ≤ 9223372036854775807 ∧ n.data.length ≤ 9223372036854775807

theorem branch1_ev (n : Node) (hl : n.entries.length ≤ 9223372036854775807) : Ev E F_plain_Branch_1 [.agg (eN n)] (.v (.bool (!nodeB n))) := by
  refine ev_of (fn := c_plain_Branch_1) rfl (by decide) rfl rfl rfl ?_
  simp [c_plain_Branch_1, callR_some (node_ev _ hl)]

noncomputable def branchB (l : List Node) (many : Int) : Bool := decide ((l.length : Int) ≤ many) && l.all nodeB

theorem branch_ev (l : List Node) (many : Int) (hl : Few l) : Ev E F_plain_Branch [.agg [sl eN l], .v (.int .i64 many)] (.v (.bool (branchB l many))) := by
  refine ev_of (fn := c_plain_Branch) rfl (by decide) rfl rfl rfl ?_
  have hc := callR_some (containsFunc_Node (FnT.func F_plain_Branch_1 (by decide)) (fun n => !nodeB n) l hl.1 fun n hn => branch1_ev n (hl.2 n hn).1)
  simp [c_plain_Branch, hc]
  have hall : l.all nodeB = !(l.any fun n => !nodeB n) := by
    rw [List.any_eq_not_all_not]; simp
  repeat' (first | refine g_split (fun h => ?_) (fun h => ?_) | refine condM_split (fun h => ?_) (fun h => ?_)) <;> simp [*, branchB]

/-- The least inode that is free. -/
def freeI (l : List Node) : Int := match (l.drop 3).findIdx? (fun n => n.kind == 0) with | some i => (i : Int) + 4 | none => 0

theorem freeI_some (l : List Node) (k : Nat) (hk : k < l.length) (h3 : 3 ≤ k) (h : ∀ j (hj : j < l.length), 3 ≤ j → j < k → l[j].kind ≠ 0) (h0 : l[k].kind = 0) : freeI l = (k : Int) + 1 := by
  have : (l.drop 3).findIdx? (fun n => n.kind == 0) = some (k - 3) := by
    refine findIdx_some _ _ (k - 3) (by simp; omega) (fun j hj hjk => ?_) ?_
    · simp only [List.getElem_drop, beq_eq_false_iff_ne]
      exact h (3 + j) (by simp at hj; omega) (by omega) (by omega)
    · simp only [List.getElem_drop, beq_iff_eq]
      have e : 3 + (k - 3) = k := by omega
      simp only [e]; exact h0
  unfold freeI
  rw [this]
  simp only
  omega
theorem freeI_none (l : List Node) (h : ∀ j (hj : j < l.length), 3 ≤ j → l[j].kind ≠ 0) : freeI l = 0 := by
  have : (l.drop 3).findIdx? (fun n => n.kind == 0) = none := by
    refine findIdx_none _ _ fun j hj => ?_
    simp only [List.getElem_drop, beq_eq_false_iff_ne]
    exact h (3 + j) (by simp at hj; omega) (by omega)
  unfold freeI
  rw [this]

theorem inode_ev (l : List Node) (hl : l.length ≤ 9223372036854775807) : Ev E F_spare_Inode [.agg [sl eN l]] (.v (.int .i64 (freeI l))) := by
  refine ev_of (fn := c_spare_Inode) rfl (by decide) rfl rfl rfl ?_
  simp [c_spare_Inode]
  refine m_loop l.length (fun k σ => ∃ a b c d e f g, ∃ o : Option Node, σ = ⟨[], [a, b, c, d, e, sl eN l, .v (.int .i64 l.length), .v (.int .i64 k), f, g], [some [sl eN l], none, o.map eN, none]⟩ ∧
    ∀ j (h : j < l.length), 3 ≤ j → j < k → l[j].kind ≠ 0) ⟨_, _, _, _, _, _, _, none, rfl, fun j h h3 hk => by omega⟩ ?_
  rintro k σ hk ⟨a, b, c, d, e, f, g, o, rfl, hno⟩
  have H := Hd.mk hno
  have Hk := Hd.mk hk
  clear hno hk
  by_cases hlt : k < l.length
  · have hw : IntKind.i64.wrap ((k : Int) + 1) = (k : Int) + 1 := wrap_ok (by omega) (by omega)
    have Hgo : Hd ((3 ≤ k → l[k].kind ≠ 0) → ((∃ x : Option Node, some (eN l[k]) = Option.map eN x) ∧ ∀ j (h : j < l.length), 3 ≤ j → j < k + 1 → l[j].kind ≠ 0)) := ⟨fun h => ⟨⟨some _, rfl⟩, fun j hj h3 hjk => by
      rcases Nat.lt_succ_iff_lt_or_eq.1 hjk with h' | h'
      · exact H.out j hj h3 h'
      · subst h'; exact h h3⟩⟩
    cases o <;> simp [hlt, hw]
    all_goals repeat' (first | refine g_split (fun h => ?_) (fun h => ?_) | refine condM_split (fun h => ?_) (fun h => ?_)) <;> simp [*]
    all_goals first
      | (rw [freeI_some l k hlt (by have := of_decide_eq_true ‹decide ((3 : Int) ≤ ↑k) = true›; omega) H.out (by simpa using h)]; done)
      | exact Hgo.out fun _ => by simpa using h
      | exact Hgo.out fun h3 => by have := of_decide_eq_false h; omega
  · have : k = l.length := by have := Hk.out; omega
    subst this
    have := freeI_none l fun j hj h3 => H.out j hj h3 hj
    cases o <;> simp [this]

theorem rinode_ev (l : List Node) (hl : l.length ≤ 4611686018427387904) : Ev E F_ref46_Inode [.agg [sl eN l]] (.v (.int .i64 (freeI l))) := by
  refine ev_of (fn := c_ref46_Inode) rfl (by decide) rfl rfl rfl ?_
  simp [c_ref46_Inode]
  refine m_loop l.length (fun k σ => ∃ a b c d, σ = ⟨[], [a, .ref 0 0, b, .v (.int .i64 ((k : Int) + 4)), c, d], [some [sl eN l], none]⟩ ∧
    ∀ j (h : j < l.length), 3 ≤ j → j < k + 3 → l[j].kind ≠ 0) ⟨_, _, _, _, rfl, fun j h h3 hk => by omega⟩ ?_
  rintro k σ hk ⟨a, b, c, d, rfl, hno⟩
  have H := Hd.mk hno
  have Hk := Hd.mk hk
  clear hno hk
  by_cases hlt : k + 4 ≤ l.length
  · have h1 : (k : Int) + 4 ≤ l.length := by omega
    have hw : IntKind.i64.wrap ((k : Int) + 4 + 1) = (k : Int) + 1 + 4 := by rw [wrap_ok (by omega) (by omega)]; omega
    have hw2 : IntKind.i64.wrap ((k : Int) + 4 - 1) = (k : Int) + 3 := by rw [wrap_ok (by omega) (by omega)]; omega
    have hp : (0 : Int) ≤ (k : Int) + 3 := by omega
    have ht : ((k : Int) + 3).toNat = k + 3 := by omega
    have hlt3 : k + 3 < l.length := by omega
    have hkl : k < l.length := by omega
    simp [h1, hw, hw2, hp, ht, hlt3]
    refine condM_split (fun h => ?_) (fun h => ?_)
    · simp [freeI_some l (k + 3) hlt3 (by omega) H.out (by simpa using h)]
      omega
    · simp [hkl, hw]
      intro j hj h3 hjk
      rcases Nat.lt_succ_iff_lt_or_eq.1 (show j < k + 3 + 1 by omega) with h' | h'
      · exact H.out j hj h3 h'
      · subst h'; simpa using h
  · have h1 : ¬ (k : Int) + 4 ≤ l.length := by omega
    simp [h1, freeI_none l fun j hj h3 => H.out j hj h3 (by omega)]

theorem bytesSame_ev (l : List UInt8) (hl : l.length ≤ 9223372036854775807) : Ev E F_ref01_Same [sl eB l, sl eB l] (.v (.bool true)) := by
  refine ev_of (fn := c_ref01_Same) rfl (by decide) rfl rfl rfl ?_
  simp [c_ref01_Same]
  refine m_loop l.length (fun k σ => ∃ a b c d, σ = ⟨[], [sl eB l, sl eB l, a, .v (.int .i64 k), b, c, d], []⟩) ⟨_, _, _, _, rfl⟩ ?_
  rintro k σ hk ⟨a, b, c, d, rfl⟩
  by_cases hlt : k < l.length
  · have hw : IntKind.i64.wrap ((k : Int) + 1) = (k : Int) + 1 := wrap_ok (by omega) (by omega)
    simp [hlt, hw]
  · simp [hlt]

theorem entriesSame_ev (l : List Entry) (hl : l.length ≤ 9223372036854775807) : Ev E F_ref08_Same [sl eE l, sl eE l] (.v (.bool true)) := by
  refine ev_of (fn := c_ref08_Same) rfl (by decide) rfl rfl rfl ?_
  simp [c_ref08_Same]
  refine m_loop l.length (fun k σ => ∃ a b c d, σ = ⟨[], [sl eE l, sl eE l, a, .v (.int .i64 k), b, c, d], []⟩) ⟨_, _, _, _, rfl⟩ ?_
  rintro k σ hk ⟨a, b, c, d, rfl⟩
  by_cases hlt : k < l.length
  · have hw : IntKind.i64.wrap ((k : Int) + 1) = (k : Int) + 1 := wrap_ok (by omega) (by omega)
    simp [hlt, hw]
  · simp [hlt]

theorem nodeSame_ev (n : Node) (hd : n.data.length ≤ 9223372036854775807) (he : n.entries.length ≤ 9223372036854775807) : Ev E F_ref12_SameNode [.agg (eN n), .agg (eN n)] (.v (.bool true)) := by
  refine ev_of (fn := c_ref12_SameNode) rfl (by decide) rfl rfl rfl ?_
  simp [c_ref12_SameNode, callR_some (bytesSame_ev _ hd), callR_some (entriesSame_ev _ he)]

end Go.Vi.Sp
end
section
/-
  The reference's Put and Drop.
-/
set_option maxRecDepth 100000
set_option linter.unusedSimpArgs false
set_option linter.unusedVariables false
namespace Go.Vi.Sp
open Go Go.Vi Go.Vi.Dd

@[simp] theorem strip_own (d k : Nat) (e : TypeId) (n : Nat) (cs : List T) : (T.sl (.own k e) n cs).strip d = .sl (if hit d k then .any else .own k e) n cs := by simp only [T.strip]
@[simp] theorem hasRef_own (k : Nat) (e : TypeId) (n : Nat) (cs : List T) : (T.sl (.own k e) n cs).hasRef = false := by simp only [T.hasRef]

def eBl (b : Bool) : List T := [.v (.bool b)]
/-- Which of the sixteen slots some entry has. -/
def bools (l : List Entry) : List Bool := (List.range 16).map fun j : Nat => l.any fun e => e.slot == (j : Int)
/-- The least slot that no entry has; -1, if there is none. -/
def slotI (l : List Entry) : Int := idxT ((bools l).findIdx? (· == false))

theorem bools_get (l : List Entry) (k : Nat) (hk : k < 16) : (bools l)[k]'(by simpa [bools] using hk) = l.any fun e => e.slot == (k : Int) := by simp [bools]
theorem bools_len (l : List Entry) : (bools l).length = 16 := by simp [bools]
theorem slotI_some (l : List Entry) (k : Nat) (hk : k < 16) (h : ∀ j, j < k → (l.any fun e => e.slot == (j : Int)) = true) (h0 : (l.any fun e => e.slot == (k : Int)) = false) : slotI l = k := by
  unfold slotI
  rw [findIdx_some _ _ k (by rw [bools_len]; exact hk) (fun j hj hjk => by rw [bools_len] at hj; rw [bools_get l j hj, h j hjk]; rfl) (by rw [bools_get l k hk, h0]; rfl)]
  rfl
theorem slotI_none (l : List Entry) (h : ∀ j : Nat, j < 16 → (l.any fun e => e.slot == (j : Int)) = true) : slotI l = -1 := by
  unfold slotI
  rw [findIdx_none _ _ fun j hj => by rw [bools_len] at hj; rw [bools_get l j hj, h j hj]; rfl]
  rfl

theorem bools0 : (bools []).flatMap eBl = List.replicate 16 (T.v (.bool false)) := rfl
attribute [irreducible] bools
theorem take_any_succ {α : Type} (p : α → Bool) (l : List α) (k : Nat) (hk : k < l.length) : (l.take (k + 1)).any p = ((l.take k).any p || p l[k]) := by
  rw [List.take_succ_eq_append_getElem hk, List.any_append]; simp

theorem slot_ev (n : Node) (hl : n.entries.length ≤ 9223372036854775807) : Ev E F_ref46_slot [.agg (eN n)] (.v (.int .i64 (slotI n.entries))) := by
  refine ev_of (fn := c_ref46_slot) rfl (by decide) rfl rfl rfl ?_
  simp [c_ref46_slot]
  refine m_loop 16 (fun k σ => ∃ a b c d e f g, σ = ⟨[], [a, .ref 0 0, b, .v (.int .i64 k), c, d, e, f, g], [some (eN n), none]⟩ ∧ ∀ j, j < k → (n.entries.any fun e => e.slot == (j : Int)) = true) ⟨_, _, _, _, _, _, _, rfl, fun j h => by omega⟩ ?_
  rintro k σ hk ⟨a, b, c, d, e, f, g, rfl, hno⟩
  have H := Hd.mk hno
  have Hk := Hd.mk hk
  clear hno hk
  by_cases hlt : k < 16
  · have h1 : (k : Int) < 16 := by omega
    have hw : IntKind.i64.wrap ((k : Int) + 1) = (k : Int) + 1 := wrap_ok (by omega) (by omega)
    simp [h1]
    refine m_loop n.entries.length (fun i σ => ∃ a b c d e, σ = ⟨[], [a, .ref 0 0, b, .v (.int .i64 k), .v (.bool (!((n.entries.take i).any fun e => e.slot == (k : Int)))), .v (.int .i64 i), c, d, e], [some (eN n), none]⟩) ⟨_, _, _, _, _, by simp; exact ⟨rfl, rfl, rfl, rfl, rfl⟩⟩ ?_
    rintro i σ hi ⟨a, b, c, d, e, rfl⟩
    by_cases hil : i < n.entries.length
    · have hwi : IntKind.i64.wrap ((i : Int) + 1) = (i : Int) + 1 := wrap_ok (by omega) (by omega)
      have hta := take_any_succ (fun e => e.slot == (k : Int)) n.entries i hil
      cases hb : (n.entries.take i).any fun e => e.slot == (k : Int)
      · rw [hb] at hta
        simp [hil, hwi, hta, hb]
        rfl
      · rw [hb] at hta
        simp [hil, hwi, hta, hb]
    · have : i = n.entries.length := by omega
      subst this
      simp
      refine condM_split (fun h => ?_) (fun h => ?_)
      · simp [slotI_some n.entries k hlt H.out (by simpa using h)]
      · simp [hw, hlt]
        intro j hj
        rcases Nat.lt_succ_iff_lt_or_eq.1 hj with h' | h'
        · simpa using H.out j h'
        · subst h'; simpa using h
  · have : k = 16 := by have := Hk.out; omega
    subst this
    simp [slotI_none n.entries H.out]

/-- A slice that was made by appending; nil where nothing was. -/
def slO (k : Nat) (l : List Entry) : T := if l = [] then .sl .nil 0 [] else .sl (.own k 44) l.length (l.flatMap eE)
@[simp] theorem slO_nil (k) : slO k [] = .sl .nil 0 [] := rfl
theorem slO_ne (k) {l : List Entry} (h : l ≠ []) : slO k l = .sl (.own k 44) l.length (l.flatMap eE) := by simp [slO, h]
@[simp] theorem slO_one (k l) : (slO k l).one = true := by unfold slO; split <;> rfl
@[simp] theorem slO_cellsV (k l) : cellsV (slO k l) = [slO k l] := by unfold slO; split <;> rfl
@[simp] theorem slO_cellsD (k l) : cellsD (slO k l) = true := by unfold slO; split <;> rfl
@[simp] theorem slO_hasRef (k l) : (slO k l).hasRef = false := by unfold slO; split <;> simp
theorem slO_fams (k l) : (slO k l).fams = if l = [] then [] else [k] := by unfold slO; split <;> simp
@[simp] theorem slO_close (bx j k l) : close bx (j + 1) (slO k l) = some (sl eE l) := by
  unfold slO
  split
  · rename_i h; subst h; simp [sl]
  · simp [sl]
theorem slO_snoc (k) (l : List Entry) (e : Entry) : slO k (l ++ [e]) = .sl (.own k 44) (l.length + 1) (l.flatMap eE ++ eE e) := by simp [slO]
@[simp] theorem slO_strip_eq (k l) : (slO k l).strip (2 * k + 1) = if l = [] then .sl .nil 0 [] else .sl .any l.length (l.flatMap eE) := by
  unfold slO
  split
  · simp
  · have : hit (2 * k + 1) k = true := by simp [hit]; omega
    simp [this]
/-- A node with other entries. -/
def eNt (n : Node) (t : T) : List T := [.v (.int .i64 n.kind), .v (.int .i64 n.imp), .v (.int .i64 n.nlink), .v (.int .i64 n.gen), sl eB n.data, t,
  .v (.int .i64 n.attr.has), .v (.int .i64 n.attr.opq), .v (.string n.attr.redirect), .v (.int .i64 n.attr.oLayer), .v (.int .i64 n.attr.oIno), .v (.int .i64 n.attr.oGen), .v (.int .i64 n.attr.shown)]
theorem setE (n : Node) (t : T) : setCells (eN n) 5 [t] = eNt n t := rfl
theorem eNt_all (n : Node) (t : T) : one? true 13 (eNt n t) 0 = some (.agg (eNt n t)) := rfl
theorem eNt_len (n : Node) (t : T) : (eNt n t).length = 13 := rfl
theorem eNt_self (n : Node) : eNt n (sl eE n.entries) = eN n := rfl
theorem eNt_ent (n : Node) (l : List Entry) : eNt n (sl eE l) = eN { n with entries := l } := rfl
@[simp] theorem eNt_one (n : Node) (t : T) : oneL (eNt n t) = t.one := by simp [eNt]
attribute [simp] setE eNt_all eNt_len

@[simp] theorem eNt_hasRef (n : Node) (t : T) : hasRefL (eNt n t) = t.hasRef := by simp [eNt]
@[simp] theorem eNt_fams (n : Node) (t : T) : famsL (eNt n t) = t.fams := by simp [eNt]
@[simp] theorem eNt_remap (ρ η) (n : Node) (t : T) : remapL ρ η (eNt n t) = eNt n (t.remap ρ η) := by simp [eNt]
@[simp] theorem eNt_import (d) (n : Node) (t : T) : importL d (eNt n t) = eNt n (t.import d) := by simp [eNt]
@[simp] theorem eNt_strip (d) (n : Node) (t : T) : stripL d (eNt n t) = eNt n (t.strip d) := by simp [eNt]
theorem slO_remap (k l) : (slO k l).remap (fun _ => none) (fun x => List.idxOf? x (slO k l).fams) = slO 0 l := by
  unfold slO
  split
  · simp
  · simp [List.idxOf?]
attribute [simp] slO_remap
@[simp] theorem slO_nodup (k l) : (slO k l).fams.Nodup := by rw [slO_fams]; split <;> simp
def keepE (name : ByteArray) (e : Entry) : Bool := !(e.name.toList == name.toList)

theorem rdrop_ev (n : Node) (name : ByteArray) (hl : n.entries.length ≤ 16) : Ev E F_ref46_Drop [.agg (eN n), .v (.string name)] (.agg (eNt n (slO 0 (n.entries.filter (keepE name))))) := by
  refine ev_of (fn := c_ref46_Drop) rfl (by decide) rfl rfl rfl ?_
  simp [c_ref46_Drop]
  refine m_loop n.entries.length (fun k σ => ∃ a c d, σ = ⟨[], [a, .v (.string name), .ref 0 0, .ref 2 0, slO (8 * 29) ((n.entries.take k).filter (keepE name)), .v (.int .i64 k), c, d],
      [some (eN n), none, some [T.v (.int .i64 0), T.v (.int .i64 0), T.v (.int .i64 0), T.v (.int .i64 0), T.sl .nil 0 [], T.sl .nil 0 [], T.v (.int .i64 0), T.v (.int .i64 0), T.v (.string ⟨#[]⟩), T.v (.int .i64 0), T.v (.int .i64 0), T.v (.int .i64 0), T.v (.int .i64 0)], none]⟩) ⟨_, _, _, by simp; exact ⟨rfl, rfl, rfl⟩⟩ ?_
  rintro k σ hk ⟨a, c, d, rfl⟩
  by_cases hlt : k < n.entries.length
  · have hw : IntKind.i64.wrap ((k : Int) + 1) = (k : Int) + 1 := wrap_ok (by omega) (by omega)
    have hf : (n.entries.take (k + 1)).filter (keepE name) = (n.entries.take k).filter (keepE name) ++ (if keepE name n.entries[k] then [n.entries[k]] else []) := by
      rw [List.take_succ_eq_append_getElem hlt, List.filter_append]
      simp [List.filter_cons]
    simp [hlt, hw]
    refine condM_split (fun h => ?_) (fun h => ?_)
    · have hkeep : keepE name n.entries[k] = true := by simpa [keepE] using h
      rw [hkeep] at hf
      simp only [if_true] at hf
      generalize hacc : (n.entries.take k).filter (keepE name) = acc at hf ⊢
      have hal : acc.length ≤ 16 := by
        rw [← hacc]
        have := List.length_filter_le (keepE name) (n.entries.take k)
        simp at this; omega
      have hm : (acc.flatMap eE).length = acc.length * 3 := flat_len eE_len acc
      have hr1 : (acc.length + 1) * 32 ≤ room := by unfold room; omega
      have hr2 : acc.length + 1 ≤ room := by unfold room; omega
      by_cases hacc0 : acc = []
      · subst hacc0
        simp [hlt, hw, hf, room, slO_ne]
      · simp [hlt, hw, hf, slO_ne _ hacc0, hm, slO_snoc, hr1, hr2, hit]
    · have hkeep : keepE name n.entries[k] = false := by simpa [keepE] using h
      rw [hkeep] at hf
      simp [hw, hf]
  · have : k = n.entries.length := by omega
    subst this
    simp

end Go.Vi.Sp
end
section
/-
  The reference's Put.
-/
set_option maxRecDepth 100000
set_option linter.unusedSimpArgs false
set_option linter.unusedVariables false
namespace Go.Vi.Sp
open Go Go.Vi Go.Vi.Dd

/-- Where an entry goes. -/
def insI (l : List Entry) (at_ : Int) : Nat := (l.findIdx? fun e => decide (at_ < e.slot)).getD l.length
def insAt (l : List Entry) (i : Nat) (e : Entry) : List Entry := l.take i ++ e :: l.drop i
def insE (l : List Entry) (at_ : Int) (e : Entry) : List Entry := insAt l (insI l at_) e
theorem insAt_len (l : List Entry) (i : Nat) (e : Entry) (hi : i ≤ l.length) : (insAt l i e).length = l.length + 1 := by unfold insAt; simp; omega
theorem insI_le (l : List Entry) (at_ : Int) : insI l at_ ≤ l.length := by
  unfold insI
  cases h : l.findIdx? fun e => decide (at_ < e.slot) with
  | none => simp
  | some i =>
    rw [List.findIdx?_eq_some_iff_getElem] at h
    obtain ⟨h1, _⟩ := h
    simp; omega
theorem insI_lt (l : List Entry) (at_ : Int) (k : Nat) (hk : k < insI l at_) (hl : k < l.length) : l[k].slot ≤ at_ := by
  unfold insI at hk
  cases h : l.findIdx? fun e => decide (at_ < e.slot) with
  | none =>
    rw [List.findIdx?_eq_none_iff] at h
    have := h _ (List.getElem_mem hl)
    simpa using this
  | some i =>
    rw [h] at hk
    rw [List.findIdx?_eq_some_iff_getElem] at h
    obtain ⟨h1, _, h3⟩ := h
    have := h3 k (by simpa using hk)
    simpa using this
theorem insI_eq (l : List Entry) (at_ : Int) (hl : insI l at_ < l.length) : at_ < (l[insI l at_]).slot := by
  cases h : l.findIdx? fun e => decide (at_ < e.slot) with
  | none =>
    have : insI l at_ = l.length := by unfold insI; rw [h]; rfl
    omega
  | some i =>
    have e : insI l at_ = i := by unfold insI; rw [h]; rfl
    rw [List.findIdx?_eq_some_iff_getElem] at h
    obtain ⟨h1, h2, _⟩ := h
    simp only [e]
    simpa using h2

/-- What has been come to behind k rounds. -/
def accE (l : List Entry) (i : Nat) (e : Entry) (k : Nat) : List Entry := if k ≤ i then l.take k else l.take i ++ e :: (l.drop i).take (k - i)
theorem accE_lt (l : List Entry) (i : Nat) (e : Entry) (k : Nat) (hk : k < i) (hl : k < l.length) : accE l i e (k + 1) = accE l i e k ++ [l[k]] := by
  unfold accE
  rw [if_pos (by omega), if_pos (by omega), List.take_succ_eq_append_getElem hl]
theorem accE_eq (l : List Entry) (i : Nat) (e : Entry) (hl : i < l.length) : accE l i e (i + 1) = accE l i e i ++ [e] ++ [l[i]] := by
  unfold accE
  rw [if_neg (by omega), if_pos (by omega), show i + 1 - i = 1 by omega]
  have : (l.drop i).take 1 = [l[i]] := by rw [List.drop_eq_getElem_cons hl]; rfl
  rw [this]; simp
theorem accE_gt (l : List Entry) (i : Nat) (e : Entry) (k : Nat) (hk : i < k) (hl : k < l.length) : accE l i e (k + 1) = accE l i e k ++ [l[k]] := by
  unfold accE
  rw [if_neg (by omega), if_neg (by omega), show k + 1 - i = (k - i) + 1 by omega, List.take_succ_eq_append_getElem (by simp; omega)]
  simp only [List.getElem_drop, show i + (k - i) = k by omega]
  simp
theorem accE_len (l : List Entry) (i : Nat) (e : Entry) (k : Nat) : (accE l i e k).length ≤ l.length + 1 := by
  unfold accE
  split
  · simp; omega
  · simp; omega

theorem slO_snoc2 (k) (l : List Entry) (e f : Entry) : slO k (l ++ [e, f]) = .sl (.own k 44) (l.length + 1 + 1) (l.flatMap eE ++ (eE e ++ eE f)) := by simp [slO]
theorem room_b (n : Nat) (h : n ≤ 18) : (n + 1) * 32 ≤ room ∧ n + 1 ≤ room ∧ (n + 1 + 1) * 32 ≤ room ∧ n + 1 + 1 ≤ room ∧ n * 32 + 32 ≤ room ∧ n * 32 + 32 + 32 ≤ room := by unfold room; omega

set_option maxHeartbeats 1000000 in
theorem rput_ev (n : Node) (ino : Int) (name : ByteArray) (hl : n.entries.length ≤ 16) :
    Ev E F_ref46_Put [.agg (eN n), .v (.int .i64 ino), .v (.string name)]
      (if slotI n.entries < 0 then .tup [.agg (eN n), .v (.bool false)] else .tup [.agg (eNt n (slO 0 (insE n.entries (slotI n.entries) ⟨slotI n.entries, ino, name⟩))), .v (.bool true)]) := by
  refine ev_of (fn := c_ref46_Put) rfl (by decide) rfl rfl rfl ?_
  have hs := callR_some (slot_ev n (by omega))
  generalize slotI n.entries = at_ at hs
  simp [c_ref46_Put, hs]
  by_cases hat : at_ < 0
  · simp [hat]
  · simp [hat]
    obtain ⟨i, hi⟩ : ∃ i, i = insI n.entries at_ := ⟨_, rfl⟩
    obtain ⟨e, he⟩ : ∃ e : Entry, e = ⟨at_, ino, name⟩ := ⟨_, rfl⟩
    have he' : [T.v (.int .i64 at_), T.v (.int .i64 ino), T.v (.string name)] = eE e := by rw [he]; rfl
    have hil := insI_le n.entries at_
    rw [← hi] at hil
    simp only [he']
    rw [← he]
    refine m_loop n.entries.length (fun k σ => ∃ x0 x1 x2 x5 x11 x12 x13 x14, σ = ⟨[], [x0, x1, x2, .ref 0 0, .ref 2 0, x5, .v (.int .i64 at_), .ref 4 0, slO (8 * 52) (accE n.entries i e k), .v (.bool (decide (i < k))), .v (.int .i64 k), x11, x12, x13, x14],
        [some (eN n), none, some [T.v (.int .i64 0), T.v (.int .i64 0), T.v (.int .i64 0), T.v (.int .i64 0), T.sl .nil 0 [], T.sl .nil 0 [], T.v (.int .i64 0), T.v (.int .i64 0), T.v (.string ⟨#[]⟩), T.v (.int .i64 0), T.v (.int .i64 0), T.v (.int .i64 0), T.v (.int .i64 0)], none, some (eE e), none]⟩) ⟨_, _, _, _, _, _, _, _, by simp [accE]; exact ⟨rfl, rfl, rfl, rfl, rfl, rfl, rfl, rfl⟩⟩ ?_
    rintro k σ hk ⟨x0, x1, x2, x5, x11, x12, x13, x14, rfl⟩
    have hal := accE_len n.entries i e k
    by_cases hlt : k < n.entries.length
    · have hA : (k ≠ i ∧ accE n.entries i e (k + 1) = accE n.entries i e k ++ [n.entries[k]]) ∨ (k = i ∧ accE n.entries i e (k + 1) = accE n.entries i e k ++ [e] ++ [n.entries[k]]) := by
        rcases Nat.lt_trichotomy k i with h | h | h
        · exact .inl ⟨by omega, accE_lt _ _ _ _ h hlt⟩
        · subst h; exact .inr ⟨rfl, accE_eq _ _ _ hlt⟩
        · exact .inl ⟨by omega, accE_gt _ _ _ _ h hlt⟩
      have hslot : k < i → (n.entries[k]).slot ≤ at_ := fun h => insI_lt n.entries at_ k (by omega) hlt
      have hslot2 : k = i → at_ < (n.entries[k]).slot := fun h => by subst h; have := insI_eq n.entries at_ (by omega); simpa only [← hi] using this
      have h18 : (accE n.entries i e k).length ≤ 18 := by omega
      have hwb : -9223372036854775808 ≤ (k : Int) + 1 ∧ (k : Int) + 1 ≤ 9223372036854775807 := by omega
      generalize accE n.entries i e k = acc at hA h18 ⊢
      clear hal
      have hm : (acc.flatMap eE).length = acc.length * 3 := flat_len eE_len acc
      obtain ⟨hr1, hr2, hr3, hr4, hr5, hr6⟩ := room_b acc.length h18
      rcases hA with ⟨hki, hA⟩ | ⟨hki, hA⟩
      · -- nothing is put in here
        rcases Nat.lt_or_gt_of_ne hki with h | h
        · have h1 : ¬ i < k := by omega
          have h2 : ¬ at_ < n.entries[k].slot := by have := hslot h; omega
          have h3 : ¬ i < k + 1 := by omega
          have hw : IntKind.i64.wrap ((k : Int) + 1) = (k : Int) + 1 := wrap_ok hwb.1 hwb.2
          by_cases hacc0 : acc = []
          · subst hacc0
            simp [hlt, hw, hA, h1, h2, h3, room, slO_ne]
          · simp [hlt, hw, hA, h1, h2, h3, slO_ne _ hacc0, hm, slO_snoc, hr1, hr2, hit]
        · have h3 : i < k + 1 := by omega
          have hw : IntKind.i64.wrap ((k : Int) + 1) = (k : Int) + 1 := wrap_ok hwb.1 hwb.2
          by_cases hacc0 : acc = []
          · subst hacc0
            simp [hlt, hw, hA, h, h3, room, slO_ne]
          · simp [hlt, hw, hA, h, h3, slO_ne _ hacc0, hm, slO_snoc, hr1, hr2, hit]
      · have h1 : ¬ i < k := by omega
        have h2 : at_ < n.entries[k].slot := hslot2 hki
        have h3 : i < k + 1 := by omega
        have hw : IntKind.i64.wrap ((k : Int) + 1) = (k : Int) + 1 := wrap_ok hwb.1 hwb.2
        by_cases hacc0 : acc = []
        · subst hacc0
          simp [hlt, hw, hA, h1, h2, h3, room, slO_ne, hit]
        · simp [hlt, hw, hA, h1, h2, h3, slO_ne _ hacc0, hm, slO_snoc, hr1, hr2, hr3, hr4, hr5, hr6, hit, Nat.add_mul, slO_snoc2]
    · have : k = n.entries.length := by omega
      subst this
      have h18 : (accE n.entries i e n.entries.length).length ≤ 18 := by omega
      by_cases hin : i < n.entries.length
      · have hfin : accE n.entries i e n.entries.length = insE n.entries at_ e := by
          unfold accE insE insAt
          have ht : (n.entries.drop i).take (n.entries.length - i) = n.entries.drop i := List.take_of_length_le (by simp)
          rw [if_neg (by omega), ← hi, ht]
        simp [hin, hfin]
      · have hie : i = n.entries.length := by omega
        have hfin : insE n.entries at_ e = accE n.entries i e n.entries.length ++ [e] := by
          unfold accE insE insAt
          rw [if_pos (by omega), ← hi, hie]; simp
        generalize accE n.entries i e n.entries.length = acc at hfin h18 ⊢
        have hm : (acc.flatMap eE).length = acc.length * 3 := flat_len eE_len acc
        obtain ⟨hr1, hr2, hr3, hr4, hr5, hr6⟩ := room_b acc.length h18
        by_cases hacc0 : acc = []
        · subst hacc0
          simp [hin, hfin, room, slO_ne, hit]
        · simp [hin, hfin, slO_ne _ hacc0, hm, slO_snoc, hr1, hr2, hit]

end Go.Vi.Sp
end
section
/-
  Clone, DeleteFunc, and what is handed to them.
-/
set_option maxRecDepth 100000
set_option linter.unusedSimpArgs false
set_option linter.unusedVariables false
namespace Go.Vi.Sp
open Go Go.Vi Go.Vi.Dd

@[simp] theorem eBl_len (b : Bool) : (eBl b).length = 1 := rfl
@[simp] theorem nth_eBl (l : List Bool) (k : Nat) (hk : k < l.length) : nthO (l.flatMap eBl) k = some (.v (.bool l[k])) := by
  have := nthO_flat eBl_len l k 0 hk (by omega)
  rw [Nat.mul_one, Nat.add_zero] at this
  rw [this]; rfl

theorem index_ev (bs : List Bool) (v : Bool) (hl : bs.length ≤ 9223372036854775807) : Ev E F_slices_Index_bool [sl eBl bs, .v (.bool v)] (.v (.int .i64 (idxT (bs.findIdx? (· == v))))) := by
  refine ev_of (fn := c_slices_Index_bool) rfl (by decide) rfl rfl rfl ?_
  simp [c_slices_Index_bool]
  refine m_loop bs.length (fun k σ => ∃ a b c d, σ = ⟨[], [sl eBl bs, .v (.bool v), a, b, .v (.int .i64 bs.length), .v (.int .i64 k), c, d], []⟩ ∧ ∀ j (h : j < bs.length), j < k → (bs[j] == v) = false) (by simp) ?_
  rintro k σ hk ⟨a, b, c, d, rfl, hno⟩
  have H := Hd.mk hno
  have Hk := Hd.mk hk
  clear hno hk
  by_cases hlt : k < bs.length
  · have hw : IntKind.i64.wrap ((k : Int) + 1) = (k : Int) + 1 := wrap_ok (by omega) (by omega)
    have hvc : (v == bs[k]) = (bs[k] == v) := by cases v <;> cases bs[k] <;> rfl
    simp [hlt, hvc]
    cases hb : (bs[k] == v)
    · simp [hw]
      intro j hj hjk
      rcases Nat.lt_succ_iff_lt_or_eq.1 hjk with h | h
      · simpa using H.out j hj h
      · subst h; simpa using hb
    · simp [findIdx_some (· == v) bs k hlt (fun j hj hjk => H.out j hj hjk) hb, idxT]
  · have : k = bs.length := by have := Hk.out; omega
    subst this
    simp [findIdx_none (· == v) bs fun j hj => H.out j hj hj, idxT]

theorem put1_ev (e : Entry) (at_ : Int) : Ev E F_spare_Put_1 [.agg (eE e), .ptr [.v (.int .i64 at_)] 0] (.v (.bool (decide (at_ < e.slot)))) := by
  refine ev_of (fn := c_spare_Put_1) rfl (by decide) rfl rfl rfl ?_
  simp [c_spare_Put_1]

theorem drop1_ev (e : Entry) (name : ByteArray) : Ev E F_spare_Drop_1 [.agg (eE e), .ptr [.v (.string name)] 0] (.v (.bool (e.name.toList == name.toList))) := by
  refine ev_of (fn := c_spare_Drop_1) rfl (by decide) rfl rfl rfl ?_
  simp [c_spare_Drop_1]

/-! ### Lists of cells -/
theorem remapL_app (ρ η) (a b : List T) : remapL ρ η (a ++ b) = remapL ρ η a ++ remapL ρ η b := by
  induction a with
  | nil => simp
  | cons t a ih => simp [ih]
theorem refsL_app (a b : List T) : refsL (a ++ b) = refsL a ++ refsL b := by
  induction a with
  | nil => simp [refsL]
  | cons t a ih => simp [refsL, ih]
theorem famsL_app (a b : List T) : famsL (a ++ b) = famsL a ++ famsL b := by
  induction a with
  | nil => simp
  | cons t a ih => simp [ih]
theorem stripL_app (d) (a b : List T) : stripL d (a ++ b) = stripL d a ++ stripL d b := by
  induction a with
  | nil => simp
  | cons t a ih => simp [ih]
theorem noRefL_app (s) (a b : List T) : noRefL s (a ++ b) = (noRefL s a && noRefL s b) := by
  induction a with
  | nil => simp
  | cons t a ih => simp [ih, Bool.and_assoc]
theorem mapM_app (bx k) (a b : List T) : (a ++ b).mapM (close bx (k + 1)) = (a.mapM (close bx (k + 1))).bind fun a => (b.mapM (close bx (k + 1))).map fun b => a ++ b := by
  induction a with
  | nil => simp
  | cons t a ih =>
    simp only [List.cons_append, List.mapM_cons, ih, Option.bind_eq_bind, Option.pure_def]
    cases close bx (k + 1) t with
    | none => rfl
    | some t' =>
      cases a.mapM (close bx (k + 1)) with
      | none => rfl
      | some a' => cases b.mapM (close bx (k + 1)) <;> rfl
@[simp] theorem refs_eE (e : Entry) : refsL (eE e) = [] := by simp [eE, refsL, T.refs]
@[simp] theorem refs_eN (n : Node) : refsL (eN n) = [] := by simp [eN, refsL, T.refs, sl]
@[simp] theorem refs_eBl (b : Bool) : refsL (eBl b) = [] := by simp [eBl, refsL, T.refs]
@[simp] theorem eE_remapF (ρ η) (l : List Entry) : remapL ρ η (l.flatMap eE) = l.flatMap eE := by
  induction l with
  | nil => simp
  | cons t l ih => simp [remapL_app, ih, eE]
@[simp] theorem eE_refsF (l : List Entry) : refsL (l.flatMap eE) = [] := by
  induction l with
  | nil => simp [refsL]
  | cons t l ih => simp [refsL_app, ih, eE, refsL, T.refs]
@[simp] theorem eE_famsF (l : List Entry) : famsL (l.flatMap eE) = [] := by
  induction l with
  | nil => simp
  | cons t l ih => simp [famsL_app, ih, eE]
@[simp] theorem eE_stripF (d) (l : List Entry) : stripL d (l.flatMap eE) = l.flatMap eE := by
  induction l with
  | nil => simp
  | cons t l ih => simp [stripL_app, ih, eE]
@[simp] theorem eE_noRefF (s) (l : List Entry) : noRefL s (l.flatMap eE) = true := by
  induction l with
  | nil => simp
  | cons t l ih => simp [noRefL_app, ih, eE]
@[simp] theorem eE_closeF (bx k) (l : List Entry) : (l.flatMap eE).mapM (close bx (k + 1)) = some (l.flatMap eE) := by
  induction l with
  | nil => simp
  | cons t l ih => simp [mapM_app, ih, eE]
@[simp] theorem eBl_remapF (ρ η) (l : List Bool) : remapL ρ η (l.flatMap eBl) = l.flatMap eBl := by
  induction l with
  | nil => simp
  | cons t l ih => simp [remapL_app, ih, eBl]
@[simp] theorem eBl_refsF (l : List Bool) : refsL (l.flatMap eBl) = [] := by
  induction l with
  | nil => simp [refsL]
  | cons t l ih => simp [refsL_app, ih, eBl, refsL, T.refs]
@[simp] theorem eBl_famsF (l : List Bool) : famsL (l.flatMap eBl) = [] := by
  induction l with
  | nil => simp
  | cons t l ih => simp [famsL_app, ih, eBl]
@[simp] theorem eBl_stripF (d) (l : List Bool) : stripL d (l.flatMap eBl) = l.flatMap eBl := by
  induction l with
  | nil => simp
  | cons t l ih => simp [stripL_app, ih, eBl]
@[simp] theorem eBl_noRefF (s) (l : List Bool) : noRefL s (l.flatMap eBl) = true := by
  induction l with
  | nil => simp
  | cons t l ih => simp [noRefL_app, ih, eBl]
@[simp] theorem eBl_closeF (bx k) (l : List Bool) : (l.flatMap eBl).mapM (close bx (k + 1)) = some (l.flatMap eBl) := by
  induction l with
  | nil => simp
  | cons t l ih => simp [mapM_app, ih, eBl]
@[simp] theorem eB_remapF (ρ η) (l : List UInt8) : remapL ρ η (l.flatMap eB) = l.flatMap eB := by
  induction l with
  | nil => simp
  | cons t l ih => simp [remapL_app, ih, eB]
@[simp] theorem eB_refsF (l : List UInt8) : refsL (l.flatMap eB) = [] := by
  induction l with
  | nil => simp [refsL]
  | cons t l ih => simp [refsL_app, ih, eB, refsL, T.refs]
@[simp] theorem eB_famsF (l : List UInt8) : famsL (l.flatMap eB) = [] := by
  induction l with
  | nil => simp
  | cons t l ih => simp [famsL_app, ih, eB]
@[simp] theorem eB_stripF (d) (l : List UInt8) : stripL d (l.flatMap eB) = l.flatMap eB := by
  induction l with
  | nil => simp
  | cons t l ih => simp [stripL_app, ih, eB]
@[simp] theorem eB_noRefF (s) (l : List UInt8) : noRefL s (l.flatMap eB) = true := by
  induction l with
  | nil => simp
  | cons t l ih => simp [noRefL_app, ih, eB]
@[simp] theorem eB_closeF (bx k) (l : List UInt8) : (l.flatMap eB).mapM (close bx (k + 1)) = some (l.flatMap eB) := by
  induction l with
  | nil => simp
  | cons t l ih => simp [mapM_app, ih, eB]
@[simp] theorem eE_lenF (l : List Entry) : (l.flatMap eE).length = l.length * 3 := flat_len eE_len l
@[simp] theorem eBl_lenF (l : List Bool) : (l.flatMap eBl).length = l.length := by rw [flat_len eBl_len l]; simp

theorem clone_ev (l : List Entry) (hl : l.length ≤ 16777216) : Ev E (ioBase + F_slices_Clone_Entry) [.tup [sl eE l], .tup []] (.tup [.bsl 0 0 l.length (l.length * 3), .tup [.agg (l.flatMap eE), .undef]]) := by
  have hsp : l ≠ [] → splits [sl eE l] = [[sl eE l]] := fun h0 => by
    obtain ⟨n, hn⟩ : ∃ n, l.length = n + 1 := ⟨l.length - 1, by have := List.length_pos_iff.2 h0; omega⟩
    simp [sl, splits, hn]
  refine evio_split (fn := c_slices_Clone_Entry) rfl rfl rfl ?_ ?_ fun as has => ?_
  · by_cases h0 : l = []
    · subst h0; exact .inr rfl
    · rw [hsp h0]; exact .inl (Nat.le_refl _)
  · by_cases h0 : l = []
    · subst h0; simp [sl, splits]
    · rw [hsp h0]; simp
  by_cases h0 : l = []
  · subst h0
    simp [sl, splits] at has
    rcases has with rfl | rfl
    · exact ⟨5, by kernel_rfl⟩
    · exact ⟨5, by kernel_rfl⟩
  · obtain ⟨n, hn⟩ : ∃ n, l.length = n + 1 := ⟨l.length - 1, by have := List.length_pos_iff.2 h0; omega⟩
    have hr : (n + 1) * 32 ≤ room ∧ n + 1 ≤ room := by unfold room; omega
    simp [sl, splits, hn] at has
    subst has
    refine runIO_ex rfl rfl ?_
    simp [c_slices_Clone_Entry, -List.length_flatMap]
    refine o_appendB _ _ _ _ _ _ _ _ _ _ _ ?_
    simp [hn, hr, -List.length_flatMap]
    simp [canonL, canonT, exportIO, exportAs, ownOf, insOf, outLab, outUn, unlab, List.range, List.range.loop, List.idxOf?, -List.length_flatMap]

end Go.Vi.Sp
end
section
/-
  The program's Put.
-/
set_option maxRecDepth 100000
set_option linter.unusedSimpArgs false
set_option linter.unusedVariables false
namespace Go.Vi.Sp
open Go Go.Vi Go.Vi.Dd

@[simp] theorem fresh_v (x : Value) : (T.v x).fresh = true := rfl

@[simp] theorem eNt_close (bx k) (n : Node) (t : T) : (eNt n t).mapM (close bx (k + 1)) = (close bx (k + 1) t).map (eNt n) := by
  simp [-List.length_flatMap, eNt]
  cases close bx (k + 1) t <;> rfl

theorem flat_take (l : List Entry) (i : Nat) : (l.flatMap eE).take (i * 3) = (l.take i).flatMap eE := by
  induction l generalizing i with
  | nil => simp
  | cons e l ih =>
    cases i with
    | zero => simp
    | succ i =>
      rw [List.flatMap_cons, show (i + 1) * 3 = (eE e).length + i * 3 by simp; omega, List.take_append, List.take_of_length_le (by simp), Nat.add_sub_cancel_left, ih, List.take_succ_cons, List.flatMap_cons]
theorem flat_drop (l : List Entry) (i : Nat) : (l.flatMap eE).drop (i * 3) = (l.drop i).flatMap eE := by
  induction l generalizing i with
  | nil => simp
  | cons e l ih =>
    cases i with
    | zero => simp
    | succ i =>
      rw [List.flatMap_cons, show (i + 1) * 3 = (eE e).length + i * 3 by simp; omega, ← List.drop_drop, List.drop_left' rfl, ih, List.drop_succ_cons]
theorem eE_isV (l : List Entry) : (l.flatMap eE).all T.isV = true := by
  induction l with
  | nil => rfl
  | cons e l ih => rw [List.flatMap_cons, List.all_append, ih]; rfl

theorem insert_ev (l : List Entry) (i : Nat) (e : Entry) (hi : i ≤ l.length) (hl : l.length ≤ 16) :
    Ev E (ioBase + F_slices_Insert_Entry) [.tup [.bsl 0 0 l.length (l.length * 3), .v (.int .i64 i), .sl .any 1 (eE e)], .tup [.agg (l.flatMap eE), .undef]]
      (.tup [.bsl 2 0 (l.length + 1) ((l.length + 1) * 3), .tup [.undef, .undef, .agg ((insAt l i e).flatMap eE), .undef]]) := by
  refine ⟨1, ?_⟩
  have hp : E.prim (ioBase + F_slices_Insert_Entry) = some (insP 3) := by simp [-List.length_flatMap, E, prim]
  have he : (eE e).all T.isV = true := rfl
  simp only [callN, hp, insP]
  rw [if_pos (by refine ⟨by omega, by omega, by omega, flat_len eE_len l, rfl, ?_, by omega, eE_isV l, he⟩; trivial), Int.toNat_natCast, flat_take, flat_drop]
  simp [-List.length_flatMap, insAt]

theorem bools_snoc_in (l : List Entry) (e : Entry) (h0 : 0 ≤ e.slot) (h1 : e.slot < 16) : setCells ((bools l).flatMap eBl) e.slot.toNat [.v (.bool true)] = (bools (l ++ [e])).flatMap eBl := by
  obtain ⟨s, hs⟩ : ∃ s : Nat, e.slot = s := ⟨e.slot.toNat, by omega⟩
  have hs16 : s < 16 := by omega
  rw [hs, Int.toNat_natCast]
  have hb : ∀ L : List Bool, L.flatMap eBl = L.map fun b => T.v (.bool b) := fun L => by induction L with
    | nil => rfl
    | cons b L ih => rw [List.flatMap_cons, ih]; rfl
  rw [hb, hb]
  apply List.ext_getElem?
  intro j
  unfold setCells
  have hbl := bools_len l
  by_cases hj : j < 16
  · have e1 : (bools (l ++ [e]))[j]? = some ((l ++ [e]).any fun e => e.slot == (j : Int)) := by rw [List.getElem?_eq_getElem (by rw [bools_len]; exact hj), bools_get _ j hj]
    have e2 : (bools l)[j]? = some (l.any fun e => e.slot == (j : Int)) := by rw [List.getElem?_eq_getElem (by rw [bools_len]; exact hj), bools_get _ j hj]
    rw [List.getElem?_map, e1]
    by_cases hjs : j = s
    · subst hjs
      rw [List.getElem?_append_left (by simp [-List.length_flatMap, hbl]; omega), List.getElem?_append_right (by simp [-List.length_flatMap, hbl]; omega)]
      simp [-List.length_flatMap, hbl, hs, show min j 16 = j by omega]
    · by_cases hlt : j < s
      · rw [List.getElem?_append_left (by simp [-List.length_flatMap, hbl]; omega), List.getElem?_append_left (by simp [-List.length_flatMap, hbl]; omega), List.getElem?_take, if_pos hlt, List.getElem?_map, e2]
        simp [-List.length_flatMap, hs]; omega
      · rw [List.getElem?_append_right (by simp [-List.length_flatMap, hbl]; omega), List.getElem?_drop]
        simp only [List.length_append, List.length_take, List.length_map, hbl, List.length_cons, List.length_nil]
        rw [show s + (0 + 1) + (j - (min s 16 + (0 + 1))) = j by omega, List.getElem?_map, e2]
        simp [-List.length_flatMap, hs]; omega
  · rw [List.getElem?_eq_none (by simp [-List.length_flatMap, hbl]; omega), List.getElem?_eq_none (by simp [-List.length_flatMap, bools_len]; omega)]
theorem bools_snoc_out (l : List Entry) (e : Entry) (h : e.slot < 0 ∨ 16 ≤ e.slot) : bools (l ++ [e]) = bools l := by
  unfold bools
  apply List.map_congr_left
  intro j hj
  rw [List.any_append]
  have : (e.slot == (j : Int)) = false := by simp at hj ⊢; omega
  simp [-List.length_flatMap, this]

theorem idx_ins (l : List Entry) (at_ : Int) : (0 ≤ idxT (l.findIdx? fun e => decide (at_ < e.slot)) ∧ idxT (l.findIdx? fun e => decide (at_ < e.slot)) = insI l at_) ∨ (idxT (l.findIdx? fun e => decide (at_ < e.slot)) = -1 ∧ insI l at_ = l.length) := by
  unfold insI
  cases l.findIdx? fun e => decide (at_ < e.slot) with
  | none => exact .inr ⟨rfl, rfl⟩
  | some i => exact .inl ⟨by simp [-List.length_flatMap, idxT], rfl⟩

set_option maxHeartbeats 200000 in
theorem put_ev (n : Node) (ino : Int) (name : ByteArray) (hl : n.entries.length ≤ 16) :
    Ev E F_spare_Put [.agg (eN n), .v (.int .i64 ino), .v (.string name)]
      (if slotI n.entries < 0 then .tup [.agg (eN n), .v (.bool false)] else .tup [.agg (eN { n with entries := insE n.entries (slotI n.entries) ⟨slotI n.entries, ino, name⟩ }), .v (.bool true)]) := by
  refine ev_of (fn := c_spare_Put) rfl (by decide) rfl rfl rfl ?_
  simp [-List.length_flatMap, c_spare_Put]
  refine m_loop n.entries.length (fun k σ => ∃ x0 x5 x7 x8 x9 x13 x14 x15 x16, ∃ o : Option Entry, σ = ⟨[], [x0, .v (.int .i64 ino), .v (.string name), .ref 0 0, .ref 2 0, x5, .ref 4 0, x7, x8, x9, sl eE n.entries, .v (.int .i64 n.entries.length), .v (.int .i64 k), x13, x14, x15, x16],
      [some (eN n), none, some [T.v (.int .i64 0), T.v (.int .i64 0), T.v (.int .i64 0), T.v (.int .i64 0), T.sl .nil 0 [], T.sl .nil 0 [], T.v (.int .i64 0), T.v (.int .i64 0), T.v (.string ⟨#[]⟩), T.v (.int .i64 0), T.v (.int .i64 0), T.v (.int .i64 0), T.v (.int .i64 0)], none,
        some ((bools (n.entries.take k)).flatMap eBl), none, o.map eE, none, none, none, none, none, none, none]⟩) ⟨_, _, _, _, _, _, _, _, _, none, by rw [List.take_zero, bools0]; rfl⟩ ?_
  rintro k σ hk ⟨x0, x5, x7, x8, x9, x13, x14, x15, x16, o, rfl⟩
  by_cases hlt : k < n.entries.length
  · have hwb : -9223372036854775808 ≤ (k : Int) + 1 ∧ (k : Int) + 1 ≤ 9223372036854775807 := by omega
    have hts : n.entries.take (k + 1) = n.entries.take k ++ [n.entries[k]] := List.take_succ_eq_append_getElem hlt
    have hin := bools_snoc_in (n.entries.take k) n.entries[k]
    have hout := bools_snoc_out (n.entries.take k) n.entries[k]
    have hbl := bools_len (n.entries.take k)
    have hex : ∃ x : Option Entry, some (eE n.entries[k]) = Option.map eE x := ⟨some _, rfl⟩
    by_cases h1 : 0 ≤ n.entries[k].slot
    · by_cases h2 : n.entries[k].slot < 16
      · have h3 : n.entries[k].slot.toNat < 16 := by omega
        have h4 := hin h1 h2
        have hw : IntKind.i64.wrap ((k : Int) + 1) = (k : Int) + 1 := wrap_ok hwb.1 hwb.2
        clear hin hout hwb
        cases o <;> simp [-List.length_flatMap, hlt, h1, h2, h3, hbl]
        all_goals exact ⟨by omega, hw, by rw [h4, hts], some _, rfl⟩
      · have h4 := hout (.inr (by omega))
        have hw : IntKind.i64.wrap ((k : Int) + 1) = (k : Int) + 1 := wrap_ok hwb.1 hwb.2
        clear hin hout hwb
        cases o <;> simp [-List.length_flatMap, hlt, h1, h2]
        all_goals exact ⟨hw, by rw [hts, h4], some _, rfl⟩
    · have h4 := hout (.inl (by omega))
      have hw : IntKind.i64.wrap ((k : Int) + 1) = (k : Int) + 1 := wrap_ok hwb.1 hwb.2
      clear hin hout hwb
      cases o <;> simp [-List.length_flatMap, hlt, h1]
      all_goals exact ⟨hw, by rw [hts, h4], some _, rfl⟩
  · have : k = n.entries.length := by omega
    subst this
    have hbl := bools_len n.entries
    have hidx := callR_some (index_ev (bools n.entries) false (by omega))
    have htk : List.take 16 ((bools n.entries).flatMap eBl) = (bools n.entries).flatMap eBl := List.take_of_length_le (by rw [flat_len eBl_len, hbl]; exact Nat.le_refl _)
    simp only [sl, hbl] at hidx
    have hidx' : callR E F_slices_Index_bool [T.sl .any 16 ((bools n.entries).flatMap eBl), .v (.bool false)] = some (.v (.int .i64 (slotI n.entries))) := hidx
    clear hidx
    generalize slotI n.entries = at_ at hidx'
    by_cases hat : at_ < 0
    · cases o <;> simp [-List.length_flatMap, hbl, htk, hidx', hat]
    · have hix := callR_some (indexFunc_Entry (g := .clo (.func F_spare_Put_1) [] [.ptr [.v (.int .i64 at_)] 0]) (f := F_spare_Put_1) (caps := [.ptr [.v (.int .i64 at_)] 0]) (FnT.ofClo F_spare_Put_1 (by decide) _ (by simp) (by simp) (by simp) (by simp) (by simp)) (fun e => decide (at_ < e.slot)) n.entries (by omega) fun e _ => put1_ev e at_)
      have hcl := callR_some (clone_ev n.entries (by omega))
      have hins := idx_ins n.entries at_
      have hil := insI_le n.entries at_
      have hie := callR_some (insert_ev n.entries (insI n.entries at_) ⟨at_, ino, name⟩ hil hl)
      have hcnd : ∀ {A B : IC} {k : List Fr} {σ : St} {Q : Out → Prop}, (idxT (n.entries.findIdx? fun e => decide (at_ < e.slot)) = insI n.entries at_ → M E B k σ Q) → (idxT (n.entries.findIdx? fun e => decide (at_ < e.slot)) = -1 ∧ insI n.entries at_ = n.entries.length → M E A k σ Q) →
          condM E (T.v (Value.bool (decide (idxT (List.findIdx? (fun e => decide (at_ < e.slot)) n.entries) < 0)))) A B k σ Q := fun h1 h2 => condM_split (fun h => h2 (hins.resolve_left fun hx => by have := of_decide_eq_true h; omega)) fun h => h1 (by
            rcases hins with hx | hx
            · exact hx.2
            · have := of_decide_eq_false h; rw [hx.1] at this; omega)
      have hlen := insAt_len n.entries (insI n.entries at_) ⟨at_, ino, name⟩ hil
      have hfin1 : List.take ((n.entries.length + 1) * 3) ((insAt n.entries (insI n.entries at_) ⟨at_, ino, name⟩).flatMap eE) = (insAt n.entries (insI n.entries at_) ⟨at_, ino, name⟩).flatMap eE := List.take_of_length_le (by rw [flat_len eE_len, hlen]; exact Nat.le_refl _)
      have hfin2 : eNt n (T.sl .any (n.entries.length + 1) ((insAt n.entries (insI n.entries at_) ⟨at_, ino, name⟩).flatMap eE)) = eN { n with entries := insE n.entries at_ ⟨at_, ino, name⟩ } := by
        rw [← eNt_ent, sl, insE, hlen]
      have Hins := Hd.mk hins
      clear hins
      cases o <;> simp [-List.length_flatMap, hbl, htk, hidx', hat, hix]
      all_goals
        refine hcnd (fun hi => ?_) (fun hi => ?_)
      all_goals
        simp [-List.length_flatMap, hi]
        refine o_callnew _ _ _ ?_
        rw [callNew_eq (r := .bsl 0 0 n.entries.length (n.entries.length * 3)) (os := [.agg (n.entries.flatMap eE), .undef]) (by simp) (by simpa using hcl) (by simp [-List.length_flatMap, boxFree])]
        simp [-List.length_flatMap, ioBack, ioFam, adopt]
        refine o_callio _ _ _ ?_
        first
          | (rw [hi.2] at hie hfin1 hfin2)
          | skip
        rw [callIO_eq (ss := [10]) (fs := []) (r := .bsl 2 0 (n.entries.length + 1) ((n.entries.length + 1) * 3)) (by simp) (by simp) rfl rfl (by simpa [lab, unlab, List.idxOf?, List.range, List.range.loop, eE] using hie) (by simp [-List.length_flatMap, boxFree, boxAt])]
        simp [-List.length_flatMap, ioBack, ioFam, adopt, lab, unlab, ioLive, List.idxOf?, List.idxOf, hfin1, hfin2]

end Go.Vi.Sp
end
section
/-
  DeleteFunc; the program's Drop.
-/
set_option maxRecDepth 100000
set_option linter.unusedSimpArgs false
set_option linter.unusedVariables false
namespace Go.Vi.Sp
open Go Go.Vi Go.Vi.Dd

@[simp] theorem remap_clo (ρ η : Nat → Option Nat) (f : Fn) (a b : List T) : (T.clo f a b).remap ρ η = .clo f (remapL ρ η a) (remapL ρ η b) := by simp only [T.remap]

@[simp] theorem calleeOf_clo (f : FuncId) (a b : List T) : calleeOf (.clo (.func f) a b) = some (f, a, b) := rfl

theorem lab_cons (a : Nat) (ss : List Nat) (s : Nat) : lab (a :: ss) s = if a = s then some (s % 2) else (lab ss s).map (· + 2) := by
  unfold lab
  simp only [List.idxOf?, List.findIdx?_cons, beq_iff_eq]
  split
  · simp
  · cases List.findIdx? (fun x => x == s) ss with
    | none => rfl
    | some i => simp; omega
theorem lab_nil (s : Nat) : lab [] s = none := rfl

def E0 : Entry := ⟨0, 0, ⟨#[]⟩⟩
theorem eE_E0 : eE E0 = [.v (.int .i64 0), .v (.int .i64 0), .v (.string ⟨#[]⟩)] := rfl
theorem flat_set (L : List Entry) (i : Nat) (e : Entry) (hi : i < L.length) : setCells (L.flatMap eE) (i * 3) (eE e) = (L.set i e).flatMap eE := by
  unfold setCells
  rw [flat_take, show i * 3 + (eE e).length = (i + 1) * 3 by simp; omega, flat_drop, List.set_eq_take_append_cons_drop, if_pos hi]
  simp
theorem flat_clear (L : List Entry) (i k : Nat) (hi : i + k = L.length) : setCells (L.flatMap eE) (i * 3) (List.replicate k [T.v (.int .i64 0), T.v (.int .i64 0), T.v (.string ⟨#[]⟩)]).flatten = (L.take i ++ List.replicate k E0).flatMap eE := by
  have hr : ∀ k : Nat, (List.replicate k [T.v (.int .i64 0), T.v (.int .i64 0), T.v (.string ⟨#[]⟩)]).flatten = (List.replicate k E0).flatMap eE := fun k => by
    induction k with
    | zero => rfl
    | succ k ih => rw [List.replicate_succ, List.replicate_succ, List.flatten_cons, List.flatMap_cons, ih]; rfl
  rw [hr]
  unfold setCells
  rw [flat_take, flat_len eE_len, List.length_replicate, show i * 3 + k * 3 = L.length * 3 by omega, flat_drop, List.drop_length]
  simp

/-- What DeleteFunc leaves, between two rounds. -/
structure DelI (p : Entry → Bool) (l L : List Entry) (i j : Nat) : Prop where
  len : L.length = l.length
  lt : i < j
  le : j ≤ l.length
  kept : L.take i = (l.take j).filter fun e => !p e
  rest : L.drop j = l.drop j
theorem DelI.at {p : Entry → Bool} {l L : List Entry} {i j : Nat} (h : DelI p l L i j) (hj : j < l.length) : L[j]'(by rw [h.len]; exact hj) = l[j] := by
  have := congrArg (·[0]?) h.rest
  simp only [List.getElem?_drop, Nat.add_zero] at this
  rw [List.getElem?_eq_getElem (by rw [h.len]; exact hj), List.getElem?_eq_getElem hj] at this
  exact Option.some.inj this
theorem DelI.skip {p : Entry → Bool} {l L : List Entry} {i j : Nat} (h : DelI p l L i j) (hj : j < l.length) (hp : p l[j] = true) : DelI p l L i (j + 1) := by
  refine ⟨h.len, by have := h.lt; omega, hj, ?_, ?_⟩
  · rw [h.kept, List.take_succ_eq_append_getElem hj, List.filter_append]; simp [-List.length_flatMap, hp]
  · have := congrArg (List.drop 1) h.rest; simpa [List.drop_drop] using this
theorem DelI.keep {p : Entry → Bool} {l L : List Entry} {i j : Nat} (h : DelI p l L i j) (hj : j < l.length) (hp : p l[j] = false) : DelI p l (L.set i l[j]) (i + 1) (j + 1) := by
  have hlt := h.lt
  have hlen := h.len
  refine ⟨by simp [-List.length_flatMap, h.len], by omega, hj, ?_, ?_⟩
  · rw [List.take_succ_eq_append_getElem (by simp; omega), List.take_succ_eq_append_getElem hj, List.filter_append]
    rw [show (L.set i l[j]).take i = L.take i from List.take_set_of_le (Nat.le_refl _), h.kept]; simp [-List.length_flatMap, hp]
  · have := congrArg (List.drop 1) h.rest
    rw [List.drop_set_of_lt (by omega)]
    simpa [List.drop_drop] using this
theorem DelI.start {p : Entry → Bool} {l : List Entry} {i : Nat} (h : l.findIdx? p = some i) : DelI p l l i (i + 1) := by
  rw [List.findIdx?_eq_some_iff_getElem] at h
  obtain ⟨h1, h2, h3⟩ := h
  refine ⟨rfl, by omega, h1, ?_, rfl⟩
  rw [List.take_succ_eq_append_getElem h1, List.filter_append]
  simp only [h2, Bool.not_true, List.filter_cons, List.filter_nil, Bool.false_eq_true, if_false, List.append_nil]
  rw [List.filter_eq_self.2]
  intro x hx
  obtain ⟨j, hj, rfl⟩ := List.mem_iff_getElem.1 hx
  simp only [List.getElem_take]
  simp at hj
  simpa using h3 j (by omega)

set_option maxHeartbeats 1000000 in
theorem deleteFunc_ev (l : List Entry) (f : FuncId) (hf : f < ioBase) (x : Value) (p : Entry → Bool) (hl : l.length ≤ 16) (hp : ∀ e, Ev E f [.agg (eE e), .ptr [.v x] 0] (.v (.bool (p e)))) :
    ∃ c, ∃ C : List Entry, (∀ m, m = (l.filter fun e => !p e).length → 0 < m → (C.flatMap eE).take c = (l.filter fun e => !p e).flatMap eE) ∧
      Ev E (ioBase + F_slices_DeleteFunc_Entry) [.tup [.bsl 0 0 l.length (l.length * 3), .clo (.func f) [] [.ref 2 0]], .tup [.agg (l.flatMap eE), .undef, .agg [.v x], .undef]]
        (.tup [.bsl 0 0 (l.filter fun e => !p e).length c, .tup [.agg (C.flatMap eE), .undef, .agg [.v x], .undef]]) := by
  have hix := callR_some (indexFunc_Entry (g := .clo (.func f) [] [.ptr [.v x] 0]) (f := f) (caps := [.ptr [.v x] 0]) (FnT.ofClo f hf _ (by simp) (by simp) (by simp) (by simp) (by simp)) p l (by omega) fun e _ => hp e)
  cases hfi : l.findIdx? p with
  | none =>
    have hall : (l.filter fun e => !p e) = l := by
      rw [List.findIdx?_eq_none_iff] at hfi
      exact List.filter_eq_self.2 fun e he => by simp [-List.length_flatMap, hfi e he]
    rw [hall]
    refine ⟨l.length * 3, l, fun m hm h0 => List.take_of_length_le (by rw [flat_len eE_len]; exact Nat.le_refl _), ?_⟩
    refine evio_of (fn := c_slices_DeleteFunc_Entry) rfl rfl rfl rfl (by simp) ?_
    rw [hfi] at hix
    simp only [idxT] at hix
    have htk : List.take (l.length * 3) (l.flatMap eE) = l.flatMap eE := List.take_of_length_le (by rw [flat_len eE_len]; exact Nat.le_refl _)
    by_cases h0 : l = []
    · subst h0
      simp [-List.length_flatMap, sl] at hix
      simp [-List.length_flatMap, c_slices_DeleteFunc_Entry, hix]
      try simp [-List.length_flatMap, exportIO, exportAs, ownOf, insOf, outLab, outUn, unlab, List.range, List.range.loop, List.idxOf?]
    · have h0' : ¬ l.length = 0 := by simpa using h0
      simp [-List.length_flatMap, sl] at hix
      simp [-List.length_flatMap, c_slices_DeleteFunc_Entry, hix, h0, htk]
      try simp [-List.length_flatMap, exportIO, exportAs, ownOf, insOf, outLab, outUn, unlab, List.range, List.range.loop, List.idxOf?]
  | some i0 =>
    have hst := DelI.start hfi
    have hi0 : i0 < l.length := hst.le
    have hne : ¬ l.length = 0 := by omega
    have hnil : l ≠ [] := fun h => by rw [h] at hne; simp at hne
    obtain ⟨m, hm⟩ : ∃ m, m = (l.filter fun e => !p e).length := ⟨_, rfl⟩
    refine ⟨if m = 0 then 1 else m * 3, (l.filter fun e => !p e) ++ List.replicate (l.length - m) E0, fun m' hm' h0 => ?_, ?_⟩
    · rw [← hm] at hm'
      subst hm'
      rw [if_neg (by omega), flat_take, hm, List.take_left' rfl]
    refine evio_of (fn := c_slices_DeleteFunc_Entry) rfl rfl rfl rfl (by simp) ?_
    rw [hfi] at hix
    simp only [idxT, sl] at hix
    have htk : List.take (l.length * 3) (l.flatMap eE) = l.flatMap eE := List.take_of_length_le (by rw [flat_len eE_len]; exact Nat.le_refl _)
    have hw0 : IntKind.i64.wrap ((i0 : Int) + 1) = (i0 : Int) + 1 := wrap_ok (by omega) (by omega)
    have hi1 : ((i0 : Int) == -1) = false := by rw [beq_eq_false_iff_ne]; omega
    simp [-List.length_flatMap, c_slices_DeleteFunc_Entry, hix, hne, hnil, htk, hw0, hi1]
    refine m_loop (l.length - (i0 + 1)) (fun r σ => ∃ L i, ∃ x2 x5 x6 x7 x8, ∃ o : Option Entry, σ = ⟨[], [.bsl 2 0 l.length (l.length * 3), .clo (.func f) [] [.ref 4 0], x2, .v (.int .i64 (i : Nat)), .v (.int .i64 ((i0 + 1 + r : Nat) : Int)), x5, x6, x7, x8],
      [o.map eE, none, some (L.flatMap eE), none, some [.v x], none]⟩ ∧ DelI p l L i (i0 + 1 + r)) ?_ ?_
    · exact ⟨l, i0, _, _, _, _, _, none, by simp; exact ⟨rfl, rfl, rfl, rfl, rfl⟩, hst⟩
    rintro r σ hr ⟨L, i, x2, x5, x6, x7, x8, o, rfl, hD⟩
    have hLl := hD.len
    have hlt := hD.lt
    have hle := hD.le
    obtain ⟨j, hj⟩ : ∃ j, j = i0 + 1 + r := ⟨_, rfl⟩
    rw [← hj] at hD hlt hle
    by_cases hjl : j < l.length
    · have hat := hD.at hjl
      have hgo : Hd (∀ L' i', DelI p l L' i' (j + 1) → r < l.length - (i0 + 1) ∧ j + 1 = i0 + 1 + (r + 1)) := ⟨fun _ _ _ => by omega⟩
      have hjL : j < L.length := by omega
      have hiL : i < L.length := by omega
      have hiL' : i < l.length := by omega
      have hset := flat_set L i l[j] hiL
      have hcl := callR_some (hp l[j])
      have hb : -9223372036854775808 ≤ (j : Int) + 1 ∧ (j : Int) + 1 ≤ 9223372036854775807 ∧ -9223372036854775808 ≤ (i : Int) + 1 ∧ (i : Int) + 1 ≤ 9223372036854775807 := by omega
      have ex : i * 3 + 3 ≤ L.length * 3 ∧ r < l.length - (i0 + 1) ∧ i0 + 1 + (r + 1) = j + 1 ∧ (j : Int) + 1 = (i0 : Int) + 1 + ((r : Int) + 1) := by omega
      have hw1 : IntKind.i64.wrap ((j : Int) + 1) = (j : Int) + 1 := wrap_ok hb.1 hb.2.1
      have hw2 : IntKind.i64.wrap ((i : Int) + 1) = (i : Int) + 1 := wrap_ok hb.2.2.1 hb.2.2.2
      rw [← hj]
      cases hpj : p l[j]
      · rw [hpj] at hcl
        have hD' := hD.keep hjl hpj
        cases o <;> simp [-List.length_flatMap, hjl, hjL, hat, hf, hcl, hw1, hw2, hiL', hset]
        all_goals exact ⟨ex.1, ex.2.1, L.set i l[j], i + 1, ⟨⟨rfl, ex.2.2.2⟩, ⟨some _, rfl⟩, rfl⟩, by rw [ex.2.2.1]; exact hD'⟩
      · rw [hpj] at hcl
        have hD' := hD.skip hjl hpj
        cases o <;> simp [-List.length_flatMap, hjl, hjL, hat, hf, hcl, hw1]
        all_goals exact ⟨ex.2.1, L, i, ⟨⟨rfl, ex.2.2.2⟩, ⟨some _, rfl⟩, rfl⟩, by rw [ex.2.2.1]; exact hD'⟩
    · have hjl' : j = l.length := by omega
      have hkept := hD.kept
      rw [hjl', List.take_length] at hkept
      have him : i = m := by rw [hm, ← hkept, List.length_take]; omega
      subst him
      rw [← hj]
      have hclr := flat_clear L i (l.length - i) (by omega)
      rw [hkept] at hclr
      have hni : ¬ l.length = i := by omega
      have hli : ¬ l.length ≤ i := by omega
      have hle2 : i ≤ l.length := by omega
      have hin : ¬ l.length - i = 0 := by omega
      have hsum : i * 3 + (l.length - i) * 3 ≤ L.length * 3 := by omega
      cases o <;> simp [-List.length_flatMap, hjl, hni, hclr, hle2, hne, hin, hsum]
      all_goals
        rw [← hm]
        simp [-List.length_flatMap, exportIO, exportAs, ownOf, insOf, outLab, outUn, unlab, List.range, List.range.loop, List.idxOf?, remapL_app, refsL_app, famsL_app]

set_option maxHeartbeats 1000000 in
theorem drop_ev (n : Node) (name : ByteArray) (hl : n.entries.length ≤ 16) :
    Ev E F_spare_Drop [.agg (eN n), .v (.string name)] (.agg (eN { n with entries := n.entries.filter (keepE name) })) := by
  refine ev_of (fn := c_spare_Drop) rfl (by decide) rfl rfl rfl ?_
  have hcl := callR_some (clone_ev n.entries (by omega))
  obtain ⟨c, C, hcells, hdel⟩ := deleteFunc_ev n.entries F_spare_Drop_1 (by decide) (.string name) (fun e => e.name.toList == name.toList) hl fun e => drop1_ev e name
  have hdel := callR_some hdel
  have hke : (n.entries.filter fun e => !(e.name.toList == name.toList)) = n.entries.filter (keepE name) := rfl
  rw [hke] at hdel hcells
  generalize n.entries.filter (keepE name) = F at hdel hcells ⊢
  simp [-List.length_flatMap, c_spare_Drop]
  refine o_callnew _ _ _ ?_
  rw [callNew_eq (r := .bsl 0 0 n.entries.length (n.entries.length * 3)) (os := [.agg (n.entries.flatMap eE), .undef]) (by simp) (by simpa using hcl) (by simp [-List.length_flatMap, boxFree])]
  simp [-List.length_flatMap, ioBack, ioFam, adopt]
  refine o_callio _ _ _ ?_
  rw [callIO_eq (ss := [6, 2]) (fs := []) (r := .bsl 0 0 F.length c) (os := [.agg (C.flatMap eE), .undef, .agg [.v (.string name)], .undef]) (by simp) (by simp) rfl rfl (by simpa [lab_cons, lab_nil, unlab, List.range, List.range.loop] using hdel) (by simp [-List.length_flatMap, boxFree, boxAt])]
  simp [-List.length_flatMap, ioBack, ioFam, adopt, lab_cons, lab_nil, unlab, ioLive]
  by_cases hF : F = []
  · subst hF
    exact ⟨_, if_pos rfl, rfl⟩
  · have h1 := hcells F.length rfl (List.length_pos_iff.2 hF)
    simp [-List.length_flatMap, hF, h1]
    rfl

end Go.Vi.Sp
end
section
/-
  The statement SpareTells, by the interpreter: true at whatever input.
-/
set_option maxRecDepth 100000
set_option linter.unusedSimpArgs false
set_option linter.unusedVariables false
namespace Go.Vi.Sp
open Go Go.Vi Go.Vi.Dd

@[simp] theorem slO_import (d l) : (slO 0 l).import d = slO (8 * d) l := by
  unfold slO
  split
  · simp
  · simp only [T.import]
    rw [if_pos (by omega), Nat.add_zero]
@[simp] theorem slO_strip (d k l) : (slO k l).strip d = if hit d k = true then (if l = [] then .sl .nil 0 [] else sl eE l) else slO k l := by
  unfold slO
  split
  · simp
  · simp only [strip_own, sl]
    split <;> rfl

theorem spareTells_ev (haw : Ev E F_law46_awake [] (.v (.bool true))) (l : List Node) (n : Node) (ino : Int) (name : ByteArray) (hl : Few l) (hn : n.entries.length ≤ 9223372036854775807) :
    Ev E F_law46_SpareTells [.agg [sl eN l], .agg (eN n), .v (.int .i64 ino), .v (.string name)] (.v (.bool true)) := by
  refine ev_of (fn := c_law46_SpareTells) rfl (by decide) rfl rfl rfl ?_
  have haw := callR_some haw
  have hb := callR_some (branch_ev l 24 hl)
  have hnode := callR_some (node_ev n hn)
  by_cases hg : branchB l 24 = true ∧ nodeB n = true ∧ name.size ≤ 40
  · obtain ⟨h1, h2, h3⟩ := hg
    have hok := (nodeB_iff n).1 h2
    have hll : l.length ≤ 24 := by
      unfold branchB at h1
      simp at h1; omega
    have hput := callR_some (put_ev n ino name hok.entries)
    have hrput := callR_some (rput_ev n ino name hok.entries)
    have hdrop := callR_some (drop_ev n name hok.entries)
    have hrdrop := callR_some (rdrop_ev n name hok.entries)
    have hino := callR_some (inode_ev l (by omega))
    have hrino := callR_some (rinode_ev l (by omega))
    have hd := hok.data
    have hsame0 := callR_some (nodeSame_ev n (by omega) (by have := hok.entries; omega))
    have hsame1 := callR_some (nodeSame_ev { n with entries := insE n.entries (slotI n.entries) ⟨slotI n.entries, ino, name⟩ } (by simpa using (show n.data.length ≤ 9223372036854775807 by omega)) (by
      have h := insAt_len n.entries (insI n.entries (slotI n.entries)) ⟨slotI n.entries, ino, name⟩ (insI_le _ _)
      have := hok.entries
      simp only [insE]
      omega))
    have hsame2 := callR_some (nodeSame_ev { n with entries := n.entries.filter (keepE name) } (by simpa using (show n.data.length ≤ 9223372036854775807 by omega)) (by
      have h := List.length_filter_le (keepE name) n.entries
      have := hok.entries
      simp only
      omega))
    have h3' : ¬ 40 < (name.size : Int) := by omega
    by_cases hs : slotI n.entries < 0
    · simp only [hs, if_true] at hput hrput
      simp [c_law46_SpareTells, hb, hnode, h1, h2, h3', hput, hrput, hino, hrino, hdrop, hrdrop, hsame0, haw, hit, eNt_ent, hsame2]
    · simp only [hs, if_false] at hput hrput
      simp [c_law46_SpareTells, hb, hnode, h1, h2, h3', hput, hrput, hino, hrino, hdrop, hrdrop, haw, hit, eNt_ent, hsame1, hsame2]
  · cases h1 : branchB l 24
    · simp [c_law46_SpareTells, hb, h1, haw]
    · cases h2 : nodeB n
      · simp [c_law46_SpareTells, hb, hnode, h1, h2, haw]
      · have h3 : 40 < (name.size : Int) := by
          have : ¬ name.size ≤ 40 := fun h => hg ⟨h1, h2, h⟩
          omega
        simp [c_law46_SpareTells, hb, hnode, h1, h2, h3, haw]

end Go.Vi.Sp
end
