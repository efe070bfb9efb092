/-
  A claim's own text, joined by a small program out of: ZzE, G1, G2, G3, G4.
-/
import Derived.Test.YtodollbkpkpklaaGreatW10
import Derived.Test.YtodollbkpkpklaaGreatW13
import Derived.Shelf.GgClosure.StringsIndexFunc
set_option linter.unusedVariables false
set_option linter.unusedSimpArgs false
section
/-
  The environment of seat Z: the small code; functions whose contract is shown by hand.
-/
set_option maxRecDepth 1000000
namespace Go.Vi.Zz
open Go Go.Vi

/-- What slices.Chunk's iterator yields. -/
def chunkP : List T → Option T
  | [.tup [.ptr [.sl _ n cs] 0, .ptr [.v (.int .i64 k)] 0]] =>
    if 0 < k ∧ k ≤ 1048576 ∧ n ≤ 1048576 ∧ cs.length = n ∧ cs.all T.isV = true then some (.tup ((List.range ((n + k.toNat - 1) / k.toNat)).map fun i => .tup [.sl .clip (min k.toNat (n - i * k.toNat)) ((cs.drop (i * k.toNat)).take k.toNat)])) else none
  | _ => none

/-- May the rune stand in a name? -/
def letterB (c : Nat) : Bool := (decide (97 ≤ c) && decide (c ≤ 122)) || (decide (48 ≤ c) && decide (c ≤ 57)) || c == 46 || c == 95 || c == 45

/-- strings.indexFunc, for what name.Right looks for. -/
def idxP : List T → Option T
  | [.v (.string s), .v (.func (.func f) a b), .v (.bool truth)] =>
    if f = F_name_Right_1 ∧ a.size = 0 ∧ b.size = 0 then some (.v (.int .i64 (Lib.idxFunc (fun c => !letterB c) truth s))) else none
  | _ => none

/-- Is a place among a map's values? -/
def findV (ino k : Int) : List T → Option Bool
  | [] => some false
  | _ :: .agg [.v (.int .i64 a), .v (.int .i64 b)] :: es => (findV ino k es).map fun r => (a == ino && b == k) || r
  | _ => none

/-- The small code alone. -/
def E0 : Env := ⟨code, fun _ => none⟩

/-- claim.Valid: whatever order the map is ranged over in. -/
def valP : List T → Option T
  | [.sl g n cs, bl, .v (.int .i64 ino), .v (.int .i64 k)] =>
    match callN E0 (200 + 20 * n) (ioBase + F_claim_owners) [.tup [.sl g n cs, bl], .tup []] with
    | some (.tup [.mref l, .tup outs]) => match decB (outs.getD l .undef) with
      | some es => (findV ino k es).map fun b => .v (.bool b)
      | none => none
    | _ => none
  | _ => none

def prim (f : FuncId) : Option (List T → Option T) :=
  if f = ioBase + F_slices_Chunk_byte_1 then some chunkP else if f = F_strings_indexFunc then some idxP else if f = F_claim_Valid then some valP else none
def E : Env := ⟨code, prim⟩
end Go.Vi.Zz
end
section
/-
  Layouts: what may be, where a layer begins.
-/
set_option maxRecDepth 100000
set_option linter.unusedSimpArgs false
set_option linter.unusedVariables false
namespace Go.Vi.Sz
open Go Go.Vi Go.Vi.Zz

structure Geo where
  lowers : Int
  inodes : Int
  blocks : Int
  log : Int
deriving DecidableEq

def eG (g : Geo) : List T := [.v (.int .i64 g.lowers), .v (.int .i64 g.inodes), .v (.int .i64 g.blocks), .v (.int .i64 g.log)]
@[simp] theorem eG_len (g : Geo) : (eG g).length = 4 := rfl
@[simp] theorem eG_closed (g : Geo) : closedL (eG g) = true := rfl
@[simp] theorem eG_strip (d : Nat) (g : Geo) : stripL d (eG g) = eG g := by simp [eG]
@[simp] theorem eG_close (bx k) (g : Geo) : (eG g).mapM (close bx (k + 1)) = some (eG g) := by simp [eG]
@[simp] theorem eG_noRef (s) (g : Geo) : noRefL s (eG g) = true := by simp [eG]
@[simp] theorem eG_hasRef (g : Geo) : hasRefL (eG g) = false := by simp [eG]
@[simp] theorem eG_one (g : Geo) : oneL (eG g) = true := rfl
@[simp] theorem eG0 (g : Geo) : nthO (eG g) 0 = some (.v (.int .i64 g.lowers)) := rfl
@[simp] theorem eG1 (g : Geo) : nthO (eG g) 1 = some (.v (.int .i64 g.inodes)) := rfl
@[simp] theorem eG2 (g : Geo) : nthO (eG g) 2 = some (.v (.int .i64 g.blocks)) := rfl
@[simp] theorem eG3 (g : Geo) : nthO (eG g) 3 = some (.v (.int .i64 g.log)) := rfl
@[simp] theorem eG_all (g : Geo) : one? true 4 (eG g) 0 = some (.agg (eG g)) := rfl
@[simp] theorem weak_eG (g : Geo) : weakL (eG g) = eG g := by simp [eG]
@[simp] theorem fams_eG (g : Geo) : famsL (eG g) = [] := by simp [eG]
@[simp] theorem remap_eG (ρ η) (g : Geo) : remapL ρ η (eG g) = eG g := by simp [eG]
@[simp] theorem import_eG (d) (g : Geo) : importL d (eG g) = eG g := by simp [eG]

def inI (n low high : Int) : Bool := decide (low ≤ n) && decide (n ≤ high)
def okG (g : Geo) : Bool := inI g.lowers 1 3 && inI g.inodes 4 24 && inI g.blocks 1 60 && inI g.log 1 64

theorem within_ev (n low high : Int) : Ev E F_geo_within [.v (.int .i64 n), .v (.int .i64 low), .v (.int .i64 high)] (.v (.bool (inI n low high))) := by
  refine ev_of (fn := c_geo_within) rfl (by decide) rfl rfl rfl ?_
  unfold inI
  simp [c_geo_within]
  repeat' (refine g_split (fun h => ?_) (fun h => ?_) <;> simp [*])

theorem check_ev (g : Geo) : Ev E F_geo_Check [.agg (eG g)] (.v (.int .i64 (if okG g then 0 else 1))) := by
  refine ev_of (fn := c_geo_Check) rfl (by decide) rfl rfl rfl ?_
  have h1 := callR_some (within_ev g.lowers 1 3)
  have h2 := callR_some (within_ev g.inodes 4 24)
  have h3 := callR_some (within_ev g.blocks 1 60)
  have h4 := callR_some (within_ev g.log 1 64)
  simp [c_geo_Check, h1]
  repeat' (first | refine g_split (fun h => ?_) (fun h => ?_) | refine condM_split (fun h => ?_) (fun h => ?_)) <;> simp [*, okG]

theorem rcheck_ev (g : Geo) : Ev E F_ref06_Check [.agg (eG g)] (.v (.int .i64 (if okG g then 0 else 1))) := by
  refine ev_of (fn := c_ref06_Check) rfl (by decide) rfl rfl rfl ?_
  simp [c_ref06_Check]
  repeat' (first | refine g_split (fun h => ?_) (fun h => ?_) | refine condM_split (fun h => ?_) (fun h => ?_)) <;> simp [*, okG, inI]
  all_goals (simp only [decide_eq_true_eq, decide_eq_false_iff_not] at *; omega)

theorem okG_spec {g : Geo} (h : okG g = true) : (1 ≤ g.lowers ∧ g.lowers ≤ 3) ∧ (4 ≤ g.inodes ∧ g.inodes ≤ 24) ∧ (1 ≤ g.blocks ∧ g.blocks ≤ 60) ∧ (1 ≤ g.log ∧ g.log ≤ 64) := by
  simp only [okG, inI, Bool.and_eq_true, decide_eq_true_eq] at h
  omega
theorem wrap_sm {n : Int} (h1 : -1000000 ≤ n) (h2 : n ≤ 1000000) : IntKind.i64.wrap n = n := wrap_ok (by omega) (by omega)

/-- How many sectors a layer takes. -/
def layerI (g : Geo) : Int := 1 + g.inodes + g.blocks

theorem layer_ev (g : Geo) (h : okG g = true) : Ev E F_geo_layout_layer [.agg (eG g)] (.v (.int .i64 (layerI g))) := by
  refine ev_of (fn := c_geo_layout_layer) rfl (by decide) rfl rfl rfl ?_
  have hs := okG_spec h
  have w1 : IntKind.i64.wrap (1 + g.inodes) = 1 + g.inodes := wrap_sm (by omega) (by omega)
  have w2 : IntKind.i64.wrap (1 + g.inodes + g.blocks) = 1 + g.inodes + g.blocks := wrap_sm (by omega) (by omega)
  clear hs
  simp [c_geo_layout_layer, w1, w2, layerI]
theorem rlayer_ev (g : Geo) (h : okG g = true) : Ev E F_ref06_Layer [.agg (eG g)] (.v (.int .i64 (layerI g))) := by
  refine ev_of (fn := c_ref06_Layer) rfl (by decide) rfl rfl rfl ?_
  have hs := okG_spec h
  have w1 : IntKind.i64.wrap (1 + g.inodes) = 1 + g.inodes := wrap_sm (by omega) (by omega)
  have w2 : IntKind.i64.wrap (1 + g.inodes + g.blocks) = 1 + g.inodes + g.blocks := wrap_sm (by omega) (by omega)
  clear hs
  simp [c_ref06_Layer, w1, w2, layerI]
theorem layerI_le {g : Geo} (h : okG g = true) : 6 ≤ layerI g ∧ layerI g ≤ 85 := by
  have := okG_spec h
  unfold layerI
  omega
def logI (g : Geo) : Int := 1 + (g.lowers + 1) * layerI g
theorem mul_le3 {a b : Int} (h0 : 0 ≤ a) (h1 : a ≤ 4) (h2 : 0 ≤ b) (h3 : b ≤ 85) : 0 ≤ a * b ∧ a * b ≤ 340 :=
  ⟨Int.mul_nonneg h0 h2, by have := Int.mul_le_mul h1 h3 h2 (by omega : (0 : Int) ≤ 4); omega⟩

theorem log_ev (g : Geo) (h : okG g = true) : Ev E F_geo_layout_log [.agg (eG g)] (.v (.int .i64 (logI g))) := by
  refine ev_of (fn := c_geo_layout_log) rfl (by decide) rfl rfl rfl ?_
  have hs := okG_spec h
  have hl := layerI_le h
  have hm := mul_le3 (a := g.lowers + 1) (b := layerI g) (by omega) (by omega) (by omega) (by omega)
  have w1 : IntKind.i64.wrap (g.lowers + 1) = g.lowers + 1 := wrap_sm (by omega) (by omega)
  have w2 : IntKind.i64.wrap ((g.lowers + 1) * layerI g) = (g.lowers + 1) * layerI g := wrap_sm (by omega) (by omega)
  have w3 : IntKind.i64.wrap (1 + (g.lowers + 1) * layerI g) = 1 + (g.lowers + 1) * layerI g := wrap_sm (by omega) (by omega)
  clear hs hl hm
  have hc := callR_some (layer_ev g h)
  simp [c_geo_layout_log, hc, w1, w2, w3, logI]

def totalI (g : Geo) : Int := if okG g then logI g + g.log else 0
theorem logI_le {g : Geo} (h : okG g = true) : 1 ≤ logI g ∧ logI g ≤ 341 := by
  have hs := okG_spec h
  have hl := layerI_le h
  have hm := mul_le3 (a := g.lowers + 1) (b := layerI g) (by omega) (by omega) (by omega) (by omega)
  unfold logI
  omega
theorem total_ev (g : Geo) : Ev E F_geo_Total [.agg (eG g)] (.v (.int .i64 (totalI g))) := by
  refine ev_of (fn := c_geo_Total) rfl (by decide) rfl rfl rfl ?_
  have hc := callR_some (check_ev g)
  unfold totalI
  cases h : okG g
  · simp [c_geo_Total, hc, h]
  · have hl := callR_some (log_ev g h)
    have hw : IntKind.i64.wrap (logI g + g.log) = logI g + g.log := by
      have := logI_le h
      have := okG_spec h
      exact wrap_sm (by omega) (by omega)
    simp [c_geo_Total, hc, h, hl, hw]
theorem rtotal_ev (g : Geo) : Ev E F_ref06_Total [.agg (eG g)] (.v (.int .i64 (totalI g))) := by
  refine ev_of (fn := c_ref06_Total) rfl (by decide) rfl rfl rfl ?_
  have hc := callR_some (rcheck_ev g)
  unfold totalI
  cases h : okG g
  · simp [c_ref06_Total, hc, h]
  · have hs := okG_spec h
    have hl := layerI_le h
    have hm := mul_le3 (a := g.lowers + 1) (b := layerI g) (by omega) (by omega) (by omega) (by omega)
    have w1 : IntKind.i64.wrap (g.lowers + 1) = g.lowers + 1 := wrap_sm (by omega) (by omega)
    have w2 : IntKind.i64.wrap ((g.lowers + 1) * layerI g) = (g.lowers + 1) * layerI g := wrap_sm (by omega) (by omega)
    have w3 : IntKind.i64.wrap (1 + (g.lowers + 1) * layerI g) = 1 + (g.lowers + 1) * layerI g := wrap_sm (by omega) (by omega)
    have w4 : IntKind.i64.wrap (1 + (g.lowers + 1) * layerI g + g.log) = 1 + (g.lowers + 1) * layerI g + g.log := wrap_sm (by omega) (by omega)
    clear hs hl hm
    have hl := callR_some (rlayer_ev g h)
    simp [c_ref06_Total, hc, h, hl, w1, w2, w3, w4, logI]

/-- Where a layer begins. -/
def startI (g : Geo) (layer : Int) : Int := if okG g && inI layer 0 g.lowers then (if layer = 0 then 1 + g.lowers * layerI g else 1 + (layer - 1) * layerI g) else -1

theorem startI_some {g : Geo} {layer : Int} (h : okG g = true) (h' : inI layer 0 g.lowers = true) : startI g layer = if layer = 0 then 1 + g.lowers * layerI g else 1 + (layer - 1) * layerI g := by
  unfold startI; simp [h, h']
theorem startI_bad {g : Geo} {layer : Int} (h : okG g = false ∨ inI layer 0 g.lowers = false) : startI g layer = -1 := by
  unfold startI
  rcases h with h | h <;> simp [h]

theorem start_ev (g : Geo) (layer : Int) : Ev E F_geo_layout_start [.agg (eG g), .v (.int .i64 layer)] (.v (.int .i64 (startI g layer))) := by
  refine ev_of (fn := c_geo_layout_start) rfl (by decide) rfl rfl rfl ?_
  have hc := callR_some (check_ev g)
  have hw := callR_some (within_ev layer 0 g.lowers)
  cases h : okG g
  · simp [c_geo_layout_start, hc, h, startI_bad (.inl h)]
  · cases h' : inI layer 0 g.lowers
    · simp [c_geo_layout_start, hc, h, hw, h', startI_bad (.inr h')]
    · have hl := callR_some (layer_ev g h)
      have hg := callR_some (log_ev g h)
      have hle := layerI_le h
      have hs := okG_spec h
      have hge := logI_le h
      have hin : 0 ≤ layer ∧ layer ≤ g.lowers := by simpa [inI] using h'
      have w1 : IntKind.i64.wrap (logI g - layerI g) = 1 + g.lowers * layerI g := by
        have e : logI g - layerI g = 1 + g.lowers * layerI g := by unfold logI; rw [Int.add_mul]; omega
        rw [e]
        have hm := mul_le3 (a := g.lowers) (b := layerI g) (by omega) (by omega) (by omega) (by omega)
        exact wrap_sm (by omega) (by omega)
      rw [startI_some h h']
      by_cases h0 : layer = 0
      · subst h0
        clear hs hle hge hin
        simp [c_geo_layout_start, hc, h, hw, h', hl, hg, w1]
      · have hm := mul_le3 (a := layer - 1) (b := layerI g) (by omega) (by omega) (by omega) (by omega)
        have w2 : IntKind.i64.wrap (layer - 1) = layer - 1 := wrap_sm (by omega) (by omega)
        have w3 : IntKind.i64.wrap ((layer - 1) * layerI g) = (layer - 1) * layerI g := wrap_sm (by omega) (by omega)
        have w4 : IntKind.i64.wrap (1 + (layer - 1) * layerI g) = 1 + (layer - 1) * layerI g := wrap_sm (by omega) (by omega)
        clear hs hle hge hin hm w1
        have hb : (layer == 0) = false := by simpa using h0
        simp [c_geo_layout_start, hc, h, hw, h', hl, hg, h0, hb, w2, w3, w4]

theorem bitmap_ev (g : Geo) (layer : Int) : Ev E F_geo_Bitmap [.agg (eG g), .v (.int .i64 layer)] (.v (.int .i64 (startI g layer))) := by
  refine ev_of (fn := c_geo_Bitmap) rfl (by decide) rfl rfl rfl ?_
  have hc := callR_some (start_ev g layer)
  simp [c_geo_Bitmap, hc]

theorem rstart_ev (g : Geo) (layer : Int) : Ev E F_ref06_Start [.agg (eG g), .v (.int .i64 layer)] (.v (.int .i64 (startI g layer))) := by
  refine ev_of (fn := c_ref06_Start) rfl (by decide) rfl rfl rfl ?_
  have hc := callR_some (rcheck_ev g)
  cases h : okG g
  · simp [c_ref06_Start, hc, h, startI_bad (.inl h)]
  · cases h' : inI layer 0 g.lowers
    · rw [startI_bad (.inr h')]
      have hn : layer < 0 ∨ g.lowers < layer := by
        have : ¬ (0 ≤ layer ∧ layer ≤ g.lowers) := by simpa [inI] using h'
        omega
      by_cases h1 : layer < 0
      · simp [c_ref06_Start, hc, h, h1]
      · have h2 : g.lowers < layer := by omega
        simp [c_ref06_Start, hc, h, h1, h2]
    · have hl := callR_some (rlayer_ev g h)
      have hle := layerI_le h
      have hs := okG_spec h
      have hin : 0 ≤ layer ∧ layer ≤ g.lowers := by simpa [inI] using h'
      have h1 : ¬ layer < 0 := by omega
      have h2 : ¬ g.lowers < layer := by omega
      rw [startI_some h h']
      by_cases h0 : layer = 0
      · have hm := mul_le3 (a := g.lowers) (b := layerI g) (by omega) (by omega) (by omega) (by omega)
        have w2 : IntKind.i64.wrap (g.lowers * layerI g) = g.lowers * layerI g := wrap_sm (by omega) (by omega)
        have w3 : IntKind.i64.wrap (1 + g.lowers * layerI g) = 1 + g.lowers * layerI g := wrap_sm (by omega) (by omega)
        clear hs hle hin hm
        subst h0
        simp [c_ref06_Start, hc, h, hl, h2, w2, w3]
      · have hm := mul_le3 (a := layer - 1) (b := layerI g) (by omega) (by omega) (by omega) (by omega)
        have w2 : IntKind.i64.wrap (layer - 1) = layer - 1 := wrap_sm (by omega) (by omega)
        have w3 : IntKind.i64.wrap ((layer - 1) * layerI g) = (layer - 1) * layerI g := wrap_sm (by omega) (by omega)
        have w4 : IntKind.i64.wrap (1 + (layer - 1) * layerI g) = 1 + (layer - 1) * layerI g := wrap_sm (by omega) (by omega)
        clear hs hle hin hm
        have hb : (layer == 0) = false := by simpa using h0
        simp [c_ref06_Start, hc, h, hl, h1, h2, h0, hb, w2, w3, w4]
end Go.Vi.Sz
end
section
/-
  The reference's Cut.
-/
set_option maxRecDepth 100000
set_option linter.unusedSimpArgs false
set_option linter.unusedVariables false
namespace Go.Vi.Sz
open Go Go.Vi Go.Vi.Zz

def eB (b : UInt8) : List T := [.v (.int .u8 b.toNat)]
def sl {α : Type} (enc : α → List T) (l : List α) : T := .sl .any l.length (l.flatMap enc)
@[simp] theorem eB_len (b : UInt8) : (eB b).length = 1 := rfl
theorem eB_drop (n : Nat) : ∀ l : List UInt8, (l.flatMap eB).drop n = (l.drop n).flatMap eB := by
  induction n with
  | zero => intro l; simp
  | succ n ih => intro l; cases l <;> simp [eB, ← ih]
theorem eB_take (n : Nat) : ∀ l : List UInt8, (l.flatMap eB).take n = (l.take n).flatMap eB := by
  induction n with
  | zero => intro l; simp
  | succ n ih => intro l; cases l <;> simp [eB, ← ih]
@[simp] theorem one_sl' {α : Type} (enc : α → List T) (l : List α) : (sl enc l).one = true := rfl
@[simp] theorem strip_sl' {α : Type} (d) (enc : α → List T) (l : List α) : (sl enc l).strip d = sl enc l := by simp [sl]
@[simp] theorem remap_sl' {α : Type} (ρ η) (enc : α → List T) (l : List α) : (sl enc l).remap ρ η = sl enc l := by simp [sl]
@[simp] theorem import_sl' {α : Type} (d) (enc : α → List T) (l : List α) : (sl enc l).import d = sl enc l := by simp [sl]
@[simp] theorem close_sl' {α : Type} (bx k) (enc : α → List T) (l : List α) : close bx (k + 1) (sl enc l) = some (sl enc l) := by simp [sl]
@[simp] theorem noRef_sl' {α : Type} (s) (enc : α → List T) (l : List α) : (sl enc l).noRef s = true := by simp [sl]
@[simp] theorem hasRef_sl' {α : Type} (enc : α → List T) (l : List α) : (sl enc l).hasRef = false := by simp [sl]
@[simp] theorem closed_sl' {α : Type} (enc : α → List T) (l : List α) : (sl enc l).closed = true := by simp [sl]
@[simp] theorem fams_sl' {α : Type} (enc : α → List T) (l : List α) : (sl enc l).fams = [] := by simp [sl]
@[simp] theorem cellsV_sl' {α : Type} (enc : α → List T) (l : List α) : cellsV (sl enc l) = [sl enc l] := rfl
@[simp] theorem cellsD_sl' {α : Type} (enc : α → List T) (l : List α) : cellsD (sl enc l) = true := rfl
@[simp] theorem lenT_sl' {α : Type} (enc : α → List T) (l : List α) : lenT false (sl enc l) = some (.v (.int .i64 l.length)) := rfl
@[simp] theorem weak_sl' {α : Type} (enc : α → List T) (l : List α) : (sl enc l).weak = sl enc l := by simp [sl]

@[simp] theorem cellsOf_sl' {α : Type} (enc : α → List T) (l : List α) : cellsOf (sl enc l) = some [sl enc l] := rfl
@[simp] theorem strip_own (d k : Nat) (e : TypeId) (n : Nat) (cs : List T) : (T.sl (.own k e) n cs).strip d = .sl (if hit d k then .any else .own k e) n cs := by simp only [T.strip]
@[simp] theorem hasRef_own (k : Nat) (e : TypeId) (n : Nat) (cs : List T) : (T.sl (.own k e) n cs).hasRef = false := by simp only [T.hasRef]
def eS (c : List UInt8) : List T := [sl eB c]
@[simp] theorem eS_len (c : List UInt8) : (eS c).length = 1 := rfl
theorem eS_lenF (l : List (List UInt8)) : (l.flatMap eS).length = l.length := by rw [flat_len eS_len l]; simp
theorem eS_closedF (l : List (List UInt8)) : closedL (l.flatMap eS) = true := by
  induction l with
  | nil => rfl
  | cons c l ih => simp [eS, ih]
/-- Sectors, from one on. -/
def secs (bs : List UInt8) (at_ : Nat) (n : Nat) : List (List UInt8) := (List.range n).map fun i => (bs.drop (64 * (at_ + i))).take 64
theorem secs_succ (bs : List UInt8) (at_ n : Nat) : secs bs at_ (n + 1) = secs bs at_ n ++ [(bs.drop (64 * (at_ + n))).take 64] := by simp [secs, List.range_succ]
@[simp] theorem secs_len (bs : List UInt8) (at_ n : Nat) : (secs bs at_ n).length = n := by simp [secs]

/-- Sectors that were appended. -/
def slS (k : Nat) (l : List (List UInt8)) : T := if l = [] then .sl .clip 0 [] else .sl (.own k 37) l.length (l.flatMap eS)

@[simp] theorem slS_nil (k) : slS k [] = .sl .clip 0 [] := rfl
theorem slS_ne (k) {l : List (List UInt8)} (h : l ≠ []) : slS k l = .sl (.own k 37) l.length (l.flatMap eS) := by simp [slS, h]
@[simp] theorem slS_hasRef (k l) : (slS k l).hasRef = false := by unfold slS; split <;> simp [T.hasRef]
theorem slS_fams (k l) : (slS k l).fams = if l = [] then [] else [k] := by unfold slS; split <;> simp
@[simp] theorem slS_nodup (k l) : (slS k l).fams.Nodup := by rw [slS_fams]; split <;> simp
@[simp] theorem slS_strip (d k l) : (slS k l).strip d = if hit d k = true then (if l = [] then .sl .clip 0 [] else .sl .any l.length (l.flatMap eS)) else slS k l := by
  unfold slS
  split
  · simp
  · simp only [T.strip]
    split <;> rfl
theorem slS_remap (k) (l : List (List UInt8)) : (slS k l).remap (fun _ => none) (fun x => List.idxOf? x (slS k l).fams) = slS 0 l := by
  unfold slS
  split
  · simp
  · simp [T.remap, List.idxOf?]
@[simp] theorem slcT_eB (bs : List UInt8) (lo hi : Nat) : slcTV 1 (sl eB bs) (some lo) (some hi) (some (tLen (sl eB bs))) false = if lo ≤ hi ∧ hi ≤ bs.length then some (sl eB ((bs.drop lo).take (hi - lo))) else none := by
  unfold slcTV
  simp only [sl, tLen, Nat.mul_one, eB_drop, eB_take]
  by_cases h : lo ≤ hi ∧ hi ≤ bs.length
  · have hl : ((bs.drop lo).take (hi - lo)).length = hi - lo := by simp; omega
    simp [h, hl]
  · simp [h]
theorem startI_ok {g : Geo} {layer : Int} (h : ¬ startI g layer < 0) : okG g = true ∧ (0 ≤ layer ∧ layer ≤ g.lowers) := by
  have h1 : (okG g && inI layer 0 g.lowers) = true := by
    cases hb : (okG g && inI layer 0 g.lowers)
    · unfold startI at h; rw [hb] at h; simp at h
    · rfl
  simp only [Bool.and_eq_true] at h1
  exact ⟨h1.1, by simpa [inI] using h1.2⟩
theorem start_fit {g : Geo} {layer : Int} (h : ¬ startI g layer < 0) : startI g layer + layerI g ≤ totalI g ∧ totalI g ≤ 405 ∧ startI g layer ≤ 405 := by
  obtain ⟨h1, h2⟩ := startI_ok h
  have hl := layerI_le h1
  have hs := okG_spec h1
  have hg := logI_le h1
  have ht : totalI g = logI g + g.log := by unfold totalI; rw [if_pos h1]
  have hlog : logI g = 1 + g.lowers * layerI g + layerI g := by unfold logI; rw [Int.add_mul]; omega
  have hst := startI_some h1 (layer := layer) (by simp [inI, h2])
  by_cases h0 : layer = 0
  · rw [if_pos h0] at hst
    omega
  · rw [if_neg h0] at hst
    have hle : (layer - 1) * layerI g ≤ g.lowers * layerI g := Int.mul_le_mul_of_nonneg_right (by omega) (by omega)
    omega
theorem slS_snoc (k) (l : List (List UInt8)) (c : List UInt8) : slS k (l ++ [c]) = .sl (.own k 37) (l.length + 1) (l.flatMap eS ++ eS c) := by simp [slS]

theorem rcut_ev (g : Geo) (bs : List UInt8) (layer : Int) (hl : bs.length ≤ 12800) : Ev E F_ref12_Cut [.agg (eG g), sl eB bs, .v (.int .i64 layer)]
    (if startI g layer < 0 ∨ (bs.length : Int) ≠ 64 * totalI g then .sl .nil 0 [] else slS 0 (secs bs (startI g layer).toNat (layerI g).toNat)) := by
  refine ev_of (fn := c_ref12_Cut) rfl (by decide) rfl rfl rfl ?_
  have hs := callR_some (rstart_ev g layer)
  have ht := callR_some (rtotal_ev g)
  by_cases h : startI g layer < 0
  · rw [if_pos (.inl h)]
    simp [c_ref12_Cut, hs, ht, h]
  · obtain ⟨hok, hla⟩ := startI_ok h
    have hf := start_fit h
    have hlb := layerI_le hok
    have hw : IntKind.i64.wrap (64 * totalI g) = 64 * totalI g := wrap_sm (by omega) (by omega)
    by_cases h2 : (bs.length : Int) = 64 * totalI g
    · rw [if_neg (fun hh => hh.elim h fun h3 => h3 h2)]
      obtain ⟨A, hA⟩ : ∃ A : Nat, startI g layer = A := ⟨(startI g layer).toNat, by omega⟩
      obtain ⟨L, hL⟩ : ∃ L : Nat, layerI g = L := ⟨(layerI g).toNat, by omega⟩
      have hy := callR_some (rlayer_ev g hok)
      rw [hA] at hs h hf
      rw [hA, hL, Int.toNat_natCast, Int.toNat_natCast]
      rw [hL] at hy hf
      have hfit : 64 * (A + L) ≤ bs.length := by omega
      simp [c_ref12_Cut, hs, ht, h, hw, h2]
      refine m_loop L (fun j σ => ∃ a b c d e, σ = ⟨[], [a, sl eB bs, b, .ref 0 0, c, .v (.int .i64 A), slS 344 (secs bs A j), .v (.int .i64 j), d, e], [some (eG g), none]⟩) ⟨_, _, _, _, _, rfl⟩ ?_
      rintro j σ hj ⟨a, b, c, d, e, rfl⟩
      by_cases hlt : j < L
      · have w1 : IntKind.i64.wrap ((A : Int) + j) = ((A + j : Nat) : Int) := by rw [← Int.natCast_add]; exact wrap_sm (by omega) (by omega)
        have w2 : IntKind.i64.wrap (64 * ((A + j : Nat) : Int)) = ((64 * (A + j) : Nat) : Int) := by rw [show (64 : Int) * ((A + j : Nat) : Int) = ((64 * (A + j) : Nat) : Int) by omega]; exact wrap_sm (by omega) (by omega)
        have w3 : IntKind.i64.wrap (((64 * (A + j) : Nat) : Int) + 64) = ((64 * (A + j) + 64 : Nat) : Int) := by rw [show (((64 * (A + j) : Nat) : Int) + 64) = ((64 * (A + j) + 64 : Nat) : Int) by omega]; exact wrap_sm (by omega) (by omega)
        have w4 : IntKind.i64.wrap ((j : Int) + 1) = (j : Int) + 1 := wrap_sm (by omega) (by omega)
        have hfj : 64 * (A + j) + 64 ≤ bs.length := by omega
        obtain ⟨hr1, hr2, hr3, hr4⟩ : (j + 1) * 24 ≤ room ∧ j + 1 ≤ room ∧ 24 ≤ room ∧ 1 ≤ room := by unfold room; omega
        have hsn : slS 344 (secs bs A (j + 1)) = .sl (.own 344 37) (j + 1) ((secs bs A j).flatMap eS ++ [sl eB ((bs.drop (64 * (A + j))).take 64)]) := by rw [secs_succ, slS_snoc, secs_len]; rfl
        have Hf := Hd.mk hfit
        have Hff := Hd.mk hf
        clear hfit hf hlb
        have hdiff : 64 * (A + j) + 64 - 64 * (A + j) = 64 := by omega
        rcases Nat.eq_zero_or_pos j with hj0 | hj0
        · have hs0 : secs bs A j = [] := by subst hj0; rfl
          have hsn : slS 344 (secs bs A (j + 1)) = .sl (.own 344 37) 1 [sl eB ((bs.drop (64 * (A + j))).take 64)] := by rw [hsn, hs0]; subst hj0; rfl
          rw [hs0, slS_nil]
          simp [-List.length_flatMap, -Int.natCast_add, -Int.natCast_mul, hy, hlt, w1, w2, w3, w4, hfj, hdiff, eS_lenF, eS_closedF, hit, hr1, hr2, hr3, hr4, hsn]
          rfl
        · have hsl : slS 344 (secs bs A j) = .sl (.own 344 37) j ((secs bs A j).flatMap eS) := by rw [slS_ne _ (by intro hh; have := congrArg List.length hh; simp at this; omega)]; simp
          rw [hsl]
          simp [-List.length_flatMap, -Int.natCast_add, -Int.natCast_mul, hy, hlt, w1, w2, w3, w4, hfj, hdiff, eS_lenF, eS_closedF, hit, hr1, hr2, hr3, hr4, hsn]
          rfl
      · have : j = L := by omega
        subst this
        have hh : hit 52 344 = false := by decide
        simp [hy, hh, slS_remap]
    · rw [if_pos (.inr h2)]
      have h2' : ((bs.length : Int) != 64 * totalI g) = true := by simpa using h2
      simp [c_ref12_Cut, hs, ht, h, hw, h2']
end Go.Vi.Sz
end
section
/-
  The program's Cut.
-/
set_option maxRecDepth 100000
set_option linter.unusedSimpArgs false
set_option linter.unusedVariables false
namespace Go.Vi.Sz
open Go Go.Vi Go.Vi.Zz

theorem chunk_ev (l : List UInt8) : Ev E F_slices_Chunk_byte [sl eB l, .v (.int .i64 64)] (.clo (.func F_slices_Chunk_byte_1) [] [.ptr [sl eB l] 0, .ptr [.v (.int .i64 64)] 0]) := by
  refine ev_of (fn := c_slices_Chunk_byte) rfl (by decide) rfl rfl rfl ?_
  simp [c_slices_Chunk_byte]

/-- A slice without room. -/
def slC (c : List UInt8) : T := .sl .clip c.length (c.flatMap eB)
theorem eB_lenF (l : List UInt8) : (l.flatMap eB).length = l.length := by rw [flat_len eB_len l]; simp

theorem eB_isV (l : List UInt8) : (l.flatMap eB).all T.isV = true := by
  induction l with
  | nil => rfl
  | cons b l ih =>
    have e : (b :: l).flatMap eB = .v (.int .u8 b.toNat) :: l.flatMap eB := rfl
    rw [e, List.all_cons, ih]
    rfl
theorem chunks_ev (l : List UInt8) (m : Nat) (hm : l.length = 64 * m) (hb : l.length ≤ 1048576) : Ev E (ioBase + F_slices_Chunk_byte_1) [.tup [.ptr [sl eB l] 0, .ptr [.v (.int .i64 64)] 0]] (.tup ((secs l 0 m).map fun c => .tup [slC c])) := by
  refine ⟨1, ?_⟩
  have hq : (l.length + 64 - 1) / 64 = m := by omega
  have hp : chunkP [.tup [.ptr [sl eB l] 0, .ptr [.v (.int .i64 64)] 0]] = some (.tup ((secs l 0 m).map fun c => .tup [slC c])) := by
    simp only [chunkP, sl]
    rw [if_pos ⟨by omega, by omega, hb, eB_lenF l, eB_isV l⟩]
    have h64 : Int.toNat 64 = 64 := rfl
    simp only [h64, hq, secs, List.map_map, Option.some.injEq, T.tup.injEq]
    refine List.map_congr_left fun i hi => ?_
    have hi : i < m := List.mem_range.1 hi
    have hl : ((l.drop (64 * (0 + i))).take 64).length = 64 := by simp; omega
    simp only [Function.comp, slC, hl, eB_drop, eB_take, show i * 64 = 64 * (0 + i) by omega, show min 64 (l.length - 64 * (0 + i)) = 64 by omega]
  simp only [callN, E, prim, if_true]
  exact hp

theorem eB_mapClose (bx : List (Option (List T))) (k : Nat) (l : List UInt8) : (l.flatMap eB).mapM (close bx (k + 1)) = some (l.flatMap eB) := by
  induction l with
  | nil => rfl
  | cons b l ih =>
    have e : (b :: l).flatMap eB = .v (.int .u8 b.toNat) :: l.flatMap eB := rfl
    rw [e, List.mapM_cons, ih]
    rfl
theorem clone_ev (c : List UInt8) (h0 : c ≠ []) (hc : c.length ≤ 12800) : Ev E F_slices_Clone_byte [sl eB c] (sl eB c) := by
  obtain ⟨n, hn⟩ : ∃ n, c.length = n + 1 := ⟨c.length - 1, by have := List.length_pos_iff.2 h0; omega⟩
  have hr : n + 1 ≤ room := by unfold room; omega
  refine ev_of_split (fn := c_slices_Clone_byte) rfl (by decide) rfl (by simp [sl, splits, hn]) rfl ?_
  have he : eqnilO false (T.sl Tag.any (n + 1) (c.flatMap eB)) = some (.v (.bool false)) := rfl
  have hcl : closedL (c.flatMap eB) = true := by clear hn hc h0 he; induction c with
    | nil => rfl
    | cons x c ih => simp [eB, ih]
  simp [-List.length_flatMap, c_slices_Clone_byte, sl, hn, eB_lenF, hr, he, hcl, hit]
  refine o_appendB _ _ _ _ _ _ _ _ _ _ _ ?_
  simp [-List.length_flatMap, eB_lenF, hn, hr]
  have hcan : canonL 0 [CM.box 0] [T.bsl 0 0 (n + 1) (n + 1)] = [T.bsl 0 0 (n + 1) (n + 1)] := rfl
  rw [hcan]
  show (if true = true then close [some (c.flatMap eB), none] 8 (T.bsl 0 0 (n + 1) (n + 1)) else _) = _
  rw [if_pos rfl]
  have htk : ((c.flatMap eB).drop 0).take (n + 1) = c.flatMap eB := by rw [List.drop_zero]; exact List.take_of_length_le (by rw [eB_lenF]; omega)
  have hcl8 : close [some (c.flatMap eB), none] 8 (T.bsl 0 0 (n + 1) (n + 1)) = ((((c.flatMap eB).drop 0).take (n + 1)).mapM (close [some (c.flatMap eB), none] 7)).map (T.sl .any (n + 1) ·) := rfl
  rw [hcl8, htk, eB_mapClose]
  rfl
@[simp] theorem slC_close (bx k c) : close bx (k + 1) (slC c) = some (sl eB c) := by simp [slC, sl, close]
@[simp] theorem slC_hasRef (c) : (slC c).hasRef = false := by simp [slC, T.hasRef]
@[simp] theorem slB_weak (c) : (sl eB c).weak = sl eB c := by simp [sl]
@[simp] theorem slC_strip (d c) : (slC c).strip d = slC c := by simp [slC]

theorem cut_ev (g : Geo) (bs : List UInt8) (layer : Int) (hl : bs.length ≤ 12800) : Ev E F_branch_Cut [.agg (eG g), sl eB bs, .v (.int .i64 layer)]
    (if startI g layer < 0 ∨ (bs.length : Int) ≠ 64 * totalI g then .sl .nil 0 [] else slS 0 (secs bs (startI g layer).toNat (layerI g).toNat)) := by
  refine ev_of (fn := c_branch_Cut) rfl (by decide) rfl rfl rfl ?_
  have hs := callR_some (bitmap_ev g layer)
  have ht := callR_some (total_ev g)
  by_cases h : startI g layer < 0
  · rw [if_pos (.inl h)]
    simp [c_branch_Cut, hs, ht, h]
  · obtain ⟨hok, hla⟩ := startI_ok h
    have hf := start_fit h
    have hlb := layerI_le hok
    have hw : IntKind.i64.wrap (64 * totalI g) = 64 * totalI g := wrap_sm (by omega) (by omega)
    by_cases h2 : (bs.length : Int) = 64 * totalI g
    · rw [if_neg (fun hh => hh.elim h fun h3 => h3 h2)]
      obtain ⟨A, hA⟩ : ∃ A : Nat, startI g layer = A := ⟨(startI g layer).toNat, by omega⟩
      obtain ⟨L, hL⟩ : ∃ L : Nat, layerI g = L := ⟨(layerI g).toNat, by omega⟩
      rw [hA] at hs h hf
      rw [hA, hL, Int.toNat_natCast, Int.toNat_natCast]
      rw [hL] at hf hlb
      have hfit : 64 * (A + L) ≤ bs.length := by omega
      have hsm := okG_spec hok
      have w1 : IntKind.i64.wrap (1 + g.inodes) = 1 + g.inodes := wrap_sm (by omega) (by omega)
      have w2 : IntKind.i64.wrap (1 + g.inodes + g.blocks) = (L : Int) := by unfold layerI at hL; rw [hL]; exact wrap_sm (by omega) (by omega)
      have w3 : IntKind.i64.wrap (64 * (A : Int)) = ((64 * A : Nat) : Int) := by rw [show (64 : Int) * (A : Int) = ((64 * A : Nat) : Int) by omega]; exact wrap_sm (by omega) (by omega)
      have w4 : IntKind.i64.wrap ((A : Int) + (L : Int)) = ((A + L : Nat) : Int) := by rw [← Int.natCast_add]; exact wrap_sm (by omega) (by omega)
      have w5 : IntKind.i64.wrap (64 * ((A + L : Nat) : Int)) = ((64 * (A + L) : Nat) : Int) := by rw [show (64 : Int) * ((A + L : Nat) : Int) = ((64 * (A + L) : Nat) : Int) by omega]; exact wrap_sm (by omega) (by omega)
      have hc := callR_some (chunk_ev ((bs.drop (64 * A)).take (64 * (A + L) - 64 * A)))
      have hle : 64 * A ≤ 64 * (A + L) := by omega
      obtain ⟨hr1, hr2⟩ : L * 24 ≤ room ∧ L ≤ room := by unfold room; omega
      have Hf := Hd.mk hf
      have Hl := Hd.mk hlb
      clear hf hlb hsm
      simp [-List.length_flatMap, -Int.natCast_add, -Int.natCast_mul, c_branch_Cut, hs, ht, h, hw, h2, w1, w2, w3, w4, w5, hc, hle, hfit, hr1, hr2]
      have hh1 : hit 80 248 = false := by decide
      have himp : ∀ x : T, x = sl eB ((bs.drop (64 * A)).take (64 * (A + L) - 64 * A)) → T.import 40 (.clo (.func F_slices_Chunk_byte_1) [] [.ptr [x] 0, .ptr [.v (.int .i64 64)] 0]) = .clo (.func F_slices_Chunk_byte_1) [] [.ptr [x] 0, .ptr [.v (.int .i64 64)] 0] := fun x hx => by simp [T.import]
      rw [himp _ rfl]
      simp only [hh1]
      have hlen : ((bs.drop (64 * A)).take (64 * (A + L) - 64 * A)).length = 64 * L := by simp; omega
      refine m_range (f := F_slices_Chunk_byte_1) (caps := [.ptr [sl eB ((bs.drop (64 * A)).take (64 * (A + L) - 64 * A))] 0, .ptr [.v (.int .i64 64)] 0]) (cs := [.ptr [sl eB ((bs.drop (64 * A)).take (64 * (A + L) - 64 * A))] 0, .ptr [.v (.int .i64 64)] 0]) (ss := [])
        (fun j vars bx => vars = [T.agg (eG g), sl eB bs, T.v (Value.int IntKind.i64 layer), T.ref 0 0, T.sl Tag.nil 0 [], T.v (Value.int IntKind.i64 A), T.v (Value.int IntKind.i64 L), T.ref 2 0, T.undef, T.v (Value.bool false), .clo (.func F_slices_Chunk_byte_1) [] [.ptr [sl eB ((bs.drop (64 * A)).take (64 * (A + L) - 64 * A))] 0, .ptr [.v (.int .i64 64)] 0], T.undef] ∧
          bx = [some (eG g), none, some [if j = 0 then .sl (.own 248 37) 0 [] else .sl (.own 368 37) j ((secs bs A j).flatMap eS)], none])
        rfl ?_ ?_ (chunks_ev _ L hlen (by rw [hlen]; have := Hl.out; omega)) ?_ ?_ ?_
      · simp [T.refs, refsL, reach, sl]
      · simp [T.remap, remapL, sl, close]
      · simp [T.remap, remapL, sl, lendB, boxAt, List.range, List.range.loop]
      · rintro j t vars bx hy ⟨rfl, rfl⟩
        obtain ⟨c, hc1, rfl⟩ : ∃ c, (secs ((bs.drop (64 * A)).take (64 * (A + L) - 64 * A)) 0 L)[j]? = some c ∧ T.tup [slC c] = t := by simpa using hy
        refine ⟨_, rfl, rfl, ?_⟩
        obtain ⟨hjl, hce⟩ := List.getElem?_eq_some_iff.1 hc1
        rw [secs_len] at hjl
        have hce : (bs.drop (64 * (A + j))).take 64 = c := by
          rw [← hce]
          simp only [secs, List.getElem_map, List.getElem_range, List.drop_take, List.drop_drop, List.take_take]
          rw [show 64 * A + 64 * (0 + j) = 64 * (A + j) by omega, show min 64 (64 * (A + L) - 64 * A - 64 * (0 + j)) = 64 by omega]
        have hcl : c.length = 64 := by rw [← hce]; simp; omega
        have hclone := callR_some (clone_ev c (by intro hh; subst hh; simp at hcl) (by omega))
        have hsn : (secs bs A (j + 1)).flatMap eS = (secs bs A j).flatMap eS ++ [sl eB c] := by rw [secs_succ, hce]; simp [eS]
        obtain ⟨hr1, hr2, hr3, hr4⟩ : (j + 1) * 24 ≤ room ∧ j + 1 ≤ room ∧ 24 ≤ room ∧ 1 ≤ room := by
          have := Hl.out
          unfold room; omega
        by_cases hj0 : j = 0
        · have hs0 : secs bs A j = [] := by subst hj0; rfl
          rw [hs0] at hsn
          rw [hsn]
          simp [-List.length_flatMap, T.remap, remapL, setVars, shiftB, hclone, hj0, hit, hr1, hr2, hr3, hr4]
          simp [-List.length_flatMap, liveV, unshiftB, boxAt, T.remap, remapL]
        · rw [hsn]
          simp [-List.length_flatMap, T.remap, remapL, setVars, shiftB, hclone, hj0, hit, hr1, hr2, hr3, hr4, eS_lenF, eS_closedF]
          simp [-List.length_flatMap, liveV, unshiftB, boxAt, T.remap, remapL]
      · rintro vars bx ⟨rfl, rfl⟩
        have hsc : scalY ((secs ((bs.drop (64 * A)).take (64 * (A + L) - 64 * A)) 0 L).map fun c => T.tup [slC c]) = false := by
          obtain ⟨n, hn⟩ : ∃ n, L = n + 1 := ⟨L - 1, by have := Hl.out; omega⟩
          subst hn
          rw [secs_succ]
          simp [scalY, scal, slC]
        have hL0 : L ≠ 0 := by have := Hl.out; omega
        rw [hsc, List.length_map, secs_len]
        rw [slS_ne 0 (l := secs bs A L) (by intro hh; have := congrArg List.length hh; simp at this; omega), secs_len]
        simp [hL0]
    · rw [if_pos (.inr h2)]
      have h2' : ((bs.length : Int) != 64 * totalI g) = true := by simpa using h2
      simp [c_branch_Cut, hs, ht, h, hw, h2']
end Go.Vi.Sz
end
section
/-
  The statement BranchCuts, by the interpreter (given the closed run).
-/
set_option maxRecDepth 100000
set_option linter.unusedSimpArgs false
set_option linter.unusedVariables false
namespace Go.Vi.Sz
open Go Go.Vi Go.Vi.Zz

theorem bytesOf_eB (l : List UInt8) : bytesOf (l.flatMap eB) = some l := by
  induction l with
  | nil => rfl
  | cons b l ih =>
    have e : (b :: l).flatMap eB = .v (.int .u8 b.toNat) :: l.flatMap eB := rfl
    rw [e]
    simp [bytesOf, ih]
section
variable {E : Env} {k : List Fr} {Q : Out → Prop} {outs : List (Option Nat)} {rest : Ops} (rs vars : List T) (bx : List (Option (List T)))
theorem o_toStr (a : Opd) (c : List UInt8) (h : a.get ⟨rs, vars, bx⟩ = sl eB c) : O E ((none, .toStr a) :: rest) outs k ⟨rs, vars, bx⟩ Q = O E rest outs k ⟨snoc rs (.v (.string ⟨c.toArray⟩)), vars, bx⟩ Q := by
  have hr : runOp C0 ⟨rs, vars, bx⟩ (.toStr a) = some (.v (.string ⟨c.toArray⟩), ⟨rs, vars, bx⟩) := by
    simp only [runOp, h, sl]
    rw [if_pos (by rw [eB_lenF]), bytesOf_eB]
    rfl
  rw [o_pure rfl, hr, p1_some]
end

theorem bytesEq_ev (c : List UInt8) : Ev E F_bytes_Equal [sl eB c, sl eB c] (.v (.bool true)) := by
  refine ev_of (fn := c_bytes_Equal) rfl (by decide) rfl rfl rfl ?_
  simp [-List.length_flatMap, c_bytes_Equal]
  rw [o_toStr _ _ _ _ c rfl]
  simp [-List.length_flatMap]
  rw [o_toStr _ _ _ _ c rfl]
  simp [-List.length_flatMap]

@[simp] theorem iaddr_eS (l : List (List UInt8)) (kd : IntKind) (j : Int) : iaddrSO 1 (sl eS l) (.v (.int kd j)) = (if 0 ≤ j ∧ j.toNat < l.length then some (.ptr (l.flatMap eS) (j.toNat * 1)) else none) := rfl
@[simp] theorem nth_eS (l : List (List UInt8)) (k : Nat) (hk : k < l.length) : nthO (l.flatMap eS) k = some (sl eB l[k]) := by
  have := nthO_flat eS_len l k 0 hk (by omega)
  rw [Nat.mul_one, Nat.add_zero] at this
  rw [this]; rfl

theorem equalFunc_ev (l : List (List UInt8)) (hl : l.length ≤ 1000) : Ev E F_slices_EqualFunc_Lbyte [sl eS l, sl eS l, .v (.func (.func F_bytes_Equal) #[] #[])] (.v (.bool true)) := by
  refine ev_of (fn := c_slices_EqualFunc_Lbyte) rfl (by decide) rfl rfl rfl ?_
  simp [-List.length_flatMap, c_slices_EqualFunc_Lbyte]
  refine m_loop l.length (fun k σ => ∃ x a b c d e f g, σ = ⟨[], [x, sl eS l, .v (.func (.func F_bytes_Equal) #[] #[]), a, b, c, d, e, sl eS l, .v (.int .i64 l.length), .v (.int .i64 k), f, g], []⟩) ⟨_, _, _, _, _, _, _, _, rfl⟩ ?_
  rintro k σ hk ⟨x, a, b, c, d, e, f, g, rfl⟩
  by_cases hlt : k < l.length
  · have hw : IntKind.i64.wrap ((k : Int) + 1) = (k : Int) + 1 := wrap_ok (by omega) (by omega)
    have hc := callR_some (bytesEq_ev l[k])
    have hcal : calleeOf (.v (.func (.func F_bytes_Equal) #[] #[])) = some (F_bytes_Equal, [], []) := rfl
    simp [-List.length_flatMap, hlt, hw, hc, hcal]
  · have : k = l.length := by omega
    subst this
    simp [-List.length_flatMap]

@[simp] theorem slS_close (bx j k l) : close bx (j + 1) (slS k l) = some (sl eS l) := by
  unfold slS
  split
  · rename_i h; subst h; simp [close, sl]
  · simp [close, sl]
@[simp] theorem slS_import (d l) : (slS 0 l).import d = slS (8 * d) l := by
  unfold slS
  split
  · simp
  · simp [T.import]

theorem branchCuts_ev (haw : Ev E F_law12_awake [] (.v (.bool true))) (g : Geo) (bs : List UInt8) (layer : Int) (hl : bs.length ≤ 9223372036854775807) :
    Ev E F_law12_BranchCuts [.agg (eG g), sl eB bs, .v (.int .i64 layer)] (.v (.bool true)) := by
  refine ev_of (fn := c_law12_BranchCuts) rfl (by decide) rfl rfl rfl ?_
  have haw := callR_some haw
  by_cases h : 12800 < (bs.length : Int)
  · simp [-List.length_flatMap, c_law12_BranchCuts, h, haw]
  · have hp := callR_some (cut_ev g bs layer (by omega))
    have hq := callR_some (rcut_ev g bs layer (by omega))
    by_cases hc : startI g layer < 0 ∨ (bs.length : Int) ≠ 64 * totalI g
    · rw [if_pos hc] at hp hq
      have he := callR_some (equalFunc_ev [] (by simp))
      have e0 : sl eS [] = .sl .any 0 [] := rfl
      rw [e0] at he
      simp [-List.length_flatMap, c_law12_BranchCuts, h, haw, hp, hq, he]
    · rw [if_neg hc] at hp hq
      have hok := (startI_ok (fun hh => hc (.inl hh))).1
      have he := callR_some (equalFunc_ev (secs bs (startI g layer).toNat (layerI g).toNat) (by have := layerI_le hok; simp; omega))
      simp [-List.length_flatMap, c_law12_BranchCuts, h, haw, hp, hq, he, hit]
end Go.Vi.Sz
end
