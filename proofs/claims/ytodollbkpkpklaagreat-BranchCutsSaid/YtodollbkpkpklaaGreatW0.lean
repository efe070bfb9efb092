/-
  A claim's own text, joined by a small program out of: Vj0, Vj1, Vj2.
-/
import Derived.Calls
import Derived.Below
import Derived.Laws.AppendOwn
import Derived.Laws.OwnMore
import Derived.RowKit3
set_option linter.unusedVariables false
set_option linter.unusedSimpArgs false
section
/-
  A VERIFIED INTERPRETER (part 0): trees of values, a small code language, its interpreter. No program in sight.
-/
namespace Go.Vi
open Go

/-- What is known of a slice: it is nil; nothing; it is not nil (it may have room behind); there is no room behind; it may be appended to, as a family of the call's own. -/
inductive Tag where
  | nil | any | imm | clip | own (k : Nat) (e : TypeId)
  deriving DecidableEq, Repr, Inhabited

/-- A value as a tree, free of memory. -/
inductive T where
  | undef
  | v (x : Value)
  | sl (g : Tag) (n : Nat) (cs : List T)
  | ptr (cs : List T) (off : Nat)
  | ref (s off : Nat)
  | bsl (s off n c : Nat)
  | mref (s : Nat)
  | agg (cs : List T)
  | tup (cs : List T)
  | clo (fn : Fn) (first cap : List T)
  deriving Inhabited

abbrev T.int (n : Int) : T := .v (.int .i64 n)
abbrev T.u8 (n : Int) : T := .v (.int .u8 n)
abbrev T.bool (b : Bool) : T := .v (.bool b)
abbrev T.str (s : ByteArray) : T := .v (.string s)

/-- A tree that a single cell may hold. -/
def T.one : T → Bool
  | .v x => x.oneCell'
  | .sl .. | .ptr .. | .ref .. | .bsl .. | .mref .. | .clo .. => true
  | _ => false

def T.isV : T → Bool
  | .v x => x.oneCell'
  | _ => false

/-- An operand: the result of an operation of the same region, a variable, a constant. -/
inductive Opd where
  | r (i : Nat) | x (i : Nat) | c (t : T)
  deriving Inhabited

/-- What is held against each other, cell by cell. -/
inductive LK where
  | int | bool | str
  deriving DecidableEq, Inhabited

inductive IOp where
  | mv (a : Opd)
  | pick (c a b : Opd)
  | bin (op : BinOp) (t : TypeId) (a b : Opd)
  | eqb (neg : Bool) (a b : Opd)
  | eqa (neg : Bool) (ks : List LK) (a b : Opd)
  | eqnil (neg : Bool) (a : Opd)
  | un (op : UnOp) (a : Opd)
  | toInt (k : IntKind) (a : Opd)
  | toFloat (k : FloatKind) (a : Opd)
  | toStr (a : Opd)
  | build (zero : List T) (parts : List (Nat × Nat × Opd))
  | field (isAgg : Bool) (off n : Nat) (a : Opd)
  | indexA (len sz : Nat) (isAgg : Bool) (a i : Opd)
  | indexS (a i : Opd)
  | extract (a : Opd) (i : Nat)
  | alloc (s : Nat) (zero : List T)
  | box (s : Nat) (a : Opd)
  | load (isAgg : Bool) (n : Nat) (a : Opd)
  | store (n : Nat) (a b : Opd)
  | faddr (off : Nat) (a : Opd)
  | iaddrA (len sz : Nat) (a i : Opd)
  | iaddrS (sz : Nat) (a i : Opd)
  | sliceS (a : Opd) (lo hi : Option Opd)
  | sliceT (sz : Nat) (a : Opd) (lo hi mx : Option Opd)
  | sliceA (len sz : Nat) (a : Opd) (lo hi : Option Opd)
  | arrOf (len : Nat) (a : Opd)
  | mkSlice (d : Nat) (e : TypeId) (sz bytes : Nat) (zero : List T) (n : Opd)
  | mkBox (s sz bytes : Nat) (zero : List T) (n : Opd)
  | mkCap (d : Nat) (e : TypeId) (bytes : Nat) (n : Opd)
  | bslice (d : Nat) (e : TypeId) (sz len : Nat) (zero : List T) (parts : List (Nat × Nat × Opd))
  | bsliceB (s sz len : Nat) (zero : List T) (parts : List (Nat × Nat × Opd))
  | append (d : Nat) (e : TypeId) (sz bytes : Nat) (zero : List T) (src : Nat) (a b : Opd)
  | len (str : Bool) (a : Opd)
  | minMax (max : Bool) (as : List Opd)
  | part (k : Nat) (a : Opd)
  | cplx (a b : Opd)
  | copy (sz : Nat) (a b : Opd)
  | clearS (sz : Nat) (zero : List T) (a : Opd)
  | appendB (s : Nat) (e : TypeId) (sz bytes : Nat) (zero : List T) (src : Nat) (a b : Opd)
  | mkMap (s : Nat)
  | lookup (k : LK) (zero : T) (ok : Bool) (a i : Opd)
  | mapUpdate (k : LK) (a i x : Opd)
  | lenM (a : Opd)
  | capS (a : Opd)
  | thaw (d : Nat) (e : TypeId) (sz : Nat) (a : Opd)
  | call (d : Nat) (f : FuncId) (as : List Opd)
  | callv (d : Nat) (f : Opd) (as : List Opd)
  /-- a call that changes boxes; `ad`: the boxes (by their even names) that take what it makes -/
  | callnew (d : Nat) (ad : List Nat) (f : FuncId) (as : List Opd)
  | callio (d : Nat) (ad : List Nat) (f : FuncId) (as : List Opd)
  | callvio (d : Nat) (ad : List Nat) (f : Opd) (as : List Opd)
  | mkFunc (fn : Fn) (first cap : List Opd)
  | nilCheck (a : Opd)
  deriving Inhabited

/-- What it reads. -/
def IOp.reads : IOp → List Opd
  | .mv a | .eqnil _ a | .un _ a | .toInt _ a | .toFloat _ a | .toStr a | .field _ _ _ a | .extract a _ | .box _ a | .load _ _ a | .faddr _ a | .arrOf _ a | .mkSlice _ _ _ _ _ a | .mkBox _ _ _ _ a | .mkCap _ _ _ a | .len _ a | .part _ a | .nilCheck a | .lenM a | .capS a | .thaw _ _ _ a | .clearS _ _ a => [a]
  | .pick c a b | .mapUpdate _ c a b => [c, a, b]
  | .bin _ _ a b | .eqb _ a b | .eqa _ _ a b | .indexA _ _ _ a b | .indexS a b | .store _ a b | .iaddrA _ _ a b | .iaddrS _ a b | .append _ _ _ _ _ _ a b | .cplx a b | .copy _ a b | .appendB _ _ _ _ _ _ a b | .lookup _ _ _ a b => [a, b]
  | .build _ ps | .bslice _ _ _ _ _ ps | .bsliceB _ _ _ _ ps => ps.map fun p => p.2.2
  | .alloc .. | .mkMap .. => []
  | .sliceS a lo hi | .sliceA _ _ a lo hi => a :: (lo.toList ++ hi.toList)
  | .sliceT _ a lo hi mx => a :: (lo.toList ++ (hi.toList ++ mx.toList))
  | .minMax _ as | .call _ _ as | .callnew _ _ _ as | .callio _ _ _ as => as
  | .callv _ f as | .callvio _ _ f as => f :: as
  | .mkFunc _ a b => a ++ b

/-- A region: its operations, each with its guard; what becomes of the variables. -/
structure Reg where
  ops : List (Option (Nat × Bool) × IOp)
  outs : List (Option Nat)
  draw : Bool
  deriving Inhabited

inductive IC where
  | skip
  | reg (r : Reg)
  | seq (a b : IC)
  | cond (c : Opd) (a b : IC)
  | block (id : Nat) (a : IC)
  | loop (a : IC)
  /-- a scope: what runs first; what runs behind each jump to its label (an exit by this name) -/
  | jumps (id : Nat) (first rest : IC)
  /-- a scope without jumps -/
  | nojump (a : IC)
  /-- a range over a function: how many places of boxes there are, the function, the variables that take what it yields, the assignment, the body -/
  | range (K : Nat) (g : Opd) (ps : List Nat) (a b : IC)
  | exit (id : Nat)
  | ret
  /-- variables that are forgotten -/
  | kill (vs : List Nat)
  /-- boxes that are given up -/
  | free (ss : List Nat)
  deriving Inhabited

inductive IRes where
  | var (i : Nat)
  | cell (i : Nat) (isAgg : Bool) (n : Nat)
  deriving Inhabited

/-- What is told of a result: as it is; nothing of its slices; that it may be appended to; that it is a box of its own (this one, if it is nil). -/
inductive CM where
  | raw | any | own (e : TypeId) | box (s : Nat)
  deriving DecidableEq, Repr, Inhabited

structure IFn where
  nparams : Nat
  nvars : Nat
  nboxes : Nat
  results : List IRes
  canon : List CM
  split : Bool
  body : IC
  deriving Inhabited

/-- The results of the region at hand; the variables; the boxes. -/
structure St where
  rs : List T
  vars : List T
  boxes : List (Option (List T))
  deriving Inhabited

/-! ### Sem without memory -/
def pure0 {α : Type} : Sem α → Option α
  | .pure a => some a
  | _ => none

/-! ### What refers to what -/
mutual
def T.noRef (s : Nat) : T → Bool
  | .ref s' _ => s' != s
  | .bsl s' _ _ _ => s' != s
  | .mref s' => s' != s
  | .agg ts => noRefL s ts
  | .tup ts => noRefL s ts
  | .clo _ a b => noRefL s a && noRefL s b
  | _ => true
def noRefL (s : Nat) : List T → Bool
  | [] => true
  | t :: ts => t.noRef s && noRefL s ts
end

/-- What a strip takes away: the families of a place of the text (8 of them); one family. -/
def hit (d k : Nat) : Bool := if d % 2 = 0 then k / 8 == d / 2 else k == d / 2

mutual
/-- Without the families of a place of the text, or without one family. -/
def T.strip (d : Nat) : T → T
  | .sl (.own k e) n cs => .sl (if hit d k then .any else .own k e) n cs
  | .agg ts => .agg (stripL d ts)
  | .tup ts => .tup (stripL d ts)
  | .clo f a b => .clo f (stripL d a) (stripL d b)
  | t => t
def stripL (d : Nat) : List T → List T
  | [] => []
  | t :: ts => t.strip d :: stripL d ts
end

mutual
/-- A callee's own families, in the caller's numbering. -/
def T.import (d : Nat) : T → T
  | .sl (.own k e) n cs => .sl (if k < 8 then .own (8 * d + k) e else .any) n cs
  | .agg ts => .agg (importL d ts)
  | .tup ts => .tup (importL d ts)
  | .clo f a b => .clo f (importL d a) (importL d b)
  | t => t
def importL (d : Nat) : List T → List T
  | [] => []
  | t :: ts => t.import d :: importL d ts
end

mutual
/-- Boxes and families by other names; what has none is not told any more. -/
def T.remap (ρ η : Nat → Option Nat) : T → T
  | .sl (.own k e) n cs => .sl (match η k with | some k' => .own k' e | none => .any) n cs
  | .ref s o => match ρ s with | some s' => .ref s' o | none => .undef
  | .bsl s o n c => match ρ s with | some s' => .bsl s' o n c | none => .undef
  | .mref s => match ρ s with | some s' => .mref s' | none => .undef
  | .agg ts => .agg (remapL ρ η ts)
  | .tup ts => .tup (remapL ρ η ts)
  | .clo f a b => .clo f (remapL ρ η a) (remapL ρ η b)
  | t => t
def remapL (ρ η : Nat → Option Nat) : List T → List T
  | [] => []
  | t :: ts => t.remap ρ η :: remapL ρ η ts
end

mutual
/-- The boxes that it refers to. -/
def T.refs : T → List Nat
  | .ref s _ => [s]
  | .bsl s _ _ _ => [s]
  | .mref s => [s]
  | .agg ts => refsL ts
  | .tup ts => refsL ts
  | .clo _ a b => refsL a ++ refsL b
  | _ => []
def refsL : List T → List Nat
  | [] => []
  | t :: ts => t.refs ++ refsL ts
end

mutual
/-- The families that it has, in its own order. -/
def T.fams : T → List Nat
  | .sl (.own k _) _ _ => [k]
  | .agg ts => famsL ts
  | .tup ts => famsL ts
  | .clo _ a b => famsL a ++ famsL b
  | _ => []
def famsL : List T → List Nat
  | [] => []
  | t :: ts => t.fams ++ famsL ts
end

/-- What a box holds. -/
def boxAt (bx : List (Option (List T))) (s : Nat) : Option (List T) := (bx[s]?).join

/-- The boxes that are come to. -/
def reach (bx : List (Option (List T))) : Nat → List Nat → List Nat → List Nat
  | 0, seen, _ => seen
  | _ + 1, seen, [] => seen
  | n + 1, seen, s :: todo => if seen.contains s then reach bx n seen todo else reach bx n (seen ++ [s]) (refsL ((boxAt bx s).getD []) ++ todo)

/-- The names of boxes in a callee's world: by their places in a list; odd ones stay odd. -/
def lab (ss : List Nat) (s : Nat) : Option Nat := (ss.idxOf? s).map (2 * · + s % 2)
def unlab (ss : List Nat) (l : Nat) : Option Nat := (ss[l / 2]?).bind fun s => if s % 2 = l % 2 then some s else none
def famBase : Nat := 1048576
def famLab (fs : List Nat) (k : Nat) : Option Nat := (fs.idxOf? k).map fun i => 8 * (famBase + i)
def ioBase : Nat := 1048576
def encB : Option (List T) → T
  | some cs => .agg cs
  | none => .undef
def decB : T → Option (List T)
  | .agg cs => some cs
  | _ => none

mutual
/-- No reference to a box, no family. -/
def T.closed : T → Bool
  | .ref .. | .bsl .. | .mref .. => false
  | .sl (.own _ _) _ _ => false
  | .agg ts => closedL ts
  | .tup ts => closedL ts
  | .clo _ a b => closedL a && closedL b
  | _ => true
def closedL : List T → Bool
  | [] => true
  | t :: ts => t.closed && closedL ts
end

def St.strip (d : Nat) (σ : St) : St := ⟨stripL d σ.rs, stripL d σ.vars, σ.boxes.map (Option.map (stripL d))⟩

/-- A box that is given up, with all that refers to it. -/
def St.drop (s : Nat) (σ : St) : St :=
  ⟨remapL (fun x => if x = s then none else some x) some σ.rs, remapL (fun x => if x = s then none else some x) some σ.vars, (σ.boxes.map (Option.map (remapL (fun x => if x = s then none else some x) some))).set s none⟩

def St.noRef (s : Nat) (σ : St) : Bool :=
  noRefL s σ.rs && noRefL s σ.vars && σ.boxes.all fun o => match o with | some cs => noRefL s cs | none => true

/-- As a callee sees it: boxes by what they hold, families as slices of which nothing is known. -/
def close (bx : List (Option (List T))) : Nat → T → Option T
  | 0, _ => none
  | k + 1, t =>
    match t with
    | .sl _ n cs => some (.sl .any n cs)
    | .mref _ => some .undef
    | .ref s off =>
      match bx[s]? with
      | some (some cs) => (cs.mapM (close bx k)).map (T.ptr · off)
      | _ => none
    | .bsl s off n c =>
      if n = 0 then some (.sl .any 0 []) else
      match bx[s]? with
      | some (some cs) => (((cs.drop off).take c).mapM (close bx k)).map (T.sl .any n ·)
      | _ => none
    | .agg ts => (ts.mapM (close bx k)).map T.agg
    | .tup ts => (ts.mapM (close bx k)).map T.tup
    | .clo f a b => do let a ← a.mapM (close bx k); let b ← b.mapM (close bx k); pure (.clo f a b)
    | t => some t

/-- One cell from which no reference to what was handed can be drawn. -/
def T.fresh1 : T → Bool
  | .v _ => true
  | .undef => true
  | .sl (.own _ _) _ cs => cs.all T.isV
  | .sl .nil _ _ => true
  | .sl _ _ [] => true
  | _ => false

/-- The same of a struct, or an array. -/
def T.fresh2 : T → Bool
  | .agg cs => cs.all T.fresh1
  | t => t.fresh1

/-- A result from which no reference to what was handed can be drawn. -/
def T.fresh : T → Bool
  | .tup ts => ts.all T.fresh2
  | t => t.fresh2

mutual
/-- Does it refer to boxes? -/
def T.hasRef : T → Bool
  | .ref .. | .bsl .. | .mref .. => true
  | .agg ts => hasRefL ts
  | .tup ts => hasRefL ts
  | .clo _ a b => hasRefL a || hasRefL b
  | _ => false
def hasRefL : List T → Bool
  | [] => false
  | t :: ts => t.hasRef || hasRefL ts
end

/-! ### Operations -/
def Opd.get (σ : St) : Opd → T
  | .r i => σ.rs.getD i .undef
  | .x i => σ.vars.getD i .undef
  | .c t => t

mutual
/-- As it is told where it is stored into a row: slices as such of which nothing is known. -/
def T.weak : T → T
  | .sl _ n cs => .sl .any n cs
  | .agg ts => .agg (weakL ts)
  | .tup ts => .tup (weakL ts)
  | .clo f a b => .clo f (weakL a) (weakL b)
  | t => t
def weakL : List T → List T
  | [] => []
  | t :: ts => t.weak :: weakL ts
end

/-- The same, but what is nil stays so. -/
def T.weakN : T → T
  | .sl .nil n cs => .sl .nil n cs
  | t => t.weak

def scalarV : Value → Bool
  | .int .. | .bool .. | .string .. | .float .. | .complex .. => true
  | _ => false

def binT (op : BinOp) (t : TypeId) : T → T → Option T
  | .v a, .v b => if scalarV a && scalarV b then (pure0 (binOp op t a b)).map T.v else none
  | _, _ => none

def asNat : T → Option Nat
  | .v (.int _ n) => if 0 ≤ n then some n.toNat else none
  | _ => none

def one? (isAgg : Bool) (n : Nat) (cs : List T) (off : Nat) : Option T :=
  if isAgg then (if off + n ≤ cs.length then some (.agg ((cs.drop off).take n)) else none)
  else cs[off]?

def cellsOf : T → Option (List T)
  | .agg cs => some cs
  | .tup _ => none
  | .undef => none
  | t => some [t]

def setCells (cs : List T) (off : Nat) (ns : List T) : List T := cs.take off ++ ns ++ cs.drop (off + ns.length)

def fillT (get : Opd → T) (cells : List T) : List (Nat × Nat × Opd) → Option (List T)
  | [] => some cells
  | (off, n, a) :: rest => do
    let cs ← cellsOf (get a)
    if cs.length = n ∧ off + n ≤ cells.length ∧ cs.all T.one then fillT get (setCells cells off cs) rest else none

/-- Equality of one cell: numbers, bools, texts. -/
def eqCell : LK → T → T → Option Bool
  | .int, .v (.int k a), .v (.int k' b) => if k = k' then some (a == b) else none
  | .bool, .v (.bool a), .v (.bool b) => some (a == b)
  | .str, .v (.string a), .v (.string b) => some (a.toList == b.toList)
  | _, _, _ => none

def eqCells : List LK → List T → List T → Option Bool
  | [], [], [] => some true
  | k :: ks, a :: as, b :: bs => do let x ← eqCell k a b; let y ← eqCells ks as bs; pure (x && y)
  | _, _, _ => none

def bytesOf : List T → Option (List UInt8)
  | [] => some []
  | .v (.int .u8 n) :: cs => (bytesOf cs).map (UInt8.ofNat n.toNat :: ·)
  | _ => none

/-- The most elements' bytes that a slice of ours may take. -/
def room : Nat := 4294967296

def foldMM (mx : Bool) (acc : Int) : List T → Option Int
  | [] => some acc
  | .v (.int _ y) :: ts => foldMM mx (if mx then (if y > acc then y else acc) else (if y < acc then y else acc)) ts
  | _ => none

/-- What is appended: a slice's, a text's, so many zeros. -/
def srcOf (bx : List (Option (List T))) (kind sz : Nat) (zero : List T) (b : T) : Option (Nat × List T) :=
  match kind with
  | 0 => (match b with
    | .sl _ m ys => some (m, ys)
    | .bsl s o m c => (match bx[s]? with | some (some cs) => if s % 2 = 0 then some (m, (cs.drop o).take (if m = 0 then 0 else c)) else none | _ => none)
    | _ => none)
  | 1 => (match b with
    | .v (.string s) => if sz = 1 then some (s.size, s.data.toList.map fun (b : UInt8) => T.u8 b.toNat) else none
    | _ => none)
  | _ => (asNat b).map fun m => (m, (List.replicate m zero).flatten)

/-- The value of a key among a map's entries (a key, its value, a key, ..); none: the keys are not to be held against each other. -/
def findT (k : LK) (key : T) : List T → Option (Option T)
  | a :: v :: cs => (eqCell k key a).bind fun e => if e then some (some v) else findT k key cs
  | [] => some none
  | _ => none

def putT (k : LK) (key x : T) : List T → Option (List T)
  | a :: v :: cs => (eqCell k key a).bind fun e => if e then some (key :: x :: cs) else (putT k key x cs).map fun cs => a :: v :: cs
  | [] => some [key, x]
  | _ => none

def srcClosed : T → List T → Bool
  | .bsl .., ys => ys.all T.closed
  | _, _ => true

def lenT (str : Bool) : T → Option T
  | .sl _ n _ => if str then none else some (.int n)
  | .bsl _ _ n _ => if str then none else some (.int n)
  | .v (.string s) => if str then some (.int s.size) else none
  | _ => none

/-- A function value: the function, what stands ahead of the arguments, what was captured. -/
def calleeOf : T → Option (FuncId × List T × List T)
  | .v (.func (.func f) a b) => if a.size = 0 ∧ b.size = 0 then some (f, [], []) else none
  | .clo (.func f) first cap => some (f, first, cap)
  | _ => none

def optNat (get : Opd → T) (d : Nat) : Option Opd → Option Nat
  | none => some d
  | some a => asNat (get a)

/-- What a box that is handed back is by the caller's name: one that was handed over, or one that takes what was made. -/
def ioBack (ss ad : List Nat) (l : Nat) : Option Nat := if l / 2 < ss.length then unlab ss l else (ad[l / 2 - ss.length]?).map (· + l % 2)
/-- What a family that is handed back is by the caller's name. -/
def ioFam (d k : Nat) : Option Nat := if k < 8 then some (8 * d + k) else none
/-- Boxes that are there still behind a call. -/
def ioLive (ss : List Nat) (outs : List T) (s : Nat) : Option Nat :=
  match lab ss s with
  | some l => if (decB (outs.getD l .undef)).isSome then some s else none
  | none => some s
/-- Families that are the caller's still behind a call. -/
def ioKeep (d : Nat) (fs : List Nat) (k : Nat) : Option Nat := if fs.contains k || hit (2 * d) k then none else some k

/-- A call as a value. -/
def callV (C : FuncId → List T → Option T) (f : FuncId) (cs : List T) : Option T := if f < ioBase then C f cs else none

/-- A place for a box that there is, and that has none. -/
def boxFree (bx : List (Option (List T))) (s : Nat) : Bool := match bx[s]? with | some none => true | _ => false

/-- Boxes as they are behind a call: those that it was handed, and those that it made. -/
def adopt (back ζ : Nat → Option Nat) : List (Option (List T)) → Nat → List (Option (List T)) → List (Option (List T))
  | [], _, bx => bx
  | o :: os, l, bx => adopt back ζ os (l + 1) (match back l with | some s => bx.set s (o.map (remapL back ζ)) | none => bx)

/-- What an operation gives, and the state behind it. `C`: calls. -/
def runOp (C : FuncId → List T → Option T) (σ : St) (o : IOp) : Option (T × St) :=
  let get := Opd.get σ
  match o with
  | .mv a => some (get a, σ)
  | .pick c a b => match get c with | .v (.bool t) => some (if t then get a else get b, σ) | _ => none
  | .bin op t a b => (binT op t (get a) (get b)).map (·, σ)
  | .eqb neg a b => match get a, get b with | .v (.bool x), .v (.bool y) => some (T.bool ((x == y) != neg), σ) | _, _ => none
  | .eqa neg ks a b => match get a, get b with
    | .agg xs, .agg ys => (eqCells ks xs ys).map fun e => (T.bool (e != neg), σ)
    | _, _ => none
  | .eqnil neg a => match get a with
    | .sl .nil _ _ => some (T.bool (!neg), σ)
    | .sl .imm _ _ => some (T.bool neg, σ)
    | .sl _ n _ => if 0 < n then some (T.bool neg, σ) else none
    | .bsl _ _ n _ => if 0 < n then some (T.bool neg, σ) else none
    | _ => none
  | .un op a => match get a with | .v x => (pure0 (Op.unary op x)).map fun y => (.v y, σ) | _ => none
  | .toInt k a => match get a with
    | .v (.int _ n) => some (.v (.int k (k.wrap n)), σ)
    | .v (.float s b) => (pure0 (Conv.floatToInt s b k)).map fun y => (.v y, σ)
    | _ => none
  | .toFloat k a => match get a with | .v (.int _ n) => some (.v (.float k (k.nearest n)), σ) | _ => none
  | .toStr a => match get a with
    | .sl _ n cs => if n = cs.length then (bytesOf cs).map fun b => (.str ⟨b.toArray⟩, σ) else none
    | _ => none
  | .build zero parts => (fillT get zero parts).map fun cs => (.agg cs, σ)
  | .field isAgg off n a => match get a with | .agg cs => (one? isAgg n cs off).map (·, σ) | _ => none
  | .indexA len sz isAgg a i => match get a, asNat (get i) with
    | .agg cs, some i => if i < len then (one? isAgg sz cs (i * sz)).map (·, σ) else none
    | _, _ => none
  | .indexS a i => match get a, asNat (get i) with
    | .v (.string s), some i => (s.data[i]?).map fun b => (.u8 b.toNat, σ)
    | _, _ => none
  | .extract a i => match get a with | .tup ts => (ts[i]?).map (·, σ) | _ => none
  | .alloc s zero => match σ.boxes[s]? with
    | some none => if s % 2 = 0 then some (T.ref s 0, { σ with boxes := σ.boxes.set s (some zero) }) else none
    | _ => none
  | .box s a => match σ.boxes[s]?, cellsOf (get a) with
    | some none, some cs => if cs.all T.one ∧ s % 2 = 0 then some (T.ref s 0, { σ with boxes := σ.boxes.set s (some cs) }) else none
    | _, _ => none
  | .load isAgg n a => match get a with
    | .ref s off => match σ.boxes[s]? with
      | some (some cs) => (one? isAgg n cs off).map (·, σ)
      | _ => none
    | .ptr cs off => ((one? isAgg n cs off).filter T.closed).map (·, σ)
    | _ => none
  | .store n a b => match get a, cellsOf (get b) with
    | .ref s off, some ns => match σ.boxes[s]? with
      | some (some cs) => if ns.length = n ∧ off + n ≤ cs.length ∧ ns.all T.one then some (.undef, { σ with boxes := σ.boxes.set s (some (setCells cs off ns)) }) else none
      | _ => none
    | _, _ => none
  | .faddr off a => match get a with
    | .ref s o => some (.ref s (o + off), σ)
    | .ptr cs o => some (.ptr cs (o + off), σ)
    | _ => none
  | .iaddrA len sz a i => match get a, asNat (get i) with
    | .ref s o, some i => if i < len then some (.ref s (o + i * sz), σ) else none
    | .ptr cs o, some i => if i < len then some (.ptr cs (o + i * sz), σ) else none
    | _, _ => none
  | .iaddrS sz a i => match get a, asNat (get i) with
    | .sl _ n cs, some i => if i < n then some (.ptr cs (i * sz), σ) else none
    | .bsl s o n _, some i => if i < n then some (.ref s (o + i * sz), σ) else none
    | _, _ => none
  | .sliceS a lo hi => match get a with
    | .v (.string s) => do
      let h ← optNat get s.size hi
      let l ← optNat get 0 lo
      if l ≤ h ∧ h ≤ s.size then some (.str (s.extract l h), σ) else none
    | _ => none
  | .sliceT sz a lo hi mx => match get a with
    | .sl g n cs => do
      let h ← optNat get n hi
      let l ← optNat get 0 lo
      let m ← optNat get n mx
      if l ≤ h ∧ h ≤ m ∧ m ≤ n then some (.sl (if g = .nil then .nil else if mx.isSome ∧ h = m then .clip else .any) (h - l) ((cs.drop (l * sz)).take ((h - l) * sz)), σ)
      else none
    | .bsl s o n c => do
      let h ← optNat get n hi
      let l ← optNat get 0 lo
      let m ← optNat get n mx
      if l ≤ h ∧ h ≤ m ∧ m ≤ n ∧ (n = 0 ∨ n * sz = c) then some (.bsl s (o + l * sz) (h - l) (if h = l then (if n = 0 then c else 1 + sz) else (h - l) * sz), σ) else none
    | _ => none
  | .sliceA len sz a lo hi => match get a with
    | .ref s o => do
      let h ← optNat get len hi
      let l ← optNat get 0 lo
      match σ.boxes[s]? with
      | some (some cs) => if l ≤ h ∧ h ≤ len ∧ o + len * sz ≤ cs.length then some (.bsl s (o + l * sz) (h - l) (if h = l then 1 else (h - l) * sz), σ) else none
      | _ => none
    | _ => none
  | .arrOf len a => match get a with
    | .bsl s o n _ => if len ≤ n ∧ 0 < n then some (.ref s o, σ) else none
    | .sl _ n cs => if len ≤ n ∧ 0 < n then some (.ptr cs 0, σ) else none
    | _ => none
  | .mkSlice d e sz bytes zero n => match asNat (get n) with
    | some n => if n * bytes ≤ room ∧ n ≤ room then some (.sl (.own (8 * d) e) n (List.replicate n zero).flatten, σ.strip (2 * d)) else none
    | none => none
  | .mkCap d e bytes n => match asNat (get n) with
    | some n => if n * bytes ≤ room ∧ n ≤ room then some (.sl (.own (8 * d) e) 0 [], σ.strip (2 * d)) else none
    | none => none
  | .mkBox s sz bytes zero n => match asNat (get n), σ.boxes[s]? with
    | some n, some none => if n * bytes ≤ room ∧ n ≤ room ∧ s % 2 = 0 then some (.bsl s 0 n (n * sz), { σ with boxes := σ.boxes.set s (some (List.replicate n zero).flatten) }) else none
    | _, _ => none
  | .bslice d e sz len zero parts => do
    let cs ← fillT (fun a => (get a).weak) (List.replicate len zero).flatten parts
    if len ≤ 65536 ∧ len * sz ≤ 16777216 ∧ closedL cs then some (.sl (if len = 0 then .clip else .own (8 * d) e) len cs, σ.strip (2 * d)) else none
  | .bsliceB s sz len zero parts => match σ.boxes[s]? with
    | some none => (fillT get (List.replicate len zero).flatten parts).bind fun cs =>
      if len ≤ 65536 ∧ len * sz ≤ 16777216 ∧ s % 2 = 0 then some (.bsl s 0 len (len * sz), { σ with boxes := σ.boxes.set s (some cs) }) else none
    | _ => none
  | .append d e sz bytes zero kind a b =>
    match get a, srcOf σ.boxes kind sz zero (get b) with
    | .sl g n xs, some (m, ys) =>
      if xs.length = n * sz ∧ ys.length = m * sz ∧ (n + m) * bytes ≤ room ∧ n + m ≤ room ∧ srcClosed (get b) ys = true then
        match g with
        | .own k e' => if e' = e then some (.sl (.own (8 * d) e) (n + m) (xs ++ ys), (σ.strip (2 * k + 1)).strip (2 * d)) else none
        | .nil => if n = 0 then some (.sl (.own (8 * d) e) m ys, σ.strip (2 * d)) else none
        | .clip => if m = 0 then (if n = 0 then some (.sl (.own (8 * d) e) 0 [], σ.strip (2 * d)) else none) else some (.sl (.own (8 * d) e) (n + m) (xs ++ ys), σ.strip (2 * d))
        | .imm => if m = 0 then some (.sl .any n xs, σ) else none
        | .any => if m = 0 then some (.sl .any n xs, σ) else none
      else none
    | _, _ => none
  | .appendB s e sz bytes zero kind a b =>
    match get a, srcOf σ.boxes kind sz zero (get b), σ.boxes[s]? with
    | .sl g n _, some (m, ys), some none =>
      if n = 0 ∧ ys.length = m * sz ∧ m * bytes ≤ room ∧ m ≤ room ∧ srcClosed (get b) ys = true ∧ s % 2 = 0 then
        match g with
        | .own k e' => if e' = e ∧ 0 < m then some (.bsl s 0 m (m * sz), { σ.strip (2 * k + 1) with boxes := (σ.strip (2 * k + 1)).boxes.set s (some ys) }) else none
        | .nil => some (.bsl s 0 m (m * sz), { σ with boxes := σ.boxes.set s (some ys) })
        | .clip => some (.bsl s 0 m (m * sz), { σ with boxes := σ.boxes.set s (some ys) })
        | _ => none
      else none
    | .bsl s' o n c, some (m, ys), some old =>
      if o = 0 ∧ (s = s' ∨ old.isNone = true) ∧ s % 2 = 0 ∧ (0 < n ∧ c = n * sz ∨ n = 0 ∧ (c = 0 ∨ c = 1 + sz)) ∧ n * sz ≤ ((boxAt σ.boxes s').getD []).length ∧ ys.length = m * sz ∧ (n + m) * bytes ≤ room ∧ n + m ≤ room ∧ srcClosed (get b) ys = true then
        some (.bsl s 0 (n + m) (if n + m = 0 then c else (n + m) * sz), { σ.drop s' with boxes := (σ.drop s').boxes.set s (some (remapL (fun x => if x = s' then none else some x) some (((boxAt σ.boxes s').getD []).take (n * sz)) ++ ys)) })
      else none
    | _, _, _ => none
  | .clearS sz zero a => match get a with
    | .bsl s o n c => match σ.boxes[s]? with
      | some (some cs) => if s % 2 = 0 ∧ (n = 0 ∨ c = n * sz) ∧ zero.length = sz ∧ o + n * sz ≤ cs.length ∧ zero.all T.one then some (.undef, { σ with boxes := σ.boxes.set s (some (setCells cs o (List.replicate n zero).flatten)) }) else none
      | _ => none
    | _ => none
  | .mkMap s => match σ.boxes[s]? with
    | some none => if s % 2 = 1 then some (T.mref s, { σ with boxes := σ.boxes.set s (some []) }) else none
    | _ => none
  | .lookup k zero ok a i => match get a with
    | .mref s => match σ.boxes[s]? with
      | some (some cs) => (findT k (get i) cs).bind fun r => match r with
        | some v => some (if ok then .tup [v, T.bool true] else v, σ)
        | none => some (if ok then .tup [zero, T.bool false] else zero, σ)
      | _ => none
    | _ => none
  | .mapUpdate k a i x => match get a with
    | .mref s => match σ.boxes[s]? with
      | some (some cs) => (putT k (get i) (get x) cs).map fun cs' => (.undef, { σ with boxes := σ.boxes.set s (some cs') })
      | _ => none
    | _ => none
  | .lenM a => match get a with
    | .mref s => match σ.boxes[s]? with
      | some (some cs) => some (T.int (cs.length / 2 : Nat), σ)
      | _ => none
    | _ => none
  | .len str a => (lenT str (get a)).map (·, σ)
  | .thaw d e sz a => match get a with
    | .bsl s o n c =>
      if o = 0 ∧ (0 < n ∧ c = n * sz ∨ n = 0 ∧ (c = 0 ∨ c = 1 + sz)) ∧ n * sz ≤ ((boxAt σ.boxes s).getD []).length ∧ closedL (((boxAt σ.boxes s).getD []).take (n * sz)) = true then
        some (.sl (.own (8 * d) e) n (((boxAt σ.boxes s).getD []).take (n * sz)), (σ.drop s).strip (2 * d))
      else none
    | t => some (t, σ)
  | .capS a => match get a with
    | .sl .nil _ _ => some (T.int 0, σ)
    | .sl .clip n _ => some (T.int n, σ)
    | .bsl _ _ 0 0 => some (T.int 0, σ)
    | _ => none
  | .minMax mx as => match as.map get with
    | .v (.int k x) :: rest => (foldMM mx x rest).map fun r => (.v (.int k r), σ)
    | _ => none
  | .part k a => match get a with
    | .v (.complex f re im) => some (.v (.float f (if k = 0 then re else im)), σ)
    | _ => none
  | .cplx a b => match get a, get b with
    | .v (.float k re), .v (.float k' im) => if k = k' then some (.v (.complex k re im), σ) else none
    | _, _ => none
  | .copy sz a b =>
    let src : Option (Nat × List T) := match get b with
      | .sl _ m ys => some (m, ys)
      | .v (.string s) => if sz = 1 then some (s.size, s.data.toList.map fun (b : UInt8) => T.u8 b.toNat) else none
      | _ => none
    match get a, src with
    | .bsl s o n _, some (m, ys) => match σ.boxes[s]? with
      | some (some cs) =>
        if ys.length = m * sz ∧ o + n * sz ≤ cs.length ∧ 0 < n then some (T.int (min m n : Nat), { σ with boxes := σ.boxes.set s (some (setCells cs o (ys.take (min m n * sz)))) }) else none
      | _ => none
    | _, _ => none
  | .call d f as => callT C σ d f (as.map get)
  | .callv d f as => match calleeOf (get f) with
    | some (f, first, cap) => callT C σ d f (first ++ as.map get ++ cap)
    | none => none
  | .callnew d ad f as => callNew C σ d ad f (as.map get)
  | .callio d ad f as => callIO C σ d ad f (as.map get)
  | .callvio d ad f as => match calleeOf (get f) with
    | some (f, first, cap) => callIO C σ d ad f (first ++ as.map get ++ cap)
    | none => none
  | .mkFunc fn first cap => some (.clo fn (first.map get) (cap.map get), σ)
  | .nilCheck a => match get a with
    | .ref s o => some (.ref s o, σ)
    | .ptr cs o => some (.ptr cs o, σ)
    | .clo (.func f) a b => some (.clo (.func f) a b, σ)
    | .v (.func (.func f) a b) => some (.v (.func (.func f) a b), σ)
    | _ => none
where
  callT (C : FuncId → List T → Option T) (σ : St) (d : Nat) (f : FuncId) (as : List T) : Option (T × St) := do
    let cs ← as.mapM (close σ.boxes 6)
    let r ← callV C f cs
    if hasRefL as && !r.fresh then none else some (r.import d, σ.strip (2 * d))
  /-- a call that hands over boxes that it made -/
  callNew (C : FuncId → List T → Option T) (σ : St) (d : Nat) (ad : List Nat) (f : FuncId) (as : List T) : Option (T × St) :=
    if hasRefL as then none else
    match C (ioBase + f) [.tup (as.map fun t => t.weakN.remap (lab []) fun _ => none), .tup []] with
    | some (.tup [r, .tup outs]) =>
      if outs.length = 2 * ad.length ∧ ad.all (fun s => s % 2 == 0 && boxFree σ.boxes s && boxFree σ.boxes (s + 1) && σ.noRef s && σ.noRef (s + 1)) ∧ ad.Nodup then
        some (r.remap (ioBack [] ad) (ioFam d), { σ.strip (2 * d) with boxes := adopt (ioBack [] ad) (ioFam d) (outs.map decB) 0 (σ.strip (2 * d)).boxes })
      else none
    | _ => none
  /-- a call that changes boxes -/
  callIO (C : FuncId → List T → Option T) (σ : St) (d : Nat) (ad : List Nat) (f : FuncId) (as : List T) : Option (T × St) :=
    let ss := reach σ.boxes 10000 [] (refsL as)
    let fs := ss.flatMap fun s => famsL ((boxAt σ.boxes s).getD [])
    match C (ioBase + f) [.tup (as.map fun t => t.weakN.remap (lab ss) fun _ => none),
        .tup ((List.range (2 * ss.length)).map fun l => encB (((unlab ss l).bind (boxAt σ.boxes)).map (remapL (lab ss) (famLab fs))))] with
    | some (.tup [r, .tup outs]) =>
      if outs.length = 2 * (ss.length + ad.length) ∧ ad.all (fun s => s % 2 == 0 && boxFree σ.boxes s && boxFree σ.boxes (s + 1) && !ss.contains s && !ss.contains (s + 1)) ∧ ad.Nodup ∧ ss.Nodup ∧ ss.all (fun s => (boxAt σ.boxes s).isSome) then
        some (r.remap (ioBack ss ad) (ioFam d), ⟨remapL (ioLive ss outs) (ioKeep d fs) σ.rs, remapL (ioLive ss outs) (ioKeep d fs) σ.vars,
          adopt (ioBack ss ad) (ioFam d) (outs.map decB) 0 (σ.boxes.map (Option.map (remapL (ioLive ss outs) (ioKeep d fs))))⟩)
      else none
    | _ => none

/-- What stands where an operation was passed over. -/
def T.skipped : T := .v Go.undef

/-- Is an operation with this guard wanted? -/
def wantedT (rs : List T) : Option (Nat × Bool) → Option Bool
  | none => some true
  | some (j, want) => match rs[j]? with
    | some (.v (.bool b)) => some (b == want)
    | some (.v (.tuple _)) => some false
    | _ => none

def runOps (C : FuncId → List T → Option T) : St → List (Option (Nat × Bool) × IOp) → Option St
  | σ, [] => some σ
  | σ, (g, o) :: rest => (wantedT σ.rs g).bind fun go =>
    if go then (runOp C σ o).bind fun p => runOps C { p.2 with rs := p.2.rs ++ [p.1] } rest
    else runOps C { σ with rs := σ.rs ++ [T.skipped] } rest

def outsOf (rs : List T) (vars : List T) (outs : List (Option Nat)) : List T :=
  List.zipWith (fun t o => match o with | some j => rs.getD j .undef | none => t) vars outs

def runReg (C : FuncId → List T → Option T) (σ : St) (r : Reg) : Option St := do
  let σ' ← runOps C { σ with rs := [] } r.ops
  some ⟨[], outsOf σ'.rs σ'.vars r.outs, σ'.boxes⟩

inductive Out where
  | norm (σ : St) | exit (id : Nat) (σ : St) | ret (σ : St)
  deriving Inhabited

def loopN (f : St → Option Out) : Nat → St → Option Out
  | 0, _ => none
  | n + 1, σ => match f σ with
    | some (.norm σ') => loopN f n σ'
    | o => o

/-- Jumps to labels are told as exits from here on. -/
def gotoBase : Nat := 1000000

/-- Behind a jump: until there is none any more. -/
def jumpN (f : St → Option Out) (id : Nat) : Nat → St → Option Out
  | 0, _ => none
  | n + 1, σ => match f σ with
    | some (.exit j σ') => if j = id then jumpN f id n σ' else if j < gotoBase then some (.exit j σ') else none
    | o => o

def killVars : List Nat → List T → List T
  | [], vars => vars
  | v :: vs, vars => killVars vs (vars.set v .undef)

def freeBoxes : List Nat → St → Option St
  | [], σ => some σ
  | s :: ss, σ => if σ.noRef s then freeBoxes ss { σ with boxes := σ.boxes.set s none } else none

/-- Boxes apart: those of a list; all others. -/
def keepB (ss : List Nat) (bx : List (Option (List T))) : List (Option (List T)) :=
  (List.range bx.length).map fun s => if ss.contains s then (boxAt bx s).map (remapL (fun s => if ss.contains s then some s else none) fun _ => none) else none
def lendB (ss : List Nat) (bx : List (Option (List T))) : List (Option (List T)) :=
  (List.range bx.length).map fun s => if ss.contains s then none else (boxAt bx s).map (remapL (fun s => if ss.contains s then none else some s) some)

/-- Boxes that were lent are there again. -/
def backB (ss : List Nat) (lent bx : List (Option (List T))) : List (Option (List T)) :=
  (List.range bx.length).map fun s => if ss.contains s then boxAt lent s else boxAt bx s
/-- What may be yielded: numbers, texts, structs of them. -/
def scal : T → Bool
  | .v _ => true
  | .agg ts => ts.all T.isV
  | _ => false

/-- What is yielded: numbers, texts, structs of them alone. -/
def scalY (ys : List T) : Bool := ys.all fun y => match y with
  | .tup ts => ts.all scal
  | _ => false

def setVars : List Nat → List T → List T → List T
  | p :: ps, t :: ts, vars => setVars ps ts (vars.set p t)
  | _, _, vars => vars

/-- The rounds of a range over a function: each begins with the variables as they were; the boxes stay. -/
def shiftB (K : Nat) (bx : List (Option (List T))) : List (Option (List T)) := List.replicate K none ++ bx.map (Option.map (remapL (fun s => some (s + K)) some))
def unshiftB (K : Nat) (bx : List (Option (List T))) : List (Option (List T)) := (bx.drop K).map (Option.map (remapL (fun s => if K ≤ s then some (s - K) else none) some))
def liveV (bx : List (Option (List T))) (vars : List T) : List T := remapL (fun s => if (boxAt bx s).isSome then some s else none) (fun _ => none) vars

def roundsN (run : St → Option Out) (K : Nat) (ps : List Nat) : List T → List T → List (Option (List T)) → Option St
  | [], vars, bx => some ⟨[], vars, bx⟩
  | .tup y :: ys, vars, bx => if y.length = ps.length then
      match run ⟨[], setVars ps y (remapL (fun s => some (s + K)) (fun _ => none) vars), shiftB K bx⟩ with
      | some (.norm σ) => roundsN run K ps ys (liveV (unshiftB K σ.boxes) vars) (unshiftB K σ.boxes)
      | _ => none
    else none
  | _ :: _, _, _ => none

def exec (C : FuncId → List T → Option T) (N : Nat) : IC → St → Option Out
  | .skip, σ => some (.norm σ)
  | .reg r, σ => (runReg C σ r).map .norm
  | .seq a b, σ => match exec C N a σ with
    | some (.norm σ') => exec C N b σ'
    | o => o
  | .cond c a b, σ => match c.get σ with
    | .v (.bool t) => if t then exec C N a σ else exec C N b σ
    | _ => none
  | .block id a, σ => match exec C N a σ with
    | some (.exit j σ') => if j = id then some (.norm σ') else some (.exit j σ')
    | o => o
  | .loop a, σ => loopN (exec C N a) N σ
  | .nojump a, σ => match exec C N a σ with
    | some (.exit j σ') => if j < gotoBase then some (.exit j σ') else none
    | o => o
  | .jumps id a b, σ => match exec C N a σ with
    | some (.exit j σ') => if j = id then jumpN (exec C N b) id N σ' else if j < gotoBase then some (.exit j σ') else none
    | o => o
  | .range K g ps a b, σ => match calleeOf (g.get σ) with
    | some (f, [], caps) =>
      let ss := reach σ.boxes 10000 [] (refsL caps)
      ((remapL (fun s => if ss.contains s then some s else none) (fun _ => none) caps).mapM (close (keepB ss σ.boxes) 8)).bind fun cs =>
      match C (ioBase + f) [.tup cs] with
      | some (.tup ys) =>
        (roundsN (fun σ => match exec C N a σ with
          | some (.norm σ1) => exec C N b σ1
          | _ => none) K ps ys (remapL (fun s => if ss.contains s then none else some s) (fun _ => none) σ.vars) (lendB ss σ.boxes)).map fun σ' =>
          .norm (if scalY ys && ss.all (fun s => boxFree σ'.boxes s) then { σ' with boxes := backB ss (keepB ss σ.boxes) σ'.boxes } else σ')
      | _ => none
    | _ => none
  | .exit id, σ => some (.exit id σ)
  | .ret, σ => some (.ret σ)
  | .kill vs, σ => some (.norm { σ with vars := killVars vs σ.vars })
  | .free ss, σ => (freeBoxes ss σ).map .norm

def resOf (σ : St) : IRes → Option T
  | .var i => σ.vars[i]?
  | .cell i isAgg n => match σ.vars[i]? with
    | some (.ref s off) => match σ.boxes[s]? with
      | some (some cs) => one? isAgg n cs off
      | _ => none
    | _ => none

/-- A result as its function is to tell it. -/
def canonT (i : Nat) : CM → T → T
  | .raw, t => t
  | .any, t => t.weak
  | .own e, .sl .nil 0 [] => .sl (.own (8 * (famBase + famBase + i)) e) 0 []
  | .own _, t => t
  | .box s, .sl .nil 0 [] => .bsl s 0 0 0
  | .box _, t => t

def canonL : Nat → List CM → List T → List T
  | i, c :: cs, t :: ts => canonT i c t :: canonL (i + 1) cs ts
  | _, _, ts => ts

def resultsOf (σ : St) (rs : List IRes) (canon : List CM) : Option T := do
  let ts ← rs.mapM (resOf σ)
  match canonL 0 canon ts with
  | [t] => some t
  | ts => some (.tup ts)

/-- A result as the caller sees it: its families are numbered 0, 1, ...; boxes that it refers to are as they are now, and stay so. -/
def exportT (bx : List (Option (List T))) (t : T) : Option T :=
  if t.hasRef then close bx 8 t else if t.fams.Nodup then some (t.remap (fun _ => none) (t.fams.idxOf? ·)) else none

def runFn (C : FuncId → List T → Option T) (N : Nat) (fn : IFn) (args : List T) : Option T :=
  if args.length = fn.nparams then
    match exec C N fn.body ⟨[], args ++ List.replicate (fn.nvars - fn.nparams) .undef, List.replicate (2 * fn.nboxes) none⟩ with
    | some (.norm σ) | some (.ret σ) => (resultsOf σ fn.results fn.canon).bind (exportT σ.boxes)
    | _ => none
  else none

/-- A box's name where a call hands back: those that it was handed, then those that it made. -/
def outLab (nb K : Nat) (own : List Nat) (s : Nat) : Option Nat := if s < nb then (own.idxOf? s).map (fun i => 2 * (K + i) + s % 2) else if s < nb + 2 * K then some (s - nb) else none
def outUn (nb K : Nat) (own : List Nat) (l : Nat) : Option Nat :=
  (if l < 2 * K then some (l + nb) else unlab own (l - 2 * K)).bind fun s => if outLab nb K own s = some l then some s else none

def exportAs (nb K : Nat) (own fs : List Nat) (bx : List (Option (List T))) (t : T) : T :=
  .tup [t.remap (outLab nb K own) (fs.idxOf? ·), .tup ((List.range (2 * (K + own.length))).map fun l =>
    encB ((outUn nb K own l).bind fun s => if s < nb then some (remapL (outLab nb K own) (fs.idxOf? ·) ((boxAt bx s).getD [])) else (boxAt bx s).map (remapL (outLab nb K own) (fs.idxOf? ·))))]

def insOf (nb K : Nat) : List Nat := (List.range (2 * K)).map (· + nb)
def ownOf (nb K : Nat) (bx : List (Option (List T))) (t : T) : List Nat :=
  (reach bx 10000 [] (t.refs ++ (insOf nb K).flatMap fun s => refsL ((boxAt bx s).getD []))).filter (· < nb)

/-- What a call hands back that changes boxes: its result, the boxes that it was handed, those that it made. -/
def exportIO (nb K : Nat) (bx : List (Option (List T))) (t : T) : T :=
  exportAs nb K (ownOf nb K bx t) (t.fams ++ (insOf nb K ++ ownOf nb K bx t).flatMap fun s => famsL ((boxAt bx s).getD [])) bx t

def runIO (C : FuncId → List T → Option T) (N : Nat) (fn : IFn) (args : List T) (ins : List (Option (List T))) : Option T :=
  let nb := 2 * fn.nboxes
  if args.length = fn.nparams ∧ ins.length % 2 = 0 then
    match exec C N fn.body ⟨[], (args.map (T.remap (fun l => some (l + nb)) some)) ++ List.replicate (fn.nvars - fn.nparams) .undef,
        List.replicate nb none ++ ins.map (Option.map (remapL (fun l => some (l + nb)) some))⟩ with
    | some (.norm σ) | some (.ret σ) => (resultsOf σ fn.results fn.canon).map (exportIO nb (ins.length / 2) σ.boxes)
    | _ => none
  else none

mutual
/-- Are both the same? (told only of small ones) -/
def T.same : T → T → Bool
  | .undef, .undef => true
  | .sl g n [], .sl g' n' [] => decide (g = g') && n == n'
  | .ref s o, .ref s' o' => s == s' && o == o'
  | .bsl s o n c, .bsl s' o' n' c' => s == s' && o == o' && n == n' && c == c'
  | .mref s, .mref s' => s == s'
  | .agg ts, .agg us => sameL ts us
  | .tup ts, .tup us => sameL ts us
  | _, _ => false
def sameL : List T → List T → Bool
  | [], [] => true
  | t :: ts, u :: us => t.same u && sameL ts us
  | _, _ => false
end

/-- Where nothing is known of an empty slice: it is nil, or it isn't. -/
def splits : List T → List (List T)
  | [] => [[]]
  | .sl .any 0 [] :: ts => (splits ts).map (.sl .nil 0 [] :: ·) ++ (splits ts).map (.sl .imm 0 [] :: ·)
  | t :: ts => (splits ts).map (t :: ·)

def runSplit (split : Bool) (args : List T) (f : List T → Option T) : Option T :=
  if split then match (splits args).mapM f with
    | some (r :: rs) => if rs.all (T.same r) then some r else none
    | _ => none
  else f args

/-! ### Functions that are ranged over -/
def isY : T → Bool
  | .v (.func (.yield _) _ _) => true
  | _ => false

/-- What a round is handed. -/
def yT (l : Nat) : T := .v (.func (.yield l) #[] #[])

def plainY (C : FuncId → List T → Option T) (σ : St) (o : IOp) : Option (T × St × List (List T)) :=
  if o.reads.all fun x => !isY (x.get σ) then (runOp C σ o).bind fun p => if isY p.1 then none else some (p.1, p.2, []) else none

def yieldY (l : Nat) (σ : St) (t : T) (ts : List T) : Option (T × St × List (List T)) :=
  match t with
  | .v (.func (.yield l') a b) => if l' = l ∧ a.size = 0 ∧ b.size = 0 ∧ ts.all scal = true ∧ ts.all (fun t => !isY t) = true then some (T.bool true, σ, [ts]) else none
  | _ => none

def opY (C : FuncId → List T → Option T) (l : Nat) (σ : St) : IOp → Option (T × St × List (List T))
  | .callv d f as => if isY (f.get σ) then (match f with | .c _ => none | _ => yieldY l σ (f.get σ) (as.map (Opd.get σ))) else plainY C σ (.callv d f as)
  | .mv (.c t) => if isY t then none else some (t, σ, [])
  | .mv a => some (a.get σ, σ, [])
  | o => plainY C σ o

def opsY (C : FuncId → List T → Option T) (l : Nat) : St → List (Option (Nat × Bool) × IOp) → Option (St × List (List T))
  | σ, [] => some (σ, [])
  | σ, (g, o) :: rest => (wantedT σ.rs g).bind fun go =>
    if go then (opY C l σ o).bind fun p => (opsY C l { p.2.1 with rs := p.2.1.rs ++ [p.1] } rest).map fun q => (q.1, p.2.2 ++ q.2)
    else opsY C l { σ with rs := σ.rs ++ [T.skipped] } rest

def loopY (f : St → Option (Out × List (List T))) : Nat → St → Option (Out × List (List T))
  | 0, _ => none
  | n + 1, σ => match f σ with
    | some (.norm σ', ys) => (loopY f n σ').map fun q => (q.1, ys ++ q.2)
    | o => o

/-- The code of a function that is ranged over, each round of which goes on; what it yields. -/
def execY (C : FuncId → List T → Option T) (l N : Nat) : IC → St → Option (Out × List (List T))
  | .skip, σ => some (.norm σ, [])
  | .reg r, σ => (opsY C l { σ with rs := [] } r.ops).bind fun q => if r.draw = true ∧ q.2.isEmpty = false then none else some (.norm ⟨[], outsOf q.1.rs q.1.vars r.outs, q.1.boxes⟩, q.2)
  | .seq a b, σ => match execY C l N a σ with
    | some (.norm σ', ys) => (execY C l N b σ').map fun q => (q.1, ys ++ q.2)
    | o => o
  | .cond c a b, σ => match c.get σ with
    | .v (.bool t) => if t then execY C l N a σ else execY C l N b σ
    | _ => none
  | .block id a, σ => match execY C l N a σ with
    | some (.exit j σ', ys) => if j = id then some (.norm σ', ys) else some (.exit j σ', ys)
    | o => o
  | .loop a, σ => loopY (execY C l N a) N σ
  | .nojump a, σ => match execY C l N a σ with
    | some (.exit j σ', ys) => if j < gotoBase then some (.exit j σ', ys) else none
    | o => o
  | .exit id, σ => some (.exit id σ, [])
  | .ret, σ => some (.ret σ, [])
  | .kill vs, σ => some (.norm { σ with vars := killVars vs σ.vars }, [])
  | .free ss, σ => (freeBoxes ss σ).map fun σ' => (.norm σ', [])
  | _, _ => none

def runSeq (C : FuncId → List T → Option T) (N l : Nat) (fn : IFn) (caps : List T) : Option (List (List T)) :=
  if caps.length + 1 = fn.nparams ∧ caps.all (fun t => !isY t) = true ∧ fn.results.isEmpty = true then
    match execY C l N fn.body ⟨[], yT l :: caps ++ List.replicate (fn.nvars - fn.nparams) .undef, List.replicate (2 * fn.nboxes) none⟩ with
    | some (.norm _, ys) | some (.ret _, ys) => some ys
    | _ => none
  else none

/-- The code of the program's functions; functions whose contract is shown by other means. -/
structure Env where
  fn : FuncId → Option IFn
  prim : FuncId → Option (List T → Option T)

def callN (E : Env) : Nat → FuncId → List T → Option T
  | 0, _, _ => none
  | n + 1, f, args => match E.prim f with
    | some g => g args
    | none => if f < ioBase then (match E.fn f with
        | some fn => runSplit fn.split args (runFn (callN E n) n fn)
        | none => none)
      else (match E.fn (f - ioBase), args with
        | some fn, [.tup as, .tup ins] => runSplit fn.split as fun as => runIO (callN E n) n fn as (ins.map decB)
        | some fn, [.tup caps] => (runSeq (callN E n) n 0 fn caps).map fun ys => .tup (ys.map .tup)
        | _, _ => none)

end Go.Vi
end
section
/-
  A VERIFIED INTERPRETER (part 1): from the program's code to the small code. What is not served is 'none'.
-/
namespace Go.Vi
open Go

mutual
def ofValue : Value → T
  | .agg cs => .agg (ofValues cs.toList)
  | .slice none 0 0 => .sl .nil 0 []
  | x => .v x
def ofValues : List Value → List T
  | [] => []
  | x :: xs => ofValue x :: ofValues xs
end

/-- A constant of the text. -/
def kval : Value → Bool
  | .agg cs => cs.all fun x => x.oneCell'
  | _ => true

/-- Where a slot was written last among the operations done. -/
def lastIdx (done : List (Option Nat)) (s : Nat) : Option Nat := done.idxOf? (some s)

def lowOpd (vm : List Nat) (done : List (Option Nat)) : Operand → Option Opd
  | .tmp s => match lastIdx done s with
    | some i => some (.r i)
    | none => (vm.idxOf? s).map .x
  | .const v => if kval v then some (.c (ofValue v)) else none
  | .func f => some (.c (.v (.func (.func f) #[] #[])))
  | .global _ => none

def aggOf (P : Program) (t : TypeId) : Option (Bool × Nat) :=
  match P.underlying t, P.info? t with
  | some (.struct _), some i => some (true, i.size)
  | some (.array _ _), some i => some (true, i.size)
  | some _, some i => if i.size = 1 then some (false, 1) else none
  | _, _ => none

def zeroOf (P : Program) (t : TypeId) : Option (List T) :=
  match P.info? t with
  | some i => match i.zero with
    | some z => if z.cells.size = i.size ∧ z.cells.all Value.oneCell' then some (ofValues z.cells.toList) else none
    | none => none
  | none => none

/-- What the cells of a type are, where its equality is that of the cells, one by one. -/
def leaves (P : Program) : Nat → TypeId → Option (List LK)
  | 0, _ => none
  | d + 1, t => match P.underlying t with
    | some .bool => some [.bool]
    | some (.int _) => some [.int]
    | some .string => some [.str]
    | some (.struct fs) => if P.stoodInHeld t then none else fs.toList.foldlM (fun acc f => if f.name = "_" ∨ f.offset ≠ acc.length then none else do
        let ks ← leaves P d f.type
        let (_, n) ← aggOf P f.type
        if n = ks.length then some (acc ++ ks) else none) []
    | some (.array n e) => do
        let ks ← leaves P d e
        let (_, m) ← aggOf P e
        if m = ks.length then some (List.replicate n ks).flatten else none
    | _ => none

/-- Enough for `build`. -/
def placesOk (P : Program) (t : TypeId) : Bool :=
  match P.underlying t with
  | some (.struct fs) => fs.toList.all fun f => (P.info? f.type).isSome
  | some (.array _ e) => (P.info? e).isSome
  | some (.slice e) => (P.info? e).isSome
  | _ => false

def lowPart (P : Program) (opd : Operand → Option Opd) (t : TypeId) : (Nat × Operand) → Option (Nat × Nat × Opd)
  | (i, x) => do
    let a ← opd x
    match P.underlying t with
    | some (.struct fs) => match fs[i]? with
      | some f => some (f.offset, P.cellsOf f.type, a)
      | none => none
    | some (.array _ e) => some (i * P.cellsOf e, P.cellsOf e, a)
    | some (.slice e) => some (i * P.cellsOf e, P.cellsOf e, a)
    | _ => none

def lowOpt (opd : Operand → Option Opd) : Option Operand → Option (Option Opd)
  | none => some none
  | some x => (opd x).map some

def isNilConst : Operand → Bool
  | .const (.slice none 0 0) => true
  | _ => false

def lowEq (P : Program) (opd : Operand → Option Opd) (neg : Bool) (op : BinOp) (t : TypeId) (x y : Operand) : Option IOp := do
  match P.underlying t with
  | some (.int _) | some .string | some (.float _) | some (.complex _) => do some (.bin op t (← opd x) (← opd y))
  | some .bool => do some (.eqb neg (← opd x) (← opd y))
  | some (.slice _) => if isNilConst y then do some (.eqnil neg (← opd x)) else none
  | some (.struct _) | some (.array _ _) => do
      let ks ← leaves P 20 t
      if P.eqGuardType P.depth t = true ∨ aggOf P t ≠ some (true, ks.length) then none else do some (.eqa neg ks (← opd x) (← opd y))
  | _ => none

/-- The box of a slot. -/
def slotOf (bm : List Nat) (d : Nat) : Option Nat := (bm.idxOf? d).map (2 * ·)

/-- A slice is made: a family's row, or a box if it is to be written. -/
def mkOp (bm : List Nat) (d : Nat) (e : TypeId) (sz bytes : Nat) (zs : List T) (q : Opd) : IOp :=
  match slotOf bm d with
  | some s => .mkBox s sz bytes zs q
  | none => .mkSlice d e sz bytes zs q

/-- 'append': to a family's row, or (to what is empty) as a box of its own. -/
def bsOp (bm : List Nat) (d : Nat) (e : TypeId) (sz len : Nat) (zs : List T) (qs : List (Nat × Nat × Opd)) : IOp :=
  match slotOf bm d with
  | some s => .bsliceB s sz len zs qs
  | none => .bslice d e sz len zs qs

def appOp (bm : List Nat) (d : Nat) (e : TypeId) (sz bytes : Nat) (zs : List T) (kind : Nat) (x y : Opd) : IOp :=
  match slotOf bm d with
  | some s => .appendB s e sz bytes zs kind x y
  | none => .append d e sz bytes zs kind x y

/-- The boxes that take what a call makes: those of the slots d, d + 100000, .. -/
def adOf (bm : List Nat) (d : Nat) : List Nat := (List.range 8).filterMap fun j => slotOf bm (d + 100000 * j)

/-- How a function is called: as a value; handing over boxes that it makes; changing boxes. -/
def callOp (io : FuncId → Nat) (bm : List Nat) (d : Nat) (f : FuncId) (as : List Opd) : IOp :=
  match io f with
  | 0 => .call d f as
  | 1 => .callnew d (adOf bm d) f as
  | _ => .callio d (adOf bm d) f as

def callvOp (bm : List Nat) (d : Nat) (f : Opd) (as : List Opd) : IOp :=
  if bm.contains (d + 900000) then .callvio d (adOf bm d) f as else .callv d f as

/-- How a key is held against another one. -/
def keyKind (P : Program) (t : TypeId) : Option LK :=
  match P.underlying t with
  | some (.int _) => some .int
  | some .bool => some .bool
  | _ => none

/-- The zero value, whole. -/
def zeroTree (P : Program) (t : TypeId) : Option T :=
  match P.info? t with
  | some i => match i.zero with
    | some z => if kval z then some (ofValue z) else none
    | none => none
  | none => none

/-- A slot that takes a box's row as a family of its own: told by a mark (the element's type ahead of the slot). -/
def thawOf (bm : List Nat) (d : Nat) : Option Nat := (bm.find? fun m => decide (10000000 ≤ m) && m % 10000000 == d).map fun m => m / 10000000 - 1

def mvOp (P : Program) (bm : List Nat) (dst : Option Nat) (q : Opd) : IOp :=
  match dst with
  | some d => match thawOf bm d with
    | some e => if 0 < P.cellsOf e ∧ (P.info? e).isSome = true then .thaw d e (P.cellsOf e) q else .mv q
    | none => .mv q
  | none => .mv q

/-- One operation. `d`: the slot that it writes; `bm`: the slots of the boxes. -/
def lowOp (P : Program) (io : FuncId → Nat) (vm bm : List Nat) (done : List (Option Nat)) (o : Oper) : Option IOp :=
  let opd := lowOpd vm done
  match o.op with
  | .move x | .assign x => (opd x).map (mvOp P bm o.dst)
  | .pick c a b => do some (.pick (← opd c) (← opd a) (← opd b))
  | .binOp op t x y _ => match op with
    | .eql => lowEq P opd false op t x y
    | .neq => lowEq P opd true op t x y
    | _ => do some (.bin op t (← opd x) (← opd y))
  | .unOp op _ x => (opd x).map (.un op)
  | .convert s t x => match P.underlying s, P.underlying t with
    | some (.int _), some (.int k) => (opd x).map (.toInt k)
    | some (.float _), some (.int k) => (opd x).map (.toInt k)
    | some (.int _), some (.float k) => (opd x).map (.toFloat k)
    | some (.slice e), some .string => match P.underlying e with
      | some (.int .u8) => (opd x).map .toStr
      | _ => none
    | _, _ => none
  | .build t parts => match P.underlying t with
    | some (.struct _) | some (.array _ _) => if placesOk P t then do some (.build (← zeroOf P t) (← parts.toList.mapM (lowPart P opd t))) else none
    | _ => none
  | .field t x f => match P.underlying t with
    | some (.struct fs) => match fs[f]? with
      | some f => do let (g, n) ← aggOf P f.type; some (.field g f.offset n (← opd x))
      | none => none
    | _ => none
  | .index t x i => match P.underlying t with
    | some (.array len e) => do let (g, n) ← aggOf P e; some (.indexA len n g (← opd x) (← opd i))
    | some .string => do some (.indexS (← opd x) (← opd i))
    | _ => none
  | .extract x i => do some (.extract (← opd x) i)
  | .alloc t => match o.dst with
    | some d => do some (.alloc (← slotOf bm d) (← zeroOf P t))
    | none => none
  | .box _ x => match o.dst with
    | some d => do some (.box (← slotOf bm d) (← opd x))
    | none => none
  | .load t x => do let (g, n) ← aggOf P t; some (.load g n (← opd x))
  | .store t x y => do let (_, n) ← aggOf P t; some (.store n (← opd x) (← opd y))
  | .fieldAddr t x f => match P.underlying t with
    | some (.struct fs) => match fs[f]? with
      | some f => if P.cellsOf f.type = 0 then none else do some (.faddr f.offset (← opd x))
      | none => none
    | _ => none
  | .indexAddr t x i => match P.underlying t with
    | some (.array len e) => if P.cellsOf e = 0 then none else do some (.iaddrA len (P.cellsOf e) (← opd x) (← opd i))
    | some (.slice e) => if P.cellsOf e = 0 then none else do some (.iaddrS (P.cellsOf e) (← opd x) (← opd i))
    | _ => none
  | .slice t x lo hi mx => match P.underlying t with
    | some .string => if mx.isNone then do some (.sliceS (← opd x) (← lowOpt opd lo) (← lowOpt opd hi)) else none
    | some (.slice e) => if P.cellsOf e = 0 ∨ (mx.isSome ∧ hi.isNone) then none else do some (.sliceT (P.cellsOf e) (← opd x) (← lowOpt opd lo) (← lowOpt opd hi) (← lowOpt opd mx))
    | some (.array len e) => if P.cellsOf e = 0 ∨ mx.isSome then none else do some (.sliceA len (P.cellsOf e) (← opd x) (← lowOpt opd lo) (← lowOpt opd hi))
    | _ => none
  | .sliceToArrayPointer t x => match P.underlying t with
    | some (.array len _) => (opd x).map (.arrOf len)
    | _ => none
  | .makeSlice t l c => match P.underlying t, o.dst with
    | some (.slice e), some d => match l, c with
      | .tmp l', .tmp c' => if l' = c' ∧ 0 < P.cellsOf e then do some (mkOp bm d e (P.cellsOf e) (P.bytesOf e) (← zeroOf P e) (← opd l)) else none
      | .const (.int .i64 m), .const (.int .i64 m') => if m = m' ∧ 0 < P.cellsOf e then do some (mkOp bm d e (P.cellsOf e) (P.bytesOf e) (← zeroOf P e) (← opd l)) else none
      | .const (.int .i64 0), .tmp _ => if 0 < P.cellsOf e ∧ (zeroOf P e).isSome then (opd c).map (.mkCap d e (P.bytesOf e)) else none
      | _, _ => none
    | _, _ => none
  | .buildSlice t len parts => match P.underlying t, o.dst with
    | some (.slice e), some d => if 0 < P.cellsOf e ∧ placesOk P t then do some (bsOp bm d e (P.cellsOf e) len (← zeroOf P e) (← parts.toList.mapM (lowPart P opd t))) else none
    | _, _ => none
  | .makeMap _ none => match o.dst with
    | some d => (slotOf bm d).map fun s => .mkMap (s + 1)
    | none => none
  | .lookup t x i ok => match P.underlying t with
    | some (.map k e) => do some (.lookup (← keyKind P k) (← zeroTree P e) ok (← opd x) (← opd i))
    | _ => none
  | .mapUpdate t x i v => match P.underlying t with
    | some (.map k _) => do some (.mapUpdate (← keyKind P k) (← opd x) (← opd i) (← opd v))
    | _ => none
  | .makeFunc fn first cap => do some (.mkFunc fn (← first.toList.mapM opd) (← cap.toList.mapM opd))
  | .nilCheck x => (opd x).map .nilCheck
  | .call c => match c.callee, o.dst with
    | .builtin .append, some d => match c.args.toList, c.argTypes.toList with
      | [x, y], [t, u] => match P.underlying t, P.underlying u with
        | some (.slice e), some (.slice _) => if 0 < P.cellsOf e then do some (appOp bm d e (P.cellsOf e) (P.bytesOf e) (← zeroOf P e) 0 (← opd x) (← opd y)) else none
        | some (.slice e), some .string => if P.cellsOf e = 1 then do some (appOp bm d e 1 (P.bytesOf e) (← zeroOf P e) 1 (← opd x) (← opd y)) else none
        | some (.slice e), some (.int _) => if 0 < P.cellsOf e then do some (appOp bm d e (P.cellsOf e) (P.bytesOf e) (← zeroOf P e) 2 (← opd x) (← opd y)) else none
        | _, _ => none
      | _, _ => none
    | .builtin .len, _ => match c.args.toList, c.argTypes.toList with
      | [x], [t] => match P.underlying t with
        | some (.slice _) => (opd x).map (.len false)
        | some .string => (opd x).map (.len true)
        | some (.array n _) => some (.mv (.c (.int n)))
        | some (.map _ _) => (opd x).map .lenM
        | _ => none
      | _, _ => none
    | .builtin .cap, _ => match c.args.toList, c.argTypes.toList with
      | [x], [t] => match P.underlying t with
        | some (.slice _) => (opd x).map .capS
        | _ => none
      | _, _ => none
    | .builtin .max, _ => do some (.minMax true (← c.args.toList.mapM opd))
    | .builtin .min, _ => do some (.minMax false (← c.args.toList.mapM opd))
    | .builtin .real, _ => match c.args.toList with | [x] => (opd x).map (.part 0) | _ => none
    | .builtin .imag, _ => match c.args.toList with | [x] => (opd x).map (.part 1) | _ => none
    | .builtin .complex, _ => match c.args.toList with | [x, y] => do some (.cplx (← opd x) (← opd y)) | _ => none
    | .builtin .copy, _ => match c.args.toList, c.argTypes.toList with
      | [x, y], [t, _] => match P.underlying t with
        | some (.slice e) => if 0 < P.cellsOf e then do some (.copy (P.cellsOf e) (← opd x) (← opd y)) else none
        | _ => none
      | _, _ => none
    | .builtin .clear, _ => match c.args.toList, c.argTypes.toList with
      | [x], [t] => match P.underlying t with
        | some (.slice e) => if 0 < P.cellsOf e then do some (.clearS (P.cellsOf e) (← zeroOf P e) (← opd x)) else none
        | _ => none
      | _, _ => none
    | .value (.func f), some d => do some (callOp io bm d f (← c.args.toList.mapM opd))
    | .value (.tmp s), some d => do some (callvOp bm d (← opd (.tmp s)) (← c.args.toList.mapM opd))
    | _, _ => none
  | _ => none

/-- A slot written twice, or out of bounds; a guard that looks at nothing. -/
def operBad (nt : Nat) (done : List (Option Nat)) (o : Oper) : Bool :=
  (match o.dst with | some s => done.contains (some s) || !(decide (s < nt)) | none => false) || (match o.guard with | some (j, _) => !((done[j]?).join).isSome | none => false)

def lowOps (P : Program) (io : FuncId → Nat) (nt : Nat) (vm bm : List Nat) : List (Option Nat) → List Oper → Option (List (Option (Nat × Bool) × IOp))
  | _, [] => some []
  | done, o :: rest =>
    if operBad nt done o then none else do
      let i ← lowOp P io vm bm done o
      let r ← lowOps P io nt vm bm (done ++ [o.dst]) rest
      some ((o.guard, i) :: r)

/-- What is forgotten at the heads of the loops, in the order of the text: variables, boxes (by their slots). -/
abbrev Hints := List (List Nat × List Nat)

/-- A label that is jumped to. -/
def gotoOf : Code → Option Nat
  | .goto l => some l
  | .seq a b => (gotoOf a).or (gotoOf b)
  | .cond _ a b => (gotoOf a).or (gotoOf b)
  | .block _ a => gotoOf a
  | .loop a => gotoOf a
  | .scope a => gotoOf a
  | _ => none

/-- A label's rest is lowered apart: so many scopes may stand in one another. -/
def noRange : Code → Bool
  | .skip | .region .. | .exit _ | .ret | .label _ | .goto _ => true
  | .seq a b | .cond _ a b => noRange a && noRange b
  | .block _ a | .loop a => noRange a
  | .scope a => (gotoOf a).isNone && noRange a
  | _ => false

def lowCode (P : Program) (io : FuncId → Nat) (nt : Nat) (vm bm : List Nat) (drawOk : List Nat → Array Oper → List (Option (Nat × Bool) × IOp) → Bool) : Nat → Code → Hints → Option (IC × Hints)
  | 0, _, _ => none
  | n + 1, c, h => match c with
    | .skip => some (.skip, h)
    | .region _ ops draw => if (lowOps P io nt vm bm [] ops.toList).isNone then some (.nojump (.exit gotoBase), h) else (lowOps P io nt vm bm [] ops.toList).bind fun l =>
      if draw && !drawOk vm ops l then none else some (.reg ⟨l, vm.map (lastIdx (ops.toList.map (·.dst))), draw⟩, h)
    | .seq a b => do
      let (a, h) ← lowCode P io nt vm bm drawOk n a h
      let (b, h) ← lowCode P io nt vm bm drawOk n b h
      some (.seq a b, h)
    | .cond c a b => do
      let c ← lowOpd vm [] c
      let (a, h) ← lowCode P io nt vm bm drawOk n a h
      let (b, h) ← lowCode P io nt vm bm drawOk n b h
      some (.cond c a b, h)
    | .block id a => do let (a, h) ← lowCode P io nt vm bm drawOk n a h; if id < gotoBase then some (.block id a, h) else none
    | .loop a => match h with
      | (vs, ss) :: h => do
        let (a, h) ← lowCode P io nt vm bm drawOk n a h
        some (.loop (.seq (.kill (vs.filterMap (vm.idxOf? ·))) (.seq (.free ((ss.filterMap (slotOf bm ·)).flatMap fun s => [s, s + 1])) a)), h)
      | [] => none
    | .exit id => if id < gotoBase then some (.exit id, h) else none
    | .ret => some (.ret, h)
    | .label _ => some (.skip, h)
    | .goto l => some (.exit (gotoBase + l), h)
    | .scope a => match gotoOf a with
      | none => do let (a, h) ← lowCode P io nt vm bm drawOk n a h; some (.nojump a, h)
      | some l => match findLabel a l, h with
        | some rest, (vs, ss) :: h => do
          let (a, h) ← lowCode P io nt vm bm drawOk n a h
          let (b, h) ← lowCode P io nt vm bm drawOk n rest h
          some (.jumps (gotoBase + l) a (.seq (.kill (vs.filterMap (vm.idxOf? ·))) (.seq (.free ((ss.filterMap (slotOf bm ·)).flatMap fun s => [s, s + 1])) b)), h)
        | _, _ => none
    | .rangeFunc g ps a b => do
      let g ← lowOpd vm [] g
      let is ← ps.toList.mapM (vm.idxOf? ·)
      if vm.Nodup ∧ ps.toList.all (· < nt) ∧ noRange a = true ∧ noRange b = true then do
        let (a, h) ← lowCode P io nt vm bm drawOk n a h
        let (b, h) ← lowCode P io nt vm bm drawOk n b h
        some (.range (2 * bm.length) g is a b, h)
      else none
    | _ => none

def lowRes (P : Program) (vm : List Nat) : ResultVar → Option IRes
  | .tmp s => (vm.idxOf? s).map .var
  | .cell s t => do let (g, n) ← aggOf P t; some (.cell (← vm.idxOf? s) g n)

/-- `vm`: the slots that are variables (the parameters first); `bm`: the slots of the boxes. -/
def lower (P : Program) (io : FuncId → Nat) (drawOk : List Nat → Array Oper → List (Option (Nat × Bool) × IOp) → Bool) (vm bm : List Nat) (h : Hints) (canon : List CM) (split : Bool) (fn : Func) : Option IFn :=
  let p := fn.params.size + fn.nfree
  match fn.body with
  | some c => if vm.Nodup ∧ bm.Nodup ∧ vm.take p = List.range p ∧ vm.all (· < fn.ntmps) then do
      let (c, _) ← lowCode P io fn.ntmps vm bm drawOk 400 c h
      let rs ← fn.results.toList.mapM (lowRes P vm)
      some ⟨p, vm.length, bm.length, rs, canon, split, c⟩
    else none
  | none => none

end Go.Vi
end
section
/-
  A VERIFIED INTERPRETER (part 2): what it is that a value of the machine is as a tree tells.
-/
namespace Go.Vi
open Go Go.RowKit

theorem stripL_map (d : Nat) (ts : List T) : stripL d ts = ts.map (T.strip d) := by
  induction ts with
  | nil => simp [stripL]
  | cons t ts ih => simp [stripL, ih]
theorem importL_map (d : Nat) (ts : List T) : importL d ts = ts.map (T.import d) := by
  induction ts with
  | nil => simp [importL]
  | cons t ts ih => simp [importL, ih]
theorem noRefL_all (s : Nat) (ts : List T) : noRefL s ts = ts.all (T.noRef s) := by
  induction ts with
  | nil => simp [noRefL]
  | cons t ts ih => simp [noRefL, ih]
theorem closedL_all (ts : List T) : closedL ts = ts.all T.closed := by
  induction ts with
  | nil => simp [closedL]
  | cons t ts ih => simp [closedL, ih]
theorem hasRefL_any (ts : List T) : hasRefL ts = ts.any T.hasRef := by
  induction ts with
  | nil => simp [hasRefL]
  | cons t ts ih => simp [hasRefL, ih]
theorem famsL_flat (ts : List T) : famsL ts = ts.flatMap T.fams := by
  induction ts with
  | nil => simp [famsL]
  | cons t ts ih => simp [famsL, ih]
theorem remapL_map (ρ η : Nat → Option Nat) (ts : List T) : remapL ρ η ts = ts.map (T.remap ρ η) := by
  induction ts with
  | nil => simp [remapL]
  | cons t ts ih => simp [remapL, ih]
theorem refsL_flat (ts : List T) : refsL ts = ts.flatMap T.refs := by
  induction ts with
  | nil => simp [refsL]
  | cons t ts ih => simp [refsL, ih]
theorem ofValues_map (xs : List Value) : ofValues xs = xs.map ofValue := by
  induction xs with
  | nil => simp [ofValues]
  | cons t ts ih => simp [ofValues, ih]

abbrev BMap := Nat → Option Nat
abbrev FMap := Nat → Option (Value × TypeId)
def noB : BMap := fun _ => none
def noF : FMap := fun _ => none

/-- May it be nil? -/
def Tag.mayNil : Tag → Bool
  | .imm => false
  | _ => true

/-- A block has as many cells, at least. -/
def RoomAt (w : World) (b k : Nat) : Prop := ∃ cc e, w.heap[b]? = some (.cells cc e (0, 0)) ∧ k ≤ cc.size

/-- No block has become smaller. -/
def Grows (w w' : World) : Prop := ∀ b k, RoomAt w b k → RoomAt w' b k

theorem Grows.refl (w : World) : Grows w w := fun _ _ h => h
theorem Grows.trans {w w' w'' : World} (h : Grows w w') (k : Grows w' w'') : Grows w w'' := fun b n hb => k b n (h b n hb)
theorem grows_of_block {w w' : World} (h : ∀ b, b < w.heap.size → w'.heap[b]? = w.heap[b]?) : Grows w w' := fun b k ⟨cc, e, h1, h2⟩ => ⟨cc, e, (h b (Array.getElem?_eq_some_iff.1 h1).1).trans h1, h2⟩
/-- One block is turned. -/
theorem grows_of_row {w w' : World} {g : Nat} (h : ∀ b, b < w.heap.size → b ≠ g → w'.heap[b]? = w.heap[b]?) (hg : ∀ k, RoomAt w g k → RoomAt w' g k) : Grows w w' := fun b k hb => by
  by_cases he : b = g
  · subst he; exact hg k hb
  · obtain ⟨cc, e, h1, h2⟩ := hb
    exact ⟨cc, e, (h b (Array.getElem?_eq_some_iff.1 h1).1 he).trans h1, h2⟩

/-- What is known of the capacity of a box's slice: the block has the cells; or there is none. -/
def BslOk (w : World) (b off n m c : Nat) : Prop := (0 < n → ∀ sz, m = n * sz → RoomAt w b (off + c * sz)) ∧ (n = 0 → m = 0 → c = 0) ∧ (n = 0 → ∀ sz, 0 < sz → m = 1 + sz → RoomAt w b (off + c * sz))

theorem BslOk.grows {w w' : World} {b off n m c : Nat} (h : BslOk w b off n m c) (hg : Grows w w') : BslOk w' b off n m c := ⟨fun hn sz hm => hg _ _ (h.1 hn sz hm), h.2.1, fun hn sz hs hm => hg _ _ (h.2.2 hn sz hs hm)⟩

/-- The value x of the machine, in the world w, is what the tree t tells; S: the cells that don't change any more; β: the boxes' blocks; φ: the families' slices. -/
inductive Rep (S : Nat → Nat → Prop) (w : World) : BMap → FMap → Value → T → Prop
  | undef (β φ x) : Rep S w β φ x .undef
  | v (β φ x) : Rep S w β φ x (.v x)
  | nil (β φ) (g : Tag) (hg : g.mayNil = true) : Rep S w β φ (.slice none 0 0) (.sl g 0 [])
  | sl (β φ) (g : Tag) (a : Addr) (n c : Nat) (cs : List T) (f : Nat → Value) (hnc : n ≤ c)
      (hg : (g = .imm ∨ g = .any) ∨ (g = .clip ∧ c = n) ∨ ∃ k e, g = .own k e ∧ (φ k = some (.slice (some a) n c, e) ∨ (n = 0 ∧ c = 0 ∧ cs = [])))
      (hc : ∀ i, i < cs.length → S a.block (a.off + i) ∧ w.cell? (a.add i) = some (f i) ∧ (f i).oneCell' = true)
      (h : ∀ (i : Nat) (t : T), cs[i]? = some t → Rep S w noB noF (f i) t) : Rep S w β φ (.slice (some a) n c) (.sl g n cs)
  | ptr (β φ) (a : Addr) (cs : List T) (off : Nat) (f : Nat → Value)
      (hc : ∀ i, i < cs.length → S a.block (a.off + i) ∧ w.cell? (a.add i) = some (f i) ∧ (f i).oneCell' = true)
      (h : ∀ (i : Nat) (t : T), cs[i]? = some t → Rep S w noB noF (f i) t) : Rep S w β φ (.pointer (some (a.add off))) (.ptr cs off)
  | ref (β φ) (s off b : Nat) (hb : β s = some b) (hp : s % 2 = 0) : Rep S w β φ (.pointer (some ⟨b, off, none⟩)) (.ref s off)
  | bsl (β φ) (s off n m b c : Nat) (hb : β s = some b) (hp : s % 2 = 0) (hn : n ≤ c) (hz : BslOk w b off n m c) : Rep S w β φ (.slice (some ⟨b, off, none⟩) n c) (.bsl s off n m)
  | bsl0 (β φ) (a : Option Addr) (s off m : Nat) : Rep S w β φ (.slice a 0 0) (.bsl s off 0 m)
  | mref (β φ) (s b : Nat) (hb : β s = some b) (hp : s % 2 = 1) : Rep S w β φ (.map (some b)) (.mref s)
  | agg (β φ) (xs : Array Value) (ts : List T) (hl : xs.size = ts.length) (h1 : ∀ (i : Nat) (x : Value), xs[i]? = some x → x.oneCell' = true)
      (h : ∀ (i : Nat) (x : Value) (t : T), xs[i]? = some x → ts[i]? = some t → Rep S w β φ x t) : Rep S w β φ (.agg xs) (.agg ts)
  | tup (β φ) (xs : Array Value) (ts : List T) (hl : xs.size = ts.length)
      (h : ∀ (i : Nat) (x : Value) (t : T), xs[i]? = some x → ts[i]? = some t → Rep S w β φ x t) : Rep S w β φ (.tuple xs) (.tup ts)
  | clo (β φ) (fn : Fn) (xs ys : Array Value) (ts us : List T) (hx : xs.size = ts.length) (hy : ys.size = us.length)
      (h : ∀ (i : Nat) (x : Value) (t : T), xs[i]? = some x → ts[i]? = some t → Rep S w β φ x t)
      (k : ∀ (i : Nat) (x : Value) (t : T), ys[i]? = some x → us[i]? = some t → Rep S w β φ x t) : Rep S w β φ (.func fn xs ys) (.clo fn ts us)

section
variable {S S' : Nat → Nat → Prop} {w w' : World} {β β' : BMap} {φ φ' : FMap} {x : Value} {t : T}

/-- More cells, boxes, families; another world that has the same cells. -/
theorem Rep.mono (h : Rep S w β φ x t) (hS : ∀ b o, S b o → S' b o) (hβ : ∀ s b, β s = some b → β' s = some b) (hφ : ∀ k p, φ k = some p → φ' k = some p)
    (hw : ∀ b o, S b o → ∀ sp v, w.cell? ⟨b, o, sp⟩ = some v → w'.cell? ⟨b, o, sp⟩ = some v) (hgr : Grows w w') : Rep S' w' β' φ' x t := by
  induction h generalizing β' φ' with
  | undef => exact .undef ..
  | v => exact .v ..
  | nil β φ g hg => exact .nil _ _ g hg
  | sl β φ g a n c cs f hnc hg hc h ih =>
    refine .sl β' φ' g a n c cs f hnc ?_ (fun i hi => ?_) (fun i t ht => ih i t ht (fun _ _ => id) (fun _ _ => id))
    · rcases hg with hg | hg | ⟨k, e, hg, hk | hk⟩
      · exact .inl hg
      · exact .inr (.inl hg)
      · exact .inr (.inr ⟨k, e, hg, .inl (hφ _ _ hk)⟩)
      · exact .inr (.inr ⟨k, e, hg, .inr hk⟩)
    · obtain ⟨h1, h2, h3⟩ := hc i hi
      refine ⟨hS _ _ h1, ?_, h3⟩
      have e1 : a.add i = ⟨a.block, a.off + i, (a.add i).spot⟩ := by unfold Addr.add; split <;> simp_all
      rw [e1] at h2 ⊢
      exact hw _ _ h1 _ _ h2
  | ptr β φ a cs off f hc h ih =>
    refine .ptr β' φ' a cs off f (fun i hi => ?_) (fun i t ht => ih i t ht (fun _ _ => id) (fun _ _ => id))
    obtain ⟨h1, h2, h3⟩ := hc i hi
    refine ⟨hS _ _ h1, ?_, h3⟩
    have e1 : a.add i = ⟨a.block, a.off + i, (a.add i).spot⟩ := by unfold Addr.add; split <;> simp_all
    rw [e1] at h2 ⊢
    exact hw _ _ h1 _ _ h2
  | ref β φ s off b hb hp => exact .ref _ _ _ _ _ (hβ _ _ hb) hp
  | bsl β φ s off n m b c hb hp hn hz => exact .bsl _ _ _ _ _ _ _ _ (hβ _ _ hb) hp hn (hz.grows hgr)
  | bsl0 => exact .bsl0 ..
  | mref β φ s b hb hp => exact .mref _ _ _ _ (hβ _ _ hb) hp
  | agg β φ xs ts hl h1 h ih => exact .agg _ _ _ _ hl h1 fun i x t hx ht => ih i x t hx ht hβ hφ
  | tup β φ xs ts hl h ih => exact .tup _ _ _ _ hl fun i x t hx ht => ih i x t hx ht hβ hφ
  | clo β φ fn xs ys ts us hx hy h k ih ik => exact .clo _ _ _ _ _ _ _ hx hy (fun i x t hx ht => ih i x t hx ht hβ hφ) (fun i x t hx ht => ik i x t hx ht hβ hφ)

/-- Without references and families nothing hangs on boxes and families. -/
theorem Rep.of_closed (h : Rep S w β φ x t) (hc : t.closed = true) : Rep S w β' φ' x t := by
  induction h with
  | undef => exact .undef ..
  | v => exact .v ..
  | nil β φ g hg => exact .nil _ _ g hg
  | sl β φ g a n c cs f hnc hg hcs h ih =>
    refine .sl _ _ g a n c cs f hnc ?_ hcs h
    rcases hg with hg | hg | ⟨k, e, rfl, hk⟩
    · exact .inl hg
    · exact .inr (.inl hg)
    · simp [T.closed] at hc
  | ptr β φ a cs off f hcs h ih => exact .ptr _ _ a cs off f hcs h
  | ref => simp [T.closed] at hc
  | bsl => simp [T.closed] at hc
  | bsl0 => simp [T.closed] at hc
  | mref => simp [T.closed] at hc
  | agg β φ xs ts hl h1 h ih =>
    simp only [T.closed, closedL_all, List.all_eq_true] at hc
    exact .agg _ _ _ _ hl h1 fun i x t hx ht => ih i x t hx ht (hc t (List.mem_of_getElem? ht))
  | tup β φ xs ts hl h ih =>
    simp only [T.closed, closedL_all, List.all_eq_true] at hc
    exact .tup _ _ _ _ hl fun i x t hx ht => ih i x t hx ht (hc t (List.mem_of_getElem? ht))
  | clo β φ fn xs ys ts us hx hy h k ih ik =>
    simp only [T.closed, closedL_all, List.all_eq_true, Bool.and_eq_true] at hc
    exact .clo _ _ _ _ _ _ _ hx hy (fun i x t hx ht => ih i x t hx ht (hc.1 t (List.mem_of_getElem? ht))) (fun i x t hx ht => ik i x t hx ht (hc.2 t (List.mem_of_getElem? ht)))

/-- Boxes and families by other names. -/
theorem Rep.remap {ρ η : Nat → Option Nat} (h : Rep S w β φ x t) (hβ : ∀ s s' b, ρ s = some s' → β s = some b → β' s' = some b) (hp : ∀ s s', ρ s = some s' → s' % 2 = s % 2)
    (hφ : ∀ k k' p, η k = some k' → φ k = some p → φ' k' = some p) : Rep S w β' φ' x (t.remap ρ η) := by
  induction h with
  | undef => exact .undef ..
  | v => simp only [T.remap]; exact .v ..
  | nil β φ g hg =>
    cases g <;> simp only [T.remap] <;> try exact .nil _ _ _ hg
    split <;> exact .nil _ _ _ rfl
  | sl β φ g a n c cs f hnc hg hcs h ih =>
    rcases hg with (rfl | rfl) | ⟨rfl, hg⟩ | ⟨k, e, rfl, hk⟩
    · simp only [T.remap]; exact .sl _ _ _ a n c cs f hnc (.inl (.inl rfl)) hcs h
    · simp only [T.remap]; exact .sl _ _ _ a n c cs f hnc (.inl (.inr rfl)) hcs h
    · simp only [T.remap]; exact .sl _ _ _ a n c cs f hnc (.inr (.inl ⟨rfl, hg⟩)) hcs h
    · simp only [T.remap]
      cases he : η k with
      | none => exact .sl _ _ _ a n c cs f hnc (.inl (.inr rfl)) hcs h
      | some k' => exact .sl _ _ _ a n c cs f hnc (.inr (.inr ⟨k', e, rfl, hk.imp (hφ _ _ _ he) id⟩)) hcs h
  | ptr β φ a cs off f hcs h ih => simp only [T.remap]; exact .ptr _ _ a cs off f hcs h
  | ref β φ s off b hb hp' =>
    simp only [T.remap]
    cases hr : ρ s with
    | none => exact .undef ..
    | some s' => exact .ref _ _ _ _ _ (hβ _ _ _ hr hb) (by rw [hp _ _ hr]; exact hp')
  | bsl β φ s off n m b c hb hp' hn hz =>
    simp only [T.remap]
    cases hr : ρ s with
    | none => exact .undef ..
    | some s' => exact .bsl _ _ _ _ _ _ _ _ (hβ _ _ _ hr hb) (by rw [hp _ _ hr]; exact hp') hn hz
  | bsl0 β φ a s off m =>
    simp only [T.remap]
    cases hr : ρ s with
    | none => exact .undef ..
    | some s' => exact .bsl0 ..
  | mref β φ s b hb hp' =>
    simp only [T.remap]
    cases hr : ρ s with
    | none => exact .undef ..
    | some s' => exact .mref _ _ _ _ (hβ _ _ _ hr hb) (by rw [hp _ _ hr]; exact hp')
  | agg β φ xs ts hl h1 h ih =>
    simp only [T.remap, remapL_map]
    refine .agg _ _ _ _ (by simpa using hl) h1 fun i x t hx ht => ?_
    rw [List.getElem?_map] at ht
    obtain ⟨u, hu, rfl⟩ := Option.map_eq_some_iff.1 ht
    exact ih i x u hx hu hβ hφ
  | tup β φ xs ts hl h ih =>
    simp only [T.remap, remapL_map]
    refine .tup _ _ _ _ (by simpa using hl) fun i x t hx ht => ?_
    rw [List.getElem?_map] at ht
    obtain ⟨u, hu, rfl⟩ := Option.map_eq_some_iff.1 ht
    exact ih i x u hx hu hβ hφ
  | clo β φ fn xs ys ts us hx hy h k ih ik =>
    simp only [T.remap, remapL_map]
    refine .clo _ _ _ _ _ _ _ (by simpa using hx) (by simpa using hy) (fun i x t hx ht => ?_) (fun i x t hx ht => ?_)
    · rw [List.getElem?_map] at ht
      obtain ⟨u, hu, rfl⟩ := Option.map_eq_some_iff.1 ht
      exact ih i x u hx hu hβ hφ
    · rw [List.getElem?_map] at ht
      obtain ⟨u, hu, rfl⟩ := Option.map_eq_some_iff.1 ht
      exact ik i x u hx hu hβ hφ

mutual
theorem strip_remap (d : Nat) : ∀ t : T, t.strip d = t.remap some (fun k => if hit d k then none else some k)
  | .sl (.own k e) n cs => by simp only [T.strip, T.remap]; split <;> rfl
  | .sl .nil n cs | .sl .any n cs | .sl .imm n cs | .sl .clip n cs => rfl
  | .agg ts => by simp only [T.strip, T.remap, stripL_remap d ts]
  | .tup ts => by simp only [T.strip, T.remap, stripL_remap d ts]
  | .clo f a b => by simp only [T.strip, T.remap, stripL_remap d a, stripL_remap d b]
  | .undef | .v _ | .ptr _ _ | .ref _ _ | .bsl _ _ _ _ | .mref _ => rfl
theorem stripL_remap (d : Nat) : ∀ ts : List T, stripL d ts = remapL some (fun k => if hit d k then none else some k) ts
  | [] => rfl
  | t :: ts => by simp only [stripL, remapL, strip_remap d t, stripL_remap d ts]
end

/-- Families that are given up. -/
theorem Rep.strip (d : Nat) (h : Rep S w β φ x t) (hφ : ∀ k p, φ k = some p → hit d k = false → φ' k = some p) : Rep S w β φ' x (t.strip d) := by
  rw [strip_remap]
  refine h.remap (fun s s' b h1 h2 => ?_) (fun s s' h1 => ?_) fun k k' p h1 h2 => ?_
  · simp only [Option.some.injEq] at h1; subst h1; exact h2
  · simp only [Option.some.injEq] at h1; subst h1; rfl
  · split at h1
    · cases h1
    · rename_i hh
      simp only [Option.some.injEq] at h1
      subst h1
      exact hφ _ _ h2 (by simpa using hh)

/-- A box that is given up. -/
theorem Rep.noRef {s : Nat} (h : Rep S w β φ x t) (hn : t.noRef s = true) (hβ : ∀ s' b, s' ≠ s → β s' = some b → β' s' = some b) : Rep S w β' φ x t := by
  induction h with
  | undef => exact .undef ..
  | v => exact .v ..
  | nil β φ g hg => exact .nil _ _ g hg
  | sl β φ g a n c cs f hnc hg hcs h ih => exact .sl _ _ g a n c cs f hnc hg hcs h
  | ptr β φ a cs off f hcs h ih => exact .ptr _ _ a cs off f hcs h
  | ref β φ s' off b hb hp => exact .ref _ _ _ _ _ (hβ _ _ (by simpa [T.noRef] using hn) hb) hp
  | bsl β φ s' off n m b c hb hp hn' hz => exact .bsl _ _ _ _ _ _ _ _ (hβ _ _ (by simpa [T.noRef] using hn) hb) hp hn' hz
  | bsl0 => exact .bsl0 ..
  | mref β φ s' b hb hp => exact .mref _ _ _ _ (hβ _ _ (by simpa [T.noRef] using hn) hb) hp
  | agg β φ xs ts hl h1 h ih =>
    simp only [T.noRef, noRefL_all, List.all_eq_true] at hn
    exact .agg _ _ _ _ hl h1 fun i x t hx ht => ih i x t hx ht (hn t (List.mem_of_getElem? ht)) hβ
  | tup β φ xs ts hl h ih =>
    simp only [T.noRef, noRefL_all, List.all_eq_true] at hn
    exact .tup _ _ _ _ hl fun i x t hx ht => ih i x t hx ht (hn t (List.mem_of_getElem? ht)) hβ
  | clo β φ fn xs ys ts us hx hy h k ih ik =>
    simp only [T.noRef, noRefL_all, List.all_eq_true, Bool.and_eq_true] at hn
    exact .clo _ _ _ _ _ _ _ hx hy (fun i x t hx ht => ih i x t hx ht (hn.1 t (List.mem_of_getElem? ht)) hβ) (fun i x t hx ht => ik i x t hx ht (hn.2 t (List.mem_of_getElem? ht)) hβ)

theorem weakL_map (ts : List T) : weakL ts = ts.map T.weak := by
  induction ts with
  | nil => simp [weakL]
  | cons t ts ih => simp [weakL, ih]

theorem Rep.weak (h : Rep S w β φ x t) : Rep S w β φ x t.weak := by
  induction h with
  | sl _ _ g a n c cs f hnc hg hcs h ih => simp only [T.weak]; exact .sl _ _ _ a n c cs f hnc (.inl (.inr rfl)) hcs h
  | undef => simp only [T.weak]; exact .undef ..
  | v => simp only [T.weak]; exact .v ..
  | nil => simp only [T.weak]; exact .nil _ _ _ rfl
  | ptr _ _ a cs off f hcs h ih => simp only [T.weak]; exact .ptr _ _ a cs off f hcs h
  | ref _ _ s off b hb hp => simp only [T.weak]; exact .ref _ _ _ _ _ hb hp
  | bsl _ _ s off n m b c hb hp hn hz => simp only [T.weak]; exact .bsl _ _ _ _ _ _ _ _ hb hp hn hz
  | bsl0 => simp only [T.weak]; exact .bsl0 ..
  | mref _ _ s b hb hp => simp only [T.weak]; exact .mref _ _ _ _ hb hp
  | agg _ _ xs ts hl h1 h ih =>
    simp only [T.weak, weakL_map]
    refine .agg _ _ _ _ (by simpa using hl) h1 fun i x t hx ht => ?_
    rw [List.getElem?_map] at ht
    obtain ⟨u, hu, rfl⟩ := Option.map_eq_some_iff.1 ht
    exact ih i x u hx hu
  | tup _ _ xs ts hl h ih =>
    simp only [T.weak, weakL_map]
    refine .tup _ _ _ _ (by simpa using hl) fun i x t hx ht => ?_
    rw [List.getElem?_map] at ht
    obtain ⟨u, hu, rfl⟩ := Option.map_eq_some_iff.1 ht
    exact ih i x u hx hu
  | clo _ _ fn xs ys ts us hx hy h k ih ik =>
    simp only [T.weak, weakL_map]
    refine .clo _ _ _ _ _ _ _ (by simpa using hx) (by simpa using hy) (fun i x t hx ht => ?_) (fun i x t hx ht => ?_)
    · rw [List.getElem?_map] at ht
      obtain ⟨u, hu, rfl⟩ := Option.map_eq_some_iff.1 ht
      exact ih i x u hx hu
    · rw [List.getElem?_map] at ht
      obtain ⟨u, hu, rfl⟩ := Option.map_eq_some_iff.1 ht
      exact ik i x u hx hu

theorem Rep.weakN (h : Rep S w β φ x t) : Rep S w β φ x t.weakN := by
  unfold T.weakN
  split
  · exact h
  · exact h.weak

theorem Rep.one (h : Rep S w β φ x t) (ho : t.one = true) : x.oneCell' = true := by
  cases h <;> simp_all [T.one, Value.oneCell']
end

/-- Where a run began: the world then; the blocks that are none of its own, and stay as they are; from where on its boxes are those that it was handed, and where these lie. -/
structure Base where
  w : World
  X : Nat → Prop
  nb : Nat
  β0 : BMap
  m0 : Nat

/-- From the beginning on. -/
structure Bel (B : Base) (w : World) : Prop where
  os : w.os = B.w.os
  tape : w.tape = B.w.tape
  output : w.output = B.w.output
  size : B.w.heap.size ≤ w.heap.size
  lt : ∀ k, B.X k → k < B.w.heap.size
  block : ∀ k, B.X k → w.heap[k]? = B.w.heap[k]?
  room : Grows B.w w

theorem Bel.step {B : Base} {w w' : World} {row : Option Nat} (h : Bel B w) (hg : w.grownBy w' row) (hr : ∀ k, row = some k → ¬ B.X k) (hgr : Grows w w') : Bel B w' :=
  ⟨hg.os.trans h.os, hg.tape.trans h.tape, hg.output.trans h.output, Nat.le_trans h.size hg.size, h.lt, fun k hk =>
    (hg.block k (by have := h.lt k hk; have := h.size; omega) (fun e => hr k e.symm hk)).trans (h.block k hk), h.room.trans hgr⟩

/-- A row of the call's own: its first n elements. -/
def OwnR (w : World) (base _e sz : Nat) (v : Value) (n : Nat) (xs : List Value) : Prop :=
  xs.length = n * sz ∧ ((v = .slice none 0 0 ∧ n = 0) ∨ ∃ g cap cur e', v = .slice (some ⟨g, 0, none⟩) n cap ∧ base ≤ g ∧ w.heap[g]? = some (.cells cur e' (0, 0)) ∧ n ≤ cap ∧ cap * sz ≤ cur.size ∧ cur.toList.take (n * sz) = xs)

theorem ownR_of {w : World} {base e sz : Nat} {v : Value} {n : Nat} {xs : List Value} (h : w.ownsRow base e sz v n xs) : OwnR w base e sz v n xs := by
  refine ⟨h.1, ?_⟩
  rcases h.2 with h2 | ⟨g, cap, cur, h1, h2, h3, h4, _, h5, h6⟩
  · exact .inl h2
  · exact .inr ⟨g, cap, cur, e, h1, h2, h3, h4, Nat.le_of_eq h5.symm, h6⟩

theorem OwnR.lt {w : World} {base e sz : Nat} {v : Value} {n : Nat} {xs : List Value} (h : OwnR w base e sz v n xs) : ∀ k, v.ownBlock = some k → base ≤ k ∧ k < w.heap.size := by
  intro k hk
  rcases h.2 with ⟨rfl, _⟩ | ⟨g, cap, cur, e', rfl, hb, hg, _⟩
  · simp [Value.ownBlock] at hk
  · simp [Value.ownBlock] at hk
    subst hk
    exact ⟨hb, (Array.getElem?_eq_some_iff.1 hg).1⟩

theorem OwnR.kept {w w' : World} {base e sz : Nat} {v : Value} {n : Nat} {xs : List Value} {row : Option Nat} (h : OwnR w base e sz v n xs) (hg : w.grownBy w' row) (hne : v.ownBlock = none ∨ v.ownBlock ≠ row) : OwnR w' base e sz v n xs := by
  refine ⟨h.1, ?_⟩
  rcases h.2 with hn | ⟨g, cap, cur, e', rfl, hb, hgg, rest⟩
  · exact .inl hn
  · refine .inr ⟨g, cap, cur, e', rfl, hb, ?_, rest⟩
    rw [hg.block g (Array.getElem?_eq_some_iff.1 hgg).1 (by simpa [Value.ownBlock] using hne)]
    exact hgg

theorem OwnR.cells {w : World} {base e sz : Nat} {v : Value} {n : Nat} {xs : List Value} (h : OwnR w base e sz v n xs) {g : Nat} (hg : v.ownBlock = some g) : ∀ j u, xs[j]? = some u → w.cell? ((⟨g, 0, none⟩ : Addr).add j) = some u := by
  intro j u hu
  rcases h.2 with ⟨rfl, _⟩ | ⟨g', cap, cur, e', rfl, _, hgg, _, _, htake⟩
  · simp [Value.ownBlock] at hg
  · simp [Value.ownBlock] at hg
    subst hg
    have hadd : (⟨g', 0, none⟩ : Addr).add j = ⟨g', j, none⟩ := by unfold Addr.add; split <;> simp_all
    rw [hadd, cell_of_row w g' j cur e' (0, 0) hgg]
    rw [← htake, List.getElem?_take] at hu
    split at hu
    · simpa using hu
    · cases hu

/-- What is known of a family's slice: it is a row of the call's own, from its block's head on; nothing that stays lies behind its end. -/
def Fam (P : Program) (X : Nat → Prop) (S : Nat → Nat → Prop) (β : BMap) (w : World) (x : Value) (e : TypeId) : Prop :=
  ∃ g n c sz xs i, x = .slice (some ⟨g, 0, none⟩) n c ∧ P.info? e = some i ∧ i.size = sz ∧ OwnR w 0 e sz x n xs ∧
    (∀ o, S g o → o < n * sz) ∧ (∀ s, β s ≠ some g) ∧ ¬ X g

/-- A box of cells. -/
def CellsAt (S : Nat → Nat → Prop) (w : World) (β : BMap) (φ : FMap) (b : Nat) (cs : List T) : Prop :=
  ∃ c e, w.heap[b]? = some (.cells c e (0, 0)) ∧ cs.length ≤ c.size ∧ (∀ (i : Nat) (x : Value), i < cs.length → c[i]? = some x → x.oneCell' = true) ∧
    ∀ (i : Nat) (x : Value) (t : T), c[i]? = some x → cs[i]? = some t → Rep S w β φ x t

/-- A map's entries. -/
inductive EntriesAt (S : Nat → Nat → Prop) (w : World) (β : BMap) (φ : FMap) : List MapEntry → List T → Prop
  | nil : EntriesAt S w β φ [] []
  | cons (e : MapEntry) (es : List MapEntry) (k v : T) (ts : List T) (hk : Rep S w β φ e.key k) (hv : Rep S w β φ e.val v) (h : EntriesAt S w β φ es ts) : EntriesAt S w β φ (e :: es) (k :: v :: ts)

/-- No two entries were laid at one time, none later than now. -/
def BornOk (es : List MapEntry) (k : Nat) : Prop := (es.map (·.born)).Nodup ∧ ∀ x ∈ es, x.born < k

def MapAt (S : Nat → Nat → Prop) (w : World) (β : BMap) (φ : FMap) (b : Nat) (cs : List T) : Prop :=
  ∃ es k, w.heap[b]? = some (.map es k) ∧ EntriesAt S w β φ es.toList cs ∧ BornOk es.toList k

def BoxAt (S : Nat → Nat → Prop) (w : World) (β : BMap) (φ : FMap) (p b : Nat) (cs : List T) : Prop :=
  (p = 0 → CellsAt S w β φ b cs) ∧ (p = 1 → MapAt S w β φ b cs)

theorem EntriesAt.mono {S S' : Nat → Nat → Prop} {w w' : World} {β β' : BMap} {φ φ' : FMap} {adj : T → T} (hm : ∀ y u, Rep S w β φ y u → Rep S' w' β' φ' y (adj u)) :
    ∀ {es : List MapEntry} {ts : List T}, EntriesAt S w β φ es ts → EntriesAt S' w' β' φ' es (ts.map adj)
  | _, _, .nil => .nil
  | _, _, .cons e es k v ts hk hv h => .cons e es _ _ _ (hm _ _ hk) (hm _ _ hv) (h.mono hm)

theorem BoxAt.mono {S S' : Nat → Nat → Prop} {w w' : World} {β β' : BMap} {φ φ' : FMap} {p b : Nat} {cs : List T} {adj : T → T} (h : BoxAt S w β φ p b cs) (hb : w'.heap[b]? = w.heap[b]?)
    (hm : ∀ y u, Rep S w β φ y u → Rep S' w' β' φ' y (adj u)) : BoxAt S' w' β' φ' p b (cs.map adj) := by
  refine ⟨fun hp => ?_, fun hp => ?_⟩
  · obtain ⟨c, e, h1, h2, h3, h4⟩ := h.1 hp
    refine ⟨c, e, hb.trans h1, by simpa using h2, fun i x hi => h3 i x (by simpa using hi), fun i x t hx ht => ?_⟩
    rw [List.getElem?_map] at ht
    obtain ⟨u, hu, rfl⟩ := Option.map_eq_some_iff.1 ht
    exact hm _ _ (h4 i x u hx hu)
  · obtain ⟨es, k, h1, h2⟩ := h.2 hp
    exact ⟨es, k, hb.trans h1, h2.1.mono hm, h2.2⟩

theorem BoxAt.mono' {S S' : Nat → Nat → Prop} {w w' : World} {β β' : BMap} {φ φ' : FMap} {p b : Nat} {cs : List T} (h : BoxAt S w β φ p b cs) (hb : w'.heap[b]? = w.heap[b]?)
    (hm : ∀ y u, Rep S w β φ y u → Rep S' w' β' φ' y u) : BoxAt S' w' β' φ' p b cs := by
  have := h.mono (adj := id) hb hm
  simpa using this

theorem BoxAt.lt {S : Nat → Nat → Prop} {w : World} {β : BMap} {φ : FMap} {s b : Nat} {cs : List T} (h : BoxAt S w β φ (s % 2) b cs) : b < w.heap.size := by
  rcases (by omega : s % 2 = 0 ∨ s % 2 = 1) with hp | hp
  · obtain ⟨_, _, h1, _⟩ := h.1 hp; exact (Array.getElem?_eq_some_iff.1 h1).1
  · obtain ⟨_, _, h1, _⟩ := h.2 hp; exact (Array.getElem?_eq_some_iff.1 h1).1

/-- What holds between operations. -/
structure Inv (P : Program) (W : Base) (S0 S : Nat → Nat → Prop) (β : BMap) (φ : FMap) (bx : List (Option (List T))) (w : World) : Prop where
  below : Bel W w
  lt : ∀ b o, S b o → b < w.heap.size
  box : ∀ s b, β s = some b → ¬ W.X b ∧ (∀ o, ¬ S b o) ∧ ∃ cs, bx[s]? = some (some cs) ∧ BoxAt S w β φ (s % 2) b cs
  boxed : ∀ s cs, bx[s]? = some (some cs) → cs = [] ∨ ∃ b, β s = some b
  inj : ∀ s s' b, β s = some b → β s' = some b → s = s'
  fam : ∀ k x e, φ k = some (x, e) → Fam P W.X S β w x e
  famInj : ∀ k k' x x' e e', φ k = some (x, e) → φ k' = some (x', e') → k ≠ k' → x.ownBlock ≠ x'.ownBlock
  top : ∀ b o, S b o → S0 b o ∨ ¬ W.X b
  base : ∀ b o, S0 b o → S b o
  stay : ∀ b o, S0 b o → ∀ sp v, W.w.cell? ⟨b, o, sp⟩ = some v → w.cell? ⟨b, o, sp⟩ = some v
  pin : ∀ s b, W.nb ≤ s → W.β0 s = some b → β s = some b ∨ bx[s]? = some none

theorem Inv.boxLt {P : Program} {W : Base} {w : World} {S0 S : Nat → Nat → Prop} {β : BMap} {φ : FMap} {bx : List (Option (List T))} (h : Inv P W S0 S β φ bx w) {s b : Nat} (hb : β s = some b) : b < w.heap.size := by
  obtain ⟨_, _, _, _, h3⟩ := h.box s b hb
  exact h3.lt

theorem Inv.famLt {P : Program} {W : Base} {w : World} {S0 S : Nat → Nat → Prop} {β : BMap} {φ : FMap} {bx : List (Option (List T))} (h : Inv P W S0 S β φ bx w) {k g : Nat} {x : Value} {e : TypeId} (hk : φ k = some (x, e)) (hg : x.ownBlock = some g) : g < w.heap.size := by
  obtain ⟨_, _, _, _, _, _, _, _, _, ho, _⟩ := h.fam k x e hk
  exact (ho.lt g hg).2

/-- The world has grown: whatever there was is as it was. -/
theorem Inv.grow {P : Program} {W : Base} {w w' : World} {S0 S : Nat → Nat → Prop} {β : BMap} {φ : FMap} {bx : List (Option (List T))} (h : Inv P W S0 S β φ bx w)
    (hb : Below w.heap.size w w') : Inv P W S0 S β φ bx w' := by
  have hcell : ∀ b o, S b o → ∀ sp v, w.cell? ⟨b, o, sp⟩ = some v → w'.cell? ⟨b, o, sp⟩ = some v := fun b o hs sp v hv => (hb.cell (p := ⟨b, o, sp⟩) (h.lt _ _ hs)).trans hv
  have hsz := hb.size
  refine ⟨?_, fun b o hs => by have := h.lt b o hs; omega, ?_, h.boxed, h.inj, ?_, h.famInj, h.top, h.base, fun b o h0 sp v hv => hcell b o (h.base b o h0) sp v (h.stay b o h0 sp v hv), h.pin⟩
  · exact h.below.step (row := none) ⟨hb.os, hb.tape, hb.output, hb.size, fun j hj _ => hb.block j hj⟩ (fun k e => by cases e) (grows_of_block hb.block)
  · intro s b hs
    obtain ⟨h1, h2, cs, h3, h4⟩ := h.box s b hs
    exact ⟨h1, h2, cs, h3, h4.mono' (hb.block b h4.lt) fun y u hr => hr.mono (fun _ _ => id) (fun _ _ => id) (fun _ _ => id) hcell (grows_of_block hb.block)⟩
  · intro k x e hk
    obtain ⟨g, n, c, sz, xs, i, rfl, hi, hsz', ho, h1, h2⟩ := h.fam k x e hk
    exact ⟨g, n, c, sz, xs, i, rfl, hi, hsz', ho.kept (row := none) ⟨hb.os, hb.tape, hb.output, hb.size, fun j hj _ => hb.block j hj⟩ (.inr (by simp [Value.ownBlock])), h1, h2⟩

theorem Rep.grow {S : Nat → Nat → Prop} {w w' : World} {β : BMap} {φ : FMap} {x : Value} {t : T} (h : Rep S w β φ x t) (hlt : ∀ b o, S b o → b < w.heap.size)
    (hb : Below w.heap.size w w') : Rep S w' β φ x t :=
  h.mono (fun _ _ => id) (fun _ _ => id) (fun _ _ => id) (fun b o hs sp _ hv => (hb.cell (p := ⟨b, o, sp⟩) (hlt _ _ hs)).trans hv) (grows_of_block hb.block)

end Go.Vi
end
