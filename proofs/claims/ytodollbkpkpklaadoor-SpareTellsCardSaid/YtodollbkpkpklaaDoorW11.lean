/-
  A claim's own text, joined by a small program out of: DdEnv.
-/
import Derived.Test.YtodollbkpkpklaaDoorProg
import Derived.Test.YtodollbkpkpklaaDoorW9
import Derived.Test.YtodollbkpkpklaaDoorW10
import Derived.KernelRfl
set_option linter.unusedVariables false
set_option linter.unusedSimpArgs false
section
/-
  The functions in the small code are what the lowering makes of the program's (printed by a program of mine).
-/
set_option maxRecDepth 100000
namespace Go.Vi.Dd
open Go Go.Vi Go.Proofs

/-- How a function is called. -/
def io : Go.FuncId → Nat
  | 18 => 1
  | 19 => 2
  | 20 => 2
  | 24 => 2
  | 25 => 1
  | 29 => 2
  | 33 => 1
  | 35 => 2
  | 38 => 2
  | 44 => 2
  | 45 => 2
  | 51 => 2
  | 52 => 2
  | 53 => 2
  | 54 => 2
  | _ => 0

theorem l3 : lower Tryd.prog io drawOk [0, 1, 2, 3, 4, 5, 8, 9, 10, 11, 12, 25] [4, 5, 9, 11] [] [.raw] false Tryd.f3 = some c_law46_SpareTells := by kernel_rfl
theorem p3 : Tryd.prog.funcs[3]? = some Tryd.f3 := by kernel_rfl
theorem n3 : (Tryd.f3.name == "runtime.NumGoroutine") = false := by kernel_rfl
theorem l4 : lower Tryd.prog io drawOk [0, 1, 2, 4] [2] [] [.raw] false Tryd.f4 = some c_plain_Branch := by kernel_rfl
theorem p4 : Tryd.prog.funcs[4]? = some Tryd.f4 := by kernel_rfl
theorem n4 : (Tryd.f4.name == "runtime.NumGoroutine") = false := by kernel_rfl
theorem l5 : lower Tryd.prog io drawOk [0, 1, 2, 3, 4, 6, 7, 8, 9, 36] [1, 4] [([0, 2, 3, 4, 9, 36], [4])] [.raw] false Tryd.f5 = some c_plain_Node := by kernel_rfl
theorem p5 : Tryd.prog.funcs[5]? = some Tryd.f5 := by kernel_rfl
theorem n5 : (Tryd.f5.name == "runtime.NumGoroutine") = false := by kernel_rfl
theorem l6 : lower Tryd.prog io drawOk [0, 1, 2, 3, 4] [1, 2, 4, 5, 21, 22, 100021] [] [.raw] false Tryd.f6 = some c_law46_awake := by kernel_rfl
theorem p6 : Tryd.prog.funcs[6]? = some Tryd.f6 := by kernel_rfl
theorem n6 : (Tryd.f6.name == "runtime.NumGoroutine") = false := by kernel_rfl
theorem l7 : lower Tryd.prog io drawOk [0, 1, 2, 3, 6, 7, 8, 10, 11, 12, 14, 15, 16, 17, 27, 35, 42] [3, 6, 8, 10, 11, 48, 55] [([0, 7, 10, 11, 12, 17, 27, 35, 42], [10])] [.raw, .raw] false Tryd.f7 = some c_spare_Put := by kernel_rfl
theorem p7 : Tryd.prog.funcs[7]? = some Tryd.f7 := by kernel_rfl
theorem n7 : (Tryd.f7.name == "runtime.NumGoroutine") = false := by kernel_rfl
theorem l8 : lower Tryd.prog io drawOk [0, 1, 2, 3, 6, 7, 8, 9, 10, 11, 12, 16, 26, 40, 54] [3, 6, 9] [([0, 1, 2, 7, 16, 26, 40, 54], [])] [.raw, .raw] false Tryd.f8 = some c_ref46_Put := by kernel_rfl
theorem p8 : Tryd.prog.funcs[8]? = some Tryd.f8 := by kernel_rfl
theorem n8 : (Tryd.f8.name == "runtime.NumGoroutine") = false := by kernel_rfl
theorem l9 : lower Tryd.prog io drawOk [0, 1, 2, 3, 4, 6, 7, 8, 9, 19] [1, 4] [([0, 1, 2, 3, 4, 9, 19], [4])] [.raw] false Tryd.f9 = some c_spare_Inode := by kernel_rfl
theorem p9 : Tryd.prog.funcs[9]? = some Tryd.f9 := by kernel_rfl
theorem n9 : (Tryd.f9.name == "runtime.NumGoroutine") = false := by kernel_rfl
theorem l10 : lower Tryd.prog io drawOk [0, 1, 2, 3, 8, 18] [1] [([0, 2, 8, 18], [])] [.raw] false Tryd.f10 = some c_ref46_Inode := by kernel_rfl
theorem p10 : Tryd.prog.funcs[10]? = some Tryd.f10 := by kernel_rfl
theorem n10 : (Tryd.f10.name == "runtime.NumGoroutine") = false := by kernel_rfl
theorem l11 : lower Tryd.prog io drawOk [0, 1, 2, 3, 4] [2, 3] [] [.raw] false Tryd.f11 = some c_ref12_SameNode := by kernel_rfl
theorem p11 : Tryd.prog.funcs[11]? = some Tryd.f11 := by kernel_rfl
theorem n11 : (Tryd.f11.name == "runtime.NumGoroutine") = false := by kernel_rfl
theorem l12 : lower Tryd.prog io drawOk [0, 1, 2, 3, 4] [2, 3, 4, 7] [] [.raw] false Tryd.f12 = some c_spare_Drop := by kernel_rfl
theorem p12 : Tryd.prog.funcs[12]? = some Tryd.f12 := by kernel_rfl
theorem n12 : (Tryd.f12.name == "runtime.NumGoroutine") = false := by kernel_rfl
theorem l13 : lower Tryd.prog io drawOk [0, 1, 2, 4, 5, 6, 11, 21] [2, 4] [([0, 11, 21], [])] [.raw] false Tryd.f13 = some c_ref46_Drop := by kernel_rfl
theorem p13 : Tryd.prog.funcs[13]? = some Tryd.f13 := by kernel_rfl
theorem n13 : (Tryd.f13.name == "runtime.NumGoroutine") = false := by kernel_rfl
theorem l14 : lower Tryd.prog io drawOk [0, 1, 4] [] [] [.raw] false Tryd.f14 = some c_slices_ContainsFunc_Node := by kernel_rfl
theorem p14 : Tryd.prog.funcs[14]? = some Tryd.f14 := by kernel_rfl
theorem n14 : (Tryd.f14.name == "runtime.NumGoroutine") = false := by kernel_rfl
theorem l15 : lower Tryd.prog io drawOk [0, 1, 2] [1] [] [.raw] false Tryd.f15 = some c_plain_Branch_1 := by kernel_rfl
theorem p15 : Tryd.prog.funcs[15]? = some Tryd.f15 := by kernel_rfl
theorem n15 : (Tryd.f15.name == "runtime.NumGoroutine") = false := by kernel_rfl
theorem l16 : lower Tryd.prog io drawOk [0, 1, 4] [] [] [.raw] false Tryd.f16 = some c_slices_ContainsFunc_Entry := by kernel_rfl
theorem p16 : Tryd.prog.funcs[16]? = some Tryd.f16 := by kernel_rfl
theorem n16 : (Tryd.f16.name == "runtime.NumGoroutine") = false := by kernel_rfl
theorem l17 : lower Tryd.prog io drawOk [0, 1, 2] [1] [] [.raw] false Tryd.f17 = some c_plain_odd := by kernel_rfl
theorem p17 : Tryd.prog.funcs[17]? = some Tryd.f17 := by kernel_rfl
theorem n17 : (Tryd.f17.name == "runtime.NumGoroutine") = false := by kernel_rfl
theorem l18 : lower Tryd.prog io drawOk [0, 1] [0, 1, 2] [] [.raw] false Tryd.f18 = some c_plain_Idle := by kernel_rfl
theorem p18 : Tryd.prog.funcs[18]? = some Tryd.f18 := by kernel_rfl
theorem n18 : (Tryd.f18.name == "runtime.NumGoroutine") = false := by kernel_rfl
theorem l19 : lower Tryd.prog io drawOk [0, 1, 2, 3, 4, 5, 6, 7, 27, 43, 44, 45, 46, 51] [1, 2, 3, 12, 35, 43] [([0, 3, 4, 5, 6, 7, 27, 46, 51], [])] [.raw] false Tryd.f19 = some c_spare_Sweep := by kernel_rfl
theorem p19 : Tryd.prog.funcs[19]? = some Tryd.f19 := by kernel_rfl
theorem n19 : (Tryd.f19.name == "runtime.NumGoroutine") = false := by kernel_rfl
theorem l20 : lower Tryd.prog io drawOk [0, 1, 2, 4, 13] [2, 4] [] [.raw] false Tryd.f20 = some c_ref13_At := by kernel_rfl
theorem p20 : Tryd.prog.funcs[20]? = some Tryd.f20 := by kernel_rfl
theorem n20 : (Tryd.f20.name == "runtime.NumGoroutine") = false := by kernel_rfl
theorem l21 : lower Tryd.prog io drawOk [0, 1, 4, 5, 7, 8, 9, 16] [] [([4, 5, 9, 16], [])] [.raw] false Tryd.f21 = some c_slices_Index_bool := by kernel_rfl
theorem p21 : Tryd.prog.funcs[21]? = some Tryd.f21 := by kernel_rfl
theorem n21 : (Tryd.f21.name == "runtime.NumGoroutine") = false := by kernel_rfl
theorem l22 : lower Tryd.prog io drawOk [0, 1, 4, 5, 7, 8, 9, 16] [] [([4, 5, 9, 16], [])] [.raw] false Tryd.f22 = some c_slices_IndexFunc_Entry := by kernel_rfl
theorem p22 : Tryd.prog.funcs[22]? = some Tryd.f22 := by kernel_rfl
theorem n22 : (Tryd.f22.name == "runtime.NumGoroutine") = false := by kernel_rfl
theorem l23 : lower Tryd.prog io drawOk [0, 1, 2, 3] [2] [] [.raw] false Tryd.f23 = some c_spare_Put_1 := by kernel_rfl
theorem p23 : Tryd.prog.funcs[23]? = some Tryd.f23 := by kernel_rfl
theorem n23 : (Tryd.f23.name == "runtime.NumGoroutine") = false := by kernel_rfl
theorem l25 : lower Tryd.prog io drawOk [0, 2, 4] [7] [] [.box 0] true Tryd.f25 = some c_slices_Clone_Entry := by kernel_rfl
theorem p25 : Tryd.prog.funcs[25]? = some Tryd.f25 := by kernel_rfl
theorem n25 : (Tryd.f25.name == "runtime.NumGoroutine") = false := by kernel_rfl
theorem l26 : lower Tryd.prog io drawOk [0, 1, 2, 3, 4, 5, 7, 14, 28] [1] [([0, 2, 4, 5, 7, 14, 28], []), ([0, 2, 7, 14, 28], [])] [.raw] false Tryd.f26 = some c_ref46_slot := by kernel_rfl
theorem p26 : Tryd.prog.funcs[26]? = some Tryd.f26 := by kernel_rfl
theorem n26 : (Tryd.f26.name == "runtime.NumGoroutine") = false := by kernel_rfl
theorem l27 : lower Tryd.prog io drawOk [0, 1, 4, 5, 10, 14, 25] [] [([4, 10, 14, 25], [])] [.raw] false Tryd.f27 = some c_ref01_Same := by kernel_rfl
theorem p27 : Tryd.prog.funcs[27]? = some Tryd.f27 := by kernel_rfl
theorem n27 : (Tryd.f27.name == "runtime.NumGoroutine") = false := by kernel_rfl
theorem l28 : lower Tryd.prog io drawOk [0, 1, 4, 5, 10, 14, 25] [] [([4, 10, 14, 25], [])] [.raw] false Tryd.f28 = some c_ref08_Same := by kernel_rfl
theorem p28 : Tryd.prog.funcs[28]? = some Tryd.f28 := by kernel_rfl
theorem n28 : (Tryd.f28.name == "runtime.NumGoroutine") = false := by kernel_rfl
theorem l29 : lower Tryd.prog io drawOk [0, 1, 4, 5, 6, 7, 12, 19, 29] [7] [([4, 7, 12, 19, 29], [7])] [.raw] false Tryd.f29 = some c_slices_DeleteFunc_Entry := by kernel_rfl
theorem p29 : Tryd.prog.funcs[29]? = some Tryd.f29 := by kernel_rfl
theorem n29 : (Tryd.f29.name == "runtime.NumGoroutine") = false := by kernel_rfl
theorem l30 : lower Tryd.prog io drawOk [0, 1, 2, 3] [2] [] [.raw] false Tryd.f30 = some c_spare_Drop_1 := by kernel_rfl
theorem p30 : Tryd.prog.funcs[30]? = some Tryd.f30 := by kernel_rfl
theorem n30 : (Tryd.f30.name == "runtime.NumGoroutine") = false := by kernel_rfl
theorem l31 : lower Tryd.prog io drawOk [0, 1, 4, 5, 7, 8, 9, 16] [] [([4, 5, 9, 16], [])] [.raw] false Tryd.f31 = some c_slices_IndexFunc_Node := by kernel_rfl
theorem p31 : Tryd.prog.funcs[31]? = some Tryd.f31 := by kernel_rfl
theorem n31 : (Tryd.f31.name == "runtime.NumGoroutine") = false := by kernel_rfl
theorem l32 : lower Tryd.prog io drawOk [0, 2, 3, 19, 23, 30] [] [([2, 19, 23, 30], [])] [.raw] false Tryd.f32 = some c_ref03_Right := by kernel_rfl
theorem p32 : Tryd.prog.funcs[32]? = some Tryd.f32 := by kernel_rfl
theorem n32 : (Tryd.f32.name == "runtime.NumGoroutine") = false := by kernel_rfl
theorem l33 : lower Tryd.prog io drawOk [0, 1] [0, 1, 21] [] [.raw] false Tryd.f33 = some c_plain_Base := by kernel_rfl
theorem p33 : Tryd.prog.funcs[33]? = some Tryd.f33 := by kernel_rfl
theorem n33 : (Tryd.f33.name == "runtime.NumGoroutine") = false := by kernel_rfl
theorem l34 : lower Tryd.prog io drawOk [0, 2] [2] [] [.raw] false Tryd.f34 = some c_plain_dir := by kernel_rfl
theorem p34 : Tryd.prog.funcs[34]? = some Tryd.f34 := by kernel_rfl
theorem n34 : (Tryd.f34.name == "runtime.NumGoroutine") = false := by kernel_rfl
theorem l35 : lower Tryd.prog io drawOk [0, 2, 4] [7] [] [.box 0] true Tryd.f35 = some c_slices_Clone_Node := by kernel_rfl
theorem p35 : Tryd.prog.funcs[35]? = some Tryd.f35 := by kernel_rfl
theorem n35 : (Tryd.f35.name == "runtime.NumGoroutine") = false := by kernel_rfl
theorem l36 : lower Tryd.prog io drawOk [0, 1, 2, 3] [2] [] [.raw] false Tryd.f36 = some c_spare_Sweep_1 := by kernel_rfl
theorem p36 : Tryd.prog.funcs[36]? = some Tryd.f36 := by kernel_rfl
theorem n36 : (Tryd.f36.name == "runtime.NumGoroutine") = false := by kernel_rfl
theorem l38 : lower Tryd.prog io drawOk [0, 1, 2, 4] [2, 7, 8, 100007] [] [.raw] false Tryd.f38 = some c_walk_Reach := by kernel_rfl
theorem p38 : Tryd.prog.funcs[38]? = some Tryd.f38 := by kernel_rfl
theorem n38 : (Tryd.f38.name == "runtime.NumGoroutine") = false := by kernel_rfl
theorem l41 : lower Tryd.prog io drawOk [0, 2] [] [] [.raw] false Tryd.f41 = some c_ref03_letter := by kernel_rfl
theorem p41 : Tryd.prog.funcs[41]? = some Tryd.f41 := by kernel_rfl
theorem n41 : (Tryd.f41.name == "runtime.NumGoroutine") = false := by kernel_rfl
theorem l44 : lower Tryd.prog io drawOk [0, 1, 2, 4, 5, 6, 8, 13, 14, 15, 16, 23, 34] [2, 10, 12] [([8, 16], []), ([], [])] [.raw] false Tryd.f44 = some c_walk_walk := by kernel_rfl
theorem p44 : Tryd.prog.funcs[44]? = some Tryd.f44 := by kernel_rfl
theorem n44 : (Tryd.f44.name == "runtime.NumGoroutine") = false := by kernel_rfl
theorem l45 : lower Tryd.prog io drawOk [0, 2, 3, 5, 6, 17, 18, 19, 20, 30, 31, 41] [3, 5, 6, 13, 30] [([2, 5, 6, 20, 30, 41], [5])] [.raw] false Tryd.f45 = some c_walk_trail_reach := by kernel_rfl
theorem p45 : Tryd.prog.funcs[45]? = some Tryd.f45 := by kernel_rfl
theorem n45 : (Tryd.f45.name == "runtime.NumGoroutine") = false := by kernel_rfl
theorem l51 : lower Tryd.prog io drawOk [0, 1, 4, 16] [4] [] [.raw] false Tryd.f51 = some c_walk_trail_node := by kernel_rfl
theorem p51 : Tryd.prog.funcs[51]? = some Tryd.f51 := by kernel_rfl
theorem n51 : (Tryd.f51.name == "runtime.NumGoroutine") = false := by kernel_rfl
theorem l52 : lower Tryd.prog io drawOk [0, 1, 3, 4, 12] [3] [] [.raw] false Tryd.f52 = some c_walk_trail_come := by kernel_rfl
theorem p52 : Tryd.prog.funcs[52]? = some Tryd.f52 := by kernel_rfl
theorem n52 : (Tryd.f52.name == "runtime.NumGoroutine") = false := by kernel_rfl
theorem l53 : lower Tryd.prog io drawOk [0, 1, 4, 6, 18, 19, 20, 21, 40] [6] [([6, 21, 40], [6])] [] false Tryd.f53 = some c_walk_trail_enter := by kernel_rfl
theorem p53 : Tryd.prog.funcs[53]? = some Tryd.f53 := by kernel_rfl
theorem n53 : (Tryd.f53.name == "runtime.NumGoroutine") = false := by kernel_rfl
theorem l54 : lower Tryd.prog io drawOk [0, 1, 2] [1] [] [.raw] false Tryd.f54 = some c_walk_trail_names := by kernel_rfl
theorem p54 : Tryd.prog.funcs[54]? = some Tryd.f54 := by kernel_rfl
theorem n54 : (Tryd.f54.name == "runtime.NumGoroutine") = false := by kernel_rfl
theorem l59 : lower Tryd.prog io drawOk [0, 1, 4, 6, 10, 11, 12, 13, 20, 21, 22, 23, 29] [4, 6] [([4, 6, 13, 20, 21, 22, 23, 29], [4]), ([4, 6, 13, 23, 29], [6])] [] false Tryd.f59 = some c_walk_trail_names_1 := by kernel_rfl
theorem p59 : Tryd.prog.funcs[59]? = some Tryd.f59 := by kernel_rfl
theorem n59 : (Tryd.f59.name == "runtime.NumGoroutine") = false := by kernel_rfl
theorem mixed : Tryd.prog.follows .mixedOrders = true := by kernel_rfl

theorem code_ok {f : FuncId} {ifn : IFn} (h : code f = some ifn) : ∃ (io : FuncId → Nat) (drawOk : List Nat → Array Oper → List (Option (Nat × Bool) × IOp) → Bool) (vm bm : List Nat) (h : Hints) (canon : List CM) (split : Bool) (fn : Func), DrawSound Tryd.prog drawOk ∧ Tryd.prog.funcs[f]? = some fn ∧ (fn.name == "runtime.NumGoroutine") = false ∧ lower Tryd.prog io drawOk vm bm h canon split fn = some ifn := by
  unfold code at h
  split at h
  · simp only [Option.some.injEq] at h; subst h; exact ⟨_, _, _, _, _, _, _, _, drawSound mixed, p3, n3, l3⟩
  · simp only [Option.some.injEq] at h; subst h; exact ⟨_, _, _, _, _, _, _, _, drawSound mixed, p4, n4, l4⟩
  · simp only [Option.some.injEq] at h; subst h; exact ⟨_, _, _, _, _, _, _, _, drawSound mixed, p5, n5, l5⟩
  · simp only [Option.some.injEq] at h; subst h; exact ⟨_, _, _, _, _, _, _, _, drawSound mixed, p6, n6, l6⟩
  · simp only [Option.some.injEq] at h; subst h; exact ⟨_, _, _, _, _, _, _, _, drawSound mixed, p7, n7, l7⟩
  · simp only [Option.some.injEq] at h; subst h; exact ⟨_, _, _, _, _, _, _, _, drawSound mixed, p8, n8, l8⟩
  · simp only [Option.some.injEq] at h; subst h; exact ⟨_, _, _, _, _, _, _, _, drawSound mixed, p9, n9, l9⟩
  · simp only [Option.some.injEq] at h; subst h; exact ⟨_, _, _, _, _, _, _, _, drawSound mixed, p10, n10, l10⟩
  · simp only [Option.some.injEq] at h; subst h; exact ⟨_, _, _, _, _, _, _, _, drawSound mixed, p11, n11, l11⟩
  · simp only [Option.some.injEq] at h; subst h; exact ⟨_, _, _, _, _, _, _, _, drawSound mixed, p12, n12, l12⟩
  · simp only [Option.some.injEq] at h; subst h; exact ⟨_, _, _, _, _, _, _, _, drawSound mixed, p13, n13, l13⟩
  · simp only [Option.some.injEq] at h; subst h; exact ⟨_, _, _, _, _, _, _, _, drawSound mixed, p14, n14, l14⟩
  · simp only [Option.some.injEq] at h; subst h; exact ⟨_, _, _, _, _, _, _, _, drawSound mixed, p15, n15, l15⟩
  · simp only [Option.some.injEq] at h; subst h; exact ⟨_, _, _, _, _, _, _, _, drawSound mixed, p16, n16, l16⟩
  · simp only [Option.some.injEq] at h; subst h; exact ⟨_, _, _, _, _, _, _, _, drawSound mixed, p17, n17, l17⟩
  · simp only [Option.some.injEq] at h; subst h; exact ⟨_, _, _, _, _, _, _, _, drawSound mixed, p18, n18, l18⟩
  · simp only [Option.some.injEq] at h; subst h; exact ⟨_, _, _, _, _, _, _, _, drawSound mixed, p19, n19, l19⟩
  · simp only [Option.some.injEq] at h; subst h; exact ⟨_, _, _, _, _, _, _, _, drawSound mixed, p20, n20, l20⟩
  · simp only [Option.some.injEq] at h; subst h; exact ⟨_, _, _, _, _, _, _, _, drawSound mixed, p21, n21, l21⟩
  · simp only [Option.some.injEq] at h; subst h; exact ⟨_, _, _, _, _, _, _, _, drawSound mixed, p22, n22, l22⟩
  · simp only [Option.some.injEq] at h; subst h; exact ⟨_, _, _, _, _, _, _, _, drawSound mixed, p23, n23, l23⟩
  · simp only [Option.some.injEq] at h; subst h; exact ⟨_, _, _, _, _, _, _, _, drawSound mixed, p25, n25, l25⟩
  · simp only [Option.some.injEq] at h; subst h; exact ⟨_, _, _, _, _, _, _, _, drawSound mixed, p26, n26, l26⟩
  · simp only [Option.some.injEq] at h; subst h; exact ⟨_, _, _, _, _, _, _, _, drawSound mixed, p27, n27, l27⟩
  · simp only [Option.some.injEq] at h; subst h; exact ⟨_, _, _, _, _, _, _, _, drawSound mixed, p28, n28, l28⟩
  · simp only [Option.some.injEq] at h; subst h; exact ⟨_, _, _, _, _, _, _, _, drawSound mixed, p29, n29, l29⟩
  · simp only [Option.some.injEq] at h; subst h; exact ⟨_, _, _, _, _, _, _, _, drawSound mixed, p30, n30, l30⟩
  · simp only [Option.some.injEq] at h; subst h; exact ⟨_, _, _, _, _, _, _, _, drawSound mixed, p31, n31, l31⟩
  · simp only [Option.some.injEq] at h; subst h; exact ⟨_, _, _, _, _, _, _, _, drawSound mixed, p32, n32, l32⟩
  · simp only [Option.some.injEq] at h; subst h; exact ⟨_, _, _, _, _, _, _, _, drawSound mixed, p33, n33, l33⟩
  · simp only [Option.some.injEq] at h; subst h; exact ⟨_, _, _, _, _, _, _, _, drawSound mixed, p34, n34, l34⟩
  · simp only [Option.some.injEq] at h; subst h; exact ⟨_, _, _, _, _, _, _, _, drawSound mixed, p35, n35, l35⟩
  · simp only [Option.some.injEq] at h; subst h; exact ⟨_, _, _, _, _, _, _, _, drawSound mixed, p36, n36, l36⟩
  · simp only [Option.some.injEq] at h; subst h; exact ⟨_, _, _, _, _, _, _, _, drawSound mixed, p38, n38, l38⟩
  · simp only [Option.some.injEq] at h; subst h; exact ⟨_, _, _, _, _, _, _, _, drawSound mixed, p41, n41, l41⟩
  · simp only [Option.some.injEq] at h; subst h; exact ⟨_, _, _, _, _, _, _, _, drawSound mixed, p44, n44, l44⟩
  · simp only [Option.some.injEq] at h; subst h; exact ⟨_, _, _, _, _, _, _, _, drawSound mixed, p45, n45, l45⟩
  · simp only [Option.some.injEq] at h; subst h; exact ⟨_, _, _, _, _, _, _, _, drawSound mixed, p51, n51, l51⟩
  · simp only [Option.some.injEq] at h; subst h; exact ⟨_, _, _, _, _, _, _, _, drawSound mixed, p52, n52, l52⟩
  · simp only [Option.some.injEq] at h; subst h; exact ⟨_, _, _, _, _, _, _, _, drawSound mixed, p53, n53, l53⟩
  · simp only [Option.some.injEq] at h; subst h; exact ⟨_, _, _, _, _, _, _, _, drawSound mixed, p54, n54, l54⟩
  · simp only [Option.some.injEq] at h; subst h; exact ⟨_, _, _, _, _, _, _, _, drawSound mixed, p59, n59, l59⟩
  · cases h

end Go.Vi.Dd
end
