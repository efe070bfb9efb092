/-
  A claim's own text, joined by a small program out of: ZzEnv.
-/
import Derived.Test.YtodollbkpkpklaaGreatProg
import Derived.Test.YtodollbkpkpklaaGreatW9
import Derived.Test.YtodollbkpkpklaaGreatW10
import Derived.KernelRfl
set_option linter.unusedVariables false
set_option linter.unusedSimpArgs false
section
/-
  The functions in the small code are what the lowering makes of the program's (printed by a program of mine).
-/
set_option maxRecDepth 100000
namespace Go.Vi.Zz
open Go Go.Vi Go.Proofs

/-- How a function is called. -/
def io : Go.FuncId → Nat
  | 64 => 1
  | 70 => 1
  | _ => 0
/-- The same, but for these. -/
def iov (l : List (Nat × Nat)) (f : Go.FuncId) : Nat := match l.find? (fun p => p.1 == f) with | some p => p.2 | none => io f

theorem l4 : lower Tryz.prog io drawOk [0, 1, 2, 3, 6, 9] [3] [] [.raw] false Tryz.f4 = some c_law12_BranchCuts := by kernel_rfl
theorem p4 : Tryz.prog.funcs[4]? = some Tryz.f4 := by kernel_rfl
theorem n4 : (Tryz.f4.name == "runtime.NumGoroutine") = false := by kernel_rfl
theorem l7 : lower Tryz.prog io drawOk [0, 1, 2, 3, 4, 5, 6, 7] [1, 4] [] [.raw] false Tryz.f7 = some c_law12_awake := by kernel_rfl
theorem p7 : Tryz.prog.funcs[7]? = some Tryz.f7 := by kernel_rfl
theorem n7 : (Tryz.f7.name == "runtime.NumGoroutine") = false := by kernel_rfl
theorem l8 : lower Tryz.prog io drawOk [0, 1, 2, 4, 5, 6, 7, 8, 9, 10, 11, 16, 21, 22, 23, 24, 34] [2, 10] [([0, 1, 2, 4, 5, 8, 9, 10, 11, 16, 24, 34], [10])] [.raw, .raw] false Tryz.f8 = some c_branch_Inodes := by kernel_rfl
theorem p8 : Tryz.prog.funcs[8]? = some Tryz.f8 := by kernel_rfl
theorem n8 : (Tryz.f8.name == "runtime.NumGoroutine") = false := by kernel_rfl
theorem l12 : lower Tryz.prog io drawOk [0, 1, 4] [] [] [.raw] false Tryz.f12 = some c_bytes_Equal := by kernel_rfl
theorem p12 : Tryz.prog.funcs[12]? = some Tryz.f12 := by kernel_rfl
theorem n12 : (Tryz.f12.name == "runtime.NumGoroutine") = false := by kernel_rfl
theorem l13 : lower Tryz.prog io drawOk [0, 1, 2, 3, 5, 8] [5] [] [.raw] false Tryz.f13 = some c_branch_Data := by kernel_rfl
theorem p13 : Tryz.prog.funcs[13]? = some Tryz.f13 := by kernel_rfl
theorem n13 : (Tryz.f13.name == "runtime.NumGoroutine") = false := by kernel_rfl
theorem l15 : lower Tryz.prog io drawOk [0, 1, 2, 3, 4, 7, 8, 9, 10, 11, 12, 13, 15, 17, 18, 19, 20, 21, 22, 23, 25, 31, 46, 47, 48, 49, 59, 60, 61, 62, 70, 71, 72, 73, 99, 106, 116, 117, 118, 119] [4, 7, 8, 10, 12, 15, 18, 20, 21, 40] [([0, 1, 3, 4, 7, 9, 15, 17, 18, 19, 20, 21, 22, 23, 25, 31, 49, 59, 60, 61, 62, 70, 71, 72, 73, 99, 106, 116, 117, 118, 119], [15]), ([0, 1, 3, 4, 7, 9, 11, 15, 17, 18, 19, 20, 21, 22, 23, 25, 31, 46, 47, 48, 49, 62, 70, 71, 72, 73, 99, 106, 116, 117, 118, 119], []), ([0, 1, 3, 4, 7, 9, 11, 15, 17, 19, 20, 21, 22, 23, 25, 31, 46, 47, 48, 49, 59, 60, 61, 62, 73, 99, 106, 116, 117, 118, 119], [20, 21]), ([0, 1, 3, 4, 7, 9, 11, 15, 17, 20, 22, 23, 25, 31, 46, 47, 48, 49, 59, 60, 61, 62, 73, 99, 106, 119], [])] [.raw, .raw] false Tryz.f15 = some c_branch_Decode := by kernel_rfl
theorem p15 : Tryz.prog.funcs[15]? = some Tryz.f15 := by kernel_rfl
theorem n15 : (Tryz.f15.name == "runtime.NumGoroutine") = false := by kernel_rfl
theorem l17 : lower Tryz.prog io drawOk [0, 1, 2, 3, 4, 5, 12, 17, 31] [2, 3] [([0, 1, 4, 12, 17, 31], [])] [.raw] false Tryz.f17 = some c_ref12_Same := by kernel_rfl
theorem p17 : Tryz.prog.funcs[17]? = some Tryz.f17 := by kernel_rfl
theorem n17 : (Tryz.f17.name == "runtime.NumGoroutine") = false := by kernel_rfl
theorem l19 : lower Tryz.prog io drawOk [0, 1, 2, 6, 7, 8, 9, 14, 15, 16, 17, 18, 30] [] [([0, 6, 7, 8, 9, 14, 18, 30], [])] [.raw] false Tryz.f19 = some c_slices_EqualFunc_Lbyte := by kernel_rfl
theorem p19 : Tryz.prog.funcs[19]? = some Tryz.f19 := by kernel_rfl
theorem n19 : (Tryz.f19.name == "runtime.NumGoroutine") = false := by kernel_rfl
theorem l20 : lower Tryz.prog io drawOk [0, 1, 2, 3, 6, 7, 8, 9, 10, 23, 40, 41] [3, 9] [] [.raw] false Tryz.f20 = some c_branch_Cut := by kernel_rfl
theorem p20 : Tryz.prog.funcs[20]? = some Tryz.f20 := by kernel_rfl
theorem n20 : (Tryz.f20.name == "runtime.NumGoroutine") = false := by kernel_rfl
theorem l21 : lower Tryz.prog io drawOk [0, 1, 2, 3, 6, 7, 8, 9, 22, 27] [3] [([0, 2, 6, 22, 27], [])] [.raw] false Tryz.f21 = some c_ref12_Cut := by kernel_rfl
theorem p21 : Tryz.prog.funcs[21]? = some Tryz.f21 := by kernel_rfl
theorem n21 : (Tryz.f21.name == "runtime.NumGoroutine") = false := by kernel_rfl
theorem l26 : lower Tryz.prog io drawOk [0, 1] [0, 1] [] [.raw] false Tryz.f26 = some c_plain_Base := by kernel_rfl
theorem p26 : Tryz.prog.funcs[26]? = some Tryz.f26 := by kernel_rfl
theorem n26 : (Tryz.f26.name == "runtime.NumGoroutine") = false := by kernel_rfl
theorem l27 : lower Tryz.prog io drawOk [0, 1, 2, 3] [1] [] [.raw] false Tryz.f27 = some c_plain_Bytes := by kernel_rfl
theorem p27 : Tryz.prog.funcs[27]? = some Tryz.f27 := by kernel_rfl
theorem n27 : (Tryz.f27.name == "runtime.NumGoroutine") = false := by kernel_rfl
theorem l28 : lower Tryz.prog io drawOk [0, 1, 2] [1] [] [.raw] false Tryz.f28 = some c_branch_region_right := by kernel_rfl
theorem p28 : Tryz.prog.funcs[28]? = some Tryz.f28 := by kernel_rfl
theorem n28 : (Tryz.f28.name == "runtime.NumGoroutine") = false := by kernel_rfl
theorem l29 : lower Tryz.prog io drawOk [0, 2, 3, 4, 5, 6, 21] [2, 4] [] [.raw, .raw] false Tryz.f29 = some c_inode_Get := by kernel_rfl
theorem p29 : Tryz.prog.funcs[29]? = some Tryz.f29 := by kernel_rfl
theorem n29 : (Tryz.f29.name == "runtime.NumGoroutine") = false := by kernel_rfl
theorem l32 : lower Tryz.prog io drawOk [0, 1, 2, 4, 5, 6, 7, 8, 9, 23, 37, 38, 39, 48] [2, 5, 6] [([0, 4, 7, 8, 9, 23, 37, 39, 48], [])] [.raw] false Tryz.f32 = some c_branch_region_data := by kernel_rfl
theorem p32 : Tryz.prog.funcs[32]? = some Tryz.f32 := by kernel_rfl
theorem n32 : (Tryz.f32.name == "runtime.NumGoroutine") = false := by kernel_rfl
theorem l35 : lower Tryz.prog io drawOk [0, 1, 4, 5, 6, 7, 8, 9, 10, 15, 16, 17, 30] [5, 6, 7, 9, 13] [] [.raw] false Tryz.f35 = some c_claim_Bad := by kernel_rfl
theorem p35 : Tryz.prog.funcs[35]? = some Tryz.f35 := by kernel_rfl
theorem n35 : (Tryz.f35.name == "runtime.NumGoroutine") = false := by kernel_rfl
theorem l36 : lower Tryz.prog io drawOk [0, 1, 2, 4, 5, 6, 7, 15] [2, 4] [] [.raw, .raw] false Tryz.f36 = some c_branch_region_attrs := by kernel_rfl
theorem p36 : Tryz.prog.funcs[36]? = some Tryz.f36 := by kernel_rfl
theorem n36 : (Tryz.f36.name == "runtime.NumGoroutine") = false := by kernel_rfl
theorem l37 : lower Tryz.prog io drawOk [0, 1, 2, 3, 6, 7, 8, 9, 10, 11, 12, 13, 14, 16, 17, 18, 28, 38, 39, 40, 41, 48] [3, 16] [([0, 6, 7, 10, 11, 12, 13, 14, 16, 18, 28, 38, 39, 40, 41, 48], []), ([0, 6, 7, 10, 11, 12, 13, 14, 16, 18, 28, 41, 48], [16])] [.raw, .raw] false Tryz.f37 = some c_branch_region_entries := by kernel_rfl
theorem p37 : Tryz.prog.funcs[37]? = some Tryz.f37 := by kernel_rfl
theorem n37 : (Tryz.f37.name == "runtime.NumGoroutine") = false := by kernel_rfl
theorem l38 : lower Tryz.prog io drawOk [0, 2, 3, 5, 6, 8, 9, 10, 11, 12, 20, 25, 26, 27, 28] [24, 33] [([2, 5, 6, 8, 12, 20, 25, 26, 27, 28], []), ([0, 2, 3, 5, 8, 9, 10, 11, 12, 20, 28], [])] [.raw] false Tryz.f38 = some c_slices_Concat_Finding := by kernel_rfl
theorem p38 : Tryz.prog.funcs[38]? = some Tryz.f38 := by kernel_rfl
theorem n38 : (Tryz.f38.name == "runtime.NumGoroutine") = false := by kernel_rfl
theorem l42 : lower Tryz.prog io drawOk [0, 1, 2, 3, 4] [2, 3] [] [.raw] false Tryz.f42 = some c_ref12_SameNode := by kernel_rfl
theorem p42 : Tryz.prog.funcs[42]? = some Tryz.f42 := by kernel_rfl
theorem n42 : (Tryz.f42.name == "runtime.NumGoroutine") = false := by kernel_rfl
theorem l43 : lower Tryz.prog io drawOk [0, 1, 2, 4] [2] [] [.raw] false Tryz.f43 = some c_geo_Bitmap := by kernel_rfl
theorem p43 : Tryz.prog.funcs[43]? = some Tryz.f43 := by kernel_rfl
theorem n43 : (Tryz.f43.name == "runtime.NumGoroutine") = false := by kernel_rfl
theorem l44 : lower Tryz.prog io drawOk [0, 1, 2, 5] [1] [] [.raw] false Tryz.f44 = some c_geo_Total := by kernel_rfl
theorem p44 : Tryz.prog.funcs[44]? = some Tryz.f44 := by kernel_rfl
theorem n44 : (Tryz.f44.name == "runtime.NumGoroutine") = false := by kernel_rfl
theorem l45 : lower Tryz.prog io drawOk [0, 1, 2, 3, 4, 6] [2, 3] [] [.raw] false Tryz.f45 = some c_slices_Chunk_byte := by kernel_rfl
theorem p45 : Tryz.prog.funcs[45]? = some Tryz.f45 := by kernel_rfl
theorem n45 : (Tryz.f45.name == "runtime.NumGoroutine") = false := by kernel_rfl
theorem l46 : lower Tryz.prog io drawOk [0, 2, 4] [7] [] [.box 0] true Tryz.f46 = some c_slices_Clone_byte := by kernel_rfl
theorem p46 : Tryz.prog.funcs[46]? = some Tryz.f46 := by kernel_rfl
theorem n46 : (Tryz.f46.name == "runtime.NumGoroutine") = false := by kernel_rfl
theorem l47 : lower Tryz.prog io drawOk [0, 1, 2, 4, 17, 19] [2] [] [.raw] false Tryz.f47 = some c_ref06_Start := by kernel_rfl
theorem p47 : Tryz.prog.funcs[47]? = some Tryz.f47 := by kernel_rfl
theorem n47 : (Tryz.f47.name == "runtime.NumGoroutine") = false := by kernel_rfl
theorem l48 : lower Tryz.prog io drawOk [0, 1, 2, 5] [1] [] [.raw] false Tryz.f48 = some c_ref06_Total := by kernel_rfl
theorem p48 : Tryz.prog.funcs[48]? = some Tryz.f48 := by kernel_rfl
theorem n48 : (Tryz.f48.name == "runtime.NumGoroutine") = false := by kernel_rfl
theorem l49 : lower Tryz.prog io drawOk [0, 1, 2] [1] [] [.raw] false Tryz.f49 = some c_ref06_Layer := by kernel_rfl
theorem p49 : Tryz.prog.funcs[49]? = some Tryz.f49 := by kernel_rfl
theorem n49 : (Tryz.f49.name == "runtime.NumGoroutine") = false := by kernel_rfl
theorem l50 : lower Tryz.prog io drawOk [0, 1, 2, 20, 38] [1] [] [.raw] false Tryz.f50 = some c_ref06_Check := by kernel_rfl
theorem p50 : Tryz.prog.funcs[50]? = some Tryz.f50 := by kernel_rfl
theorem n50 : (Tryz.f50.name == "runtime.NumGoroutine") = false := by kernel_rfl
theorem l51 : lower Tryz.prog io drawOk [0, 1, 4, 5, 10, 14, 25] [] [([4, 10, 14, 25], [])] [.raw] false Tryz.f51 = some c_ref01_Same := by kernel_rfl
theorem p51 : Tryz.prog.funcs[51]? = some Tryz.f51 := by kernel_rfl
theorem n51 : (Tryz.f51.name == "runtime.NumGoroutine") = false := by kernel_rfl
theorem l52 : lower Tryz.prog io drawOk [0, 1, 2] [1] [] [.raw] false Tryz.f52 = some c_ref06_Bytes := by kernel_rfl
theorem p52 : Tryz.prog.funcs[52]? = some Tryz.f52 := by kernel_rfl
theorem n52 : (Tryz.f52.name == "runtime.NumGoroutine") = false := by kernel_rfl
theorem l54 : lower Tryz.prog io drawOk [0, 2] [2] [] [.raw] false Tryz.f54 = some c_plain_dir := by kernel_rfl
theorem p54 : Tryz.prog.funcs[54]? = some Tryz.f54 := by kernel_rfl
theorem n54 : (Tryz.f54.name == "runtime.NumGoroutine") = false := by kernel_rfl
theorem l55 : lower Tryz.prog io drawOk [0, 1, 2, 3, 4, 5, 6, 7, 8, 11, 19, 28, 42] [1, 6] [([0, 2, 3, 6, 7, 8, 11, 19, 28, 42], [6])] [.raw, .raw] false Tryz.f55 = some c_ref40_Image := by kernel_rfl
theorem p55 : Tryz.prog.funcs[55]? = some Tryz.f55 := by kernel_rfl
theorem n55 : (Tryz.f55.name == "runtime.NumGoroutine") = false := by kernel_rfl
theorem l56 : lower Tryz.prog io drawOk [0, 1, 2, 20] [1] [] [.raw] false Tryz.f56 = some c_geo_Check := by kernel_rfl
theorem p56 : Tryz.prog.funcs[56]? = some Tryz.f56 := by kernel_rfl
theorem n56 : (Tryz.f56.name == "runtime.NumGoroutine") = false := by kernel_rfl
theorem l57 : lower Tryz.prog io drawOk [0, 2, 3, 4, 5, 6, 8, 9, 10] [2, 3, 6] [([5, 6, 10], [6])] [.raw] false Tryz.f57 = some c_inode_read := by kernel_rfl
theorem p57 : Tryz.prog.funcs[57]? = some Tryz.f57 := by kernel_rfl
theorem n57 : (Tryz.f57.name == "runtime.NumGoroutine") = false := by kernel_rfl
theorem l58 : lower Tryz.prog io drawOk [0, 1, 2, 3, 4, 6, 7, 11, 17, 18, 19] [1, 6] [([0, 1, 2, 3, 6, 7, 11, 19], [6])] [.raw, .raw] false Tryz.f58 = some c_inode_Put := by kernel_rfl
theorem p58 : Tryz.prog.funcs[58]? = some Tryz.f58 := by kernel_rfl
theorem n58 : (Tryz.f58.name == "runtime.NumGoroutine") = false := by kernel_rfl
theorem l60 : lower Tryz.prog io drawOk [0, 1, 2, 3, 6, 44, 57, 59, 79] [1] [([0, 2, 6, 44, 57, 59, 79], [])] [.raw] false Tryz.f60 = some c_ref07_Right := by kernel_rfl
theorem p60 : Tryz.prog.funcs[60]? = some Tryz.f60 := by kernel_rfl
theorem n60 : (Tryz.f60.name == "runtime.NumGoroutine") = false := by kernel_rfl
theorem l61 : lower Tryz.prog io drawOk [0, 1, 2, 3, 4, 7, 31] [1] [([0, 2, 7, 31], [])] [.raw] false Tryz.f61 = some c_ref07_Bytes := by kernel_rfl
theorem p61 : Tryz.prog.funcs[61]? = some Tryz.f61 := by kernel_rfl
theorem n61 : (Tryz.f61.name == "runtime.NumGoroutine") = false := by kernel_rfl
theorem l62 : lower Tryz.prog io drawOk [0, 1, 2, 3, 6, 7, 8, 9, 23] [3, 8] [] [.raw, .raw] false Tryz.f62 = some c_branch_region_block := by kernel_rfl
theorem p62 : Tryz.prog.funcs[62]? = some Tryz.f62 := by kernel_rfl
theorem n62 : (Tryz.f62.name == "runtime.NumGoroutine") = false := by kernel_rfl
theorem l64 : lower Tryz.prog io drawOk [0, 1, 3, 4, 5, 6, 7, 9, 12, 13, 14, 31] [3, 5, 6, 8, 10] [] [.raw] false Tryz.f64 = some c_claim_owners := by kernel_rfl
theorem p64 : Tryz.prog.funcs[64]? = some Tryz.f64 := by kernel_rfl
theorem n64 : (Tryz.f64.name == "runtime.NumGoroutine") = false := by kernel_rfl
theorem l65 : lower Tryz.prog io drawOk [0, 1, 2] [1] [] [.raw] false Tryz.f65 = some c_claim_pointers := by kernel_rfl
theorem p65 : Tryz.prog.funcs[65]? = some Tryz.f65 := by kernel_rfl
theorem n65 : (Tryz.f65.name == "runtime.NumGoroutine") = false := by kernel_rfl
theorem l67 : lower Tryz.prog io drawOk [0, 1, 4, 5, 6, 7, 8, 9, 10, 11, 12, 23, 27, 28, 36, 42] [6, 7, 8, 10] [] [.raw, .raw] false Tryz.f67 = some c_entry_Parse := by kernel_rfl
theorem p67 : Tryz.prog.funcs[67]? = some Tryz.f67 := by kernel_rfl
theorem n67 : (Tryz.f67.name == "runtime.NumGoroutine") = false := by kernel_rfl
theorem l68 : lower Tryz.prog io drawOk [0, 1, 2, 3, 4, 5, 8, 31] [4, 5] [] [.raw] false Tryz.f68 = some c_branch_region_good := by kernel_rfl
theorem p68 : Tryz.prog.funcs[68]? = some Tryz.f68 := by kernel_rfl
theorem n68 : (Tryz.f68.name == "runtime.NumGoroutine") = false := by kernel_rfl
theorem l69 : lower Tryz.prog io drawOk [0, 2] [] [] [] false Tryz.f69 = some c_slices_Sort_int := by kernel_rfl
theorem p69 : Tryz.prog.funcs[69]? = some Tryz.f69 := by kernel_rfl
theorem n69 : (Tryz.f69.name == "runtime.NumGoroutine") = false := by kernel_rfl
theorem l70 : lower Tryz.prog io drawOk [0, 1, 4, 6, 16] [22] [] [.box 0] false Tryz.f70 = some c_slices_Grow_Finding := by kernel_rfl
theorem p70 : Tryz.prog.funcs[70]? = some Tryz.f70 := by kernel_rfl
theorem n70 : (Tryz.f70.name == "runtime.NumGoroutine") = false := by kernel_rfl
theorem l74 : lower Tryz.prog io drawOk [0, 1, 4, 5, 10, 14, 25] [] [([4, 10, 14, 25], [])] [.raw] false Tryz.f74 = some c_ref08_Same := by kernel_rfl
theorem p74 : Tryz.prog.funcs[74]? = some Tryz.f74 := by kernel_rfl
theorem n74 : (Tryz.f74.name == "runtime.NumGoroutine") = false := by kernel_rfl
theorem l75 : lower Tryz.prog io drawOk [0, 1, 2, 4, 5, 18] [2] [] [.raw] false Tryz.f75 = some c_geo_layout_start := by kernel_rfl
theorem p75 : Tryz.prog.funcs[75]? = some Tryz.f75 := by kernel_rfl
theorem n75 : (Tryz.f75.name == "runtime.NumGoroutine") = false := by kernel_rfl
theorem l76 : lower Tryz.prog io drawOk [0, 1, 2] [1] [] [.raw] false Tryz.f76 = some c_geo_layout_log := by kernel_rfl
theorem p76 : Tryz.prog.funcs[76]? = some Tryz.f76 := by kernel_rfl
theorem n76 : (Tryz.f76.name == "runtime.NumGoroutine") = false := by kernel_rfl
theorem l78 : lower Tryz.prog io drawOk [0, 2, 3, 4, 7, 13] [] [([2, 7, 13], [])] [.raw] false Tryz.f78 = some c_ref02_Seal := by kernel_rfl
theorem p78 : Tryz.prog.funcs[78]? = some Tryz.f78 := by kernel_rfl
theorem n78 : (Tryz.f78.name == "runtime.NumGoroutine") = false := by kernel_rfl
theorem l79 : lower Tryz.prog io drawOk [0, 1, 2, 3, 24, 29, 40] [1] [([0, 2, 24, 29, 40], [])] [.raw] false Tryz.f79 = some c_ref40_Right := by kernel_rfl
theorem p79 : Tryz.prog.funcs[79]? = some Tryz.f79 := by kernel_rfl
theorem n79 : (Tryz.f79.name == "runtime.NumGoroutine") = false := by kernel_rfl
theorem l80 : lower Tryz.prog io drawOk [0, 1, 2, 3, 4, 5, 6, 7, 8, 9, 10, 11, 12, 13, 21, 42, 48, 58, 75] [2, 3, 10, 11] [([0, 1, 4, 5, 10, 11, 12, 13, 21, 42, 48, 58, 75], [10, 11]), ([0, 1, 4, 5, 13, 21, 42, 48, 58, 75], [])] [.raw, .raw] false Tryz.f80 = some c_ref40_sectors := by kernel_rfl
theorem p80 : Tryz.prog.funcs[80]? = some Tryz.f80 := by kernel_rfl
theorem n80 : (Tryz.f80.name == "runtime.NumGoroutine") = false := by kernel_rfl
theorem l81 : lower Tryz.prog io drawOk [0] [] [] [.raw] false Tryz.f81 = some c_ref27_Empty := by kernel_rfl
theorem p81 : Tryz.prog.funcs[81]? = some Tryz.f81 := by kernel_rfl
theorem n81 : (Tryz.f81.name == "runtime.NumGoroutine") = false := by kernel_rfl
theorem l82 : lower Tryz.prog io drawOk [0, 1, 2, 6] [] [] [.raw] false Tryz.f82 = some c_geo_within := by kernel_rfl
theorem p82 : Tryz.prog.funcs[82]? = some Tryz.f82 := by kernel_rfl
theorem n82 : (Tryz.f82.name == "runtime.NumGoroutine") = false := by kernel_rfl
theorem l83 : lower Tryz.prog io drawOk [0, 1, 2] [1, 2] [] [.raw] false Tryz.f83 = some c_inode_numbers := by kernel_rfl
theorem p83 : Tryz.prog.funcs[83]? = some Tryz.f83 := by kernel_rfl
theorem n83 : (Tryz.f83.name == "runtime.NumGoroutine") = false := by kernel_rfl
theorem l84 : lower Tryz.prog io drawOk [0, 1, 2, 6, 7, 8, 9, 10, 15, 21, 22, 23, 24] [] [([0, 1, 2, 6, 7, 9, 10, 15, 24], [])] [.raw, .raw] false Tryz.f84 = some c_num_Get := by kernel_rfl
theorem p84 : Tryz.prog.funcs[84]? = some Tryz.f84 := by kernel_rfl
theorem n84 : (Tryz.f84.name == "runtime.NumGoroutine") = false := by kernel_rfl
theorem l85 : lower Tryz.prog io drawOk [0, 1, 2, 4, 7, 9, 10, 11, 22] [1, 4] [([0, 2, 4, 7, 11, 22], [4])] [.raw] false Tryz.f85 = some c_inode_Right := by kernel_rfl
theorem p85 : Tryz.prog.funcs[85]? = some Tryz.f85 := by kernel_rfl
theorem n85 : (Tryz.f85.name == "runtime.NumGoroutine") = false := by kernel_rfl
theorem l86 : lower Tryz.prog (iov [(46, 1), (114, 2)]) drawOk [0, 1, 2, 6, 7, 13] [9, 17, 60000006] [] [.raw] false Tryz.f86 = some c_num_Put := by kernel_rfl
theorem p86 : Tryz.prog.funcs[86]? = some Tryz.f86 := by kernel_rfl
theorem n86 : (Tryz.f86.name == "runtime.NumGoroutine") = false := by kernel_rfl
theorem l87 : lower Tryz.prog io drawOk [0, 2, 3] [3] [] [.raw] false Tryz.f87 = some c_sum_Seal := by kernel_rfl
theorem p87 : Tryz.prog.funcs[87]? = some Tryz.f87 := by kernel_rfl
theorem n87 : (Tryz.f87.name == "runtime.NumGoroutine") = false := by kernel_rfl
theorem l88 : lower Tryz.prog io drawOk [0, 2] [] [] [.raw] false Tryz.f88 = some c_ref01_right := by kernel_rfl
theorem p88 : Tryz.prog.funcs[88]? = some Tryz.f88 := by kernel_rfl
theorem n88 : (Tryz.f88.name == "runtime.NumGoroutine") = false := by kernel_rfl
theorem l89 : lower Tryz.prog io drawOk [0, 1, 4] [] [] [.raw] false Tryz.f89 = some c_ref07_count := by kernel_rfl
theorem p89 : Tryz.prog.funcs[89]? = some Tryz.f89 := by kernel_rfl
theorem n89 : (Tryz.f89.name == "runtime.NumGoroutine") = false := by kernel_rfl
theorem l90 : lower Tryz.prog io drawOk [0, 1, 4, 5, 6, 10] [] [([4, 10], [])] [.raw] false Tryz.f90 = some c_ref01_Bytes := by kernel_rfl
theorem p90 : Tryz.prog.funcs[90]? = some Tryz.f90 := by kernel_rfl
theorem n90 : (Tryz.f90.name == "runtime.NumGoroutine") = false := by kernel_rfl
theorem l91 : lower Tryz.prog io drawOk [0, 1, 2, 3, 8, 10, 14, 16, 23] [10] [([0, 1, 8, 10, 16, 23], [10])] [.raw] false Tryz.f91 = some c_claim_Valid := by kernel_rfl
theorem p91 : Tryz.prog.funcs[91]? = some Tryz.f91 := by kernel_rfl
theorem n91 : (Tryz.f91.name == "runtime.NumGoroutine") = false := by kernel_rfl
theorem l92 : lower Tryz.prog io drawOk [0, 2, 4] [] [] [.raw] true Tryz.f92 = some c_slices_Clone_int := by kernel_rfl
theorem p92 : Tryz.prog.funcs[92]? = some Tryz.f92 := by kernel_rfl
theorem n92 : (Tryz.f92.name == "runtime.NumGoroutine") = false := by kernel_rfl
theorem l93 : lower Tryz.prog io drawOk [0, 1, 3, 4, 5, 6, 7, 8, 9, 10, 20, 21, 22, 23, 39] [4] [([1, 3, 4, 5, 6, 10, 20, 21, 22, 23, 39], [4]), ([1, 4, 5, 6, 10, 23, 39], [])] [] false Tryz.f93 = some c_claim_pointers_1 := by kernel_rfl
theorem p93 : Tryz.prog.funcs[93]? = some Tryz.f93 := by kernel_rfl
theorem n93 : (Tryz.f93.name == "runtime.NumGoroutine") = false := by kernel_rfl
theorem l95 : lower Tryz.prog io drawOk [0, 1, 4, 5, 6, 7, 8, 9, 12, 18, 47] [4, 7] [] [.raw, .raw, .raw] false Tryz.f95 = some c_entry_Get := by kernel_rfl
theorem p95 : Tryz.prog.funcs[95]? = some Tryz.f95 := by kernel_rfl
theorem n95 : (Tryz.f95.name == "runtime.NumGoroutine") = false := by kernel_rfl
theorem l96 : lower Tryz.prog io drawOk [0, 1, 4] [] [] [.raw] false Tryz.f96 = some c_slices_ContainsFunc_Entry := by kernel_rfl
theorem p96 : Tryz.prog.funcs[96]? = some Tryz.f96 := by kernel_rfl
theorem n96 : (Tryz.f96.name == "runtime.NumGoroutine") = false := by kernel_rfl
theorem l98 : lower Tryz.prog io drawOk [0, 1, 2, 3, 8, 9, 10, 11, 12, 13, 14, 15, 16, 17, 18, 23, 29, 35, 50, 68, 72, 87, 113] [] [([10, 11, 12, 13, 14, 15, 16, 17, 18, 23, 29, 35, 50, 68, 72, 87, 113], [])] [] false Tryz.f98 = some c_slices_pdqsortOrdered_int := by kernel_rfl
theorem p98 : Tryz.prog.funcs[98]? = some Tryz.f98 := by kernel_rfl
theorem n98 : (Tryz.f98.name == "runtime.NumGoroutine") = false := by kernel_rfl
theorem l99 : lower Tryz.prog io drawOk [0, 2] [] [] [.raw] false Tryz.f99 = some c_math_bits_Len := by kernel_rfl
theorem p99 : Tryz.prog.funcs[99]? = some Tryz.f99 := by kernel_rfl
theorem n99 : (Tryz.f99.name == "runtime.NumGoroutine") = false := by kernel_rfl
theorem l100 : lower Tryz.prog io drawOk [0, 1, 2, 3, 26, 44, 63] [1, 3] [] [.raw] false Tryz.f100 = some c_ref09_Right := by kernel_rfl
theorem p100 : Tryz.prog.funcs[100]? = some Tryz.f100 := by kernel_rfl
theorem n100 : (Tryz.f100.name == "runtime.NumGoroutine") = false := by kernel_rfl
theorem l104 : lower Tryz.prog io drawOk [0, 1, 2] [1] [] [.raw] false Tryz.f104 = some c_geo_layout_layer := by kernel_rfl
theorem p104 : Tryz.prog.funcs[104]? = some Tryz.f104 := by kernel_rfl
theorem n104 : (Tryz.f104.name == "runtime.NumGoroutine") = false := by kernel_rfl
theorem l105 : lower Tryz.prog io drawOk [0, 1, 2, 6, 7, 13] [] [] [.raw] false Tryz.f105 = some c_ref01_Put := by kernel_rfl
theorem p105 : Tryz.prog.funcs[105]? = some Tryz.f105 := by kernel_rfl
theorem n105 : (Tryz.f105.name == "runtime.NumGoroutine") = false := by kernel_rfl
theorem l106 : lower Tryz.prog io drawOk [0, 2, 3, 4] [] [] [.raw] false Tryz.f106 = some c_ref02_Of := by kernel_rfl
theorem p106 : Tryz.prog.funcs[106]? = some Tryz.f106 := by kernel_rfl
theorem n106 : (Tryz.f106.name == "runtime.NumGoroutine") = false := by kernel_rfl
theorem l107 : lower Tryz.prog io drawOk [0, 1, 2, 3, 4, 6, 7, 13, 18, 29] [3, 4] [([0, 1, 3, 6, 13, 18, 29], [])] [.raw] false Tryz.f107 = some c_ref40_layer := by kernel_rfl
theorem p107 : Tryz.prog.funcs[107]? = some Tryz.f107 := by kernel_rfl
theorem n107 : (Tryz.f107.name == "runtime.NumGoroutine") = false := by kernel_rfl
theorem l108 : lower Tryz.prog io drawOk [0, 1, 2, 4, 5, 7, 16, 27] [2] [([0, 4, 7, 16, 27], [])] [.raw] false Tryz.f108 = some c_ref40_takes := by kernel_rfl
theorem p108 : Tryz.prog.funcs[108]? = some Tryz.f108 := by kernel_rfl
theorem n108 : (Tryz.f108.name == "runtime.NumGoroutine") = false := by kernel_rfl
theorem l109 : lower Tryz.prog io drawOk [0, 1, 2, 4, 5, 6, 8, 14, 26, 33] [2] [([0, 4, 8, 14, 26, 33], [])] [.raw] false Tryz.f109 = some c_ref40_block := by kernel_rfl
theorem p109 : Tryz.prog.funcs[109]? = some Tryz.f109 := by kernel_rfl
theorem n109 : (Tryz.f109.name == "runtime.NumGoroutine") = false := by kernel_rfl
theorem l110 : lower Tryz.prog io drawOk [0, 2, 3, 4, 5, 6, 15, 21, 25] [7, 60000002] [([2, 5, 6, 15, 21, 25], []), ([2, 15, 21, 25], [])] [.raw] false Tryz.f110 = some c_ref10_Put := by kernel_rfl
theorem p110 : Tryz.prog.funcs[110]? = some Tryz.f110 := by kernel_rfl
theorem n110 : (Tryz.f110.name == "runtime.NumGoroutine") = false := by kernel_rfl
theorem l111 : lower Tryz.prog io drawOk [0, 1, 2, 6] [] [] [.raw] false Tryz.f111 = some c_num_there := by kernel_rfl
theorem p111 : Tryz.prog.funcs[111]? = some Tryz.f111 := by kernel_rfl
theorem n111 : (Tryz.f111.name == "runtime.NumGoroutine") = false := by kernel_rfl
theorem l112 : lower Tryz.prog io drawOk [0, 1, 2, 3, 6, 7, 12] [1, 3] [] [.raw] false Tryz.f112 = some c_inode_odd := by kernel_rfl
theorem p112 : Tryz.prog.funcs[112]? = some Tryz.f112 := by kernel_rfl
theorem n112 : (Tryz.f112.name == "runtime.NumGoroutine") = false := by kernel_rfl
theorem l113 : lower Tryz.prog io drawOk [0, 1, 4] [] [] [.raw] false Tryz.f113 = some c_num_Right := by kernel_rfl
theorem p113 : Tryz.prog.funcs[113]? = some Tryz.f113 := by kernel_rfl
theorem n113 : (Tryz.f113.name == "runtime.NumGoroutine") = false := by kernel_rfl
theorem l114 : lower Tryz.prog io drawOk [0, 1, 4, 6, 7, 8] [] [([4, 8], [])] [] false Tryz.f114 = some c_num_lay := by kernel_rfl
theorem p114 : Tryz.prog.funcs[114]? = some Tryz.f114 := by kernel_rfl
theorem n114 : (Tryz.f114.name == "runtime.NumGoroutine") = false := by kernel_rfl
theorem l115 : lower Tryz.prog io drawOk [0, 2, 3] [] [] [.raw] false Tryz.f115 = some c_sum_Of := by kernel_rfl
theorem p115 : Tryz.prog.funcs[115]? = some Tryz.f115 := by kernel_rfl
theorem n115 : (Tryz.f115.name == "runtime.NumGoroutine") = false := by kernel_rfl
theorem l117 : lower Tryz.prog io drawOk [0, 2, 3, 4, 13, 30] [] [] [.raw, .raw] false Tryz.f117 = some c_name_Unpack := by kernel_rfl
theorem p117 : Tryz.prog.funcs[117]? = some Tryz.f117 := by kernel_rfl
theorem n117 : (Tryz.f117.name == "runtime.NumGoroutine") = false := by kernel_rfl
theorem l118 : lower Tryz.prog io drawOk [0, 1, 2, 3, 6] [1] [] [.raw, .raw] false Tryz.f118 = some c_entry_Put := by kernel_rfl
theorem p118 : Tryz.prog.funcs[118]? = some Tryz.f118 := by kernel_rfl
theorem n118 : (Tryz.f118.name == "runtime.NumGoroutine") = false := by kernel_rfl
theorem l119 : lower Tryz.prog io drawOk [0, 1, 4, 5, 7, 8, 9, 16] [] [([4, 5, 9, 16], [])] [.raw] false Tryz.f119 = some c_slices_IndexFunc_Entry := by kernel_rfl
theorem p119 : Tryz.prog.funcs[119]? = some Tryz.f119 := by kernel_rfl
theorem n119 : (Tryz.f119.name == "runtime.NumGoroutine") = false := by kernel_rfl
theorem l120 : lower Tryz.prog io drawOk [0, 1, 2, 6, 7, 12, 30] [] [([7, 12, 30], []), ([12, 30], [])] [] false Tryz.f120 = some c_slices_insertionSortOrdered_int := by kernel_rfl
theorem p120 : Tryz.prog.funcs[120]? = some Tryz.f120 := by kernel_rfl
theorem n120 : (Tryz.f120.name == "runtime.NumGoroutine") = false := by kernel_rfl
theorem l130 : lower Tryz.prog io drawOk [0, 2, 4, 8, 14] [] [] [.raw] false Tryz.f130 = some c_math_bits_Len64 := by kernel_rfl
theorem p130 : Tryz.prog.funcs[130]? = some Tryz.f130 := by kernel_rfl
theorem n130 : (Tryz.f130.name == "runtime.NumGoroutine") = false := by kernel_rfl
theorem l131 : lower Tryz.prog io drawOk [0, 1, 4] [] [] [.raw] false Tryz.f131 = some c_ref09_count := by kernel_rfl
theorem p131 : Tryz.prog.funcs[131]? = some Tryz.f131 := by kernel_rfl
theorem n131 : (Tryz.f131.name == "runtime.NumGoroutine") = false := by kernel_rfl
theorem l132 : lower Tryz.prog io drawOk [0, 1, 4] [] [] [.raw] false Tryz.f132 = some c_ref09_has := by kernel_rfl
theorem p132 : Tryz.prog.funcs[132]? = some Tryz.f132 := by kernel_rfl
theorem n132 : (Tryz.f132.name == "runtime.NumGoroutine") = false := by kernel_rfl
theorem l134 : lower Tryz.prog io drawOk [0, 1, 2] [1] [] [.raw] false Tryz.f134 = some c_ref08_Right := by kernel_rfl
theorem p134 : Tryz.prog.funcs[134]? = some Tryz.f134 := by kernel_rfl
theorem n134 : (Tryz.f134.name == "runtime.NumGoroutine") = false := by kernel_rfl
theorem l135 : lower Tryz.prog io drawOk [0, 1, 4, 5, 6, 13, 16] [] [([4, 13, 16], [])] [.raw] false Tryz.f135 = some c_ref01_Right := by kernel_rfl
theorem p135 : Tryz.prog.funcs[135]? = some Tryz.f135 := by kernel_rfl
theorem n135 : (Tryz.f135.name == "runtime.NumGoroutine") = false := by kernel_rfl
theorem l136 : lower Tryz.prog io drawOk [0, 2, 3, 4, 5, 6, 10] [] [([2, 3, 10], [])] [.raw, .raw] false Tryz.f136 = some c_ref02_Sums := by kernel_rfl
theorem p136 : Tryz.prog.funcs[136]? = some Tryz.f136 := by kernel_rfl
theorem n136 : (Tryz.f136.name == "runtime.NumGoroutine") = false := by kernel_rfl
theorem l137 : lower Tryz.prog io drawOk [0, 1, 2, 3, 4, 6, 7, 8, 9, 12, 64, 89, 94, 129, 132, 154] [3, 4, 8] [([0, 1, 6, 8, 9, 12, 64, 89, 94, 129, 132, 154], [8]), ([0, 1, 6, 12, 64, 89, 94, 129, 132, 154], [])] [.raw] false Tryz.f137 = some c_ref40_node := by kernel_rfl
theorem p137 : Tryz.prog.funcs[137]? = some Tryz.f137 := by kernel_rfl
theorem n137 : (Tryz.f137.name == "runtime.NumGoroutine") = false := by kernel_rfl
theorem l138 : lower Tryz.prog io drawOk [0, 1, 4, 5, 6, 7, 8, 11, 19, 46] [] [([4, 7, 8, 11, 19, 46], []), ([4, 11, 19, 46], [])] [.raw] false Tryz.f138 = some c_ref08_Block := by kernel_rfl
theorem p138 : Tryz.prog.funcs[138]? = some Tryz.f138 := by kernel_rfl
theorem n138 : (Tryz.f138.name == "runtime.NumGoroutine") = false := by kernel_rfl
theorem l139 : lower Tryz.prog io drawOk [0, 2] [] [] [.raw] false Tryz.f139 = some c_num_width := by kernel_rfl
theorem p139 : Tryz.prog.funcs[139]? = some Tryz.f139 := by kernel_rfl
theorem n139 : (Tryz.f139.name == "runtime.NumGoroutine") = false := by kernel_rfl
theorem l140 : lower Tryz.prog io drawOk [0, 2, 3, 5, 6, 7, 8, 9, 10] [] [([0, 2, 5, 6, 10], [])] [.raw] false Tryz.f140 = some c_sum_Sums := by kernel_rfl
theorem p140 : Tryz.prog.funcs[140]? = some Tryz.f140 := by kernel_rfl
theorem n140 : (Tryz.f140.name == "runtime.NumGoroutine") = false := by kernel_rfl
theorem l143 : lower Tryz.prog io drawOk [0, 2, 18] [] [] [.raw] false Tryz.f143 = some c_name_Right := by kernel_rfl
theorem p143 : Tryz.prog.funcs[143]? = some Tryz.f143 := by kernel_rfl
theorem n143 : (Tryz.f143.name == "runtime.NumGoroutine") = false := by kernel_rfl
theorem l144 : lower Tryz.prog io drawOk [0, 2, 3, 6] [3] [] [.raw] false Tryz.f144 = some c_name_Pack := by kernel_rfl
theorem p144 : Tryz.prog.funcs[144]? = some Tryz.f144 := by kernel_rfl
theorem n144 : (Tryz.f144.name == "runtime.NumGoroutine") = false := by kernel_rfl
theorem l145 : lower Tryz.prog io drawOk [0, 1, 2] [1] [] [.raw] false Tryz.f145 = some c_entry_Right := by kernel_rfl
theorem p145 : Tryz.prog.funcs[145]? = some Tryz.f145 := by kernel_rfl
theorem n145 : (Tryz.f145.name == "runtime.NumGoroutine") = false := by kernel_rfl
theorem l152 : lower Tryz.prog io drawOk [0, 2, 3, 4, 7, 13, 19] [] [([2, 7, 13, 19], [])] [.raw] false Tryz.f152 = some c_ref03_Pack := by kernel_rfl
theorem p152 : Tryz.prog.funcs[152]? = some Tryz.f152 := by kernel_rfl
theorem n152 : (Tryz.f152.name == "runtime.NumGoroutine") = false := by kernel_rfl
theorem l153 : lower Tryz.prog io drawOk [0, 2, 3, 19, 23, 30] [] [([2, 19, 23, 30], [])] [.raw] false Tryz.f153 = some c_ref03_Right := by kernel_rfl
theorem p153 : Tryz.prog.funcs[153]? = some Tryz.f153 := by kernel_rfl
theorem n153 : (Tryz.f153.name == "runtime.NumGoroutine") = false := by kernel_rfl
theorem l154 : lower Tryz.prog io drawOk [0, 1, 2] [1] [] [.raw] false Tryz.f154 = some c_ref08_Bytes := by kernel_rfl
theorem p154 : Tryz.prog.funcs[154]? = some Tryz.f154 := by kernel_rfl
theorem n154 : (Tryz.f154.name == "runtime.NumGoroutine") = false := by kernel_rfl
theorem l155 : lower Tryz.prog io drawOk [0, 2, 4] [] [] [.raw] false Tryz.f155 = some c_sum_wrap := by kernel_rfl
theorem p155 : Tryz.prog.funcs[155]? = some Tryz.f155 := by kernel_rfl
theorem n155 : (Tryz.f155.name == "runtime.NumGoroutine") = false := by kernel_rfl
theorem l156 : lower Tryz.prog io drawOk [0, 1, 4] [] [] [.raw] false Tryz.f156 = some c_strings_IndexFunc := by kernel_rfl
theorem p156 : Tryz.prog.funcs[156]? = some Tryz.f156 := by kernel_rfl
theorem n156 : (Tryz.f156.name == "runtime.NumGoroutine") = false := by kernel_rfl
theorem l157 : lower Tryz.prog io drawOk [0, 2] [] [] [.raw] false Tryz.f157 = some c_name_Right_1 := by kernel_rfl
theorem p157 : Tryz.prog.funcs[157]? = some Tryz.f157 := by kernel_rfl
theorem n157 : (Tryz.f157.name == "runtime.NumGoroutine") = false := by kernel_rfl
theorem l158 : lower Tryz.prog io drawOk [0, 2, 3] [] [] [.raw] false Tryz.f158 = some c_name_letter := by kernel_rfl
theorem p158 : Tryz.prog.funcs[158]? = some Tryz.f158 := by kernel_rfl
theorem n158 : (Tryz.f158.name == "runtime.NumGoroutine") = false := by kernel_rfl
theorem l160 : lower Tryz.prog io drawOk [0, 2] [] [] [.raw] false Tryz.f160 = some c_ref03_letter := by kernel_rfl
theorem p160 : Tryz.prog.funcs[160]? = some Tryz.f160 := by kernel_rfl
theorem n160 : (Tryz.f160.name == "runtime.NumGoroutine") = false := by kernel_rfl
theorem mixed : Tryz.prog.follows .mixedOrders = true := by kernel_rfl

theorem code_ok {f : FuncId} {ifn : IFn} (h : code f = some ifn) : ∃ (io : FuncId → Nat) (drawOk : List Nat → Array Oper → List (Option (Nat × Bool) × IOp) → Bool) (vm bm : List Nat) (h : Hints) (canon : List CM) (split : Bool) (fn : Func), DrawSound Tryz.prog drawOk ∧ Tryz.prog.funcs[f]? = some fn ∧ (fn.name == "runtime.NumGoroutine") = false ∧ lower Tryz.prog io drawOk vm bm h canon split fn = some ifn := by
  unfold code at h
  split at h
  · simp only [Option.some.injEq] at h; subst h; exact ⟨_, _, _, _, _, _, _, _, drawSound mixed, p4, n4, l4⟩
  · simp only [Option.some.injEq] at h; subst h; exact ⟨_, _, _, _, _, _, _, _, drawSound mixed, p7, n7, l7⟩
  · simp only [Option.some.injEq] at h; subst h; exact ⟨_, _, _, _, _, _, _, _, drawSound mixed, p8, n8, l8⟩
  · simp only [Option.some.injEq] at h; subst h; exact ⟨_, _, _, _, _, _, _, _, drawSound mixed, p12, n12, l12⟩
  · simp only [Option.some.injEq] at h; subst h; exact ⟨_, _, _, _, _, _, _, _, drawSound mixed, p13, n13, l13⟩
  · simp only [Option.some.injEq] at h; subst h; exact ⟨_, _, _, _, _, _, _, _, drawSound mixed, p15, n15, l15⟩
  · simp only [Option.some.injEq] at h; subst h; exact ⟨_, _, _, _, _, _, _, _, drawSound mixed, p17, n17, l17⟩
  · simp only [Option.some.injEq] at h; subst h; exact ⟨_, _, _, _, _, _, _, _, drawSound mixed, p19, n19, l19⟩
  · simp only [Option.some.injEq] at h; subst h; exact ⟨_, _, _, _, _, _, _, _, drawSound mixed, p20, n20, l20⟩
  · simp only [Option.some.injEq] at h; subst h; exact ⟨_, _, _, _, _, _, _, _, drawSound mixed, p21, n21, l21⟩
  · simp only [Option.some.injEq] at h; subst h; exact ⟨_, _, _, _, _, _, _, _, drawSound mixed, p26, n26, l26⟩
  · simp only [Option.some.injEq] at h; subst h; exact ⟨_, _, _, _, _, _, _, _, drawSound mixed, p27, n27, l27⟩
  · simp only [Option.some.injEq] at h; subst h; exact ⟨_, _, _, _, _, _, _, _, drawSound mixed, p28, n28, l28⟩
  · simp only [Option.some.injEq] at h; subst h; exact ⟨_, _, _, _, _, _, _, _, drawSound mixed, p29, n29, l29⟩
  · simp only [Option.some.injEq] at h; subst h; exact ⟨_, _, _, _, _, _, _, _, drawSound mixed, p32, n32, l32⟩
  · simp only [Option.some.injEq] at h; subst h; exact ⟨_, _, _, _, _, _, _, _, drawSound mixed, p35, n35, l35⟩
  · simp only [Option.some.injEq] at h; subst h; exact ⟨_, _, _, _, _, _, _, _, drawSound mixed, p36, n36, l36⟩
  · simp only [Option.some.injEq] at h; subst h; exact ⟨_, _, _, _, _, _, _, _, drawSound mixed, p37, n37, l37⟩
  · simp only [Option.some.injEq] at h; subst h; exact ⟨_, _, _, _, _, _, _, _, drawSound mixed, p38, n38, l38⟩
  · simp only [Option.some.injEq] at h; subst h; exact ⟨_, _, _, _, _, _, _, _, drawSound mixed, p42, n42, l42⟩
  · simp only [Option.some.injEq] at h; subst h; exact ⟨_, _, _, _, _, _, _, _, drawSound mixed, p43, n43, l43⟩
  · simp only [Option.some.injEq] at h; subst h; exact ⟨_, _, _, _, _, _, _, _, drawSound mixed, p44, n44, l44⟩
  · simp only [Option.some.injEq] at h; subst h; exact ⟨_, _, _, _, _, _, _, _, drawSound mixed, p45, n45, l45⟩
  · simp only [Option.some.injEq] at h; subst h; exact ⟨_, _, _, _, _, _, _, _, drawSound mixed, p46, n46, l46⟩
  · simp only [Option.some.injEq] at h; subst h; exact ⟨_, _, _, _, _, _, _, _, drawSound mixed, p47, n47, l47⟩
  · simp only [Option.some.injEq] at h; subst h; exact ⟨_, _, _, _, _, _, _, _, drawSound mixed, p48, n48, l48⟩
  · simp only [Option.some.injEq] at h; subst h; exact ⟨_, _, _, _, _, _, _, _, drawSound mixed, p49, n49, l49⟩
  · simp only [Option.some.injEq] at h; subst h; exact ⟨_, _, _, _, _, _, _, _, drawSound mixed, p50, n50, l50⟩
  · simp only [Option.some.injEq] at h; subst h; exact ⟨_, _, _, _, _, _, _, _, drawSound mixed, p51, n51, l51⟩
  · simp only [Option.some.injEq] at h; subst h; exact ⟨_, _, _, _, _, _, _, _, drawSound mixed, p52, n52, l52⟩
  · simp only [Option.some.injEq] at h; subst h; exact ⟨_, _, _, _, _, _, _, _, drawSound mixed, p54, n54, l54⟩
  · simp only [Option.some.injEq] at h; subst h; exact ⟨_, _, _, _, _, _, _, _, drawSound mixed, p55, n55, l55⟩
  · simp only [Option.some.injEq] at h; subst h; exact ⟨_, _, _, _, _, _, _, _, drawSound mixed, p56, n56, l56⟩
  · simp only [Option.some.injEq] at h; subst h; exact ⟨_, _, _, _, _, _, _, _, drawSound mixed, p57, n57, l57⟩
  · simp only [Option.some.injEq] at h; subst h; exact ⟨_, _, _, _, _, _, _, _, drawSound mixed, p58, n58, l58⟩
  · simp only [Option.some.injEq] at h; subst h; exact ⟨_, _, _, _, _, _, _, _, drawSound mixed, p60, n60, l60⟩
  · simp only [Option.some.injEq] at h; subst h; exact ⟨_, _, _, _, _, _, _, _, drawSound mixed, p61, n61, l61⟩
  · simp only [Option.some.injEq] at h; subst h; exact ⟨_, _, _, _, _, _, _, _, drawSound mixed, p62, n62, l62⟩
  · simp only [Option.some.injEq] at h; subst h; exact ⟨_, _, _, _, _, _, _, _, drawSound mixed, p64, n64, l64⟩
  · simp only [Option.some.injEq] at h; subst h; exact ⟨_, _, _, _, _, _, _, _, drawSound mixed, p65, n65, l65⟩
  · simp only [Option.some.injEq] at h; subst h; exact ⟨_, _, _, _, _, _, _, _, drawSound mixed, p67, n67, l67⟩
  · simp only [Option.some.injEq] at h; subst h; exact ⟨_, _, _, _, _, _, _, _, drawSound mixed, p68, n68, l68⟩
  · simp only [Option.some.injEq] at h; subst h; exact ⟨_, _, _, _, _, _, _, _, drawSound mixed, p69, n69, l69⟩
  · simp only [Option.some.injEq] at h; subst h; exact ⟨_, _, _, _, _, _, _, _, drawSound mixed, p70, n70, l70⟩
  · simp only [Option.some.injEq] at h; subst h; exact ⟨_, _, _, _, _, _, _, _, drawSound mixed, p74, n74, l74⟩
  · simp only [Option.some.injEq] at h; subst h; exact ⟨_, _, _, _, _, _, _, _, drawSound mixed, p75, n75, l75⟩
  · simp only [Option.some.injEq] at h; subst h; exact ⟨_, _, _, _, _, _, _, _, drawSound mixed, p76, n76, l76⟩
  · simp only [Option.some.injEq] at h; subst h; exact ⟨_, _, _, _, _, _, _, _, drawSound mixed, p78, n78, l78⟩
  · simp only [Option.some.injEq] at h; subst h; exact ⟨_, _, _, _, _, _, _, _, drawSound mixed, p79, n79, l79⟩
  · simp only [Option.some.injEq] at h; subst h; exact ⟨_, _, _, _, _, _, _, _, drawSound mixed, p80, n80, l80⟩
  · simp only [Option.some.injEq] at h; subst h; exact ⟨_, _, _, _, _, _, _, _, drawSound mixed, p81, n81, l81⟩
  · simp only [Option.some.injEq] at h; subst h; exact ⟨_, _, _, _, _, _, _, _, drawSound mixed, p82, n82, l82⟩
  · simp only [Option.some.injEq] at h; subst h; exact ⟨_, _, _, _, _, _, _, _, drawSound mixed, p83, n83, l83⟩
  · simp only [Option.some.injEq] at h; subst h; exact ⟨_, _, _, _, _, _, _, _, drawSound mixed, p84, n84, l84⟩
  · simp only [Option.some.injEq] at h; subst h; exact ⟨_, _, _, _, _, _, _, _, drawSound mixed, p85, n85, l85⟩
  · simp only [Option.some.injEq] at h; subst h; exact ⟨_, _, _, _, _, _, _, _, drawSound mixed, p86, n86, l86⟩
  · simp only [Option.some.injEq] at h; subst h; exact ⟨_, _, _, _, _, _, _, _, drawSound mixed, p87, n87, l87⟩
  · simp only [Option.some.injEq] at h; subst h; exact ⟨_, _, _, _, _, _, _, _, drawSound mixed, p88, n88, l88⟩
  · simp only [Option.some.injEq] at h; subst h; exact ⟨_, _, _, _, _, _, _, _, drawSound mixed, p89, n89, l89⟩
  · simp only [Option.some.injEq] at h; subst h; exact ⟨_, _, _, _, _, _, _, _, drawSound mixed, p90, n90, l90⟩
  · simp only [Option.some.injEq] at h; subst h; exact ⟨_, _, _, _, _, _, _, _, drawSound mixed, p91, n91, l91⟩
  · simp only [Option.some.injEq] at h; subst h; exact ⟨_, _, _, _, _, _, _, _, drawSound mixed, p92, n92, l92⟩
  · simp only [Option.some.injEq] at h; subst h; exact ⟨_, _, _, _, _, _, _, _, drawSound mixed, p93, n93, l93⟩
  · simp only [Option.some.injEq] at h; subst h; exact ⟨_, _, _, _, _, _, _, _, drawSound mixed, p95, n95, l95⟩
  · simp only [Option.some.injEq] at h; subst h; exact ⟨_, _, _, _, _, _, _, _, drawSound mixed, p96, n96, l96⟩
  · simp only [Option.some.injEq] at h; subst h; exact ⟨_, _, _, _, _, _, _, _, drawSound mixed, p98, n98, l98⟩
  · simp only [Option.some.injEq] at h; subst h; exact ⟨_, _, _, _, _, _, _, _, drawSound mixed, p99, n99, l99⟩
  · simp only [Option.some.injEq] at h; subst h; exact ⟨_, _, _, _, _, _, _, _, drawSound mixed, p100, n100, l100⟩
  · simp only [Option.some.injEq] at h; subst h; exact ⟨_, _, _, _, _, _, _, _, drawSound mixed, p104, n104, l104⟩
  · simp only [Option.some.injEq] at h; subst h; exact ⟨_, _, _, _, _, _, _, _, drawSound mixed, p105, n105, l105⟩
  · simp only [Option.some.injEq] at h; subst h; exact ⟨_, _, _, _, _, _, _, _, drawSound mixed, p106, n106, l106⟩
  · simp only [Option.some.injEq] at h; subst h; exact ⟨_, _, _, _, _, _, _, _, drawSound mixed, p107, n107, l107⟩
  · simp only [Option.some.injEq] at h; subst h; exact ⟨_, _, _, _, _, _, _, _, drawSound mixed, p108, n108, l108⟩
  · simp only [Option.some.injEq] at h; subst h; exact ⟨_, _, _, _, _, _, _, _, drawSound mixed, p109, n109, l109⟩
  · simp only [Option.some.injEq] at h; subst h; exact ⟨_, _, _, _, _, _, _, _, drawSound mixed, p110, n110, l110⟩
  · simp only [Option.some.injEq] at h; subst h; exact ⟨_, _, _, _, _, _, _, _, drawSound mixed, p111, n111, l111⟩
  · simp only [Option.some.injEq] at h; subst h; exact ⟨_, _, _, _, _, _, _, _, drawSound mixed, p112, n112, l112⟩
  · simp only [Option.some.injEq] at h; subst h; exact ⟨_, _, _, _, _, _, _, _, drawSound mixed, p113, n113, l113⟩
  · simp only [Option.some.injEq] at h; subst h; exact ⟨_, _, _, _, _, _, _, _, drawSound mixed, p114, n114, l114⟩
  · simp only [Option.some.injEq] at h; subst h; exact ⟨_, _, _, _, _, _, _, _, drawSound mixed, p115, n115, l115⟩
  · simp only [Option.some.injEq] at h; subst h; exact ⟨_, _, _, _, _, _, _, _, drawSound mixed, p117, n117, l117⟩
  · simp only [Option.some.injEq] at h; subst h; exact ⟨_, _, _, _, _, _, _, _, drawSound mixed, p118, n118, l118⟩
  · simp only [Option.some.injEq] at h; subst h; exact ⟨_, _, _, _, _, _, _, _, drawSound mixed, p119, n119, l119⟩
  · simp only [Option.some.injEq] at h; subst h; exact ⟨_, _, _, _, _, _, _, _, drawSound mixed, p120, n120, l120⟩
  · simp only [Option.some.injEq] at h; subst h; exact ⟨_, _, _, _, _, _, _, _, drawSound mixed, p130, n130, l130⟩
  · simp only [Option.some.injEq] at h; subst h; exact ⟨_, _, _, _, _, _, _, _, drawSound mixed, p131, n131, l131⟩
  · simp only [Option.some.injEq] at h; subst h; exact ⟨_, _, _, _, _, _, _, _, drawSound mixed, p132, n132, l132⟩
  · simp only [Option.some.injEq] at h; subst h; exact ⟨_, _, _, _, _, _, _, _, drawSound mixed, p134, n134, l134⟩
  · simp only [Option.some.injEq] at h; subst h; exact ⟨_, _, _, _, _, _, _, _, drawSound mixed, p135, n135, l135⟩
  · simp only [Option.some.injEq] at h; subst h; exact ⟨_, _, _, _, _, _, _, _, drawSound mixed, p136, n136, l136⟩
  · simp only [Option.some.injEq] at h; subst h; exact ⟨_, _, _, _, _, _, _, _, drawSound mixed, p137, n137, l137⟩
  · simp only [Option.some.injEq] at h; subst h; exact ⟨_, _, _, _, _, _, _, _, drawSound mixed, p138, n138, l138⟩
  · simp only [Option.some.injEq] at h; subst h; exact ⟨_, _, _, _, _, _, _, _, drawSound mixed, p139, n139, l139⟩
  · simp only [Option.some.injEq] at h; subst h; exact ⟨_, _, _, _, _, _, _, _, drawSound mixed, p140, n140, l140⟩
  · simp only [Option.some.injEq] at h; subst h; exact ⟨_, _, _, _, _, _, _, _, drawSound mixed, p143, n143, l143⟩
  · simp only [Option.some.injEq] at h; subst h; exact ⟨_, _, _, _, _, _, _, _, drawSound mixed, p144, n144, l144⟩
  · simp only [Option.some.injEq] at h; subst h; exact ⟨_, _, _, _, _, _, _, _, drawSound mixed, p145, n145, l145⟩
  · simp only [Option.some.injEq] at h; subst h; exact ⟨_, _, _, _, _, _, _, _, drawSound mixed, p152, n152, l152⟩
  · simp only [Option.some.injEq] at h; subst h; exact ⟨_, _, _, _, _, _, _, _, drawSound mixed, p153, n153, l153⟩
  · simp only [Option.some.injEq] at h; subst h; exact ⟨_, _, _, _, _, _, _, _, drawSound mixed, p154, n154, l154⟩
  · simp only [Option.some.injEq] at h; subst h; exact ⟨_, _, _, _, _, _, _, _, drawSound mixed, p155, n155, l155⟩
  · simp only [Option.some.injEq] at h; subst h; exact ⟨_, _, _, _, _, _, _, _, drawSound mixed, p156, n156, l156⟩
  · simp only [Option.some.injEq] at h; subst h; exact ⟨_, _, _, _, _, _, _, _, drawSound mixed, p157, n157, l157⟩
  · simp only [Option.some.injEq] at h; subst h; exact ⟨_, _, _, _, _, _, _, _, drawSound mixed, p158, n158, l158⟩
  · simp only [Option.some.injEq] at h; subst h; exact ⟨_, _, _, _, _, _, _, _, drawSound mixed, p160, n160, l160⟩
  · cases h

end Go.Vi.Zz
end
