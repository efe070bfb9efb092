/-
  A claim's own text, joined by a small program out of: DdCode.
-/
import Derived.Test.YtodollbkpkpklaaDoorW0
set_option linter.unusedVariables false
set_option linter.unusedSimpArgs false
section
/-
  The functions that the laws reach, in the small code (printed by a program of mine).
-/
set_option maxRecDepth 100000
namespace Go.Vi.Dd
open Go Go.Vi

def F_main_main : Nat := 0
def F_gosem_cut : Nat := 1
def F_gosem_cut_init : Nat := 2
def F_law46_SpareTells : Nat := 3
def F_plain_Branch : Nat := 4
def F_plain_Node : Nat := 5
def F_law46_awake : Nat := 6
def F_spare_Put : Nat := 7
def F_ref46_Put : Nat := 8
def F_spare_Inode : Nat := 9
def F_ref46_Inode : Nat := 10
def F_ref12_SameNode : Nat := 11
def F_spare_Drop : Nat := 12
def F_ref46_Drop : Nat := 13
def F_slices_ContainsFunc_Node : Nat := 14
def F_plain_Branch_1 : Nat := 15
def F_slices_ContainsFunc_Entry : Nat := 16
def F_plain_odd : Nat := 17
def F_plain_Idle : Nat := 18
def F_spare_Sweep : Nat := 19
def F_ref13_At : Nat := 20
def F_slices_Index_bool : Nat := 21
def F_slices_IndexFunc_Entry : Nat := 22
def F_spare_Put_1 : Nat := 23
def F_slices_Insert_Entry : Nat := 24
def F_slices_Clone_Entry : Nat := 25
def F_ref46_slot : Nat := 26
def F_ref01_Same : Nat := 27
def F_ref08_Same : Nat := 28
def F_slices_DeleteFunc_Entry : Nat := 29
def F_spare_Drop_1 : Nat := 30
def F_slices_IndexFunc_Node : Nat := 31
def F_ref03_Right : Nat := 32
def F_plain_Base : Nat := 33
def F_plain_dir : Nat := 34
def F_slices_Clone_Node : Nat := 35
def F_spare_Sweep_1 : Nat := 36
def F_index_Bad : Nat := 37
def F_walk_Reach : Nat := 38
def F_slices_overlaps_Entry : Nat := 39
def F_slices_rotateRight_Entry : Nat := 40
def F_ref03_letter : Nat := 41
def F_index_open : Nat := 42
def F_index_upper_bad : Nat := 43
def F_walk_walk : Nat := 44
def F_walk_trail_reach : Nat := 45
def F_slices_rotateLeft_Entry : Nat := 46
def F_handle_Parse : Nat := 47
def F_handle_Find : Nat := 48
def F_index_upper_node : Nat := 49
def F_handle_Same : Nat := 50
def F_walk_trail_node : Nat := 51
def F_walk_trail_come : Nat := 52
def F_walk_trail_enter : Nat := 53
def F_walk_trail_names : Nat := 54
def F_slices_Reverse_Entry : Nat := 55
def F_handle_fields : Nat := 56
def F_strconv_ParseUint : Nat := 57
def F_handle_Name : Nat := 58
def F_walk_trail_names_1 : Nat := 59
def F_internal_strconv_ParseUint : Nat := 60
def F_strconv_toError : Nat := 61
def F_strconv_FormatInt : Nat := 62
def F_strings_Repeat : Nat := 63
def F_internal_strconv_lower : Nat := 64
def F_internal_strconv_underscoreOK : Nat := 65
def F_strconv_syntaxError : Nat := 66
def F_strconv_rangeError : Nat := 67
def F_strconv_baseError : Nat := 68
def F_strconv_bitSizeError : Nat := 69
def F_internal_strconv_FormatInt : Nat := 70
def F_math_bits_Mul : Nat := 71
def F_strings_HasPrefix : Nat := 72
def F_strings_Builder_Grow : Nat := 73
def F_strings_Builder_WriteString : Nat := 74
def F_strings_Builder_Len : Nat := 75
def F_strings_Builder_String : Nat := 76
def F_internal_stringslite_Clone : Nat := 77
def F_errors_New : Nat := 78
def F_strconv_Itoa : Nat := 79
def F_internal_strconv_small : Nat := 80
def F_internal_strconv_numDigits : Nat := 81
def F_internal_strconv_formatBase10 : Nat := 82
def F_internal_strconv_formatBits : Nat := 83
def F_math_bits_Mul32 : Nat := 84
def F_math_bits_Mul64 : Nat := 85
def F_internal_stringslite_HasPrefix : Nat := 86
def F_strings_Builder_copyCheck : Nat := 87
def F_strings_Builder_grow : Nat := 88
def F_internal_strconv_Itoa : Nat := 89
def F_internal_strconv_log10Pow2 : Nat := 90
def F_math_bits_Len64 : Nat := 91
def F_internal_strconv_bool2_int : Nat := 92
def F_internal_strconv_isPowerOfTwo : Nat := 93
def F_math_bits_TrailingZeros : Nat := 94
def F_internal_abi_NoEscape : Nat := 95
def F_internal_bytealg_MakeNoZero : Nat := 96
def F_math_bits_TrailingZeros32 : Nat := 97
def F_math_bits_TrailingZeros64 : Nat := 98
def F_runtime_boundsError_Error : Nat := 99
def F_runtime_boundsError_RuntimeError : Nat := 100
def F_runtime_errorString_Error : Nat := 101
def F_runtime_errorString_RuntimeError : Nat := 102
def F_runtime_plainError_Error : Nat := 103
def F_runtime_plainError_RuntimeError : Nat := 104
def F_runtime_errorAddressString_Error : Nat := 105
def F_runtime_errorAddressString_RuntimeError : Nat := 106
def F_runtime_TypeAssertionError_Error : Nat := 107
def F_runtime_TypeAssertionError_RuntimeError : Nat := 108
def F_runtime_PanicNilError_Error : Nat := 109
def F_runtime_PanicNilError_RuntimeError : Nat := 110
def F_internal_abi_Type_Align : Nat := 111
def F_internal_runtime_maps_unhashableTypeError_Error : Nat := 112
def F_internal_runtime_maps_unhashableTypeError_RuntimeError : Nat := 113
def F_internal_strconv_Error_Error : Nat := 114
def F_strconv_NumError_Error : Nat := 115
def F_strings_Builder_Reset : Nat := 116
def F_errors_errorString_Error : Nat := 117
def F_internal_abi_Kind_String : Nat := 118
def F_var_s_door_gosem_cut_vars_holds_initialisers_alone_see_the_manifest_s_row_cutvarsword_look_11_test_files_too : Nat := 119
def F_var_s_door_internal_strconv_uint64pow10_is_laid_by_its_own_initialiser_plain_data_look_11 : Nat := 120
def F_var_s_door_math_bits_deBruijn32tab_is_laid_by_its_own_initialiser_plain_data_look_11 : Nat := 121
def F_var_s_door_math_bits_deBruijn64tab_is_laid_by_its_own_initialiser_plain_data_look_11 : Nat := 122
def F_var_s_door_strconv_ErrRange_is_laid_by_its_own_call_of_errors_New_on_one_literal_look_11 : Nat := 123
def F_var_s_door_strconv_ErrSyntax_is_laid_by_its_own_call_of_errors_New_on_one_literal_look_11 : Nat := 124
def F_var_s_door_the_look_of_gosem_cut_vars_went_over_the_folder_that_the_caller_named_as_the_repository_s_root_look_11 : Nat := 125
def F_gosem_cut_vars : Nat := 126

@[simp] theorem Lt_law46_SpareTells : F_law46_SpareTells < ioBase := by decide
@[simp] theorem Lt_plain_Branch : F_plain_Branch < ioBase := by decide
@[simp] theorem Lt_plain_Node : F_plain_Node < ioBase := by decide
@[simp] theorem Lt_law46_awake : F_law46_awake < ioBase := by decide
@[simp] theorem Lt_spare_Put : F_spare_Put < ioBase := by decide
@[simp] theorem Lt_ref46_Put : F_ref46_Put < ioBase := by decide
@[simp] theorem Lt_spare_Inode : F_spare_Inode < ioBase := by decide
@[simp] theorem Lt_ref46_Inode : F_ref46_Inode < ioBase := by decide
@[simp] theorem Lt_ref12_SameNode : F_ref12_SameNode < ioBase := by decide
@[simp] theorem Lt_spare_Drop : F_spare_Drop < ioBase := by decide
@[simp] theorem Lt_ref46_Drop : F_ref46_Drop < ioBase := by decide
@[simp] theorem Lt_slices_ContainsFunc_Node : F_slices_ContainsFunc_Node < ioBase := by decide
@[simp] theorem Lt_plain_Branch_1 : F_plain_Branch_1 < ioBase := by decide
@[simp] theorem Lt_slices_ContainsFunc_Entry : F_slices_ContainsFunc_Entry < ioBase := by decide
@[simp] theorem Lt_plain_odd : F_plain_odd < ioBase := by decide
@[simp] theorem Lt_plain_Idle : F_plain_Idle < ioBase := by decide
@[simp] theorem Lt_spare_Sweep : F_spare_Sweep < ioBase := by decide
@[simp] theorem Lt_ref13_At : F_ref13_At < ioBase := by decide
@[simp] theorem Lt_slices_Index_bool : F_slices_Index_bool < ioBase := by decide
@[simp] theorem Lt_slices_IndexFunc_Entry : F_slices_IndexFunc_Entry < ioBase := by decide
@[simp] theorem Lt_spare_Put_1 : F_spare_Put_1 < ioBase := by decide
@[simp] theorem Lt_slices_Clone_Entry : F_slices_Clone_Entry < ioBase := by decide
@[simp] theorem Lt_ref46_slot : F_ref46_slot < ioBase := by decide
@[simp] theorem Lt_ref01_Same : F_ref01_Same < ioBase := by decide
@[simp] theorem Lt_ref08_Same : F_ref08_Same < ioBase := by decide
@[simp] theorem Lt_slices_DeleteFunc_Entry : F_slices_DeleteFunc_Entry < ioBase := by decide
@[simp] theorem Lt_spare_Drop_1 : F_spare_Drop_1 < ioBase := by decide
@[simp] theorem Lt_slices_IndexFunc_Node : F_slices_IndexFunc_Node < ioBase := by decide
@[simp] theorem Lt_ref03_Right : F_ref03_Right < ioBase := by decide
@[simp] theorem Lt_plain_Base : F_plain_Base < ioBase := by decide
@[simp] theorem Lt_plain_dir : F_plain_dir < ioBase := by decide
@[simp] theorem Lt_slices_Clone_Node : F_slices_Clone_Node < ioBase := by decide
@[simp] theorem Lt_spare_Sweep_1 : F_spare_Sweep_1 < ioBase := by decide
@[simp] theorem Lt_walk_Reach : F_walk_Reach < ioBase := by decide
@[simp] theorem Lt_ref03_letter : F_ref03_letter < ioBase := by decide
@[simp] theorem Lt_walk_walk : F_walk_walk < ioBase := by decide
@[simp] theorem Lt_walk_trail_reach : F_walk_trail_reach < ioBase := by decide
@[simp] theorem Lt_walk_trail_node : F_walk_trail_node < ioBase := by decide
@[simp] theorem Lt_walk_trail_come : F_walk_trail_come < ioBase := by decide
@[simp] theorem Lt_walk_trail_enter : F_walk_trail_enter < ioBase := by decide
@[simp] theorem Lt_walk_trail_names : F_walk_trail_names < ioBase := by decide
@[simp] theorem Lt_walk_trail_names_1 : F_walk_trail_names_1 < ioBase := by decide

def c_law46_SpareTells : IFn := ⟨4, 12, 4, [(.var 6)], [.raw], false, (.seq (.reg ⟨[(none, (.box 0 (.x 0))), (none, (.box 2 (.x 1))), (none, (.mv (.c (T.v (.bool false)))))],
  [none, none, none, none, (some 0), (some 1), (some 2), none, none, none, none, none], false⟩)
(.seq (.seq (.reg ⟨[(none, (.load true 1 (.x 4))), (none, (.call 14 F_plain_Branch [(.r 0), (.c (T.v (.int .i64 24)))])), (none, (.un .not (.r 1))), (none, (.mv (.r 2))), ((some (3, false)), (.load true 13 (.x 5))), ((some (3, false)), (.call 18 F_plain_Node [(.r 4)])), ((some (3, false)), (.un .not (.r 5))), (none, (.pick (.r 3) (.c (T.v (.bool true))) (.r 6))), (none, (.mv (.r 7))), ((some (8, false)), (.mv (.x 3))), ((some (8, false)), (.len true (.r 9))), ((some (8, false)), (.bin .gtr 3 (.r 10) (.c (T.v (.int .i64 40))))), (none, (.pick (.r 8) (.c (T.v (.bool true))) (.r 11)))],
  [none, none, none, none, none, none, none, none, none, none, none, (some 12)], false⟩)
(.cond (.x 11)
(.seq (.reg ⟨[(none, (.call 26 F_law46_awake [])), (none, (.mv (.r 0)))],
  [none, none, none, none, none, none, (some 1), none, none, none, none, none], false⟩)
.ret)
.skip))
(.seq (.reg ⟨[(none, (.load true 13 (.x 5))), (none, (.mv (.x 2))), (none, (.mv (.x 3))), (none, (.call 31 F_spare_Put [(.r 0), (.r 1), (.r 2)])), (none, (.mv (.r 3))), (none, (.extract (.r 4) 0)), (none, (.extract (.r 4) 1)), (none, (.alloc 4 [(T.v (.int .i64 0)), (T.v (.int .i64 0)), (T.v (.int .i64 0)), (T.v (.int .i64 0)), (T.sl .nil 0 []), (T.sl .nil 0 []), (T.v (.int .i64 0)), (T.v (.int .i64 0)), (T.v (.string ⟨#[]⟩)), (T.v (.int .i64 0)), (T.v (.int .i64 0)), (T.v (.int .i64 0)), (T.v (.int .i64 0))])), (none, (.store 13 (.r 7) (.r 5))), (none, (.mv (.r 6)))],
  [none, none, none, none, none, none, none, (some 7), (some 9), none, none, none], false⟩)
(.seq (.reg ⟨[(none, (.load true 13 (.x 5))), (none, (.mv (.x 2))), (none, (.mv (.x 3))), (none, (.call 38 F_ref46_Put [(.r 0), (.r 1), (.r 2)])), (none, (.mv (.r 3))), (none, (.extract (.r 4) 0)), (none, (.extract (.r 4) 1)), (none, (.alloc 6 [(T.v (.int .i64 0)), (T.v (.int .i64 0)), (T.v (.int .i64 0)), (T.v (.int .i64 0)), (T.sl .nil 0 []), (T.sl .nil 0 []), (T.v (.int .i64 0)), (T.v (.int .i64 0)), (T.v (.string ⟨#[]⟩)), (T.v (.int .i64 0)), (T.v (.int .i64 0)), (T.v (.int .i64 0)), (T.v (.int .i64 0))])), (none, (.store 13 (.r 7) (.r 5))), (none, (.mv (.r 6)))],
  [none, none, none, none, none, none, none, none, none, (some 7), (some 9), none], false⟩)
(.seq (.reg ⟨[(none, (.load true 1 (.x 4))), (none, (.call 42 F_spare_Inode [(.r 0)])), (none, (.load true 1 (.x 4))), (none, (.call 44 F_ref46_Inode [(.r 2)])), (none, (.bin .eql 3 (.r 1) (.r 3))), (none, (.mv (.r 4))), ((some (5, true)), (.load true 13 (.x 7))), ((some (5, true)), (.load true 13 (.x 9))), ((some (5, true)), (.call 49 F_ref12_SameNode [(.r 6), (.r 7)])), (none, (.pick (.r 5) (.r 8) (.c (T.v (.bool false))))), (none, (.mv (.r 9))), ((some (10, true)), (.mv (.x 8))), ((some (10, true)), (.mv (.x 10))), ((some (10, true)), (.eqb false (.r 11) (.r 12))), (none, (.pick (.r 10) (.r 13) (.c (T.v (.bool false))))), (none, (.mv (.r 14))), ((some (15, true)), (.load true 13 (.x 5))), ((some (15, true)), (.mv (.x 3))), ((some (15, true)), (.call 59 F_spare_Drop [(.r 16), (.r 17)])), ((some (15, true)), (.load true 13 (.x 5))), ((some (15, true)), (.mv (.x 3))), ((some (15, true)), (.call 62 F_ref46_Drop [(.r 19), (.r 20)])), ((some (15, true)), (.call 63 F_ref12_SameNode [(.r 18), (.r 21)])), (none, (.pick (.r 15) (.r 22) (.c (T.v (.bool false))))), (none, (.mv (.r 23))), ((some (24, true)), (.call 66 F_law46_awake [])), (none, (.pick (.r 24) (.r 25) (.c (T.v (.bool false))))), (none, (.mv (.r 26)))],
  [none, none, none, none, none, none, (some 27), none, none, none, none, none], true⟩)
.ret)))))⟩

def c_plain_Branch : IFn := ⟨2, 4, 1, [(.var 3)], [.raw], false, (.seq (.reg ⟨[(none, (.box 0 (.x 0))), (none, (.mv (.c (T.v (.bool false)))))],
  [none, none, (some 0), (some 1)], false⟩)
(.seq (.reg ⟨[(none, (.faddr 0 (.x 2))), (none, (.load false 1 (.r 0))), (none, (.len false (.r 1))), (none, (.mv (.x 1))), (none, (.bin .leq 3 (.r 2) (.r 3))), (none, (.mv (.r 4))), ((some (5, true)), (.faddr 0 (.x 2))), ((some (5, true)), (.load false 1 (.r 6))), ((some (5, true)), (.call 13 F_slices_ContainsFunc_Node [(.r 7), (.c (T.v (.func (.func F_plain_Branch_1) #[] #[])))])), ((some (5, true)), (.un .not (.r 8))), (none, (.pick (.r 5) (.r 9) (.c (T.v (.bool false))))), (none, (.mv (.r 10)))],
  [none, none, none, (some 11)], false⟩)
.ret))⟩

def c_plain_Node : IFn := ⟨1, 10, 2, [(.var 2)], [.raw], false, (.seq (.reg ⟨[(none, (.box 0 (.x 0))), (none, (.mv (.c (T.v (.bool false)))))],
  [none, (some 0), (some 1), none, none, none, none, none, none, none], false⟩)
(.seq (.seq (.reg ⟨[(none, (.faddr 5 (.x 1))), (none, (.load false 1 (.r 0))), (none, (.len false (.r 1))), (none, (.mv (.c (T.v (.int .i64 0)))))],
  [none, none, none, none, none, (some 1), (some 2), (some 3), none, none], false⟩)
(.block 0
(.loop (.seq (.kill [0, 2, 3, 4, 8, 9])
(.seq (.free [2, 3])
(.seq (.reg ⟨[(none, (.bin .lss 3 (.x 7) (.x 6)))],
  [none, none, none, none, none, none, none, none, (some 0), none], false⟩)
(.seq (.cond (.x 8)
.skip
(.exit 0))
(.seq (.block 1
(.seq (.reg ⟨[(none, (.mv (.x 7))), (none, (.iaddrS 3 (.x 5) (.x 7))), (none, (.load true 3 (.r 1))), (none, (.alloc 2 [(T.v (.int .i64 0)), (T.v (.int .i64 0)), (T.v (.string ⟨#[]⟩))])), (none, (.mv (.r 0))), (none, (.store 3 (.r 3) (.r 2)))],
  [none, none, none, (some 4), (some 3), none, none, none, none, none], false⟩)
(.seq (.reg ⟨[(none, (.faddr 0 (.x 4))), (none, (.load false 1 (.r 0))), (none, (.bin .lss 3 (.r 1) (.c (T.v (.int .i64 0))))), (none, (.mv (.r 2))), ((some (3, false)), (.faddr 0 (.x 4))), ((some (3, false)), (.load false 1 (.r 4))), ((some (3, false)), (.bin .geq 3 (.r 5) (.c (T.v (.int .i64 16))))), (none, (.pick (.r 3) (.c (T.v (.bool true))) (.r 6))), (none, (.mv (.r 7))), ((some (8, false)), (.mv (.x 3))), ((some (8, false)), (.bin .gtr 3 (.r 9) (.c (T.v (.int .i64 0))))), ((some (8, false)), (.mv (.r 10))), ((some (11, true)), (.faddr 5 (.x 1))), ((some (11, true)), (.load false 1 (.r 12))), ((some (11, true)), (.mv (.x 3))), ((some (11, true)), (.bin .sub 3 (.r 14) (.c (T.v (.int .i64 1))))), ((some (11, true)), (.iaddrS 3 (.r 13) (.r 15))), ((some (11, true)), (.faddr 0 (.r 16))), ((some (11, true)), (.load false 1 (.r 17))), ((some (11, true)), (.faddr 0 (.x 4))), ((some (11, true)), (.load false 1 (.r 19))), ((some (11, true)), (.bin .geq 3 (.r 18) (.r 20))), ((some (8, false)), (.pick (.r 11) (.r 21) (.c (T.v (.bool false))))), (none, (.pick (.r 8) (.c (T.v (.bool true))) (.r 22)))],
  [none, none, none, none, none, none, none, none, none, (some 23)], true⟩)
(.cond (.x 9)
(.seq (.reg ⟨[(none, (.mv (.c (T.v (.bool false)))))],
  [none, none, (some 0), none, none, none, none, none, none, none], false⟩)
.ret)
.skip))))
(.reg ⟨[(none, (.bin .add 3 (.x 7) (.c (T.v (.int .i64 1))))), (none, (.mv (.r 0)))],
  [none, none, none, none, none, none, none, (some 1), none, none], false⟩)))))))))
(.seq (.reg ⟨[(none, (.faddr 0 (.x 1))), (none, (.load false 1 (.r 0))), (none, (.bin .geq 3 (.r 1) (.c (T.v (.int .i64 0))))), (none, (.mv (.r 2))), ((some (3, true)), (.faddr 0 (.x 1))), ((some (3, true)), (.load false 1 (.r 4))), ((some (3, true)), (.bin .leq 3 (.r 5) (.c (T.v (.int .i64 4))))), (none, (.pick (.r 3) (.r 6) (.c (T.v (.bool false))))), (none, (.mv (.r 7))), ((some (8, true)), (.faddr 2 (.x 1))), ((some (8, true)), (.load false 1 (.r 9))), ((some (8, true)), (.bin .geq 3 (.r 10) (.c (T.v (.int .i64 (-9007199254740992)))))), (none, (.pick (.r 8) (.r 11) (.c (T.v (.bool false))))), (none, (.mv (.r 12))), ((some (13, true)), (.faddr 2 (.x 1))), ((some (13, true)), (.load false 1 (.r 14))), ((some (13, true)), (.bin .leq 3 (.r 15) (.c (T.v (.int .i64 9007199254740992))))), (none, (.pick (.r 13) (.r 16) (.c (T.v (.bool false))))), (none, (.mv (.r 17))), ((some (18, true)), (.faddr 6 (.x 1))), ((some (18, true)), (.faddr 0 (.r 19))), ((some (18, true)), (.load false 1 (.r 20))), ((some (18, true)), (.bin .geq 3 (.r 21) (.c (T.v (.int .i64 0))))), (none, (.pick (.r 18) (.r 22) (.c (T.v (.bool false))))), (none, (.mv (.r 23))), ((some (24, true)), (.faddr 6 (.x 1))), ((some (24, true)), (.faddr 0 (.r 25))), ((some (24, true)), (.load false 1 (.r 26))), ((some (24, true)), (.bin .leq 3 (.r 27) (.c (T.v (.int .i64 31))))), (none, (.pick (.r 24) (.r 28) (.c (T.v (.bool false))))), (none, (.mv (.r 29))), ((some (30, true)), (.faddr 4 (.x 1))), ((some (30, true)), (.load false 1 (.r 31))), ((some (30, true)), (.len false (.r 32))), ((some (30, true)), (.bin .leq 3 (.r 33) (.c (T.v (.int .i64 300))))), (none, (.pick (.r 30) (.r 34) (.c (T.v (.bool false))))), (none, (.mv (.r 35))), ((some (36, true)), (.faddr 5 (.x 1))), ((some (36, true)), (.load false 1 (.r 37))), ((some (36, true)), (.len false (.r 38))), ((some (36, true)), (.bin .leq 3 (.r 39) (.c (T.v (.int .i64 16))))), (none, (.pick (.r 36) (.r 40) (.c (T.v (.bool false))))), (none, (.mv (.r 41))), ((some (42, true)), (.faddr 6 (.x 1))), ((some (42, true)), (.faddr 2 (.r 43))), ((some (42, true)), (.load false 1 (.r 44))), ((some (42, true)), (.len true (.r 45))), ((some (42, true)), (.bin .leq 3 (.r 46) (.c (T.v (.int .i64 40))))), (none, (.pick (.r 42) (.r 47) (.c (T.v (.bool false))))), (none, (.mv (.r 48))), ((some (49, true)), (.faddr 5 (.x 1))), ((some (49, true)), (.load false 1 (.r 50))), ((some (49, true)), (.call 90 F_slices_ContainsFunc_Entry [(.r 51), (.c (T.v (.func (.func F_plain_odd) #[] #[])))])), ((some (49, true)), (.un .not (.r 52))), (none, (.pick (.r 49) (.r 53) (.c (T.v (.bool false))))), (none, (.mv (.r 54)))],
  [none, none, (some 55), none, none, none, none, none, none, none], false⟩)
.ret)))⟩

def c_law46_awake : IFn := ⟨0, 5, 7, [(.var 0)], [.raw], false, (.seq (.reg ⟨[(none, (.mv (.c (T.v (.bool false)))))],
  [(some 0), none, none, none, none], false⟩)
(.seq (.reg ⟨[(none, (.callnew 5 [6] F_plain_Idle [])), (none, (.alloc 0 [(T.v (.int .i64 0)), (T.v (.int .i64 0)), (T.v (.int .i64 0)), (T.v (.int .i64 0)), (T.sl .nil 0 []), (T.sl .nil 0 [])])), (none, (.store 6 (.r 1) (.r 0)))],
  [none, (some 1), none, none, none], false⟩)
(.seq (.reg ⟨[(none, (.faddr 4 (.x 1))), (none, (.faddr 0 (.r 0))), (none, (.load false 1 (.r 1))), (none, (.iaddrS 13 (.r 2) (.c (T.v (.int .i64 0))))), (none, (.load true 13 (.r 3))), (none, (.call 12 F_spare_Put [(.r 4), (.c (T.v (.int .i64 5))), (.c (T.v (.string ⟨#[110]⟩)))])), (none, (.mv (.r 5))), (none, (.extract (.r 6) 0)), (none, (.extract (.r 6) 1)), (none, (.alloc 2 [(T.v (.int .i64 0)), (T.v (.int .i64 0)), (T.v (.int .i64 0)), (T.v (.int .i64 0)), (T.sl .nil 0 []), (T.sl .nil 0 []), (T.v (.int .i64 0)), (T.v (.int .i64 0)), (T.v (.string ⟨#[]⟩)), (T.v (.int .i64 0)), (T.v (.int .i64 0)), (T.v (.int .i64 0)), (T.v (.int .i64 0))])), (none, (.store 13 (.r 9) (.r 7))), (none, (.mv (.r 8)))],
  [none, none, (some 9), (some 11), none], false⟩)
(.seq (.reg ⟨[(none, (.faddr 4 (.x 1))), (none, (.faddr 0 (.r 0))), (none, (.load false 1 (.r 1))), (none, (.build [(T.v (.int .i64 0)), (T.v (.int .i64 0)), (T.v (.int .i64 0)), (T.v (.int .i64 0)), (T.sl .nil 0 []), (T.sl .nil 0 []), (T.v (.int .i64 0)), (T.v (.int .i64 0)), (T.v (.string ⟨#[]⟩)), (T.v (.int .i64 0)), (T.v (.int .i64 0)), (T.v (.int .i64 0)), (T.v (.int .i64 0))] [(0, (1, (.c (T.v (.int .i64 2)))))])), (none, (.iaddrS 13 (.r 2) (.c (T.v (.int .i64 4))))), (none, (.store 13 (.r 4) (.r 3)))],
  [none, none, none, none, none], false⟩)
(.seq (.reg ⟨[(none, (.load true 6 (.x 1))), (none, (.callio 21 [8, 12] F_spare_Sweep [(.r 0)])), (none, (.alloc 4 [(T.v (.int .i64 0)), (T.v (.int .i64 0)), (T.v (.int .i64 0)), (T.v (.int .i64 0)), (T.sl .nil 0 []), (T.sl .nil 0 [])])), (none, (.store 6 (.r 2) (.r 1)))],
  [none, none, none, none, (some 2)], false⟩)
(.seq (.reg ⟨[(none, (.callnew 22 [10] F_plain_Idle [])), (none, (.field true 4 1 (.r 0))), (none, (.call 24 F_spare_Inode [(.r 1)])), (none, (.bin .eql 3 (.r 2) (.c (T.v (.int .i64 5))))), (none, (.mv (.r 3))), ((some (4, true)), (.faddr 4 (.x 1))), ((some (4, true)), (.load true 1 (.r 5))), ((some (4, true)), (.call 29 F_spare_Inode [(.r 6)])), ((some (4, true)), (.bin .eql 3 (.r 7) (.c (T.v (.int .i64 0))))), (none, (.pick (.r 4) (.r 8) (.c (T.v (.bool false))))), (none, (.mv (.r 9))), ((some (10, true)), (.mv (.x 3))), (none, (.pick (.r 10) (.r 11) (.c (T.v (.bool false))))), (none, (.mv (.r 12))), ((some (13, true)), (.faddr 5 (.x 2))), ((some (13, true)), (.load false 1 (.r 14))), ((some (13, true)), (.len false (.r 15))), ((some (13, true)), (.bin .eql 3 (.r 16) (.c (T.v (.int .i64 2))))), (none, (.pick (.r 13) (.r 17) (.c (T.v (.bool false))))), (none, (.mv (.r 18))), ((some (19, true)), (.faddr 5 (.x 2))), ((some (19, true)), (.load false 1 (.r 20))), ((some (19, true)), (.iaddrS 3 (.r 21) (.c (T.v (.int .i64 0))))), ((some (19, true)), (.load true 3 (.r 22))), ((some (19, true)), (.build [(T.v (.int .i64 0)), (T.v (.int .i64 0)), (T.v (.string ⟨#[]⟩))] [(0, (1, (.c (T.v (.int .i64 0))))), (1, (1, (.c (T.v (.int .i64 5))))), (2, (1, (.c (T.v (.string ⟨#[110]⟩)))))])), ((some (19, true)), (.eqa false [.int, .int, .str] (.r 23) (.r 24))), (none, (.pick (.r 19) (.r 25) (.c (T.v (.bool false))))), (none, (.mv (.r 26))), ((some (27, true)), (.load true 13 (.x 2))), ((some (27, true)), (.call 51 F_spare_Drop [(.r 28), (.c (T.v (.string ⟨#[122]⟩)))])), ((some (27, true)), (.field false 5 1 (.r 29))), ((some (27, true)), (.len false (.r 30))), ((some (27, true)), (.bin .eql 3 (.r 31) (.c (T.v (.int .i64 1))))), (none, (.pick (.r 27) (.r 32) (.c (T.v (.bool false))))), (none, (.mv (.r 33))), ((some (34, true)), (.faddr 4 (.x 4))), ((some (34, true)), (.load true 1 (.r 35))), ((some (34, true)), (.callio 59 [] F_ref13_At [(.r 36), (.c (T.v (.int .i64 5)))])), ((some (34, true)), (.field false 0 1 (.r 37))), ((some (34, true)), (.bin .eql 3 (.r 38) (.c (T.v (.int .i64 0))))), (none, (.pick (.r 34) (.r 39) (.c (T.v (.bool false))))), (none, (.mv (.r 40))), ((some (41, true)), (.faddr 4 (.x 4))), ((some (41, true)), (.load true 1 (.r 42))), ((some (41, true)), (.callio 66 [] F_ref13_At [(.r 43), (.c (T.v (.int .i64 4)))])), ((some (41, true)), (.field false 0 1 (.r 44))), ((some (41, true)), (.bin .eql 3 (.r 45) (.c (T.v (.int .i64 4))))), (none, (.pick (.r 41) (.r 46) (.c (T.v (.bool false))))), (none, (.mv (.r 47)))],
  [(some 48), none, none, none, none], false⟩)
.ret))))))⟩

def c_spare_Put : IFn := ⟨3, 17, 7, [(.cell 4 true 13), (.var 5)], [.raw, .raw], false, (.seq (.reg ⟨[(none, (.box 0 (.x 0))), (none, (.alloc 2 [(T.v (.int .i64 0)), (T.v (.int .i64 0)), (T.v (.int .i64 0)), (T.v (.int .i64 0)), (T.sl .nil 0 []), (T.sl .nil 0 []), (T.v (.int .i64 0)), (T.v (.int .i64 0)), (T.v (.string ⟨#[]⟩)), (T.v (.int .i64 0)), (T.v (.int .i64 0)), (T.v (.int .i64 0)), (T.v (.int .i64 0))])), (none, (.mv (.c (T.v (.bool false)))))],
  [none, none, none, (some 0), (some 1), (some 2), none, none, none, none, none, none, none, none, none, none, none], false⟩)
(.seq (.reg ⟨[(none, (.alloc 4 (List.replicate 16 (T.v (.bool false)))))],
  [none, none, none, none, none, none, (some 0), none, none, none, none, none, none, none, none, none, none], false⟩)
(.seq (.seq (.reg ⟨[(none, (.faddr 5 (.x 3))), (none, (.load false 1 (.r 0))), (none, (.len false (.r 1))), (none, (.mv (.c (T.v (.int .i64 0)))))],
  [none, none, none, none, none, none, none, none, none, none, (some 1), (some 2), (some 3), none, none, none, none], false⟩)
(.block 0
(.loop (.seq (.kill [0, 5, 7, 8, 9, 13, 14, 15, 16])
(.seq (.free [6, 7])
(.seq (.reg ⟨[(none, (.bin .lss 3 (.x 12) (.x 11)))],
  [none, none, none, none, none, none, none, none, none, none, none, none, none, (some 0), none, none, none], false⟩)
(.seq (.cond (.x 13)
.skip
(.exit 0))
(.seq (.block 1
(.seq (.reg ⟨[(none, (.iaddrS 3 (.x 10) (.x 12))), (none, (.load true 3 (.r 0))), (none, (.alloc 6 [(T.v (.int .i64 0)), (T.v (.int .i64 0)), (T.v (.string ⟨#[]⟩))])), (none, (.store 3 (.r 2) (.r 1)))],
  [none, none, none, none, none, none, none, (some 2), none, none, none, none, none, none, none, none, none], false⟩)
(.seq (.reg ⟨[(none, (.faddr 0 (.x 7))), (none, (.load false 1 (.r 0))), (none, (.bin .geq 3 (.r 1) (.c (T.v (.int .i64 0))))), (none, (.mv (.r 2))), ((some (3, true)), (.faddr 0 (.x 7))), ((some (3, true)), (.load false 1 (.r 4))), ((some (3, true)), (.bin .lss 3 (.r 5) (.c (T.v (.int .i64 16))))), (none, (.pick (.r 3) (.r 6) (.c (T.v (.bool false)))))],
  [none, none, none, none, none, none, none, none, none, none, none, none, none, none, (some 7), none, none], false⟩)
(.cond (.x 14)
(.reg ⟨[(none, (.faddr 0 (.x 7))), (none, (.load false 1 (.r 0))), (none, (.iaddrA 16 1 (.x 6) (.r 1))), (none, (.store 1 (.r 2) (.c (T.v (.bool true)))))],
  [none, none, none, none, none, none, none, none, none, none, none, none, none, none, none, none, none], false⟩)
.skip))))
(.reg ⟨[(none, (.bin .add 3 (.x 12) (.c (T.v (.int .i64 1))))), (none, (.mv (.r 0)))],
  [none, none, none, none, none, none, none, none, none, none, none, none, (some 1), none, none, none, none], false⟩)))))))))
(.seq (.reg ⟨[(none, (.sliceA 16 1 (.x 6) none none)), (none, (.call 33 F_slices_Index_bool [(.r 0), (.c (T.v (.bool false)))])), (none, (.alloc 8 [(T.v (.int .i64 0))])), (none, (.store 1 (.r 2) (.r 1)))],
  [none, none, none, none, none, none, none, none, (some 2), none, none, none, none, none, none, none, none], false⟩)
(.seq (.seq (.reg ⟨[(none, (.load false 1 (.x 8))), (none, (.bin .lss 3 (.r 0) (.c (T.v (.int .i64 0)))))],
  [none, none, none, none, none, none, none, none, none, none, none, none, none, none, none, (some 1), none], false⟩)
(.cond (.x 15)
(.seq (.reg ⟨[(none, (.load true 13 (.x 3))), (none, (.store 13 (.x 4) (.r 0))), (none, (.mv (.c (T.v (.bool false)))))],
  [none, none, none, none, none, (some 2), none, none, none, none, none, none, none, none, none, none, none], false⟩)
.ret)
.skip))
(.seq (.reg ⟨[(none, (.faddr 5 (.x 3))), (none, (.load false 1 (.r 0))), (none, (.mkFunc (.func F_spare_Put_1) [] [(.x 8)])), (none, (.call 40 F_slices_IndexFunc_Entry [(.r 1), (.r 2)])), (none, (.mv (.r 3)))],
  [none, none, none, none, none, none, none, none, none, (some 4), none, none, none, none, none, none, none], false⟩)
(.seq (.seq (.reg ⟨[(none, (.mv (.x 9))), (none, (.bin .lss 3 (.r 0) (.c (T.v (.int .i64 0)))))],
  [none, none, none, none, none, none, none, none, none, none, none, none, none, none, none, none, (some 1)], false⟩)
(.cond (.x 16)
(.reg ⟨[(none, (.faddr 5 (.x 3))), (none, (.load false 1 (.r 0))), (none, (.len false (.r 1))), (none, (.mv (.r 2)))],
  [none, none, none, none, none, none, none, none, none, (some 3), none, none, none, none, none, none, none], false⟩)
.skip))
(.seq (.reg ⟨[(none, (.faddr 5 (.x 3))), (none, (.load false 1 (.r 0))), (none, (.callnew 48 [10] F_slices_Clone_Entry [(.r 1)])), (none, (.mv (.x 9))), (none, (.load false 1 (.x 8))), (none, (.mv (.x 1))), (none, (.mv (.x 2))), (none, (.build [(T.v (.int .i64 0)), (T.v (.int .i64 0)), (T.v (.string ⟨#[]⟩))] [(0, (1, (.r 4))), (1, (1, (.r 5))), (2, (1, (.r 6)))])), (none, (.bslice 54 44 3 1 [(T.v (.int .i64 0)), (T.v (.int .i64 0)), (T.v (.string ⟨#[]⟩))] [(0, (3, (.r 7)))])), (none, (.callio 55 [12] F_slices_Insert_Entry [(.r 2), (.r 3), (.r 8)])), (none, (.faddr 5 (.x 3))), (none, (.store 1 (.r 10) (.r 9)))],
  [none, none, none, none, none, none, none, none, none, none, none, none, none, none, none, none, none], true⟩)
(.seq (.reg ⟨[(none, (.load true 13 (.x 3))), (none, (.store 13 (.x 4) (.r 0))), (none, (.mv (.c (T.v (.bool true)))))],
  [none, none, none, none, none, (some 2), none, none, none, none, none, none, none, none, none, none, none], false⟩)
.ret)))))))))⟩

def c_ref46_Put : IFn := ⟨3, 15, 3, [(.cell 4 true 13), (.var 5)], [.raw, .raw], false, (.seq (.reg ⟨[(none, (.box 0 (.x 0))), (none, (.alloc 2 [(T.v (.int .i64 0)), (T.v (.int .i64 0)), (T.v (.int .i64 0)), (T.v (.int .i64 0)), (T.sl .nil 0 []), (T.sl .nil 0 []), (T.v (.int .i64 0)), (T.v (.int .i64 0)), (T.v (.string ⟨#[]⟩)), (T.v (.int .i64 0)), (T.v (.int .i64 0)), (T.v (.int .i64 0)), (T.v (.int .i64 0))])), (none, (.mv (.c (T.v (.bool false)))))],
  [none, none, none, (some 0), (some 1), (some 2), none, none, none, none, none, none, none, none, none], false⟩)
(.seq (.reg ⟨[(none, (.load true 13 (.x 3))), (none, (.call 14 F_ref46_slot [(.r 0)])), (none, (.mv (.r 1)))],
  [none, none, none, none, none, none, (some 2), none, none, none, none, none, none, none, none], false⟩)
(.seq (.seq (.reg ⟨[(none, (.mv (.x 6))), (none, (.bin .lss 3 (.r 0) (.c (T.v (.int .i64 0)))))],
  [none, none, none, none, none, none, none, none, none, none, none, (some 1), none, none, none], false⟩)
(.cond (.x 11)
(.seq (.reg ⟨[(none, (.load true 13 (.x 3))), (none, (.store 13 (.x 4) (.r 0))), (none, (.mv (.c (T.v (.bool false)))))],
  [none, none, none, none, none, (some 2), none, none, none, none, none, none, none, none, none], false⟩)
.ret)
.skip))
(.seq (.reg ⟨[(none, (.mv (.x 6))), (none, (.mv (.x 1))), (none, (.mv (.x 2))), (none, (.build [(T.v (.int .i64 0)), (T.v (.int .i64 0)), (T.v (.string ⟨#[]⟩))] [(0, (1, (.r 0))), (1, (1, (.r 1))), (2, (1, (.r 2)))])), (none, (.alloc 4 [(T.v (.int .i64 0)), (T.v (.int .i64 0)), (T.v (.string ⟨#[]⟩))])), (none, (.store 3 (.r 4) (.r 3)))],
  [none, none, none, none, none, none, none, (some 4), none, none, none, none, none, none, none], false⟩)
(.seq (.reg ⟨[(none, (.mv (.c (T.sl .nil 0 []))))],
  [none, none, none, none, none, none, none, none, (some 0), none, none, none, none, none, none], false⟩)
(.seq (.reg ⟨[(none, (.mv (.c (T.v (.bool false)))))],
  [none, none, none, none, none, none, none, none, none, (some 0), none, none, none, none, none], false⟩)
(.seq (.seq (.reg ⟨[(none, (.mv (.c (T.v (.int .i64 0)))))],
  [none, none, none, none, none, none, none, none, none, none, (some 0), none, none, none, none], false⟩)
(.block 0
(.loop (.seq (.kill [0, 1, 2, 5, 11, 12, 13, 14])
(.seq (.free [])
(.seq (.seq (.reg ⟨[(none, (.mv (.x 10))), (none, (.faddr 5 (.x 3))), (none, (.load false 1 (.r 1))), (none, (.len false (.r 2))), (none, (.bin .lss 3 (.r 0) (.r 3)))],
  [none, none, none, none, none, none, none, none, none, none, none, none, (some 4), none, none], false⟩)
(.cond (.x 12)
.skip
(.exit 0)))
(.seq (.block 1
(.seq (.seq (.reg ⟨[(none, (.mv (.x 9))), (none, (.un .not (.r 0))), (none, (.mv (.r 1))), ((some (2, true)), (.faddr 5 (.x 3))), ((some (2, true)), (.load false 1 (.r 3))), ((some (2, true)), (.mv (.x 10))), ((some (2, true)), (.iaddrS 3 (.r 4) (.r 5))), ((some (2, true)), (.faddr 0 (.r 6))), ((some (2, true)), (.load false 1 (.r 7))), ((some (2, true)), (.mv (.x 6))), ((some (2, true)), (.bin .gtr 3 (.r 8) (.r 9))), (none, (.pick (.r 2) (.r 10) (.c (T.v (.bool false)))))],
  [none, none, none, none, none, none, none, none, none, none, none, none, none, (some 11), none], false⟩)
(.cond (.x 13)
(.seq (.reg ⟨[(none, (.mv (.x 8))), (none, (.load true 3 (.x 7))), (none, (.bslice 43 44 3 1 [(T.v (.int .i64 0)), (T.v (.int .i64 0)), (T.v (.string ⟨#[]⟩))] [(0, (3, (.r 1)))])), (none, (.append 44 44 3 32 [(T.v (.int .i64 0)), (T.v (.int .i64 0)), (T.v (.string ⟨#[]⟩))] 0 (.r 0) (.r 2))), (none, (.mv (.r 3)))],
  [none, none, none, none, none, none, none, none, (some 4), none, none, none, none, none, none], false⟩)
(.reg ⟨[(none, (.mv (.c (T.v (.bool true)))))],
  [none, none, none, none, none, none, none, none, none, (some 0), none, none, none, none, none], false⟩))
.skip))
(.reg ⟨[(none, (.mv (.x 8))), (none, (.faddr 5 (.x 3))), (none, (.load false 1 (.r 1))), (none, (.mv (.x 10))), (none, (.iaddrS 3 (.r 2) (.r 3))), (none, (.load true 3 (.r 4))), (none, (.bslice 51 44 3 1 [(T.v (.int .i64 0)), (T.v (.int .i64 0)), (T.v (.string ⟨#[]⟩))] [(0, (3, (.r 5)))])), (none, (.append 52 44 3 32 [(T.v (.int .i64 0)), (T.v (.int .i64 0)), (T.v (.string ⟨#[]⟩))] 0 (.r 0) (.r 6))), (none, (.mv (.r 7)))],
  [none, none, none, none, none, none, none, none, (some 8), none, none, none, none, none, none], false⟩)))
(.reg ⟨[(none, (.mv (.x 10))), (none, (.bin .add 3 (.r 0) (.c (T.v (.int .i64 1))))), (none, (.mv (.r 1)))],
  [none, none, none, none, none, none, none, none, none, none, (some 2), none, none, none, none], false⟩))))))))
(.seq (.seq (.reg ⟨[(none, (.mv (.x 9))), (none, (.un .not (.r 0)))],
  [none, none, none, none, none, none, none, none, none, none, none, none, none, none, (some 1)], false⟩)
(.cond (.x 14)
(.reg ⟨[(none, (.mv (.x 8))), (none, (.load true 3 (.x 7))), (none, (.bslice 57 44 3 1 [(T.v (.int .i64 0)), (T.v (.int .i64 0)), (T.v (.string ⟨#[]⟩))] [(0, (3, (.r 1)))])), (none, (.append 58 44 3 32 [(T.v (.int .i64 0)), (T.v (.int .i64 0)), (T.v (.string ⟨#[]⟩))] 0 (.r 0) (.r 2))), (none, (.mv (.r 3)))],
  [none, none, none, none, none, none, none, none, (some 4), none, none, none, none, none, none], false⟩)
.skip))
(.seq (.reg ⟨[(none, (.mv (.x 8))), (none, (.faddr 5 (.x 3))), (none, (.store 1 (.r 1) (.r 0)))],
  [none, none, none, none, none, none, none, none, none, none, none, none, none, none, none], false⟩)
(.seq (.reg ⟨[(none, (.load true 13 (.x 3))), (none, (.store 13 (.x 4) (.r 0))), (none, (.mv (.c (T.v (.bool true)))))],
  [none, none, none, none, none, (some 2), none, none, none, none, none, none, none, none, none], false⟩)
.ret))))))))))⟩

def c_spare_Inode : IFn := ⟨1, 10, 2, [(.var 2)], [.raw], false, (.seq (.reg ⟨[(none, (.box 0 (.x 0))), (none, (.mv (.c (T.v (.int .i64 0)))))],
  [none, (some 0), (some 1), none, none, none, none, none, none, none], false⟩)
(.seq (.seq (.reg ⟨[(none, (.faddr 0 (.x 1))), (none, (.load false 1 (.r 0))), (none, (.len false (.r 1))), (none, (.mv (.c (T.v (.int .i64 0)))))],
  [none, none, none, none, none, (some 1), (some 2), (some 3), none, none], false⟩)
(.block 0
(.loop (.seq (.kill [0, 1, 2, 3, 4, 8, 9])
(.seq (.free [2, 3])
(.seq (.reg ⟨[(none, (.bin .lss 3 (.x 7) (.x 6)))],
  [none, none, none, none, none, none, none, none, (some 0), none], false⟩)
(.seq (.cond (.x 8)
.skip
(.exit 0))
(.seq (.block 1
(.seq (.reg ⟨[(none, (.mv (.x 7))), (none, (.iaddrS 13 (.x 5) (.x 7))), (none, (.load true 13 (.r 1))), (none, (.alloc 2 [(T.v (.int .i64 0)), (T.v (.int .i64 0)), (T.v (.int .i64 0)), (T.v (.int .i64 0)), (T.sl .nil 0 []), (T.sl .nil 0 []), (T.v (.int .i64 0)), (T.v (.int .i64 0)), (T.v (.string ⟨#[]⟩)), (T.v (.int .i64 0)), (T.v (.int .i64 0)), (T.v (.int .i64 0)), (T.v (.int .i64 0))])), (none, (.mv (.r 0))), (none, (.store 13 (.r 3) (.r 2)))],
  [none, none, none, (some 4), (some 3), none, none, none, none, none], false⟩)
(.seq (.reg ⟨[(none, (.mv (.x 3))), (none, (.bin .geq 3 (.r 0) (.c (T.v (.int .i64 3))))), (none, (.mv (.r 1))), ((some (2, true)), (.faddr 0 (.x 4))), ((some (2, true)), (.load false 1 (.r 3))), ((some (2, true)), (.bin .eql 3 (.r 4) (.c (T.v (.int .i64 0))))), (none, (.pick (.r 2) (.r 5) (.c (T.v (.bool false)))))],
  [none, none, none, none, none, none, none, none, none, (some 6)], false⟩)
(.cond (.x 9)
(.seq (.reg ⟨[(none, (.mv (.x 3))), (none, (.bin .add 3 (.r 0) (.c (T.v (.int .i64 1))))), (none, (.mv (.r 1)))],
  [none, none, (some 2), none, none, none, none, none, none, none], false⟩)
.ret)
.skip))))
(.reg ⟨[(none, (.bin .add 3 (.x 7) (.c (T.v (.int .i64 1))))), (none, (.mv (.r 0)))],
  [none, none, none, none, none, none, none, (some 1), none, none], false⟩)))))))))
(.seq (.reg ⟨[(none, (.mv (.c (T.v (.int .i64 0)))))],
  [none, none, (some 0), none, none, none, none, none, none, none], false⟩)
.ret)))⟩

def c_ref46_Inode : IFn := ⟨1, 6, 1, [(.var 2)], [.raw], false, (.seq (.reg ⟨[(none, (.box 0 (.x 0))), (none, (.mv (.c (T.v (.int .i64 0)))))],
  [none, (some 0), (some 1), none, none, none], false⟩)
(.seq (.seq (.reg ⟨[(none, (.mv (.c (T.v (.int .i64 4)))))],
  [none, none, none, (some 0), none, none], false⟩)
(.block 0
(.loop (.seq (.kill [0, 2, 4, 5])
(.seq (.free [])
(.seq (.seq (.reg ⟨[(none, (.mv (.x 3))), (none, (.faddr 0 (.x 1))), (none, (.load false 1 (.r 1))), (none, (.len false (.r 2))), (none, (.bin .leq 3 (.r 0) (.r 3)))],
  [none, none, none, none, (some 4), none], false⟩)
(.cond (.x 4)
.skip
(.exit 0)))
(.seq (.block 1
(.seq (.reg ⟨[(none, (.faddr 0 (.x 1))), (none, (.load false 1 (.r 0))), (none, (.mv (.x 3))), (none, (.bin .sub 3 (.r 2) (.c (T.v (.int .i64 1))))), (none, (.iaddrS 13 (.r 1) (.r 3))), (none, (.faddr 0 (.r 4))), (none, (.load false 1 (.r 5))), (none, (.bin .eql 3 (.r 6) (.c (T.v (.int .i64 0)))))],
  [none, none, none, none, none, (some 7)], false⟩)
(.cond (.x 5)
(.seq (.reg ⟨[(none, (.mv (.x 3))), (none, (.mv (.r 0)))],
  [none, none, (some 1), none, none, none], false⟩)
.ret)
.skip)))
(.reg ⟨[(none, (.mv (.x 3))), (none, (.bin .add 3 (.r 0) (.c (T.v (.int .i64 1))))), (none, (.mv (.r 1)))],
  [none, none, none, (some 2), none, none], false⟩))))))))
(.seq (.reg ⟨[(none, (.mv (.c (T.v (.int .i64 0)))))],
  [none, none, (some 0), none, none, none], false⟩)
.ret)))⟩

def c_ref12_SameNode : IFn := ⟨2, 5, 2, [(.var 4)], [.raw], false, (.seq (.reg ⟨[(none, (.box 0 (.x 0))), (none, (.box 2 (.x 1))), (none, (.mv (.c (T.v (.bool false)))))],
  [none, none, (some 0), (some 1), (some 2)], false⟩)
(.seq (.reg ⟨[(none, (.faddr 0 (.x 2))), (none, (.load false 1 (.r 0))), (none, (.faddr 0 (.x 3))), (none, (.load false 1 (.r 2))), (none, (.bin .eql 3 (.r 1) (.r 3))), (none, (.mv (.r 4))), ((some (5, true)), (.faddr 1 (.x 2))), ((some (5, true)), (.load false 1 (.r 6))), ((some (5, true)), (.faddr 1 (.x 3))), ((some (5, true)), (.load false 1 (.r 8))), ((some (5, true)), (.bin .eql 3 (.r 7) (.r 9))), (none, (.pick (.r 5) (.r 10) (.c (T.v (.bool false))))), (none, (.mv (.r 11))), ((some (12, true)), (.faddr 2 (.x 2))), ((some (12, true)), (.load false 1 (.r 13))), ((some (12, true)), (.faddr 2 (.x 3))), ((some (12, true)), (.load false 1 (.r 15))), ((some (12, true)), (.bin .eql 3 (.r 14) (.r 16))), (none, (.pick (.r 12) (.r 17) (.c (T.v (.bool false))))), (none, (.mv (.r 18))), ((some (19, true)), (.faddr 3 (.x 2))), ((some (19, true)), (.load false 1 (.r 20))), ((some (19, true)), (.faddr 3 (.x 3))), ((some (19, true)), (.load false 1 (.r 22))), ((some (19, true)), (.bin .eql 3 (.r 21) (.r 23))), (none, (.pick (.r 19) (.r 24) (.c (T.v (.bool false))))), (none, (.mv (.r 25))), ((some (26, true)), (.faddr 6 (.x 2))), ((some (26, true)), (.load true 7 (.r 27))), ((some (26, true)), (.faddr 6 (.x 3))), ((some (26, true)), (.load true 7 (.r 29))), ((some (26, true)), (.eqa false [.int, .int, .str, .int, .int, .int, .int] (.r 28) (.r 30))), (none, (.pick (.r 26) (.r 31) (.c (T.v (.bool false))))), (none, (.mv (.r 32))), ((some (33, true)), (.faddr 4 (.x 2))), ((some (33, true)), (.load false 1 (.r 34))), ((some (33, true)), (.faddr 4 (.x 3))), ((some (33, true)), (.load false 1 (.r 36))), ((some (33, true)), (.call 43 F_ref01_Same [(.r 35), (.r 37)])), (none, (.pick (.r 33) (.r 38) (.c (T.v (.bool false))))), (none, (.mv (.r 39))), ((some (40, true)), (.faddr 5 (.x 2))), ((some (40, true)), (.load false 1 (.r 41))), ((some (40, true)), (.faddr 5 (.x 3))), ((some (40, true)), (.load false 1 (.r 43))), ((some (40, true)), (.call 50 F_ref08_Same [(.r 42), (.r 44)])), (none, (.pick (.r 40) (.r 45) (.c (T.v (.bool false))))), (none, (.mv (.r 46)))],
  [none, none, none, none, (some 47)], false⟩)
.ret))⟩

def c_spare_Drop : IFn := ⟨2, 5, 4, [(.cell 4 true 13)], [.raw], false, (.seq (.reg ⟨[(none, (.box 0 (.x 0))), (none, (.box 2 (.x 1))), (none, (.alloc 4 [(T.v (.int .i64 0)), (T.v (.int .i64 0)), (T.v (.int .i64 0)), (T.v (.int .i64 0)), (T.sl .nil 0 []), (T.sl .nil 0 []), (T.v (.int .i64 0)), (T.v (.int .i64 0)), (T.v (.string ⟨#[]⟩)), (T.v (.int .i64 0)), (T.v (.int .i64 0)), (T.v (.int .i64 0)), (T.v (.int .i64 0))]))],
  [none, none, (some 0), (some 1), (some 2)], false⟩)
(.seq (.reg ⟨[(none, (.faddr 5 (.x 2))), (none, (.load false 1 (.r 0))), (none, (.callnew 7 [6] F_slices_Clone_Entry [(.r 1)])), (none, (.mkFunc (.func F_spare_Drop_1) [] [(.x 3)])), (none, (.callio 9 [] F_slices_DeleteFunc_Entry [(.r 2), (.r 3)])), (none, (.faddr 5 (.x 2))), (none, (.store 1 (.r 5) (.r 4)))],
  [none, none, none, none, none], false⟩)
(.seq (.reg ⟨[(none, (.load true 13 (.x 2))), (none, (.store 13 (.x 4) (.r 0)))],
  [none, none, none, none, none], false⟩)
.ret)))⟩

def c_ref46_Drop : IFn := ⟨2, 8, 2, [(.cell 3 true 13)], [.raw], false, (.seq (.reg ⟨[(none, (.box 0 (.x 0))), (none, (.alloc 2 [(T.v (.int .i64 0)), (T.v (.int .i64 0)), (T.v (.int .i64 0)), (T.v (.int .i64 0)), (T.sl .nil 0 []), (T.sl .nil 0 []), (T.v (.int .i64 0)), (T.v (.int .i64 0)), (T.v (.string ⟨#[]⟩)), (T.v (.int .i64 0)), (T.v (.int .i64 0)), (T.v (.int .i64 0)), (T.v (.int .i64 0))]))],
  [none, none, (some 0), (some 1), none, none, none, none], false⟩)
(.seq (.reg ⟨[(none, (.mv (.c (T.sl .nil 0 []))))],
  [none, none, none, none, (some 0), none, none, none], false⟩)
(.seq (.seq (.reg ⟨[(none, (.mv (.c (T.v (.int .i64 0)))))],
  [none, none, none, none, none, (some 0), none, none], false⟩)
(.block 0
(.loop (.seq (.kill [0, 6, 7])
(.seq (.free [])
(.seq (.seq (.reg ⟨[(none, (.mv (.x 5))), (none, (.faddr 5 (.x 2))), (none, (.load false 1 (.r 1))), (none, (.len false (.r 2))), (none, (.bin .lss 3 (.r 0) (.r 3)))],
  [none, none, none, none, none, none, (some 4), none], false⟩)
(.cond (.x 6)
.skip
(.exit 0)))
(.seq (.block 1
(.seq (.reg ⟨[(none, (.faddr 5 (.x 2))), (none, (.load false 1 (.r 0))), (none, (.mv (.x 5))), (none, (.iaddrS 3 (.r 1) (.r 2))), (none, (.faddr 2 (.r 3))), (none, (.load false 1 (.r 4))), (none, (.mv (.x 1))), (none, (.bin .neq 9 (.r 5) (.r 6)))],
  [none, none, none, none, none, none, none, (some 7)], false⟩)
(.cond (.x 7)
(.reg ⟨[(none, (.mv (.x 4))), (none, (.faddr 5 (.x 2))), (none, (.load false 1 (.r 1))), (none, (.mv (.x 5))), (none, (.iaddrS 3 (.r 2) (.r 3))), (none, (.load true 3 (.r 4))), (none, (.bslice 28 44 3 1 [(T.v (.int .i64 0)), (T.v (.int .i64 0)), (T.v (.string ⟨#[]⟩))] [(0, (3, (.r 5)))])), (none, (.append 29 44 3 32 [(T.v (.int .i64 0)), (T.v (.int .i64 0)), (T.v (.string ⟨#[]⟩))] 0 (.r 0) (.r 6))), (none, (.mv (.r 7)))],
  [none, none, none, none, (some 8), none, none, none], false⟩)
.skip)))
(.reg ⟨[(none, (.mv (.x 5))), (none, (.bin .add 3 (.r 0) (.c (T.v (.int .i64 1))))), (none, (.mv (.r 1)))],
  [none, none, none, none, none, (some 2), none, none], false⟩))))))))
(.seq (.reg ⟨[(none, (.mv (.x 4))), (none, (.faddr 5 (.x 2))), (none, (.store 1 (.r 1) (.r 0)))],
  [none, none, none, none, none, none, none, none], false⟩)
(.seq (.reg ⟨[(none, (.load true 13 (.x 2))), (none, (.store 13 (.x 3) (.r 0)))],
  [none, none, none, none, none, none, none, none], false⟩)
.ret)))))⟩

def c_slices_ContainsFunc_Node : IFn := ⟨2, 3, 0, [(.var 2)], [.raw], false, (.seq (.reg ⟨[(none, (.mv (.c (T.v (.bool false)))))],
  [none, none, (some 0)], false⟩)
(.seq (.reg ⟨[(none, (.mv (.x 0))), (none, (.mv (.x 1))), (none, (.call 7 F_slices_IndexFunc_Node [(.r 0), (.r 1)])), (none, (.bin .geq 3 (.r 2) (.c (T.v (.int .i64 0))))), (none, (.mv (.r 3)))],
  [none, none, (some 4)], false⟩)
.ret))⟩

def c_plain_Branch_1 : IFn := ⟨1, 3, 1, [(.var 2)], [.raw], false, (.seq (.reg ⟨[(none, (.box 0 (.x 0))), (none, (.mv (.c (T.v (.bool false)))))],
  [none, (some 0), (some 1)], false⟩)
(.seq (.reg ⟨[(none, (.load true 13 (.x 1))), (none, (.call 4 F_plain_Node [(.r 0)])), (none, (.un .not (.r 1))), (none, (.mv (.r 2)))],
  [none, none, (some 3)], false⟩)
.ret))⟩

def c_slices_ContainsFunc_Entry : IFn := ⟨2, 3, 0, [(.var 2)], [.raw], false, (.seq (.reg ⟨[(none, (.mv (.c (T.v (.bool false)))))],
  [none, none, (some 0)], false⟩)
(.seq (.reg ⟨[(none, (.mv (.x 0))), (none, (.mv (.x 1))), (none, (.call 7 F_slices_IndexFunc_Entry [(.r 0), (.r 1)])), (none, (.bin .geq 3 (.r 2) (.c (T.v (.int .i64 0))))), (none, (.mv (.r 3)))],
  [none, none, (some 4)], false⟩)
.ret))⟩

def c_plain_odd : IFn := ⟨1, 3, 1, [(.var 2)], [.raw], false, (.seq (.reg ⟨[(none, (.box 0 (.x 0))), (none, (.mv (.c (T.v (.bool false)))))],
  [none, (some 0), (some 1)], false⟩)
(.seq (.reg ⟨[(none, (.faddr 2 (.x 1))), (none, (.load false 1 (.r 0))), (none, (.call 5 F_ref03_Right [(.r 1)])), (none, (.un .not (.r 2))), (none, (.mv (.r 3)))],
  [none, none, (some 4)], false⟩)
.ret))⟩

def c_plain_Idle : IFn := ⟨0, 2, 3, [(.cell 0 true 6)], [.raw], false, (.seq (.reg ⟨[(none, (.alloc 0 [(T.v (.int .i64 0)), (T.v (.int .i64 0)), (T.v (.int .i64 0)), (T.v (.int .i64 0)), (T.sl .nil 0 []), (T.sl .nil 0 [])]))],
  [(some 0), none], false⟩)
(.seq (.reg ⟨[(none, (.callnew 2 [4] F_plain_Base [])), (none, (.alloc 2 [(T.v (.int .i64 0)), (T.v (.int .i64 0)), (T.v (.int .i64 0)), (T.v (.int .i64 0)), (T.sl .nil 0 []), (T.sl .nil 0 [])])), (none, (.store 6 (.r 1) (.r 0)))],
  [none, (some 1)], false⟩)
(.seq (.reg ⟨[(none, (.faddr 4 (.x 1))), (none, (.faddr 0 (.r 0))), (none, (.load false 1 (.r 1))), (none, (.build [(T.v (.int .i64 0)), (T.v (.int .i64 0)), (T.v (.string ⟨#[]⟩))] [(0, (1, (.c (T.v (.int .i64 1))))), (1, (1, (.c (T.v (.int .i64 4))))), (2, (1, (.c (T.v (.string ⟨#[122]⟩)))))])), (none, (.bslice 7 44 3 1 [(T.v (.int .i64 0)), (T.v (.int .i64 0)), (T.v (.string ⟨#[]⟩))] [(0, (3, (.r 3)))])), (none, (.call 8 F_plain_dir [(.r 4)])), (none, (.iaddrS 13 (.r 2) (.c (T.v (.int .i64 0))))), (none, (.store 13 (.r 6) (.r 5)))],
  [none, none], true⟩)
(.seq (.reg ⟨[(none, (.faddr 4 (.x 1))), (none, (.faddr 0 (.r 0))), (none, (.load false 1 (.r 1))), (none, (.build [(T.v (.int .i64 0)), (T.v (.int .i64 0)), (T.v (.int .i64 0)), (T.v (.int .i64 0)), (T.sl .nil 0 []), (T.sl .nil 0 []), (T.v (.int .i64 0)), (T.v (.int .i64 0)), (T.v (.string ⟨#[]⟩)), (T.v (.int .i64 0)), (T.v (.int .i64 0)), (T.v (.int .i64 0)), (T.v (.int .i64 0))] [(0, (1, (.c (T.v (.int .i64 4))))), (2, (1, (.c (T.v (.int .i64 1)))))])), (none, (.iaddrS 13 (.r 2) (.c (T.v (.int .i64 3))))), (none, (.store 13 (.r 4) (.r 3)))],
  [none, none], false⟩)
(.seq (.reg ⟨[(none, (.load true 6 (.x 1))), (none, (.store 6 (.x 0) (.r 0)))],
  [none, none], false⟩)
.ret)))))⟩

def c_spare_Sweep : IFn := ⟨1, 14, 6, [(.cell 2 true 6)], [.raw], false, (.seq (.reg ⟨[(none, (.box 0 (.x 0))), (none, (.alloc 2 [(T.v (.int .i64 0)), (T.v (.int .i64 0)), (T.v (.int .i64 0)), (T.v (.int .i64 0)), (T.sl .nil 0 []), (T.sl .nil 0 [])]))],
  [none, (some 0), (some 1), none, none, none, none, none, none, none, none, none, none, none], false⟩)
(.seq (.reg ⟨[(none, (.load true 6 (.x 1))), (none, (.alloc 4 [(T.v (.int .i64 0)), (T.v (.int .i64 0)), (T.v (.int .i64 0)), (T.v (.int .i64 0)), (T.sl .nil 0 []), (T.sl .nil 0 [])])), (none, (.store 6 (.r 1) (.r 0)))],
  [none, none, none, (some 1), none, none, none, none, none, none, none, none, none, none], false⟩)
(.seq (.reg ⟨[(none, (.faddr 4 (.x 1))), (none, (.faddr 0 (.r 0))), (none, (.load false 1 (.r 1))), (none, (.callio 12 [6] F_slices_Clone_Node [(.r 2)])), (none, (.faddr 4 (.x 1))), (none, (.faddr 0 (.r 4))), (none, (.store 1 (.r 5) (.r 3)))],
  [none, none, none, none, none, none, none, none, none, none, none, none, none, none], false⟩)
(.seq (.seq (.reg ⟨[(none, (.faddr 4 (.x 1))), (none, (.faddr 0 (.r 0))), (none, (.load false 1 (.r 1))), (none, (.mv (.r 2)))],
  [none, none, none, none, (some 3), none, none, none, none, none, none, none, none, none], false⟩)
(.seq (.reg ⟨[(none, (.mv (.x 4))), (none, (.len false (.r 0))), (none, (.bin .geq 3 (.r 1) (.c (T.v (.int .i64 3))))), (none, (.mv (.r 2))), ((some (3, true)), (.mv (.x 4))), ((some (3, true)), (.iaddrS 13 (.r 4) (.c (T.v (.int .i64 2))))), ((some (3, true)), (.faddr 0 (.r 5))), ((some (3, true)), (.load false 1 (.r 6))), ((some (3, true)), (.bin .eql 3 (.r 7) (.c (T.v (.int .i64 1))))), (none, (.pick (.r 3) (.r 8) (.c (T.v (.bool false)))))],
  [none, none, none, none, none, none, none, none, (some 9), none, none, none, none, none], false⟩)
(.cond (.x 8)
(.seq (.reg ⟨[(none, (.mv (.x 4))), (none, (.iaddrS 13 (.r 0) (.c (T.v (.int .i64 2))))), (none, (.mv (.r 1)))],
  [none, none, none, none, none, (some 2), none, none, none, none, none, none, none, none], false⟩)
(.reg ⟨[(none, (.mv (.x 5))), (none, (.mv (.x 5))), (none, (.nilCheck (.r 1))), (none, (.faddr 5 (.r 2))), (none, (.load false 1 (.r 3))), (none, (.callnew 35 [8] F_slices_Clone_Entry [(.r 4)])), (none, (.mkFunc (.func F_spare_Sweep_1) [] [(.x 3)])), (none, (.callio 37 [] F_slices_DeleteFunc_Entry [(.r 5), (.r 6)])), (none, (.nilCheck (.r 0))), (none, (.faddr 5 (.r 8))), (none, (.store 1 (.r 9) (.r 7)))],
  [none, none, none, none, none, none, none, none, none, none, none, none, none, none], false⟩))
.skip)))
(.seq (.seq (.reg ⟨[(none, (.faddr 4 (.x 1))), (none, (.load true 1 (.r 0))), (none, (.bslice 42 3 1 3 [(T.v (.int .i64 0))] [(0, (1, (.c (T.v (.int .i64 1))))), (1, (1, (.c (T.v (.int .i64 3))))), (2, (1, (.c (T.v (.int .i64 2)))))])), (none, (.callio 43 [10] F_walk_Reach [(.r 1), (.r 2)])), (none, (.len false (.r 3))), (none, (.mv (.c (T.v (.int .i64 0)))))],
  [none, none, none, none, none, none, none, none, none, (some 3), (some 4), (some 5), none, none], false⟩)
(.block 0
(.loop (.seq (.kill [0, 3, 4, 5, 6, 7, 8, 12, 13])
(.seq (.free [])
(.seq (.reg ⟨[(none, (.bin .lss 3 (.x 11) (.x 10)))],
  [none, none, none, none, none, none, none, none, none, none, none, none, (some 0), none], false⟩)
(.seq (.cond (.x 12)
.skip
(.exit 0))
(.seq (.block 1
(.seq (.reg ⟨[(none, (.mv (.x 11))), (none, (.iaddrS 1 (.x 9) (.x 11))), (none, (.load false 1 (.r 1))), (none, (.mv (.r 0))), (none, (.mv (.r 2)))],
  [none, none, none, none, none, none, (some 3), (some 4), none, none, none, none, none, none], false⟩)
(.seq (.reg ⟨[(none, (.mv (.x 7))), (none, (.un .not (.r 0)))],
  [none, none, none, none, none, none, none, none, none, none, none, none, none, (some 1)], false⟩)
(.cond (.x 13)
(.reg ⟨[(none, (.faddr 4 (.x 1))), (none, (.faddr 0 (.r 0))), (none, (.load false 1 (.r 1))), (none, (.mv (.x 6))), (none, (.build [(T.v (.int .i64 0)), (T.v (.int .i64 0)), (T.v (.int .i64 0)), (T.v (.int .i64 0)), (T.sl .nil 0 []), (T.sl .nil 0 []), (T.v (.int .i64 0)), (T.v (.int .i64 0)), (T.v (.string ⟨#[]⟩)), (T.v (.int .i64 0)), (T.v (.int .i64 0)), (T.v (.int .i64 0)), (T.v (.int .i64 0))] [])), (none, (.iaddrS 13 (.r 2) (.r 3))), (none, (.store 13 (.r 5) (.r 4)))],
  [none, none, none, none, none, none, none, none, none, none, none, none, none, none], false⟩)
.skip))))
(.reg ⟨[(none, (.bin .add 3 (.x 11) (.c (T.v (.int .i64 1))))), (none, (.mv (.r 0)))],
  [none, none, none, none, none, none, none, none, none, none, none, (some 1), none, none], false⟩)))))))))
(.seq (.reg ⟨[(none, (.load true 6 (.x 1))), (none, (.store 6 (.x 2) (.r 0)))],
  [none, none, none, none, none, none, none, none, none, none, none, none, none, none], false⟩)
.ret))))))⟩

def c_ref13_At : IFn := ⟨2, 5, 2, [(.cell 3 true 13)], [.raw], false, (.seq (.reg ⟨[(none, (.box 0 (.x 0))), (none, (.alloc 2 [(T.v (.int .i64 0)), (T.v (.int .i64 0)), (T.v (.int .i64 0)), (T.v (.int .i64 0)), (T.sl .nil 0 []), (T.sl .nil 0 []), (T.v (.int .i64 0)), (T.v (.int .i64 0)), (T.v (.string ⟨#[]⟩)), (T.v (.int .i64 0)), (T.v (.int .i64 0)), (T.v (.int .i64 0)), (T.v (.int .i64 0))]))],
  [none, none, (some 0), (some 1), none], false⟩)
(.seq (.seq (.reg ⟨[(none, (.mv (.x 1))), (none, (.bin .lss 3 (.r 0) (.c (T.v (.int .i64 1))))), (none, (.mv (.r 1))), ((some (2, false)), (.mv (.x 1))), ((some (2, false)), (.faddr 0 (.x 2))), ((some (2, false)), (.load false 1 (.r 4))), ((some (2, false)), (.len false (.r 5))), ((some (2, false)), (.bin .gtr 3 (.r 3) (.r 6))), (none, (.pick (.r 2) (.c (T.v (.bool true))) (.r 7)))],
  [none, none, none, none, (some 8)], false⟩)
(.cond (.x 4)
(.seq (.reg ⟨[(none, (.build [(T.v (.int .i64 0)), (T.v (.int .i64 0)), (T.v (.int .i64 0)), (T.v (.int .i64 0)), (T.sl .nil 0 []), (T.sl .nil 0 []), (T.v (.int .i64 0)), (T.v (.int .i64 0)), (T.v (.string ⟨#[]⟩)), (T.v (.int .i64 0)), (T.v (.int .i64 0)), (T.v (.int .i64 0)), (T.v (.int .i64 0))] [])), (none, (.store 13 (.x 3) (.r 0)))],
  [none, none, none, none, none], false⟩)
.ret)
.skip))
(.seq (.reg ⟨[(none, (.faddr 0 (.x 2))), (none, (.load false 1 (.r 0))), (none, (.mv (.x 1))), (none, (.bin .sub 3 (.r 2) (.c (T.v (.int .i64 1))))), (none, (.iaddrS 13 (.r 1) (.r 3))), (none, (.load true 13 (.r 4))), (none, (.store 13 (.x 3) (.r 5)))],
  [none, none, none, none, none], false⟩)
.ret)))⟩

def c_slices_Index_bool : IFn := ⟨2, 8, 0, [(.var 2)], [.raw], false, (.seq (.reg ⟨[(none, (.mv (.c (T.v (.int .i64 0)))))],
  [none, none, (some 0), none, none, none, none, none], false⟩)
(.seq (.seq (.reg ⟨[(none, (.mv (.x 0))), (none, (.len false (.r 0))), (none, (.mv (.c (T.v (.int .i64 0)))))],
  [none, none, none, none, (some 1), (some 2), none, none], false⟩)
(.block 0
(.loop (.seq (.kill [2, 3, 6, 7])
(.seq (.free [])
(.seq (.reg ⟨[(none, (.bin .lss 3 (.x 5) (.x 4)))],
  [none, none, none, none, none, none, (some 0), none], false⟩)
(.seq (.cond (.x 6)
.skip
(.exit 0))
(.seq (.block 1
(.seq (.reg ⟨[(none, (.mv (.x 5))), (none, (.mv (.r 0)))],
  [none, none, none, (some 1), none, none, none, none], false⟩)
(.seq (.reg ⟨[(none, (.mv (.x 1))), (none, (.mv (.x 0))), (none, (.mv (.x 3))), (none, (.iaddrS 1 (.r 1) (.r 2))), (none, (.load false 1 (.r 3))), (none, (.eqb false (.r 0) (.r 4)))],
  [none, none, none, none, none, none, none, (some 5)], false⟩)
(.cond (.x 7)
(.seq (.reg ⟨[(none, (.mv (.x 3))), (none, (.mv (.r 0)))],
  [none, none, (some 1), none, none, none, none, none], false⟩)
.ret)
.skip))))
(.reg ⟨[(none, (.bin .add 3 (.x 5) (.c (T.v (.int .i64 1))))), (none, (.mv (.r 0)))],
  [none, none, none, none, none, (some 1), none, none], false⟩)))))))))
(.seq (.reg ⟨[(none, (.mv (.c (T.v (.int .i64 (-1))))))],
  [none, none, (some 0), none, none, none, none, none], false⟩)
.ret)))⟩

def c_slices_IndexFunc_Entry : IFn := ⟨2, 8, 0, [(.var 2)], [.raw], false, (.seq (.reg ⟨[(none, (.mv (.c (T.v (.int .i64 0)))))],
  [none, none, (some 0), none, none, none, none, none], false⟩)
(.seq (.seq (.reg ⟨[(none, (.mv (.x 0))), (none, (.len false (.r 0))), (none, (.mv (.c (T.v (.int .i64 0)))))],
  [none, none, none, none, (some 1), (some 2), none, none], false⟩)
(.block 0
(.loop (.seq (.kill [2, 3, 6, 7])
(.seq (.free [])
(.seq (.reg ⟨[(none, (.bin .lss 3 (.x 5) (.x 4)))],
  [none, none, none, none, none, none, (some 0), none], false⟩)
(.seq (.cond (.x 6)
.skip
(.exit 0))
(.seq (.block 1
(.seq (.reg ⟨[(none, (.mv (.x 5))), (none, (.mv (.r 0)))],
  [none, none, none, (some 1), none, none, none, none], false⟩)
(.seq (.reg ⟨[(none, (.mv (.x 1))), (none, (.mv (.x 0))), (none, (.mv (.x 3))), (none, (.iaddrS 3 (.r 1) (.r 2))), (none, (.load true 3 (.r 3))), (none, (.callv 16 (.r 0) [(.r 4)]))],
  [none, none, none, none, none, none, none, (some 5)], false⟩)
(.cond (.x 7)
(.seq (.reg ⟨[(none, (.mv (.x 3))), (none, (.mv (.r 0)))],
  [none, none, (some 1), none, none, none, none, none], false⟩)
.ret)
.skip))))
(.reg ⟨[(none, (.bin .add 3 (.x 5) (.c (T.v (.int .i64 1))))), (none, (.mv (.r 0)))],
  [none, none, none, none, none, (some 1), none, none], false⟩)))))))))
(.seq (.reg ⟨[(none, (.mv (.c (T.v (.int .i64 (-1))))))],
  [none, none, (some 0), none, none, none, none, none], false⟩)
.ret)))⟩

def c_spare_Put_1 : IFn := ⟨2, 4, 1, [(.var 3)], [.raw], false, (.seq (.reg ⟨[(none, (.box 0 (.x 0))), (none, (.mv (.c (T.v (.bool false)))))],
  [none, none, (some 0), (some 1)], false⟩)
(.seq (.reg ⟨[(none, (.faddr 0 (.x 2))), (none, (.load false 1 (.r 0))), (none, (.load false 1 (.x 1))), (none, (.bin .gtr 3 (.r 1) (.r 2))), (none, (.mv (.r 3)))],
  [none, none, none, (some 4)], false⟩)
.ret))⟩

def c_slices_Clone_Entry : IFn := ⟨1, 3, 1, [(.var 1)], [(.box 0)], true, (.seq (.reg ⟨[(none, (.mv (.c (T.sl .nil 0 []))))],
  [none, (some 0), none], false⟩)
(.seq (.seq (.reg ⟨[(none, (.mv (.x 0))), (none, (.eqnil false (.r 0)))],
  [none, none, (some 1)], false⟩)
(.cond (.x 2)
(.seq (.reg ⟨[(none, (.mv (.c (T.sl .nil 0 []))))],
  [none, (some 0), none], false⟩)
.ret)
.skip))
(.seq (.reg ⟨[(none, (.bslice 5 44 3 0 [(T.v (.int .i64 0)), (T.v (.int .i64 0)), (T.v (.string ⟨#[]⟩))] [])), (none, (.mv (.x 0))), (none, (.appendB 0 44 3 32 [(T.v (.int .i64 0)), (T.v (.int .i64 0)), (T.v (.string ⟨#[]⟩))] 0 (.r 0) (.r 1))), (none, (.mv (.r 2)))],
  [none, (some 3), none], false⟩)
.ret)))⟩

def c_ref46_slot : IFn := ⟨1, 9, 1, [(.var 2)], [.raw], false, (.seq (.reg ⟨[(none, (.box 0 (.x 0))), (none, (.mv (.c (T.v (.int .i64 0)))))],
  [none, (some 0), (some 1), none, none, none, none, none, none], false⟩)
(.seq (.seq (.reg ⟨[(none, (.mv (.c (T.v (.int .i64 0)))))],
  [none, none, none, (some 0), none, none, none, none, none], false⟩)
(.block 0
(.loop (.seq (.kill [0, 2, 4, 5, 6, 7, 8])
(.seq (.free [])
(.seq (.seq (.reg ⟨[(none, (.mv (.x 3))), (none, (.bin .lss 3 (.r 0) (.c (T.v (.int .i64 16)))))],
  [none, none, none, none, none, none, (some 1), none, none], false⟩)
(.cond (.x 6)
.skip
(.exit 0)))
(.seq (.block 1
(.seq (.reg ⟨[(none, (.mv (.c (T.v (.bool true)))))],
  [none, none, none, none, (some 0), none, none, none, none], false⟩)
(.seq (.seq (.reg ⟨[(none, (.mv (.c (T.v (.int .i64 0)))))],
  [none, none, none, none, none, (some 0), none, none, none], false⟩)
(.block 2
(.loop (.seq (.kill [0, 2, 6, 7, 8])
(.seq (.free [])
(.seq (.seq (.reg ⟨[(none, (.mv (.x 5))), (none, (.faddr 5 (.x 1))), (none, (.load false 1 (.r 1))), (none, (.len false (.r 2))), (none, (.bin .lss 3 (.r 0) (.r 3)))],
  [none, none, none, none, none, none, none, (some 4), none], false⟩)
(.cond (.x 7)
.skip
(.exit 2)))
(.seq (.block 3
(.reg ⟨[(none, (.mv (.x 4))), (none, (.mv (.r 0))), ((some (1, true)), (.faddr 5 (.x 1))), ((some (1, true)), (.load false 1 (.r 2))), ((some (1, true)), (.mv (.x 5))), ((some (1, true)), (.iaddrS 3 (.r 3) (.r 4))), ((some (1, true)), (.faddr 0 (.r 5))), ((some (1, true)), (.load false 1 (.r 6))), ((some (1, true)), (.mv (.x 3))), ((some (1, true)), (.bin .neq 3 (.r 7) (.r 8))), (none, (.pick (.r 1) (.r 9) (.c (T.v (.bool false))))), (none, (.mv (.r 10)))],
  [none, none, none, none, (some 11), none, none, none, none], false⟩))
(.reg ⟨[(none, (.mv (.x 5))), (none, (.bin .add 3 (.r 0) (.c (T.v (.int .i64 1))))), (none, (.mv (.r 1)))],
  [none, none, none, none, none, (some 2), none, none, none], false⟩))))))))
(.seq (.reg ⟨[(none, (.mv (.x 4)))],
  [none, none, none, none, none, none, none, none, (some 0)], false⟩)
(.cond (.x 8)
(.seq (.reg ⟨[(none, (.mv (.x 3))), (none, (.mv (.r 0)))],
  [none, none, (some 1), none, none, none, none, none, none], false⟩)
.ret)
.skip)))))
(.reg ⟨[(none, (.mv (.x 3))), (none, (.bin .add 3 (.r 0) (.c (T.v (.int .i64 1))))), (none, (.mv (.r 1)))],
  [none, none, none, (some 2), none, none, none, none, none], false⟩))))))))
(.seq (.reg ⟨[(none, (.mv (.c (T.v (.int .i64 (-1))))))],
  [none, none, (some 0), none, none, none, none, none, none], false⟩)
.ret)))⟩

def c_ref01_Same : IFn := ⟨2, 7, 0, [(.var 2)], [.raw], false, (.seq (.reg ⟨[(none, (.mv (.c (T.v (.bool false)))))],
  [none, none, (some 0), none, none, none, none], false⟩)
(.seq (.seq (.reg ⟨[(none, (.mv (.x 0))), (none, (.len false (.r 0))), (none, (.mv (.x 1))), (none, (.len false (.r 2))), (none, (.bin .neq 3 (.r 1) (.r 3)))],
  [none, none, none, none, (some 4), none, none], false⟩)
(.cond (.x 4)
(.seq (.reg ⟨[(none, (.mv (.c (T.v (.bool false)))))],
  [none, none, (some 0), none, none, none, none], false⟩)
.ret)
.skip))
(.seq (.seq (.reg ⟨[(none, (.mv (.c (T.v (.int .i64 0)))))],
  [none, none, none, (some 0), none, none, none], false⟩)
(.block 0
(.loop (.seq (.kill [2, 4, 5, 6])
(.seq (.free [])
(.seq (.seq (.reg ⟨[(none, (.mv (.x 3))), (none, (.mv (.x 0))), (none, (.len false (.r 1))), (none, (.bin .lss 3 (.r 0) (.r 2)))],
  [none, none, none, none, none, (some 3), none], false⟩)
(.cond (.x 5)
.skip
(.exit 0)))
(.seq (.block 1
(.seq (.reg ⟨[(none, (.mv (.x 0))), (none, (.mv (.x 3))), (none, (.iaddrS 1 (.r 0) (.r 1))), (none, (.load false 1 (.r 2))), (none, (.mv (.x 1))), (none, (.mv (.x 3))), (none, (.iaddrS 1 (.r 4) (.r 5))), (none, (.load false 1 (.r 6))), (none, (.bin .neq 5 (.r 3) (.r 7)))],
  [none, none, none, none, none, none, (some 8)], true⟩)
(.cond (.x 6)
(.seq (.reg ⟨[(none, (.mv (.c (T.v (.bool false)))))],
  [none, none, (some 0), none, none, none, none], false⟩)
.ret)
.skip)))
(.reg ⟨[(none, (.mv (.x 3))), (none, (.bin .add 3 (.r 0) (.c (T.v (.int .i64 1))))), (none, (.mv (.r 1)))],
  [none, none, none, (some 2), none, none, none], false⟩))))))))
(.seq (.reg ⟨[(none, (.mv (.c (T.v (.bool true)))))],
  [none, none, (some 0), none, none, none, none], false⟩)
.ret))))⟩

def c_ref08_Same : IFn := ⟨2, 7, 0, [(.var 2)], [.raw], false, (.seq (.reg ⟨[(none, (.mv (.c (T.v (.bool false)))))],
  [none, none, (some 0), none, none, none, none], false⟩)
(.seq (.seq (.reg ⟨[(none, (.mv (.x 0))), (none, (.len false (.r 0))), (none, (.mv (.x 1))), (none, (.len false (.r 2))), (none, (.bin .neq 3 (.r 1) (.r 3)))],
  [none, none, none, none, (some 4), none, none], false⟩)
(.cond (.x 4)
(.seq (.reg ⟨[(none, (.mv (.c (T.v (.bool false)))))],
  [none, none, (some 0), none, none, none, none], false⟩)
.ret)
.skip))
(.seq (.seq (.reg ⟨[(none, (.mv (.c (T.v (.int .i64 0)))))],
  [none, none, none, (some 0), none, none, none], false⟩)
(.block 0
(.loop (.seq (.kill [2, 4, 5, 6])
(.seq (.free [])
(.seq (.seq (.reg ⟨[(none, (.mv (.x 3))), (none, (.mv (.x 0))), (none, (.len false (.r 1))), (none, (.bin .lss 3 (.r 0) (.r 2)))],
  [none, none, none, none, none, (some 3), none], false⟩)
(.cond (.x 5)
.skip
(.exit 0)))
(.seq (.block 1
(.seq (.reg ⟨[(none, (.mv (.x 0))), (none, (.mv (.x 3))), (none, (.iaddrS 3 (.r 0) (.r 1))), (none, (.load true 3 (.r 2))), (none, (.mv (.x 1))), (none, (.mv (.x 3))), (none, (.iaddrS 3 (.r 4) (.r 5))), (none, (.load true 3 (.r 6))), (none, (.eqa true [.int, .int, .str] (.r 3) (.r 7)))],
  [none, none, none, none, none, none, (some 8)], true⟩)
(.cond (.x 6)
(.seq (.reg ⟨[(none, (.mv (.c (T.v (.bool false)))))],
  [none, none, (some 0), none, none, none, none], false⟩)
.ret)
.skip)))
(.reg ⟨[(none, (.mv (.x 3))), (none, (.bin .add 3 (.r 0) (.c (T.v (.int .i64 1))))), (none, (.mv (.r 1)))],
  [none, none, none, (some 2), none, none, none], false⟩))))))))
(.seq (.reg ⟨[(none, (.mv (.c (T.v (.bool true)))))],
  [none, none, (some 0), none, none, none, none], false⟩)
.ret))))⟩

def c_slices_DeleteFunc_Entry : IFn := ⟨2, 9, 1, [(.var 2)], [.raw], false, (.seq (.reg ⟨[(none, (.mv (.c (T.sl .nil 0 []))))],
  [none, none, (some 0), none, none, none, none, none, none], false⟩)
(.seq (.reg ⟨[(none, (.mv (.x 0))), (none, (.mv (.x 1))), (none, (.call 10 F_slices_IndexFunc_Entry [(.r 0), (.r 1)])), (none, (.mv (.r 2)))],
  [none, none, none, (some 3), none, none, none, none, none], false⟩)
(.seq (.seq (.reg ⟨[(none, (.mv (.x 3))), (none, (.bin .eql 3 (.r 0) (.c (T.v (.int .i64 (-1))))))],
  [none, none, none, none, none, none, (some 1), none, none], false⟩)
(.cond (.x 6)
(.seq (.reg ⟨[(none, (.mv (.x 0))), (none, (.mv (.r 0)))],
  [none, none, (some 1), none, none, none, none, none, none], false⟩)
.ret)
.skip))
(.seq (.seq (.reg ⟨[(none, (.mv (.x 3))), (none, (.bin .add 3 (.r 0) (.c (T.v (.int .i64 1))))), (none, (.mv (.r 1)))],
  [none, none, none, none, (some 2), none, none, none, none], false⟩)
(.block 0
(.loop (.seq (.kill [2, 5, 6, 7, 8])
(.seq (.free [0, 1])
(.seq (.seq (.reg ⟨[(none, (.mv (.x 4))), (none, (.mv (.x 0))), (none, (.len false (.r 1))), (none, (.bin .lss 3 (.r 0) (.r 2)))],
  [none, none, none, none, none, none, none, (some 3), none], false⟩)
(.cond (.x 7)
.skip
(.exit 0)))
(.seq (.block 1
(.seq (.reg ⟨[(none, (.mv (.x 0))), (none, (.mv (.x 4))), (none, (.iaddrS 3 (.r 0) (.r 1))), (none, (.load true 3 (.r 2))), (none, (.alloc 0 [(T.v (.int .i64 0)), (T.v (.int .i64 0)), (T.v (.string ⟨#[]⟩))])), (none, (.store 3 (.r 4) (.r 3)))],
  [none, none, none, none, none, (some 4), none, none, none], false⟩)
(.seq (.reg ⟨[(none, (.mv (.x 1))), (none, (.load true 3 (.x 5))), (none, (.callv 28 (.r 0) [(.r 1)])), (none, (.un .not (.r 2)))],
  [none, none, none, none, none, none, none, none, (some 3)], false⟩)
(.cond (.x 8)
(.seq (.reg ⟨[(none, (.mv (.x 0))), (none, (.mv (.x 3))), (none, (.load true 3 (.x 5))), (none, (.iaddrS 3 (.r 0) (.r 1))), (none, (.store 3 (.r 3) (.r 2)))],
  [none, none, none, none, none, none, none, none, none], false⟩)
(.reg ⟨[(none, (.mv (.x 3))), (none, (.bin .add 3 (.r 0) (.c (T.v (.int .i64 1))))), (none, (.mv (.r 1)))],
  [none, none, none, (some 2), none, none, none, none, none], false⟩))
.skip))))
(.reg ⟨[(none, (.mv (.x 4))), (none, (.bin .add 3 (.r 0) (.c (T.v (.int .i64 1))))), (none, (.mv (.r 1)))],
  [none, none, none, none, (some 2), none, none, none, none], false⟩))))))))
(.seq (.reg ⟨[(none, (.mv (.x 0))), (none, (.mv (.x 3))), (none, (.sliceT 3 (.r 0) (some (.r 1)) none none)), (none, (.clearS 3 [(T.v (.int .i64 0)), (T.v (.int .i64 0)), (T.v (.string ⟨#[]⟩))] (.r 2)))],
  [none, none, none, none, none, none, none, none, none], false⟩)
(.seq (.reg ⟨[(none, (.mv (.x 0))), (none, (.mv (.x 3))), (none, (.sliceT 3 (.r 0) none (some (.r 1)) none)), (none, (.mv (.r 2)))],
  [none, none, (some 3), none, none, none, none, none, none], false⟩)
.ret))))))⟩

def c_spare_Drop_1 : IFn := ⟨2, 4, 1, [(.var 3)], [.raw], false, (.seq (.reg ⟨[(none, (.box 0 (.x 0))), (none, (.mv (.c (T.v (.bool false)))))],
  [none, none, (some 0), (some 1)], false⟩)
(.seq (.reg ⟨[(none, (.faddr 2 (.x 2))), (none, (.load false 1 (.r 0))), (none, (.load false 1 (.x 1))), (none, (.bin .eql 9 (.r 1) (.r 2))), (none, (.mv (.r 3)))],
  [none, none, none, (some 4)], false⟩)
.ret))⟩

def c_slices_IndexFunc_Node : IFn := ⟨2, 8, 0, [(.var 2)], [.raw], false, (.seq (.reg ⟨[(none, (.mv (.c (T.v (.int .i64 0)))))],
  [none, none, (some 0), none, none, none, none, none], false⟩)
(.seq (.seq (.reg ⟨[(none, (.mv (.x 0))), (none, (.len false (.r 0))), (none, (.mv (.c (T.v (.int .i64 0)))))],
  [none, none, none, none, (some 1), (some 2), none, none], false⟩)
(.block 0
(.loop (.seq (.kill [2, 3, 6, 7])
(.seq (.free [])
(.seq (.reg ⟨[(none, (.bin .lss 3 (.x 5) (.x 4)))],
  [none, none, none, none, none, none, (some 0), none], false⟩)
(.seq (.cond (.x 6)
.skip
(.exit 0))
(.seq (.block 1
(.seq (.reg ⟨[(none, (.mv (.x 5))), (none, (.mv (.r 0)))],
  [none, none, none, (some 1), none, none, none, none], false⟩)
(.seq (.reg ⟨[(none, (.mv (.x 1))), (none, (.mv (.x 0))), (none, (.mv (.x 3))), (none, (.iaddrS 13 (.r 1) (.r 2))), (none, (.load true 13 (.r 3))), (none, (.callv 16 (.r 0) [(.r 4)]))],
  [none, none, none, none, none, none, none, (some 5)], false⟩)
(.cond (.x 7)
(.seq (.reg ⟨[(none, (.mv (.x 3))), (none, (.mv (.r 0)))],
  [none, none, (some 1), none, none, none, none, none], false⟩)
.ret)
.skip))))
(.reg ⟨[(none, (.bin .add 3 (.x 5) (.c (T.v (.int .i64 1))))), (none, (.mv (.r 0)))],
  [none, none, none, none, none, (some 1), none, none], false⟩)))))))))
(.seq (.reg ⟨[(none, (.mv (.c (T.v (.int .i64 (-1))))))],
  [none, none, (some 0), none, none, none, none, none], false⟩)
.ret)))⟩

def c_ref03_Right : IFn := ⟨1, 6, 0, [(.var 1)], [.raw], false, (.seq (.reg ⟨[(none, (.mv (.c (T.v (.bool false)))))],
  [none, (some 0), none, none, none, none], false⟩)
(.seq (.seq (.reg ⟨[(none, (.mv (.x 0))), (none, (.len true (.r 0))), (none, (.bin .lss 3 (.r 1) (.c (T.v (.int .i64 1))))), (none, (.mv (.r 2))), ((some (3, false)), (.mv (.x 0))), ((some (3, false)), (.len true (.r 4))), ((some (3, false)), (.bin .gtr 3 (.r 5) (.c (T.v (.int .i64 12))))), (none, (.pick (.r 3) (.c (T.v (.bool true))) (.r 6))), (none, (.mv (.r 7))), ((some (8, false)), (.mv (.x 0))), ((some (8, false)), (.bin .eql 9 (.r 9) (.c (T.v (.string ⟨#[46]⟩))))), (none, (.pick (.r 8) (.c (T.v (.bool true))) (.r 10))), (none, (.mv (.r 11))), ((some (12, false)), (.mv (.x 0))), ((some (12, false)), (.bin .eql 9 (.r 13) (.c (T.v (.string ⟨#[46, 46]⟩))))), (none, (.pick (.r 12) (.c (T.v (.bool true))) (.r 14)))],
  [none, none, none, (some 15), none, none], false⟩)
(.cond (.x 3)
(.seq (.reg ⟨[(none, (.mv (.c (T.v (.bool false)))))],
  [none, (some 0), none, none, none, none], false⟩)
.ret)
.skip))
(.seq (.seq (.reg ⟨[(none, (.mv (.c (T.v (.int .i64 0)))))],
  [none, none, (some 0), none, none, none], false⟩)
(.block 0
(.loop (.seq (.kill [1, 3, 4, 5])
(.seq (.free [])
(.seq (.seq (.reg ⟨[(none, (.mv (.x 2))), (none, (.mv (.x 0))), (none, (.len true (.r 1))), (none, (.bin .lss 3 (.r 0) (.r 2)))],
  [none, none, none, none, (some 3), none], false⟩)
(.cond (.x 4)
.skip
(.exit 0)))
(.seq (.block 1
(.seq (.reg ⟨[(none, (.mv (.x 0))), (none, (.mv (.x 2))), (none, (.indexS (.r 0) (.r 1))), (none, (.call 29 F_ref03_letter [(.r 2)])), (none, (.un .not (.r 3)))],
  [none, none, none, none, none, (some 4)], false⟩)
(.cond (.x 5)
(.seq (.reg ⟨[(none, (.mv (.c (T.v (.bool false)))))],
  [none, (some 0), none, none, none, none], false⟩)
.ret)
.skip)))
(.reg ⟨[(none, (.mv (.x 2))), (none, (.bin .add 3 (.r 0) (.c (T.v (.int .i64 1))))), (none, (.mv (.r 1)))],
  [none, none, (some 2), none, none, none], false⟩))))))))
(.seq (.reg ⟨[(none, (.mv (.c (T.v (.bool true)))))],
  [none, (some 0), none, none, none, none], false⟩)
.ret))))⟩

def c_plain_Base : IFn := ⟨0, 2, 3, [(.cell 0 true 6)], [.raw], false, (.seq (.reg ⟨[(none, (.alloc 0 [(T.v (.int .i64 0)), (T.v (.int .i64 0)), (T.v (.int .i64 0)), (T.v (.int .i64 0)), (T.sl .nil 0 []), (T.sl .nil 0 [])]))],
  [(some 0), none], false⟩)
(.seq (.reg ⟨[(none, (.build [(T.v (.int .i64 0)), (T.v (.int .i64 0)), (T.v (.int .i64 0)), (T.v (.int .i64 0))] [(0, (1, (.c (T.v (.int .i64 1))))), (1, (1, (.c (T.v (.int .i64 5))))), (2, (1, (.c (T.v (.int .i64 6))))), (3, (1, (.c (T.v (.int .i64 5)))))])), (none, (.build [(T.v (.int .i64 0)), (T.v (.int .i64 0)), (T.v (.int .i64 0)), (T.v (.int .i64 0)), (T.sl .nil 0 []), (T.sl .nil 0 [])] [(0, (4, (.r 0)))])), (none, (.alloc 2 [(T.v (.int .i64 0)), (T.v (.int .i64 0)), (T.v (.int .i64 0)), (T.v (.int .i64 0)), (T.sl .nil 0 []), (T.sl .nil 0 [])])), (none, (.store 6 (.r 2) (.r 1)))],
  [none, (some 2)], false⟩)
(.seq (.reg ⟨[(none, (.build [(T.v (.int .i64 0)), (T.v (.int .i64 0)), (T.v (.string ⟨#[]⟩))] [(1, (1, (.c (T.v (.int .i64 2))))), (2, (1, (.c (T.v (.string ⟨#[97]⟩)))))])), (none, (.bslice 5 44 3 1 [(T.v (.int .i64 0)), (T.v (.int .i64 0)), (T.v (.string ⟨#[]⟩))] [(0, (3, (.r 0)))])), (none, (.call 6 F_plain_dir [(.r 1)])), (none, (.bslice 7 5 1 1 [(T.v (.int .u8 0))] [(0, (1, (.c (T.v (.int .u8 120)))))])), (none, (.build [(T.v (.int .i64 0)), (T.v (.int .i64 0)), (T.v (.int .i64 0)), (T.v (.int .i64 0)), (T.sl .nil 0 []), (T.sl .nil 0 []), (T.v (.int .i64 0)), (T.v (.int .i64 0)), (T.v (.string ⟨#[]⟩)), (T.v (.int .i64 0)), (T.v (.int .i64 0)), (T.v (.int .i64 0)), (T.v (.int .i64 0))] [(0, (1, (.c (T.v (.int .i64 2))))), (2, (1, (.c (T.v (.int .i64 1))))), (3, (1, (.c (T.v (.int .i64 3))))), (4, (1, (.r 3)))])), (none, (.build [(T.v (.int .i64 0)), (T.v (.int .i64 0)), (T.v (.int .i64 0)), (T.v (.int .i64 0)), (T.sl .nil 0 []), (T.sl .nil 0 []), (T.v (.int .i64 0)), (T.v (.int .i64 0)), (T.v (.string ⟨#[]⟩)), (T.v (.int .i64 0)), (T.v (.int .i64 0)), (T.v (.int .i64 0)), (T.v (.int .i64 0))] [])), (none, (.build [(T.v (.int .i64 0)), (T.v (.int .i64 0)), (T.v (.int .i64 0)), (T.v (.int .i64 0)), (T.sl .nil 0 []), (T.sl .nil 0 []), (T.v (.int .i64 0)), (T.v (.int .i64 0)), (T.v (.string ⟨#[]⟩)), (T.v (.int .i64 0)), (T.v (.int .i64 0)), (T.v (.int .i64 0)), (T.v (.int .i64 0))] [])), (none, (.build [(T.v (.int .i64 0)), (T.v (.int .i64 0)), (T.v (.int .i64 0)), (T.v (.int .i64 0)), (T.sl .nil 0 []), (T.sl .nil 0 []), (T.v (.int .i64 0)), (T.v (.int .i64 0)), (T.v (.string ⟨#[]⟩)), (T.v (.int .i64 0)), (T.v (.int .i64 0)), (T.v (.int .i64 0)), (T.v (.int .i64 0))] [])), (none, (.bslice 12 32 13 5 [(T.v (.int .i64 0)), (T.v (.int .i64 0)), (T.v (.int .i64 0)), (T.v (.int .i64 0)), (T.sl .nil 0 []), (T.sl .nil 0 []), (T.v (.int .i64 0)), (T.v (.int .i64 0)), (T.v (.string ⟨#[]⟩)), (T.v (.int .i64 0)), (T.v (.int .i64 0)), (T.v (.int .i64 0)), (T.v (.int .i64 0))] [(0, (13, (.r 2))), (13, (13, (.r 4))), (26, (13, (.r 5))), (39, (13, (.r 6))), (52, (13, (.r 7)))])), (none, (.build [(T.sl .nil 0 [])] [(0, (1, (.r 8)))])), (none, (.bslice 14 24 1 1 [(T.sl .nil 0 [])] [(0, (1, (.r 9)))])), (none, (.faddr 5 (.x 1))), (none, (.store 1 (.r 11) (.r 10)))],
  [none, none], false⟩)
(.seq (.reg ⟨[(none, (.call 16 F_plain_dir [(.c (T.sl .nil 0 []))])), (none, (.call 17 F_plain_dir [(.c (T.sl .nil 0 []))])), (none, (.call 18 F_plain_dir [(.c (T.sl .nil 0 []))])), (none, (.build [(T.v (.int .i64 0)), (T.v (.int .i64 0)), (T.v (.int .i64 0)), (T.v (.int .i64 0)), (T.sl .nil 0 []), (T.sl .nil 0 []), (T.v (.int .i64 0)), (T.v (.int .i64 0)), (T.v (.string ⟨#[]⟩)), (T.v (.int .i64 0)), (T.v (.int .i64 0)), (T.v (.int .i64 0)), (T.v (.int .i64 0))] [])), (none, (.build [(T.v (.int .i64 0)), (T.v (.int .i64 0)), (T.v (.int .i64 0)), (T.v (.int .i64 0)), (T.sl .nil 0 []), (T.sl .nil 0 []), (T.v (.int .i64 0)), (T.v (.int .i64 0)), (T.v (.string ⟨#[]⟩)), (T.v (.int .i64 0)), (T.v (.int .i64 0)), (T.v (.int .i64 0)), (T.v (.int .i64 0))] [])), (none, (.bsliceB 4 13 5 [(T.v (.int .i64 0)), (T.v (.int .i64 0)), (T.v (.int .i64 0)), (T.v (.int .i64 0)), (T.sl .nil 0 []), (T.sl .nil 0 []), (T.v (.int .i64 0)), (T.v (.int .i64 0)), (T.v (.string ⟨#[]⟩)), (T.v (.int .i64 0)), (T.v (.int .i64 0)), (T.v (.int .i64 0)), (T.v (.int .i64 0))] [(0, (13, (.r 0))), (13, (13, (.r 1))), (26, (13, (.r 2))), (39, (13, (.r 3))), (52, (13, (.r 4)))])), (none, (.build [(T.sl .nil 0 [])] [(0, (1, (.r 5)))])), (none, (.faddr 4 (.x 1))), (none, (.store 1 (.r 7) (.r 6)))],
  [none, none], false⟩)
(.seq (.reg ⟨[(none, (.load true 6 (.x 1))), (none, (.store 6 (.x 0) (.r 0)))],
  [none, none], false⟩)
.ret)))))⟩

def c_plain_dir : IFn := ⟨1, 2, 1, [(.cell 1 true 13)], [.raw], false, (.seq (.reg ⟨[(none, (.alloc 0 [(T.v (.int .i64 0)), (T.v (.int .i64 0)), (T.v (.int .i64 0)), (T.v (.int .i64 0)), (T.sl .nil 0 []), (T.sl .nil 0 []), (T.v (.int .i64 0)), (T.v (.int .i64 0)), (T.v (.string ⟨#[]⟩)), (T.v (.int .i64 0)), (T.v (.int .i64 0)), (T.v (.int .i64 0)), (T.v (.int .i64 0))]))],
  [none, (some 0)], false⟩)
(.seq (.reg ⟨[(none, (.mv (.x 0))), (none, (.build [(T.v (.int .i64 0)), (T.v (.int .i64 0)), (T.v (.int .i64 0)), (T.v (.int .i64 0)), (T.sl .nil 0 []), (T.sl .nil 0 []), (T.v (.int .i64 0)), (T.v (.int .i64 0)), (T.v (.string ⟨#[]⟩)), (T.v (.int .i64 0)), (T.v (.int .i64 0)), (T.v (.int .i64 0)), (T.v (.int .i64 0))] [(0, (1, (.c (T.v (.int .i64 1))))), (2, (1, (.c (T.v (.int .i64 2))))), (5, (1, (.r 0)))])), (none, (.store 13 (.x 1) (.r 1)))],
  [none, none], false⟩)
.ret))⟩

def c_slices_Clone_Node : IFn := ⟨1, 3, 1, [(.var 1)], [(.box 0)], true, (.seq (.reg ⟨[(none, (.mv (.c (T.sl .nil 0 []))))],
  [none, (some 0), none], false⟩)
(.seq (.seq (.reg ⟨[(none, (.mv (.x 0))), (none, (.eqnil false (.r 0)))],
  [none, none, (some 1)], false⟩)
(.cond (.x 2)
(.seq (.reg ⟨[(none, (.mv (.c (T.sl .nil 0 []))))],
  [none, (some 0), none], false⟩)
.ret)
.skip))
(.seq (.reg ⟨[(none, (.bslice 5 32 13 0 [(T.v (.int .i64 0)), (T.v (.int .i64 0)), (T.v (.int .i64 0)), (T.v (.int .i64 0)), (T.sl .nil 0 []), (T.sl .nil 0 []), (T.v (.int .i64 0)), (T.v (.int .i64 0)), (T.v (.string ⟨#[]⟩)), (T.v (.int .i64 0)), (T.v (.int .i64 0)), (T.v (.int .i64 0)), (T.v (.int .i64 0))] [])), (none, (.mv (.x 0))), (none, (.appendB 0 32 13 144 [(T.v (.int .i64 0)), (T.v (.int .i64 0)), (T.v (.int .i64 0)), (T.v (.int .i64 0)), (T.sl .nil 0 []), (T.sl .nil 0 []), (T.v (.int .i64 0)), (T.v (.int .i64 0)), (T.v (.string ⟨#[]⟩)), (T.v (.int .i64 0)), (T.v (.int .i64 0)), (T.v (.int .i64 0)), (T.v (.int .i64 0))] 0 (.r 0) (.r 1))), (none, (.mv (.r 2)))],
  [none, (some 3), none], false⟩)
.ret)))⟩

def c_spare_Sweep_1 : IFn := ⟨2, 4, 1, [(.var 3)], [.raw], false, (.seq (.reg ⟨[(none, (.box 0 (.x 0))), (none, (.mv (.c (T.v (.bool false)))))],
  [none, none, (some 0), (some 1)], false⟩)
(.seq (.reg ⟨[(none, (.load true 6 (.x 1))), (none, (.load true 3 (.x 2))), (none, (.call 6 F_index_Bad [(.r 0), (.r 1)])), (none, (.mv (.r 2)))],
  [none, none, none, (some 3)], false⟩)
.ret))⟩

def c_walk_Reach : IFn := ⟨2, 4, 4, [(.var 3)], [.raw], false, (.seq (.reg ⟨[(none, (.box 0 (.x 0))), (none, (.mv (.c (T.sl .nil 0 []))))],
  [none, none, (some 0), (some 1)], false⟩)
(.seq (.reg ⟨[(none, (.load true 1 (.x 2))), (none, (.mv (.x 1))), (none, (.callio 7 [2, 6] F_walk_walk [(.r 0), (.r 1)])), (none, (.callio 8 [4] F_walk_trail_reach [(.r 2)])), (none, (.mv (.r 3)))],
  [none, none, none, (some 4)], false⟩)
.ret))⟩

def c_ref03_letter : IFn := ⟨1, 2, 0, [(.var 1)], [.raw], false, (.seq (.reg ⟨[(none, (.mv (.c (T.v (.bool false)))))],
  [none, (some 0)], false⟩)
(.seq (.reg ⟨[(none, (.mv (.x 0))), (none, (.bin .geq 5 (.r 0) (.c (T.v (.int .u8 97))))), (none, (.mv (.r 1))), ((some (2, true)), (.mv (.x 0))), ((some (2, true)), (.bin .leq 5 (.r 3) (.c (T.v (.int .u8 122))))), (none, (.pick (.r 2) (.r 4) (.c (T.v (.bool false))))), (none, (.mv (.r 5))), ((some (6, false)), (.mv (.x 0))), ((some (6, false)), (.bin .geq 5 (.r 7) (.c (T.v (.int .u8 48))))), ((some (6, false)), (.mv (.r 8))), ((some (9, true)), (.mv (.x 0))), ((some (9, true)), (.bin .leq 5 (.r 10) (.c (T.v (.int .u8 57))))), ((some (6, false)), (.pick (.r 9) (.r 11) (.c (T.v (.bool false))))), (none, (.pick (.r 6) (.c (T.v (.bool true))) (.r 12))), (none, (.mv (.r 13))), ((some (14, false)), (.mv (.x 0))), ((some (14, false)), (.bin .eql 5 (.r 15) (.c (T.v (.int .u8 46))))), (none, (.pick (.r 14) (.c (T.v (.bool true))) (.r 16))), (none, (.mv (.r 17))), ((some (18, false)), (.mv (.x 0))), ((some (18, false)), (.bin .eql 5 (.r 19) (.c (T.v (.int .u8 95))))), (none, (.pick (.r 18) (.c (T.v (.bool true))) (.r 20))), (none, (.mv (.r 21))), ((some (22, false)), (.mv (.x 0))), ((some (22, false)), (.bin .eql 5 (.r 23) (.c (T.v (.int .u8 45))))), (none, (.pick (.r 22) (.c (T.v (.bool true))) (.r 24))), (none, (.mv (.r 25)))],
  [none, (some 26)], false⟩)
.ret))⟩

def c_walk_walk : IFn := ⟨2, 13, 3, [(.var 3)], [.raw], false, (.seq (.reg ⟨[(none, (.box 0 (.x 0))), (none, (.mv (.c (T.v (.pointer none)))))],
  [none, none, (some 0), (some 1), none, none, none, none, none, none, none, none, none], false⟩)
(.seq (.reg ⟨[(none, (.load true 1 (.x 2))), (none, (.mkMap 3)), (none, (.build [(T.sl .nil 0 []), (T.sl .nil 0 []), (T.v (.map none)), (T.sl .nil 0 [])] [(0, (1, (.r 0))), (2, (1, (.r 1)))])), (none, (.box 4 (.r 2))), (none, (.mv (.r 3)))],
  [none, none, none, none, (some 4), none, none, none, none, none, none, none, none], false⟩)
(.seq (.reg ⟨[(none, (.mv (.c (T.v (.int .i64 0)))))],
  [none, none, none, none, none, (some 0), none, none, none, none, none, none, none], false⟩)
(.seq (.seq (.reg ⟨[(none, (.mv (.x 1))), (none, (.len false (.r 0))), (none, (.mv (.c (T.v (.int .i64 0)))))],
  [none, none, none, none, none, none, none, (some 0), (some 1), (some 2), none, none, none], false⟩)
(.block 0
(.loop (.seq (.kill [6, 10])
(.seq (.free [])
(.seq (.reg ⟨[(none, (.bin .lss 3 (.x 9) (.x 8)))],
  [none, none, none, none, none, none, none, none, none, none, (some 0), none, none], false⟩)
(.seq (.cond (.x 10)
.skip
(.exit 0))
(.seq (.block 1
(.seq (.reg ⟨[(none, (.iaddrS 1 (.x 7) (.x 9))), (none, (.load false 1 (.r 0))), (none, (.mv (.r 1)))],
  [none, none, none, none, none, none, (some 2), none, none, none, none, none, none], false⟩)
(.jumps 1000000 (.seq (.seq (.reg ⟨[(none, (.mv (.x 4))), (none, (.mv (.x 6))), (none, (.callio 21 [] F_walk_trail_node [(.r 0), (.r 1)])), (none, (.field false 0 1 (.r 2))), (none, (.bin .eql 3 (.r 3) (.c (T.v (.int .i64 1)))))],
  [none, none, none, none, none, none, none, none, none, none, none, (some 4), none], false⟩)
(.cond (.x 11)
(.reg ⟨[(none, (.mv (.x 4))), (none, (.mv (.x 6))), (none, (.build [(T.v (.int .i64 0)), (T.v (.int .i64 0)), (T.v (.string ⟨#[]⟩))] [(0, (1, (.r 1))), (1, (1, (.c (T.v (.int .i64 (-1))))))])), (none, (.callio 27 [] F_walk_trail_come [(.r 0), (.r 2)]))],
  [none, none, none, none, none, none, none, none, none, none, none, none, none], false⟩)
.skip))
(.seq .skip
(.seq (.reg ⟨[(none, (.mv (.x 5))), (none, (.mv (.x 4))), (none, (.nilCheck (.r 1))), (none, (.faddr 1 (.r 2))), (none, (.load false 1 (.r 3))), (none, (.len false (.r 4))), (none, (.bin .lss 3 (.r 0) (.r 5)))],
  [none, none, none, none, none, none, none, none, none, none, none, none, (some 6)], false⟩)
(.cond (.x 12)
(.seq (.reg ⟨[(none, (.mv (.x 4))), (none, (.mv (.x 5))), (none, (.callio 37 [] F_walk_trail_enter [(.r 0), (.r 1)]))],
  [none, none, none, none, none, none, none, none, none, none, none, none, none], false⟩)
(.seq (.reg ⟨[(none, (.mv (.x 5))), (none, (.bin .add 3 (.r 0) (.c (T.v (.int .i64 1))))), (none, (.mv (.r 1)))],
  [none, none, none, none, none, (some 2), none, none, none, none, none, none, none], false⟩)
(.exit 1000000)))
.skip)))) (.seq (.kill [])
(.seq (.free [])
(.seq .skip
(.seq (.reg ⟨[(none, (.mv (.x 5))), (none, (.mv (.x 4))), (none, (.nilCheck (.r 1))), (none, (.faddr 1 (.r 2))), (none, (.load false 1 (.r 3))), (none, (.len false (.r 4))), (none, (.bin .lss 3 (.r 0) (.r 5)))],
  [none, none, none, none, none, none, none, none, none, none, none, none, (some 6)], false⟩)
(.cond (.x 12)
(.seq (.reg ⟨[(none, (.mv (.x 4))), (none, (.mv (.x 5))), (none, (.callio 37 [] F_walk_trail_enter [(.r 0), (.r 1)]))],
  [none, none, none, none, none, none, none, none, none, none, none, none, none], false⟩)
(.seq (.reg ⟨[(none, (.mv (.x 5))), (none, (.bin .add 3 (.r 0) (.c (T.v (.int .i64 1))))), (none, (.mv (.r 1)))],
  [none, none, none, none, none, (some 2), none, none, none, none, none, none, none], false⟩)
(.exit 1000000)))
.skip))))))))
(.reg ⟨[(none, (.bin .add 3 (.x 9) (.c (T.v (.int .i64 1))))), (none, (.mv (.r 0)))],
  [none, none, none, none, none, none, none, none, none, (some 1), none, none, none], false⟩)))))))))
(.seq (.reg ⟨[(none, (.mv (.x 4))), (none, (.mv (.r 0)))],
  [none, none, none, (some 1), none, none, none, none, none, none, none, none, none], false⟩)
.ret)))))⟩

def c_walk_trail_reach : IFn := ⟨1, 12, 5, [(.var 1)], [.raw], false, (.seq (.reg ⟨[(none, (.mv (.c (T.sl .nil 0 []))))],
  [none, (some 0), none, none, none, none, none, none, none, none, none, none], false⟩)
(.seq (.reg ⟨[(none, (.mv (.x 0))), (none, (.nilCheck (.r 0))), (none, (.faddr 0 (.r 1))), (none, (.faddr 0 (.r 2))), (none, (.load false 1 (.r 3))), (none, (.len false (.r 4))), (none, (.mkBox 6 1 1 [(T.v (.bool false))] (.r 5))), (none, (.alloc 0 [(T.sl .nil 0 [])])), (none, (.store 1 (.r 7) (.r 6)))],
  [none, none, (some 7), none, none, none, none, none, none, none, none, none], false⟩)
(.seq (.seq (.reg ⟨[(none, (.mv (.x 0))), (none, (.nilCheck (.r 0))), (none, (.faddr 1 (.r 1))), (none, (.load false 1 (.r 2))), (none, (.len false (.r 3))), (none, (.mv (.c (T.v (.int .i64 0)))))],
  [none, none, none, none, none, (some 3), (some 4), (some 5), none, none, none, none], false⟩)
(.block 0
(.loop (.seq (.kill [1, 3, 4, 8, 9, 11])
(.seq (.free [2, 3])
(.seq (.reg ⟨[(none, (.bin .lss 3 (.x 7) (.x 6)))],
  [none, none, none, none, none, none, none, none, (some 0), none, none, none], false⟩)
(.seq (.cond (.x 8)
.skip
(.exit 0))
(.seq (.block 1
(.seq (.reg ⟨[(none, (.iaddrS 3 (.x 5) (.x 7))), (none, (.load true 3 (.r 0))), (none, (.alloc 2 [(T.v (.int .i64 0)), (T.v (.int .i64 0)), (T.v (.string ⟨#[]⟩))])), (none, (.store 3 (.r 2) (.r 1)))],
  [none, none, none, (some 2), none, none, none, none, none, none, none, none], false⟩)
(.reg ⟨[(none, (.load false 1 (.x 2))), (none, (.faddr 0 (.x 3))), (none, (.load false 1 (.r 1))), (none, (.bin .sub 3 (.r 2) (.c (T.v (.int .i64 1))))), (none, (.iaddrS 1 (.r 0) (.r 3))), (none, (.store 1 (.r 4) (.c (T.v (.bool true)))))],
  [none, none, none, none, none, none, none, none, none, none, none, none], false⟩)))
(.reg ⟨[(none, (.bin .add 3 (.x 7) (.c (T.v (.int .i64 1))))), (none, (.mv (.r 0)))],
  [none, none, none, none, none, none, none, (some 1), none, none, none, none], false⟩)))))))))
(.seq (.seq (.reg ⟨[(none, (.mv (.x 0))), (none, (.callio 30 [8] F_walk_trail_names [(.r 0)]))],
  [none, none, none, none, none, none, none, none, none, (some 1), none, none], false⟩)
(.block 2
(.range 10 (.x 9) [10] (.reg ⟨[(none, (.alloc 4 [(T.v (.int .i64 0)), (T.v (.int .i64 0)), (T.v (.string ⟨#[]⟩))])), (none, (.store 3 (.r 0) (.x 10)))],
  [none, none, none, none, (some 0), none, none, none, none, none, none, none], false⟩) (.block 3
(.seq (.reg ⟨[(none, (.faddr 1 (.x 4))), (none, (.load false 1 (.r 0))), (none, (.bin .geq 3 (.r 1) (.c (T.v (.int .i64 1))))), (none, (.mv (.r 2))), ((some (3, true)), (.faddr 1 (.x 4))), ((some (3, true)), (.load false 1 (.r 4))), ((some (3, true)), (.load false 1 (.x 2))), ((some (3, true)), (.len false (.r 6))), ((some (3, true)), (.bin .leq 3 (.r 5) (.r 7))), (none, (.pick (.r 3) (.r 8) (.c (T.v (.bool false)))))],
  [none, none, none, none, none, none, none, none, none, none, none, (some 9)], false⟩)
(.cond (.x 11)
(.reg ⟨[(none, (.load false 1 (.x 2))), (none, (.faddr 1 (.x 4))), (none, (.load false 1 (.r 1))), (none, (.bin .sub 3 (.r 2) (.c (T.v (.int .i64 1))))), (none, (.iaddrS 1 (.r 0) (.r 3))), (none, (.store 1 (.r 4) (.c (T.v (.bool true)))))],
  [none, none, none, none, none, none, none, none, none, none, none, none], false⟩)
.skip))))))
(.seq (.reg ⟨[(none, (.load false 1 (.x 2))), (none, (.mv (.r 0)))],
  [none, (some 1), none, none, none, none, none, none, none, none, none, none], false⟩)
.ret)))))⟩

def c_walk_trail_node : IFn := ⟨2, 4, 1, [(.cell 2 true 13)], [.raw], false, (.seq (.reg ⟨[(none, (.alloc 0 [(T.v (.int .i64 0)), (T.v (.int .i64 0)), (T.v (.int .i64 0)), (T.v (.int .i64 0)), (T.sl .nil 0 []), (T.sl .nil 0 []), (T.v (.int .i64 0)), (T.v (.int .i64 0)), (T.v (.string ⟨#[]⟩)), (T.v (.int .i64 0)), (T.v (.int .i64 0)), (T.v (.int .i64 0)), (T.v (.int .i64 0))]))],
  [none, none, (some 0), none], false⟩)
(.seq (.seq (.reg ⟨[(none, (.mv (.x 1))), (none, (.bin .lss 3 (.r 0) (.c (T.v (.int .i64 1))))), (none, (.mv (.r 1))), ((some (2, false)), (.mv (.x 1))), ((some (2, false)), (.mv (.x 0))), ((some (2, false)), (.nilCheck (.r 4))), ((some (2, false)), (.faddr 0 (.r 5))), ((some (2, false)), (.faddr 0 (.r 6))), ((some (2, false)), (.load false 1 (.r 7))), ((some (2, false)), (.len false (.r 8))), ((some (2, false)), (.bin .gtr 3 (.r 3) (.r 9))), (none, (.pick (.r 2) (.c (T.v (.bool true))) (.r 10)))],
  [none, none, none, (some 11)], false⟩)
(.cond (.x 3)
(.seq (.reg ⟨[(none, (.build [(T.v (.int .i64 0)), (T.v (.int .i64 0)), (T.v (.int .i64 0)), (T.v (.int .i64 0)), (T.sl .nil 0 []), (T.sl .nil 0 []), (T.v (.int .i64 0)), (T.v (.int .i64 0)), (T.v (.string ⟨#[]⟩)), (T.v (.int .i64 0)), (T.v (.int .i64 0)), (T.v (.int .i64 0)), (T.v (.int .i64 0))] [])), (none, (.store 13 (.x 2) (.r 0)))],
  [none, none, none, none], false⟩)
.ret)
.skip))
(.seq (.reg ⟨[(none, (.mv (.x 0))), (none, (.nilCheck (.r 0))), (none, (.faddr 0 (.r 1))), (none, (.faddr 0 (.r 2))), (none, (.load false 1 (.r 3))), (none, (.mv (.x 1))), (none, (.bin .sub 3 (.r 5) (.c (T.v (.int .i64 1))))), (none, (.iaddrS 13 (.r 4) (.r 6))), (none, (.load true 13 (.r 7))), (none, (.store 13 (.x 2) (.r 8)))],
  [none, none, none, none], false⟩)
.ret)))⟩

def c_walk_trail_come : IFn := ⟨2, 5, 1, [(.var 3)], [.raw], false, (.seq (.reg ⟨[(none, (.box 0 (.x 1))), (none, (.mv (.c (T.v (.bool false)))))],
  [none, none, (some 0), (some 1), none], false⟩)
(.seq (.seq (.reg ⟨[(none, (.mv (.x 0))), (none, (.nilCheck (.r 0))), (none, (.faddr 2 (.r 1))), (none, (.load false 1 (.r 2))), (none, (.faddr 0 (.x 2))), (none, (.load false 1 (.r 4))), (none, (.lookup .int (T.v (.int .i64 0)) false (.r 3) (.r 5))), (none, (.bin .gtr 3 (.r 6) (.c (T.v (.int .i64 0)))))],
  [none, none, none, none, (some 7)], true⟩)
(.cond (.x 4)
(.seq (.reg ⟨[(none, (.mv (.c (T.v (.bool false)))))],
  [none, none, none, (some 0), none], false⟩)
.ret)
.skip))
(.seq (.reg ⟨[(none, (.mv (.x 0))), (none, (.nilCheck (.r 0))), (none, (.faddr 2 (.r 1))), (none, (.load false 1 (.r 2))), (none, (.faddr 0 (.x 2))), (none, (.load false 1 (.r 4))), (none, (.lookup .int (T.v (.int .i64 0)) false (.r 3) (.r 5))), (none, (.bin .add 3 (.r 6) (.c (T.v (.int .i64 1))))), (none, (.mapUpdate .int (.r 3) (.r 5) (.r 7)))],
  [none, none, none, none, none], true⟩)
(.seq (.reg ⟨[(none, (.mv (.x 0))), (none, (.mv (.x 0))), (none, (.nilCheck (.r 1))), (none, (.faddr 1 (.r 2))), (none, (.load false 1 (.r 3))), (none, (.load true 3 (.x 2))), (none, (.bslice 27 93 3 1 [(T.v (.int .i64 0)), (T.v (.int .i64 0)), (T.v (.string ⟨#[]⟩))] [(0, (3, (.r 5)))])), (none, (.append 28 93 3 32 [(T.v (.int .i64 0)), (T.v (.int .i64 0)), (T.v (.string ⟨#[]⟩))] 0 (.r 4) (.r 6))), (none, (.nilCheck (.r 0))), (none, (.faddr 1 (.r 8))), (none, (.store 1 (.r 9) (.r 7)))],
  [none, none, none, none, none], true⟩)
(.seq (.reg ⟨[(none, (.mv (.c (T.v (.bool true)))))],
  [none, none, none, (some 0), none], false⟩)
.ret)))))⟩

def c_walk_trail_enter : IFn := ⟨2, 9, 1, [], [], false, (.seq (.reg ⟨[(none, (.mv (.x 0))), (none, (.nilCheck (.r 0))), (none, (.faddr 1 (.r 1))), (none, (.load false 1 (.r 2))), (none, (.mv (.x 1))), (none, (.iaddrS 3 (.r 3) (.r 4))), (none, (.faddr 0 (.r 5))), (none, (.load false 1 (.r 6))), (none, (.mv (.r 7)))],
  [none, none, (some 8), none, none, none, none, none, none], false⟩)
(.seq (.reg ⟨[(none, (.mv (.x 0))), (none, (.mv (.x 2))), (none, (.callio 17 [] F_walk_trail_node [(.r 0), (.r 1)])), (none, (.field false 5 1 (.r 2))), (none, (.len false (.r 3))), (none, (.mv (.c (T.v (.int .i64 0)))))],
  [none, none, none, none, (some 3), (some 4), (some 5), none, none], false⟩)
(.block 0
(.loop (.seq (.kill [3, 7, 8])
(.seq (.free [0, 1])
(.seq (.reg ⟨[(none, (.bin .lss 3 (.x 6) (.x 5)))],
  [none, none, none, none, none, none, none, (some 0), none], false⟩)
(.seq (.cond (.x 7)
.skip
(.exit 0))
(.seq (.block 1
(.seq (.reg ⟨[(none, (.iaddrS 3 (.x 4) (.x 6))), (none, (.load true 3 (.r 0))), (none, (.alloc 0 [(T.v (.int .i64 0)), (T.v (.int .i64 0)), (T.v (.string ⟨#[]⟩))])), (none, (.store 3 (.r 2) (.r 1)))],
  [none, none, none, (some 2), none, none, none, none, none], false⟩)
(.seq (.reg ⟨[(none, (.mv (.x 0))), (none, (.faddr 1 (.x 3))), (none, (.load false 1 (.r 1))), (none, (.callio 27 [] F_walk_trail_node [(.r 0), (.r 2)])), (none, (.field false 0 1 (.r 3))), (none, (.bin .eql 3 (.r 4) (.c (T.v (.int .i64 1))))), (none, (.mv (.r 5))), ((some (6, true)), (.mv (.x 0))), ((some (6, true)), (.faddr 1 (.x 3))), ((some (6, true)), (.load false 1 (.r 8))), ((some (6, true)), (.mv (.x 1))), ((some (6, true)), (.faddr 2 (.x 3))), ((some (6, true)), (.load false 1 (.r 11))), ((some (6, true)), (.build [(T.v (.int .i64 0)), (T.v (.int .i64 0)), (T.v (.string ⟨#[]⟩))] [(0, (1, (.r 9))), (1, (1, (.r 10))), (2, (1, (.r 12)))])), ((some (6, true)), (.callio 38 [] F_walk_trail_come [(.r 7), (.r 13)])), ((some (6, true)), (.un .not (.r 14))), (none, (.pick (.r 6) (.r 15) (.c (T.v (.bool false)))))],
  [none, none, none, none, none, none, none, none, (some 16)], false⟩)
(.cond (.x 8)
(.reg ⟨[(none, (.mv (.x 0))), (none, (.mv (.x 0))), (none, (.nilCheck (.r 1))), (none, (.faddr 3 (.r 2))), (none, (.load false 1 (.r 3))), (none, (.mv (.x 2))), (none, (.faddr 0 (.x 3))), (none, (.load false 1 (.r 6))), (none, (.build [(T.v (.int .i64 0)), (T.v (.int .i64 0))] [(0, (1, (.r 5))), (1, (1, (.r 7)))])), (none, (.bslice 50 110 2 1 [(T.v (.int .i64 0)), (T.v (.int .i64 0))] [(0, (2, (.r 8)))])), (none, (.append 51 110 2 16 [(T.v (.int .i64 0)), (T.v (.int .i64 0))] 0 (.r 4) (.r 9))), (none, (.nilCheck (.r 0))), (none, (.faddr 3 (.r 11))), (none, (.store 1 (.r 12) (.r 10)))],
  [none, none, none, none, none, none, none, none, none], true⟩)
.skip))))
(.reg ⟨[(none, (.bin .add 3 (.x 6) (.c (T.v (.int .i64 1))))), (none, (.mv (.r 0)))],
  [none, none, none, none, none, none, (some 1), none, none], false⟩))))))))))⟩

def c_walk_trail_names : IFn := ⟨1, 3, 1, [(.var 2)], [.raw], false, (.seq (.reg ⟨[(none, (.box 0 (.x 0))), (none, (.mv (.c (T.v .nilFunc))))],
  [none, (some 0), (some 1)], false⟩)
(.seq (.reg ⟨[(none, (.mkFunc (.func F_walk_trail_names_1) [] [(.x 1)])), (none, (.mv (.r 0)))],
  [none, none, (some 1)], false⟩)
.ret))⟩

def c_walk_trail_names_1 : IFn := ⟨2, 13, 2, [], [], false, (.nojump (.seq .skip
(.seq (.reg ⟨[(none, (.load false 1 (.x 1))), (none, (.nilCheck (.r 0))), (none, (.faddr 1 (.r 1))), (none, (.load false 1 (.r 2))), (none, (.len false (.r 3))), (none, (.mv (.c (T.v (.int .i64 0)))))],
  [none, none, none, none, (some 3), (some 4), (some 5), none, none, none, none, none, none], false⟩)
(.block 0
(.loop (.seq (.kill [2, 3, 7, 8, 9, 10, 11, 12])
(.seq (.free [0, 1])
(.seq (.reg ⟨[(none, (.bin .lss 3 (.x 6) (.x 5)))],
  [none, none, none, none, none, none, none, (some 0), none, none, none, none, none], false⟩)
(.seq (.cond (.x 7)
.skip
(.exit 0))
(.seq (.block 1
(.seq (.reg ⟨[(none, (.iaddrS 3 (.x 4) (.x 6))), (none, (.load true 3 (.r 0))), (none, (.alloc 0 [(T.v (.int .i64 0)), (T.v (.int .i64 0)), (T.v (.string ⟨#[]⟩))])), (none, (.store 3 (.r 2) (.r 1)))],
  [none, none, (some 2), none, none, none, none, none, none, none, none, none, none], false⟩)
(.seq (.reg ⟨[(none, (.load false 1 (.x 1))), (none, (.faddr 0 (.x 2))), (none, (.load false 1 (.r 1))), (none, (.callio 19 [] F_walk_trail_node [(.r 0), (.r 2)])), (none, (.field false 5 1 (.r 3))), (none, (.len false (.r 4))), (none, (.mv (.c (T.v (.int .i64 0)))))],
  [none, none, none, none, none, none, none, none, (some 4), (some 5), (some 6), none, none], false⟩)
(.block 2
(.loop (.seq (.kill [2, 3, 7, 11, 12])
(.seq (.free [2, 3])
(.seq (.reg ⟨[(none, (.bin .lss 3 (.x 10) (.x 9)))],
  [none, none, none, none, none, none, none, none, none, none, none, (some 0), none], false⟩)
(.seq (.cond (.x 11)
.skip
(.exit 2))
(.seq (.block 3
(.seq (.reg ⟨[(none, (.iaddrS 3 (.x 8) (.x 10))), (none, (.load true 3 (.r 0))), (none, (.alloc 2 [(T.v (.int .i64 0)), (T.v (.int .i64 0)), (T.v (.string ⟨#[]⟩))])), (none, (.store 3 (.r 2) (.r 1)))],
  [none, none, none, (some 2), none, none, none, none, none, none, none, none, none], false⟩)
(.seq (.reg ⟨[(none, (.mv (.x 0))), (none, (.load true 3 (.x 3))), (none, (.callv 28 (.r 0) [(.r 1)])), (none, (.un .not (.r 2)))],
  [none, none, none, none, none, none, none, none, none, none, none, none, (some 3)], false⟩)
(.cond (.x 12)
(.exit 0)
.skip))))
(.reg ⟨[(none, (.bin .add 3 (.x 10) (.c (T.v (.int .i64 1))))), (none, (.mv (.r 0)))],
  [none, none, none, none, none, none, none, none, none, none, (some 1), none, none], false⟩)))))))))))
(.reg ⟨[(none, (.bin .add 3 (.x 6) (.c (T.v (.int .i64 1))))), (none, (.mv (.r 0)))],
  [none, none, none, none, none, none, (some 1), none, none, none, none, none, none], false⟩)))))))))))⟩

/-- The functions in the small code. -/
def code : FuncId → Option IFn
  | 3 => some c_law46_SpareTells
  | 4 => some c_plain_Branch
  | 5 => some c_plain_Node
  | 6 => some c_law46_awake
  | 7 => some c_spare_Put
  | 8 => some c_ref46_Put
  | 9 => some c_spare_Inode
  | 10 => some c_ref46_Inode
  | 11 => some c_ref12_SameNode
  | 12 => some c_spare_Drop
  | 13 => some c_ref46_Drop
  | 14 => some c_slices_ContainsFunc_Node
  | 15 => some c_plain_Branch_1
  | 16 => some c_slices_ContainsFunc_Entry
  | 17 => some c_plain_odd
  | 18 => some c_plain_Idle
  | 19 => some c_spare_Sweep
  | 20 => some c_ref13_At
  | 21 => some c_slices_Index_bool
  | 22 => some c_slices_IndexFunc_Entry
  | 23 => some c_spare_Put_1
  | 25 => some c_slices_Clone_Entry
  | 26 => some c_ref46_slot
  | 27 => some c_ref01_Same
  | 28 => some c_ref08_Same
  | 29 => some c_slices_DeleteFunc_Entry
  | 30 => some c_spare_Drop_1
  | 31 => some c_slices_IndexFunc_Node
  | 32 => some c_ref03_Right
  | 33 => some c_plain_Base
  | 34 => some c_plain_dir
  | 35 => some c_slices_Clone_Node
  | 36 => some c_spare_Sweep_1
  | 38 => some c_walk_Reach
  | 41 => some c_ref03_letter
  | 44 => some c_walk_walk
  | 45 => some c_walk_trail_reach
  | 51 => some c_walk_trail_node
  | 52 => some c_walk_trail_come
  | 53 => some c_walk_trail_enter
  | 54 => some c_walk_trail_names
  | 59 => some c_walk_trail_names_1
  | _ => none

end Go.Vi.Dd
end
