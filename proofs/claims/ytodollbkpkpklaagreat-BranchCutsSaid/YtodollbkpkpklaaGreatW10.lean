/-
  A claim's own text, joined by a small program out of: ZzCode.
-/
import Derived.Test.YtodollbkpkpklaaGreatW0
set_option linter.unusedVariables false
set_option linter.unusedSimpArgs false
section
/-
  The functions that the laws reach, in the small code (printed by a program of mine).
-/
set_option maxRecDepth 100000
namespace Go.Vi.Zz
open Go Go.Vi

def F_main_main : Nat := 0
def F_gosem_cut : Nat := 1
def F_gosem_cut_init : Nat := 2
def F_law12_BranchReads : Nat := 3
def F_law12_BranchCuts : Nat := 4
def F_law12_BranchImages : Nat := 5
def F_law12_few : Nat := 6
def F_law12_awake : Nat := 7
def F_branch_Inodes : Nat := 8
def F_ref12_Inodes : Nat := 9
def F_slices_Equal_Inode : Nat := 10
def F_slices_Equal_int : Nat := 11
def F_bytes_Equal : Nat := 12
def F_branch_Data : Nat := 13
def F_ref12_Data : Nat := 14
def F_branch_Decode : Nat := 15
def F_ref12_Decode : Nat := 16
def F_ref12_Same : Nat := 17
def F_slices_Equal_Finding : Nat := 18
def F_slices_EqualFunc_Lbyte : Nat := 19
def F_branch_Cut : Nat := 20
def F_ref12_Cut : Nat := 21
def F_plain_Image : Nat := 22
def F_ref06_Get : Nat := 23
def F_slices_ContainsFunc_Lbyte : Nat := 24
def F_law12_few_1 : Nat := 25
def F_plain_Base : Nat := 26
def F_plain_Bytes : Nat := 27
def F_branch_region_right : Nat := 28
def F_inode_Get : Nat := 29
def F_ref12_right : Nat := 30
def F_ref07_Get : Nat := 31
def F_branch_region_data : Nat := 32
def F_ref12_Block : Nat := 33
def F_branch_Decode_1 : Nat := 34
def F_claim_Bad : Nat := 35
def F_branch_region_attrs : Nat := 36
def F_branch_region_entries : Nat := 37
def F_slices_Concat_Finding : Nat := 38
def F_ref12_node : Nat := 39
def F_ref12_finding : Nat := 40
def F_ref11_Bad : Nat := 41
def F_ref12_SameNode : Nat := 42
def F_geo_Bitmap : Nat := 43
def F_geo_Total : Nat := 44
def F_slices_Chunk_byte : Nat := 45
def F_slices_Clone_byte : Nat := 46
def F_ref06_Start : Nat := 47
def F_ref06_Total : Nat := 48
def F_ref06_Layer : Nat := 49
def F_ref06_Check : Nat := 50
def F_ref01_Same : Nat := 51
def F_ref06_Bytes : Nat := 52
def F_slices_IndexFunc_Lbyte : Nat := 53
def F_plain_dir : Nat := 54
def F_ref40_Image : Nat := 55
def F_geo_Check : Nat := 56
def F_inode_read : Nat := 57
def F_inode_Put : Nat := 58
def F_ref01_Get : Nat := 59
def F_ref07_Right : Nat := 60
def F_ref07_Bytes : Nat := 61
def F_branch_region_block : Nat := 62
def F_ref11_Valid : Nat := 63
def F_claim_owners : Nat := 64
def F_claim_pointers : Nat := 65
def F_attr_Get : Nat := 66
def F_entry_Parse : Nat := 67
def F_branch_region_good : Nat := 68
def F_slices_Sort_int : Nat := 69
def F_slices_Grow_Finding : Nat := 70
def F_ref09_Get : Nat := 71
def F_ref12_entries : Nat := 72
def F_ref11_pointer : Nat := 73
def F_ref08_Same : Nat := 74
def F_geo_layout_start : Nat := 75
def F_geo_layout_log : Nat := 76
def F_slices_Chunk_byte_1 : Nat := 77
def F_ref02_Seal : Nat := 78
def F_ref40_Right : Nat := 79
def F_ref40_sectors : Nat := 80
def F_ref27_Empty : Nat := 81
def F_geo_within : Nat := 82
def F_inode_numbers : Nat := 83
def F_num_Get : Nat := 84
def F_inode_Right : Nat := 85
def F_num_Put : Nat := 86
def F_sum_Seal : Nat := 87
def F_ref01_right : Nat := 88
def F_ref07_count : Nat := 89
def F_ref01_Bytes : Nat := 90
def F_claim_Valid : Nat := 91
def F_slices_Clone_int : Nat := 92
def F_claim_pointers_1 : Nat := 93
def F_attr_Put : Nat := 94
def F_entry_Get : Nat := 95
def F_slices_ContainsFunc_Entry : Nat := 96
def F_branch_region_good_1 : Nat := 97
def F_slices_pdqsortOrdered_int : Nat := 98
def F_math_bits_Len : Nat := 99
def F_ref09_Right : Nat := 100
def F_ref09_Bytes : Nat := 101
def F_ref08_Get : Nat := 102
def F_ref12_good : Nat := 103
def F_geo_layout_layer : Nat := 104
def F_ref01_Put : Nat := 105
def F_ref02_Of : Nat := 106
def F_ref40_layer : Nat := 107
def F_ref40_takes : Nat := 108
def F_ref40_block : Nat := 109
def F_ref10_Put : Nat := 110
def F_num_there : Nat := 111
def F_inode_odd : Nat := 112
def F_num_Right : Nat := 113
def F_num_lay : Nat := 114
def F_sum_Of : Nat := 115
def F_attr_Right : Nat := 116
def F_name_Unpack : Nat := 117
def F_entry_Put : Nat := 118
def F_slices_IndexFunc_Entry : Nat := 119
def F_slices_insertionSortOrdered_int : Nat := 120
def F_slices_heapSortOrdered_int : Nat := 121
def F_slices_breakPatternsOrdered_int : Nat := 122
def F_slices_choosePivotOrdered_int : Nat := 123
def F_slices_reverseRangeOrdered_int : Nat := 124
def F_slices_partialInsertionSortOrdered_int : Nat := 125
def F_cmp_Less_int : Nat := 126
def F_slices_partitionEqualOrdered_int : Nat := 127
def F_slices_partitionOrdered_int : Nat := 128
def F_math_bits_Len32 : Nat := 129
def F_math_bits_Len64 : Nat := 130
def F_ref09_count : Nat := 131
def F_ref09_has : Nat := 132
def F_ref03_Unpack : Nat := 133
def F_ref08_Right : Nat := 134
def F_ref01_Right : Nat := 135
def F_ref02_Sums : Nat := 136
def F_ref40_node : Nat := 137
def F_ref08_Block : Nat := 138
def F_num_width : Nat := 139
def F_sum_Sums : Nat := 140
def F_attr_within : Nat := 141
def F_attr_Drop : Nat := 142
def F_name_Right : Nat := 143
def F_name_Pack : Nat := 144
def F_entry_Right : Nat := 145
def F_slices_siftDownOrdered_int : Nat := 146
def F_slices_nextPowerOfTwo : Nat := 147
def F_slices_xorshift_Next : Nat := 148
def F_slices_medianAdjacentOrdered_int : Nat := 149
def F_slices_medianOrdered_int : Nat := 150
def F_cmp_isNaN_int : Nat := 151
def F_ref03_Pack : Nat := 152
def F_ref03_Right : Nat := 153
def F_ref08_Bytes : Nat := 154
def F_sum_wrap : Nat := 155
def F_strings_IndexFunc : Nat := 156
def F_name_Right_1 : Nat := 157
def F_name_letter : Nat := 158
def F_slices_order2Ordered_int : Nat := 159
def F_ref03_letter : Nat := 160
def F_strings_indexFunc : Nat := 161
def F_runtime_boundsError_Error : Nat := 162
def F_runtime_boundsError_RuntimeError : Nat := 163
def F_runtime_errorString_Error : Nat := 164
def F_runtime_errorString_RuntimeError : Nat := 165
def F_runtime_plainError_Error : Nat := 166
def F_runtime_plainError_RuntimeError : Nat := 167
def F_runtime_errorAddressString_Error : Nat := 168
def F_runtime_errorAddressString_RuntimeError : Nat := 169
def F_runtime_TypeAssertionError_Error : Nat := 170
def F_runtime_TypeAssertionError_RuntimeError : Nat := 171
def F_runtime_PanicNilError_Error : Nat := 172
def F_runtime_PanicNilError_RuntimeError : Nat := 173
def F_internal_abi_Type_Align : Nat := 174
def F_internal_runtime_maps_unhashableTypeError_Error : Nat := 175
def F_internal_runtime_maps_unhashableTypeError_RuntimeError : Nat := 176
def F_internal_abi_Kind_String : Nat := 177

@[simp] theorem Lt_law12_BranchCuts : F_law12_BranchCuts < ioBase := by decide
@[simp] theorem Lt_law12_awake : F_law12_awake < ioBase := by decide
@[simp] theorem Lt_branch_Inodes : F_branch_Inodes < ioBase := by decide
@[simp] theorem Lt_bytes_Equal : F_bytes_Equal < ioBase := by decide
@[simp] theorem Lt_branch_Data : F_branch_Data < ioBase := by decide
@[simp] theorem Lt_branch_Decode : F_branch_Decode < ioBase := by decide
@[simp] theorem Lt_ref12_Same : F_ref12_Same < ioBase := by decide
@[simp] theorem Lt_slices_EqualFunc_Lbyte : F_slices_EqualFunc_Lbyte < ioBase := by decide
@[simp] theorem Lt_branch_Cut : F_branch_Cut < ioBase := by decide
@[simp] theorem Lt_ref12_Cut : F_ref12_Cut < ioBase := by decide
@[simp] theorem Lt_plain_Base : F_plain_Base < ioBase := by decide
@[simp] theorem Lt_plain_Bytes : F_plain_Bytes < ioBase := by decide
@[simp] theorem Lt_branch_region_right : F_branch_region_right < ioBase := by decide
@[simp] theorem Lt_inode_Get : F_inode_Get < ioBase := by decide
@[simp] theorem Lt_branch_region_data : F_branch_region_data < ioBase := by decide
@[simp] theorem Lt_claim_Bad : F_claim_Bad < ioBase := by decide
@[simp] theorem Lt_branch_region_attrs : F_branch_region_attrs < ioBase := by decide
@[simp] theorem Lt_branch_region_entries : F_branch_region_entries < ioBase := by decide
@[simp] theorem Lt_slices_Concat_Finding : F_slices_Concat_Finding < ioBase := by decide
@[simp] theorem Lt_ref12_SameNode : F_ref12_SameNode < ioBase := by decide
@[simp] theorem Lt_geo_Bitmap : F_geo_Bitmap < ioBase := by decide
@[simp] theorem Lt_geo_Total : F_geo_Total < ioBase := by decide
@[simp] theorem Lt_slices_Chunk_byte : F_slices_Chunk_byte < ioBase := by decide
@[simp] theorem Lt_slices_Clone_byte : F_slices_Clone_byte < ioBase := by decide
@[simp] theorem Lt_ref06_Start : F_ref06_Start < ioBase := by decide
@[simp] theorem Lt_ref06_Total : F_ref06_Total < ioBase := by decide
@[simp] theorem Lt_ref06_Layer : F_ref06_Layer < ioBase := by decide
@[simp] theorem Lt_ref06_Check : F_ref06_Check < ioBase := by decide
@[simp] theorem Lt_ref01_Same : F_ref01_Same < ioBase := by decide
@[simp] theorem Lt_ref06_Bytes : F_ref06_Bytes < ioBase := by decide
@[simp] theorem Lt_plain_dir : F_plain_dir < ioBase := by decide
@[simp] theorem Lt_ref40_Image : F_ref40_Image < ioBase := by decide
@[simp] theorem Lt_geo_Check : F_geo_Check < ioBase := by decide
@[simp] theorem Lt_inode_read : F_inode_read < ioBase := by decide
@[simp] theorem Lt_inode_Put : F_inode_Put < ioBase := by decide
@[simp] theorem Lt_ref07_Right : F_ref07_Right < ioBase := by decide
@[simp] theorem Lt_ref07_Bytes : F_ref07_Bytes < ioBase := by decide
@[simp] theorem Lt_branch_region_block : F_branch_region_block < ioBase := by decide
@[simp] theorem Lt_claim_owners : F_claim_owners < ioBase := by decide
@[simp] theorem Lt_claim_pointers : F_claim_pointers < ioBase := by decide
@[simp] theorem Lt_entry_Parse : F_entry_Parse < ioBase := by decide
@[simp] theorem Lt_branch_region_good : F_branch_region_good < ioBase := by decide
@[simp] theorem Lt_slices_Sort_int : F_slices_Sort_int < ioBase := by decide
@[simp] theorem Lt_slices_Grow_Finding : F_slices_Grow_Finding < ioBase := by decide
@[simp] theorem Lt_ref08_Same : F_ref08_Same < ioBase := by decide
@[simp] theorem Lt_geo_layout_start : F_geo_layout_start < ioBase := by decide
@[simp] theorem Lt_geo_layout_log : F_geo_layout_log < ioBase := by decide
@[simp] theorem Lt_ref02_Seal : F_ref02_Seal < ioBase := by decide
@[simp] theorem Lt_ref40_Right : F_ref40_Right < ioBase := by decide
@[simp] theorem Lt_ref40_sectors : F_ref40_sectors < ioBase := by decide
@[simp] theorem Lt_ref27_Empty : F_ref27_Empty < ioBase := by decide
@[simp] theorem Lt_geo_within : F_geo_within < ioBase := by decide
@[simp] theorem Lt_inode_numbers : F_inode_numbers < ioBase := by decide
@[simp] theorem Lt_num_Get : F_num_Get < ioBase := by decide
@[simp] theorem Lt_inode_Right : F_inode_Right < ioBase := by decide
@[simp] theorem Lt_num_Put : F_num_Put < ioBase := by decide
@[simp] theorem Lt_sum_Seal : F_sum_Seal < ioBase := by decide
@[simp] theorem Lt_ref01_right : F_ref01_right < ioBase := by decide
@[simp] theorem Lt_ref07_count : F_ref07_count < ioBase := by decide
@[simp] theorem Lt_ref01_Bytes : F_ref01_Bytes < ioBase := by decide
@[simp] theorem Lt_claim_Valid : F_claim_Valid < ioBase := by decide
@[simp] theorem Lt_slices_Clone_int : F_slices_Clone_int < ioBase := by decide
@[simp] theorem Lt_claim_pointers_1 : F_claim_pointers_1 < ioBase := by decide
@[simp] theorem Lt_entry_Get : F_entry_Get < ioBase := by decide
@[simp] theorem Lt_slices_ContainsFunc_Entry : F_slices_ContainsFunc_Entry < ioBase := by decide
@[simp] theorem Lt_slices_pdqsortOrdered_int : F_slices_pdqsortOrdered_int < ioBase := by decide
@[simp] theorem Lt_math_bits_Len : F_math_bits_Len < ioBase := by decide
@[simp] theorem Lt_ref09_Right : F_ref09_Right < ioBase := by decide
@[simp] theorem Lt_geo_layout_layer : F_geo_layout_layer < ioBase := by decide
@[simp] theorem Lt_ref01_Put : F_ref01_Put < ioBase := by decide
@[simp] theorem Lt_ref02_Of : F_ref02_Of < ioBase := by decide
@[simp] theorem Lt_ref40_layer : F_ref40_layer < ioBase := by decide
@[simp] theorem Lt_ref40_takes : F_ref40_takes < ioBase := by decide
@[simp] theorem Lt_ref40_block : F_ref40_block < ioBase := by decide
@[simp] theorem Lt_ref10_Put : F_ref10_Put < ioBase := by decide
@[simp] theorem Lt_num_there : F_num_there < ioBase := by decide
@[simp] theorem Lt_inode_odd : F_inode_odd < ioBase := by decide
@[simp] theorem Lt_num_Right : F_num_Right < ioBase := by decide
@[simp] theorem Lt_num_lay : F_num_lay < ioBase := by decide
@[simp] theorem Lt_sum_Of : F_sum_Of < ioBase := by decide
@[simp] theorem Lt_name_Unpack : F_name_Unpack < ioBase := by decide
@[simp] theorem Lt_entry_Put : F_entry_Put < ioBase := by decide
@[simp] theorem Lt_slices_IndexFunc_Entry : F_slices_IndexFunc_Entry < ioBase := by decide
@[simp] theorem Lt_slices_insertionSortOrdered_int : F_slices_insertionSortOrdered_int < ioBase := by decide
@[simp] theorem Lt_math_bits_Len64 : F_math_bits_Len64 < ioBase := by decide
@[simp] theorem Lt_ref09_count : F_ref09_count < ioBase := by decide
@[simp] theorem Lt_ref09_has : F_ref09_has < ioBase := by decide
@[simp] theorem Lt_ref08_Right : F_ref08_Right < ioBase := by decide
@[simp] theorem Lt_ref01_Right : F_ref01_Right < ioBase := by decide
@[simp] theorem Lt_ref02_Sums : F_ref02_Sums < ioBase := by decide
@[simp] theorem Lt_ref40_node : F_ref40_node < ioBase := by decide
@[simp] theorem Lt_ref08_Block : F_ref08_Block < ioBase := by decide
@[simp] theorem Lt_num_width : F_num_width < ioBase := by decide
@[simp] theorem Lt_sum_Sums : F_sum_Sums < ioBase := by decide
@[simp] theorem Lt_name_Right : F_name_Right < ioBase := by decide
@[simp] theorem Lt_name_Pack : F_name_Pack < ioBase := by decide
@[simp] theorem Lt_entry_Right : F_entry_Right < ioBase := by decide
@[simp] theorem Lt_ref03_Pack : F_ref03_Pack < ioBase := by decide
@[simp] theorem Lt_ref03_Right : F_ref03_Right < ioBase := by decide
@[simp] theorem Lt_ref08_Bytes : F_ref08_Bytes < ioBase := by decide
@[simp] theorem Lt_sum_wrap : F_sum_wrap < ioBase := by decide
@[simp] theorem Lt_strings_IndexFunc : F_strings_IndexFunc < ioBase := by decide
@[simp] theorem Lt_name_Right_1 : F_name_Right_1 < ioBase := by decide
@[simp] theorem Lt_name_letter : F_name_letter < ioBase := by decide
@[simp] theorem Lt_ref03_letter : F_ref03_letter < ioBase := by decide

def c_law12_BranchCuts : IFn := ⟨3, 6, 1, [(.var 4)], [.raw], false, (.seq (.reg ⟨[(none, (.box 0 (.x 0))), (none, (.mv (.c (T.v (.bool false)))))],
  [none, none, none, (some 0), (some 1), none], false⟩)
(.seq (.seq (.reg ⟨[(none, (.mv (.x 1))), (none, (.len false (.r 0))), (none, (.bin .gtr 3 (.r 1) (.c (T.v (.int .i64 12800)))))],
  [none, none, none, none, none, (some 2)], false⟩)
(.cond (.x 5)
(.seq (.reg ⟨[(none, (.call 10 F_law12_awake [])), (none, (.mv (.r 0)))],
  [none, none, none, none, (some 1), none], false⟩)
.ret)
.skip))
(.seq (.reg ⟨[(none, (.load true 4 (.x 3))), (none, (.mv (.x 1))), (none, (.mv (.x 2))), (none, (.call 14 F_branch_Cut [(.r 0), (.r 1), (.r 2)])), (none, (.load true 4 (.x 3))), (none, (.mv (.x 1))), (none, (.mv (.x 2))), (none, (.call 18 F_ref12_Cut [(.r 4), (.r 5), (.r 6)])), (none, (.call 19 F_slices_EqualFunc_Lbyte [(.r 3), (.r 7), (.c (T.v (.func (.func F_bytes_Equal) #[] #[])))])), (none, (.mv (.r 8))), ((some (9, true)), (.call 21 F_law12_awake [])), (none, (.pick (.r 9) (.r 10) (.c (T.v (.bool false))))), (none, (.mv (.r 11)))],
  [none, none, none, none, (some 12), none], true⟩)
.ret)))⟩

def c_law12_awake : IFn := ⟨0, 8, 2, [(.var 0)], [.raw], false, (.seq (.reg ⟨[(none, (.mv (.c (T.v (.bool false)))))],
  [(some 0), none, none, none, none, none, none, none], false⟩)
(.seq (.reg ⟨[(none, (.call 8 F_plain_Base [])), (none, (.alloc 0 [(T.v (.int .i64 0)), (T.v (.int .i64 0)), (T.v (.int .i64 0)), (T.v (.int .i64 0)), (T.sl .nil 0 []), (T.sl .nil 0 [])])), (none, (.store 6 (.r 1) (.r 0)))],
  [none, (some 1), none, none, none, none, none, none], false⟩)
(.seq (.reg ⟨[(none, (.load true 6 (.x 1))), (none, (.call 10 F_plain_Bytes [(.r 0)])), (none, (.mv (.r 1)))],
  [none, none, (some 2), none, none, none, none, none], false⟩)
(.seq (.reg ⟨[(none, (.faddr 0 (.x 1))), (none, (.load true 4 (.r 0))), (none, (.mv (.x 2))), (none, (.call 14 F_branch_Cut [(.r 1), (.r 2), (.c (T.v (.int .i64 1)))])), (none, (.mv (.r 3)))],
  [none, none, none, (some 4), none, none, none, none], false⟩)
(.seq (.reg ⟨[(none, (.faddr 0 (.x 1))), (none, (.load true 4 (.r 0))), (none, (.mv (.x 3))), (none, (.call 19 F_branch_Decode [(.r 1), (.r 2), (.c (T.v (.int .i64 1))), (.c (T.v (.int .i64 1)))])), (none, (.mv (.r 3))), (none, (.extract (.r 4) 0)), (none, (.extract (.r 4) 1)), (none, (.alloc 2 [(T.sl .nil 0 [])])), (none, (.store 1 (.r 7) (.r 5))), (none, (.mv (.r 6)))],
  [none, none, none, none, (some 7), (some 9), none, none], false⟩)
(.seq (.reg ⟨[(none, (.faddr 0 (.x 1))), (none, (.load true 4 (.r 0))), (none, (.mv (.x 3))), (none, (.call 26 F_branch_Inodes [(.r 1), (.r 2)])), (none, (.mv (.r 3))), (none, (.extract (.r 4) 0)), (none, (.extract (.r 4) 1)), (none, (.mv (.r 5))), (none, (.mv (.r 6)))],
  [none, none, none, none, none, none, (some 7), (some 8)], false⟩)
(.seq (.reg ⟨[(none, (.mv (.x 3))), (none, (.len false (.r 0))), (none, (.bin .eql 3 (.r 1) (.c (T.v (.int .i64 12))))), (none, (.mv (.r 2))), ((some (3, true)), (.load true 1 (.x 4))), ((some (3, true)), (.faddr 5 (.x 1))), ((some (3, true)), (.load false 1 (.r 5))), ((some (3, true)), (.iaddrS 1 (.r 6) (.c (T.v (.int .i64 0))))), ((some (3, true)), (.load true 1 (.r 7))), ((some (3, true)), (.call 38 F_ref12_Same [(.r 4), (.r 8)])), (none, (.pick (.r 3) (.r 9) (.c (T.v (.bool false))))), (none, (.mv (.r 10))), ((some (11, true)), (.mv (.x 5))), ((some (11, true)), (.len false (.r 12))), ((some (11, true)), (.bin .eql 3 (.r 13) (.c (T.v (.int .i64 0))))), (none, (.pick (.r 11) (.r 14) (.c (T.v (.bool false))))), (none, (.mv (.r 15))), ((some (16, true)), (.mv (.x 6))), ((some (16, true)), (.len false (.r 17))), ((some (16, true)), (.bin .eql 3 (.r 18) (.c (T.v (.int .i64 5))))), (none, (.pick (.r 16) (.r 19) (.c (T.v (.bool false))))), (none, (.mv (.r 20))), ((some (21, true)), (.mv (.x 7))), ((some (21, true)), (.len false (.r 22))), ((some (21, true)), (.bin .eql 3 (.r 23) (.c (T.v (.int .i64 0))))), (none, (.pick (.r 21) (.r 24) (.c (T.v (.bool false))))), (none, (.mv (.r 25))), ((some (26, true)), (.mv (.x 3))), ((some (26, true)), (.faddr 0 (.x 1))), ((some (26, true)), (.load true 4 (.r 28))), ((some (26, true)), (.mv (.x 6))), ((some (26, true)), (.call 60 F_branch_Data [(.r 27), (.r 29), (.r 30), (.c (T.v (.int .i64 2)))])), ((some (26, true)), (.bslice 61 5 1 1 [(T.v (.int .u8 0))] [(0, (1, (.c (T.v (.int .u8 120)))))])), ((some (26, true)), (.call 62 F_bytes_Equal [(.r 31), (.r 32)])), (none, (.pick (.r 26) (.r 33) (.c (T.v (.bool false))))), (none, (.mv (.r 34)))],
  [(some 35), none, none, none, none, none, none, none], true⟩)
.ret)))))))⟩

def c_branch_Inodes : IFn := ⟨2, 17, 2, [(.var 3), (.var 4)], [.raw, .raw], false, (.seq (.reg ⟨[(none, (.box 0 (.x 0))), (none, (.mv (.c (T.sl .nil 0 [])))), (none, (.mv (.c (T.sl .nil 0 []))))],
  [none, none, (some 0), (some 1), (some 2), none, none, none, none, none, none, none, none, none, none, none, none], false⟩)
(.seq (.seq (.reg ⟨[(none, (.load true 4 (.x 2))), (none, (.mv (.x 1))), (none, (.build [(T.v (.int .i64 0)), (T.v (.int .i64 0)), (T.v (.int .i64 0)), (T.v (.int .i64 0)), (T.sl .nil 0 []), (T.sl .nil 0 [])] [(0, (4, (.r 0))), (4, (1, (.r 1)))])), (none, (.call 15 F_branch_region_right [(.r 2)])), (none, (.un .not (.r 3)))],
  [none, none, none, none, none, none, none, none, none, none, none, (some 4), none, none, none, none, none], false⟩)
(.cond (.x 11)
(.seq (.reg ⟨[(none, (.mv (.c (T.sl .nil 0 [])))), (none, (.mv (.c (T.sl .nil 0 []))))],
  [none, none, none, (some 0), (some 1), none, none, none, none, none, none, none, none, none, none, none, none], false⟩)
.ret)
.skip))
(.seq (.reg ⟨[(none, (.mv (.c (T.sl .nil 0 []))))],
  [none, none, none, none, none, (some 0), none, none, none, none, none, none, none, none, none, none, none], false⟩)
(.seq (.reg ⟨[(none, (.mv (.c (T.sl .nil 0 []))))],
  [none, none, none, none, none, none, (some 0), none, none, none, none, none, none, none, none, none, none], false⟩)
(.seq (.seq (.reg ⟨[(none, (.mv (.x 1))), (none, (.faddr 1 (.x 2))), (none, (.load false 1 (.r 1))), (none, (.bin .add 3 (.c (T.v (.int .i64 1))) (.r 2))), (none, (.sliceT 1 (.r 0) (some (.c (T.v (.int .i64 1)))) (some (.r 3)) none)), (none, (.len false (.r 4))), (none, (.mv (.c (T.v (.int .i64 0)))))],
  [none, none, none, none, none, none, none, none, none, none, none, none, (some 4), (some 5), (some 6), none, none], false⟩)
(.block 0
(.loop (.seq (.kill [0, 1, 2, 3, 4, 7, 8, 9, 10, 11, 15, 16])
(.seq (.free [2, 3])
(.seq (.reg ⟨[(none, (.bin .lss 3 (.x 14) (.x 13)))],
  [none, none, none, none, none, none, none, none, none, none, none, none, none, none, none, (some 0), none], false⟩)
(.seq (.cond (.x 15)
.skip
(.exit 0))
(.seq (.block 1
(.seq (.reg ⟨[(none, (.mv (.x 14))), (none, (.iaddrS 1 (.x 12) (.x 14))), (none, (.load false 1 (.r 1))), (none, (.mv (.r 0))), (none, (.mv (.r 2)))],
  [none, none, none, none, none, none, none, (some 3), (some 4), none, none, none, none, none, none, none, none], false⟩)
(.seq (.reg ⟨[(none, (.mv (.x 8))), (none, (.call 30 F_inode_Get [(.r 0)])), (none, (.mv (.r 1))), (none, (.extract (.r 2) 0)), (none, (.extract (.r 2) 1)), (none, (.alloc 2 (List.replicate 10 (T.v (.int .i64 0))))), (none, (.store 10 (.r 5) (.r 3))), (none, (.mv (.r 4)))],
  [none, none, none, none, none, none, none, none, none, (some 5), (some 7), none, none, none, none, none, none], false⟩)
(.seq (.seq (.reg ⟨[(none, (.mv (.x 10))), (none, (.un .not (.r 0)))],
  [none, none, none, none, none, none, none, none, none, none, none, none, none, none, none, none, (some 1)], false⟩)
(.cond (.x 16)
(.reg ⟨[(none, (.mv (.x 6))), (none, (.mv (.x 7))), (none, (.bin .add 3 (.r 1) (.c (T.v (.int .i64 1))))), (none, (.bslice 38 3 1 1 [(T.v (.int .i64 0))] [(0, (1, (.r 2)))])), (none, (.append 39 3 1 8 [(T.v (.int .i64 0))] 0 (.r 0) (.r 3))), (none, (.mv (.r 4)))],
  [none, none, none, none, none, none, (some 5), none, none, none, none, none, none, none, none, none, none], false⟩)
.skip))
(.reg ⟨[(none, (.mv (.x 5))), (none, (.load true 10 (.x 9))), (none, (.bslice 42 34 10 1 (List.replicate 10 (T.v (.int .i64 0))) [(0, (10, (.r 1)))])), (none, (.append 43 34 10 80 (List.replicate 10 (T.v (.int .i64 0))) 0 (.r 0) (.r 2))), (none, (.mv (.r 3)))],
  [none, none, none, none, none, (some 4), none, none, none, none, none, none, none, none, none, none, none], false⟩)))))
(.reg ⟨[(none, (.bin .add 3 (.x 14) (.c (T.v (.int .i64 1))))), (none, (.mv (.r 0)))],
  [none, none, none, none, none, none, none, none, none, none, none, none, none, none, (some 1), none, none], false⟩)))))))))
(.seq (.reg ⟨[(none, (.mv (.x 5))), (none, (.mv (.x 6))), (none, (.mv (.r 0))), (none, (.mv (.r 1)))],
  [none, none, none, (some 2), (some 3), none, none, none, none, none, none, none, none, none, none, none, none], false⟩)
.ret))))))⟩

def c_bytes_Equal : IFn := ⟨2, 3, 0, [(.var 2)], [.raw], false, (.seq (.reg ⟨[(none, (.mv (.c (T.v (.bool false)))))],
  [none, none, (some 0)], false⟩)
(.seq (.reg ⟨[(none, (.mv (.x 0))), (none, (.toStr (.r 0))), (none, (.mv (.x 1))), (none, (.toStr (.r 2))), (none, (.bin .eql 9 (.r 1) (.r 3))), (none, (.mv (.r 4)))],
  [none, none, (some 5)], false⟩)
.ret))⟩

def c_branch_Data : IFn := ⟨4, 6, 1, [(.var 5)], [.raw], false, (.seq (.reg ⟨[(none, (.box 0 (.x 1))), (none, (.mv (.c (T.sl .nil 0 []))))],
  [none, none, none, none, (some 0), (some 1)], false⟩)
(.seq (.reg ⟨[(none, (.load true 4 (.x 4))), (none, (.mv (.x 0))), (none, (.mv (.x 2))), (none, (.build [(T.v (.int .i64 0)), (T.v (.int .i64 0)), (T.v (.int .i64 0)), (T.v (.int .i64 0)), (T.sl .nil 0 []), (T.sl .nil 0 [])] [(0, (4, (.r 0))), (4, (1, (.r 1))), (5, (1, (.r 2)))])), (none, (.mv (.x 3))), (none, (.call 14 F_branch_region_data [(.r 3), (.r 4)])), (none, (.mv (.r 5)))],
  [none, none, none, none, none, (some 6)], false⟩)
.ret))⟩

def c_branch_Decode : IFn := ⟨4, 40, 10, [(.cell 6 true 1), (.var 7)], [.raw, .raw], false, (.seq (.reg ⟨[(none, (.box 0 (.x 0))), (none, (.box 2 (.x 3))), (none, (.alloc 4 [(T.sl .nil 0 [])])), (none, (.mv (.c (T.sl .nil 0 []))))],
  [none, none, none, none, (some 0), (some 1), (some 2), (some 3), none, none, none, none, none, none, none, none, none, none, none, none, none, none, none, none, none, none, none, none, none, none, none, none, none, none, none, none, none, none, none, none], false⟩)
(.seq (.reg ⟨[(none, (.load true 4 (.x 4))), (none, (.mv (.x 1))), (none, (.build [(T.v (.int .i64 0)), (T.v (.int .i64 0)), (T.v (.int .i64 0)), (T.v (.int .i64 0)), (T.sl .nil 0 []), (T.sl .nil 0 [])] [(0, (4, (.r 0))), (4, (1, (.r 1)))])), (none, (.alloc 6 [(T.v (.int .i64 0)), (T.v (.int .i64 0)), (T.v (.int .i64 0)), (T.v (.int .i64 0)), (T.sl .nil 0 []), (T.sl .nil 0 [])])), (none, (.store 6 (.r 3) (.r 2)))],
  [none, none, none, none, none, none, none, none, (some 3), none, none, none, none, none, none, none, none, none, none, none, none, none, none, none, none, none, none, none, none, none, none, none, none, none, none, none, none, none, none, none], false⟩)
(.seq (.seq (.reg ⟨[(none, (.load true 6 (.x 8))), (none, (.call 30 F_branch_region_right [(.r 0)])), (none, (.un .not (.r 1)))],
  [none, none, none, none, none, none, none, none, none, none, none, none, none, none, none, none, none, none, none, none, none, (some 2), none, none, none, none, none, none, none, none, none, none, none, none, none, none, none, none, none, none], false⟩)
(.cond (.x 21)
(.seq (.reg ⟨[(none, (.build [(T.sl .nil 0 [])] [])), (none, (.store 1 (.x 6) (.r 0))), (none, (.mv (.c (T.sl .nil 0 []))))],
  [none, none, none, none, none, none, none, (some 2), none, none, none, none, none, none, none, none, none, none, none, none, none, none, none, none, none, none, none, none, none, none, none, none, none, none, none, none, none, none, none, none], false⟩)
.ret)
.skip))
(.seq (.reg ⟨[(none, (.mv (.c (T.sl .nil 0 []))))],
  [none, none, none, none, none, none, none, none, none, (some 0), none, none, none, none, none, none, none, none, none, none, none, none, none, none, none, none, none, none, none, none, none, none, none, none, none, none, none, none, none, none], false⟩)
(.seq (.reg ⟨[(none, (.load true 4 (.x 4))), (none, (.mv (.x 1))), (none, (.call 36 F_branch_Inodes [(.r 0), (.r 1)])), (none, (.mv (.r 2))), (none, (.extract (.r 3) 0)), (none, (.extract (.r 3) 1)), (none, (.faddr 5 (.x 8))), (none, (.store 1 (.r 6) (.r 4))), (none, (.mv (.r 5)))],
  [none, none, none, none, none, none, none, none, none, (some 8), none, none, none, none, none, none, none, none, none, none, none, none, none, none, none, none, none, none, none, none, none, none, none, none, none, none, none, none, none, none], false⟩)
(.seq (.reg ⟨[(none, (.mkMap 19)), (none, (.alloc 8 [(T.v (.map none))])), (none, (.store 1 (.r 1) (.r 0)))],
  [none, none, none, none, none, none, none, none, none, none, (some 1), none, none, none, none, none, none, none, none, none, none, none, none, none, none, none, none, none, none, none, none, none, none, none, none, none, none, none, none, none], false⟩)
(.seq (.reg ⟨[(none, (.mkFunc (.func F_branch_Decode_1) [] [(.x 10), (.x 5)])), (none, (.mv (.r 0)))],
  [none, none, none, none, none, none, none, none, none, none, none, (some 1), none, none, none, none, none, none, none, none, none, none, none, none, none, none, none, none, none, none, none, none, none, none, none, none, none, none, none, none], false⟩)
(.seq (.seq (.reg ⟨[(none, (.faddr 5 (.x 8))), (none, (.load false 1 (.r 0))), (none, (.faddr 2 (.x 4))), (none, (.load false 1 (.r 2))), (none, (.call 46 F_claim_Bad [(.r 1), (.r 3)])), (none, (.len false (.r 4))), (none, (.mv (.c (T.v (.int .i64 0)))))],
  [none, none, none, none, none, none, none, none, none, none, none, none, none, none, none, none, none, none, none, none, none, none, (some 4), (some 5), (some 6), none, none, none, none, none, none, none, none, none, none, none, none, none, none, none], false⟩)
(.block 0
(.loop (.seq (.kill [0, 1, 3, 4, 5, 7, 12, 13, 14, 15, 16, 17, 18, 19, 20, 21, 25, 26, 27, 28, 29, 30, 31, 32, 33, 34, 35, 36, 37, 38, 39])
(.seq (.free [10, 11])
(.seq (.reg ⟨[(none, (.bin .lss 3 (.x 24) (.x 23)))],
  [none, none, none, none, none, none, none, none, none, none, none, none, none, none, none, none, none, none, none, none, none, none, none, none, none, (some 0), none, none, none, none, none, none, none, none, none, none, none, none, none, none], false⟩)
(.seq (.cond (.x 25)
.skip
(.exit 0))
(.seq (.block 1
(.seq (.reg ⟨[(none, (.iaddrS 2 (.x 22) (.x 24))), (none, (.load true 2 (.r 0))), (none, (.alloc 10 [(T.v (.int .i64 0)), (T.v (.int .i64 0))])), (none, (.store 2 (.r 2) (.r 1)))],
  [none, none, none, none, none, none, none, none, none, none, none, none, (some 2), none, none, none, none, none, none, none, none, none, none, none, none, none, none, none, none, none, none, none, none, none, none, none, none, none, none, none], false⟩)
(.reg ⟨[(none, (.mv (.x 11))), (none, (.iaddrA 2 1 (.x 12) (.c (T.v (.int .i64 0))))), (none, (.load false 1 (.r 1))), (none, (.iaddrA 2 1 (.x 12) (.c (T.v (.int .i64 1))))), (none, (.load false 1 (.r 3))), (none, (.callv 57 (.r 0) [(.c (T.v (.int .i64 1))), (.r 2), (.r 4)]))],
  [none, none, none, none, none, none, none, none, none, none, none, none, none, none, none, none, none, none, none, none, none, none, none, none, none, none, none, none, none, none, none, none, none, none, none, none, none, none, none, none], false⟩)))
(.reg ⟨[(none, (.bin .add 3 (.x 24) (.c (T.v (.int .i64 1))))), (none, (.mv (.r 0)))],
  [none, none, none, none, none, none, none, none, none, none, none, none, none, none, none, none, none, none, none, none, none, none, none, none, (some 1), none, none, none, none, none, none, none, none, none, none, none, none, none, none, none], false⟩)))))))))
(.seq (.seq (.reg ⟨[(none, (.mv (.x 9))), (none, (.len false (.r 0))), (none, (.mv (.c (T.v (.int .i64 0)))))],
  [none, none, none, none, none, none, none, none, none, none, none, none, none, none, none, none, none, none, none, none, none, none, none, none, none, none, (some 0), (some 1), (some 2), none, none, none, none, none, none, none, none, none, none, none], false⟩)
(.block 2
(.loop (.seq (.kill [0, 1, 3, 4, 5, 7, 9, 12, 13, 14, 15, 16, 17, 18, 19, 20, 21, 22, 23, 24, 25, 29, 30, 31, 32, 33, 34, 35, 36, 37, 38, 39])
(.seq (.free [])
(.seq (.reg ⟨[(none, (.bin .lss 3 (.x 28) (.x 27)))],
  [none, none, none, none, none, none, none, none, none, none, none, none, none, none, none, none, none, none, none, none, none, none, none, none, none, none, none, none, none, (some 0), none, none, none, none, none, none, none, none, none, none], false⟩)
(.seq (.cond (.x 29)
.skip
(.exit 2))
(.seq (.block 3
(.seq (.reg ⟨[(none, (.iaddrS 1 (.x 26) (.x 28))), (none, (.load false 1 (.r 0))), (none, (.mv (.r 1)))],
  [none, none, none, none, none, none, none, none, none, none, none, none, none, (some 2), none, none, none, none, none, none, none, none, none, none, none, none, none, none, none, none, none, none, none, none, none, none, none, none, none, none], false⟩)
(.reg ⟨[(none, (.mv (.x 11))), (none, (.mv (.x 13))), (none, (.callv 67 (.r 0) [(.c (T.v (.int .i64 4))), (.r 1), (.c (T.v (.int .i64 (-1))))]))],
  [none, none, none, none, none, none, none, none, none, none, none, none, none, none, none, none, none, none, none, none, none, none, none, none, none, none, none, none, none, none, none, none, none, none, none, none, none, none, none, none], false⟩)))
(.reg ⟨[(none, (.bin .add 3 (.x 28) (.c (T.v (.int .i64 1))))), (none, (.mv (.r 0)))],
  [none, none, none, none, none, none, none, none, none, none, none, none, none, none, none, none, none, none, none, none, none, none, none, none, none, none, none, none, (some 1), none, none, none, none, none, none, none, none, none, none, none], false⟩)))))))))
(.seq (.reg ⟨[(none, (.alloc 12 [(T.sl .nil 0 [])]))],
  [none, none, none, none, none, none, none, none, none, none, none, none, none, none, (some 0), none, none, none, none, none, none, none, none, none, none, none, none, none, none, none, none, none, none, none, none, none, none, none, none, none], false⟩)
(.seq (.seq (.reg ⟨[(none, (.faddr 5 (.x 8))), (none, (.load false 1 (.r 0))), (none, (.len false (.r 1))), (none, (.mv (.c (T.v (.int .i64 0)))))],
  [none, none, none, none, none, none, none, none, none, none, none, none, none, none, none, none, none, none, none, none, none, none, none, none, none, none, none, none, none, none, (some 1), (some 2), (some 3), none, none, none, none, none, none, none], false⟩)
(.block 4
(.loop (.seq (.kill [0, 1, 3, 4, 5, 7, 9, 12, 13, 15, 16, 17, 18, 19, 20, 21, 22, 23, 24, 25, 26, 27, 28, 29, 33, 34, 35, 36, 37, 38, 39])
(.seq (.free [14, 15, 16, 17])
(.seq (.reg ⟨[(none, (.bin .lss 3 (.x 32) (.x 31)))],
  [none, none, none, none, none, none, none, none, none, none, none, none, none, none, none, none, none, none, none, none, none, none, none, none, none, none, none, none, none, none, none, none, none, (some 0), none, none, none, none, none, none], false⟩)
(.seq (.cond (.x 33)
.skip
(.exit 4))
(.seq (.block 5
(.seq (.reg ⟨[(none, (.mv (.x 32))), (none, (.iaddrS 10 (.x 30) (.x 32))), (none, (.load true 10 (.r 1))), (none, (.alloc 14 (List.replicate 10 (T.v (.int .i64 0))))), (none, (.mv (.r 0))), (none, (.store 10 (.r 3) (.r 2)))],
  [none, none, none, none, none, none, none, none, none, none, none, none, none, none, none, (some 4), (some 3), none, none, none, none, none, none, none, none, none, none, none, none, none, none, none, none, none, none, none, none, none, none, none], false⟩)
(.seq (.reg ⟨[(none, (.faddr 0 (.x 16))), (none, (.load false 1 (.r 0))), (none, (.faddr 1 (.x 16))), (none, (.load false 1 (.r 2))), (none, (.faddr 2 (.x 16))), (none, (.load false 1 (.r 4))), (none, (.faddr 3 (.x 16))), (none, (.load false 1 (.r 6))), (none, (.load true 6 (.x 8))), (none, (.mv (.x 15))), (none, (.bin .add 3 (.r 9) (.c (T.v (.int .i64 1))))), (none, (.call 88 F_branch_region_data [(.r 8), (.r 10)])), (none, (.build [(T.v (.int .i64 0)), (T.v (.int .i64 0)), (T.v (.int .i64 0)), (T.v (.int .i64 0)), (T.sl .nil 0 []), (T.sl .nil 0 []), (T.v (.int .i64 0)), (T.v (.int .i64 0)), (T.v (.string ⟨#[]⟩)), (T.v (.int .i64 0)), (T.v (.int .i64 0)), (T.v (.int .i64 0)), (T.v (.int .i64 0))] [(0, (1, (.r 1))), (1, (1, (.r 3))), (2, (1, (.r 5))), (3, (1, (.r 7))), (4, (1, (.r 11)))])), (none, (.alloc 16 [(T.v (.int .i64 0)), (T.v (.int .i64 0)), (T.v (.int .i64 0)), (T.v (.int .i64 0)), (T.sl .nil 0 []), (T.sl .nil 0 []), (T.v (.int .i64 0)), (T.v (.int .i64 0)), (T.v (.string ⟨#[]⟩)), (T.v (.int .i64 0)), (T.v (.int .i64 0)), (T.v (.int .i64 0)), (T.v (.int .i64 0))])), (none, (.store 13 (.r 13) (.r 12)))],
  [none, none, none, none, none, none, none, none, none, none, none, none, none, none, none, none, none, (some 13), none, none, none, none, none, none, none, none, none, none, none, none, none, none, none, none, none, none, none, none, none, none], true⟩)
(.seq (.reg ⟨[(none, (.mv (.c (T.v (.bool true)))))],
  [none, none, none, none, none, none, none, none, none, none, none, none, none, none, none, none, none, none, (some 0), none, none, none, none, none, none, none, none, none, none, none, none, none, none, none, none, none, none, none, none, none], false⟩)
(.seq (.seq (.reg ⟨[(none, (.load true 6 (.x 8))), (none, (.mv (.x 15))), (none, (.bin .add 3 (.r 1) (.c (T.v (.int .i64 1))))), (none, (.call 94 F_branch_region_attrs [(.r 0), (.r 2)])), (none, (.mv (.r 3))), (none, (.extract (.r 4) 0)), (none, (.extract (.r 4) 1)), (none, (.faddr 6 (.x 17))), (none, (.store 7 (.r 7) (.r 5))), (none, (.mv (.r 6)))],
  [none, none, none, none, none, none, none, none, none, none, none, none, none, none, none, none, none, none, (some 9), none, none, none, none, none, none, none, none, none, none, none, none, none, none, none, none, none, none, none, none, none], false⟩)
(.seq (.reg ⟨[(none, (.mv (.x 18))), (none, (.un .not (.r 0)))],
  [none, none, none, none, none, none, none, none, none, none, none, none, none, none, none, none, none, none, none, none, none, none, none, none, none, none, none, none, none, none, none, none, none, none, (some 1), none, none, none, none, none], false⟩)
(.cond (.x 34)
(.reg ⟨[(none, (.mv (.x 11))), (none, (.mv (.x 15))), (none, (.bin .add 3 (.r 1) (.c (T.v (.int .i64 1))))), (none, (.callv 103 (.r 0) [(.c (T.v (.int .i64 2))), (.r 2), (.c (T.v (.int .i64 (-1))))]))],
  [none, none, none, none, none, none, none, none, none, none, none, none, none, none, none, none, none, none, none, none, none, none, none, none, none, none, none, none, none, none, none, none, none, none, none, none, none, none, none, none], false⟩)
.skip)))
(.seq (.seq (.reg ⟨[(none, (.faddr 0 (.x 16))), (none, (.load false 1 (.r 0))), (none, (.bin .eql 3 (.r 1) (.c (T.v (.int .i64 1)))))],
  [none, none, none, none, none, none, none, none, none, none, none, none, none, none, none, none, none, none, none, none, none, none, none, none, none, none, none, none, none, none, none, none, none, none, none, (some 2), none, none, none, none], false⟩)
(.cond (.x 35)
(.seq (.reg ⟨[(none, (.mv (.c (T.sl .nil 0 []))))],
  [none, none, none, none, none, none, none, none, none, none, none, none, none, none, none, none, none, none, none, (some 0), none, none, none, none, none, none, none, none, none, none, none, none, none, none, none, none, none, none, none, none], false⟩)
(.seq (.reg ⟨[(none, (.load true 6 (.x 8))), (none, (.mv (.x 15))), (none, (.bin .add 3 (.r 1) (.c (T.v (.int .i64 1))))), (none, (.mv (.x 2))), (none, (.call 112 F_branch_region_entries [(.r 0), (.r 2), (.r 3)])), (none, (.mv (.r 4))), (none, (.extract (.r 5) 0)), (none, (.extract (.r 5) 1)), (none, (.faddr 5 (.x 17))), (none, (.store 1 (.r 8) (.r 6))), (none, (.mv (.r 7)))],
  [none, none, none, none, none, none, none, none, none, none, none, none, none, none, none, none, none, none, none, (some 10), none, none, none, none, none, none, none, none, none, none, none, none, none, none, none, none, none, none, none, none], false⟩)
(.seq (.reg ⟨[(none, (.mv (.x 19))), (none, (.len false (.r 0))), (none, (.mv (.c (T.v (.int .i64 0)))))],
  [none, none, none, none, none, none, none, none, none, none, none, none, none, none, none, none, none, none, none, none, none, none, none, none, none, none, none, none, none, none, none, none, none, none, none, none, (some 0), (some 1), (some 2), none], false⟩)
(.block 6
(.loop (.seq (.kill [0, 1, 3, 4, 5, 7, 9, 12, 13, 16, 18, 19, 20, 21, 22, 23, 24, 25, 26, 27, 28, 29, 33, 34, 35, 39])
(.seq (.free [])
(.seq (.reg ⟨[(none, (.bin .lss 3 (.x 38) (.x 37)))],
  [none, none, none, none, none, none, none, none, none, none, none, none, none, none, none, none, none, none, none, none, none, none, none, none, none, none, none, none, none, none, none, none, none, none, none, none, none, none, none, (some 0)], false⟩)
(.seq (.cond (.x 39)
.skip
(.exit 6))
(.seq (.block 7
(.seq (.reg ⟨[(none, (.iaddrS 1 (.x 36) (.x 38))), (none, (.load false 1 (.r 0))), (none, (.mv (.r 1)))],
  [none, none, none, none, none, none, none, none, none, none, none, none, none, none, none, none, none, none, none, none, (some 2), none, none, none, none, none, none, none, none, none, none, none, none, none, none, none, none, none, none, none], false⟩)
(.reg ⟨[(none, (.mv (.x 11))), (none, (.mv (.x 15))), (none, (.bin .add 3 (.r 1) (.c (T.v (.int .i64 1))))), (none, (.mv (.x 20))), (none, (.callv 126 (.r 0) [(.c (T.v (.int .i64 5))), (.r 2), (.r 3)]))],
  [none, none, none, none, none, none, none, none, none, none, none, none, none, none, none, none, none, none, none, none, none, none, none, none, none, none, none, none, none, none, none, none, none, none, none, none, none, none, none, none], false⟩)))
(.reg ⟨[(none, (.bin .add 3 (.x 38) (.c (T.v (.int .i64 1))))), (none, (.mv (.r 0)))],
  [none, none, none, none, none, none, none, none, none, none, none, none, none, none, none, none, none, none, none, none, none, none, none, none, none, none, none, none, none, none, none, none, none, none, none, none, none, none, (some 1), none], false⟩)))))))))))
.skip))
(.reg ⟨[(none, (.faddr 0 (.x 14))), (none, (.load false 1 (.r 0))), (none, (.load true 13 (.x 17))), (none, (.bslice 131 84 13 1 [(T.v (.int .i64 0)), (T.v (.int .i64 0)), (T.v (.int .i64 0)), (T.v (.int .i64 0)), (T.sl .nil 0 []), (T.sl .nil 0 []), (T.v (.int .i64 0)), (T.v (.int .i64 0)), (T.v (.string ⟨#[]⟩)), (T.v (.int .i64 0)), (T.v (.int .i64 0)), (T.v (.int .i64 0)), (T.v (.int .i64 0))] [(0, (13, (.r 2)))])), (none, (.append 132 84 13 144 [(T.v (.int .i64 0)), (T.v (.int .i64 0)), (T.v (.int .i64 0)), (T.v (.int .i64 0)), (T.sl .nil 0 []), (T.sl .nil 0 []), (T.v (.int .i64 0)), (T.v (.int .i64 0)), (T.v (.string ⟨#[]⟩)), (T.v (.int .i64 0)), (T.v (.int .i64 0)), (T.v (.int .i64 0)), (T.v (.int .i64 0))] 0 (.r 1) (.r 3))), (none, (.faddr 0 (.x 14))), (none, (.store 1 (.r 5) (.r 4)))],
  [none, none, none, none, none, none, none, none, none, none, none, none, none, none, none, none, none, none, none, none, none, none, none, none, none, none, none, none, none, none, none, none, none, none, none, none, none, none, none, none], false⟩)))))))
(.reg ⟨[(none, (.bin .add 3 (.x 32) (.c (T.v (.int .i64 1))))), (none, (.mv (.r 0)))],
  [none, none, none, none, none, none, none, none, none, none, none, none, none, none, none, none, none, none, none, none, none, none, none, none, none, none, none, none, none, none, none, none, (some 1), none, none, none, none, none, none, none], false⟩)))))))))
(.seq (.reg ⟨[(none, (.load true 1 (.x 14))), (none, (.load false 1 (.x 10))), (none, (.lookup .int (T.sl .nil 0 []) false (.r 1) (.c (T.v (.int .i64 1))))), (none, (.load false 1 (.x 10))), (none, (.lookup .int (T.sl .nil 0 []) false (.r 3) (.c (T.v (.int .i64 2))))), (none, (.load false 1 (.x 10))), (none, (.lookup .int (T.sl .nil 0 []) false (.r 5) (.c (T.v (.int .i64 4))))), (none, (.load false 1 (.x 10))), (none, (.lookup .int (T.sl .nil 0 []) false (.r 7) (.c (T.v (.int .i64 5))))), (none, (.bslice 144 42 1 4 [(T.sl .nil 0 [])] [(0, (1, (.r 2))), (1, (1, (.r 4))), (2, (1, (.r 6))), (3, (1, (.r 8)))])), (none, (.call 145 F_slices_Concat_Finding [(.r 9)])), (none, (.store 1 (.x 6) (.r 0))), (none, (.mv (.r 10)))],
  [none, none, none, none, none, none, none, (some 12), none, none, none, none, none, none, none, none, none, none, none, none, none, none, none, none, none, none, none, none, none, none, none, none, none, none, none, none, none, none, none, none], true⟩)
.ret))))))))))))⟩

def c_ref12_Same : IFn := ⟨2, 9, 2, [(.var 4)], [.raw], false, (.seq (.reg ⟨[(none, (.box 0 (.x 0))), (none, (.box 2 (.x 1))), (none, (.mv (.c (T.v (.bool false)))))],
  [none, none, (some 0), (some 1), (some 2), none, none, none, none], false⟩)
(.seq (.seq (.reg ⟨[(none, (.faddr 0 (.x 2))), (none, (.load false 1 (.r 0))), (none, (.len false (.r 1))), (none, (.faddr 0 (.x 3))), (none, (.load false 1 (.r 3))), (none, (.len false (.r 4))), (none, (.bin .neq 3 (.r 2) (.r 5)))],
  [none, none, none, none, none, none, (some 6), none, none], false⟩)
(.cond (.x 6)
(.seq (.reg ⟨[(none, (.mv (.c (T.v (.bool false)))))],
  [none, none, none, none, (some 0), none, none, none, none], false⟩)
.ret)
.skip))
(.seq (.seq (.reg ⟨[(none, (.mv (.c (T.v (.int .i64 0)))))],
  [none, none, none, none, none, (some 0), none, none, none], false⟩)
(.block 0
(.loop (.seq (.kill [0, 1, 4, 6, 7, 8])
(.seq (.free [])
(.seq (.seq (.reg ⟨[(none, (.mv (.x 5))), (none, (.faddr 0 (.x 2))), (none, (.load false 1 (.r 1))), (none, (.len false (.r 2))), (none, (.bin .lss 3 (.r 0) (.r 3)))],
  [none, none, none, none, none, none, none, (some 4), none], false⟩)
(.cond (.x 7)
.skip
(.exit 0)))
(.seq (.block 1
(.seq (.reg ⟨[(none, (.faddr 0 (.x 2))), (none, (.load false 1 (.r 0))), (none, (.mv (.x 5))), (none, (.iaddrS 13 (.r 1) (.r 2))), (none, (.load true 13 (.r 3))), (none, (.faddr 0 (.x 3))), (none, (.load false 1 (.r 5))), (none, (.mv (.x 5))), (none, (.iaddrS 13 (.r 6) (.r 7))), (none, (.load true 13 (.r 8))), (none, (.call 30 F_ref12_SameNode [(.r 4), (.r 9)])), (none, (.un .not (.r 10)))],
  [none, none, none, none, none, none, none, none, (some 11)], true⟩)
(.cond (.x 8)
(.seq (.reg ⟨[(none, (.mv (.c (T.v (.bool false)))))],
  [none, none, none, none, (some 0), none, none, none, none], false⟩)
.ret)
.skip)))
(.reg ⟨[(none, (.mv (.x 5))), (none, (.bin .add 3 (.r 0) (.c (T.v (.int .i64 1))))), (none, (.mv (.r 1)))],
  [none, none, none, none, none, (some 2), none, none, none], false⟩))))))))
(.seq (.reg ⟨[(none, (.mv (.c (T.v (.bool true)))))],
  [none, none, none, none, (some 0), none, none, none, none], false⟩)
.ret))))⟩

def c_slices_EqualFunc_Lbyte : IFn := ⟨3, 13, 0, [(.var 3)], [.raw], false, (.seq (.reg ⟨[(none, (.mv (.c (T.v (.bool false)))))],
  [none, none, none, (some 0), none, none, none, none, none, none, none, none, none], false⟩)
(.seq (.seq (.reg ⟨[(none, (.mv (.x 0))), (none, (.len false (.r 0))), (none, (.mv (.x 1))), (none, (.len false (.r 2))), (none, (.bin .neq 3 (.r 1) (.r 3)))],
  [none, none, none, none, none, none, none, (some 4), none, none, none, none, none], false⟩)
(.cond (.x 7)
(.seq (.reg ⟨[(none, (.mv (.c (T.v (.bool false)))))],
  [none, none, none, (some 0), none, none, none, none, none, none, none, none, none], false⟩)
.ret)
.skip))
(.seq (.seq (.reg ⟨[(none, (.mv (.x 0))), (none, (.len false (.r 0))), (none, (.mv (.c (T.v (.int .i64 0)))))],
  [none, none, none, none, none, none, none, none, (some 0), (some 1), (some 2), none, none], false⟩)
(.block 0
(.loop (.seq (.kill [0, 3, 4, 5, 6, 7, 11, 12])
(.seq (.free [])
(.seq (.reg ⟨[(none, (.bin .lss 3 (.x 10) (.x 9)))],
  [none, none, none, none, none, none, none, none, none, none, none, (some 0), none], false⟩)
(.seq (.cond (.x 11)
.skip
(.exit 0))
(.seq (.block 1
(.seq (.reg ⟨[(none, (.mv (.x 10))), (none, (.iaddrS 1 (.x 8) (.x 10))), (none, (.load false 1 (.r 1))), (none, (.mv (.r 0))), (none, (.mv (.r 2)))],
  [none, none, none, none, (some 3), (some 4), none, none, none, none, none, none, none], false⟩)
(.seq (.reg ⟨[(none, (.mv (.x 1))), (none, (.mv (.x 4))), (none, (.iaddrS 1 (.r 0) (.r 1))), (none, (.load false 1 (.r 2))), (none, (.mv (.r 3)))],
  [none, none, none, none, none, none, (some 4), none, none, none, none, none, none], false⟩)
(.seq (.reg ⟨[(none, (.mv (.x 2))), (none, (.mv (.x 5))), (none, (.mv (.x 6))), (none, (.callv 29 (.r 0) [(.r 1), (.r 2)])), (none, (.un .not (.r 3)))],
  [none, none, none, none, none, none, none, none, none, none, none, none, (some 4)], false⟩)
(.cond (.x 12)
(.seq (.reg ⟨[(none, (.mv (.c (T.v (.bool false)))))],
  [none, none, none, (some 0), none, none, none, none, none, none, none, none, none], false⟩)
.ret)
.skip)))))
(.reg ⟨[(none, (.bin .add 3 (.x 10) (.c (T.v (.int .i64 1))))), (none, (.mv (.r 0)))],
  [none, none, none, none, none, none, none, none, none, none, (some 1), none, none], false⟩)))))))))
(.seq (.reg ⟨[(none, (.mv (.c (T.v (.bool true)))))],
  [none, none, none, (some 0), none, none, none, none, none, none, none, none, none], false⟩)
.ret))))⟩

def c_branch_Cut : IFn := ⟨3, 12, 2, [(.var 4)], [.raw], false, (.seq (.reg ⟨[(none, (.box 0 (.x 0))), (none, (.mv (.c (T.sl .nil 0 []))))],
  [none, none, none, (some 0), (some 1), none, none, none, none, none, none, none], false⟩)
(.seq (.reg ⟨[(none, (.load true 4 (.x 3))), (none, (.mv (.x 2))), (none, (.call 13 F_geo_Bitmap [(.r 0), (.r 1)])), (none, (.mv (.r 2)))],
  [none, none, none, none, none, (some 3), none, none, none, none, none, none], false⟩)
(.seq (.seq (.reg ⟨[(none, (.mv (.x 5))), (none, (.bin .lss 3 (.r 0) (.c (T.v (.int .i64 0))))), (none, (.mv (.r 1))), ((some (2, false)), (.mv (.x 1))), ((some (2, false)), (.len false (.r 3))), ((some (2, false)), (.load true 4 (.x 3))), ((some (2, false)), (.call 20 F_geo_Total [(.r 5)])), ((some (2, false)), (.bin .mul 3 (.c (T.v (.int .i64 64))) (.r 6))), ((some (2, false)), (.bin .neq 3 (.r 4) (.r 7))), (none, (.pick (.r 2) (.c (T.v (.bool true))) (.r 8)))],
  [none, none, none, none, none, none, none, none, none, (some 9), none, none], false⟩)
(.cond (.x 9)
(.seq (.reg ⟨[(none, (.mv (.c (T.sl .nil 0 []))))],
  [none, none, none, none, (some 0), none, none, none, none, none, none, none], false⟩)
.ret)
.skip))
(.seq (.reg ⟨[(none, (.faddr 1 (.x 3))), (none, (.load false 1 (.r 0))), (none, (.bin .add 3 (.c (T.v (.int .i64 1))) (.r 1))), (none, (.faddr 2 (.x 3))), (none, (.load false 1 (.r 3))), (none, (.bin .add 3 (.r 2) (.r 4))), (none, (.mv (.r 5)))],
  [none, none, none, none, none, none, (some 6), none, none, none, none, none], false⟩)
(.seq (.reg ⟨[(none, (.mv (.x 6))), (none, (.mkCap 31 37 24 (.r 0))), (none, (.alloc 2 [(T.sl .nil 0 [])])), (none, (.store 1 (.r 2) (.r 1)))],
  [none, none, none, none, none, none, none, (some 2), none, none, none, none], false⟩)
(.seq (.seq (.reg ⟨[(none, (.mv (.x 1))), (none, (.mv (.x 5))), (none, (.bin .mul 3 (.c (T.v (.int .i64 64))) (.r 1))), (none, (.mv (.x 5))), (none, (.mv (.x 6))), (none, (.bin .add 3 (.r 3) (.r 4))), (none, (.bin .mul 3 (.c (T.v (.int .i64 64))) (.r 5))), (none, (.sliceT 1 (.r 0) (some (.r 2)) (some (.r 6)) none)), (none, (.call 40 F_slices_Chunk_byte [(.r 7), (.c (T.v (.int .i64 64)))]))],
  [none, none, none, none, none, none, none, none, none, none, (some 8), none], false⟩)
(.block 0
(.range 4 (.x 10) [11] (.reg ⟨[(none, (.mv (.x 11)))],
  [none, none, none, none, none, none, none, none, (some 0), none, none, none], false⟩) (.block 1
(.reg ⟨[(none, (.load false 1 (.x 7))), (none, (.mv (.x 8))), (none, (.call 44 F_slices_Clone_byte [(.r 1)])), (none, (.bslice 45 37 1 1 [(T.sl .nil 0 [])] [(0, (1, (.r 2)))])), (none, (.append 46 37 1 24 [(T.sl .nil 0 [])] 0 (.r 0) (.r 3))), (none, (.store 1 (.x 7) (.r 4)))],
  [none, none, none, none, none, none, none, none, none, none, none, none], true⟩)))))
(.seq (.reg ⟨[(none, (.load false 1 (.x 7))), (none, (.mv (.r 0)))],
  [none, none, none, none, (some 1), none, none, none, none, none, none, none], false⟩)
.ret)))))))⟩

def c_ref12_Cut : IFn := ⟨3, 10, 1, [(.var 4)], [.raw], false, (.seq (.reg ⟨[(none, (.box 0 (.x 0))), (none, (.mv (.c (T.sl .nil 0 []))))],
  [none, none, none, (some 0), (some 1), none, none, none, none, none], false⟩)
(.seq (.reg ⟨[(none, (.load true 4 (.x 3))), (none, (.mv (.x 2))), (none, (.call 12 F_ref06_Start [(.r 0), (.r 1)])), (none, (.mv (.r 2)))],
  [none, none, none, none, none, (some 3), none, none, none, none], false⟩)
(.seq (.seq (.reg ⟨[(none, (.mv (.x 5))), (none, (.bin .lss 3 (.r 0) (.c (T.v (.int .i64 0))))), (none, (.mv (.r 1))), ((some (2, false)), (.mv (.x 1))), ((some (2, false)), (.len false (.r 3))), ((some (2, false)), (.load true 4 (.x 3))), ((some (2, false)), (.call 19 F_ref06_Total [(.r 5)])), ((some (2, false)), (.bin .mul 3 (.c (T.v (.int .i64 64))) (.r 6))), ((some (2, false)), (.bin .neq 3 (.r 4) (.r 7))), (none, (.pick (.r 2) (.c (T.v (.bool true))) (.r 8)))],
  [none, none, none, none, none, none, none, none, (some 9), none], false⟩)
(.cond (.x 8)
(.seq (.reg ⟨[(none, (.mv (.c (T.sl .nil 0 []))))],
  [none, none, none, none, (some 0), none, none, none, none, none], false⟩)
.ret)
.skip))
(.seq (.reg ⟨[(none, (.bslice 23 37 1 0 [(T.sl .nil 0 [])] [])), (none, (.mv (.r 0)))],
  [none, none, none, none, none, none, (some 1), none, none, none], false⟩)
(.seq (.seq (.reg ⟨[(none, (.mv (.c (T.v (.int .i64 0)))))],
  [none, none, none, none, none, none, none, (some 0), none, none], false⟩)
(.block 0
(.loop (.seq (.kill [0, 2, 4, 8, 9])
(.seq (.free [])
(.seq (.seq (.reg ⟨[(none, (.mv (.x 7))), (none, (.load true 4 (.x 3))), (none, (.call 26 F_ref06_Layer [(.r 1)])), (none, (.bin .lss 3 (.r 0) (.r 2)))],
  [none, none, none, none, none, none, none, none, none, (some 3)], false⟩)
(.cond (.x 9)
.skip
(.exit 0)))
(.seq (.block 1
(.reg ⟨[(none, (.mv (.x 6))), (none, (.mv (.x 1))), (none, (.mv (.x 5))), (none, (.mv (.x 7))), (none, (.bin .add 3 (.r 2) (.r 3))), (none, (.bin .mul 3 (.c (T.v (.int .i64 64))) (.r 4))), (none, (.mv (.x 5))), (none, (.mv (.x 7))), (none, (.bin .add 3 (.r 6) (.r 7))), (none, (.bin .mul 3 (.c (T.v (.int .i64 64))) (.r 8))), (none, (.bin .add 3 (.r 9) (.c (T.v (.int .i64 64))))), (none, (.sliceT 1 (.r 1) (some (.r 5)) (some (.r 10)) none)), (none, (.bslice 42 37 1 1 [(T.sl .nil 0 [])] [(0, (1, (.r 11)))])), (none, (.append 43 37 1 24 [(T.sl .nil 0 [])] 0 (.r 0) (.r 12))), (none, (.mv (.r 13)))],
  [none, none, none, none, none, none, (some 14), none, none, none], false⟩))
(.reg ⟨[(none, (.mv (.x 7))), (none, (.bin .add 3 (.r 0) (.c (T.v (.int .i64 1))))), (none, (.mv (.r 1)))],
  [none, none, none, none, none, none, none, (some 2), none, none], false⟩))))))))
(.seq (.reg ⟨[(none, (.mv (.x 6))), (none, (.mv (.r 0)))],
  [none, none, none, none, (some 1), none, none, none, none, none], false⟩)
.ret))))))⟩

def c_plain_Base : IFn := ⟨0, 2, 2, [(.cell 0 true 6)], [.raw], false, (.seq (.reg ⟨[(none, (.alloc 0 [(T.v (.int .i64 0)), (T.v (.int .i64 0)), (T.v (.int .i64 0)), (T.v (.int .i64 0)), (T.sl .nil 0 []), (T.sl .nil 0 [])]))],
  [(some 0), none], false⟩)
(.seq (.reg ⟨[(none, (.build [(T.v (.int .i64 0)), (T.v (.int .i64 0)), (T.v (.int .i64 0)), (T.v (.int .i64 0))] [(0, (1, (.c (T.v (.int .i64 1))))), (1, (1, (.c (T.v (.int .i64 5))))), (2, (1, (.c (T.v (.int .i64 6))))), (3, (1, (.c (T.v (.int .i64 5)))))])), (none, (.build [(T.v (.int .i64 0)), (T.v (.int .i64 0)), (T.v (.int .i64 0)), (T.v (.int .i64 0)), (T.sl .nil 0 []), (T.sl .nil 0 [])] [(0, (4, (.r 0)))])), (none, (.alloc 2 [(T.v (.int .i64 0)), (T.v (.int .i64 0)), (T.v (.int .i64 0)), (T.v (.int .i64 0)), (T.sl .nil 0 []), (T.sl .nil 0 [])])), (none, (.store 6 (.r 2) (.r 1)))],
  [none, (some 2)], false⟩)
(.seq (.reg ⟨[(none, (.build [(T.v (.int .i64 0)), (T.v (.int .i64 0)), (T.v (.string ⟨#[]⟩))] [(1, (1, (.c (T.v (.int .i64 2))))), (2, (1, (.c (T.v (.string ⟨#[97]⟩)))))])), (none, (.bslice 5 105 3 1 [(T.v (.int .i64 0)), (T.v (.int .i64 0)), (T.v (.string ⟨#[]⟩))] [(0, (3, (.r 0)))])), (none, (.call 6 F_plain_dir [(.r 1)])), (none, (.bslice 7 5 1 1 [(T.v (.int .u8 0))] [(0, (1, (.c (T.v (.int .u8 120)))))])), (none, (.build [(T.v (.int .i64 0)), (T.v (.int .i64 0)), (T.v (.int .i64 0)), (T.v (.int .i64 0)), (T.sl .nil 0 []), (T.sl .nil 0 []), (T.v (.int .i64 0)), (T.v (.int .i64 0)), (T.v (.string ⟨#[]⟩)), (T.v (.int .i64 0)), (T.v (.int .i64 0)), (T.v (.int .i64 0)), (T.v (.int .i64 0))] [(0, (1, (.c (T.v (.int .i64 2))))), (2, (1, (.c (T.v (.int .i64 1))))), (3, (1, (.c (T.v (.int .i64 3))))), (4, (1, (.r 3)))])), (none, (.build [(T.v (.int .i64 0)), (T.v (.int .i64 0)), (T.v (.int .i64 0)), (T.v (.int .i64 0)), (T.sl .nil 0 []), (T.sl .nil 0 []), (T.v (.int .i64 0)), (T.v (.int .i64 0)), (T.v (.string ⟨#[]⟩)), (T.v (.int .i64 0)), (T.v (.int .i64 0)), (T.v (.int .i64 0)), (T.v (.int .i64 0))] [])), (none, (.build [(T.v (.int .i64 0)), (T.v (.int .i64 0)), (T.v (.int .i64 0)), (T.v (.int .i64 0)), (T.sl .nil 0 []), (T.sl .nil 0 []), (T.v (.int .i64 0)), (T.v (.int .i64 0)), (T.v (.string ⟨#[]⟩)), (T.v (.int .i64 0)), (T.v (.int .i64 0)), (T.v (.int .i64 0)), (T.v (.int .i64 0))] [])), (none, (.build [(T.v (.int .i64 0)), (T.v (.int .i64 0)), (T.v (.int .i64 0)), (T.v (.int .i64 0)), (T.sl .nil 0 []), (T.sl .nil 0 []), (T.v (.int .i64 0)), (T.v (.int .i64 0)), (T.v (.string ⟨#[]⟩)), (T.v (.int .i64 0)), (T.v (.int .i64 0)), (T.v (.int .i64 0)), (T.v (.int .i64 0))] [])), (none, (.bslice 12 84 13 5 [(T.v (.int .i64 0)), (T.v (.int .i64 0)), (T.v (.int .i64 0)), (T.v (.int .i64 0)), (T.sl .nil 0 []), (T.sl .nil 0 []), (T.v (.int .i64 0)), (T.v (.int .i64 0)), (T.v (.string ⟨#[]⟩)), (T.v (.int .i64 0)), (T.v (.int .i64 0)), (T.v (.int .i64 0)), (T.v (.int .i64 0))] [(0, (13, (.r 2))), (13, (13, (.r 4))), (26, (13, (.r 5))), (39, (13, (.r 6))), (52, (13, (.r 7)))])), (none, (.build [(T.sl .nil 0 [])] [(0, (1, (.r 8)))])), (none, (.bslice 14 41 1 1 [(T.sl .nil 0 [])] [(0, (1, (.r 9)))])), (none, (.faddr 5 (.x 1))), (none, (.store 1 (.r 11) (.r 10)))],
  [none, none], false⟩)
(.seq (.reg ⟨[(none, (.call 16 F_plain_dir [(.c (T.sl .nil 0 []))])), (none, (.call 17 F_plain_dir [(.c (T.sl .nil 0 []))])), (none, (.call 18 F_plain_dir [(.c (T.sl .nil 0 []))])), (none, (.build [(T.v (.int .i64 0)), (T.v (.int .i64 0)), (T.v (.int .i64 0)), (T.v (.int .i64 0)), (T.sl .nil 0 []), (T.sl .nil 0 []), (T.v (.int .i64 0)), (T.v (.int .i64 0)), (T.v (.string ⟨#[]⟩)), (T.v (.int .i64 0)), (T.v (.int .i64 0)), (T.v (.int .i64 0)), (T.v (.int .i64 0))] [])), (none, (.build [(T.v (.int .i64 0)), (T.v (.int .i64 0)), (T.v (.int .i64 0)), (T.v (.int .i64 0)), (T.sl .nil 0 []), (T.sl .nil 0 []), (T.v (.int .i64 0)), (T.v (.int .i64 0)), (T.v (.string ⟨#[]⟩)), (T.v (.int .i64 0)), (T.v (.int .i64 0)), (T.v (.int .i64 0)), (T.v (.int .i64 0))] [])), (none, (.bslice 21 84 13 5 [(T.v (.int .i64 0)), (T.v (.int .i64 0)), (T.v (.int .i64 0)), (T.v (.int .i64 0)), (T.sl .nil 0 []), (T.sl .nil 0 []), (T.v (.int .i64 0)), (T.v (.int .i64 0)), (T.v (.string ⟨#[]⟩)), (T.v (.int .i64 0)), (T.v (.int .i64 0)), (T.v (.int .i64 0)), (T.v (.int .i64 0))] [(0, (13, (.r 0))), (13, (13, (.r 1))), (26, (13, (.r 2))), (39, (13, (.r 3))), (52, (13, (.r 4)))])), (none, (.build [(T.sl .nil 0 [])] [(0, (1, (.r 5)))])), (none, (.faddr 4 (.x 1))), (none, (.store 1 (.r 7) (.r 6)))],
  [none, none], false⟩)
(.seq (.reg ⟨[(none, (.load true 6 (.x 1))), (none, (.store 6 (.x 0) (.r 0)))],
  [none, none], false⟩)
.ret)))))⟩

def c_plain_Bytes : IFn := ⟨1, 4, 1, [(.var 2)], [.raw], false, (.seq (.reg ⟨[(none, (.box 0 (.x 0))), (none, (.mv (.c (T.sl .nil 0 []))))],
  [none, (some 0), (some 1), none], false⟩)
(.seq (.reg ⟨[(none, (.load true 6 (.x 1))), (none, (.call 7 F_ref40_Image [(.r 0)])), (none, (.mv (.r 1))), (none, (.extract (.r 2) 0)), (none, (.extract (.r 2) 1)), (none, (.mv (.r 3))), (none, (.mv (.r 4)))],
  [none, none, none, (some 5)], false⟩)
(.seq (.reg ⟨[(none, (.mv (.x 3))), (none, (.mv (.r 0)))],
  [none, none, (some 1), none], false⟩)
.ret)))⟩

def c_branch_region_right : IFn := ⟨1, 3, 1, [(.var 2)], [.raw], false, (.seq (.reg ⟨[(none, (.box 0 (.x 0))), (none, (.mv (.c (T.v (.bool false)))))],
  [none, (some 0), (some 1)], false⟩)
(.seq (.reg ⟨[(none, (.faddr 0 (.x 1))), (none, (.load true 4 (.r 0))), (none, (.call 5 F_geo_Check [(.r 1)])), (none, (.bin .eql 54 (.r 2) (.c (T.v (.int .i64 0))))), (none, (.mv (.r 3))), ((some (4, true)), (.faddr 4 (.x 1))), ((some (4, true)), (.load false 1 (.r 5))), ((some (4, true)), (.len false (.r 6))), ((some (4, true)), (.faddr 0 (.x 1))), ((some (4, true)), (.faddr 1 (.r 8))), ((some (4, true)), (.load false 1 (.r 9))), ((some (4, true)), (.bin .add 3 (.c (T.v (.int .i64 1))) (.r 10))), ((some (4, true)), (.faddr 0 (.x 1))), ((some (4, true)), (.faddr 2 (.r 12))), ((some (4, true)), (.load false 1 (.r 13))), ((some (4, true)), (.bin .add 3 (.r 11) (.r 14))), ((some (4, true)), (.bin .eql 3 (.r 7) (.r 15))), (none, (.pick (.r 4) (.r 16) (.c (T.v (.bool false))))), (none, (.mv (.r 17)))],
  [none, none, (some 18)], false⟩)
.ret))⟩

def c_inode_Get : IFn := ⟨1, 7, 2, [(.cell 1 true 10), (.var 2)], [.raw, .raw], false, (.seq (.reg ⟨[(none, (.alloc 0 (List.replicate 10 (T.v (.int .i64 0))))), (none, (.mv (.c (T.v (.bool false)))))],
  [none, (some 0), (some 1), none, none, none, none], false⟩)
(.seq (.reg ⟨[(none, (.mv (.x 0))), (none, (.call 8 F_inode_read [(.r 0)])), (none, (.alloc 2 (List.replicate 10 (T.v (.int .i64 0))))), (none, (.store 10 (.r 2) (.r 1)))],
  [none, none, none, (some 2), none, none, none], false⟩)
(.seq (.reg ⟨[(none, (.load true 10 (.x 3))), (none, (.call 11 F_inode_Put [(.r 0)])), (none, (.mv (.r 1))), (none, (.extract (.r 2) 0)), (none, (.extract (.r 2) 1)), (none, (.mv (.r 3))), (none, (.mv (.r 4)))],
  [none, none, none, none, (some 5), (some 6), none], false⟩)
(.seq (.seq (.reg ⟨[(none, (.mv (.x 5))), (none, (.bin .neq 54 (.r 0) (.c (T.v (.int .i64 0))))), (none, (.mv (.r 1))), ((some (2, false)), (.mv (.x 0))), ((some (2, false)), (.mv (.x 4))), ((some (2, false)), (.call 19 F_bytes_Equal [(.r 3), (.r 4)])), ((some (2, false)), (.un .not (.r 5))), (none, (.pick (.r 2) (.c (T.v (.bool true))) (.r 6)))],
  [none, none, none, none, none, none, (some 7)], false⟩)
(.cond (.x 6)
(.seq (.reg ⟨[(none, (.build (List.replicate 10 (T.v (.int .i64 0))) [])), (none, (.store 10 (.x 1) (.r 0))), (none, (.mv (.c (T.v (.bool false)))))],
  [none, none, (some 2), none, none, none, none], false⟩)
.ret)
.skip))
(.seq (.reg ⟨[(none, (.load true 10 (.x 3))), (none, (.store 10 (.x 1) (.r 0))), (none, (.mv (.c (T.v (.bool true)))))],
  [none, none, (some 2), none, none, none, none], false⟩)
.ret)))))⟩

def c_branch_region_data : IFn := ⟨2, 14, 3, [(.var 3)], [.raw], false, (.seq (.reg ⟨[(none, (.box 0 (.x 0))), (none, (.mv (.c (T.sl .nil 0 []))))],
  [none, none, (some 0), (some 1), none, none, none, none, none, none, none, none, none, none], false⟩)
(.seq (.seq (.reg ⟨[(none, (.load true 6 (.x 2))), (none, (.call 11 F_branch_region_right [(.r 0)])), (none, (.un .not (.r 1))), (none, (.mv (.r 2))), ((some (3, false)), (.mv (.x 1))), ((some (3, false)), (.bin .lss 3 (.r 4) (.c (T.v (.int .i64 1))))), (none, (.pick (.r 3) (.c (T.v (.bool true))) (.r 5))), (none, (.mv (.r 6))), ((some (7, false)), (.mv (.x 1))), ((some (7, false)), (.faddr 5 (.x 2))), ((some (7, false)), (.load false 1 (.r 9))), ((some (7, false)), (.len false (.r 10))), ((some (7, false)), (.bin .gtr 3 (.r 8) (.r 11))), (none, (.pick (.r 7) (.c (T.v (.bool true))) (.r 12)))],
  [none, none, none, none, none, none, none, none, none, (some 13), none, none, none, none], false⟩)
(.cond (.x 9)
(.seq (.reg ⟨[(none, (.mv (.c (T.sl .nil 0 []))))],
  [none, none, none, (some 0), none, none, none, none, none, none, none, none, none, none], false⟩)
.ret)
.skip))
(.seq (.reg ⟨[(none, (.faddr 5 (.x 2))), (none, (.load false 1 (.r 0))), (none, (.mv (.x 1))), (none, (.bin .sub 3 (.r 2) (.c (T.v (.int .i64 1))))), (none, (.iaddrS 10 (.r 1) (.r 3))), (none, (.load true 10 (.r 4))), (none, (.alloc 2 (List.replicate 10 (T.v (.int .i64 0))))), (none, (.store 10 (.r 6) (.r 5)))],
  [none, none, none, none, (some 6), none, none, none, none, none, none, none, none, none], false⟩)
(.seq (.seq (.reg ⟨[(none, (.faddr 0 (.x 4))), (none, (.load false 1 (.r 0))), (none, (.bin .neq 3 (.r 1) (.c (T.v (.int .i64 2))))), (none, (.mv (.r 2))), ((some (3, true)), (.faddr 0 (.x 4))), ((some (3, true)), (.load false 1 (.r 4))), ((some (3, true)), (.bin .neq 3 (.r 5) (.c (T.v (.int .i64 3))))), (none, (.pick (.r 3) (.r 6) (.c (T.v (.bool false)))))],
  [none, none, none, none, none, none, none, none, none, none, (some 7), none, none, none], false⟩)
(.cond (.x 10)
(.seq (.reg ⟨[(none, (.mv (.c (T.sl .nil 0 []))))],
  [none, none, none, (some 0), none, none, none, none, none, none, none, none, none, none], false⟩)
.ret)
.skip))
(.seq (.reg ⟨[(none, (.alloc 4 (List.replicate 256 (T.v (.int .u8 0)))))],
  [none, none, none, none, none, (some 0), none, none, none, none, none, none, none, none], false⟩)
(.seq (.seq (.reg ⟨[(none, (.mv (.c (T.v (.int .i64 0)))))],
  [none, none, none, none, none, none, none, none, none, none, none, (some 0), none, none], false⟩)
(.block 0
(.loop (.seq (.kill [0, 3, 6, 7, 8, 9, 10, 12, 13])
(.seq (.free [])
(.seq (.reg ⟨[(none, (.bin .lss 3 (.x 11) (.c (T.v (.int .i64 4)))))],
  [none, none, none, none, none, none, none, none, none, none, none, none, (some 0), none], false⟩)
(.seq (.cond (.x 12)
.skip
(.exit 0))
(.seq (.block 1
(.seq (.reg ⟨[(none, (.mv (.x 11))), (none, (.mv (.r 0)))],
  [none, none, none, none, none, none, (some 1), none, none, none, none, none, none, none], false⟩)
(.seq (.reg ⟨[(none, (.load true 6 (.x 2))), (none, (.mv (.x 1))), (none, (.mv (.x 6))), (none, (.call 45 F_branch_region_block [(.r 0), (.r 1), (.r 2)])), (none, (.mv (.r 3))), (none, (.extract (.r 4) 0)), (none, (.extract (.r 4) 1)), (none, (.mv (.r 5))), (none, (.mv (.r 6)))],
  [none, none, none, none, none, none, none, (some 7), (some 8), none, none, none, none, none], false⟩)
(.seq (.reg ⟨[(none, (.mv (.x 8)))],
  [none, none, none, none, none, none, none, none, none, none, none, none, none, (some 0)], false⟩)
(.cond (.x 13)
(.reg ⟨[(none, (.mv (.x 6))), (none, (.bin .mul 3 (.c (T.v (.int .i64 64))) (.r 0))), (none, (.mv (.x 6))), (none, (.bin .add 3 (.r 2) (.c (T.v (.int .i64 1))))), (none, (.bin .mul 3 (.c (T.v (.int .i64 64))) (.r 3))), (none, (.sliceA 256 1 (.x 5) (some (.r 1)) (some (.r 4)))), (none, (.mv (.x 7))), (none, (.copy 1 (.r 5) (.r 6)))],
  [none, none, none, none, none, none, none, none, none, none, none, none, none, none], false⟩)
.skip)))))
(.reg ⟨[(none, (.bin .add 3 (.x 11) (.c (T.v (.int .i64 1))))), (none, (.mv (.r 0)))],
  [none, none, none, none, none, none, none, none, none, none, none, (some 1), none, none], false⟩)))))))))
(.seq (.reg ⟨[(none, (.faddr 4 (.x 4))), (none, (.load false 1 (.r 0))), (none, (.minMax false [(.r 1), (.c (T.v (.int .i64 256)))])), (none, (.minMax true [(.r 2), (.c (T.v (.int .i64 0)))])), (none, (.sliceA 256 1 (.x 5) none (some (.r 3)))), (none, (.mv (.r 4)))],
  [none, none, none, (some 5), none, none, none, none, none, none, none, none, none, none], false⟩)
.ret)))))))⟩

def c_claim_Bad : IFn := ⟨2, 13, 5, [(.var 2)], [.raw], false, (.seq (.reg ⟨[(none, (.mv (.c (T.sl .nil 0 []))))],
  [none, none, (some 0), none, none, none, none, none, none, none, none, none, none], false⟩)
(.seq (.reg ⟨[(none, (.mv (.x 0))), (none, (.mv (.x 1))), (none, (.callnew 13 [8] F_claim_owners [(.r 0), (.r 1)])), (none, (.alloc 0 [(T.v (.map none))])), (none, (.store 1 (.r 3) (.r 2)))],
  [none, none, none, (some 3), none, none, none, none, none, none, none, none, none], false⟩)
(.seq (.reg ⟨[(none, (.alloc 2 [(T.sl .nil 0 [])]))],
  [none, none, none, none, (some 0), none, none, none, none, none, none, none, none], false⟩)
(.seq (.seq (.reg ⟨[(none, (.mv (.x 0))), (none, (.call 15 F_claim_pointers [(.r 0)]))],
  [none, none, none, none, none, none, none, none, none, (some 1), none, none, none], false⟩)
(.block 0
(.range 10 (.x 9) [10, 11] (.seq (.reg ⟨[(none, (.alloc 4 [(T.v (.int .i64 0)), (T.v (.int .i64 0))])), (none, (.store 2 (.r 0) (.x 10)))],
  [none, none, none, none, none, (some 0), none, none, none, none, none, none, none], false⟩)
(.reg ⟨[(none, (.mv (.x 11)))],
  [none, none, none, none, none, none, (some 0), none, none, none, none, none, none], false⟩)) (.block 1
(.seq (.reg ⟨[(none, (.load false 1 (.x 3))), (none, (.mv (.x 6))), (none, (.lookup .int (T.agg [(T.v (.int .i64 0)), (T.v (.int .i64 0))]) true (.r 0) (.r 1))), (none, (.mv (.r 2))), (none, (.extract (.r 3) 0)), (none, (.extract (.r 3) 1)), (none, (.alloc 6 [(T.v (.int .i64 0)), (T.v (.int .i64 0))])), (none, (.store 2 (.r 6) (.r 4))), (none, (.mv (.r 5)))],
  [none, none, none, none, none, none, none, (some 6), (some 8), none, none, none, none], false⟩)
(.seq (.reg ⟨[(none, (.mv (.x 8))), (none, (.un .not (.r 0))), (none, (.mv (.r 1))), ((some (2, false)), (.load true 2 (.x 7))), ((some (2, false)), (.load true 2 (.x 5))), ((some (2, false)), (.eqa true [.int, .int] (.r 3) (.r 4))), (none, (.pick (.r 2) (.c (T.v (.bool true))) (.r 5)))],
  [none, none, none, none, none, none, none, none, none, none, none, none, (some 6)], false⟩)
(.cond (.x 12)
(.reg ⟨[(none, (.load false 1 (.x 4))), (none, (.faddr 0 (.x 5))), (none, (.load false 1 (.r 1))), (none, (.faddr 1 (.x 5))), (none, (.load false 1 (.r 3))), (none, (.build [(T.v (.int .i64 0)), (T.v (.int .i64 0))] [(0, (1, (.r 2))), (1, (1, (.r 4)))])), (none, (.bslice 37 77 2 1 [(T.v (.int .i64 0)), (T.v (.int .i64 0))] [(0, (2, (.r 5)))])), (none, (.append 38 77 2 16 [(T.v (.int .i64 0)), (T.v (.int .i64 0))] 0 (.r 0) (.r 6))), (none, (.store 1 (.x 4) (.r 7)))],
  [none, none, none, none, none, none, none, none, none, none, none, none, none], false⟩)
.skip)))))))
(.seq (.reg ⟨[(none, (.load false 1 (.x 4))), (none, (.mv (.r 0)))],
  [none, none, (some 1), none, none, none, none, none, none, none, none, none, none], false⟩)
.ret)))))⟩

def c_branch_region_attrs : IFn := ⟨2, 8, 2, [(.cell 3 true 7), (.var 4)], [.raw, .raw], false, (.seq (.reg ⟨[(none, (.box 0 (.x 0))), (none, (.alloc 2 [(T.v (.int .i64 0)), (T.v (.int .i64 0)), (T.v (.string ⟨#[]⟩)), (T.v (.int .i64 0)), (T.v (.int .i64 0)), (T.v (.int .i64 0)), (T.v (.int .i64 0))])), (none, (.mv (.c (T.v (.bool false)))))],
  [none, none, (some 0), (some 1), (some 2), none, none, none], false⟩)
(.seq (.reg ⟨[(none, (.load true 6 (.x 2))), (none, (.mv (.x 1))), (none, (.call 11 F_branch_region_block [(.r 0), (.r 1), (.c (T.v (.int .i64 4)))])), (none, (.mv (.r 2))), (none, (.extract (.r 3) 0)), (none, (.extract (.r 3) 1)), (none, (.mv (.r 4))), (none, (.mv (.r 5)))],
  [none, none, none, none, none, (some 6), (some 7), none], false⟩)
(.seq (.seq (.reg ⟨[(none, (.mv (.x 6))), (none, (.un .not (.r 0)))],
  [none, none, none, none, none, none, none, (some 1)], false⟩)
(.cond (.x 7)
(.seq (.reg ⟨[(none, (.build [(T.v (.int .i64 0)), (T.v (.int .i64 0)), (T.v (.string ⟨#[]⟩)), (T.v (.int .i64 0)), (T.v (.int .i64 0)), (T.v (.int .i64 0)), (T.v (.int .i64 0))] [])), (none, (.store 7 (.x 3) (.r 0))), (none, (.mv (.c (T.v (.bool true)))))],
  [none, none, none, none, (some 2), none, none, none], false⟩)
.ret)
.skip))
(.seq (.reg ⟨[(none, (.mv (.x 5))), (none, (.call 18 F_attr_Get [(.r 0)])), (none, (.extract (.r 1) 0)), (none, (.extract (.r 1) 1)), (none, (.store 7 (.x 3) (.r 2))), (none, (.mv (.r 3)))],
  [none, none, none, none, (some 5), none, none, none], false⟩)
.ret))))⟩

def c_branch_region_entries : IFn := ⟨3, 22, 2, [(.var 4), (.var 5)], [.raw, .raw], false, (.seq (.reg ⟨[(none, (.box 0 (.x 0))), (none, (.mv (.c (T.sl .nil 0 [])))), (none, (.mv (.c (T.sl .nil 0 []))))],
  [none, none, none, (some 0), (some 1), (some 2), none, none, none, none, none, none, none, none, none, none, none, none, none, none, none, none], false⟩)
(.nojump (.seq (.reg ⟨[(none, (.mv (.c (T.sl .nil 0 []))))],
  [none, none, none, none, none, none, (some 0), none, none, none, none, none, none, none, none, none, none, none, none, none, none, none], false⟩)
(.seq (.reg ⟨[(none, (.mv (.c (T.sl .nil 0 []))))],
  [none, none, none, none, none, none, none, (some 0), none, none, none, none, none, none, none, none, none, none, none, none, none, none], false⟩)
(.seq .skip
(.seq (.seq (.reg ⟨[(none, (.mv (.c (T.v (.int .i64 0)))))],
  [none, none, none, none, none, none, none, none, none, none, none, none, none, none, (some 0), none, none, none, none, none, none, none], false⟩)
(.block 0
(.loop (.seq (.kill [0, 4, 5, 8, 9, 10, 11, 12, 13, 15, 16, 17, 18, 19, 20, 21])
(.seq (.free [])
(.seq (.reg ⟨[(none, (.bin .lss 3 (.x 14) (.c (T.v (.int .i64 4)))))],
  [none, none, none, none, none, none, none, none, none, none, none, none, none, none, none, (some 0), none, none, none, none, none, none], false⟩)
(.seq (.cond (.x 15)
.skip
(.exit 0))
(.seq (.block 1
(.seq (.reg ⟨[(none, (.mv (.x 14))), (none, (.mv (.r 0)))],
  [none, none, none, none, none, none, none, none, (some 1), none, none, none, none, none, none, none, none, none, none, none, none, none], false⟩)
(.seq (.reg ⟨[(none, (.load true 6 (.x 3))), (none, (.mv (.x 1))), (none, (.mv (.x 8))), (none, (.call 24 F_branch_region_block [(.r 0), (.r 1), (.r 2)])), (none, (.mv (.r 3))), (none, (.extract (.r 4) 0)), (none, (.extract (.r 4) 1)), (none, (.mv (.r 5))), (none, (.mv (.r 6)))],
  [none, none, none, none, none, none, none, none, none, (some 7), (some 8), none, none, none, none, none, none, none, none, none, none, none], false⟩)
(.seq (.seq (.reg ⟨[(none, (.mv (.x 10))), (none, (.un .not (.r 0)))],
  [none, none, none, none, none, none, none, none, none, none, none, none, none, none, none, none, (some 1), none, none, none, none, none], false⟩)
(.cond (.x 16)
(.exit 1)
.skip))
(.seq (.reg ⟨[(none, (.mv (.x 9))), (none, (.mv (.x 8))), (none, (.call 32 F_entry_Parse [(.r 0), (.r 1)])), (none, (.mv (.r 2))), (none, (.extract (.r 3) 0)), (none, (.extract (.r 3) 1)), (none, (.mv (.r 4))), (none, (.mv (.r 5)))],
  [none, none, none, none, none, none, none, none, none, none, none, (some 6), (some 7), none, none, none, none, none, none, none, none, none], false⟩)
(.seq (.reg ⟨[(none, (.mv (.x 7))), (none, (.mv (.x 12))), (none, (.append 37 3 1 8 [(T.v (.int .i64 0))] 0 (.r 0) (.r 1))), (none, (.mv (.r 2)))],
  [none, none, none, none, none, none, none, (some 3), none, none, none, none, none, none, none, none, none, none, none, none, none, none], false⟩)
(.seq (.reg ⟨[(none, (.mv (.x 11))), (none, (.len false (.r 0))), (none, (.mv (.c (T.v (.int .i64 0)))))],
  [none, none, none, none, none, none, none, none, none, none, none, none, none, none, none, none, none, (some 0), (some 1), (some 2), none, none], false⟩)
(.block 2
(.loop (.seq (.kill [0, 4, 5, 8, 9, 10, 11, 12, 13, 15, 16, 20, 21])
(.seq (.free [2, 3])
(.seq (.reg ⟨[(none, (.bin .lss 3 (.x 19) (.x 18)))],
  [none, none, none, none, none, none, none, none, none, none, none, none, none, none, none, none, none, none, none, none, (some 0), none], false⟩)
(.seq (.cond (.x 20)
.skip
(.exit 2))
(.seq (.block 3
(.seq (.reg ⟨[(none, (.iaddrS 3 (.x 17) (.x 19))), (none, (.load true 3 (.r 0))), (none, (.alloc 2 [(T.v (.int .i64 0)), (T.v (.int .i64 0)), (T.v (.string ⟨#[]⟩))])), (none, (.store 3 (.r 2) (.r 1)))],
  [none, none, none, none, none, none, none, none, none, none, none, none, none, (some 2), none, none, none, none, none, none, none, none], false⟩)
(.seq (.reg ⟨[(none, (.load true 6 (.x 3))), (none, (.load true 3 (.x 13))), (none, (.mv (.x 2))), (none, (.mv (.x 6))), (none, (.call 48 F_branch_region_good [(.r 0), (.r 1), (.r 2), (.r 3)]))],
  [none, none, none, none, none, none, none, none, none, none, none, none, none, none, none, none, none, none, none, none, none, (some 4)], false⟩)
(.cond (.x 21)
(.reg ⟨[(none, (.mv (.x 6))), (none, (.load true 3 (.x 13))), (none, (.bslice 51 105 3 1 [(T.v (.int .i64 0)), (T.v (.int .i64 0)), (T.v (.string ⟨#[]⟩))] [(0, (3, (.r 1)))])), (none, (.append 52 105 3 32 [(T.v (.int .i64 0)), (T.v (.int .i64 0)), (T.v (.string ⟨#[]⟩))] 0 (.r 0) (.r 2))), (none, (.mv (.r 3)))],
  [none, none, none, none, none, none, (some 4), none, none, none, none, none, none, none, none, none, none, none, none, none, none, none], false⟩)
(.reg ⟨[(none, (.mv (.x 7))), (none, (.faddr 0 (.x 13))), (none, (.load false 1 (.r 1))), (none, (.bslice 56 3 1 1 [(T.v (.int .i64 0))] [(0, (1, (.r 2)))])), (none, (.append 57 3 1 8 [(T.v (.int .i64 0))] 0 (.r 0) (.r 3))), (none, (.mv (.r 4)))],
  [none, none, none, none, none, none, none, (some 5), none, none, none, none, none, none, none, none, none, none, none, none, none, none], false⟩)))))
(.reg ⟨[(none, (.bin .add 3 (.x 19) (.c (T.v (.int .i64 1))))), (none, (.mv (.r 0)))],
  [none, none, none, none, none, none, none, none, none, none, none, none, none, none, none, none, none, none, none, (some 1), none, none], false⟩)))))))))))))))
(.reg ⟨[(none, (.bin .add 3 (.x 14) (.c (T.v (.int .i64 1))))), (none, (.mv (.r 0)))],
  [none, none, none, none, none, none, none, none, none, none, none, none, none, none, (some 1), none, none, none, none, none, none, none], false⟩)))))))))
(.seq (.reg ⟨[(none, (.mv (.x 7))), (none, (.call 61 F_slices_Sort_int [(.r 0)]))],
  [none, none, none, none, none, none, none, none, none, none, none, none, none, none, none, none, none, none, none, none, none, none], false⟩)
(.seq (.reg ⟨[(none, (.mv (.x 6))), (none, (.mv (.x 7))), (none, (.mv (.r 0))), (none, (.mv (.r 1)))],
  [none, none, none, none, (some 2), (some 3), none, none, none, none, none, none, none, none, none, none, none, none, none, none, none, none], false⟩)
.ret))))))))⟩

def c_slices_Concat_Finding : IFn := ⟨1, 15, 2, [(.var 1)], [.raw], false, (.seq (.reg ⟨[(none, (.mv (.c (T.sl .nil 0 []))))],
  [none, (some 0), none, none, none, none, none, none, none, none, none, none, none, none, none], false⟩)
(.seq (.reg ⟨[(none, (.mv (.c (T.v (.int .i64 0)))))],
  [none, none, (some 0), none, none, none, none, none, none, none, none, none, none, none, none], false⟩)
(.seq (.seq (.reg ⟨[(none, (.mv (.x 0))), (none, (.len false (.r 0))), (none, (.mv (.c (T.v (.int .i64 0)))))],
  [none, none, none, none, none, none, (some 0), (some 1), (some 2), none, none, none, none, none, none], false⟩)
(.block 0
(.loop (.seq (.kill [1, 3, 4, 5, 9, 10, 11, 12, 13, 14])
(.seq (.free [])
(.seq (.reg ⟨[(none, (.bin .lss 3 (.x 8) (.x 7)))],
  [none, none, none, none, none, none, none, none, none, (some 0), none, none, none, none, none], false⟩)
(.seq (.cond (.x 9)
.skip
(.exit 0))
(.seq (.block 1
(.seq (.reg ⟨[(none, (.iaddrS 1 (.x 6) (.x 8))), (none, (.load false 1 (.r 0))), (none, (.mv (.r 1)))],
  [none, none, none, (some 2), none, none, none, none, none, none, none, none, none, none, none], false⟩)
(.seq (.reg ⟨[(none, (.mv (.x 2))), (none, (.mv (.x 3))), (none, (.len false (.r 1))), (none, (.bin .add 3 (.r 0) (.r 2))), (none, (.mv (.r 3)))],
  [none, none, (some 4), none, none, none, none, none, none, none, none, none, none, none, none], false⟩)
(.seq (.reg ⟨[(none, (.mv (.x 2))), (none, (.bin .lss 3 (.r 0) (.c (T.v (.int .i64 0)))))],
  [none, none, none, none, none, none, none, none, none, none, (some 1), none, none, none, none], false⟩)
(.cond (.x 10)
(.nojump (.exit 1000000))
.skip)))))
(.reg ⟨[(none, (.bin .add 3 (.x 8) (.c (T.v (.int .i64 1))))), (none, (.mv (.r 0)))],
  [none, none, none, none, none, none, none, none, (some 1), none, none, none, none, none, none], false⟩)))))))))
(.seq (.reg ⟨[(none, (.mv (.x 2))), (none, (.callnew 24 [0] F_slices_Grow_Finding [(.c (T.sl .nil 0 [])), (.r 0)])), (none, (.mv (.r 1)))],
  [none, none, none, none, (some 2), none, none, none, none, none, none, none, none, none, none], false⟩)
(.seq (.seq (.reg ⟨[(none, (.mv (.x 0))), (none, (.len false (.r 0))), (none, (.mv (.c (T.v (.int .i64 0)))))],
  [none, none, none, none, none, none, none, none, none, none, none, (some 0), (some 1), (some 2), none], false⟩)
(.block 2
(.loop (.seq (.kill [0, 1, 2, 3, 5, 6, 7, 8, 9, 10, 14])
(.seq (.free [])
(.seq (.reg ⟨[(none, (.bin .lss 3 (.x 13) (.x 12)))],
  [none, none, none, none, none, none, none, none, none, none, none, none, none, none, (some 0)], false⟩)
(.seq (.cond (.x 14)
.skip
(.exit 2))
(.seq (.block 3
(.seq (.reg ⟨[(none, (.iaddrS 1 (.x 11) (.x 13))), (none, (.load false 1 (.r 0))), (none, (.mv (.r 1)))],
  [none, none, none, none, none, (some 2), none, none, none, none, none, none, none, none, none], false⟩)
(.reg ⟨[(none, (.mv (.x 4))), (none, (.mv (.x 5))), (none, (.appendB 2 48 4 32 [(T.v (.int .i64 0)), (T.v (.int .i64 0)), (T.v (.int .i64 0)), (T.v (.int .i64 0))] 0 (.r 0) (.r 1))), (none, (.mv (.r 2)))],
  [none, none, none, none, (some 3), none, none, none, none, none, none, none, none, none, none], false⟩)))
(.reg ⟨[(none, (.bin .add 3 (.x 13) (.c (T.v (.int .i64 1))))), (none, (.mv (.r 0)))],
  [none, none, none, none, none, none, none, none, none, none, none, none, none, (some 1), none], false⟩)))))))))
(.seq (.reg ⟨[(none, (.mv (.x 4))), (none, (.mv (.r 0)))],
  [none, (some 1), none, none, none, none, none, none, none, none, none, none, none, none, none], false⟩)
.ret))))))⟩

def c_ref12_SameNode : IFn := ⟨2, 5, 2, [(.var 4)], [.raw], false, (.seq (.reg ⟨[(none, (.box 0 (.x 0))), (none, (.box 2 (.x 1))), (none, (.mv (.c (T.v (.bool false)))))],
  [none, none, (some 0), (some 1), (some 2)], false⟩)
(.seq (.reg ⟨[(none, (.faddr 0 (.x 2))), (none, (.load false 1 (.r 0))), (none, (.faddr 0 (.x 3))), (none, (.load false 1 (.r 2))), (none, (.bin .eql 3 (.r 1) (.r 3))), (none, (.mv (.r 4))), ((some (5, true)), (.faddr 1 (.x 2))), ((some (5, true)), (.load false 1 (.r 6))), ((some (5, true)), (.faddr 1 (.x 3))), ((some (5, true)), (.load false 1 (.r 8))), ((some (5, true)), (.bin .eql 3 (.r 7) (.r 9))), (none, (.pick (.r 5) (.r 10) (.c (T.v (.bool false))))), (none, (.mv (.r 11))), ((some (12, true)), (.faddr 2 (.x 2))), ((some (12, true)), (.load false 1 (.r 13))), ((some (12, true)), (.faddr 2 (.x 3))), ((some (12, true)), (.load false 1 (.r 15))), ((some (12, true)), (.bin .eql 3 (.r 14) (.r 16))), (none, (.pick (.r 12) (.r 17) (.c (T.v (.bool false))))), (none, (.mv (.r 18))), ((some (19, true)), (.faddr 3 (.x 2))), ((some (19, true)), (.load false 1 (.r 20))), ((some (19, true)), (.faddr 3 (.x 3))), ((some (19, true)), (.load false 1 (.r 22))), ((some (19, true)), (.bin .eql 3 (.r 21) (.r 23))), (none, (.pick (.r 19) (.r 24) (.c (T.v (.bool false))))), (none, (.mv (.r 25))), ((some (26, true)), (.faddr 6 (.x 2))), ((some (26, true)), (.load true 7 (.r 27))), ((some (26, true)), (.faddr 6 (.x 3))), ((some (26, true)), (.load true 7 (.r 29))), ((some (26, true)), (.eqa false [.int, .int, .str, .int, .int, .int, .int] (.r 28) (.r 30))), (none, (.pick (.r 26) (.r 31) (.c (T.v (.bool false))))), (none, (.mv (.r 32))), ((some (33, true)), (.faddr 4 (.x 2))), ((some (33, true)), (.load false 1 (.r 34))), ((some (33, true)), (.faddr 4 (.x 3))), ((some (33, true)), (.load false 1 (.r 36))), ((some (33, true)), (.call 43 F_ref01_Same [(.r 35), (.r 37)])), (none, (.pick (.r 33) (.r 38) (.c (T.v (.bool false))))), (none, (.mv (.r 39))), ((some (40, true)), (.faddr 5 (.x 2))), ((some (40, true)), (.load false 1 (.r 41))), ((some (40, true)), (.faddr 5 (.x 3))), ((some (40, true)), (.load false 1 (.r 43))), ((some (40, true)), (.call 50 F_ref08_Same [(.r 42), (.r 44)])), (none, (.pick (.r 40) (.r 45) (.c (T.v (.bool false))))), (none, (.mv (.r 46)))],
  [none, none, none, none, (some 47)], false⟩)
.ret))⟩

def c_geo_Bitmap : IFn := ⟨2, 4, 1, [(.var 3)], [.raw], false, (.seq (.reg ⟨[(none, (.box 0 (.x 0))), (none, (.mv (.c (T.v (.int .i64 0)))))],
  [none, none, (some 0), (some 1)], false⟩)
(.seq (.reg ⟨[(none, (.load true 4 (.x 2))), (none, (.build [(T.v (.int .i64 0)), (T.v (.int .i64 0)), (T.v (.int .i64 0)), (T.v (.int .i64 0))] [(0, (4, (.r 0)))])), (none, (.mv (.x 1))), (none, (.call 8 F_geo_layout_start [(.r 1), (.r 2)])), (none, (.mv (.r 3)))],
  [none, none, none, (some 4)], false⟩)
.ret))⟩

def c_geo_Total : IFn := ⟨1, 4, 1, [(.var 2)], [.raw], false, (.seq (.reg ⟨[(none, (.box 0 (.x 0))), (none, (.mv (.c (T.v (.int .i64 0)))))],
  [none, (some 0), (some 1), none], false⟩)
(.seq (.seq (.reg ⟨[(none, (.load true 4 (.x 1))), (none, (.call 4 F_geo_Check [(.r 0)])), (none, (.bin .neq 54 (.r 1) (.c (T.v (.int .i64 0)))))],
  [none, none, none, (some 2)], false⟩)
(.cond (.x 3)
(.seq (.reg ⟨[(none, (.mv (.c (T.v (.int .i64 0)))))],
  [none, none, (some 0), none], false⟩)
.ret)
.skip))
(.seq (.reg ⟨[(none, (.load true 4 (.x 1))), (none, (.build [(T.v (.int .i64 0)), (T.v (.int .i64 0)), (T.v (.int .i64 0)), (T.v (.int .i64 0))] [(0, (4, (.r 0)))])), (none, (.call 8 F_geo_layout_log [(.r 1)])), (none, (.faddr 3 (.x 1))), (none, (.load false 1 (.r 3))), (none, (.bin .add 3 (.r 2) (.r 4))), (none, (.mv (.r 5)))],
  [none, none, (some 6), none], true⟩)
.ret)))⟩

def c_slices_Chunk_byte : IFn := ⟨2, 6, 2, [(.var 4)], [.raw], false, (.seq (.reg ⟨[(none, (.box 0 (.x 0))), (none, (.box 2 (.x 1))), (none, (.mv (.c (T.v .nilFunc))))],
  [none, none, (some 0), (some 1), (some 2), none], false⟩)
(.seq (.seq (.reg ⟨[(none, (.load false 1 (.x 3))), (none, (.bin .lss 3 (.r 0) (.c (T.v (.int .i64 1)))))],
  [none, none, none, none, none, (some 1)], false⟩)
(.cond (.x 5)
(.nojump (.exit 1000000))
.skip))
(.seq (.reg ⟨[(none, (.mkFunc (.func F_slices_Chunk_byte_1) [] [(.x 2), (.x 3)])), (none, (.mv (.r 0)))],
  [none, none, none, none, (some 1), none], false⟩)
.ret)))⟩

def c_slices_Clone_byte : IFn := ⟨1, 3, 1, [(.var 1)], [(.box 0)], true, (.seq (.reg ⟨[(none, (.mv (.c (T.sl .nil 0 []))))],
  [none, (some 0), none], false⟩)
(.seq (.seq (.reg ⟨[(none, (.mv (.x 0))), (none, (.eqnil false (.r 0)))],
  [none, none, (some 1)], false⟩)
(.cond (.x 2)
(.seq (.reg ⟨[(none, (.mv (.c (T.sl .nil 0 []))))],
  [none, (some 0), none], false⟩)
.ret)
.skip))
(.seq (.reg ⟨[(none, (.bslice 5 5 1 0 [(T.v (.int .u8 0))] [])), (none, (.mv (.x 0))), (none, (.appendB 0 5 1 1 [(T.v (.int .u8 0))] 0 (.r 0) (.r 1))), (none, (.mv (.r 2)))],
  [none, (some 3), none], false⟩)
.ret)))⟩

def c_ref06_Start : IFn := ⟨2, 6, 1, [(.var 3)], [.raw], false, (.seq (.reg ⟨[(none, (.box 0 (.x 0))), (none, (.mv (.c (T.v (.int .i64 0)))))],
  [none, none, (some 0), (some 1), none, none], false⟩)
(.seq (.seq (.reg ⟨[(none, (.load true 4 (.x 2))), (none, (.call 6 F_ref06_Check [(.r 0)])), (none, (.bin .neq 54 (.r 1) (.c (T.v (.int .i64 0))))), (none, (.mv (.r 2))), ((some (3, false)), (.mv (.x 1))), ((some (3, false)), (.bin .lss 3 (.r 4) (.c (T.v (.int .i64 0))))), (none, (.pick (.r 3) (.c (T.v (.bool true))) (.r 5))), (none, (.mv (.r 6))), ((some (7, false)), (.mv (.x 1))), ((some (7, false)), (.faddr 0 (.x 2))), ((some (7, false)), (.load false 1 (.r 9))), ((some (7, false)), (.bin .gtr 3 (.r 8) (.r 10))), (none, (.pick (.r 7) (.c (T.v (.bool true))) (.r 11)))],
  [none, none, none, none, (some 12), none], false⟩)
(.cond (.x 4)
(.seq (.reg ⟨[(none, (.mv (.c (T.v (.int .i64 (-1))))))],
  [none, none, none, (some 0), none, none], false⟩)
.ret)
.skip))
(.seq (.seq (.reg ⟨[(none, (.mv (.x 1))), (none, (.bin .eql 3 (.r 0) (.c (T.v (.int .i64 0)))))],
  [none, none, none, none, none, (some 1)], false⟩)
(.cond (.x 5)
(.seq (.reg ⟨[(none, (.faddr 0 (.x 2))), (none, (.load false 1 (.r 0))), (none, (.load true 4 (.x 2))), (none, (.call 23 F_ref06_Layer [(.r 2)])), (none, (.bin .mul 3 (.r 1) (.r 3))), (none, (.bin .add 3 (.c (T.v (.int .i64 1))) (.r 4))), (none, (.mv (.r 5)))],
  [none, none, none, (some 6), none, none], true⟩)
.ret)
.skip))
(.seq (.reg ⟨[(none, (.mv (.x 1))), (none, (.bin .sub 3 (.r 0) (.c (T.v (.int .i64 1))))), (none, (.load true 4 (.x 2))), (none, (.call 29 F_ref06_Layer [(.r 2)])), (none, (.bin .mul 3 (.r 1) (.r 3))), (none, (.bin .add 3 (.c (T.v (.int .i64 1))) (.r 4))), (none, (.mv (.r 5)))],
  [none, none, none, (some 6), none, none], false⟩)
.ret))))⟩

def c_ref06_Total : IFn := ⟨1, 4, 1, [(.var 2)], [.raw], false, (.seq (.reg ⟨[(none, (.box 0 (.x 0))), (none, (.mv (.c (T.v (.int .i64 0)))))],
  [none, (some 0), (some 1), none], false⟩)
(.seq (.seq (.reg ⟨[(none, (.load true 4 (.x 1))), (none, (.call 4 F_ref06_Check [(.r 0)])), (none, (.bin .neq 54 (.r 1) (.c (T.v (.int .i64 0)))))],
  [none, none, none, (some 2)], false⟩)
(.cond (.x 3)
(.seq (.reg ⟨[(none, (.mv (.c (T.v (.int .i64 0)))))],
  [none, none, (some 0), none], false⟩)
.ret)
.skip))
(.seq (.reg ⟨[(none, (.faddr 0 (.x 1))), (none, (.load false 1 (.r 0))), (none, (.bin .add 3 (.r 1) (.c (T.v (.int .i64 1))))), (none, (.load true 4 (.x 1))), (none, (.call 10 F_ref06_Layer [(.r 3)])), (none, (.bin .mul 3 (.r 2) (.r 4))), (none, (.bin .add 3 (.c (T.v (.int .i64 1))) (.r 5))), (none, (.faddr 3 (.x 1))), (none, (.load false 1 (.r 7))), (none, (.bin .add 3 (.r 6) (.r 8))), (none, (.mv (.r 9)))],
  [none, none, (some 10), none], true⟩)
.ret)))⟩

def c_ref06_Layer : IFn := ⟨1, 3, 1, [(.var 2)], [.raw], false, (.seq (.reg ⟨[(none, (.box 0 (.x 0))), (none, (.mv (.c (T.v (.int .i64 0)))))],
  [none, (some 0), (some 1)], false⟩)
(.seq (.reg ⟨[(none, (.faddr 1 (.x 1))), (none, (.load false 1 (.r 0))), (none, (.bin .add 3 (.c (T.v (.int .i64 1))) (.r 1))), (none, (.faddr 2 (.x 1))), (none, (.load false 1 (.r 3))), (none, (.bin .add 3 (.r 2) (.r 4))), (none, (.mv (.r 5)))],
  [none, none, (some 6)], false⟩)
.ret))⟩

def c_ref06_Check : IFn := ⟨1, 5, 1, [(.var 2)], [.raw], false, (.seq (.reg ⟨[(none, (.box 0 (.x 0))), (none, (.mv (.c (T.v (.int .i64 0)))))],
  [none, (some 0), (some 1), none, none], false⟩)
(.seq (.seq (.reg ⟨[(none, (.faddr 0 (.x 1))), (none, (.load false 1 (.r 0))), (none, (.bin .lss 3 (.r 1) (.c (T.v (.int .i64 1))))), (none, (.mv (.r 2))), ((some (3, false)), (.faddr 0 (.x 1))), ((some (3, false)), (.load false 1 (.r 4))), ((some (3, false)), (.bin .gtr 3 (.r 5) (.c (T.v (.int .i64 3))))), (none, (.pick (.r 3) (.c (T.v (.bool true))) (.r 6))), (none, (.mv (.r 7))), ((some (8, false)), (.faddr 1 (.x 1))), ((some (8, false)), (.load false 1 (.r 9))), ((some (8, false)), (.bin .lss 3 (.r 10) (.c (T.v (.int .i64 4))))), (none, (.pick (.r 8) (.c (T.v (.bool true))) (.r 11))), (none, (.mv (.r 12))), ((some (13, false)), (.faddr 1 (.x 1))), ((some (13, false)), (.load false 1 (.r 14))), ((some (13, false)), (.bin .gtr 3 (.r 15) (.c (T.v (.int .i64 24))))), (none, (.pick (.r 13) (.c (T.v (.bool true))) (.r 16)))],
  [none, none, none, (some 17), none], false⟩)
(.cond (.x 3)
(.seq (.reg ⟨[(none, (.mv (.c (T.v (.int .i64 1)))))],
  [none, none, (some 0), none, none], false⟩)
.ret)
.skip))
(.seq (.seq (.reg ⟨[(none, (.faddr 2 (.x 1))), (none, (.load false 1 (.r 0))), (none, (.bin .lss 3 (.r 1) (.c (T.v (.int .i64 1))))), (none, (.mv (.r 2))), ((some (3, false)), (.faddr 2 (.x 1))), ((some (3, false)), (.load false 1 (.r 4))), ((some (3, false)), (.bin .gtr 3 (.r 5) (.c (T.v (.int .i64 60))))), (none, (.pick (.r 3) (.c (T.v (.bool true))) (.r 6))), (none, (.mv (.r 7))), ((some (8, false)), (.faddr 3 (.x 1))), ((some (8, false)), (.load false 1 (.r 9))), ((some (8, false)), (.bin .lss 3 (.r 10) (.c (T.v (.int .i64 1))))), (none, (.pick (.r 8) (.c (T.v (.bool true))) (.r 11))), (none, (.mv (.r 12))), ((some (13, false)), (.faddr 3 (.x 1))), ((some (13, false)), (.load false 1 (.r 14))), ((some (13, false)), (.bin .gtr 3 (.r 15) (.c (T.v (.int .i64 64))))), (none, (.pick (.r 13) (.c (T.v (.bool true))) (.r 16)))],
  [none, none, none, none, (some 17)], false⟩)
(.cond (.x 4)
(.seq (.reg ⟨[(none, (.mv (.c (T.v (.int .i64 1)))))],
  [none, none, (some 0), none, none], false⟩)
.ret)
.skip))
(.seq (.reg ⟨[(none, (.mv (.c (T.v (.int .i64 0)))))],
  [none, none, (some 0), none, none], false⟩)
.ret))))⟩

def c_ref01_Same : IFn := ⟨2, 7, 0, [(.var 2)], [.raw], false, (.seq (.reg ⟨[(none, (.mv (.c (T.v (.bool false)))))],
  [none, none, (some 0), none, none, none, none], false⟩)
(.seq (.seq (.reg ⟨[(none, (.mv (.x 0))), (none, (.len false (.r 0))), (none, (.mv (.x 1))), (none, (.len false (.r 2))), (none, (.bin .neq 3 (.r 1) (.r 3)))],
  [none, none, none, none, (some 4), none, none], false⟩)
(.cond (.x 4)
(.seq (.reg ⟨[(none, (.mv (.c (T.v (.bool false)))))],
  [none, none, (some 0), none, none, none, none], false⟩)
.ret)
.skip))
(.seq (.seq (.reg ⟨[(none, (.mv (.c (T.v (.int .i64 0)))))],
  [none, none, none, (some 0), none, none, none], false⟩)
(.block 0
(.loop (.seq (.kill [2, 4, 5, 6])
(.seq (.free [])
(.seq (.seq (.reg ⟨[(none, (.mv (.x 3))), (none, (.mv (.x 0))), (none, (.len false (.r 1))), (none, (.bin .lss 3 (.r 0) (.r 2)))],
  [none, none, none, none, none, (some 3), none], false⟩)
(.cond (.x 5)
.skip
(.exit 0)))
(.seq (.block 1
(.seq (.reg ⟨[(none, (.mv (.x 0))), (none, (.mv (.x 3))), (none, (.iaddrS 1 (.r 0) (.r 1))), (none, (.load false 1 (.r 2))), (none, (.mv (.x 1))), (none, (.mv (.x 3))), (none, (.iaddrS 1 (.r 4) (.r 5))), (none, (.load false 1 (.r 6))), (none, (.bin .neq 5 (.r 3) (.r 7)))],
  [none, none, none, none, none, none, (some 8)], true⟩)
(.cond (.x 6)
(.seq (.reg ⟨[(none, (.mv (.c (T.v (.bool false)))))],
  [none, none, (some 0), none, none, none, none], false⟩)
.ret)
.skip)))
(.reg ⟨[(none, (.mv (.x 3))), (none, (.bin .add 3 (.r 0) (.c (T.v (.int .i64 1))))), (none, (.mv (.r 1)))],
  [none, none, none, (some 2), none, none, none], false⟩))))))))
(.seq (.reg ⟨[(none, (.mv (.c (T.v (.bool true)))))],
  [none, none, (some 0), none, none, none, none], false⟩)
.ret))))⟩

def c_ref06_Bytes : IFn := ⟨1, 3, 1, [(.var 2)], [.raw], false, (.seq (.reg ⟨[(none, (.box 0 (.x 0))), (none, (.mv (.c (T.sl .nil 0 []))))],
  [none, (some 0), (some 1)], false⟩)
(.seq (.reg ⟨[(none, (.faddr 0 (.x 1))), (none, (.load false 1 (.r 0))), (none, (.toInt .u8 (.r 1))), (none, (.faddr 1 (.x 1))), (none, (.load false 1 (.r 3))), (none, (.toInt .u8 (.r 4))), (none, (.faddr 2 (.x 1))), (none, (.load false 1 (.r 6))), (none, (.toInt .u8 (.r 7))), (none, (.faddr 3 (.x 1))), (none, (.load false 1 (.r 9))), (none, (.toInt .u8 (.r 10))), (none, (.bslice 15 5 1 9 [(T.v (.int .u8 0))] [(0, (1, (.c (T.v (.int .u8 82))))), (1, (1, (.c (T.v (.int .u8 84))))), (2, (1, (.c (T.v (.int .u8 66))))), (3, (1, (.c (T.v (.int .u8 76))))), (4, (1, (.c (T.v (.int .u8 1))))), (5, (1, (.r 2))), (6, (1, (.r 5))), (7, (1, (.r 8))), (8, (1, (.r 11)))])), (none, (.call 16 F_ref02_Seal [(.r 12)])), (none, (.mv (.r 13)))],
  [none, none, (some 14)], false⟩)
.ret))⟩

def c_plain_dir : IFn := ⟨1, 2, 1, [(.cell 1 true 13)], [.raw], false, (.seq (.reg ⟨[(none, (.alloc 0 [(T.v (.int .i64 0)), (T.v (.int .i64 0)), (T.v (.int .i64 0)), (T.v (.int .i64 0)), (T.sl .nil 0 []), (T.sl .nil 0 []), (T.v (.int .i64 0)), (T.v (.int .i64 0)), (T.v (.string ⟨#[]⟩)), (T.v (.int .i64 0)), (T.v (.int .i64 0)), (T.v (.int .i64 0)), (T.v (.int .i64 0))]))],
  [none, (some 0)], false⟩)
(.seq (.reg ⟨[(none, (.mv (.x 0))), (none, (.build [(T.v (.int .i64 0)), (T.v (.int .i64 0)), (T.v (.int .i64 0)), (T.v (.int .i64 0)), (T.sl .nil 0 []), (T.sl .nil 0 []), (T.v (.int .i64 0)), (T.v (.int .i64 0)), (T.v (.string ⟨#[]⟩)), (T.v (.int .i64 0)), (T.v (.int .i64 0)), (T.v (.int .i64 0)), (T.v (.int .i64 0))] [(0, (1, (.c (T.v (.int .i64 1))))), (2, (1, (.c (T.v (.int .i64 2))))), (5, (1, (.r 0)))])), (none, (.store 13 (.x 1) (.r 1)))],
  [none, none], false⟩)
.ret))⟩

def c_ref40_Image : IFn := ⟨1, 13, 2, [(.var 2), (.var 3)], [.raw, .raw], false, (.seq (.reg ⟨[(none, (.box 0 (.x 0))), (none, (.mv (.c (T.sl .nil 0 [])))), (none, (.mv (.c (T.v (.int .i64 0)))))],
  [none, (some 0), (some 1), (some 2), none, none, none, none, none, none, none, none, none], false⟩)
(.seq (.seq (.reg ⟨[(none, (.load true 6 (.x 1))), (none, (.call 10 F_ref40_Right [(.r 0)])), (none, (.un .not (.r 1)))],
  [none, none, none, none, none, none, none, none, none, (some 2), none, none, none], false⟩)
(.cond (.x 9)
(.seq (.reg ⟨[(none, (.mv (.c (T.sl .nil 0 [])))), (none, (.mv (.c (T.v (.int .i64 1)))))],
  [none, none, (some 0), (some 1), none, none, none, none, none, none, none, none, none], false⟩)
.ret)
.skip))
(.seq (.reg ⟨[(none, (.faddr 0 (.x 1))), (none, (.load true 4 (.r 0))), (none, (.call 14 F_ref06_Bytes [(.r 1)])), (none, (.mv (.r 2)))],
  [none, none, none, none, (some 3), none, none, none, none, none, none, none, none], false⟩)
(.seq (.seq (.reg ⟨[(none, (.mv (.c (T.v (.int .i64 0)))))],
  [none, none, none, none, none, (some 0), none, none, none, none, none, none, none], false⟩)
(.block 0
(.loop (.seq (.kill [0, 2, 3, 6, 7, 8, 9, 10, 11, 12])
(.seq (.free [2, 3])
(.seq (.seq (.reg ⟨[(none, (.mv (.x 5))), (none, (.faddr 5 (.x 1))), (none, (.load false 1 (.r 1))), (none, (.len false (.r 2))), (none, (.bin .leq 3 (.r 0) (.r 3)))],
  [none, none, none, none, none, none, none, none, none, none, (some 4), none, none], false⟩)
(.cond (.x 10)
.skip
(.exit 0)))
(.seq (.block 1
(.seq (.reg ⟨[(none, (.faddr 4 (.x 1))), (none, (.load true 1 (.r 0))), (none, (.alloc 2 [(T.sl .nil 0 [])])), (none, (.store 1 (.r 2) (.r 1)))],
  [none, none, none, none, none, none, (some 2), none, none, none, none, none, none], false⟩)
(.seq (.seq (.reg ⟨[(none, (.mv (.x 5))), (none, (.faddr 5 (.x 1))), (none, (.load false 1 (.r 1))), (none, (.len false (.r 2))), (none, (.bin .lss 3 (.r 0) (.r 3)))],
  [none, none, none, none, none, none, none, none, none, none, none, (some 4), none], false⟩)
(.cond (.x 11)
(.reg ⟨[(none, (.faddr 5 (.x 1))), (none, (.load false 1 (.r 0))), (none, (.mv (.x 5))), (none, (.iaddrS 1 (.r 1) (.r 2))), (none, (.load true 1 (.r 3))), (none, (.store 1 (.x 6) (.r 4)))],
  [none, none, none, none, none, none, none, none, none, none, none, none, none], false⟩)
.skip))
(.seq (.reg ⟨[(none, (.faddr 0 (.x 1))), (none, (.load true 4 (.r 0))), (none, (.load true 1 (.x 6))), (none, (.call 38 F_ref40_sectors [(.r 1), (.r 2)])), (none, (.mv (.r 3))), (none, (.extract (.r 4) 0)), (none, (.extract (.r 4) 1)), (none, (.mv (.r 5))), (none, (.mv (.r 6)))],
  [none, none, none, none, none, none, none, (some 7), (some 8), none, none, none, none], false⟩)
(.seq (.seq (.reg ⟨[(none, (.mv (.x 8))), (none, (.un .not (.r 0)))],
  [none, none, none, none, none, none, none, none, none, none, none, none, (some 1)], false⟩)
(.cond (.x 12)
(.seq (.reg ⟨[(none, (.mv (.c (T.sl .nil 0 [])))), (none, (.mv (.c (T.v (.int .i64 5)))))],
  [none, none, (some 0), (some 1), none, none, none, none, none, none, none, none, none], false⟩)
.ret)
.skip))
(.reg ⟨[(none, (.mv (.x 4))), (none, (.mv (.x 7))), (none, (.append 45 5 1 1 [(T.v (.int .u8 0))] 0 (.r 0) (.r 1))), (none, (.mv (.r 2)))],
  [none, none, none, none, (some 3), none, none, none, none, none, none, none, none], false⟩))))))
(.reg ⟨[(none, (.mv (.x 5))), (none, (.bin .add 3 (.r 0) (.c (T.v (.int .i64 1))))), (none, (.mv (.r 1)))],
  [none, none, none, none, none, (some 2), none, none, none, none, none, none, none], false⟩))))))))
(.seq (.reg ⟨[(none, (.mv (.x 4))), (none, (.call 47 F_ref27_Empty [])), (none, (.append 48 5 1 1 [(T.v (.int .u8 0))] 0 (.r 0) (.r 1))), (none, (.mv (.r 2)))],
  [none, none, none, none, (some 3), none, none, none, none, none, none, none, none], false⟩)
(.seq (.reg ⟨[(none, (.mv (.x 4))), (none, (.faddr 0 (.x 1))), (none, (.faddr 3 (.r 1))), (none, (.load false 1 (.r 2))), (none, (.bin .sub 3 (.r 3) (.c (T.v (.int .i64 1))))), (none, (.bin .mul 3 (.c (T.v (.int .i64 64))) (.r 4))), (none, (.append 55 5 1 1 [(T.v (.int .u8 0))] 2 (.r 0) (.r 5))), (none, (.mv (.r 6))), (none, (.mv (.c (T.v (.int .i64 0)))))],
  [none, none, (some 7), (some 8), none, none, none, none, none, none, none, none, none], false⟩)
.ret))))))⟩

def c_geo_Check : IFn := ⟨1, 4, 1, [(.var 2)], [.raw], false, (.seq (.reg ⟨[(none, (.box 0 (.x 0))), (none, (.mv (.c (T.v (.int .i64 0)))))],
  [none, (some 0), (some 1), none], false⟩)
(.seq (.seq (.reg ⟨[(none, (.faddr 0 (.x 1))), (none, (.load false 1 (.r 0))), (none, (.call 5 F_geo_within [(.r 1), (.c (T.v (.int .i64 1))), (.c (T.v (.int .i64 3)))])), (none, (.mv (.r 2))), ((some (3, true)), (.faddr 1 (.x 1))), ((some (3, true)), (.load false 1 (.r 4))), ((some (3, true)), (.call 9 F_geo_within [(.r 5), (.c (T.v (.int .i64 4))), (.c (T.v (.int .i64 24)))])), (none, (.pick (.r 3) (.r 6) (.c (T.v (.bool false))))), (none, (.mv (.r 7))), ((some (8, true)), (.faddr 2 (.x 1))), ((some (8, true)), (.load false 1 (.r 9))), ((some (8, true)), (.call 14 F_geo_within [(.r 10), (.c (T.v (.int .i64 1))), (.c (T.v (.int .i64 60)))])), (none, (.pick (.r 8) (.r 11) (.c (T.v (.bool false))))), (none, (.mv (.r 12))), ((some (13, true)), (.faddr 3 (.x 1))), ((some (13, true)), (.load false 1 (.r 14))), ((some (13, true)), (.call 19 F_geo_within [(.r 15), (.c (T.v (.int .i64 1))), (.c (T.v (.int .i64 64)))])), (none, (.pick (.r 13) (.r 16) (.c (T.v (.bool false)))))],
  [none, none, none, (some 17)], false⟩)
(.cond (.x 3)
(.seq (.reg ⟨[(none, (.mv (.c (T.v (.int .i64 0)))))],
  [none, none, (some 0), none], false⟩)
.ret)
.skip))
(.seq (.reg ⟨[(none, (.mv (.c (T.v (.int .i64 1)))))],
  [none, none, (some 0), none], false⟩)
.ret)))⟩

def c_inode_read : IFn := ⟨1, 9, 3, [(.cell 1 true 10)], [.raw], false, (.seq (.reg ⟨[(none, (.alloc 0 (List.replicate 10 (T.v (.int .i64 0)))))],
  [none, (some 0), none, none, none, none, none, none, none], false⟩)
(.seq (.reg ⟨[(none, (.alloc 2 (List.replicate 10 (T.v (.int .i64 0)))))],
  [none, none, (some 0), none, none, none, none, none, none], false⟩)
(.seq (.reg ⟨[(none, (.mv (.c (T.v (.int .i64 0)))))],
  [none, none, none, (some 0), none, none, none, none, none], false⟩)
(.seq (.seq (.reg ⟨[(none, (.build (List.replicate 10 (T.v (.int .i64 0))) [])), (none, (.call 8 F_inode_numbers [(.r 0)])), (none, (.mv (.c (T.v (.int .i64 0)))))],
  [none, none, none, none, none, none, (some 1), (some 2), none], false⟩)
(.block 0
(.loop (.seq (.kill [4, 5, 8])
(.seq (.free [4, 5])
(.seq (.reg ⟨[(none, (.bin .lss 3 (.x 7) (.c (T.v (.int .i64 10)))))],
  [none, none, none, none, none, none, none, none, (some 0)], false⟩)
(.seq (.cond (.x 8)
.skip
(.exit 0))
(.seq (.block 1
(.seq (.reg ⟨[(none, (.mv (.x 7))), (none, (.indexA 10 3 true (.x 6) (.x 7))), (none, (.alloc 4 [(T.v (.int .i64 0)), (T.v (.int .i64 0)), (T.v (.int .i64 0))])), (none, (.mv (.r 0))), (none, (.store 3 (.r 2) (.r 1)))],
  [none, none, none, none, (some 3), (some 2), none, none, none], false⟩)
(.seq (.reg ⟨[(none, (.mv (.x 4))), (none, (.mv (.x 0))), (none, (.mv (.x 3))), (none, (.iaddrA 3 1 (.x 5) (.c (T.v (.int .i64 1))))), (none, (.load false 1 (.r 3))), (none, (.call 19 F_num_Get [(.r 1), (.r 2), (.r 4)])), (none, (.mv (.r 5))), (none, (.extract (.r 6) 0)), (none, (.extract (.r 6) 1)), (none, (.iaddrA 10 1 (.x 2) (.r 0))), (none, (.store 1 (.r 9) (.r 7)))],
  [none, none, none, none, none, none, none, none, none], false⟩)
(.reg ⟨[(none, (.mv (.x 3))), (none, (.iaddrA 3 1 (.x 5) (.c (T.v (.int .i64 1))))), (none, (.load false 1 (.r 1))), (none, (.bin .add 3 (.r 0) (.r 2))), (none, (.mv (.r 3)))],
  [none, none, none, (some 4), none, none, none, none, none], false⟩))))
(.reg ⟨[(none, (.bin .add 3 (.x 7) (.c (T.v (.int .i64 1))))), (none, (.mv (.r 0)))],
  [none, none, none, none, none, none, none, (some 1), none], false⟩)))))))))
(.seq (.reg ⟨[(none, (.iaddrA 10 1 (.x 2) (.c (T.v (.int .i64 0))))), (none, (.load false 1 (.r 0))), (none, (.iaddrA 10 1 (.x 2) (.c (T.v (.int .i64 1))))), (none, (.load false 1 (.r 2))), (none, (.iaddrA 10 1 (.x 2) (.c (T.v (.int .i64 2))))), (none, (.load false 1 (.r 4))), (none, (.iaddrA 10 1 (.x 2) (.c (T.v (.int .i64 3))))), (none, (.load false 1 (.r 6))), (none, (.iaddrA 10 1 (.x 2) (.c (T.v (.int .i64 4))))), (none, (.load false 1 (.r 8))), (none, (.sliceA 10 1 (.x 2) (some (.c (T.v (.int .i64 5)))) (some (.c (T.v (.int .i64 9)))))), (none, (.arrOf 4 (.r 10))), (none, (.load true 4 (.r 11))), (none, (.iaddrA 10 1 (.x 2) (.c (T.v (.int .i64 9))))), (none, (.load false 1 (.r 13))), (none, (.build (List.replicate 10 (T.v (.int .i64 0))) [(0, (1, (.r 1))), (1, (1, (.r 3))), (2, (1, (.r 5))), (3, (1, (.r 7))), (4, (1, (.r 9))), (5, (4, (.r 12))), (9, (1, (.r 14)))])), (none, (.store 10 (.x 1) (.r 15)))],
  [none, none, none, none, none, none, none, none, none], true⟩)
.ret)))))⟩

def c_inode_Put : IFn := ⟨1, 11, 2, [(.var 2), (.var 3)], [.raw, .raw], false, (.seq (.reg ⟨[(none, (.box 0 (.x 0))), (none, (.mv (.c (T.sl .nil 0 [])))), (none, (.mv (.c (T.v (.int .i64 0)))))],
  [none, (some 0), (some 1), (some 2), none, none, none, none, none, none, none], false⟩)
(.seq (.block 0
(.seq (.reg ⟨[(none, (.load true 10 (.x 1))), (none, (.call 9 F_inode_Right [(.r 0)])), (none, (.un .not (.r 1))), (none, (.mv (.r 2)))],
  [none, none, none, none, none, none, (some 3), none, none, none, none], false⟩)
(.cond (.x 6)
(.seq (.reg ⟨[(none, (.mv (.c (T.sl .nil 0 [])))), (none, (.mv (.c (T.v (.int .i64 1)))))],
  [none, none, (some 0), (some 1), none, none, none, none, none, none, none], false⟩)
.ret)
(.seq (.reg ⟨[(none, (.faddr 0 (.x 1))), (none, (.load false 1 (.r 0))), (none, (.bin .eql 3 (.r 1) (.c (T.v (.int .i64 0))))), (none, (.mv (.r 2)))],
  [none, none, none, none, none, none, none, (some 3), none, none, none], false⟩)
(.cond (.x 7)
(.seq (.reg ⟨[(none, (.mkSlice 15 5 1 1 [(T.v (.int .u8 0))] (.c (T.v (.int .i64 64))))), (none, (.mv (.r 0))), (none, (.mv (.c (T.v (.int .i64 0)))))],
  [none, none, (some 1), (some 2), none, none, none, none, none, none, none], false⟩)
.ret)
.skip)))))
(.seq (.reg ⟨[(none, (.mv (.c (T.sl .nil 0 []))))],
  [none, none, none, none, (some 0), none, none, none, none, none, none], false⟩)
(.seq (.seq (.reg ⟨[(none, (.load true 10 (.x 1))), (none, (.call 17 F_inode_numbers [(.r 0)])), (none, (.mv (.c (T.v (.int .i64 0)))))],
  [none, none, none, none, none, none, none, none, (some 1), (some 2), none], false⟩)
(.block 1
(.loop (.seq (.kill [0, 1, 2, 3, 5, 6, 7, 10])
(.seq (.free [2, 3])
(.seq (.reg ⟨[(none, (.bin .lss 3 (.x 9) (.c (T.v (.int .i64 10)))))],
  [none, none, none, none, none, none, none, none, none, none, (some 0)], false⟩)
(.seq (.cond (.x 10)
.skip
(.exit 1))
(.seq (.block 2
(.seq (.reg ⟨[(none, (.indexA 10 3 true (.x 8) (.x 9))), (none, (.alloc 2 [(T.v (.int .i64 0)), (T.v (.int .i64 0)), (T.v (.int .i64 0))])), (none, (.store 3 (.r 1) (.r 0)))],
  [none, none, none, none, none, (some 1), none, none, none, none, none], false⟩)
(.reg ⟨[(none, (.mv (.x 4))), (none, (.iaddrA 3 1 (.x 5) (.c (T.v (.int .i64 0))))), (none, (.load false 1 (.r 1))), (none, (.iaddrA 3 1 (.x 5) (.c (T.v (.int .i64 1))))), (none, (.load false 1 (.r 3))), (none, (.call 26 F_num_Put [(.r 0), (.r 2), (.r 4)])), (none, (.mv (.r 5)))],
  [none, none, none, none, (some 6), none, none, none, none, none, none], false⟩)))
(.reg ⟨[(none, (.bin .add 3 (.x 9) (.c (T.v (.int .i64 1))))), (none, (.mv (.r 0)))],
  [none, none, none, none, none, none, none, none, none, (some 1), none], false⟩)))))))))
(.seq (.reg ⟨[(none, (.mv (.x 4))), (none, (.call 29 F_sum_Seal [(.r 0)])), (none, (.mv (.r 1))), (none, (.mv (.c (T.v (.int .i64 0)))))],
  [none, none, (some 2), (some 3), none, none, none, none, none, none, none], false⟩)
.ret)))))⟩

def c_ref07_Right : IFn := ⟨1, 9, 1, [(.var 2)], [.raw], false, (.seq (.reg ⟨[(none, (.box 0 (.x 0))), (none, (.mv (.c (T.v (.bool false)))))],
  [none, (some 0), (some 1), none, none, none, none, none, none], false⟩)
(.seq (.seq (.reg ⟨[(none, (.load true 10 (.x 1))), (none, (.build (List.replicate 10 (T.v (.int .i64 0))) [])), (none, (.eqa false [.int, .int, .int, .int, .int, .int, .int, .int, .int, .int] (.r 0) (.r 1)))],
  [none, none, none, none, (some 2), none, none, none, none], false⟩)
(.cond (.x 4)
(.seq (.reg ⟨[(none, (.mv (.c (T.v (.bool true)))))],
  [none, none, (some 0), none, none, none, none, none, none], false⟩)
.ret)
.skip))
(.seq (.seq (.reg ⟨[(none, (.faddr 0 (.x 1))), (none, (.load false 1 (.r 0))), (none, (.bin .lss 3 (.r 1) (.c (T.v (.int .i64 1))))), (none, (.mv (.r 2))), ((some (3, false)), (.faddr 0 (.x 1))), ((some (3, false)), (.load false 1 (.r 4))), ((some (3, false)), (.bin .gtr 3 (.r 5) (.c (T.v (.int .i64 4))))), (none, (.pick (.r 3) (.c (T.v (.bool true))) (.r 6))), (none, (.mv (.r 7))), ((some (8, false)), (.faddr 1 (.x 1))), ((some (8, false)), (.load false 1 (.r 9))), ((some (8, false)), (.call 18 F_ref07_count [(.r 10), (.c (T.v (.int .i64 255)))])), ((some (8, false)), (.un .not (.r 11))), (none, (.pick (.r 8) (.c (T.v (.bool true))) (.r 12))), (none, (.mv (.r 13))), ((some (14, false)), (.faddr 2 (.x 1))), ((some (14, false)), (.load false 1 (.r 15))), ((some (14, false)), (.call 24 F_ref07_count [(.r 16), (.c (T.v (.int .i64 65535)))])), ((some (14, false)), (.un .not (.r 17))), (none, (.pick (.r 14) (.c (T.v (.bool true))) (.r 18))), (none, (.mv (.r 19))), ((some (20, false)), (.faddr 9 (.x 1))), ((some (20, false)), (.load false 1 (.r 21))), ((some (20, false)), (.call 30 F_ref07_count [(.r 22), (.c (T.v (.int .i64 65535)))])), ((some (20, false)), (.un .not (.r 23))), (none, (.pick (.r 20) (.c (T.v (.bool true))) (.r 24))), (none, (.mv (.r 25))), ((some (26, false)), (.faddr 3 (.x 1))), ((some (26, false)), (.load false 1 (.r 27))), ((some (26, false)), (.call 36 F_ref07_count [(.r 28), (.c (T.v (.int .i64 268435455)))])), ((some (26, false)), (.un .not (.r 29))), (none, (.pick (.r 26) (.c (T.v (.bool true))) (.r 30))), (none, (.mv (.r 31))), ((some (32, false)), (.faddr 4 (.x 1))), ((some (32, false)), (.load false 1 (.r 33))), ((some (32, false)), (.call 42 F_ref07_count [(.r 34), (.c (T.v (.int .i64 256)))])), ((some (32, false)), (.un .not (.r 35))), (none, (.pick (.r 32) (.c (T.v (.bool true))) (.r 36)))],
  [none, none, none, none, none, (some 37), none, none, none], false⟩)
(.cond (.x 5)
(.seq (.reg ⟨[(none, (.mv (.c (T.v (.bool false)))))],
  [none, none, (some 0), none, none, none, none, none, none], false⟩)
.ret)
.skip))
(.seq (.seq (.reg ⟨[(none, (.faddr 0 (.x 1))), (none, (.load false 1 (.r 0))), (none, (.bin .eql 3 (.r 1) (.c (T.v (.int .i64 1))))), (none, (.mv (.r 2))), ((some (3, false)), (.faddr 0 (.x 1))), ((some (3, false)), (.load false 1 (.r 4))), ((some (3, false)), (.bin .eql 3 (.r 5) (.c (T.v (.int .i64 4))))), (none, (.pick (.r 3) (.c (T.v (.bool true))) (.r 6))), (none, (.mv (.r 7))), ((some (8, true)), (.faddr 4 (.x 1))), ((some (8, true)), (.load false 1 (.r 9))), ((some (8, true)), (.bin .neq 3 (.r 10) (.c (T.v (.int .i64 0))))), (none, (.pick (.r 8) (.r 11) (.c (T.v (.bool false)))))],
  [none, none, none, none, none, none, (some 12), none, none], false⟩)
(.cond (.x 6)
(.seq (.reg ⟨[(none, (.mv (.c (T.v (.bool false)))))],
  [none, none, (some 0), none, none, none, none, none, none], false⟩)
.ret)
.skip))
(.seq (.seq (.reg ⟨[(none, (.mv (.c (T.v (.int .i64 0)))))],
  [none, none, none, (some 0), none, none, none, none, none], false⟩)
(.block 0
(.loop (.seq (.kill [0, 2, 4, 5, 6, 7, 8])
(.seq (.free [])
(.seq (.seq (.reg ⟨[(none, (.mv (.x 3))), (none, (.bin .lss 3 (.r 0) (.c (T.v (.int .i64 4)))))],
  [none, none, none, none, none, none, none, (some 1), none], false⟩)
(.cond (.x 7)
.skip
(.exit 0)))
(.seq (.block 1
(.seq (.reg ⟨[(none, (.mv (.x 3))), (none, (.faddr 5 (.x 1))), (none, (.iaddrA 4 1 (.r 1) (.r 0))), (none, (.load false 1 (.r 2))), (none, (.call 66 F_ref07_count [(.r 3), (.c (T.v (.int .i64 65535)))])), (none, (.un .not (.r 4))), (none, (.mv (.r 5))), ((some (6, false)), (.faddr 0 (.x 1))), ((some (6, false)), (.load false 1 (.r 7))), ((some (6, false)), (.bin .eql 3 (.r 8) (.c (T.v (.int .i64 4))))), ((some (6, false)), (.mv (.r 9))), ((some (10, true)), (.mv (.x 3))), ((some (10, true)), (.faddr 5 (.x 1))), ((some (10, true)), (.iaddrA 4 1 (.r 12) (.r 11))), ((some (10, true)), (.load false 1 (.r 13))), ((some (10, true)), (.bin .neq 3 (.r 14) (.c (T.v (.int .i64 0))))), ((some (6, false)), (.pick (.r 10) (.r 15) (.c (T.v (.bool false))))), (none, (.pick (.r 6) (.c (T.v (.bool true))) (.r 16)))],
  [none, none, none, none, none, none, none, none, (some 17)], false⟩)
(.cond (.x 8)
(.seq (.reg ⟨[(none, (.mv (.c (T.v (.bool false)))))],
  [none, none, (some 0), none, none, none, none, none, none], false⟩)
.ret)
.skip)))
(.reg ⟨[(none, (.mv (.x 3))), (none, (.bin .add 3 (.r 0) (.c (T.v (.int .i64 1))))), (none, (.mv (.r 1)))],
  [none, none, none, (some 2), none, none, none, none, none], false⟩))))))))
(.seq (.reg ⟨[(none, (.mv (.c (T.v (.bool true)))))],
  [none, none, (some 0), none, none, none, none, none, none], false⟩)
.ret))))))⟩

def c_ref07_Bytes : IFn := ⟨1, 7, 1, [(.var 2)], [.raw], false, (.seq (.reg ⟨[(none, (.box 0 (.x 0))), (none, (.mv (.c (T.sl .nil 0 []))))],
  [none, (some 0), (some 1), none, none, none, none], false⟩)
(.seq (.seq (.reg ⟨[(none, (.load true 10 (.x 1))), (none, (.build (List.replicate 10 (T.v (.int .i64 0))) [])), (none, (.eqa false [.int, .int, .int, .int, .int, .int, .int, .int, .int, .int] (.r 0) (.r 1)))],
  [none, none, none, none, none, (some 2), none], false⟩)
(.cond (.x 5)
(.seq (.reg ⟨[(none, (.mkSlice 8 5 1 1 [(T.v (.int .u8 0))] (.c (T.v (.int .i64 64))))), (none, (.mv (.r 0)))],
  [none, none, (some 1), none, none, none, none], false⟩)
.ret)
.skip))
(.seq (.reg ⟨[(none, (.faddr 0 (.x 1))), (none, (.load false 1 (.r 0))), (none, (.toInt .u8 (.r 1))), (none, (.faddr 1 (.x 1))), (none, (.load false 1 (.r 3))), (none, (.toInt .u8 (.r 4))), (none, (.bslice 15 5 1 2 [(T.v (.int .u8 0))] [(0, (1, (.r 2))), (1, (1, (.r 5)))])), (none, (.faddr 2 (.x 1))), (none, (.load false 1 (.r 7))), (none, (.call 18 F_ref01_Bytes [(.r 8), (.c (T.v (.int .i64 2)))])), (none, (.append 19 5 1 1 [(T.v (.int .u8 0))] 0 (.r 6) (.r 9))), (none, (.mv (.r 10)))],
  [none, none, none, (some 11), none, none, none], true⟩)
(.seq (.reg ⟨[(none, (.mv (.x 3))), (none, (.faddr 3 (.x 1))), (none, (.load false 1 (.r 1))), (none, (.call 23 F_ref01_Bytes [(.r 2), (.c (T.v (.int .i64 4)))])), (none, (.append 24 5 1 1 [(T.v (.int .u8 0))] 0 (.r 0) (.r 3))), (none, (.mv (.r 4)))],
  [none, none, none, (some 5), none, none, none], false⟩)
(.seq (.reg ⟨[(none, (.mv (.x 3))), (none, (.faddr 4 (.x 1))), (none, (.load false 1 (.r 1))), (none, (.call 28 F_ref01_Bytes [(.r 2), (.c (T.v (.int .i64 2)))])), (none, (.append 29 5 1 1 [(T.v (.int .u8 0))] 0 (.r 0) (.r 3))), (none, (.mv (.r 4)))],
  [none, none, none, (some 5), none, none, none], false⟩)
(.seq (.seq (.reg ⟨[(none, (.mv (.c (T.v (.int .i64 0)))))],
  [none, none, none, none, (some 0), none, none], false⟩)
(.block 0
(.loop (.seq (.kill [0, 2, 5, 6])
(.seq (.free [])
(.seq (.seq (.reg ⟨[(none, (.mv (.x 4))), (none, (.bin .lss 3 (.r 0) (.c (T.v (.int .i64 4)))))],
  [none, none, none, none, none, none, (some 1)], false⟩)
(.cond (.x 6)
.skip
(.exit 0)))
(.seq (.block 1
(.reg ⟨[(none, (.mv (.x 3))), (none, (.mv (.x 4))), (none, (.faddr 5 (.x 1))), (none, (.iaddrA 4 1 (.r 2) (.r 1))), (none, (.load false 1 (.r 3))), (none, (.call 39 F_ref01_Bytes [(.r 4), (.c (T.v (.int .i64 2)))])), (none, (.append 40 5 1 1 [(T.v (.int .u8 0))] 0 (.r 0) (.r 5))), (none, (.mv (.r 6)))],
  [none, none, none, (some 7), none, none, none], false⟩))
(.reg ⟨[(none, (.mv (.x 4))), (none, (.bin .add 3 (.r 0) (.c (T.v (.int .i64 1))))), (none, (.mv (.r 1)))],
  [none, none, none, none, (some 2), none, none], false⟩))))))))
(.seq (.reg ⟨[(none, (.mv (.x 3))), (none, (.faddr 9 (.x 1))), (none, (.load false 1 (.r 1))), (none, (.call 44 F_ref01_Bytes [(.r 2), (.c (T.v (.int .i64 2)))])), (none, (.append 45 5 1 1 [(T.v (.int .u8 0))] 0 (.r 0) (.r 3))), (none, (.call 46 F_ref02_Seal [(.r 4)])), (none, (.mv (.r 5)))],
  [none, none, (some 6), none, none, none, none], false⟩)
.ret)))))))⟩

def c_branch_region_block : IFn := ⟨3, 9, 2, [(.var 4), (.var 5)], [.raw, .raw], false, (.seq (.reg ⟨[(none, (.box 0 (.x 0))), (none, (.mv (.c (T.sl .nil 0 [])))), (none, (.mv (.c (T.v (.bool false)))))],
  [none, none, none, (some 0), (some 1), (some 2), none, none, none], false⟩)
(.seq (.seq (.reg ⟨[(none, (.load true 6 (.x 3))), (none, (.call 11 F_branch_region_right [(.r 0)])), (none, (.un .not (.r 1))), (none, (.mv (.r 2))), ((some (3, false)), (.faddr 5 (.x 3))), ((some (3, false)), (.load false 1 (.r 4))), ((some (3, false)), (.faddr 0 (.x 3))), ((some (3, false)), (.faddr 2 (.r 6))), ((some (3, false)), (.load false 1 (.r 7))), ((some (3, false)), (.mv (.x 1))), ((some (3, false)), (.mv (.x 2))), ((some (3, false)), (.call 21 F_claim_Valid [(.r 5), (.r 8), (.r 9), (.r 10)])), ((some (3, false)), (.un .not (.r 11))), (none, (.pick (.r 3) (.c (T.v (.bool true))) (.r 12)))],
  [none, none, none, none, none, none, none, none, (some 13)], false⟩)
(.cond (.x 8)
(.seq (.reg ⟨[(none, (.mv (.c (T.sl .nil 0 [])))), (none, (.mv (.c (T.v (.bool false)))))],
  [none, none, none, none, (some 0), (some 1), none, none, none], false⟩)
.ret)
.skip))
(.seq (.reg ⟨[(none, (.faddr 5 (.x 3))), (none, (.load false 1 (.r 0))), (none, (.mv (.x 1))), (none, (.bin .sub 3 (.r 2) (.c (T.v (.int .i64 1))))), (none, (.iaddrS 10 (.r 1) (.r 3))), (none, (.load true 10 (.r 4))), (none, (.alloc 2 (List.replicate 10 (T.v (.int .i64 0))))), (none, (.store 10 (.r 6) (.r 5)))],
  [none, none, none, none, none, none, (some 6), none, none], false⟩)
(.seq (.reg ⟨[(none, (.faddr 5 (.x 6))), (none, (.sliceA 4 1 (.r 0) none none)), (none, (.call 32 F_slices_Clone_int [(.r 1)])), (none, (.faddr 9 (.x 6))), (none, (.load false 1 (.r 3))), (none, (.bslice 35 3 1 1 [(T.v (.int .i64 0))] [(0, (1, (.r 4)))])), (none, (.append 36 3 1 8 [(T.v (.int .i64 0))] 0 (.r 2) (.r 5))), (none, (.mv (.x 2))), (none, (.iaddrS 1 (.r 6) (.r 7))), (none, (.load false 1 (.r 8))), (none, (.mv (.r 9)))],
  [none, none, none, none, none, none, none, (some 10), none], true⟩)
(.seq (.reg ⟨[(none, (.faddr 4 (.x 3))), (none, (.load false 1 (.r 0))), (none, (.faddr 0 (.x 3))), (none, (.faddr 1 (.r 2))), (none, (.load false 1 (.r 3))), (none, (.mv (.x 7))), (none, (.bin .add 3 (.r 4) (.r 5))), (none, (.iaddrS 1 (.r 1) (.r 6))), (none, (.load false 1 (.r 7))), (none, (.mv (.r 8))), (none, (.mv (.c (T.v (.bool true)))))],
  [none, none, none, none, (some 9), (some 10), none, none, none], false⟩)
.ret)))))⟩

def c_claim_owners : IFn := ⟨2, 12, 5, [(.var 3)], [.raw], false, (.seq (.reg ⟨[(none, (.box 0 (.x 1))), (none, (.mv (.c (T.v (.map none)))))],
  [none, none, (some 0), (some 1), none, none, none, none, none, none, none, none], false⟩)
(.seq (.reg ⟨[(none, (.mkMap 9)), (none, (.alloc 2 [(T.v (.map none))])), (none, (.store 1 (.r 1) (.r 0)))],
  [none, none, none, none, (some 1), none, none, none, none, none, none, none], false⟩)
(.seq (.seq (.reg ⟨[(none, (.mv (.x 0))), (none, (.call 12 F_claim_pointers [(.r 0)]))],
  [none, none, none, none, none, none, none, none, (some 1), none, none, none], false⟩)
(.block 0
(.range 10 (.x 8) [9, 10] (.seq (.reg ⟨[(none, (.alloc 4 [(T.v (.int .i64 0)), (T.v (.int .i64 0))])), (none, (.store 2 (.r 0) (.x 9)))],
  [none, none, none, none, none, (some 0), none, none, none, none, none, none], false⟩)
(.reg ⟨[(none, (.mv (.x 10)))],
  [none, none, none, none, none, none, (some 0), none, none, none, none, none], false⟩)) (.block 1
(.seq (.reg ⟨[(none, (.load false 1 (.x 4))), (none, (.mv (.x 6))), (none, (.lookup .int (T.agg [(T.v (.int .i64 0)), (T.v (.int .i64 0))]) true (.r 0) (.r 1))), (none, (.mv (.r 2))), (none, (.extract (.r 3) 0)), (none, (.extract (.r 3) 1)), (none, (.alloc 6 [(T.v (.int .i64 0)), (T.v (.int .i64 0))])), (none, (.store 2 (.r 6) (.r 4))), (none, (.mv (.r 5)))],
  [none, none, none, none, none, none, none, (some 8), none, none, none, none], false⟩)
(.seq (.reg ⟨[(none, (.mv (.x 7))), (none, (.un .not (.r 0))), (none, (.mv (.r 1))), ((some (2, true)), (.mv (.x 6))), ((some (2, true)), (.bin .geq 3 (.r 3) (.c (T.v (.int .i64 0))))), (none, (.pick (.r 2) (.r 4) (.c (T.v (.bool false))))), (none, (.mv (.r 5))), ((some (6, true)), (.mv (.x 6))), ((some (6, true)), (.load false 1 (.x 2))), ((some (6, true)), (.bin .lss 3 (.r 7) (.r 8))), (none, (.pick (.r 6) (.r 9) (.c (T.v (.bool false)))))],
  [none, none, none, none, none, none, none, none, none, none, none, (some 10)], false⟩)
(.cond (.x 11)
(.reg ⟨[(none, (.load false 1 (.x 4))), (none, (.mv (.x 6))), (none, (.load true 2 (.x 5))), (none, (.mapUpdate .int (.r 0) (.r 1) (.r 2)))],
  [none, none, none, none, none, none, none, none, none, none, none, none], false⟩)
.skip)))))))
(.seq (.reg ⟨[(none, (.load false 1 (.x 4))), (none, (.mv (.r 0)))],
  [none, none, none, (some 1), none, none, none, none, none, none, none, none], false⟩)
.ret))))⟩

def c_claim_pointers : IFn := ⟨1, 3, 1, [(.var 2)], [.raw], false, (.seq (.reg ⟨[(none, (.box 0 (.x 0))), (none, (.mv (.c (T.v .nilFunc))))],
  [none, (some 0), (some 1)], false⟩)
(.seq (.reg ⟨[(none, (.mkFunc (.func F_claim_pointers_1) [] [(.x 1)])), (none, (.mv (.r 0)))],
  [none, none, (some 1)], false⟩)
.ret))⟩

def c_entry_Parse : IFn := ⟨2, 16, 4, [(.var 2), (.var 3)], [.raw, .raw], false, (.seq (.reg ⟨[(none, (.mv (.c (T.sl .nil 0 [])))), (none, (.mv (.c (T.sl .nil 0 []))))],
  [none, none, (some 0), (some 1), none, none, none, none, none, none, none, none, none, none, none, none], false⟩)
(.seq (.seq (.reg ⟨[(none, (.mv (.x 0))), (none, (.len false (.r 0))), (none, (.bin .neq 3 (.r 1) (.c (T.v (.int .i64 64))))), (none, (.mv (.r 2))), ((some (3, false)), (.mv (.x 1))), ((some (3, false)), (.bin .lss 3 (.r 4) (.c (T.v (.int .i64 0))))), (none, (.pick (.r 3) (.c (T.v (.bool true))) (.r 5))), (none, (.mv (.r 6))), ((some (7, false)), (.mv (.x 1))), ((some (7, false)), (.bin .geq 3 (.r 8) (.c (T.v (.int .i64 4))))), (none, (.pick (.r 7) (.c (T.v (.bool true))) (.r 9)))],
  [none, none, none, none, none, none, none, none, none, none, none, (some 10), none, none, none, none], false⟩)
(.cond (.x 11)
(.seq (.reg ⟨[(none, (.mv (.c (T.sl .nil 0 [])))), (none, (.mv (.c (T.sl .nil 0 []))))],
  [none, none, (some 0), (some 1), none, none, none, none, none, none, none, none, none, none, none, none], false⟩)
.ret)
.skip))
(.seq (.reg ⟨[(none, (.alloc 0 [(T.sl .nil 0 [])]))],
  [none, none, none, none, (some 0), none, none, none, none, none, none, none, none, none, none, none], false⟩)
(.seq (.reg ⟨[(none, (.alloc 2 [(T.sl .nil 0 [])]))],
  [none, none, none, none, none, (some 0), none, none, none, none, none, none, none, none, none, none], false⟩)
(.seq (.reg ⟨[(none, (.mv (.x 1))), (none, (.bin .mul 3 (.c (T.v (.int .i64 4))) (.r 0))), (none, (.alloc 4 [(T.v (.int .i64 0))])), (none, (.store 1 (.r 2) (.r 1)))],
  [none, none, none, none, none, none, (some 2), none, none, none, none, none, none, none, none, none], false⟩)
(.seq (.seq (.reg ⟨[(none, (.mv (.x 0))), (none, (.call 27 F_slices_Chunk_byte [(.r 0), (.c (T.v (.int .i64 16)))]))],
  [none, none, none, none, none, none, none, none, none, none, none, none, (some 1), none, none, none], false⟩)
(.block 0
(.range 8 (.x 12) [13] (.reg ⟨[(none, (.mv (.x 13)))],
  [none, none, none, none, none, none, none, (some 0), none, none, none, none, none, none, none, none], false⟩) (.block 1
(.seq (.reg ⟨[(none, (.mv (.x 7))), (none, (.load false 1 (.x 6))), (none, (.call 32 F_entry_Get [(.r 0), (.r 1)])), (none, (.mv (.r 2))), (none, (.extract (.r 3) 0)), (none, (.extract (.r 3) 1)), (none, (.extract (.r 3) 2)), (none, (.alloc 6 [(T.v (.int .i64 0)), (T.v (.int .i64 0)), (T.v (.string ⟨#[]⟩))])), (none, (.store 3 (.r 7) (.r 4))), (none, (.mv (.r 5))), (none, (.mv (.r 6)))],
  [none, none, none, none, none, none, none, none, (some 7), (some 9), (some 10), none, none, none, none, none], false⟩)
(.seq (.block 2
(.seq (.reg ⟨[(none, (.mv (.x 9))), (none, (.mv (.r 0)))],
  [none, none, none, none, none, none, none, none, none, none, none, none, none, none, (some 1), none], false⟩)
(.cond (.x 14)
(.reg ⟨[(none, (.load false 1 (.x 4))), (none, (.load true 3 (.x 8))), (none, (.bslice 40 105 3 1 [(T.v (.int .i64 0)), (T.v (.int .i64 0)), (T.v (.string ⟨#[]⟩))] [(0, (3, (.r 1)))])), (none, (.append 41 105 3 32 [(T.v (.int .i64 0)), (T.v (.int .i64 0)), (T.v (.string ⟨#[]⟩))] 0 (.r 0) (.r 2))), (none, (.store 1 (.x 4) (.r 3)))],
  [none, none, none, none, none, none, none, none, none, none, none, none, none, none, none, none], false⟩)
(.seq (.reg ⟨[(none, (.mv (.x 10))), (none, (.un .not (.r 0))), (none, (.mv (.r 1)))],
  [none, none, none, none, none, none, none, none, none, none, none, none, none, none, none, (some 2)], false⟩)
(.cond (.x 15)
(.reg ⟨[(none, (.load false 1 (.x 5))), (none, (.load false 1 (.x 6))), (none, (.bslice 47 3 1 1 [(T.v (.int .i64 0))] [(0, (1, (.r 1)))])), (none, (.append 48 3 1 8 [(T.v (.int .i64 0))] 0 (.r 0) (.r 2))), (none, (.store 1 (.x 5) (.r 3)))],
  [none, none, none, none, none, none, none, none, none, none, none, none, none, none, none, none], false⟩)
.skip)))))
(.reg ⟨[(none, (.load false 1 (.x 6))), (none, (.bin .add 3 (.r 0) (.c (T.v (.int .i64 1))))), (none, (.store 1 (.x 6) (.r 1)))],
  [none, none, none, none, none, none, none, none, none, none, none, none, none, none, none, none], false⟩)))))))
(.seq (.reg ⟨[(none, (.load false 1 (.x 4))), (none, (.load false 1 (.x 5))), (none, (.mv (.r 0))), (none, (.mv (.r 1)))],
  [none, none, (some 2), (some 3), none, none, none, none, none, none, none, none, none, none, none, none], true⟩)
.ret)))))))⟩

def c_branch_region_good : IFn := ⟨4, 8, 2, [(.var 6)], [.raw], false, (.seq (.reg ⟨[(none, (.box 0 (.x 0))), (none, (.box 2 (.x 1))), (none, (.mv (.c (T.v (.bool false)))))],
  [none, none, none, none, (some 0), (some 1), (some 2), none], false⟩)
(.seq (.seq (.reg ⟨[(none, (.faddr 1 (.x 5))), (none, (.load false 1 (.r 0))), (none, (.mv (.x 2))), (none, (.bin .leq 3 (.r 1) (.r 2))), (none, (.mv (.r 3))), ((some (4, false)), (.faddr 1 (.x 5))), ((some (4, false)), (.load false 1 (.r 5))), ((some (4, false)), (.faddr 5 (.x 4))), ((some (4, false)), (.load false 1 (.r 7))), ((some (4, false)), (.len false (.r 8))), ((some (4, false)), (.bin .gtr 3 (.r 6) (.r 9))), (none, (.pick (.r 4) (.c (T.v (.bool true))) (.r 10))), (none, (.mv (.r 11))), ((some (12, false)), (.faddr 5 (.x 4))), ((some (12, false)), (.load false 1 (.r 13))), ((some (12, false)), (.faddr 1 (.x 5))), ((some (12, false)), (.load false 1 (.r 15))), ((some (12, false)), (.bin .sub 3 (.r 16) (.c (T.v (.int .i64 1))))), ((some (12, false)), (.iaddrS 10 (.r 14) (.r 17))), ((some (12, false)), (.faddr 0 (.r 18))), ((some (12, false)), (.load false 1 (.r 19))), ((some (12, false)), (.bin .eql 3 (.r 20) (.c (T.v (.int .i64 0))))), (none, (.pick (.r 12) (.c (T.v (.bool true))) (.r 21)))],
  [none, none, none, none, none, none, none, (some 22)], false⟩)
(.cond (.x 7)
(.seq (.reg ⟨[(none, (.mv (.c (T.v (.bool false)))))],
  [none, none, none, none, none, none, (some 0), none], false⟩)
.ret)
.skip))
(.seq (.reg ⟨[(none, (.mv (.x 3))), (none, (.mkFunc (.func F_branch_region_good_1) [] [(.x 5)])), (none, (.call 34 F_slices_ContainsFunc_Entry [(.r 0), (.r 1)])), (none, (.un .not (.r 2))), (none, (.mv (.r 3)))],
  [none, none, none, none, none, none, (some 4), none], false⟩)
.ret)))⟩

def c_slices_Sort_int : IFn := ⟨1, 2, 0, [], [], false, (.seq (.reg ⟨[(none, (.mv (.x 0))), (none, (.len false (.r 0))), (none, (.mv (.r 1)))],
  [none, (some 2)], false⟩)
(.reg ⟨[(none, (.mv (.x 0))), (none, (.mv (.x 1))), (none, (.mv (.x 1))), (none, (.toInt .u64 (.r 2))), (none, (.call 9 F_math_bits_Len [(.r 3)])), (none, (.call 10 F_slices_pdqsortOrdered_int [(.r 0), (.c (T.v (.int .i64 0))), (.r 1), (.r 4)]))],
  [none, none], false⟩))⟩

def c_slices_Grow_Finding : IFn := ⟨2, 5, 1, [(.var 2)], [(.box 0)], false, (.seq (.reg ⟨[(none, (.mv (.c (T.sl .nil 0 []))))],
  [none, none, (some 0), none, none], false⟩)
(.seq (.seq (.reg ⟨[(none, (.mv (.x 1))), (none, (.bin .lss 3 (.r 0) (.c (T.v (.int .i64 0)))))],
  [none, none, none, (some 1), none], false⟩)
(.cond (.x 3)
(.nojump (.exit 1000000))
.skip))
(.seq (.seq (.reg ⟨[(none, (.mv (.x 1))), (none, (.mv (.x 0))), (none, (.capS (.r 1))), (none, (.mv (.x 0))), (none, (.len false (.r 3))), (none, (.bin .sub 3 (.r 2) (.r 4))), (none, (.bin .sub 3 (.r 0) (.r 5))), (none, (.mv (.r 6)))],
  [none, (some 7), none, none, none], false⟩)
(.seq (.reg ⟨[(none, (.mv (.x 1))), (none, (.bin .gtr 3 (.r 0) (.c (T.v (.int .i64 0)))))],
  [none, none, none, none, (some 1)], false⟩)
(.cond (.x 4)
(.reg ⟨[(none, (.mv (.x 0))), (none, (.mv (.x 0))), (none, (.capS (.r 1))), (none, (.sliceT 4 (.r 0) none (some (.r 2)) none)), (none, (.mv (.x 1))), (none, (.appendB 0 48 4 32 [(T.v (.int .i64 0)), (T.v (.int .i64 0)), (T.v (.int .i64 0)), (T.v (.int .i64 0))] 2 (.r 3) (.r 4))), (none, (.mv (.x 0))), (none, (.len false (.r 6))), (none, (.sliceT 4 (.r 5) none (some (.r 7)) none)), (none, (.mv (.r 8)))],
  [(some 9), none, none, none, none], false⟩)
.skip)))
(.seq (.reg ⟨[(none, (.mv (.x 0))), (none, (.mv (.r 0)))],
  [none, none, (some 1), none, none], false⟩)
.ret))))⟩

def c_ref08_Same : IFn := ⟨2, 7, 0, [(.var 2)], [.raw], false, (.seq (.reg ⟨[(none, (.mv (.c (T.v (.bool false)))))],
  [none, none, (some 0), none, none, none, none], false⟩)
(.seq (.seq (.reg ⟨[(none, (.mv (.x 0))), (none, (.len false (.r 0))), (none, (.mv (.x 1))), (none, (.len false (.r 2))), (none, (.bin .neq 3 (.r 1) (.r 3)))],
  [none, none, none, none, (some 4), none, none], false⟩)
(.cond (.x 4)
(.seq (.reg ⟨[(none, (.mv (.c (T.v (.bool false)))))],
  [none, none, (some 0), none, none, none, none], false⟩)
.ret)
.skip))
(.seq (.seq (.reg ⟨[(none, (.mv (.c (T.v (.int .i64 0)))))],
  [none, none, none, (some 0), none, none, none], false⟩)
(.block 0
(.loop (.seq (.kill [2, 4, 5, 6])
(.seq (.free [])
(.seq (.seq (.reg ⟨[(none, (.mv (.x 3))), (none, (.mv (.x 0))), (none, (.len false (.r 1))), (none, (.bin .lss 3 (.r 0) (.r 2)))],
  [none, none, none, none, none, (some 3), none], false⟩)
(.cond (.x 5)
.skip
(.exit 0)))
(.seq (.block 1
(.seq (.reg ⟨[(none, (.mv (.x 0))), (none, (.mv (.x 3))), (none, (.iaddrS 3 (.r 0) (.r 1))), (none, (.load true 3 (.r 2))), (none, (.mv (.x 1))), (none, (.mv (.x 3))), (none, (.iaddrS 3 (.r 4) (.r 5))), (none, (.load true 3 (.r 6))), (none, (.eqa true [.int, .int, .str] (.r 3) (.r 7)))],
  [none, none, none, none, none, none, (some 8)], true⟩)
(.cond (.x 6)
(.seq (.reg ⟨[(none, (.mv (.c (T.v (.bool false)))))],
  [none, none, (some 0), none, none, none, none], false⟩)
.ret)
.skip)))
(.reg ⟨[(none, (.mv (.x 3))), (none, (.bin .add 3 (.r 0) (.c (T.v (.int .i64 1))))), (none, (.mv (.r 1)))],
  [none, none, none, (some 2), none, none, none], false⟩))))))))
(.seq (.reg ⟨[(none, (.mv (.c (T.v (.bool true)))))],
  [none, none, (some 0), none, none, none, none], false⟩)
.ret))))⟩

def c_geo_layout_start : IFn := ⟨2, 6, 1, [(.var 3)], [.raw], false, (.seq (.reg ⟨[(none, (.box 0 (.x 0))), (none, (.mv (.c (T.v (.int .i64 0)))))],
  [none, none, (some 0), (some 1), none, none], false⟩)
(.seq (.block 0
(.seq (.reg ⟨[(none, (.faddr 0 (.x 2))), (none, (.load true 4 (.r 0))), (none, (.call 8 F_geo_Check [(.r 1)])), (none, (.bin .neq 54 (.r 2) (.c (T.v (.int .i64 0))))), (none, (.mv (.r 3))), ((some (4, false)), (.mv (.x 1))), ((some (4, false)), (.faddr 0 (.x 2))), ((some (4, false)), (.faddr 0 (.r 6))), ((some (4, false)), (.load false 1 (.r 7))), ((some (4, false)), (.call 15 F_geo_within [(.r 5), (.c (T.v (.int .i64 0))), (.r 8)])), ((some (4, false)), (.un .not (.r 9))), (none, (.pick (.r 4) (.c (T.v (.bool true))) (.r 10))), (none, (.mv (.r 11)))],
  [none, none, none, none, (some 12), none], false⟩)
(.cond (.x 4)
(.seq (.reg ⟨[(none, (.mv (.c (T.v (.int .i64 (-1))))))],
  [none, none, none, (some 0), none, none], false⟩)
.ret)
(.seq (.reg ⟨[(none, (.mv (.x 1))), (none, (.bin .eql 3 (.r 0) (.c (T.v (.int .i64 0))))), (none, (.mv (.r 1)))],
  [none, none, none, none, none, (some 2)], false⟩)
(.cond (.x 5)
(.seq (.reg ⟨[(none, (.load true 4 (.x 2))), (none, (.call 22 F_geo_layout_log [(.r 0)])), (none, (.load true 4 (.x 2))), (none, (.call 24 F_geo_layout_layer [(.r 2)])), (none, (.bin .sub 3 (.r 1) (.r 3))), (none, (.mv (.r 4)))],
  [none, none, none, (some 5), none, none], true⟩)
.ret)
.skip)))))
(.seq (.reg ⟨[(none, (.mv (.x 1))), (none, (.bin .sub 3 (.r 0) (.c (T.v (.int .i64 1))))), (none, (.load true 4 (.x 2))), (none, (.call 29 F_geo_layout_layer [(.r 2)])), (none, (.bin .mul 3 (.r 1) (.r 3))), (none, (.bin .add 3 (.c (T.v (.int .i64 1))) (.r 4))), (none, (.mv (.r 5)))],
  [none, none, none, (some 6), none, none], false⟩)
.ret)))⟩

def c_geo_layout_log : IFn := ⟨1, 3, 1, [(.var 2)], [.raw], false, (.seq (.reg ⟨[(none, (.box 0 (.x 0))), (none, (.mv (.c (T.v (.int .i64 0)))))],
  [none, (some 0), (some 1)], false⟩)
(.seq (.reg ⟨[(none, (.faddr 0 (.x 1))), (none, (.faddr 0 (.r 0))), (none, (.load false 1 (.r 1))), (none, (.bin .add 3 (.r 2) (.c (T.v (.int .i64 1))))), (none, (.load true 4 (.x 1))), (none, (.call 8 F_geo_layout_layer [(.r 4)])), (none, (.bin .mul 3 (.r 3) (.r 5))), (none, (.bin .add 3 (.c (T.v (.int .i64 1))) (.r 6))), (none, (.mv (.r 7)))],
  [none, none, (some 8)], true⟩)
.ret))⟩

def c_ref02_Seal : IFn := ⟨1, 6, 0, [(.var 1)], [.raw], false, (.seq (.reg ⟨[(none, (.mv (.c (T.sl .nil 0 []))))],
  [none, (some 0), none, none, none, none], false⟩)
(.seq (.reg ⟨[(none, (.bslice 5 5 1 0 [(T.v (.int .u8 0))] [])), (none, (.mv (.r 0)))],
  [none, none, (some 1), none, none, none], false⟩)
(.seq (.seq (.reg ⟨[(none, (.mv (.c (T.v (.int .i64 0)))))],
  [none, none, none, (some 0), none, none], false⟩)
(.block 0
(.loop (.seq (.kill [1, 4, 5])
(.seq (.free [])
(.seq (.seq (.reg ⟨[(none, (.mv (.x 3))), (none, (.bin .lss 3 (.r 0) (.c (T.v (.int .i64 60)))))],
  [none, none, none, none, (some 1), none], false⟩)
(.cond (.x 4)
.skip
(.exit 0)))
(.seq (.block 1
(.seq (.reg ⟨[(none, (.mv (.x 3))), (none, (.mv (.x 0))), (none, (.len false (.r 1))), (none, (.bin .lss 3 (.r 0) (.r 2)))],
  [none, none, none, none, none, (some 3)], false⟩)
(.cond (.x 5)
(.reg ⟨[(none, (.mv (.x 2))), (none, (.mv (.x 0))), (none, (.mv (.x 3))), (none, (.iaddrS 1 (.r 1) (.r 2))), (none, (.load false 1 (.r 3))), (none, (.bslice 19 5 1 1 [(T.v (.int .u8 0))] [(0, (1, (.r 4)))])), (none, (.append 20 5 1 1 [(T.v (.int .u8 0))] 0 (.r 0) (.r 5))), (none, (.mv (.r 6)))],
  [none, none, (some 7), none, none, none], false⟩)
(.reg ⟨[(none, (.mv (.x 2))), (none, (.bslice 22 5 1 1 [(T.v (.int .u8 0))] [(0, (1, (.c (T.v (.int .u8 0)))))])), (none, (.append 23 5 1 1 [(T.v (.int .u8 0))] 0 (.r 0) (.r 1))), (none, (.mv (.r 2)))],
  [none, none, (some 3), none, none, none], false⟩))))
(.reg ⟨[(none, (.mv (.x 3))), (none, (.bin .add 3 (.r 0) (.c (T.v (.int .i64 1))))), (none, (.mv (.r 1)))],
  [none, none, none, (some 2), none, none], false⟩))))))))
(.seq (.reg ⟨[(none, (.mv (.x 2))), (none, (.mv (.x 2))), (none, (.call 26 F_ref02_Of [(.r 1)])), (none, (.call 27 F_ref01_Put [(.r 0), (.r 2), (.c (T.v (.int .i64 4)))])), (none, (.mv (.r 3)))],
  [none, (some 4), none, none, none, none], false⟩)
.ret))))⟩

def c_ref40_Right : IFn := ⟨1, 7, 1, [(.var 2)], [.raw], false, (.seq (.reg ⟨[(none, (.box 0 (.x 0))), (none, (.mv (.c (T.v (.bool false)))))],
  [none, (some 0), (some 1), none, none, none, none], false⟩)
(.seq (.seq (.reg ⟨[(none, (.faddr 0 (.x 1))), (none, (.load true 4 (.r 0))), (none, (.call 6 F_ref06_Check [(.r 1)])), (none, (.bin .neq 54 (.r 2) (.c (T.v (.int .i64 0))))), (none, (.mv (.r 3))), ((some (4, false)), (.faddr 5 (.x 1))), ((some (4, false)), (.load false 1 (.r 5))), ((some (4, false)), (.len false (.r 6))), ((some (4, false)), (.faddr 0 (.x 1))), ((some (4, false)), (.faddr 0 (.r 8))), ((some (4, false)), (.load false 1 (.r 9))), ((some (4, false)), (.bin .neq 3 (.r 7) (.r 10))), (none, (.pick (.r 4) (.c (T.v (.bool true))) (.r 11))), (none, (.mv (.r 12))), ((some (13, false)), (.faddr 0 (.x 1))), ((some (13, false)), (.load true 4 (.r 14))), ((some (13, false)), (.faddr 4 (.x 1))), ((some (13, false)), (.load true 1 (.r 16))), ((some (13, false)), (.call 22 F_ref40_layer [(.r 15), (.r 17), (.c (T.v (.int .i64 3)))])), ((some (13, false)), (.un .not (.r 18))), (none, (.pick (.r 13) (.c (T.v (.bool true))) (.r 19)))],
  [none, none, none, none, (some 20), none, none], false⟩)
(.cond (.x 4)
(.seq (.reg ⟨[(none, (.mv (.c (T.v (.bool false)))))],
  [none, none, (some 0), none, none, none, none], false⟩)
.ret)
.skip))
(.seq (.seq (.reg ⟨[(none, (.mv (.c (T.v (.int .i64 0)))))],
  [none, none, none, (some 0), none, none, none], false⟩)
(.block 0
(.loop (.seq (.kill [0, 2, 4, 5, 6])
(.seq (.free [])
(.seq (.seq (.reg ⟨[(none, (.mv (.x 3))), (none, (.faddr 5 (.x 1))), (none, (.load false 1 (.r 1))), (none, (.len false (.r 2))), (none, (.bin .lss 3 (.r 0) (.r 3)))],
  [none, none, none, none, none, (some 4), none], false⟩)
(.cond (.x 5)
.skip
(.exit 0)))
(.seq (.block 1
(.seq (.reg ⟨[(none, (.faddr 0 (.x 1))), (none, (.load true 4 (.r 0))), (none, (.faddr 5 (.x 1))), (none, (.load false 1 (.r 2))), (none, (.mv (.x 3))), (none, (.iaddrS 1 (.r 3) (.r 4))), (none, (.load true 1 (.r 5))), (none, (.call 39 F_ref40_layer [(.r 1), (.r 6), (.c (T.v (.int .i64 1)))])), (none, (.un .not (.r 7)))],
  [none, none, none, none, none, none, (some 8)], true⟩)
(.cond (.x 6)
(.seq (.reg ⟨[(none, (.mv (.c (T.v (.bool false)))))],
  [none, none, (some 0), none, none, none, none], false⟩)
.ret)
.skip)))
(.reg ⟨[(none, (.mv (.x 3))), (none, (.bin .add 3 (.r 0) (.c (T.v (.int .i64 1))))), (none, (.mv (.r 1)))],
  [none, none, none, (some 2), none, none, none], false⟩))))))))
(.seq (.reg ⟨[(none, (.mv (.c (T.v (.bool true)))))],
  [none, none, (some 0), none, none, none, none], false⟩)
.ret))))⟩

def c_ref40_sectors : IFn := ⟨2, 19, 4, [(.var 4), (.var 5)], [.raw, .raw], false, (.seq (.reg ⟨[(none, (.box 0 (.x 0))), (none, (.box 2 (.x 1))), (none, (.mv (.c (T.sl .nil 0 [])))), (none, (.mv (.c (T.v (.bool false)))))],
  [none, none, (some 0), (some 1), (some 2), (some 3), none, none, none, none, none, none, none, none, none, none, none, none, none], false⟩)
(.seq (.reg ⟨[(none, (.bslice 14 5 1 0 [(T.v (.int .u8 0))] [])), (none, (.bslice 15 5 1 0 [(T.v (.int .u8 0))] [])), (none, (.mv (.r 0))), (none, (.mv (.r 1)))],
  [none, none, none, none, none, none, (some 2), (some 3), none, none, none, none, none, none, none, none, none, none, none], false⟩)
(.seq (.reg ⟨[(none, (.bslice 16 4 1 0 [(T.v (.bool false))] [])), (none, (.mv (.r 0)))],
  [none, none, none, none, none, none, none, none, (some 1), none, none, none, none, none, none, none, none, none, none], false⟩)
(.seq (.seq (.reg ⟨[(none, (.mv (.c (T.v (.int .i64 0)))))],
  [none, none, none, none, none, none, none, none, none, (some 0), none, none, none, none, none, none, none, none, none], false⟩)
(.block 0
(.loop (.seq (.kill [0, 1, 4, 5, 10, 11, 12, 13, 14, 15, 16, 17, 18])
(.seq (.free [4, 5, 6, 7])
(.seq (.seq (.reg ⟨[(none, (.mv (.x 9))), (none, (.faddr 0 (.x 3))), (none, (.load false 1 (.r 1))), (none, (.len false (.r 2))), (none, (.bin .lss 3 (.r 0) (.r 3)))],
  [none, none, none, none, none, none, none, none, none, none, none, none, none, none, (some 4), none, none, none, none], false⟩)
(.cond (.x 14)
.skip
(.exit 0)))
(.seq (.block 1
(.seq (.reg ⟨[(none, (.faddr 0 (.x 3))), (none, (.load false 1 (.r 0))), (none, (.mv (.x 9))), (none, (.iaddrS 13 (.r 1) (.r 2))), (none, (.load true 13 (.r 3))), (none, (.alloc 4 [(T.v (.int .i64 0)), (T.v (.int .i64 0)), (T.v (.int .i64 0)), (T.v (.int .i64 0)), (T.sl .nil 0 []), (T.sl .nil 0 []), (T.v (.int .i64 0)), (T.v (.int .i64 0)), (T.v (.string ⟨#[]⟩)), (T.v (.int .i64 0)), (T.v (.int .i64 0)), (T.v (.int .i64 0)), (T.v (.int .i64 0))])), (none, (.store 13 (.r 5) (.r 4)))],
  [none, none, none, none, none, none, none, none, none, none, (some 5), none, none, none, none, none, none, none, none], false⟩)
(.seq (.reg ⟨[(none, (.faddr 0 (.x 10))), (none, (.load false 1 (.r 0))), (none, (.faddr 1 (.x 10))), (none, (.load false 1 (.r 2))), (none, (.faddr 2 (.x 10))), (none, (.load false 1 (.r 4))), (none, (.faddr 3 (.x 10))), (none, (.load false 1 (.r 6))), (none, (.faddr 4 (.x 10))), (none, (.load false 1 (.r 8))), (none, (.len false (.r 9))), (none, (.build (List.replicate 10 (T.v (.int .i64 0))) [(0, (1, (.r 1))), (1, (1, (.r 3))), (2, (1, (.r 5))), (3, (1, (.r 7))), (4, (1, (.r 10)))])), (none, (.alloc 6 (List.replicate 10 (T.v (.int .i64 0))))), (none, (.store 10 (.r 12) (.r 11)))],
  [none, none, none, none, none, none, none, none, none, none, none, (some 12), none, none, none, none, none, none, none], false⟩)
(.seq (.seq (.reg ⟨[(none, (.mv (.c (T.v (.int .i64 0)))))],
  [none, none, none, none, none, none, none, none, none, none, none, none, (some 0), none, none, none, none, none, none], false⟩)
(.block 2
(.loop (.seq (.kill [0, 1, 4, 5, 13, 14, 15, 16, 17, 18])
(.seq (.free [])
(.seq (.seq (.reg ⟨[(none, (.mv (.x 12))), (none, (.bin .lss 3 (.r 0) (.c (T.v (.int .i64 5)))))],
  [none, none, none, none, none, none, none, none, none, none, none, none, none, none, none, (some 1), none, none, none], false⟩)
(.cond (.x 15)
.skip
(.exit 2)))
(.seq (.block 3
(.seq (.seq (.reg ⟨[(none, (.load true 13 (.x 10))), (none, (.mv (.x 12))), (none, (.call 47 F_ref40_takes [(.r 0), (.r 1)])), (none, (.un .not (.r 2)))],
  [none, none, none, none, none, none, none, none, none, none, none, none, none, none, none, none, (some 3), none, none], false⟩)
(.cond (.x 16)
(.exit 3)
.skip))
(.seq (.reg ⟨[(none, (.mv (.x 8))), (none, (.bslice 50 4 1 1 [(T.v (.bool false))] [(0, (1, (.c (T.v (.bool true)))))])), (none, (.append 51 4 1 1 [(T.v (.bool false))] 0 (.r 0) (.r 1))), (none, (.mv (.r 2)))],
  [none, none, none, none, none, none, none, none, (some 3), none, none, none, none, none, none, none, none, none, none], false⟩)
(.seq (.reg ⟨[(none, (.mv (.x 7))), (none, (.load true 13 (.x 10))), (none, (.mv (.x 12))), (none, (.call 55 F_ref40_block [(.r 1), (.r 2)])), (none, (.append 56 5 1 1 [(T.v (.int .u8 0))] 0 (.r 0) (.r 3))), (none, (.mv (.r 4)))],
  [none, none, none, none, none, none, none, (some 5), none, none, none, none, none, none, none, none, none, none, none], false⟩)
(.seq (.reg ⟨[(none, (.mv (.x 12))), (none, (.bin .eql 3 (.r 0) (.c (T.v (.int .i64 4)))))],
  [none, none, none, none, none, none, none, none, none, none, none, none, none, none, none, none, none, (some 1), none], false⟩)
(.cond (.x 17)
(.reg ⟨[(none, (.mv (.x 8))), (none, (.len false (.r 0))), (none, (.faddr 9 (.x 11))), (none, (.store 1 (.r 2) (.r 1)))],
  [none, none, none, none, none, none, none, none, none, none, none, none, none, none, none, none, none, none, none], false⟩)
(.reg ⟨[(none, (.mv (.x 12))), (none, (.mv (.x 8))), (none, (.len false (.r 1))), (none, (.faddr 5 (.x 11))), (none, (.iaddrA 4 1 (.r 3) (.r 0))), (none, (.store 1 (.r 4) (.r 2)))],
  [none, none, none, none, none, none, none, none, none, none, none, none, none, none, none, none, none, none, none], false⟩)))))))
(.reg ⟨[(none, (.mv (.x 12))), (none, (.bin .add 3 (.r 0) (.c (T.v (.int .i64 1))))), (none, (.mv (.r 1)))],
  [none, none, none, none, none, none, none, none, none, none, none, none, (some 2), none, none, none, none, none, none], false⟩))))))))
(.reg ⟨[(none, (.mv (.x 6))), (none, (.load true 10 (.x 11))), (none, (.call 69 F_ref07_Bytes [(.r 1)])), (none, (.append 70 5 1 1 [(T.v (.int .u8 0))] 0 (.r 0) (.r 2))), (none, (.mv (.r 3)))],
  [none, none, none, none, none, none, (some 4), none, none, none, none, none, none, none, none, none, none, none, none], false⟩)))))
(.reg ⟨[(none, (.mv (.x 9))), (none, (.bin .add 3 (.r 0) (.c (T.v (.int .i64 1))))), (none, (.mv (.r 1)))],
  [none, none, none, none, none, none, none, none, none, (some 2), none, none, none, none, none, none, none, none, none], false⟩))))))))
(.seq (.seq (.reg ⟨[(none, (.mv (.x 8))), (none, (.len false (.r 0))), (none, (.faddr 2 (.x 2))), (none, (.load false 1 (.r 2))), (none, (.bin .gtr 3 (.r 1) (.r 3)))],
  [none, none, none, none, none, none, none, none, none, none, none, none, none, none, none, none, none, none, (some 4)], false⟩)
(.cond (.x 18)
(.seq (.reg ⟨[(none, (.mv (.c (T.sl .nil 0 [])))), (none, (.mv (.c (T.v (.bool false)))))],
  [none, none, none, none, (some 0), (some 1), none, none, none, none, none, none, none, none, none, none, none, none, none], false⟩)
.ret)
.skip))
(.seq (.reg ⟨[(none, (.mv (.x 8))), (none, (.call 77 F_ref10_Put [(.r 0)])), (none, (.mv (.x 6))), (none, (.append 79 5 1 1 [(T.v (.int .u8 0))] 0 (.r 1) (.r 2))), (none, (.mv (.r 3)))],
  [none, none, none, none, none, none, none, none, none, none, none, none, none, (some 4), none, none, none, none, none], false⟩)
(.seq (.reg ⟨[(none, (.mv (.x 13))), (none, (.mv (.x 7))), (none, (.append 82 5 1 1 [(T.v (.int .u8 0))] 0 (.r 0) (.r 1))), (none, (.faddr 2 (.x 2))), (none, (.load false 1 (.r 3))), (none, (.mv (.x 8))), (none, (.len false (.r 5))), (none, (.bin .sub 3 (.r 4) (.r 6))), (none, (.bin .mul 3 (.c (T.v (.int .i64 64))) (.r 7))), (none, (.append 89 5 1 1 [(T.v (.int .u8 0))] 2 (.r 2) (.r 8))), (none, (.mv (.r 9))), (none, (.mv (.c (T.v (.bool true)))))],
  [none, none, none, none, (some 10), (some 11), none, none, none, none, none, none, none, none, none, none, none, none, none], true⟩)
.ret)))))))⟩

def c_ref27_Empty : IFn := ⟨0, 1, 0, [(.var 0)], [.raw], false, (.seq (.reg ⟨[(none, (.mv (.c (T.sl .nil 0 []))))],
  [(some 0)], false⟩)
(.seq (.reg ⟨[(none, (.bslice 1 5 1 5 [(T.v (.int .u8 0))] [(0, (1, (.c (T.v (.int .u8 74))))), (1, (1, (.c (T.v (.int .u8 82))))), (2, (1, (.c (T.v (.int .u8 78))))), (3, (1, (.c (T.v (.int .u8 76))))), (4, (1, (.c (T.v (.int .u8 0)))))])), (none, (.call 2 F_ref02_Seal [(.r 0)])), (none, (.mv (.r 1)))],
  [(some 2)], false⟩)
.ret))⟩

def c_geo_within : IFn := ⟨3, 4, 0, [(.var 3)], [.raw], false, (.seq (.reg ⟨[(none, (.mv (.c (T.v (.bool false)))))],
  [none, none, none, (some 0)], false⟩)
(.seq (.reg ⟨[(none, (.mv (.x 0))), (none, (.mv (.x 1))), (none, (.bin .geq 3 (.r 0) (.r 1))), (none, (.mv (.r 2))), ((some (3, true)), (.mv (.x 0))), ((some (3, true)), (.mv (.x 2))), ((some (3, true)), (.bin .leq 3 (.r 4) (.r 5))), (none, (.pick (.r 3) (.r 6) (.c (T.v (.bool false))))), (none, (.mv (.r 7)))],
  [none, none, none, (some 8)], false⟩)
.ret))⟩

def c_inode_numbers : IFn := ⟨1, 3, 2, [(.cell 2 true 30)], [.raw], false, (.seq (.reg ⟨[(none, (.box 0 (.x 0))), (none, (.alloc 2 (List.replicate 30 (T.v (.int .i64 0)))))],
  [none, (some 0), (some 1)], false⟩)
(.seq (.reg ⟨[(none, (.faddr 0 (.x 1))), (none, (.load false 1 (.r 0))), (none, (.build [(T.v (.int .i64 0)), (T.v (.int .i64 0)), (T.v (.int .i64 0))] [(0, (1, (.r 1))), (1, (1, (.c (T.v (.int .i64 1))))), (2, (1, (.c (T.v (.int .i64 4)))))])), (none, (.faddr 1 (.x 1))), (none, (.load false 1 (.r 3))), (none, (.build [(T.v (.int .i64 0)), (T.v (.int .i64 0)), (T.v (.int .i64 0))] [(0, (1, (.r 4))), (1, (1, (.c (T.v (.int .i64 1))))), (2, (1, (.c (T.v (.int .i64 255)))))])), (none, (.faddr 2 (.x 1))), (none, (.load false 1 (.r 6))), (none, (.build [(T.v (.int .i64 0)), (T.v (.int .i64 0)), (T.v (.int .i64 0))] [(0, (1, (.r 7))), (1, (1, (.c (T.v (.int .i64 2))))), (2, (1, (.c (T.v (.int .i64 65535)))))])), (none, (.faddr 3 (.x 1))), (none, (.load false 1 (.r 9))), (none, (.build [(T.v (.int .i64 0)), (T.v (.int .i64 0)), (T.v (.int .i64 0))] [(0, (1, (.r 10))), (1, (1, (.c (T.v (.int .i64 4))))), (2, (1, (.c (T.v (.int .i64 268435455)))))])), (none, (.faddr 4 (.x 1))), (none, (.load false 1 (.r 12))), (none, (.build [(T.v (.int .i64 0)), (T.v (.int .i64 0)), (T.v (.int .i64 0))] [(0, (1, (.r 13))), (1, (1, (.c (T.v (.int .i64 2))))), (2, (1, (.c (T.v (.int .i64 256)))))])), (none, (.faddr 5 (.x 1))), (none, (.iaddrA 4 1 (.r 15) (.c (T.v (.int .i64 0))))), (none, (.load false 1 (.r 16))), (none, (.build [(T.v (.int .i64 0)), (T.v (.int .i64 0)), (T.v (.int .i64 0))] [(0, (1, (.r 17))), (1, (1, (.c (T.v (.int .i64 2))))), (2, (1, (.c (T.v (.int .i64 65535)))))])), (none, (.faddr 5 (.x 1))), (none, (.iaddrA 4 1 (.r 19) (.c (T.v (.int .i64 1))))), (none, (.load false 1 (.r 20))), (none, (.build [(T.v (.int .i64 0)), (T.v (.int .i64 0)), (T.v (.int .i64 0))] [(0, (1, (.r 21))), (1, (1, (.c (T.v (.int .i64 2))))), (2, (1, (.c (T.v (.int .i64 65535)))))])), (none, (.faddr 5 (.x 1))), (none, (.iaddrA 4 1 (.r 23) (.c (T.v (.int .i64 2))))), (none, (.load false 1 (.r 24))), (none, (.build [(T.v (.int .i64 0)), (T.v (.int .i64 0)), (T.v (.int .i64 0))] [(0, (1, (.r 25))), (1, (1, (.c (T.v (.int .i64 2))))), (2, (1, (.c (T.v (.int .i64 65535)))))])), (none, (.faddr 5 (.x 1))), (none, (.iaddrA 4 1 (.r 27) (.c (T.v (.int .i64 3))))), (none, (.load false 1 (.r 28))), (none, (.build [(T.v (.int .i64 0)), (T.v (.int .i64 0)), (T.v (.int .i64 0))] [(0, (1, (.r 29))), (1, (1, (.c (T.v (.int .i64 2))))), (2, (1, (.c (T.v (.int .i64 65535)))))])), (none, (.faddr 9 (.x 1))), (none, (.load false 1 (.r 31))), (none, (.build [(T.v (.int .i64 0)), (T.v (.int .i64 0)), (T.v (.int .i64 0))] [(0, (1, (.r 32))), (1, (1, (.c (T.v (.int .i64 2))))), (2, (1, (.c (T.v (.int .i64 65535)))))])), (none, (.build (List.replicate 30 (T.v (.int .i64 0))) [(0, (3, (.r 2))), (3, (3, (.r 5))), (6, (3, (.r 8))), (9, (3, (.r 11))), (12, (3, (.r 14))), (15, (3, (.r 18))), (18, (3, (.r 22))), (21, (3, (.r 26))), (24, (3, (.r 30))), (27, (3, (.r 33)))])), (none, (.store 30 (.x 2) (.r 34)))],
  [none, none, none], false⟩)
.ret))⟩

def c_num_Get : IFn := ⟨3, 13, 0, [(.var 3), (.var 4)], [.raw, .raw], false, (.seq (.reg ⟨[(none, (.mv (.c (T.v (.int .i64 0))))), (none, (.mv (.c (T.v (.bool false)))))],
  [none, none, none, (some 0), (some 1), none, none, none, none, none, none, none, none], false⟩)
(.seq (.seq (.reg ⟨[(none, (.mv (.x 0))), (none, (.mv (.x 1))), (none, (.mv (.x 2))), (none, (.call 14 F_num_there [(.r 0), (.r 1), (.r 2)])), (none, (.un .not (.r 3)))],
  [none, none, none, none, none, none, none, none, (some 4), none, none, none, none], false⟩)
(.cond (.x 8)
(.seq (.reg ⟨[(none, (.mv (.c (T.v (.int .i64 0))))), (none, (.mv (.c (T.v (.bool false)))))],
  [none, none, none, (some 0), (some 1), none, none, none, none, none, none, none, none], false⟩)
.ret)
.skip))
(.seq (.reg ⟨[(none, (.mv (.c (T.v (.int .i64 0)))))],
  [none, none, none, none, none, (some 0), none, none, none, none, none, none, none], false⟩)
(.seq (.seq (.reg ⟨[(none, (.mv (.x 0))), (none, (.mv (.x 1))), (none, (.mv (.x 1))), (none, (.mv (.x 2))), (none, (.bin .add 3 (.r 2) (.r 3))), (none, (.sliceT 1 (.r 0) (some (.r 1)) (some (.r 4)) none)), (none, (.len false (.r 5))), (none, (.mv (.c (T.v (.int .i64 0)))))],
  [none, none, none, none, none, none, none, none, none, (some 5), (some 6), (some 7), none], false⟩)
(.block 0
(.loop (.seq (.kill [0, 1, 2, 3, 4, 6, 7, 8, 12])
(.seq (.free [])
(.seq (.reg ⟨[(none, (.bin .lss 3 (.x 11) (.x 10)))],
  [none, none, none, none, none, none, none, none, none, none, none, none, (some 0)], false⟩)
(.seq (.cond (.x 12)
.skip
(.exit 0))
(.seq (.block 1
(.seq (.reg ⟨[(none, (.mv (.x 11))), (none, (.iaddrS 1 (.x 9) (.x 11))), (none, (.load false 1 (.r 1))), (none, (.mv (.r 0))), (none, (.mv (.r 2)))],
  [none, none, none, none, none, none, (some 3), (some 4), none, none, none, none, none], false⟩)
(.reg ⟨[(none, (.mv (.x 5))), (none, (.mv (.x 7))), (none, (.toInt .i64 (.r 1))), (none, (.mv (.x 6))), (none, (.bin .mul 3 (.c (T.v (.int .i64 8))) (.r 3))), (none, (.bin .shl 3 (.r 2) (.r 4))), (none, (.bin .or 3 (.r 0) (.r 5))), (none, (.mv (.r 6)))],
  [none, none, none, none, none, (some 7), none, none, none, none, none, none, none], false⟩)))
(.reg ⟨[(none, (.bin .add 3 (.x 11) (.c (T.v (.int .i64 1))))), (none, (.mv (.r 0)))],
  [none, none, none, none, none, none, none, none, none, none, none, (some 1), none], false⟩)))))))))
(.seq (.reg ⟨[(none, (.mv (.x 5))), (none, (.mv (.r 0))), (none, (.mv (.c (T.v (.bool true)))))],
  [none, none, none, (some 1), (some 2), none, none, none, none, none, none, none, none], false⟩)
.ret)))))⟩

def c_inode_Right : IFn := ⟨1, 9, 2, [(.var 2)], [.raw], false, (.seq (.reg ⟨[(none, (.box 0 (.x 0))), (none, (.mv (.c (T.v (.bool false)))))],
  [none, (some 0), (some 1), none, none, none, none, none, none], false⟩)
(.seq (.seq (.reg ⟨[(none, (.load true 10 (.x 1))), (none, (.build (List.replicate 10 (T.v (.int .i64 0))) [])), (none, (.eqa false [.int, .int, .int, .int, .int, .int, .int, .int, .int, .int] (.r 0) (.r 1)))],
  [none, none, none, none, (some 2), none, none, none, none], false⟩)
(.cond (.x 4)
(.seq (.reg ⟨[(none, (.mv (.c (T.v (.bool true)))))],
  [none, none, (some 0), none, none, none, none, none, none], false⟩)
.ret)
.skip))
(.seq (.seq (.reg ⟨[(none, (.load true 10 (.x 1))), (none, (.call 9 F_inode_numbers [(.r 0)])), (none, (.mv (.c (T.v (.int .i64 0)))))],
  [none, none, none, none, none, (some 1), (some 2), none, none], false⟩)
(.block 0
(.loop (.seq (.kill [0, 2, 3, 4, 7, 8])
(.seq (.free [2, 3])
(.seq (.reg ⟨[(none, (.bin .lss 3 (.x 6) (.c (T.v (.int .i64 10)))))],
  [none, none, none, none, none, none, none, (some 0), none], false⟩)
(.seq (.cond (.x 7)
.skip
(.exit 0))
(.seq (.block 1
(.seq (.reg ⟨[(none, (.indexA 10 3 true (.x 5) (.x 6))), (none, (.alloc 2 [(T.v (.int .i64 0)), (T.v (.int .i64 0)), (T.v (.int .i64 0))])), (none, (.store 3 (.r 1) (.r 0)))],
  [none, none, none, (some 1), none, none, none, none, none], false⟩)
(.seq (.reg ⟨[(none, (.iaddrA 3 1 (.x 3) (.c (T.v (.int .i64 0))))), (none, (.load false 1 (.r 0))), (none, (.bin .lss 3 (.r 1) (.c (T.v (.int .i64 0))))), (none, (.mv (.r 2))), ((some (3, false)), (.iaddrA 3 1 (.x 3) (.c (T.v (.int .i64 0))))), ((some (3, false)), (.load false 1 (.r 4))), ((some (3, false)), (.iaddrA 3 1 (.x 3) (.c (T.v (.int .i64 2))))), ((some (3, false)), (.load false 1 (.r 6))), ((some (3, false)), (.bin .gtr 3 (.r 5) (.r 7))), (none, (.pick (.r 3) (.c (T.v (.bool true))) (.r 8)))],
  [none, none, none, none, none, none, none, none, (some 9)], false⟩)
(.cond (.x 8)
(.seq (.reg ⟨[(none, (.mv (.c (T.v (.bool false)))))],
  [none, none, (some 0), none, none, none, none, none, none], false⟩)
.ret)
.skip))))
(.reg ⟨[(none, (.bin .add 3 (.x 6) (.c (T.v (.int .i64 1))))), (none, (.mv (.r 0)))],
  [none, none, none, none, none, none, (some 1), none, none], false⟩)))))))))
(.seq (.reg ⟨[(none, (.load true 10 (.x 1))), (none, (.call 25 F_inode_odd [(.r 0)])), (none, (.un .not (.r 1))), (none, (.mv (.r 2)))],
  [none, none, (some 3), none, none, none, none, none, none], false⟩)
.ret))))⟩

def c_num_Put : IFn := ⟨3, 6, 3, [(.var 3)], [.raw], false, (.seq (.reg ⟨[(none, (.thaw 6 5 1 (.c (T.sl .nil 0 []))))],
  [none, none, none, (some 0), none, none], false⟩)
(.seq (.reg ⟨[(none, (.mv (.x 0))), (none, (.callnew 9 [0] F_slices_Clone_byte [(.r 0)])), (none, (.mv (.r 1)))],
  [none, none, none, none, (some 2), none], false⟩)
(.seq (.seq (.reg ⟨[(none, (.mv (.x 1))), (none, (.mv (.x 2))), (none, (.call 12 F_num_Right [(.r 0), (.r 1)])), (none, (.un .not (.r 2)))],
  [none, none, none, none, none, (some 3)], false⟩)
(.cond (.x 5)
(.seq (.reg ⟨[(none, (.mv (.x 4))), (none, (.thaw 6 5 1 (.r 0)))],
  [none, none, none, (some 1), none, none], false⟩)
.ret)
.skip))
(.seq (.reg ⟨[(none, (.mv (.x 4))), (none, (.mv (.x 2))), (none, (.appendB 2 5 1 1 [(T.v (.int .u8 0))] 2 (.r 0) (.r 1))), (none, (.mv (.r 2)))],
  [none, none, none, none, (some 3), none], false⟩)
(.seq (.reg ⟨[(none, (.mv (.x 4))), (none, (.mv (.x 0))), (none, (.len false (.r 1))), (none, (.sliceT 1 (.r 0) (some (.r 2)) none none)), (none, (.mv (.x 1))), (none, (.callio 23 [] F_num_lay [(.r 3), (.r 4)]))],
  [none, none, none, none, none, none], false⟩)
(.seq (.reg ⟨[(none, (.mv (.x 4))), (none, (.thaw 6 5 1 (.r 0)))],
  [none, none, none, (some 1), none, none], false⟩)
.ret))))))⟩

def c_sum_Seal : IFn := ⟨1, 3, 1, [(.var 1)], [.raw], false, (.seq (.reg ⟨[(none, (.mv (.c (T.sl .nil 0 []))))],
  [none, (some 0), none], false⟩)
(.seq (.reg ⟨[(none, (.alloc 0 (List.replicate 60 (T.v (.int .u8 0)))))],
  [none, none, (some 0)], false⟩)
(.seq (.reg ⟨[(none, (.sliceA 60 1 (.x 2) none none)), (none, (.mv (.x 0))), (none, (.copy 1 (.r 0) (.r 1)))],
  [none, none, none], false⟩)
(.seq (.reg ⟨[(none, (.sliceA 60 1 (.x 2) none none)), (none, (.sliceA 60 1 (.x 2) none none)), (none, (.call 9 F_sum_Of [(.r 1)])), (none, (.call 10 F_num_Put [(.r 0), (.r 2), (.c (T.v (.int .i64 4)))])), (none, (.mv (.r 3)))],
  [none, (some 4), none], true⟩)
.ret))))⟩

def c_ref01_right : IFn := ⟨1, 2, 0, [(.var 1)], [.raw], false, (.seq (.reg ⟨[(none, (.mv (.c (T.v (.bool false)))))],
  [none, (some 0)], false⟩)
(.seq (.reg ⟨[(none, (.mv (.x 0))), (none, (.bin .eql 3 (.r 0) (.c (T.v (.int .i64 1))))), (none, (.mv (.r 1))), ((some (2, false)), (.mv (.x 0))), ((some (2, false)), (.bin .eql 3 (.r 3) (.c (T.v (.int .i64 2))))), (none, (.pick (.r 2) (.c (T.v (.bool true))) (.r 4))), (none, (.mv (.r 5))), ((some (6, false)), (.mv (.x 0))), ((some (6, false)), (.bin .eql 3 (.r 7) (.c (T.v (.int .i64 4))))), (none, (.pick (.r 6) (.c (T.v (.bool true))) (.r 8))), (none, (.mv (.r 9)))],
  [none, (some 10)], false⟩)
.ret))⟩

def c_ref07_count : IFn := ⟨2, 3, 0, [(.var 2)], [.raw], false, (.seq (.reg ⟨[(none, (.mv (.c (T.v (.bool false)))))],
  [none, none, (some 0)], false⟩)
(.seq (.reg ⟨[(none, (.mv (.x 0))), (none, (.bin .geq 3 (.r 0) (.c (T.v (.int .i64 0))))), (none, (.mv (.r 1))), ((some (2, true)), (.mv (.x 0))), ((some (2, true)), (.mv (.x 1))), ((some (2, true)), (.bin .leq 3 (.r 3) (.r 4))), (none, (.pick (.r 2) (.r 5) (.c (T.v (.bool false))))), (none, (.mv (.r 6)))],
  [none, none, (some 7)], false⟩)
.ret))⟩

def c_ref01_Bytes : IFn := ⟨2, 6, 0, [(.var 2)], [.raw], false, (.seq (.reg ⟨[(none, (.mv (.c (T.sl .nil 0 []))))],
  [none, none, (some 0), none, none, none], false⟩)
(.seq (.reg ⟨[(none, (.bslice 7 5 1 0 [(T.v (.int .u8 0))] [])), (none, (.mv (.r 0)))],
  [none, none, none, (some 1), none, none], false⟩)
(.seq (.seq (.reg ⟨[(none, (.mv (.c (T.v (.int .i64 0)))))],
  [none, none, none, none, (some 0), none], false⟩)
(.block 0
(.loop (.seq (.kill [2, 5])
(.seq (.free [])
(.seq (.seq (.reg ⟨[(none, (.mv (.x 4))), (none, (.mv (.x 1))), (none, (.bin .lss 3 (.r 0) (.r 1)))],
  [none, none, none, none, none, (some 2)], false⟩)
(.cond (.x 5)
.skip
(.exit 0)))
(.seq (.block 1
(.seq (.reg ⟨[(none, (.mv (.x 3))), (none, (.mv (.x 0))), (none, (.bin .rem 3 (.r 1) (.c (T.v (.int .i64 256))))), (none, (.toInt .u8 (.r 2))), (none, (.bslice 17 5 1 1 [(T.v (.int .u8 0))] [(0, (1, (.r 3)))])), (none, (.append 18 5 1 1 [(T.v (.int .u8 0))] 0 (.r 0) (.r 4))), (none, (.mv (.r 5)))],
  [none, none, none, (some 6), none, none], false⟩)
(.reg ⟨[(none, (.mv (.x 0))), (none, (.bin .quo 3 (.r 0) (.c (T.v (.int .i64 256))))), (none, (.mv (.r 1)))],
  [(some 2), none, none, none, none, none], false⟩)))
(.reg ⟨[(none, (.mv (.x 4))), (none, (.bin .add 3 (.r 0) (.c (T.v (.int .i64 1))))), (none, (.mv (.r 1)))],
  [none, none, none, none, (some 2), none], false⟩))))))))
(.seq (.reg ⟨[(none, (.mv (.x 3))), (none, (.mv (.r 0)))],
  [none, none, (some 1), none, none, none], false⟩)
.ret))))⟩

def c_claim_Valid : IFn := ⟨4, 9, 1, [(.var 4)], [.raw], false, (.seq (.reg ⟨[(none, (.mv (.c (T.v (.bool false)))))],
  [none, none, none, none, (some 0), none, none, none, none], false⟩)
(.seq (.seq (.nojump (.exit 1000000))
(.block 0
(.loop (.seq (.kill [0, 1, 4, 5, 7, 8])
(.seq (.free [0, 1])
(.seq (.nojump (.exit 1000000))
(.seq (.cond (.x 7)
.skip
(.exit 0))
(.block 1
(.seq (.nojump (.exit 1000000))
(.seq (.reg ⟨[(none, (.load true 2 (.x 5))), (none, (.mv (.x 2))), (none, (.mv (.x 3))), (none, (.build [(T.v (.int .i64 0)), (T.v (.int .i64 0))] [(0, (1, (.r 1))), (1, (1, (.r 2)))])), (none, (.eqa false [.int, .int] (.r 0) (.r 3)))],
  [none, none, none, none, none, none, none, none, (some 4)], false⟩)
(.cond (.x 8)
(.seq (.reg ⟨[(none, (.mv (.c (T.v (.bool true)))))],
  [none, none, none, none, (some 0), none, none, none, none], false⟩)
.ret)
.skip)))))))))))
(.seq (.reg ⟨[(none, (.mv (.c (T.v (.bool false)))))],
  [none, none, none, none, (some 0), none, none, none, none], false⟩)
.ret)))⟩

def c_slices_Clone_int : IFn := ⟨1, 3, 0, [(.var 1)], [.raw], true, (.seq (.reg ⟨[(none, (.mv (.c (T.sl .nil 0 []))))],
  [none, (some 0), none], false⟩)
(.seq (.seq (.reg ⟨[(none, (.mv (.x 0))), (none, (.eqnil false (.r 0)))],
  [none, none, (some 1)], false⟩)
(.cond (.x 2)
(.seq (.reg ⟨[(none, (.mv (.c (T.sl .nil 0 []))))],
  [none, (some 0), none], false⟩)
.ret)
.skip))
(.seq (.reg ⟨[(none, (.bslice 5 3 1 0 [(T.v (.int .i64 0))] [])), (none, (.mv (.x 0))), (none, (.append 7 3 1 8 [(T.v (.int .i64 0))] 0 (.r 0) (.r 1))), (none, (.mv (.r 2)))],
  [none, (some 3), none], false⟩)
.ret)))⟩

def c_claim_pointers_1 : IFn := ⟨2, 15, 1, [], [], false, (.nojump (.seq .skip
(.seq (.reg ⟨[(none, (.load false 1 (.x 1))), (none, (.len false (.r 0))), (none, (.mv (.c (T.v (.int .i64 0)))))],
  [none, none, none, none, none, none, (some 0), (some 1), (some 2), none, none, none, none, none, none], false⟩)
(.block 0
(.loop (.seq (.kill [1, 2, 3, 4, 5, 9, 10, 11, 12, 13, 14])
(.seq (.free [0, 1])
(.seq (.reg ⟨[(none, (.bin .lss 3 (.x 8) (.x 7)))],
  [none, none, none, none, none, none, none, none, none, (some 0), none, none, none, none, none], false⟩)
(.seq (.cond (.x 9)
.skip
(.exit 0))
(.seq (.block 1
(.seq (.reg ⟨[(none, (.mv (.x 8))), (none, (.iaddrS 10 (.x 6) (.x 8))), (none, (.load true 10 (.r 1))), (none, (.alloc 0 (List.replicate 10 (T.v (.int .i64 0))))), (none, (.mv (.r 0))), (none, (.store 10 (.r 3) (.r 2)))],
  [none, none, (some 4), (some 3), none, none, none, none, none, none, none, none, none, none, none], false⟩)
(.seq (.reg ⟨[(none, (.faddr 5 (.x 3))), (none, (.sliceA 4 1 (.r 0) none none)), (none, (.call 16 F_slices_Clone_int [(.r 1)])), (none, (.faddr 9 (.x 3))), (none, (.load false 1 (.r 3))), (none, (.bslice 19 3 1 1 [(T.v (.int .i64 0))] [(0, (1, (.r 4)))])), (none, (.append 20 3 1 8 [(T.v (.int .i64 0))] 0 (.r 2) (.r 5))), (none, (.len false (.r 6))), (none, (.mv (.c (T.v (.int .i64 0)))))],
  [none, none, none, none, none, none, none, none, none, none, (some 6), (some 7), (some 8), none, none], true⟩)
(.block 2
(.loop (.seq (.kill [1, 3, 4, 5, 9, 13, 14])
(.seq (.free [])
(.seq (.reg ⟨[(none, (.bin .lss 3 (.x 12) (.x 11)))],
  [none, none, none, none, none, none, none, none, none, none, none, none, none, (some 0), none], false⟩)
(.seq (.cond (.x 13)
.skip
(.exit 2))
(.seq (.block 3
(.seq (.reg ⟨[(none, (.mv (.x 12))), (none, (.iaddrS 1 (.x 10) (.x 12))), (none, (.load false 1 (.r 1))), (none, (.mv (.r 0))), (none, (.mv (.r 2)))],
  [none, none, none, none, (some 3), (some 4), none, none, none, none, none, none, none, none, none], false⟩)
(.seq (.reg ⟨[(none, (.mv (.x 5))), (none, (.bin .neq 3 (.r 0) (.c (T.v (.int .i64 0))))), (none, (.mv (.r 1))), ((some (2, true)), (.mv (.x 0))), ((some (2, true)), (.mv (.x 2))), ((some (2, true)), (.bin .add 3 (.r 4) (.c (T.v (.int .i64 1))))), ((some (2, true)), (.mv (.x 4))), ((some (2, true)), (.build [(T.v (.int .i64 0)), (T.v (.int .i64 0))] [(0, (1, (.r 5))), (1, (1, (.r 6)))])), ((some (2, true)), (.mv (.x 5))), ((some (2, true)), (.bin .sub 3 (.r 8) (.c (T.v (.int .i64 1))))), ((some (2, true)), (.callv 37 (.r 3) [(.r 7), (.r 9)])), ((some (2, true)), (.un .not (.r 10))), (none, (.pick (.r 2) (.r 11) (.c (T.v (.bool false)))))],
  [none, none, none, none, none, none, none, none, none, none, none, none, none, none, (some 12)], false⟩)
(.cond (.x 14)
(.exit 0)
.skip))))
(.reg ⟨[(none, (.bin .add 3 (.x 12) (.c (T.v (.int .i64 1))))), (none, (.mv (.r 0)))],
  [none, none, none, none, none, none, none, none, none, none, none, none, (some 1), none, none], false⟩)))))))))))
(.reg ⟨[(none, (.bin .add 3 (.x 8) (.c (T.v (.int .i64 1))))), (none, (.mv (.r 0)))],
  [none, none, none, none, none, none, none, none, (some 1), none, none, none, none, none, none], false⟩)))))))))))⟩

def c_entry_Get : IFn := ⟨2, 11, 2, [(.cell 2 true 3), (.var 3), (.var 4)], [.raw, .raw, .raw], false, (.seq (.reg ⟨[(none, (.alloc 0 [(T.v (.int .i64 0)), (T.v (.int .i64 0)), (T.v (.string ⟨#[]⟩))])), (none, (.mv (.c (T.v (.bool false))))), (none, (.mv (.c (T.v (.bool false)))))],
  [none, none, (some 0), (some 1), (some 2), none, none, none, none, none, none], false⟩)
(.seq (.seq (.reg ⟨[(none, (.mv (.x 0))), (none, (.len false (.r 0))), (none, (.bin .neq 3 (.r 1) (.c (T.v (.int .i64 16)))))],
  [none, none, none, none, none, none, none, none, (some 2), none, none], false⟩)
(.cond (.x 8)
(.seq (.reg ⟨[(none, (.build [(T.v (.int .i64 0)), (T.v (.int .i64 0)), (T.v (.string ⟨#[]⟩))] [])), (none, (.store 3 (.x 2) (.r 0))), (none, (.mv (.c (T.v (.bool false))))), (none, (.mv (.c (T.v (.bool false)))))],
  [none, none, none, (some 2), (some 3), none, none, none, none, none, none], false⟩)
.ret)
.skip))
(.seq (.seq (.reg ⟨[(none, (.mv (.x 0))), (none, (.arrOf 16 (.r 0))), (none, (.load true 16 (.r 1))), (none, (.build (List.replicate 16 (T.v (.int .u8 0))) [])), (none, (.eqa false [.int, .int, .int, .int, .int, .int, .int, .int, .int, .int, .int, .int, .int, .int, .int, .int] (.r 2) (.r 3)))],
  [none, none, none, none, none, none, none, none, none, (some 4), none], false⟩)
(.cond (.x 9)
(.seq (.reg ⟨[(none, (.build [(T.v (.int .i64 0)), (T.v (.int .i64 0)), (T.v (.string ⟨#[]⟩))] [])), (none, (.store 3 (.x 2) (.r 0))), (none, (.mv (.c (T.v (.bool false))))), (none, (.mv (.c (T.v (.bool true)))))],
  [none, none, none, (some 2), (some 3), none, none, none, none, none, none], false⟩)
.ret)
.skip))
(.seq (.reg ⟨[(none, (.mv (.x 1))), (none, (.build [(T.v (.int .i64 0)), (T.v (.int .i64 0)), (T.v (.string ⟨#[]⟩))] [(0, (1, (.r 0)))])), (none, (.alloc 2 [(T.v (.int .i64 0)), (T.v (.int .i64 0)), (T.v (.string ⟨#[]⟩))])), (none, (.store 3 (.r 2) (.r 1)))],
  [none, none, none, none, none, (some 2), none, none, none, none, none], false⟩)
(.seq (.reg ⟨[(none, (.mv (.x 0))), (none, (.call 24 F_num_Get [(.r 0), (.c (T.v (.int .i64 0))), (.c (T.v (.int .i64 2)))])), (none, (.mv (.r 1))), (none, (.extract (.r 2) 0)), (none, (.extract (.r 2) 1)), (none, (.faddr 1 (.x 5))), (none, (.store 1 (.r 5) (.r 3)))],
  [none, none, none, none, none, none, none, none, none, none, none], false⟩)
(.seq (.reg ⟨[(none, (.mv (.x 0))), (none, (.sliceT 1 (.r 0) (some (.c (T.v (.int .i64 2)))) none none)), (none, (.call 31 F_name_Unpack [(.r 1)])), (none, (.mv (.r 2))), (none, (.extract (.r 3) 0)), (none, (.extract (.r 3) 1)), (none, (.faddr 2 (.x 5))), (none, (.store 1 (.r 6) (.r 4)))],
  [none, none, none, none, none, none, none, none, none, none, none], false⟩)
(.seq (.reg ⟨[(none, (.load true 3 (.x 5))), (none, (.call 37 F_entry_Put [(.r 0)])), (none, (.mv (.r 1))), (none, (.extract (.r 2) 0)), (none, (.extract (.r 2) 1)), (none, (.mv (.r 3))), (none, (.mv (.r 4)))],
  [none, none, none, none, none, none, (some 5), (some 6), none, none, none], false⟩)
(.seq (.seq (.reg ⟨[(none, (.mv (.x 7))), (none, (.bin .neq 54 (.r 0) (.c (T.v (.int .i64 0))))), (none, (.mv (.r 1))), ((some (2, false)), (.mv (.x 0))), ((some (2, false)), (.mv (.x 6))), ((some (2, false)), (.call 45 F_bytes_Equal [(.r 3), (.r 4)])), ((some (2, false)), (.un .not (.r 5))), (none, (.pick (.r 2) (.c (T.v (.bool true))) (.r 6)))],
  [none, none, none, none, none, none, none, none, none, none, (some 7)], false⟩)
(.cond (.x 10)
(.seq (.reg ⟨[(none, (.build [(T.v (.int .i64 0)), (T.v (.int .i64 0)), (T.v (.string ⟨#[]⟩))] [])), (none, (.store 3 (.x 2) (.r 0))), (none, (.mv (.c (T.v (.bool false))))), (none, (.mv (.c (T.v (.bool false)))))],
  [none, none, none, (some 2), (some 3), none, none, none, none, none, none], false⟩)
.ret)
.skip))
(.seq (.reg ⟨[(none, (.load true 3 (.x 5))), (none, (.store 3 (.x 2) (.r 0))), (none, (.mv (.c (T.v (.bool true))))), (none, (.mv (.c (T.v (.bool true)))))],
  [none, none, none, (some 2), (some 3), none, none, none, none, none, none], false⟩)
.ret)))))))))⟩

def c_slices_ContainsFunc_Entry : IFn := ⟨2, 3, 0, [(.var 2)], [.raw], false, (.seq (.reg ⟨[(none, (.mv (.c (T.v (.bool false)))))],
  [none, none, (some 0)], false⟩)
(.seq (.reg ⟨[(none, (.mv (.x 0))), (none, (.mv (.x 1))), (none, (.call 7 F_slices_IndexFunc_Entry [(.r 0), (.r 1)])), (none, (.bin .geq 3 (.r 2) (.c (T.v (.int .i64 0))))), (none, (.mv (.r 3)))],
  [none, none, (some 4)], false⟩)
.ret))⟩

def c_slices_pdqsortOrdered_int : IFn := ⟨4, 23, 0, [], [], false, (.seq (.reg ⟨[(none, (.mv (.c (T.v (.bool true)))))],
  [none, none, none, none, (some 0), none, none, none, none, none, none, none, none, none, none, none, none, none, none, none, none, none, none], false⟩)
(.seq (.reg ⟨[(none, (.mv (.c (T.v (.bool true)))))],
  [none, none, none, none, none, (some 0), none, none, none, none, none, none, none, none, none, none, none, none, none, none, none, none, none], false⟩)
(.block 0
(.loop (.seq (.kill [6, 7, 8, 9, 10, 11, 12, 13, 14, 15, 16, 17, 18, 19, 20, 21, 22])
(.seq (.free [])
(.block 1
(.seq (.reg ⟨[(none, (.mv (.x 2))), (none, (.mv (.x 1))), (none, (.bin .sub 3 (.r 0) (.r 1))), (none, (.mv (.r 2)))],
  [none, none, none, none, none, none, (some 3), none, none, none, none, none, none, none, none, none, none, none, none, none, none, none, none], false⟩)
(.seq (.seq (.reg ⟨[(none, (.mv (.x 6))), (none, (.bin .leq 3 (.r 0) (.c (T.v (.int .i64 12)))))],
  [none, none, none, none, none, none, none, none, none, none, none, none, none, none, none, (some 1), none, none, none, none, none, none, none], false⟩)
(.cond (.x 15)
(.seq (.reg ⟨[(none, (.mv (.x 0))), (none, (.mv (.x 1))), (none, (.mv (.x 2))), (none, (.call 27 F_slices_insertionSortOrdered_int [(.r 0), (.r 1), (.r 2)]))],
  [none, none, none, none, none, none, none, none, none, none, none, none, none, none, none, none, none, none, none, none, none, none, none], false⟩)
.ret)
.skip))
(.seq (.seq (.reg ⟨[(none, (.mv (.x 3))), (none, (.bin .eql 3 (.r 0) (.c (T.v (.int .i64 0)))))],
  [none, none, none, none, none, none, none, none, none, none, none, none, none, none, none, none, (some 1), none, none, none, none, none, none], false⟩)
(.cond (.x 16)
(.seq (.reg ⟨[(none, (.mv (.x 0))), (none, (.mv (.x 1))), (none, (.mv (.x 2))), (none, (.call 33 F_slices_heapSortOrdered_int [(.r 0), (.r 1), (.r 2)]))],
  [none, none, none, none, none, none, none, none, none, none, none, none, none, none, none, none, none, none, none, none, none, none, none], false⟩)
.ret)
.skip))
(.seq (.seq (.reg ⟨[(none, (.mv (.x 4))), (none, (.un .not (.r 0)))],
  [none, none, none, none, none, none, none, none, none, none, none, none, none, none, none, none, none, (some 1), none, none, none, none, none], false⟩)
(.cond (.x 17)
(.seq (.reg ⟨[(none, (.mv (.x 0))), (none, (.mv (.x 1))), (none, (.mv (.x 2))), (none, (.call 39 F_slices_breakPatternsOrdered_int [(.r 0), (.r 1), (.r 2)]))],
  [none, none, none, none, none, none, none, none, none, none, none, none, none, none, none, none, none, none, none, none, none, none, none], false⟩)
(.reg ⟨[(none, (.mv (.x 3))), (none, (.bin .sub 3 (.r 0) (.c (T.v (.int .i64 1))))), (none, (.mv (.r 1)))],
  [none, none, none, (some 2), none, none, none, none, none, none, none, none, none, none, none, none, none, none, none, none, none, none, none], false⟩))
.skip))
(.seq (.reg ⟨[(none, (.mv (.x 0))), (none, (.mv (.x 1))), (none, (.mv (.x 2))), (none, (.call 46 F_slices_choosePivotOrdered_int [(.r 0), (.r 1), (.r 2)])), (none, (.mv (.r 3))), (none, (.extract (.r 4) 0)), (none, (.extract (.r 4) 1)), (none, (.mv (.r 5))), (none, (.mv (.r 6)))],
  [none, none, none, none, none, none, none, (some 7), (some 8), none, none, none, none, none, none, none, none, none, none, none, none, none, none], false⟩)
(.seq (.seq (.reg ⟨[(none, (.mv (.x 8))), (none, (.bin .eql 179 (.r 0) (.c (T.v (.int .i64 2)))))],
  [none, none, none, none, none, none, none, none, none, none, none, none, none, none, none, none, none, none, (some 1), none, none, none, none], false⟩)
(.cond (.x 18)
(.seq (.reg ⟨[(none, (.mv (.x 0))), (none, (.mv (.x 1))), (none, (.mv (.x 2))), (none, (.call 54 F_slices_reverseRangeOrdered_int [(.r 0), (.r 1), (.r 2)]))],
  [none, none, none, none, none, none, none, none, none, none, none, none, none, none, none, none, none, none, none, none, none, none, none], false⟩)
(.seq (.reg ⟨[(none, (.mv (.x 2))), (none, (.bin .sub 3 (.r 0) (.c (T.v (.int .i64 1))))), (none, (.mv (.x 7))), (none, (.mv (.x 1))), (none, (.bin .sub 3 (.r 2) (.r 3))), (none, (.bin .sub 3 (.r 1) (.r 4))), (none, (.mv (.r 5)))],
  [none, none, none, none, none, none, none, (some 6), none, none, none, none, none, none, none, none, none, none, none, none, none, none, none], false⟩)
(.reg ⟨[(none, (.mv (.c (T.v (.int .i64 1)))))],
  [none, none, none, none, none, none, none, none, (some 0), none, none, none, none, none, none, none, none, none, none, none, none, none, none], false⟩)))
.skip))
(.seq (.seq (.reg ⟨[(none, (.mv (.x 4))), (none, (.mv (.r 0))), ((some (1, true)), (.mv (.x 5))), (none, (.pick (.r 1) (.r 2) (.c (T.v (.bool false))))), (none, (.mv (.r 3))), ((some (4, true)), (.mv (.x 8))), ((some (4, true)), (.bin .eql 179 (.r 5) (.c (T.v (.int .i64 1))))), (none, (.pick (.r 4) (.r 6) (.c (T.v (.bool false)))))],
  [none, none, none, none, none, none, none, none, none, none, none, none, none, none, none, none, none, none, none, (some 7), none, none, none], false⟩)
(.cond (.x 19)
(.seq (.reg ⟨[(none, (.mv (.x 0))), (none, (.mv (.x 1))), (none, (.mv (.x 2))), (none, (.call 72 F_slices_partialInsertionSortOrdered_int [(.r 0), (.r 1), (.r 2)]))],
  [none, none, none, none, none, none, none, none, none, none, none, none, none, none, none, none, none, none, none, none, (some 3), none, none], false⟩)
(.cond (.x 20)
.ret
.skip))
.skip))
(.seq (.seq (.reg ⟨[(none, (.mv (.x 1))), (none, (.bin .gtr 3 (.r 0) (.c (T.v (.int .i64 0))))), (none, (.mv (.r 1))), ((some (2, true)), (.mv (.x 0))), ((some (2, true)), (.mv (.x 1))), ((some (2, true)), (.bin .sub 3 (.r 4) (.c (T.v (.int .i64 1))))), ((some (2, true)), (.iaddrS 1 (.r 3) (.r 5))), ((some (2, true)), (.load false 1 (.r 6))), ((some (2, true)), (.mv (.x 0))), ((some (2, true)), (.mv (.x 7))), ((some (2, true)), (.iaddrS 1 (.r 8) (.r 9))), ((some (2, true)), (.load false 1 (.r 10))), ((some (2, true)), (.call 85 F_cmp_Less_int [(.r 7), (.r 11)])), ((some (2, true)), (.un .not (.r 12))), (none, (.pick (.r 2) (.r 13) (.c (T.v (.bool false)))))],
  [none, none, none, none, none, none, none, none, none, none, none, none, none, none, none, none, none, none, none, none, none, (some 14), none], true⟩)
(.cond (.x 21)
(.seq (.reg ⟨[(none, (.mv (.x 0))), (none, (.mv (.x 1))), (none, (.mv (.x 2))), (none, (.mv (.x 7))), (none, (.call 92 F_slices_partitionEqualOrdered_int [(.r 0), (.r 1), (.r 2), (.r 3)])), (none, (.mv (.r 4)))],
  [none, none, none, none, none, none, none, none, none, (some 5), none, none, none, none, none, none, none, none, none, none, none, none, none], false⟩)
(.seq (.reg ⟨[(none, (.mv (.x 9))), (none, (.mv (.r 0)))],
  [none, (some 1), none, none, none, none, none, none, none, none, none, none, none, none, none, none, none, none, none, none, none, none, none], false⟩)
(.exit 1)))
.skip))
(.seq (.reg ⟨[(none, (.mv (.x 0))), (none, (.mv (.x 1))), (none, (.mv (.x 2))), (none, (.mv (.x 7))), (none, (.call 99 F_slices_partitionOrdered_int [(.r 0), (.r 1), (.r 2), (.r 3)])), (none, (.mv (.r 4))), (none, (.extract (.r 5) 0)), (none, (.extract (.r 5) 1)), (none, (.mv (.r 6))), (none, (.mv (.r 7)))],
  [none, none, none, none, none, none, none, none, none, none, (some 8), (some 9), none, none, none, none, none, none, none, none, none, none, none], false⟩)
(.seq (.reg ⟨[(none, (.mv (.x 11))), (none, (.mv (.r 0)))],
  [none, none, none, none, none, (some 1), none, none, none, none, none, none, none, none, none, none, none, none, none, none, none, none, none], false⟩)
(.seq (.reg ⟨[(none, (.mv (.x 10))), (none, (.mv (.x 1))), (none, (.bin .sub 3 (.r 0) (.r 1))), (none, (.mv (.x 2))), (none, (.mv (.x 10))), (none, (.bin .sub 3 (.r 3) (.r 4))), (none, (.mv (.r 2))), (none, (.mv (.r 5)))],
  [none, none, none, none, none, none, none, none, none, none, none, none, (some 6), (some 7), none, none, none, none, none, none, none, none, none], false⟩)
(.seq (.reg ⟨[(none, (.mv (.x 6))), (none, (.bin .quo 3 (.r 0) (.c (T.v (.int .i64 8))))), (none, (.mv (.r 1)))],
  [none, none, none, none, none, none, none, none, none, none, none, none, none, none, (some 2), none, none, none, none, none, none, none, none], false⟩)
(.seq (.reg ⟨[(none, (.mv (.x 12))), (none, (.mv (.x 13))), (none, (.bin .lss 3 (.r 0) (.r 1)))],
  [none, none, none, none, none, none, none, none, none, none, none, none, none, none, none, none, none, none, none, none, none, none, (some 2)], false⟩)
(.cond (.x 22)
(.seq (.reg ⟨[(none, (.mv (.x 12))), (none, (.mv (.x 14))), (none, (.bin .geq 3 (.r 0) (.r 1))), (none, (.mv (.r 2)))],
  [none, none, none, none, (some 3), none, none, none, none, none, none, none, none, none, none, none, none, none, none, none, none, none, none], false⟩)
(.seq (.reg ⟨[(none, (.mv (.x 0))), (none, (.mv (.x 1))), (none, (.mv (.x 10))), (none, (.mv (.x 3))), (none, (.call 121 F_slices_pdqsortOrdered_int [(.r 0), (.r 1), (.r 2), (.r 3)]))],
  [none, none, none, none, none, none, none, none, none, none, none, none, none, none, none, none, none, none, none, none, none, none, none], false⟩)
(.reg ⟨[(none, (.mv (.x 10))), (none, (.bin .add 3 (.r 0) (.c (T.v (.int .i64 1))))), (none, (.mv (.r 1)))],
  [none, (some 2), none, none, none, none, none, none, none, none, none, none, none, none, none, none, none, none, none, none, none, none, none], false⟩)))
(.seq (.reg ⟨[(none, (.mv (.x 13))), (none, (.mv (.x 14))), (none, (.bin .geq 3 (.r 0) (.r 1))), (none, (.mv (.r 2)))],
  [none, none, none, none, (some 3), none, none, none, none, none, none, none, none, none, none, none, none, none, none, none, none, none, none], false⟩)
(.seq (.reg ⟨[(none, (.mv (.x 0))), (none, (.mv (.x 10))), (none, (.bin .add 3 (.r 1) (.c (T.v (.int .i64 1))))), (none, (.mv (.x 2))), (none, (.mv (.x 3))), (none, (.call 132 F_slices_pdqsortOrdered_int [(.r 0), (.r 2), (.r 3), (.r 4)]))],
  [none, none, none, none, none, none, none, none, none, none, none, none, none, none, none, none, none, none, none, none, none, none, none], false⟩)
(.reg ⟨[(none, (.mv (.x 10))), (none, (.mv (.r 0)))],
  [none, none, (some 1), none, none, none, none, none, none, none, none, none, none, none, none, none, none, none, none, none, none, none, none], false⟩))))))))))))))))))))))))⟩

def c_math_bits_Len : IFn := ⟨1, 2, 0, [(.var 1)], [.raw], false, (.seq (.reg ⟨[(none, (.mv (.c (T.v (.int .i64 0)))))],
  [none, (some 0)], false⟩)
(.seq (.cond (.c (T.v (.bool false)))
(.seq (.reg ⟨[(none, (.mv (.x 0))), (none, (.toInt .u32 (.r 0))), (none, (.call 5 F_math_bits_Len32 [(.r 1)])), (none, (.mv (.r 2)))],
  [none, (some 3)], false⟩)
.ret)
.skip)
(.seq (.reg ⟨[(none, (.mv (.x 0))), (none, (.call 7 F_math_bits_Len64 [(.r 0)])), (none, (.mv (.r 1)))],
  [none, (some 2)], false⟩)
.ret)))⟩

def c_ref09_Right : IFn := ⟨1, 7, 2, [(.var 2)], [.raw], false, (.seq (.reg ⟨[(none, (.box 0 (.x 0))), (none, (.mv (.c (T.v (.bool false)))))],
  [none, (some 0), (some 1), none, none, none, none], false⟩)
(.seq (.seq (.reg ⟨[(none, (.faddr 0 (.x 1))), (none, (.load false 1 (.r 0))), (none, (.call 6 F_ref09_count [(.r 1), (.c (T.v (.int .i64 31)))])), (none, (.un .not (.r 2))), (none, (.mv (.r 3))), ((some (4, false)), (.faddr 1 (.x 1))), ((some (4, false)), (.load false 1 (.r 5))), ((some (4, false)), (.call 11 F_ref09_count [(.r 6), (.c (T.v (.int .i64 255)))])), ((some (4, false)), (.un .not (.r 7))), (none, (.pick (.r 4) (.c (T.v (.bool true))) (.r 8))), (none, (.mv (.r 9))), ((some (10, false)), (.faddr 6 (.x 1))), ((some (10, false)), (.load false 1 (.r 11))), ((some (10, false)), (.call 17 F_ref09_count [(.r 12), (.c (T.v (.int .i64 65535)))])), ((some (10, false)), (.un .not (.r 13))), (none, (.pick (.r 10) (.c (T.v (.bool true))) (.r 14))), (none, (.mv (.r 15))), ((some (16, false)), (.faddr 2 (.x 1))), ((some (16, false)), (.load false 1 (.r 17))), ((some (16, false)), (.len true (.r 18))), ((some (16, false)), (.call 24 F_ref09_count [(.r 19), (.c (T.v (.int .i64 24)))])), ((some (16, false)), (.un .not (.r 20))), (none, (.pick (.r 16) (.c (T.v (.bool true))) (.r 21)))],
  [none, none, none, none, (some 22), none, none], false⟩)
(.cond (.x 4)
(.seq (.reg ⟨[(none, (.mv (.c (T.v (.bool false)))))],
  [none, none, (some 0), none, none, none, none], false⟩)
.ret)
.skip))
(.seq (.reg ⟨[(none, (.faddr 3 (.x 1))), (none, (.load true 3 (.r 0))), (none, (.alloc 2 [(T.v (.int .i64 0)), (T.v (.int .i64 0)), (T.v (.int .i64 0))])), (none, (.store 3 (.r 2) (.r 1)))],
  [none, none, none, (some 2), none, none, none], false⟩)
(.seq (.seq (.reg ⟨[(none, (.faddr 0 (.x 3))), (none, (.load false 1 (.r 0))), (none, (.call 31 F_ref09_count [(.r 1), (.c (T.v (.int .i64 255)))])), (none, (.un .not (.r 2))), (none, (.mv (.r 3))), ((some (4, false)), (.faddr 1 (.x 3))), ((some (4, false)), (.load false 1 (.r 5))), ((some (4, false)), (.call 36 F_ref09_count [(.r 6), (.c (T.v (.int .i64 65535)))])), ((some (4, false)), (.un .not (.r 7))), (none, (.pick (.r 4) (.c (T.v (.bool true))) (.r 8))), (none, (.mv (.r 9))), ((some (10, false)), (.faddr 2 (.x 3))), ((some (10, false)), (.load false 1 (.r 11))), ((some (10, false)), (.call 42 F_ref09_count [(.r 12), (.c (T.v (.int .i64 268435455)))])), ((some (10, false)), (.un .not (.r 13))), (none, (.pick (.r 10) (.c (T.v (.bool true))) (.r 14)))],
  [none, none, none, none, none, (some 15), none], false⟩)
(.cond (.x 5)
(.seq (.reg ⟨[(none, (.mv (.c (T.v (.bool false)))))],
  [none, none, (some 0), none, none, none, none], false⟩)
.ret)
.skip))
(.seq (.seq (.reg ⟨[(none, (.faddr 0 (.x 1))), (none, (.load false 1 (.r 0))), (none, (.call 47 F_ref09_has [(.r 1), (.c (T.v (.int .i64 1)))])), (none, (.un .not (.r 2))), (none, (.mv (.r 3))), ((some (4, true)), (.faddr 1 (.x 1))), ((some (4, true)), (.load false 1 (.r 5))), ((some (4, true)), (.bin .neq 3 (.r 6) (.c (T.v (.int .i64 0))))), (none, (.pick (.r 4) (.r 7) (.c (T.v (.bool false))))), (none, (.mv (.r 8))), ((some (9, false)), (.faddr 0 (.x 1))), ((some (9, false)), (.load false 1 (.r 10))), ((some (9, false)), (.call 57 F_ref09_has [(.r 11), (.c (T.v (.int .i64 2)))])), ((some (9, false)), (.faddr 2 (.x 1))), ((some (9, false)), (.load false 1 (.r 13))), ((some (9, false)), (.len true (.r 14))), ((some (9, false)), (.bin .gtr 3 (.r 15) (.c (T.v (.int .i64 0))))), ((some (9, false)), (.eqb true (.r 12) (.r 16))), (none, (.pick (.r 9) (.c (T.v (.bool true))) (.r 17)))],
  [none, none, none, none, none, none, (some 18)], true⟩)
(.cond (.x 6)
(.seq (.reg ⟨[(none, (.mv (.c (T.v (.bool false)))))],
  [none, none, (some 0), none, none, none, none], false⟩)
.ret)
.skip))
(.seq (.reg ⟨[(none, (.faddr 0 (.x 1))), (none, (.load false 1 (.r 0))), (none, (.call 66 F_ref09_has [(.r 1), (.c (T.v (.int .i64 4)))])), (none, (.mv (.r 2))), ((some (3, false)), (.load true 3 (.x 3))), ((some (3, false)), (.build [(T.v (.int .i64 0)), (T.v (.int .i64 0)), (T.v (.int .i64 0))] [])), ((some (3, false)), (.eqa false [.int, .int, .int] (.r 4) (.r 5))), (none, (.pick (.r 3) (.c (T.v (.bool true))) (.r 6))), (none, (.mv (.r 7))), ((some (8, true)), (.faddr 0 (.x 1))), ((some (8, true)), (.load false 1 (.r 9))), ((some (8, true)), (.call 75 F_ref09_has [(.r 10), (.c (T.v (.int .i64 8)))])), ((some (8, true)), (.mv (.r 11))), ((some (12, false)), (.faddr 6 (.x 1))), ((some (12, false)), (.load false 1 (.r 13))), ((some (12, false)), (.bin .eql 3 (.r 14) (.c (T.v (.int .i64 0))))), ((some (8, true)), (.pick (.r 12) (.c (T.v (.bool true))) (.r 15))), (none, (.pick (.r 8) (.r 16) (.c (T.v (.bool false))))), (none, (.mv (.r 17)))],
  [none, none, (some 18), none, none, none, none], false⟩)
.ret))))))⟩

def c_geo_layout_layer : IFn := ⟨1, 3, 1, [(.var 2)], [.raw], false, (.seq (.reg ⟨[(none, (.box 0 (.x 0))), (none, (.mv (.c (T.v (.int .i64 0)))))],
  [none, (some 0), (some 1)], false⟩)
(.seq (.reg ⟨[(none, (.faddr 0 (.x 1))), (none, (.faddr 1 (.r 0))), (none, (.load false 1 (.r 1))), (none, (.bin .add 3 (.c (T.v (.int .i64 1))) (.r 2))), (none, (.faddr 0 (.x 1))), (none, (.faddr 2 (.r 4))), (none, (.load false 1 (.r 5))), (none, (.bin .add 3 (.r 3) (.r 6))), (none, (.mv (.r 7)))],
  [none, none, (some 8)], false⟩)
.ret))⟩

def c_ref01_Put : IFn := ⟨3, 6, 0, [(.var 3)], [.raw], false, (.seq (.reg ⟨[(none, (.mv (.c (T.sl .nil 0 []))))],
  [none, none, none, (some 0), none, none], false⟩)
(.seq (.reg ⟨[(none, (.bslice 8 5 1 0 [(T.v (.int .u8 0))] [])), (none, (.mv (.x 0))), (none, (.append 10 5 1 1 [(T.v (.int .u8 0))] 0 (.r 0) (.r 1))), (none, (.mv (.r 2)))],
  [none, none, none, none, (some 3), none], false⟩)
(.seq (.seq (.reg ⟨[(none, (.mv (.x 1))), (none, (.mv (.x 2))), (none, (.call 13 F_ref01_Right [(.r 0), (.r 1)]))],
  [none, none, none, none, none, (some 2)], false⟩)
(.cond (.x 5)
(.reg ⟨[(none, (.mv (.x 4))), (none, (.mv (.x 1))), (none, (.mv (.x 2))), (none, (.call 17 F_ref01_Bytes [(.r 1), (.r 2)])), (none, (.append 18 5 1 1 [(T.v (.int .u8 0))] 0 (.r 0) (.r 3))), (none, (.mv (.r 4)))],
  [none, none, none, none, (some 5), none], false⟩)
.skip))
(.seq (.reg ⟨[(none, (.mv (.x 4))), (none, (.mv (.r 0)))],
  [none, none, none, (some 1), none, none], false⟩)
.ret))))⟩

def c_ref02_Of : IFn := ⟨1, 4, 0, [(.var 1)], [.raw], false, (.seq (.reg ⟨[(none, (.mv (.c (T.v (.int .i64 0)))))],
  [none, (some 0), none, none], false⟩)
(.seq (.reg ⟨[(none, (.mv (.x 0))), (none, (.call 7 F_ref02_Sums [(.r 0)])), (none, (.mv (.r 1))), (none, (.extract (.r 2) 0)), (none, (.extract (.r 2) 1)), (none, (.mv (.r 3))), (none, (.mv (.r 4)))],
  [none, none, (some 5), (some 6)], false⟩)
(.seq (.reg ⟨[(none, (.mv (.x 2))), (none, (.mv (.x 3))), (none, (.bin .mul 3 (.c (T.v (.int .i64 65536))) (.r 1))), (none, (.bin .add 3 (.r 0) (.r 2))), (none, (.mv (.r 3)))],
  [none, (some 4), none, none], false⟩)
.ret)))⟩

def c_ref40_layer : IFn := ⟨3, 10, 2, [(.var 5)], [.raw], false, (.seq (.reg ⟨[(none, (.box 0 (.x 0))), (none, (.box 2 (.x 1))), (none, (.mv (.c (T.v (.bool false)))))],
  [none, none, none, (some 0), (some 1), (some 2), none, none, none, none], false⟩)
(.seq (.seq (.reg ⟨[(none, (.faddr 0 (.x 4))), (none, (.load false 1 (.r 0))), (none, (.len false (.r 1))), (none, (.faddr 1 (.x 3))), (none, (.load false 1 (.r 3))), (none, (.bin .neq 3 (.r 2) (.r 4)))],
  [none, none, none, none, none, none, none, (some 5), none, none], false⟩)
(.cond (.x 7)
(.seq (.reg ⟨[(none, (.mv (.c (T.v (.bool false)))))],
  [none, none, none, none, none, (some 0), none, none, none, none], false⟩)
.ret)
.skip))
(.seq (.seq (.reg ⟨[(none, (.mv (.c (T.v (.int .i64 0)))))],
  [none, none, none, none, none, none, (some 0), none, none, none], false⟩)
(.block 0
(.loop (.seq (.kill [0, 1, 3, 5, 7, 8, 9])
(.seq (.free [])
(.seq (.seq (.reg ⟨[(none, (.mv (.x 6))), (none, (.faddr 0 (.x 4))), (none, (.load false 1 (.r 1))), (none, (.len false (.r 2))), (none, (.bin .lss 3 (.r 0) (.r 3)))],
  [none, none, none, none, none, none, none, none, (some 4), none], false⟩)
(.cond (.x 8)
.skip
(.exit 0)))
(.seq (.block 1
(.seq (.reg ⟨[(none, (.load true 1 (.x 4))), (none, (.faddr 0 (.x 4))), (none, (.load false 1 (.r 1))), (none, (.mv (.x 6))), (none, (.iaddrS 13 (.r 2) (.r 3))), (none, (.load true 13 (.r 4))), (none, (.mv (.x 2))), (none, (.call 28 F_ref40_node [(.r 0), (.r 5), (.r 6)])), (none, (.un .not (.r 7)))],
  [none, none, none, none, none, none, none, none, none, (some 8)], true⟩)
(.cond (.x 9)
(.seq (.reg ⟨[(none, (.mv (.c (T.v (.bool false)))))],
  [none, none, none, none, none, (some 0), none, none, none, none], false⟩)
.ret)
.skip)))
(.reg ⟨[(none, (.mv (.x 6))), (none, (.bin .add 3 (.r 0) (.c (T.v (.int .i64 1))))), (none, (.mv (.r 1)))],
  [none, none, none, none, none, none, (some 2), none, none, none], false⟩))))))))
(.seq (.reg ⟨[(none, (.mv (.c (T.v (.bool true)))))],
  [none, none, none, none, none, (some 0), none, none, none, none], false⟩)
.ret))))⟩

def c_ref40_takes : IFn := ⟨2, 8, 1, [(.var 3)], [.raw], false, (.seq (.reg ⟨[(none, (.box 0 (.x 0))), (none, (.mv (.c (T.v (.bool false)))))],
  [none, none, (some 0), (some 1), none, none, none, none], false⟩)
(.seq (.seq (.reg ⟨[(none, (.mv (.x 1))), (none, (.bin .eql 3 (.r 0) (.c (T.v (.int .i64 4)))))],
  [none, none, none, none, none, (some 1), none, none], false⟩)
(.cond (.x 5)
(.seq (.reg ⟨[(none, (.faddr 6 (.x 2))), (none, (.load true 7 (.r 0))), (none, (.build [(T.v (.int .i64 0)), (T.v (.int .i64 0)), (T.v (.string ⟨#[]⟩)), (T.v (.int .i64 0)), (T.v (.int .i64 0)), (T.v (.int .i64 0)), (T.v (.int .i64 0))] [])), (none, (.eqa true [.int, .int, .str, .int, .int, .int, .int] (.r 1) (.r 2))), (none, (.mv (.r 3)))],
  [none, none, none, (some 4), none, none, none, none], false⟩)
.ret)
.skip))
(.seq (.seq (.reg ⟨[(none, (.mv (.c (T.v (.int .i64 0)))))],
  [none, none, none, none, (some 0), none, none, none], false⟩)
(.block 0
(.loop (.seq (.kill [0, 3, 5, 6, 7])
(.seq (.free [])
(.seq (.seq (.reg ⟨[(none, (.mv (.x 4))), (none, (.faddr 5 (.x 2))), (none, (.load false 1 (.r 1))), (none, (.len false (.r 2))), (none, (.bin .lss 3 (.r 0) (.r 3)))],
  [none, none, none, none, none, none, (some 4), none], false⟩)
(.cond (.x 6)
.skip
(.exit 0)))
(.seq (.block 1
(.seq (.reg ⟨[(none, (.faddr 5 (.x 2))), (none, (.load false 1 (.r 0))), (none, (.mv (.x 4))), (none, (.iaddrS 3 (.r 1) (.r 2))), (none, (.faddr 0 (.r 3))), (none, (.load false 1 (.r 4))), (none, (.bin .quo 3 (.r 5) (.c (T.v (.int .i64 4))))), (none, (.mv (.x 1))), (none, (.bin .eql 3 (.r 6) (.r 7)))],
  [none, none, none, none, none, none, none, (some 8)], false⟩)
(.cond (.x 7)
(.seq (.reg ⟨[(none, (.mv (.c (T.v (.bool true)))))],
  [none, none, none, (some 0), none, none, none, none], false⟩)
.ret)
.skip)))
(.reg ⟨[(none, (.mv (.x 4))), (none, (.bin .add 3 (.r 0) (.c (T.v (.int .i64 1))))), (none, (.mv (.r 1)))],
  [none, none, none, none, (some 2), none, none, none], false⟩))))))))
(.seq (.reg ⟨[(none, (.faddr 4 (.x 2))), (none, (.load false 1 (.r 0))), (none, (.len false (.r 1))), (none, (.mv (.x 1))), (none, (.bin .mul 3 (.c (T.v (.int .i64 64))) (.r 3))), (none, (.bin .gtr 3 (.r 2) (.r 4))), (none, (.mv (.r 5)))],
  [none, none, none, (some 6), none, none, none, none], false⟩)
.ret))))⟩

def c_ref40_block : IFn := ⟨2, 10, 1, [(.var 3)], [.raw], false, (.seq (.reg ⟨[(none, (.box 0 (.x 0))), (none, (.mv (.c (T.sl .nil 0 []))))],
  [none, none, (some 0), (some 1), none, none, none, none, none, none], false⟩)
(.seq (.seq (.reg ⟨[(none, (.mv (.x 1))), (none, (.bin .eql 3 (.r 0) (.c (T.v (.int .i64 4)))))],
  [none, none, none, none, none, none, (some 1), none, none, none], false⟩)
(.cond (.x 6)
(.seq (.reg ⟨[(none, (.faddr 6 (.x 2))), (none, (.load true 7 (.r 0))), (none, (.call 11 F_ref09_Bytes [(.r 1)])), (none, (.mv (.r 2)))],
  [none, none, none, (some 3), none, none, none, none, none, none], false⟩)
.ret)
.skip))
(.seq (.seq (.reg ⟨[(none, (.faddr 0 (.x 2))), (none, (.load false 1 (.r 0))), (none, (.bin .eql 3 (.r 1) (.c (T.v (.int .i64 1)))))],
  [none, none, none, none, none, none, none, (some 2), none, none], false⟩)
(.cond (.x 7)
(.seq (.reg ⟨[(none, (.faddr 5 (.x 2))), (none, (.load false 1 (.r 0))), (none, (.mv (.x 1))), (none, (.call 18 F_ref08_Block [(.r 1), (.r 2)])), (none, (.mv (.r 3)))],
  [none, none, none, (some 4), none, none, none, none, none, none], false⟩)
.ret)
.skip))
(.seq (.reg ⟨[(none, (.bslice 19 5 1 0 [(T.v (.int .u8 0))] [])), (none, (.mv (.r 0)))],
  [none, none, none, none, (some 1), none, none, none, none, none], false⟩)
(.seq (.seq (.reg ⟨[(none, (.mv (.x 1))), (none, (.bin .mul 3 (.c (T.v (.int .i64 64))) (.r 0))), (none, (.mv (.r 1)))],
  [none, none, none, none, none, (some 2), none, none, none, none], false⟩)
(.block 0
(.loop (.seq (.kill [0, 3, 6, 7, 8, 9])
(.seq (.free [])
(.seq (.seq (.reg ⟨[(none, (.mv (.x 5))), (none, (.mv (.x 1))), (none, (.bin .mul 3 (.c (T.v (.int .i64 64))) (.r 1))), (none, (.bin .add 3 (.r 2) (.c (T.v (.int .i64 64))))), (none, (.bin .lss 3 (.r 0) (.r 3)))],
  [none, none, none, none, none, none, none, none, (some 4), none], false⟩)
(.cond (.x 8)
.skip
(.exit 0)))
(.seq (.block 1
(.seq (.reg ⟨[(none, (.mv (.x 5))), (none, (.faddr 4 (.x 2))), (none, (.load false 1 (.r 1))), (none, (.len false (.r 2))), (none, (.bin .lss 3 (.r 0) (.r 3)))],
  [none, none, none, none, none, none, none, none, none, (some 4)], false⟩)
(.cond (.x 9)
(.reg ⟨[(none, (.mv (.x 4))), (none, (.faddr 4 (.x 2))), (none, (.load false 1 (.r 1))), (none, (.mv (.x 5))), (none, (.iaddrS 1 (.r 2) (.r 3))), (none, (.load false 1 (.r 4))), (none, (.bslice 40 5 1 1 [(T.v (.int .u8 0))] [(0, (1, (.r 5)))])), (none, (.append 41 5 1 1 [(T.v (.int .u8 0))] 0 (.r 0) (.r 6))), (none, (.mv (.r 7)))],
  [none, none, none, none, (some 8), none, none, none, none, none], false⟩)
(.reg ⟨[(none, (.mv (.x 4))), (none, (.bslice 43 5 1 1 [(T.v (.int .u8 0))] [(0, (1, (.c (T.v (.int .u8 0)))))])), (none, (.append 44 5 1 1 [(T.v (.int .u8 0))] 0 (.r 0) (.r 1))), (none, (.mv (.r 2)))],
  [none, none, none, none, (some 3), none, none, none, none, none], false⟩))))
(.reg ⟨[(none, (.mv (.x 5))), (none, (.bin .add 3 (.r 0) (.c (T.v (.int .i64 1))))), (none, (.mv (.r 1)))],
  [none, none, none, none, none, (some 2), none, none, none, none], false⟩))))))))
(.seq (.reg ⟨[(none, (.mv (.x 4))), (none, (.mv (.r 0)))],
  [none, none, none, (some 1), none, none, none, none, none, none], false⟩)
.ret))))))⟩

def c_ref10_Put : IFn := ⟨1, 9, 2, [(.var 1)], [.raw], false, (.seq (.reg ⟨[(none, (.thaw 2 5 1 (.c (T.sl .nil 0 []))))],
  [none, (some 0), none, none, none, none, none, none, none], false⟩)
(.seq (.reg ⟨[(none, (.mkBox 0 1 1 [(T.v (.int .u8 0))] (.c (T.v (.int .i64 64))))), (none, (.mv (.r 0)))],
  [none, none, (some 1), none, none, none, none, none, none], false⟩)
(.seq (.seq (.reg ⟨[(none, (.mv (.c (T.v (.int .i64 0)))))],
  [none, none, none, (some 0), none, none, none, none, none], false⟩)
(.block 0
(.loop (.seq (.kill [1, 4, 5, 6, 7, 8])
(.seq (.free [])
(.seq (.seq (.reg ⟨[(none, (.mv (.x 3))), (none, (.mv (.x 0))), (none, (.len false (.r 1))), (none, (.bin .lss 3 (.r 0) (.r 2))), (none, (.mv (.r 3))), ((some (4, true)), (.mv (.x 3))), ((some (4, true)), (.bin .lss 3 (.r 5) (.c (T.v (.int .i64 512))))), (none, (.pick (.r 4) (.r 6) (.c (T.v (.bool false)))))],
  [none, none, none, none, none, none, (some 7), none, none], false⟩)
(.cond (.x 6)
.skip
(.exit 0)))
(.seq (.block 1
(.seq (.reg ⟨[(none, (.mv (.x 0))), (none, (.mv (.x 3))), (none, (.iaddrS 1 (.r 0) (.r 1))), (none, (.load false 1 (.r 2)))],
  [none, none, none, none, none, none, none, (some 3), none], false⟩)
(.cond (.x 7)
(.seq (.reg ⟨[(none, (.mv (.c (T.v (.int .i64 1)))))],
  [none, none, none, none, (some 0), none, none, none, none], false⟩)
(.seq (.seq (.reg ⟨[(none, (.mv (.c (T.v (.int .i64 0)))))],
  [none, none, none, none, none, (some 0), none, none, none], false⟩)
(.block 2
(.loop (.seq (.kill [1, 6, 7, 8])
(.seq (.free [])
(.seq (.seq (.reg ⟨[(none, (.mv (.x 5))), (none, (.mv (.x 3))), (none, (.bin .rem 3 (.r 1) (.c (T.v (.int .i64 8))))), (none, (.bin .lss 3 (.r 0) (.r 2)))],
  [none, none, none, none, none, none, none, none, (some 3)], false⟩)
(.cond (.x 8)
.skip
(.exit 2)))
(.seq (.block 3
(.reg ⟨[(none, (.mv (.x 4))), (none, (.bin .mul 3 (.r 0) (.c (T.v (.int .i64 2))))), (none, (.mv (.r 1)))],
  [none, none, none, none, (some 2), none, none, none, none], false⟩))
(.reg ⟨[(none, (.mv (.x 5))), (none, (.bin .add 3 (.r 0) (.c (T.v (.int .i64 1))))), (none, (.mv (.r 1)))],
  [none, none, none, none, none, (some 2), none, none, none], false⟩))))))))
(.reg ⟨[(none, (.mv (.x 2))), (none, (.mv (.x 3))), (none, (.bin .quo 3 (.r 1) (.c (T.v (.int .i64 8))))), (none, (.mv (.x 2))), (none, (.mv (.x 3))), (none, (.bin .quo 3 (.r 4) (.c (T.v (.int .i64 8))))), (none, (.iaddrS 1 (.r 3) (.r 5))), (none, (.load false 1 (.r 6))), (none, (.mv (.x 4))), (none, (.toInt .u8 (.r 8))), (none, (.bin .add 5 (.r 7) (.r 9))), (none, (.iaddrS 1 (.r 0) (.r 2))), (none, (.store 1 (.r 11) (.r 10)))],
  [none, none, none, none, none, none, none, none, none], false⟩)))
.skip)))
(.reg ⟨[(none, (.mv (.x 3))), (none, (.bin .add 3 (.r 0) (.c (T.v (.int .i64 1))))), (none, (.mv (.r 1)))],
  [none, none, none, (some 2), none, none, none, none, none], false⟩))))))))
(.seq (.reg ⟨[(none, (.mv (.x 2))), (none, (.thaw 2 5 1 (.r 0)))],
  [none, (some 1), none, none, none, none, none, none, none], false⟩)
.ret))))⟩

def c_num_there : IFn := ⟨3, 4, 0, [(.var 3)], [.raw], false, (.seq (.reg ⟨[(none, (.mv (.c (T.v (.bool false)))))],
  [none, none, none, (some 0)], false⟩)
(.seq (.reg ⟨[(none, (.mv (.x 2))), (none, (.call 8 F_num_width [(.r 0)])), (none, (.mv (.r 1))), ((some (2, true)), (.mv (.x 1))), ((some (2, true)), (.bin .geq 3 (.r 3) (.c (T.v (.int .i64 0))))), (none, (.pick (.r 2) (.r 4) (.c (T.v (.bool false))))), (none, (.mv (.r 5))), ((some (6, true)), (.mv (.x 1))), ((some (6, true)), (.mv (.x 0))), ((some (6, true)), (.len false (.r 8))), ((some (6, true)), (.bin .leq 3 (.r 7) (.r 9))), (none, (.pick (.r 6) (.r 10) (.c (T.v (.bool false))))), (none, (.mv (.r 11))), ((some (12, true)), (.mv (.x 0))), ((some (12, true)), (.len false (.r 13))), ((some (12, true)), (.mv (.x 1))), ((some (12, true)), (.bin .sub 3 (.r 14) (.r 15))), ((some (12, true)), (.mv (.x 2))), ((some (12, true)), (.bin .geq 3 (.r 16) (.r 17))), (none, (.pick (.r 12) (.r 18) (.c (T.v (.bool false))))), (none, (.mv (.r 19)))],
  [none, none, none, (some 20)], false⟩)
.ret))⟩

def c_inode_odd : IFn := ⟨1, 7, 2, [(.var 2)], [.raw], false, (.seq (.reg ⟨[(none, (.box 0 (.x 0))), (none, (.mv (.c (T.v (.bool false)))))],
  [none, (some 0), (some 1), none, none, none, none], false⟩)
(.seq (.reg ⟨[(none, (.build [(T.v (.int .i64 0)), (T.v (.int .i64 0)), (T.v (.int .i64 0)), (T.v (.int .i64 0))] [])), (none, (.alloc 2 [(T.v (.int .i64 0)), (T.v (.int .i64 0)), (T.v (.int .i64 0)), (T.v (.int .i64 0))])), (none, (.store 4 (.r 1) (.r 0)))],
  [none, none, none, (some 1), none, none, none], false⟩)
(.seq (.seq (.reg ⟨[(none, (.faddr 0 (.x 1))), (none, (.load false 1 (.r 0)))],
  [none, none, none, none, (some 1), none, none], false⟩)
(.block 0
(.seq (.reg ⟨[(none, (.bin .eql 3 (.x 4) (.c (T.v (.int .i64 1))))), (none, (.mv (.r 0)))],
  [none, none, none, none, none, (some 1), none], false⟩)
(.cond (.x 5)
(.seq (.reg ⟨[(none, (.faddr 4 (.x 1))), (none, (.load false 1 (.r 0))), (none, (.bin .neq 3 (.r 1) (.c (T.v (.int .i64 0))))), (none, (.mv (.r 2)))],
  [none, none, (some 3), none, none, none, none], false⟩)
.ret)
(.seq (.reg ⟨[(none, (.bin .eql 3 (.x 4) (.c (T.v (.int .i64 4))))), (none, (.mv (.r 0)))],
  [none, none, none, none, none, none, (some 1)], false⟩)
(.cond (.x 6)
(.seq (.reg ⟨[(none, (.faddr 4 (.x 1))), (none, (.load false 1 (.r 0))), (none, (.bin .neq 3 (.r 1) (.c (T.v (.int .i64 0))))), (none, (.mv (.r 2))), ((some (3, false)), (.faddr 5 (.x 1))), ((some (3, false)), (.load true 4 (.r 4))), ((some (3, false)), (.load true 4 (.x 3))), ((some (3, false)), (.eqa true [.int, .int, .int, .int] (.r 5) (.r 6))), (none, (.pick (.r 3) (.c (T.v (.bool true))) (.r 7))), (none, (.mv (.r 8)))],
  [none, none, (some 9), none, none, none, none], false⟩)
.ret)
.skip))))))
(.seq (.reg ⟨[(none, (.faddr 0 (.x 1))), (none, (.load false 1 (.r 0))), (none, (.bin .eql 3 (.r 1) (.c (T.v (.int .i64 0))))), (none, (.mv (.r 2)))],
  [none, none, (some 3), none, none, none, none], false⟩)
.ret))))⟩

def c_num_Right : IFn := ⟨2, 3, 0, [(.var 2)], [.raw], false, (.seq (.reg ⟨[(none, (.mv (.c (T.v (.bool false)))))],
  [none, none, (some 0)], false⟩)
(.seq (.reg ⟨[(none, (.mv (.x 1))), (none, (.call 6 F_num_width [(.r 0)])), (none, (.mv (.r 1))), ((some (2, true)), (.mv (.x 0))), ((some (2, true)), (.bin .geq 3 (.r 3) (.c (T.v (.int .i64 0))))), (none, (.pick (.r 2) (.r 4) (.c (T.v (.bool false))))), (none, (.mv (.r 5))), ((some (6, true)), (.mv (.x 0))), ((some (6, true)), (.mv (.x 1))), ((some (6, true)), (.bin .mul 3 (.c (T.v (.int .i64 8))) (.r 8))), ((some (6, true)), (.bin .shr 3 (.r 7) (.r 9))), ((some (6, true)), (.bin .eql 3 (.r 10) (.c (T.v (.int .i64 0))))), (none, (.pick (.r 6) (.r 11) (.c (T.v (.bool false))))), (none, (.mv (.r 12)))],
  [none, none, (some 13)], false⟩)
.ret))⟩

def c_num_lay : IFn := ⟨2, 6, 0, [], [], false, (.seq (.reg ⟨[(none, (.mv (.x 0))), (none, (.len false (.r 0))), (none, (.mv (.c (T.v (.int .i64 0)))))],
  [none, none, none, (some 1), (some 2), none], false⟩)
(.block 0
(.loop (.seq (.kill [2, 5])
(.seq (.free [])
(.seq (.reg ⟨[(none, (.bin .lss 3 (.x 4) (.x 3)))],
  [none, none, none, none, none, (some 0)], false⟩)
(.seq (.cond (.x 5)
.skip
(.exit 0))
(.seq (.block 1
(.seq (.reg ⟨[(none, (.mv (.x 4))), (none, (.mv (.r 0)))],
  [none, none, (some 1), none, none, none], false⟩)
(.reg ⟨[(none, (.mv (.x 0))), (none, (.mv (.x 2))), (none, (.mv (.x 1))), (none, (.mv (.x 2))), (none, (.bin .mul 3 (.c (T.v (.int .i64 8))) (.r 3))), (none, (.bin .shr 3 (.r 2) (.r 4))), (none, (.toInt .u8 (.r 5))), (none, (.iaddrS 1 (.r 0) (.r 1))), (none, (.store 1 (.r 7) (.r 6)))],
  [none, none, none, none, none, none], false⟩)))
(.reg ⟨[(none, (.bin .add 3 (.x 4) (.c (T.v (.int .i64 1))))), (none, (.mv (.r 0)))],
  [none, none, none, none, (some 1), none], false⟩)))))))))⟩

def c_sum_Of : IFn := ⟨1, 3, 0, [(.var 1)], [.raw], false, (.seq (.reg ⟨[(none, (.mv (.c (T.v (.int .i64 0)))))],
  [none, (some 0), none], false⟩)
(.seq (.reg ⟨[(none, (.mv (.x 0))), (none, (.call 5 F_sum_Sums [(.r 0)])), (none, (.mv (.r 1)))],
  [none, none, (some 2)], false⟩)
(.seq (.reg ⟨[(none, (.mv (.x 2))), (none, (.part 0 (.r 0))), (none, (.toInt .i64 (.r 1))), (none, (.mv (.x 2))), (none, (.part 1 (.r 3))), (none, (.toInt .i64 (.r 4))), (none, (.bin .shl 3 (.r 5) (.c (T.v (.int .u64 16))))), (none, (.bin .or 3 (.r 2) (.r 6))), (none, (.mv (.r 7)))],
  [none, (some 8), none], false⟩)
.ret)))⟩

def c_name_Unpack : IFn := ⟨1, 6, 0, [(.var 1), (.var 2)], [.raw, .raw], false, (.seq (.reg ⟨[(none, (.mv (.c (T.v (.string ⟨#[]⟩))))), (none, (.mv (.c (T.v (.bool false)))))],
  [none, (some 0), (some 1), none, none, none], false⟩)
(.seq (.seq (.reg ⟨[(none, (.mv (.x 0))), (none, (.len false (.r 0))), (none, (.bin .neq 3 (.r 1) (.c (T.v (.int .i64 14))))), (none, (.mv (.r 2))), ((some (3, false)), (.mv (.x 0))), ((some (3, false)), (.iaddrS 1 (.r 4) (.c (T.v (.int .i64 0))))), ((some (3, false)), (.load false 1 (.r 5))), ((some (3, false)), (.bin .gtr 5 (.r 6) (.c (T.v (.int .u8 12))))), (none, (.pick (.r 3) (.c (T.v (.bool true))) (.r 7)))],
  [none, none, none, none, (some 8), none], false⟩)
(.cond (.x 4)
(.seq (.reg ⟨[(none, (.mv (.c (T.v (.string ⟨#[]⟩))))), (none, (.mv (.c (T.v (.bool false)))))],
  [none, (some 0), (some 1), none, none, none], false⟩)
.ret)
.skip))
(.seq (.reg ⟨[(none, (.mv (.x 0))), (none, (.mv (.x 0))), (none, (.iaddrS 1 (.r 1) (.c (T.v (.int .i64 0))))), (none, (.load false 1 (.r 2))), (none, (.bin .add 5 (.c (T.v (.int .u8 1))) (.r 3))), (none, (.sliceT 1 (.r 0) (some (.c (T.v (.int .i64 1)))) (some (.r 4)) none)), (none, (.toStr (.r 5))), (none, (.mv (.r 6)))],
  [none, none, none, (some 7), none, none], false⟩)
(.seq (.seq (.reg ⟨[(none, (.mv (.x 3))), (none, (.call 22 F_name_Right [(.r 0)])), (none, (.un .not (.r 1))), (none, (.mv (.r 2))), ((some (3, false)), (.mv (.x 3))), ((some (3, false)), (.call 26 F_name_Pack [(.r 4)])), ((some (3, false)), (.mv (.x 0))), ((some (3, false)), (.call 28 F_bytes_Equal [(.r 5), (.r 6)])), ((some (3, false)), (.un .not (.r 7))), (none, (.pick (.r 3) (.c (T.v (.bool true))) (.r 8)))],
  [none, none, none, none, none, (some 9)], false⟩)
(.cond (.x 5)
(.seq (.reg ⟨[(none, (.mv (.c (T.v (.string ⟨#[]⟩))))), (none, (.mv (.c (T.v (.bool false)))))],
  [none, (some 0), (some 1), none, none, none], false⟩)
.ret)
.skip))
(.seq (.reg ⟨[(none, (.mv (.x 3))), (none, (.mv (.r 0))), (none, (.mv (.c (T.v (.bool true)))))],
  [none, (some 1), (some 2), none, none, none], false⟩)
.ret)))))⟩

def c_entry_Put : IFn := ⟨1, 5, 1, [(.var 2), (.var 3)], [.raw, .raw], false, (.seq (.reg ⟨[(none, (.box 0 (.x 0))), (none, (.mv (.c (T.sl .nil 0 [])))), (none, (.mv (.c (T.v (.int .i64 0)))))],
  [none, (some 0), (some 1), (some 2), none], false⟩)
(.seq (.seq (.reg ⟨[(none, (.load true 3 (.x 1))), (none, (.call 5 F_entry_Right [(.r 0)])), (none, (.un .not (.r 1)))],
  [none, none, none, none, (some 2)], false⟩)
(.cond (.x 4)
(.seq (.reg ⟨[(none, (.mv (.c (T.sl .nil 0 [])))), (none, (.mv (.c (T.v (.int .i64 1)))))],
  [none, none, (some 0), (some 1), none], false⟩)
.ret)
.skip))
(.seq (.reg ⟨[(none, (.faddr 1 (.x 1))), (none, (.load false 1 (.r 0))), (none, (.call 9 F_num_Put [(.c (T.sl .nil 0 [])), (.r 1), (.c (T.v (.int .i64 2)))])), (none, (.faddr 2 (.x 1))), (none, (.load false 1 (.r 3))), (none, (.call 12 F_name_Pack [(.r 4)])), (none, (.append 13 5 1 1 [(T.v (.int .u8 0))] 0 (.r 2) (.r 5))), (none, (.mv (.r 6))), (none, (.mv (.c (T.v (.int .i64 0)))))],
  [none, none, (some 7), (some 8), none], true⟩)
.ret)))⟩

def c_slices_IndexFunc_Entry : IFn := ⟨2, 8, 0, [(.var 2)], [.raw], false, (.seq (.reg ⟨[(none, (.mv (.c (T.v (.int .i64 0)))))],
  [none, none, (some 0), none, none, none, none, none], false⟩)
(.seq (.seq (.reg ⟨[(none, (.mv (.x 0))), (none, (.len false (.r 0))), (none, (.mv (.c (T.v (.int .i64 0)))))],
  [none, none, none, none, (some 1), (some 2), none, none], false⟩)
(.block 0
(.loop (.seq (.kill [2, 3, 6, 7])
(.seq (.free [])
(.seq (.reg ⟨[(none, (.bin .lss 3 (.x 5) (.x 4)))],
  [none, none, none, none, none, none, (some 0), none], false⟩)
(.seq (.cond (.x 6)
.skip
(.exit 0))
(.seq (.block 1
(.seq (.reg ⟨[(none, (.mv (.x 5))), (none, (.mv (.r 0)))],
  [none, none, none, (some 1), none, none, none, none], false⟩)
(.seq (.reg ⟨[(none, (.mv (.x 1))), (none, (.mv (.x 0))), (none, (.mv (.x 3))), (none, (.iaddrS 3 (.r 1) (.r 2))), (none, (.load true 3 (.r 3))), (none, (.callv 16 (.r 0) [(.r 4)]))],
  [none, none, none, none, none, none, none, (some 5)], false⟩)
(.cond (.x 7)
(.seq (.reg ⟨[(none, (.mv (.x 3))), (none, (.mv (.r 0)))],
  [none, none, (some 1), none, none, none, none, none], false⟩)
.ret)
.skip))))
(.reg ⟨[(none, (.bin .add 3 (.x 5) (.c (T.v (.int .i64 1))))), (none, (.mv (.r 0)))],
  [none, none, none, none, none, (some 1), none, none], false⟩)))))))))
(.seq (.reg ⟨[(none, (.mv (.c (T.v (.int .i64 (-1))))))],
  [none, none, (some 0), none, none, none, none, none], false⟩)
.ret)))⟩

def c_slices_insertionSortOrdered_int : IFn := ⟨3, 7, 0, [], [], false, (.seq (.reg ⟨[(none, (.mv (.x 1))), (none, (.bin .add 3 (.r 0) (.c (T.v (.int .i64 1))))), (none, (.mv (.r 1)))],
  [none, none, none, (some 2), none, none, none], false⟩)
(.block 0
(.loop (.seq (.kill [4, 5, 6])
(.seq (.free [])
(.seq (.seq (.reg ⟨[(none, (.mv (.x 3))), (none, (.mv (.x 2))), (none, (.bin .lss 3 (.r 0) (.r 1)))],
  [none, none, none, none, none, (some 2), none], false⟩)
(.cond (.x 5)
.skip
(.exit 0)))
(.seq (.block 1
(.seq (.reg ⟨[(none, (.mv (.x 3))), (none, (.mv (.r 0)))],
  [none, none, none, none, (some 1), none, none], false⟩)
(.block 2
(.loop (.seq (.kill [5, 6])
(.seq (.free [])
(.seq (.seq (.reg ⟨[(none, (.mv (.x 4))), (none, (.mv (.x 1))), (none, (.bin .gtr 3 (.r 0) (.r 1))), (none, (.mv (.r 2))), ((some (3, true)), (.mv (.x 0))), ((some (3, true)), (.mv (.x 4))), ((some (3, true)), (.iaddrS 1 (.r 4) (.r 5))), ((some (3, true)), (.load false 1 (.r 6))), ((some (3, true)), (.mv (.x 0))), ((some (3, true)), (.mv (.x 4))), ((some (3, true)), (.bin .sub 3 (.r 9) (.c (T.v (.int .i64 1))))), ((some (3, true)), (.iaddrS 1 (.r 8) (.r 10))), ((some (3, true)), (.load false 1 (.r 11))), ((some (3, true)), (.call 29 F_cmp_Less_int [(.r 7), (.r 12)])), (none, (.pick (.r 3) (.r 13) (.c (T.v (.bool false)))))],
  [none, none, none, none, none, none, (some 14)], true⟩)
(.cond (.x 6)
.skip
(.exit 2)))
(.seq (.block 3
(.reg ⟨[(none, (.mv (.x 0))), (none, (.mv (.x 4))), (none, (.mv (.x 0))), (none, (.mv (.x 4))), (none, (.bin .sub 3 (.r 3) (.c (T.v (.int .i64 1))))), (none, (.mv (.x 0))), (none, (.mv (.x 4))), (none, (.bin .sub 3 (.r 6) (.c (T.v (.int .i64 1))))), (none, (.iaddrS 1 (.r 5) (.r 7))), (none, (.load false 1 (.r 8))), (none, (.mv (.x 0))), (none, (.mv (.x 4))), (none, (.iaddrS 1 (.r 10) (.r 11))), (none, (.load false 1 (.r 12))), (none, (.iaddrS 1 (.r 0) (.r 1))), (none, (.store 1 (.r 14) (.r 9))), (none, (.iaddrS 1 (.r 2) (.r 4))), (none, (.store 1 (.r 16) (.r 13)))],
  [none, none, none, none, none, none, none], true⟩))
(.reg ⟨[(none, (.mv (.x 4))), (none, (.bin .sub 3 (.r 0) (.c (T.v (.int .i64 1))))), (none, (.mv (.r 1)))],
  [none, none, none, none, (some 2), none, none], false⟩)))))))))
(.reg ⟨[(none, (.mv (.x 3))), (none, (.bin .add 3 (.r 0) (.c (T.v (.int .i64 1))))), (none, (.mv (.r 1)))],
  [none, none, none, (some 2), none, none, none], false⟩))))))))⟩

def c_math_bits_Len64 : IFn := ⟨1, 5, 0, [(.var 1)], [.raw], false, (.seq (.reg ⟨[(none, (.mv (.c (T.v (.int .i64 0)))))],
  [none, (some 0), none, none, none], false⟩)
(.seq (.seq (.reg ⟨[(none, (.mv (.x 0))), (none, (.bin .geq 188 (.r 0) (.c (T.v (.int .u64 4294967296)))))],
  [none, none, (some 1), none, none], false⟩)
(.cond (.x 2)
(.seq (.reg ⟨[(none, (.mv (.x 0))), (none, (.bin .shr 188 (.r 0) (.c (T.v (.int .u64 32))))), (none, (.mv (.r 1)))],
  [(some 2), none, none, none, none], false⟩)
(.reg ⟨[(none, (.mv (.c (T.v (.int .i64 32)))))],
  [none, (some 0), none, none, none], false⟩))
.skip))
(.seq (.seq (.reg ⟨[(none, (.mv (.x 0))), (none, (.bin .geq 188 (.r 0) (.c (T.v (.int .u64 65536)))))],
  [none, none, none, (some 1), none], false⟩)
(.cond (.x 3)
(.seq (.reg ⟨[(none, (.mv (.x 0))), (none, (.bin .shr 188 (.r 0) (.c (T.v (.int .u64 16))))), (none, (.mv (.r 1)))],
  [(some 2), none, none, none, none], false⟩)
(.reg ⟨[(none, (.mv (.x 1))), (none, (.bin .add 3 (.r 0) (.c (T.v (.int .i64 16))))), (none, (.mv (.r 1)))],
  [none, (some 2), none, none, none], false⟩))
.skip))
(.seq (.seq (.reg ⟨[(none, (.mv (.x 0))), (none, (.bin .geq 188 (.r 0) (.c (T.v (.int .u64 256)))))],
  [none, none, none, none, (some 1)], false⟩)
(.cond (.x 4)
(.seq (.reg ⟨[(none, (.mv (.x 0))), (none, (.bin .shr 188 (.r 0) (.c (T.v (.int .u64 8))))), (none, (.mv (.r 1)))],
  [(some 2), none, none, none, none], false⟩)
(.reg ⟨[(none, (.mv (.x 1))), (none, (.bin .add 3 (.r 0) (.c (T.v (.int .i64 8))))), (none, (.mv (.r 1)))],
  [none, (some 2), none, none, none], false⟩))
.skip))
(.seq (.reg ⟨[(none, (.mv (.x 1))), (none, (.mv (.x 0))), (none, (.toInt .u8 (.r 1))), (none, (.indexS (.c (T.v (.string ⟨#[0, 1, 2, 2, 3, 3, 3, 3, 4, 4, 4, 4, 4, 4, 4, 4, 5, 5, 5, 5, 5, 5, 5, 5, 5, 5, 5, 5, 5, 5, 5, 5, 6, 6, 6, 6, 6, 6, 6, 6, 6, 6, 6, 6, 6, 6, 6, 6, 6, 6, 6, 6, 6, 6, 6, 6, 6, 6, 6, 6, 6, 6, 6, 6, 7, 7, 7, 7, 7, 7, 7, 7, 7, 7, 7, 7, 7, 7, 7, 7, 7, 7, 7, 7, 7, 7, 7, 7, 7, 7, 7, 7, 7, 7, 7, 7, 7, 7, 7, 7, 7, 7, 7, 7, 7, 7, 7, 7, 7, 7, 7, 7, 7, 7, 7, 7, 7, 7, 7, 7, 7, 7, 7, 7, 7, 7, 7, 7, 8, 8, 8, 8, 8, 8, 8, 8, 8, 8, 8, 8, 8, 8, 8, 8, 8, 8, 8, 8, 8, 8, 8, 8, 8, 8, 8, 8, 8, 8, 8, 8, 8, 8, 8, 8, 8, 8, 8, 8, 8, 8, 8, 8, 8, 8, 8, 8, 8, 8, 8, 8, 8, 8, 8, 8, 8, 8, 8, 8, 8, 8, 8, 8, 8, 8, 8, 8, 8, 8, 8, 8, 8, 8, 8, 8, 8, 8, 8, 8, 8, 8, 8, 8, 8, 8, 8, 8, 8, 8, 8, 8, 8, 8, 8, 8, 8, 8, 8, 8, 8, 8, 8, 8, 8, 8, 8, 8, 8, 8, 8, 8, 8, 8, 8, 8, 8, 8, 8, 8, 8, 8, 8, 8, 8, 8, 8, 8]⟩))) (.r 2))), (none, (.toInt .i64 (.r 3))), (none, (.bin .add 3 (.r 0) (.r 4))), (none, (.mv (.r 5)))],
  [none, (some 6), none, none, none], false⟩)
.ret)))))⟩

def c_ref09_count : IFn := ⟨2, 3, 0, [(.var 2)], [.raw], false, (.seq (.reg ⟨[(none, (.mv (.c (T.v (.bool false)))))],
  [none, none, (some 0)], false⟩)
(.seq (.reg ⟨[(none, (.mv (.x 0))), (none, (.bin .geq 3 (.r 0) (.c (T.v (.int .i64 0))))), (none, (.mv (.r 1))), ((some (2, true)), (.mv (.x 0))), ((some (2, true)), (.mv (.x 1))), ((some (2, true)), (.bin .leq 3 (.r 3) (.r 4))), (none, (.pick (.r 2) (.r 5) (.c (T.v (.bool false))))), (none, (.mv (.r 6)))],
  [none, none, (some 7)], false⟩)
.ret))⟩

def c_ref09_has : IFn := ⟨2, 3, 0, [(.var 2)], [.raw], false, (.seq (.reg ⟨[(none, (.mv (.c (T.v (.bool false)))))],
  [none, none, (some 0)], false⟩)
(.seq (.reg ⟨[(none, (.mv (.x 0))), (none, (.mv (.x 1))), (none, (.bin .quo 3 (.r 0) (.r 1))), (none, (.bin .rem 3 (.r 2) (.c (T.v (.int .i64 2))))), (none, (.bin .eql 3 (.r 3) (.c (T.v (.int .i64 1))))), (none, (.mv (.r 4)))],
  [none, none, (some 5)], false⟩)
.ret))⟩

def c_ref08_Right : IFn := ⟨1, 3, 1, [(.var 2)], [.raw], false, (.seq (.reg ⟨[(none, (.box 0 (.x 0))), (none, (.mv (.c (T.v (.bool false)))))],
  [none, (some 0), (some 1)], false⟩)
(.seq (.reg ⟨[(none, (.faddr 0 (.x 1))), (none, (.load false 1 (.r 0))), (none, (.bin .geq 3 (.r 1) (.c (T.v (.int .i64 0))))), (none, (.mv (.r 2))), ((some (3, true)), (.faddr 0 (.x 1))), ((some (3, true)), (.load false 1 (.r 4))), ((some (3, true)), (.bin .lss 3 (.r 5) (.c (T.v (.int .i64 16))))), (none, (.pick (.r 3) (.r 6) (.c (T.v (.bool false))))), (none, (.mv (.r 7))), ((some (8, true)), (.faddr 1 (.x 1))), ((some (8, true)), (.load false 1 (.r 9))), ((some (8, true)), (.bin .geq 3 (.r 10) (.c (T.v (.int .i64 1))))), (none, (.pick (.r 8) (.r 11) (.c (T.v (.bool false))))), (none, (.mv (.r 12))), ((some (13, true)), (.faddr 1 (.x 1))), ((some (13, true)), (.load false 1 (.r 14))), ((some (13, true)), (.bin .leq 3 (.r 15) (.c (T.v (.int .i64 65535))))), (none, (.pick (.r 13) (.r 16) (.c (T.v (.bool false))))), (none, (.mv (.r 17))), ((some (18, true)), (.faddr 2 (.x 1))), ((some (18, true)), (.load false 1 (.r 19))), ((some (18, true)), (.call 24 F_ref03_Right [(.r 20)])), (none, (.pick (.r 18) (.r 21) (.c (T.v (.bool false))))), (none, (.mv (.r 22)))],
  [none, none, (some 23)], false⟩)
.ret))⟩

def c_ref01_Right : IFn := ⟨2, 7, 0, [(.var 2)], [.raw], false, (.seq (.reg ⟨[(none, (.mv (.c (T.v (.bool false)))))],
  [none, none, (some 0), none, none, none, none], false⟩)
(.seq (.seq (.reg ⟨[(none, (.mv (.x 1))), (none, (.call 8 F_ref01_right [(.r 0)])), (none, (.un .not (.r 1))), (none, (.mv (.r 2))), ((some (3, false)), (.mv (.x 0))), ((some (3, false)), (.bin .lss 3 (.r 4) (.c (T.v (.int .i64 0))))), (none, (.pick (.r 3) (.c (T.v (.bool true))) (.r 5)))],
  [none, none, none, none, none, (some 6), none], false⟩)
(.cond (.x 5)
(.seq (.reg ⟨[(none, (.mv (.c (T.v (.bool false)))))],
  [none, none, (some 0), none, none, none, none], false⟩)
.ret)
.skip))
(.seq (.reg ⟨[(none, (.mv (.c (T.v (.int .i64 1)))))],
  [none, none, none, (some 0), none, none, none], false⟩)
(.seq (.seq (.reg ⟨[(none, (.mv (.c (T.v (.int .i64 0)))))],
  [none, none, none, none, (some 0), none, none], false⟩)
(.block 0
(.loop (.seq (.kill [2, 5, 6])
(.seq (.free [])
(.seq (.seq (.reg ⟨[(none, (.mv (.x 4))), (none, (.mv (.x 1))), (none, (.bin .lss 3 (.r 0) (.r 1)))],
  [none, none, none, none, none, none, (some 2)], false⟩)
(.cond (.x 6)
.skip
(.exit 0)))
(.seq (.block 1
(.reg ⟨[(none, (.mv (.x 3))), (none, (.bin .mul 3 (.r 0) (.c (T.v (.int .i64 256))))), (none, (.mv (.r 1)))],
  [none, none, none, (some 2), none, none, none], false⟩))
(.reg ⟨[(none, (.mv (.x 4))), (none, (.bin .add 3 (.r 0) (.c (T.v (.int .i64 1))))), (none, (.mv (.r 1)))],
  [none, none, none, none, (some 2), none, none], false⟩))))))))
(.seq (.reg ⟨[(none, (.mv (.x 0))), (none, (.mv (.x 3))), (none, (.bin .lss 3 (.r 0) (.r 1))), (none, (.mv (.r 2)))],
  [none, none, (some 3), none, none, none, none], false⟩)
.ret)))))⟩

def c_ref02_Sums : IFn := ⟨1, 7, 0, [(.var 1), (.var 2)], [.raw, .raw], false, (.seq (.reg ⟨[(none, (.mv (.c (T.v (.int .i64 0))))), (none, (.mv (.c (T.v (.int .i64 0)))))],
  [none, (some 0), (some 1), none, none, none, none], false⟩)
(.seq (.reg ⟨[(none, (.mv (.c (T.v (.int .i64 1))))), (none, (.mv (.c (T.v (.int .i64 0)))))],
  [none, none, none, (some 0), (some 1), none, none], false⟩)
(.seq (.seq (.reg ⟨[(none, (.mv (.c (T.v (.int .i64 0)))))],
  [none, none, none, none, none, (some 0), none], false⟩)
(.block 0
(.loop (.seq (.kill [1, 2, 6])
(.seq (.free [])
(.seq (.seq (.reg ⟨[(none, (.mv (.x 5))), (none, (.mv (.x 0))), (none, (.len false (.r 1))), (none, (.bin .lss 3 (.r 0) (.r 2)))],
  [none, none, none, none, none, none, (some 3)], false⟩)
(.cond (.x 6)
.skip
(.exit 0)))
(.seq (.block 1
(.seq (.reg ⟨[(none, (.mv (.x 3))), (none, (.mv (.x 0))), (none, (.mv (.x 5))), (none, (.iaddrS 1 (.r 1) (.r 2))), (none, (.load false 1 (.r 3))), (none, (.toInt .i64 (.r 4))), (none, (.bin .add 3 (.r 0) (.r 5))), (none, (.bin .rem 3 (.r 6) (.c (T.v (.int .i64 65521))))), (none, (.mv (.r 7)))],
  [none, none, none, (some 8), none, none, none], false⟩)
(.reg ⟨[(none, (.mv (.x 4))), (none, (.mv (.x 3))), (none, (.bin .add 3 (.r 0) (.r 1))), (none, (.bin .rem 3 (.r 2) (.c (T.v (.int .i64 65521))))), (none, (.mv (.r 3)))],
  [none, none, none, none, (some 4), none, none], false⟩)))
(.reg ⟨[(none, (.mv (.x 5))), (none, (.bin .add 3 (.r 0) (.c (T.v (.int .i64 1))))), (none, (.mv (.r 1)))],
  [none, none, none, none, none, (some 2), none], false⟩))))))))
(.seq (.reg ⟨[(none, (.mv (.x 3))), (none, (.mv (.x 4))), (none, (.mv (.r 0))), (none, (.mv (.r 1)))],
  [none, (some 2), (some 3), none, none, none, none], false⟩)
.ret))))⟩

def c_ref40_node : IFn := ⟨3, 16, 3, [(.var 5)], [.raw], false, (.seq (.reg ⟨[(none, (.box 0 (.x 0))), (none, (.box 2 (.x 1))), (none, (.mv (.c (T.v (.bool false)))))],
  [none, none, none, (some 0), (some 1), (some 2), none, none, none, none, none, none, none, none, none, none], false⟩)
(.seq (.seq (.reg ⟨[(none, (.faddr 0 (.x 4))), (none, (.load false 1 (.r 0))), (none, (.bin .eql 3 (.r 1) (.c (T.v (.int .i64 0)))))],
  [none, none, none, none, none, none, none, none, none, (some 2), none, none, none, none, none, none], false⟩)
(.cond (.x 9)
(.seq (.reg ⟨[(none, (.faddr 1 (.x 4))), (none, (.load false 1 (.r 0))), (none, (.bin .eql 3 (.r 1) (.c (T.v (.int .i64 0))))), (none, (.mv (.r 2))), ((some (3, true)), (.faddr 2 (.x 4))), ((some (3, true)), (.load false 1 (.r 4))), ((some (3, true)), (.bin .eql 3 (.r 5) (.c (T.v (.int .i64 0))))), (none, (.pick (.r 3) (.r 6) (.c (T.v (.bool false))))), (none, (.mv (.r 7))), ((some (8, true)), (.faddr 3 (.x 4))), ((some (8, true)), (.load false 1 (.r 9))), ((some (8, true)), (.bin .eql 3 (.r 10) (.c (T.v (.int .i64 0))))), (none, (.pick (.r 8) (.r 11) (.c (T.v (.bool false))))), (none, (.mv (.r 12))), ((some (13, true)), (.faddr 4 (.x 4))), ((some (13, true)), (.load false 1 (.r 14))), ((some (13, true)), (.len false (.r 15))), ((some (13, true)), (.faddr 5 (.x 4))), ((some (13, true)), (.load false 1 (.r 17))), ((some (13, true)), (.len false (.r 18))), ((some (13, true)), (.bin .add 3 (.r 16) (.r 19))), ((some (13, true)), (.bin .eql 3 (.r 20) (.c (T.v (.int .i64 0))))), (none, (.pick (.r 13) (.r 21) (.c (T.v (.bool false))))), (none, (.mv (.r 22))), ((some (23, true)), (.faddr 6 (.x 4))), ((some (23, true)), (.load true 7 (.r 24))), ((some (23, true)), (.build [(T.v (.int .i64 0)), (T.v (.int .i64 0)), (T.v (.string ⟨#[]⟩)), (T.v (.int .i64 0)), (T.v (.int .i64 0)), (T.v (.int .i64 0)), (T.v (.int .i64 0))] [])), ((some (23, true)), (.eqa false [.int, .int, .str, .int, .int, .int, .int] (.r 25) (.r 26))), (none, (.pick (.r 23) (.r 27) (.c (T.v (.bool false))))), (none, (.mv (.r 28)))],
  [none, none, none, none, none, (some 29), none, none, none, none, none, none, none, none, none, none], false⟩)
.ret)
.skip))
(.seq (.seq (.reg ⟨[(none, (.faddr 0 (.x 4))), (none, (.load false 1 (.r 0))), (none, (.faddr 1 (.x 4))), (none, (.load false 1 (.r 2))), (none, (.faddr 2 (.x 4))), (none, (.load false 1 (.r 4))), (none, (.faddr 3 (.x 4))), (none, (.load false 1 (.r 6))), (none, (.build (List.replicate 10 (T.v (.int .i64 0))) [(0, (1, (.r 1))), (1, (1, (.r 3))), (2, (1, (.r 5))), (3, (1, (.r 7)))])), (none, (.call 51 F_ref07_Right [(.r 8)])), (none, (.un .not (.r 9))), (none, (.mv (.r 10))), ((some (11, false)), (.faddr 6 (.x 4))), ((some (11, false)), (.load true 7 (.r 12))), ((some (11, false)), (.call 56 F_ref09_Right [(.r 13)])), ((some (11, false)), (.un .not (.r 14))), (none, (.pick (.r 11) (.c (T.v (.bool true))) (.r 15))), (none, (.mv (.r 16))), ((some (17, false)), (.faddr 4 (.x 4))), ((some (17, false)), (.load false 1 (.r 18))), ((some (17, false)), (.len false (.r 19))), ((some (17, false)), (.bin .gtr 3 (.r 20) (.c (T.v (.int .i64 256))))), (none, (.pick (.r 17) (.c (T.v (.bool true))) (.r 21)))],
  [none, none, none, none, none, none, none, none, none, none, (some 22), none, none, none, none, none], false⟩)
(.cond (.x 10)
(.seq (.reg ⟨[(none, (.mv (.c (T.v (.bool false)))))],
  [none, none, none, none, none, (some 0), none, none, none, none, none, none, none, none, none, none], false⟩)
.ret)
.skip))
(.seq (.seq (.reg ⟨[(none, (.faddr 0 (.x 4))), (none, (.load false 1 (.r 0))), (none, (.bin .neq 3 (.r 1) (.c (T.v (.int .i64 2))))), (none, (.mv (.r 2))), ((some (3, true)), (.faddr 0 (.x 4))), ((some (3, true)), (.load false 1 (.r 4))), ((some (3, true)), (.bin .neq 3 (.r 5) (.c (T.v (.int .i64 3))))), (none, (.pick (.r 3) (.r 6) (.c (T.v (.bool false))))), (none, (.mv (.r 7))), ((some (8, true)), (.faddr 4 (.x 4))), ((some (8, true)), (.load false 1 (.r 9))), ((some (8, true)), (.len false (.r 10))), ((some (8, true)), (.bin .gtr 3 (.r 11) (.c (T.v (.int .i64 0))))), (none, (.pick (.r 8) (.r 12) (.c (T.v (.bool false))))), (none, (.mv (.r 13))), ((some (14, false)), (.faddr 0 (.x 4))), ((some (14, false)), (.load false 1 (.r 15))), ((some (14, false)), (.bin .neq 3 (.r 16) (.c (T.v (.int .i64 1))))), ((some (14, false)), (.mv (.r 17))), ((some (18, true)), (.faddr 5 (.x 4))), ((some (18, true)), (.load false 1 (.r 19))), ((some (18, true)), (.len false (.r 20))), ((some (18, true)), (.bin .gtr 3 (.r 21) (.c (T.v (.int .i64 0))))), ((some (14, false)), (.pick (.r 18) (.r 22) (.c (T.v (.bool false))))), (none, (.pick (.r 14) (.c (T.v (.bool true))) (.r 23)))],
  [none, none, none, none, none, none, none, none, none, none, none, (some 24), none, none, none, none], false⟩)
(.cond (.x 11)
(.seq (.reg ⟨[(none, (.mv (.c (T.v (.bool false)))))],
  [none, none, none, none, none, (some 0), none, none, none, none, none, none, none, none, none, none], false⟩)
.ret)
.skip))
(.seq (.seq (.reg ⟨[(none, (.mv (.c (T.v (.int .i64 0)))))],
  [none, none, none, none, none, none, (some 0), none, none, none, none, none, none, none, none, none], false⟩)
(.block 0
(.loop (.seq (.kill [0, 1, 5, 7, 8, 9, 10, 11, 12, 13, 14, 15])
(.seq (.free [4, 5])
(.seq (.seq (.reg ⟨[(none, (.mv (.x 6))), (none, (.faddr 5 (.x 4))), (none, (.load false 1 (.r 1))), (none, (.len false (.r 2))), (none, (.bin .lss 3 (.r 0) (.r 3)))],
  [none, none, none, none, none, none, none, none, none, none, none, none, (some 4), none, none, none], false⟩)
(.cond (.x 12)
.skip
(.exit 0)))
(.seq (.block 1
(.seq (.reg ⟨[(none, (.faddr 5 (.x 4))), (none, (.load false 1 (.r 0))), (none, (.mv (.x 6))), (none, (.iaddrS 3 (.r 1) (.r 2))), (none, (.load true 3 (.r 3))), (none, (.alloc 4 [(T.v (.int .i64 0)), (T.v (.int .i64 0)), (T.v (.string ⟨#[]⟩))])), (none, (.store 3 (.r 5) (.r 4)))],
  [none, none, none, none, none, none, none, (some 5), none, none, none, none, none, none, none, none], false⟩)
(.seq (.seq (.reg ⟨[(none, (.load true 3 (.x 7))), (none, (.call 103 F_ref08_Right [(.r 0)])), (none, (.un .not (.r 1))), (none, (.mv (.r 2))), ((some (3, false)), (.faddr 1 (.x 7))), ((some (3, false)), (.load false 1 (.r 4))), ((some (3, false)), (.mv (.x 2))), ((some (3, false)), (.bin .leq 3 (.r 5) (.r 6))), (none, (.pick (.r 3) (.c (T.v (.bool true))) (.r 7))), (none, (.mv (.r 8))), ((some (9, false)), (.faddr 1 (.x 7))), ((some (9, false)), (.load false 1 (.r 10))), ((some (9, false)), (.faddr 0 (.x 3))), ((some (9, false)), (.load false 1 (.r 12))), ((some (9, false)), (.len false (.r 13))), ((some (9, false)), (.bin .gtr 3 (.r 11) (.r 14))), (none, (.pick (.r 9) (.c (T.v (.bool true))) (.r 15))), (none, (.mv (.r 16))), ((some (17, false)), (.faddr 0 (.x 3))), ((some (17, false)), (.load false 1 (.r 18))), ((some (17, false)), (.faddr 1 (.x 7))), ((some (17, false)), (.load false 1 (.r 20))), ((some (17, false)), (.bin .sub 3 (.r 21) (.c (T.v (.int .i64 1))))), ((some (17, false)), (.iaddrS 13 (.r 19) (.r 22))), ((some (17, false)), (.faddr 0 (.r 23))), ((some (17, false)), (.load false 1 (.r 24))), ((some (17, false)), (.bin .eql 3 (.r 25) (.c (T.v (.int .i64 0))))), (none, (.pick (.r 17) (.c (T.v (.bool true))) (.r 26)))],
  [none, none, none, none, none, none, none, none, none, none, none, none, none, (some 27), none, none], false⟩)
(.cond (.x 13)
(.seq (.reg ⟨[(none, (.mv (.c (T.v (.bool false)))))],
  [none, none, none, none, none, (some 0), none, none, none, none, none, none, none, none, none, none], false⟩)
.ret)
.skip))
(.seq (.reg ⟨[(none, (.mv (.c (T.v (.int .i64 0)))))],
  [none, none, none, none, none, none, none, none, (some 0), none, none, none, none, none, none, none], false⟩)
(.block 2
(.loop (.seq (.kill [0, 1, 5, 9, 10, 11, 12, 13, 14, 15])
(.seq (.free [])
(.seq (.seq (.reg ⟨[(none, (.mv (.x 8))), (none, (.mv (.x 6))), (none, (.bin .lss 3 (.r 0) (.r 1)))],
  [none, none, none, none, none, none, none, none, none, none, none, none, none, none, (some 2), none], false⟩)
(.cond (.x 14)
.skip
(.exit 2)))
(.seq (.block 3
(.seq (.reg ⟨[(none, (.faddr 5 (.x 4))), (none, (.load false 1 (.r 0))), (none, (.mv (.x 8))), (none, (.iaddrS 3 (.r 1) (.r 2))), (none, (.faddr 2 (.r 3))), (none, (.load false 1 (.r 4))), (none, (.faddr 2 (.x 7))), (none, (.load false 1 (.r 6))), (none, (.bin .eql 9 (.r 5) (.r 7))), (none, (.mv (.r 8))), ((some (9, false)), (.faddr 5 (.x 4))), ((some (9, false)), (.load false 1 (.r 10))), ((some (9, false)), (.mv (.x 8))), ((some (9, false)), (.iaddrS 3 (.r 11) (.r 12))), ((some (9, false)), (.faddr 0 (.r 13))), ((some (9, false)), (.load false 1 (.r 14))), ((some (9, false)), (.faddr 0 (.x 7))), ((some (9, false)), (.load false 1 (.r 16))), ((some (9, false)), (.bin .geq 3 (.r 15) (.r 17))), (none, (.pick (.r 9) (.c (T.v (.bool true))) (.r 18)))],
  [none, none, none, none, none, none, none, none, none, none, none, none, none, none, none, (some 19)], true⟩)
(.cond (.x 15)
(.seq (.reg ⟨[(none, (.mv (.c (T.v (.bool false)))))],
  [none, none, none, none, none, (some 0), none, none, none, none, none, none, none, none, none, none], false⟩)
.ret)
.skip)))
(.reg ⟨[(none, (.mv (.x 8))), (none, (.bin .add 3 (.r 0) (.c (T.v (.int .i64 1))))), (none, (.mv (.r 1)))],
  [none, none, none, none, none, none, none, none, (some 2), none, none, none, none, none, none, none], false⟩)))))))))))
(.reg ⟨[(none, (.mv (.x 6))), (none, (.bin .add 3 (.r 0) (.c (T.v (.int .i64 1))))), (none, (.mv (.r 1)))],
  [none, none, none, none, none, none, (some 2), none, none, none, none, none, none, none, none, none], false⟩))))))))
(.seq (.reg ⟨[(none, (.mv (.c (T.v (.bool true)))))],
  [none, none, none, none, none, (some 0), none, none, none, none, none, none, none, none, none, none], false⟩)
.ret))))))⟩

def c_ref08_Block : IFn := ⟨2, 10, 0, [(.var 2)], [.raw], false, (.seq (.reg ⟨[(none, (.mv (.c (T.sl .nil 0 []))))],
  [none, none, (some 0), none, none, none, none, none, none, none], false⟩)
(.seq (.reg ⟨[(none, (.bslice 9 5 1 0 [(T.v (.int .u8 0))] [])), (none, (.mv (.r 0)))],
  [none, none, none, (some 1), none, none, none, none, none, none], false⟩)
(.seq (.seq (.reg ⟨[(none, (.mv (.c (T.v (.int .i64 0)))))],
  [none, none, none, none, (some 0), none, none, none, none, none], false⟩)
(.block 0
(.loop (.seq (.kill [2, 5, 6, 7, 8, 9])
(.seq (.free [])
(.seq (.seq (.reg ⟨[(none, (.mv (.x 4))), (none, (.bin .lss 3 (.r 0) (.c (T.v (.int .i64 4)))))],
  [none, none, none, none, none, none, none, (some 1), none, none], false⟩)
(.cond (.x 7)
.skip
(.exit 0)))
(.seq (.block 1
(.seq (.reg ⟨[(none, (.mkSlice 14 5 1 1 [(T.v (.int .u8 0))] (.c (T.v (.int .i64 16))))), (none, (.mv (.r 0)))],
  [none, none, none, none, none, (some 1), none, none, none, none], false⟩)
(.seq (.seq (.reg ⟨[(none, (.mv (.x 0))), (none, (.len false (.r 0))), (none, (.bin .sub 3 (.r 1) (.c (T.v (.int .i64 1))))), (none, (.mv (.r 2)))],
  [none, none, none, none, none, none, (some 3), none, none, none], false⟩)
(.block 2
(.loop (.seq (.kill [2, 7, 8, 9])
(.seq (.free [])
(.seq (.seq (.reg ⟨[(none, (.mv (.x 6))), (none, (.bin .geq 3 (.r 0) (.c (T.v (.int .i64 0)))))],
  [none, none, none, none, none, none, none, none, (some 1), none], false⟩)
(.cond (.x 8)
.skip
(.exit 2)))
(.seq (.block 3
(.seq (.reg ⟨[(none, (.mv (.x 1))), (none, (.bin .geq 3 (.r 0) (.c (T.v (.int .i64 0))))), (none, (.mv (.r 1))), ((some (2, true)), (.mv (.x 1))), ((some (2, true)), (.bin .leq 3 (.r 3) (.c (T.v (.int .i64 3))))), (none, (.pick (.r 2) (.r 4) (.c (T.v (.bool false))))), (none, (.mv (.r 5))), ((some (6, true)), (.mv (.x 0))), ((some (6, true)), (.mv (.x 6))), ((some (6, true)), (.iaddrS 3 (.r 7) (.r 8))), ((some (6, true)), (.load true 3 (.r 9))), ((some (6, true)), (.call 33 F_ref08_Right [(.r 10)])), (none, (.pick (.r 6) (.r 11) (.c (T.v (.bool false))))), (none, (.mv (.r 12))), ((some (13, true)), (.mv (.x 0))), ((some (13, true)), (.mv (.x 6))), ((some (13, true)), (.iaddrS 3 (.r 14) (.r 15))), ((some (13, true)), (.faddr 0 (.r 16))), ((some (13, true)), (.load false 1 (.r 17))), ((some (13, true)), (.mv (.x 1))), ((some (13, true)), (.bin .mul 3 (.c (T.v (.int .i64 4))) (.r 19))), ((some (13, true)), (.mv (.x 4))), ((some (13, true)), (.bin .add 3 (.r 20) (.r 21))), ((some (13, true)), (.bin .eql 3 (.r 18) (.r 22))), (none, (.pick (.r 13) (.r 23) (.c (T.v (.bool false)))))],
  [none, none, none, none, none, none, none, none, none, (some 24)], false⟩)
(.cond (.x 9)
(.reg ⟨[(none, (.mv (.x 0))), (none, (.mv (.x 6))), (none, (.iaddrS 3 (.r 0) (.r 1))), (none, (.load true 3 (.r 2))), (none, (.call 51 F_ref08_Bytes [(.r 3)])), (none, (.mv (.r 4)))],
  [none, none, none, none, none, (some 5), none, none, none, none], false⟩)
.skip)))
(.reg ⟨[(none, (.mv (.x 6))), (none, (.bin .sub 3 (.r 0) (.c (T.v (.int .i64 1))))), (none, (.mv (.r 1)))],
  [none, none, none, none, none, none, (some 2), none, none, none], false⟩))))))))
(.reg ⟨[(none, (.mv (.x 3))), (none, (.mv (.x 5))), (none, (.append 54 5 1 1 [(T.v (.int .u8 0))] 0 (.r 0) (.r 1))), (none, (.mv (.r 2)))],
  [none, none, none, (some 3), none, none, none, none, none, none], false⟩))))
(.reg ⟨[(none, (.mv (.x 4))), (none, (.bin .add 3 (.r 0) (.c (T.v (.int .i64 1))))), (none, (.mv (.r 1)))],
  [none, none, none, none, (some 2), none, none, none, none, none], false⟩))))))))
(.seq (.reg ⟨[(none, (.mv (.x 3))), (none, (.mv (.r 0)))],
  [none, none, (some 1), none, none, none, none, none, none, none], false⟩)
.ret))))⟩

def c_num_width : IFn := ⟨1, 2, 0, [(.var 1)], [.raw], false, (.seq (.reg ⟨[(none, (.mv (.c (T.v (.bool false)))))],
  [none, (some 0)], false⟩)
(.seq (.reg ⟨[(none, (.mv (.x 0))), (none, (.bin .eql 3 (.r 0) (.c (T.v (.int .i64 1))))), (none, (.mv (.r 1))), ((some (2, false)), (.mv (.x 0))), ((some (2, false)), (.bin .eql 3 (.r 3) (.c (T.v (.int .i64 2))))), (none, (.pick (.r 2) (.c (T.v (.bool true))) (.r 4))), (none, (.mv (.r 5))), ((some (6, false)), (.mv (.x 0))), ((some (6, false)), (.bin .eql 3 (.r 7) (.c (T.v (.int .i64 4))))), (none, (.pick (.r 6) (.c (T.v (.bool true))) (.r 8))), (none, (.mv (.r 9)))],
  [none, (some 10)], false⟩)
.ret))⟩

def c_sum_Sums : IFn := ⟨1, 9, 0, [(.var 1)], [.raw], false, (.seq (.reg ⟨[(none, (.mv (.c (T.v (.complex .f64 0 0)))))],
  [none, (some 0), none, none, none, none, none, none, none], false⟩)
(.seq (.reg ⟨[(none, (.mv (.c (T.v (.complex .f64 4607182418800017408 0)))))],
  [none, none, (some 0), none, none, none, none, none, none], false⟩)
(.seq (.seq (.reg ⟨[(none, (.mv (.x 0))), (none, (.len false (.r 0))), (none, (.mv (.c (T.v (.int .i64 0)))))],
  [none, none, none, none, none, (some 0), (some 1), (some 2), none], false⟩)
(.block 0
(.loop (.seq (.kill [0, 1, 3, 4, 8])
(.seq (.free [])
(.seq (.reg ⟨[(none, (.bin .lss 3 (.x 7) (.x 6)))],
  [none, none, none, none, none, none, none, none, (some 0)], false⟩)
(.seq (.cond (.x 8)
.skip
(.exit 0))
(.seq (.block 1
(.seq (.reg ⟨[(none, (.iaddrS 1 (.x 5) (.x 7))), (none, (.load false 1 (.r 0))), (none, (.mv (.r 1)))],
  [none, none, none, (some 2), none, none, none, none, none], false⟩)
(.seq (.reg ⟨[(none, (.mv (.x 2))), (none, (.part 0 (.r 0))), (none, (.mv (.x 3))), (none, (.toFloat .f64 (.r 2))), (none, (.bin .add 195 (.r 1) (.r 3))), (none, (.call 18 F_sum_wrap [(.r 4)])), (none, (.mv (.r 5)))],
  [none, none, none, none, (some 6), none, none, none, none], false⟩)
(.reg ⟨[(none, (.mv (.x 4))), (none, (.mv (.x 2))), (none, (.part 1 (.r 1))), (none, (.mv (.x 4))), (none, (.bin .add 195 (.r 2) (.r 3))), (none, (.call 24 F_sum_wrap [(.r 4)])), (none, (.cplx (.r 0) (.r 5))), (none, (.mv (.r 6)))],
  [none, none, (some 7), none, none, none, none, none, none], false⟩))))
(.reg ⟨[(none, (.bin .add 3 (.x 7) (.c (T.v (.int .i64 1))))), (none, (.mv (.r 0)))],
  [none, none, none, none, none, none, none, (some 1), none], false⟩)))))))))
(.seq (.reg ⟨[(none, (.mv (.x 2))), (none, (.mv (.r 0)))],
  [none, (some 1), none, none, none, none, none, none, none], false⟩)
.ret))))⟩

def c_name_Right : IFn := ⟨1, 3, 0, [(.var 1)], [.raw], false, (.seq (.reg ⟨[(none, (.mv (.c (T.v (.bool false)))))],
  [none, (some 0), none], false⟩)
(.seq (.seq (.reg ⟨[(none, (.mv (.x 0))), (none, (.len true (.r 0))), (none, (.bin .eql 3 (.r 1) (.c (T.v (.int .i64 0))))), (none, (.mv (.r 2))), ((some (3, false)), (.mv (.x 0))), ((some (3, false)), (.len true (.r 4))), ((some (3, false)), (.bin .gtr 3 (.r 5) (.c (T.v (.int .i64 12))))), (none, (.pick (.r 3) (.c (T.v (.bool true))) (.r 6))), (none, (.mv (.r 7))), ((some (8, false)), (.mv (.x 0))), ((some (8, false)), (.bin .eql 9 (.r 9) (.c (T.v (.string ⟨#[46]⟩))))), (none, (.pick (.r 8) (.c (T.v (.bool true))) (.r 10))), (none, (.mv (.r 11))), ((some (12, false)), (.mv (.x 0))), ((some (12, false)), (.bin .eql 9 (.r 13) (.c (T.v (.string ⟨#[46, 46]⟩))))), (none, (.pick (.r 12) (.c (T.v (.bool true))) (.r 14)))],
  [none, none, (some 15)], false⟩)
(.cond (.x 2)
(.seq (.reg ⟨[(none, (.mv (.c (T.v (.bool false)))))],
  [none, (some 0), none], false⟩)
.ret)
.skip))
(.seq (.reg ⟨[(none, (.mv (.x 0))), (none, (.call 20 F_strings_IndexFunc [(.r 0), (.c (T.v (.func (.func F_name_Right_1) #[] #[])))])), (none, (.bin .lss 3 (.r 1) (.c (T.v (.int .i64 0))))), (none, (.mv (.r 2)))],
  [none, (some 3), none], false⟩)
.ret)))⟩

def c_name_Pack : IFn := ⟨1, 4, 1, [(.var 1)], [.raw], false, (.seq (.reg ⟨[(none, (.mv (.c (T.sl .nil 0 []))))],
  [none, (some 0), none, none], false⟩)
(.seq (.seq (.reg ⟨[(none, (.mv (.x 0))), (none, (.call 5 F_name_Right [(.r 0)])), (none, (.un .not (.r 1)))],
  [none, none, none, (some 2)], false⟩)
(.cond (.x 3)
(.seq (.reg ⟨[(none, (.mv (.c (T.sl .nil 0 []))))],
  [none, (some 0), none, none], false⟩)
.ret)
.skip))
(.seq (.reg ⟨[(none, (.alloc 0 (List.replicate 14 (T.v (.int .u8 0)))))],
  [none, none, (some 0), none], false⟩)
(.seq (.reg ⟨[(none, (.mv (.x 0))), (none, (.len true (.r 0))), (none, (.toInt .u8 (.r 1))), (none, (.iaddrA 14 1 (.x 2) (.c (T.v (.int .i64 0))))), (none, (.store 1 (.r 3) (.r 2)))],
  [none, none, none, none], false⟩)
(.seq (.reg ⟨[(none, (.sliceA 14 1 (.x 2) (some (.c (T.v (.int .i64 1)))) none)), (none, (.mv (.x 0))), (none, (.copy 1 (.r 0) (.r 1)))],
  [none, none, none, none], false⟩)
(.seq (.reg ⟨[(none, (.sliceA 14 1 (.x 2) none none)), (none, (.mv (.r 0)))],
  [none, (some 1), none, none], false⟩)
.ret))))))⟩

def c_entry_Right : IFn := ⟨1, 3, 1, [(.var 2)], [.raw], false, (.seq (.reg ⟨[(none, (.box 0 (.x 0))), (none, (.mv (.c (T.v (.bool false)))))],
  [none, (some 0), (some 1)], false⟩)
(.seq (.reg ⟨[(none, (.faddr 0 (.x 1))), (none, (.load false 1 (.r 0))), (none, (.bin .geq 3 (.r 1) (.c (T.v (.int .i64 0))))), (none, (.mv (.r 2))), ((some (3, true)), (.faddr 0 (.x 1))), ((some (3, true)), (.load false 1 (.r 4))), ((some (3, true)), (.bin .lss 3 (.r 5) (.c (T.v (.int .i64 16))))), (none, (.pick (.r 3) (.r 6) (.c (T.v (.bool false))))), (none, (.mv (.r 7))), ((some (8, true)), (.faddr 1 (.x 1))), ((some (8, true)), (.load false 1 (.r 9))), ((some (8, true)), (.bin .gtr 3 (.r 10) (.c (T.v (.int .i64 0))))), (none, (.pick (.r 8) (.r 11) (.c (T.v (.bool false))))), (none, (.mv (.r 12))), ((some (13, true)), (.faddr 1 (.x 1))), ((some (13, true)), (.load false 1 (.r 14))), ((some (13, true)), (.bin .leq 3 (.r 15) (.c (T.v (.int .i64 65535))))), (none, (.pick (.r 13) (.r 16) (.c (T.v (.bool false))))), (none, (.mv (.r 17))), ((some (18, true)), (.faddr 2 (.x 1))), ((some (18, true)), (.load false 1 (.r 19))), ((some (18, true)), (.call 24 F_name_Right [(.r 20)])), (none, (.pick (.r 18) (.r 21) (.c (T.v (.bool false))))), (none, (.mv (.r 22)))],
  [none, none, (some 23)], false⟩)
.ret))⟩

def c_ref03_Pack : IFn := ⟨1, 7, 0, [(.var 1)], [.raw], false, (.seq (.reg ⟨[(none, (.mv (.c (T.sl .nil 0 []))))],
  [none, (some 0), none, none, none, none, none], false⟩)
(.seq (.seq (.reg ⟨[(none, (.mv (.x 0))), (none, (.call 6 F_ref03_Right [(.r 0)])), (none, (.un .not (.r 1)))],
  [none, none, none, none, (some 2), none, none], false⟩)
(.cond (.x 4)
(.seq (.reg ⟨[(none, (.mv (.c (T.sl .nil 0 []))))],
  [none, (some 0), none, none, none, none, none], false⟩)
.ret)
.skip))
(.seq (.reg ⟨[(none, (.mv (.x 0))), (none, (.len true (.r 0))), (none, (.toInt .u8 (.r 1))), (none, (.bslice 11 5 1 1 [(T.v (.int .u8 0))] [(0, (1, (.r 2)))])), (none, (.mv (.r 3)))],
  [none, none, (some 4), none, none, none, none], false⟩)
(.seq (.seq (.reg ⟨[(none, (.mv (.c (T.v (.int .i64 0)))))],
  [none, none, none, (some 0), none, none, none], false⟩)
(.block 0
(.loop (.seq (.kill [1, 4, 5, 6])
(.seq (.free [])
(.seq (.seq (.reg ⟨[(none, (.mv (.x 3))), (none, (.bin .lss 3 (.r 0) (.c (T.v (.int .i64 13)))))],
  [none, none, none, none, none, (some 1), none], false⟩)
(.cond (.x 5)
.skip
(.exit 0)))
(.seq (.block 1
(.seq (.reg ⟨[(none, (.mv (.x 3))), (none, (.mv (.x 0))), (none, (.len true (.r 1))), (none, (.bin .lss 3 (.r 0) (.r 2)))],
  [none, none, none, none, none, none, (some 3)], false⟩)
(.cond (.x 6)
(.reg ⟨[(none, (.mv (.x 2))), (none, (.mv (.x 0))), (none, (.mv (.x 3))), (none, (.indexS (.r 1) (.r 2))), (none, (.bslice 24 5 1 1 [(T.v (.int .u8 0))] [(0, (1, (.r 3)))])), (none, (.append 25 5 1 1 [(T.v (.int .u8 0))] 0 (.r 0) (.r 4))), (none, (.mv (.r 5)))],
  [none, none, (some 6), none, none, none, none], false⟩)
(.reg ⟨[(none, (.mv (.x 2))), (none, (.bslice 27 5 1 1 [(T.v (.int .u8 0))] [(0, (1, (.c (T.v (.int .u8 0)))))])), (none, (.append 28 5 1 1 [(T.v (.int .u8 0))] 0 (.r 0) (.r 1))), (none, (.mv (.r 2)))],
  [none, none, (some 3), none, none, none, none], false⟩))))
(.reg ⟨[(none, (.mv (.x 3))), (none, (.bin .add 3 (.r 0) (.c (T.v (.int .i64 1))))), (none, (.mv (.r 1)))],
  [none, none, none, (some 2), none, none, none], false⟩))))))))
(.seq (.reg ⟨[(none, (.mv (.x 2))), (none, (.mv (.r 0)))],
  [none, (some 1), none, none, none, none, none], false⟩)
.ret)))))⟩

def c_ref03_Right : IFn := ⟨1, 6, 0, [(.var 1)], [.raw], false, (.seq (.reg ⟨[(none, (.mv (.c (T.v (.bool false)))))],
  [none, (some 0), none, none, none, none], false⟩)
(.seq (.seq (.reg ⟨[(none, (.mv (.x 0))), (none, (.len true (.r 0))), (none, (.bin .lss 3 (.r 1) (.c (T.v (.int .i64 1))))), (none, (.mv (.r 2))), ((some (3, false)), (.mv (.x 0))), ((some (3, false)), (.len true (.r 4))), ((some (3, false)), (.bin .gtr 3 (.r 5) (.c (T.v (.int .i64 12))))), (none, (.pick (.r 3) (.c (T.v (.bool true))) (.r 6))), (none, (.mv (.r 7))), ((some (8, false)), (.mv (.x 0))), ((some (8, false)), (.bin .eql 9 (.r 9) (.c (T.v (.string ⟨#[46]⟩))))), (none, (.pick (.r 8) (.c (T.v (.bool true))) (.r 10))), (none, (.mv (.r 11))), ((some (12, false)), (.mv (.x 0))), ((some (12, false)), (.bin .eql 9 (.r 13) (.c (T.v (.string ⟨#[46, 46]⟩))))), (none, (.pick (.r 12) (.c (T.v (.bool true))) (.r 14)))],
  [none, none, none, (some 15), none, none], false⟩)
(.cond (.x 3)
(.seq (.reg ⟨[(none, (.mv (.c (T.v (.bool false)))))],
  [none, (some 0), none, none, none, none], false⟩)
.ret)
.skip))
(.seq (.seq (.reg ⟨[(none, (.mv (.c (T.v (.int .i64 0)))))],
  [none, none, (some 0), none, none, none], false⟩)
(.block 0
(.loop (.seq (.kill [1, 3, 4, 5])
(.seq (.free [])
(.seq (.seq (.reg ⟨[(none, (.mv (.x 2))), (none, (.mv (.x 0))), (none, (.len true (.r 1))), (none, (.bin .lss 3 (.r 0) (.r 2)))],
  [none, none, none, none, (some 3), none], false⟩)
(.cond (.x 4)
.skip
(.exit 0)))
(.seq (.block 1
(.seq (.reg ⟨[(none, (.mv (.x 0))), (none, (.mv (.x 2))), (none, (.indexS (.r 0) (.r 1))), (none, (.call 29 F_ref03_letter [(.r 2)])), (none, (.un .not (.r 3)))],
  [none, none, none, none, none, (some 4)], false⟩)
(.cond (.x 5)
(.seq (.reg ⟨[(none, (.mv (.c (T.v (.bool false)))))],
  [none, (some 0), none, none, none, none], false⟩)
.ret)
.skip)))
(.reg ⟨[(none, (.mv (.x 2))), (none, (.bin .add 3 (.r 0) (.c (T.v (.int .i64 1))))), (none, (.mv (.r 1)))],
  [none, none, (some 2), none, none, none], false⟩))))))))
(.seq (.reg ⟨[(none, (.mv (.c (T.v (.bool true)))))],
  [none, (some 0), none, none, none, none], false⟩)
.ret))))⟩

def c_ref08_Bytes : IFn := ⟨1, 3, 1, [(.var 2)], [.raw], false, (.seq (.reg ⟨[(none, (.box 0 (.x 0))), (none, (.mv (.c (T.sl .nil 0 []))))],
  [none, (some 0), (some 1)], false⟩)
(.seq (.reg ⟨[(none, (.faddr 1 (.x 1))), (none, (.load false 1 (.r 0))), (none, (.call 5 F_ref01_Bytes [(.r 1), (.c (T.v (.int .i64 2)))])), (none, (.faddr 2 (.x 1))), (none, (.load false 1 (.r 3))), (none, (.call 8 F_ref03_Pack [(.r 4)])), (none, (.append 9 5 1 1 [(T.v (.int .u8 0))] 0 (.r 2) (.r 5))), (none, (.mv (.r 6)))],
  [none, none, (some 7)], true⟩)
.ret))⟩

def c_sum_wrap : IFn := ⟨1, 3, 0, [(.var 1)], [.raw], false, (.seq (.reg ⟨[(none, (.mv (.c (T.v (.float .f64 0)))))],
  [none, (some 0), none], false⟩)
(.seq (.seq (.reg ⟨[(none, (.mv (.x 0))), (none, (.bin .geq 195 (.r 0) (.c (T.v (.float .f64 4679237951253643264)))))],
  [none, none, (some 1)], false⟩)
(.cond (.x 2)
(.seq (.reg ⟨[(none, (.mv (.x 0))), (none, (.bin .sub 195 (.r 0) (.c (T.v (.float .f64 4679237951253643264))))), (none, (.mv (.r 1)))],
  [none, (some 2), none], false⟩)
.ret)
.skip))
(.seq (.reg ⟨[(none, (.mv (.x 0))), (none, (.mv (.r 0)))],
  [none, (some 1), none], false⟩)
.ret)))⟩

def c_strings_IndexFunc : IFn := ⟨2, 3, 0, [(.var 2)], [.raw], false, (.seq (.reg ⟨[(none, (.mv (.c (T.v (.int .i64 0)))))],
  [none, none, (some 0)], false⟩)
(.seq (.reg ⟨[(none, (.mv (.x 0))), (none, (.mv (.x 1))), (none, (.call 7 F_strings_indexFunc [(.r 0), (.r 1), (.c (T.v (.bool true)))])), (none, (.mv (.r 2)))],
  [none, none, (some 3)], false⟩)
.ret))⟩

def c_name_Right_1 : IFn := ⟨1, 2, 0, [(.var 1)], [.raw], false, (.seq (.reg ⟨[(none, (.mv (.c (T.v (.bool false)))))],
  [none, (some 0)], false⟩)
(.seq (.reg ⟨[(none, (.mv (.x 0))), (none, (.call 4 F_name_letter [(.r 0)])), (none, (.un .not (.r 1))), (none, (.mv (.r 2)))],
  [none, (some 3)], false⟩)
.ret))⟩

def c_name_letter : IFn := ⟨1, 3, 0, [(.var 1)], [.raw], false, (.seq (.reg ⟨[(none, (.mv (.c (T.v (.bool false)))))],
  [none, (some 0), none], false⟩)
(.seq (.block 0
(.seq (.seq (.reg ⟨[(none, (.mv (.x 0))), (none, (.bin .geq 21 (.r 0) (.c (T.v (.int .i32 97))))), (none, (.mv (.r 1))), ((some (2, true)), (.mv (.x 0))), ((some (2, true)), (.bin .leq 21 (.r 3) (.c (T.v (.int .i32 122))))), (none, (.pick (.r 2) (.r 4) (.c (T.v (.bool false))))), (none, (.mv (.r 5)))],
  [none, none, (some 6)], false⟩)
(.cond (.x 2)
.skip
(.reg ⟨[(none, (.mv (.x 0))), (none, (.bin .geq 21 (.r 0) (.c (T.v (.int .i32 48))))), (none, (.mv (.r 1))), ((some (2, true)), (.mv (.x 0))), ((some (2, true)), (.bin .leq 21 (.r 3) (.c (T.v (.int .i32 57))))), (none, (.pick (.r 2) (.r 4) (.c (T.v (.bool false))))), (none, (.mv (.r 5)))],
  [none, none, (some 6)], false⟩)))
(.cond (.x 2)
(.seq (.reg ⟨[(none, (.mv (.c (T.v (.bool true)))))],
  [none, (some 0), none], false⟩)
.ret)
.skip)))
(.seq (.reg ⟨[(none, (.mv (.x 0))), (none, (.bin .eql 21 (.r 0) (.c (T.v (.int .i32 46))))), (none, (.mv (.r 1))), ((some (2, false)), (.mv (.x 0))), ((some (2, false)), (.bin .eql 21 (.r 3) (.c (T.v (.int .i32 95))))), (none, (.pick (.r 2) (.c (T.v (.bool true))) (.r 4))), (none, (.mv (.r 5))), ((some (6, false)), (.mv (.x 0))), ((some (6, false)), (.bin .eql 21 (.r 7) (.c (T.v (.int .i32 45))))), (none, (.pick (.r 6) (.c (T.v (.bool true))) (.r 8))), (none, (.mv (.r 9)))],
  [none, (some 10), none], false⟩)
.ret)))⟩

def c_ref03_letter : IFn := ⟨1, 2, 0, [(.var 1)], [.raw], false, (.seq (.reg ⟨[(none, (.mv (.c (T.v (.bool false)))))],
  [none, (some 0)], false⟩)
(.seq (.reg ⟨[(none, (.mv (.x 0))), (none, (.bin .geq 5 (.r 0) (.c (T.v (.int .u8 97))))), (none, (.mv (.r 1))), ((some (2, true)), (.mv (.x 0))), ((some (2, true)), (.bin .leq 5 (.r 3) (.c (T.v (.int .u8 122))))), (none, (.pick (.r 2) (.r 4) (.c (T.v (.bool false))))), (none, (.mv (.r 5))), ((some (6, false)), (.mv (.x 0))), ((some (6, false)), (.bin .geq 5 (.r 7) (.c (T.v (.int .u8 48))))), ((some (6, false)), (.mv (.r 8))), ((some (9, true)), (.mv (.x 0))), ((some (9, true)), (.bin .leq 5 (.r 10) (.c (T.v (.int .u8 57))))), ((some (6, false)), (.pick (.r 9) (.r 11) (.c (T.v (.bool false))))), (none, (.pick (.r 6) (.c (T.v (.bool true))) (.r 12))), (none, (.mv (.r 13))), ((some (14, false)), (.mv (.x 0))), ((some (14, false)), (.bin .eql 5 (.r 15) (.c (T.v (.int .u8 46))))), (none, (.pick (.r 14) (.c (T.v (.bool true))) (.r 16))), (none, (.mv (.r 17))), ((some (18, false)), (.mv (.x 0))), ((some (18, false)), (.bin .eql 5 (.r 19) (.c (T.v (.int .u8 95))))), (none, (.pick (.r 18) (.c (T.v (.bool true))) (.r 20))), (none, (.mv (.r 21))), ((some (22, false)), (.mv (.x 0))), ((some (22, false)), (.bin .eql 5 (.r 23) (.c (T.v (.int .u8 45))))), (none, (.pick (.r 22) (.c (T.v (.bool true))) (.r 24))), (none, (.mv (.r 25)))],
  [none, (some 26)], false⟩)
.ret))⟩

/-- The functions in the small code. -/
def code : FuncId → Option IFn
  | 4 => some c_law12_BranchCuts
  | 7 => some c_law12_awake
  | 8 => some c_branch_Inodes
  | 12 => some c_bytes_Equal
  | 13 => some c_branch_Data
  | 15 => some c_branch_Decode
  | 17 => some c_ref12_Same
  | 19 => some c_slices_EqualFunc_Lbyte
  | 20 => some c_branch_Cut
  | 21 => some c_ref12_Cut
  | 26 => some c_plain_Base
  | 27 => some c_plain_Bytes
  | 28 => some c_branch_region_right
  | 29 => some c_inode_Get
  | 32 => some c_branch_region_data
  | 35 => some c_claim_Bad
  | 36 => some c_branch_region_attrs
  | 37 => some c_branch_region_entries
  | 38 => some c_slices_Concat_Finding
  | 42 => some c_ref12_SameNode
  | 43 => some c_geo_Bitmap
  | 44 => some c_geo_Total
  | 45 => some c_slices_Chunk_byte
  | 46 => some c_slices_Clone_byte
  | 47 => some c_ref06_Start
  | 48 => some c_ref06_Total
  | 49 => some c_ref06_Layer
  | 50 => some c_ref06_Check
  | 51 => some c_ref01_Same
  | 52 => some c_ref06_Bytes
  | 54 => some c_plain_dir
  | 55 => some c_ref40_Image
  | 56 => some c_geo_Check
  | 57 => some c_inode_read
  | 58 => some c_inode_Put
  | 60 => some c_ref07_Right
  | 61 => some c_ref07_Bytes
  | 62 => some c_branch_region_block
  | 64 => some c_claim_owners
  | 65 => some c_claim_pointers
  | 67 => some c_entry_Parse
  | 68 => some c_branch_region_good
  | 69 => some c_slices_Sort_int
  | 70 => some c_slices_Grow_Finding
  | 74 => some c_ref08_Same
  | 75 => some c_geo_layout_start
  | 76 => some c_geo_layout_log
  | 78 => some c_ref02_Seal
  | 79 => some c_ref40_Right
  | 80 => some c_ref40_sectors
  | 81 => some c_ref27_Empty
  | 82 => some c_geo_within
  | 83 => some c_inode_numbers
  | 84 => some c_num_Get
  | 85 => some c_inode_Right
  | 86 => some c_num_Put
  | 87 => some c_sum_Seal
  | 88 => some c_ref01_right
  | 89 => some c_ref07_count
  | 90 => some c_ref01_Bytes
  | 91 => some c_claim_Valid
  | 92 => some c_slices_Clone_int
  | 93 => some c_claim_pointers_1
  | 95 => some c_entry_Get
  | 96 => some c_slices_ContainsFunc_Entry
  | 98 => some c_slices_pdqsortOrdered_int
  | 99 => some c_math_bits_Len
  | 100 => some c_ref09_Right
  | 104 => some c_geo_layout_layer
  | 105 => some c_ref01_Put
  | 106 => some c_ref02_Of
  | 107 => some c_ref40_layer
  | 108 => some c_ref40_takes
  | 109 => some c_ref40_block
  | 110 => some c_ref10_Put
  | 111 => some c_num_there
  | 112 => some c_inode_odd
  | 113 => some c_num_Right
  | 114 => some c_num_lay
  | 115 => some c_sum_Of
  | 117 => some c_name_Unpack
  | 118 => some c_entry_Put
  | 119 => some c_slices_IndexFunc_Entry
  | 120 => some c_slices_insertionSortOrdered_int
  | 130 => some c_math_bits_Len64
  | 131 => some c_ref09_count
  | 132 => some c_ref09_has
  | 134 => some c_ref08_Right
  | 135 => some c_ref01_Right
  | 136 => some c_ref02_Sums
  | 137 => some c_ref40_node
  | 138 => some c_ref08_Block
  | 139 => some c_num_width
  | 140 => some c_sum_Sums
  | 143 => some c_name_Right
  | 144 => some c_name_Pack
  | 145 => some c_entry_Right
  | 152 => some c_ref03_Pack
  | 153 => some c_ref03_Right
  | 154 => some c_ref08_Bytes
  | 155 => some c_sum_wrap
  | 156 => some c_strings_IndexFunc
  | 157 => some c_name_Right_1
  | 158 => some c_name_letter
  | 160 => some c_ref03_letter
  | _ => none

end Go.Vi.Zz
end
