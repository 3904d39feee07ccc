/- A part of the road: what it proves stands in its last texts. -/
import Derived.Test.YtpfaelacdnmeaaaSCfg
import Derived.Test.YtpfaelacdnmeaaaProg
set_option autoImplicit false
set_option maxRecDepth 100000
set_option linter.unusedVariables false
namespace Go.AI
open Go.Proofs

abbrev t_int : TypeId := 3
abbrev t_uint8 : TypeId := 5
abbrev t_string : TypeId := 9
abbrev i_main_main : FuncId := 0
abbrev i_gosem_cut : FuncId := 1
abbrev i_gosem_cut_init : FuncId := 2
abbrev i_laws_FnTreesByAddresses : FuncId := 3
abbrev i_laws_big : FuncId := 4
abbrev i_spec_DrawAddressesOf : FuncId := 5
abbrev i_impl_AddressesOf : FuncId := 6
abbrev i_spec_AddressesOf : FuncId := 7
abbrev i_impl_DepthsOf : FuncId := 8
abbrev i_spec_DepthsOf : FuncId := 9
abbrev i_impl_ExposedOf : FuncId := 10
abbrev i_spec_ExposedOf : FuncId := 11
abbrev i_impl_CaretsOf : FuncId := 12
abbrev i_spec_CaretsOf : FuncId := 13
abbrev i_impl_MirrorTree : FuncId := 14
abbrev i_spec_MirrorTree : FuncId := 15
abbrev i_laws_fTexts : FuncId := 16
abbrev i_laws_fSame : FuncId := 17
abbrev i_impl_IsTree : FuncId := 18
abbrev i_impl_TreeWith : FuncId := 19
abbrev i_impl_DropExposed : FuncId := 20
abbrev i_impl_GraftAt : FuncId := 21
abbrev i_spec_DrawTreeWith : FuncId := 22
abbrev i_spec_TreeWith : FuncId := 23
abbrev i_spec_DrawDropExposed : FuncId := 24
abbrev i_spec_DropExposed : FuncId := 25
abbrev i_spec_DrawIsTree : FuncId := 26
abbrev i_impl_parse : FuncId := 27
abbrev i_impl_node_addresses : FuncId := 28
abbrev i_spec_trIs : FuncId := 29
abbrev i_spec_trAddresses : FuncId := 30
abbrev i_impl_node_exposed : FuncId := 31
abbrev i_spec_trExposed : FuncId := 32
abbrev i_impl_node_carets : FuncId := 33
abbrev i_spec_trCarets : FuncId := 34
abbrev i_impl_node_mirror : FuncId := 35
abbrev i_impl_node_text : FuncId := 36
abbrev i_spec_trMirror : FuncId := 37
abbrev i_impl_treeWith : FuncId := 38
abbrev i_slices_Contains : FuncId := 39
abbrev i_impl_node_without : FuncId := 40
abbrev i_impl_hasLeaf : FuncId := 41
abbrev i_impl_told : FuncId := 42
abbrev i_impl_node_graft : FuncId := 43
abbrev i_spec_l1Cur_sureTree : FuncId := 44
abbrev i_spec_l1Cur_pick : FuncId := 45
abbrev i_spec_l1Cur_of : FuncId := 46
abbrev i_spec_trWith : FuncId := 47
abbrev i_spec_l1Cur_tree : FuncId := 48
abbrev i_spec_l1Cur_one : FuncId := 49
abbrev i_spec_l1Has : FuncId := 50
abbrev i_spec_trDrop : FuncId := 51
abbrev i_impl_read : FuncId := 52
abbrev i_spec_trEnd : FuncId := 53
abbrev i_spec_trLeaf : FuncId := 54
abbrev i_spec_trSides : FuncId := 55
abbrev i_impl_node_leaves : FuncId := 56
abbrev i_spec_trOf : FuncId := 57
abbrev i_impl_node_put : FuncId := 58
abbrev i_slices_Equal : FuncId := 59
abbrev i_slices_Index : FuncId := 60
abbrev i_impl_node_grown : FuncId := 61
abbrev i_impl_node_graft_k1 : FuncId := 62
abbrev i_spec_trGraft : FuncId := 63
abbrev i_spec_l1Cur_next : FuncId := 64
abbrev i_spec_l1Cur_spoilt : FuncId := 65
abbrev i_runtime_boundsError_Error : FuncId := 66
abbrev i_runtime_boundsError_RuntimeError : FuncId := 67
abbrev i_runtime_errorString_Error : FuncId := 68
abbrev i_runtime_errorString_RuntimeError : FuncId := 69
abbrev i_runtime_plainError_Error : FuncId := 70
abbrev i_runtime_plainError_RuntimeError : FuncId := 71
abbrev i_runtime_errorAddressString_Error : FuncId := 72
abbrev i_runtime_errorAddressString_RuntimeError : FuncId := 73
abbrev i_runtime_TypeAssertionError_Error : FuncId := 74
abbrev i_runtime_TypeAssertionError_RuntimeError : FuncId := 75
abbrev i_runtime_PanicNilError_Error : FuncId := 76
abbrev i_runtime_PanicNilError_RuntimeError : FuncId := 77
abbrev i_internal_abi_Type_Align : FuncId := 78
abbrev i_internal_runtime_maps_unhashableTypeError_Error : FuncId := 79
abbrev i_internal_runtime_maps_unhashableTypeError_RuntimeError : FuncId := 80
abbrev i_spec_l1Cur_line10 : FuncId := 81
abbrev i_internal_abi_Kind_String : FuncId := 82
noncomputable abbrev P_gosem_cut_init : Func := Try.f2
theorem get_gosem_cut_init : cfg.P.funcs[i_gosem_cut_init]? = some P_gosem_cut_init := by kernel_rfl
noncomputable abbrev P_laws_FnTreesByAddresses : Func := Try.f3
theorem get_laws_FnTreesByAddresses : cfg.P.funcs[i_laws_FnTreesByAddresses]? = some P_laws_FnTreesByAddresses := by kernel_rfl
noncomputable abbrev P_laws_big : Func := Try.f4
theorem get_laws_big : cfg.P.funcs[i_laws_big]? = some P_laws_big := by kernel_rfl
noncomputable abbrev P_spec_DrawAddressesOf : Func := Try.f5
theorem get_spec_DrawAddressesOf : cfg.P.funcs[i_spec_DrawAddressesOf]? = some P_spec_DrawAddressesOf := by kernel_rfl
noncomputable abbrev P_impl_AddressesOf : Func := Try.f6
theorem get_impl_AddressesOf : cfg.P.funcs[i_impl_AddressesOf]? = some P_impl_AddressesOf := by kernel_rfl
noncomputable abbrev P_spec_AddressesOf : Func := Try.f7
theorem get_spec_AddressesOf : cfg.P.funcs[i_spec_AddressesOf]? = some P_spec_AddressesOf := by kernel_rfl
noncomputable abbrev P_impl_DepthsOf : Func := Try.f8
theorem get_impl_DepthsOf : cfg.P.funcs[i_impl_DepthsOf]? = some P_impl_DepthsOf := by kernel_rfl
noncomputable abbrev P_spec_DepthsOf : Func := Try.f9
theorem get_spec_DepthsOf : cfg.P.funcs[i_spec_DepthsOf]? = some P_spec_DepthsOf := by kernel_rfl
noncomputable abbrev P_impl_ExposedOf : Func := Try.f10
theorem get_impl_ExposedOf : cfg.P.funcs[i_impl_ExposedOf]? = some P_impl_ExposedOf := by kernel_rfl
noncomputable abbrev P_spec_ExposedOf : Func := Try.f11
theorem get_spec_ExposedOf : cfg.P.funcs[i_spec_ExposedOf]? = some P_spec_ExposedOf := by kernel_rfl
noncomputable abbrev P_impl_CaretsOf : Func := Try.f12
theorem get_impl_CaretsOf : cfg.P.funcs[i_impl_CaretsOf]? = some P_impl_CaretsOf := by kernel_rfl
noncomputable abbrev P_spec_CaretsOf : Func := Try.f13
theorem get_spec_CaretsOf : cfg.P.funcs[i_spec_CaretsOf]? = some P_spec_CaretsOf := by kernel_rfl
noncomputable abbrev P_impl_MirrorTree : Func := Try.f14
theorem get_impl_MirrorTree : cfg.P.funcs[i_impl_MirrorTree]? = some P_impl_MirrorTree := by kernel_rfl
noncomputable abbrev P_spec_MirrorTree : Func := Try.f15
theorem get_spec_MirrorTree : cfg.P.funcs[i_spec_MirrorTree]? = some P_spec_MirrorTree := by kernel_rfl
noncomputable abbrev P_laws_fTexts : Func := Try.f16
theorem get_laws_fTexts : cfg.P.funcs[i_laws_fTexts]? = some P_laws_fTexts := by kernel_rfl
noncomputable abbrev P_laws_fSame : Func := Try.f17
theorem get_laws_fSame : cfg.P.funcs[i_laws_fSame]? = some P_laws_fSame := by kernel_rfl
noncomputable abbrev P_impl_IsTree : Func := Try.f18
theorem get_impl_IsTree : cfg.P.funcs[i_impl_IsTree]? = some P_impl_IsTree := by kernel_rfl
noncomputable abbrev P_impl_TreeWith : Func := Try.f19
theorem get_impl_TreeWith : cfg.P.funcs[i_impl_TreeWith]? = some P_impl_TreeWith := by kernel_rfl
noncomputable abbrev P_impl_DropExposed : Func := Try.f20
theorem get_impl_DropExposed : cfg.P.funcs[i_impl_DropExposed]? = some P_impl_DropExposed := by kernel_rfl
noncomputable abbrev P_impl_GraftAt : Func := Try.f21
theorem get_impl_GraftAt : cfg.P.funcs[i_impl_GraftAt]? = some P_impl_GraftAt := by kernel_rfl
noncomputable abbrev P_spec_DrawTreeWith : Func := Try.f22
theorem get_spec_DrawTreeWith : cfg.P.funcs[i_spec_DrawTreeWith]? = some P_spec_DrawTreeWith := by kernel_rfl
noncomputable abbrev P_spec_TreeWith : Func := Try.f23
theorem get_spec_TreeWith : cfg.P.funcs[i_spec_TreeWith]? = some P_spec_TreeWith := by kernel_rfl
noncomputable abbrev P_spec_DrawDropExposed : Func := Try.f24
theorem get_spec_DrawDropExposed : cfg.P.funcs[i_spec_DrawDropExposed]? = some P_spec_DrawDropExposed := by kernel_rfl
noncomputable abbrev P_spec_DropExposed : Func := Try.f25
theorem get_spec_DropExposed : cfg.P.funcs[i_spec_DropExposed]? = some P_spec_DropExposed := by kernel_rfl
noncomputable abbrev P_spec_DrawIsTree : Func := Try.f26
theorem get_spec_DrawIsTree : cfg.P.funcs[i_spec_DrawIsTree]? = some P_spec_DrawIsTree := by kernel_rfl
noncomputable abbrev P_impl_parse : Func := Try.f27
theorem get_impl_parse : cfg.P.funcs[i_impl_parse]? = some P_impl_parse := by kernel_rfl
noncomputable abbrev P_impl_node_addresses : Func := Try.f28
theorem get_impl_node_addresses : cfg.P.funcs[i_impl_node_addresses]? = some P_impl_node_addresses := by kernel_rfl
noncomputable abbrev P_spec_trIs : Func := Try.f29
theorem get_spec_trIs : cfg.P.funcs[i_spec_trIs]? = some P_spec_trIs := by kernel_rfl
noncomputable abbrev P_spec_trAddresses : Func := Try.f30
theorem get_spec_trAddresses : cfg.P.funcs[i_spec_trAddresses]? = some P_spec_trAddresses := by kernel_rfl
noncomputable abbrev P_impl_node_exposed : Func := Try.f31
theorem get_impl_node_exposed : cfg.P.funcs[i_impl_node_exposed]? = some P_impl_node_exposed := by kernel_rfl
noncomputable abbrev P_spec_trExposed : Func := Try.f32
theorem get_spec_trExposed : cfg.P.funcs[i_spec_trExposed]? = some P_spec_trExposed := by kernel_rfl
noncomputable abbrev P_impl_node_carets : Func := Try.f33
theorem get_impl_node_carets : cfg.P.funcs[i_impl_node_carets]? = some P_impl_node_carets := by kernel_rfl
noncomputable abbrev P_spec_trCarets : Func := Try.f34
theorem get_spec_trCarets : cfg.P.funcs[i_spec_trCarets]? = some P_spec_trCarets := by kernel_rfl
noncomputable abbrev P_impl_node_mirror : Func := Try.f35
theorem get_impl_node_mirror : cfg.P.funcs[i_impl_node_mirror]? = some P_impl_node_mirror := by kernel_rfl
noncomputable abbrev P_impl_node_text : Func := Try.f36
theorem get_impl_node_text : cfg.P.funcs[i_impl_node_text]? = some P_impl_node_text := by kernel_rfl
noncomputable abbrev P_spec_trMirror : Func := Try.f37
theorem get_spec_trMirror : cfg.P.funcs[i_spec_trMirror]? = some P_spec_trMirror := by kernel_rfl
noncomputable abbrev P_impl_treeWith : Func := Try.f38
theorem get_impl_treeWith : cfg.P.funcs[i_impl_treeWith]? = some P_impl_treeWith := by kernel_rfl
noncomputable abbrev P_slices_Contains : Func := Try.f39
theorem get_slices_Contains : cfg.P.funcs[i_slices_Contains]? = some P_slices_Contains := by kernel_rfl
noncomputable abbrev P_impl_node_without : Func := Try.f40
theorem get_impl_node_without : cfg.P.funcs[i_impl_node_without]? = some P_impl_node_without := by kernel_rfl
noncomputable abbrev P_impl_hasLeaf : Func := Try.f41
theorem get_impl_hasLeaf : cfg.P.funcs[i_impl_hasLeaf]? = some P_impl_hasLeaf := by kernel_rfl
noncomputable abbrev P_impl_told : Func := Try.f42
theorem get_impl_told : cfg.P.funcs[i_impl_told]? = some P_impl_told := by kernel_rfl
noncomputable abbrev P_impl_node_graft : Func := Try.f43
theorem get_impl_node_graft : cfg.P.funcs[i_impl_node_graft]? = some P_impl_node_graft := by kernel_rfl
noncomputable abbrev P_spec_l1Cur_sureTree : Func := Try.f44
theorem get_spec_l1Cur_sureTree : cfg.P.funcs[i_spec_l1Cur_sureTree]? = some P_spec_l1Cur_sureTree := by kernel_rfl
noncomputable abbrev P_spec_l1Cur_pick : Func := Try.f45
theorem get_spec_l1Cur_pick : cfg.P.funcs[i_spec_l1Cur_pick]? = some P_spec_l1Cur_pick := by kernel_rfl
noncomputable abbrev P_spec_l1Cur_of : Func := Try.f46
theorem get_spec_l1Cur_of : cfg.P.funcs[i_spec_l1Cur_of]? = some P_spec_l1Cur_of := by kernel_rfl
noncomputable abbrev P_spec_trWith : Func := Try.f47
theorem get_spec_trWith : cfg.P.funcs[i_spec_trWith]? = some P_spec_trWith := by kernel_rfl
noncomputable abbrev P_spec_l1Cur_tree : Func := Try.f48
theorem get_spec_l1Cur_tree : cfg.P.funcs[i_spec_l1Cur_tree]? = some P_spec_l1Cur_tree := by kernel_rfl
noncomputable abbrev P_spec_l1Cur_one : Func := Try.f49
theorem get_spec_l1Cur_one : cfg.P.funcs[i_spec_l1Cur_one]? = some P_spec_l1Cur_one := by kernel_rfl
noncomputable abbrev P_spec_l1Has : Func := Try.f50
theorem get_spec_l1Has : cfg.P.funcs[i_spec_l1Has]? = some P_spec_l1Has := by kernel_rfl
noncomputable abbrev P_spec_trDrop : Func := Try.f51
theorem get_spec_trDrop : cfg.P.funcs[i_spec_trDrop]? = some P_spec_trDrop := by kernel_rfl
noncomputable abbrev P_impl_read : Func := Try.f52
theorem get_impl_read : cfg.P.funcs[i_impl_read]? = some P_impl_read := by kernel_rfl
noncomputable abbrev P_spec_trEnd : Func := Try.f53
theorem get_spec_trEnd : cfg.P.funcs[i_spec_trEnd]? = some P_spec_trEnd := by kernel_rfl
noncomputable abbrev P_spec_trLeaf : Func := Try.f54
theorem get_spec_trLeaf : cfg.P.funcs[i_spec_trLeaf]? = some P_spec_trLeaf := by kernel_rfl
noncomputable abbrev P_spec_trSides : Func := Try.f55
theorem get_spec_trSides : cfg.P.funcs[i_spec_trSides]? = some P_spec_trSides := by kernel_rfl
noncomputable abbrev P_impl_node_leaves : Func := Try.f56
theorem get_impl_node_leaves : cfg.P.funcs[i_impl_node_leaves]? = some P_impl_node_leaves := by kernel_rfl
noncomputable abbrev P_spec_trOf : Func := Try.f57
theorem get_spec_trOf : cfg.P.funcs[i_spec_trOf]? = some P_spec_trOf := by kernel_rfl
noncomputable abbrev P_impl_node_put : Func := Try.f58
theorem get_impl_node_put : cfg.P.funcs[i_impl_node_put]? = some P_impl_node_put := by kernel_rfl
noncomputable abbrev P_slices_Equal : Func := Try.f59
theorem get_slices_Equal : cfg.P.funcs[i_slices_Equal]? = some P_slices_Equal := by kernel_rfl
noncomputable abbrev P_slices_Index : Func := Try.f60
theorem get_slices_Index : cfg.P.funcs[i_slices_Index]? = some P_slices_Index := by kernel_rfl
noncomputable abbrev P_impl_node_grown : Func := Try.f61
theorem get_impl_node_grown : cfg.P.funcs[i_impl_node_grown]? = some P_impl_node_grown := by kernel_rfl
noncomputable abbrev P_impl_node_graft_k1 : Func := Try.f62
theorem get_impl_node_graft_k1 : cfg.P.funcs[i_impl_node_graft_k1]? = some P_impl_node_graft_k1 := by kernel_rfl
noncomputable abbrev P_spec_trGraft : Func := Try.f63
theorem get_spec_trGraft : cfg.P.funcs[i_spec_trGraft]? = some P_spec_trGraft := by kernel_rfl
noncomputable abbrev P_spec_l1Cur_next : Func := Try.f64
theorem get_spec_l1Cur_next : cfg.P.funcs[i_spec_l1Cur_next]? = some P_spec_l1Cur_next := by kernel_rfl
noncomputable abbrev P_spec_l1Cur_spoilt : Func := Try.f65
theorem get_spec_l1Cur_spoilt : cfg.P.funcs[i_spec_l1Cur_spoilt]? = some P_spec_l1Cur_spoilt := by kernel_rfl
end Go.AI
