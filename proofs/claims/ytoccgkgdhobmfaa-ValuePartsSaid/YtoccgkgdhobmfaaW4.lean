/- Part 4 of a proof: the abstract machine and the contracts of the program. -/
import Derived.Test.YtoccgkgdhobmfaaW3
import Derived.Test.YtoccgkgdhobmfaaProg
set_option maxRecDepth 100000
namespace Go.Proofs.Ytoccgkgdhobmfaa.Am
open Go
/-- splicery/splicerylaw04.ValueParts -/
def m12 : MF := ⟨4, 127, [.tmp 8],
 (.seq (.region none 0 [⟨some 8, (.mov (.const (.bool false))), none⟩])
 (.seq (.region none 1 [⟨some 20, (.mov (.tmp 0)), none⟩,
 ⟨some 21, (.call (.fn 26) [(.tmp 20)] [] none), none⟩,
 ⟨some 9, (.alloc 0 [.nils 6, .nils 31]), none⟩,
 ⟨none, (.store 2 (.tmp 9) (.tmp 21)), none⟩])
 (.seq (.region (some ([(1, 6), (1, 9), (4, 9), (6, 9), (7, 9), (8, 9)], [])) 1 [⟨some 22, (.fieldAddr 1 (.tmp 9)), none⟩,
 ⟨some 23, (.load none (.tmp 22)), none⟩,
 ⟨some 24, (.mov (.tmp 2)), none⟩,
 ⟨some 25, (.fieldAddr 1 (.tmp 9)), none⟩,
 ⟨some 26, (.load none (.tmp 25)), none⟩,
 ⟨some 27, (.len (.tmp 26)), none⟩,
 ⟨some 28, (.call (.fn 28) [(.tmp 24), (.tmp 27)] [] none), none⟩,
 ⟨some 29, (.indexAddrL 31 (.tmp 23) (.tmp 28)), none⟩,
 ⟨some 30, (.load (some 31) (.tmp 29)), none⟩,
 ⟨some 10, (.alloc 0 [.int .i64 0, .int .i64 0, .int .i64 0, .int .i64 0, .int .i64 0, .int .i64 0, .int .i64 0, .str [], .nils 11, .int .i64 0, .int .i64 0, .int .i64 0, .int .i64 0, .nils 5, .int .i64 0, .int .i64 0, .int .i64 0, .int .i64 0, .int .i64 0, .int .i64 0, .int .i64 0, .int .i64 0, .int .i64 0, .int .i64 0, .int .i64 0, .int .i64 0, .nils 5, .nils 15, .nils 1, .int .i64 0, .nils 1]), none⟩,
 ⟨none, (.store 31 (.tmp 10) (.tmp 30)), none⟩])
 (.seq (.region (some ([(0, 3), (0, 6), (2, 6), (3, 6), (5, 6)], [])) 1 [⟨some 31, (.load (some 2) (.tmp 9)), none⟩,
 ⟨some 32, (.fieldAddr 0 (.tmp 10)), none⟩,
 ⟨some 33, (.load (some 3) (.tmp 32)), none⟩,
 ⟨some 34, (.call (.fn 34) [(.tmp 33)] [] none), none⟩,
 ⟨some 35, (.mov (.tmp 1)), none⟩,
 ⟨some 36, (.call (.fn 29) [(.tmp 31), (.tmp 34), (.tmp 35)] [] none), none⟩,
 ⟨some 11, (.alloc 0 [.int .i64 0, .int .i64 0, .nils 3]), none⟩,
 ⟨none, (.store 3 (.tmp 11) (.tmp 36)), none⟩])
 (.seq (.seq (.region none 0 [⟨some 12, (.mov (.const (.int .i64 0))), none⟩])
 (.block 0 (.loop (.seq (.seq (.region none 0 [⟨some 37, (.mov (.tmp 12)), none⟩,
 ⟨some 38, (.fieldAddr 2 (.tmp 11)), none⟩,
 ⟨some 39, (.load none (.tmp 38)), none⟩,
 ⟨some 40, (.len (.tmp 39)), none⟩,
 ⟨some 41, (.bin .lss (.tmp 37) (.tmp 40)), none⟩])
 (.cond (.tmp 41) .skip
 (.exit 0)))
 (.seq (.block 1 (.seq (.region none 0 [⟨some 44, (.mov (.tmp 12)), none⟩,
 ⟨some 13, (.mov (.tmp 44)), none⟩])
 (.seq (.seq (.region none 0 [⟨some 45, (.fieldAddr 3 (.tmp 10)), none⟩,
 ⟨some 46, (.load none (.tmp 45)), none⟩,
 ⟨some 47, (.bin .eql (.tmp 46) (.const (.int .i64 1))), none⟩])
 (.cond (.tmp 47) (.region none 0 [⟨some 48, (.fieldAddr 1 (.tmp 11)), none⟩,
 ⟨some 49, (.load none (.tmp 48)), none⟩,
 ⟨some 13, (.mov (.tmp 49)), none⟩])
 .skip))
 (.seq (.region (some ([], [12])) 0 [⟨some 50, (.load (some 2) (.tmp 9)), none⟩,
 ⟨some 51, (.fieldAddr 8 (.tmp 10)), none⟩,
 ⟨some 52, (.load none (.tmp 51)), none⟩,
 ⟨some 53, (.mov (.tmp 13)), none⟩,
 ⟨some 54, (.indexAddrL 11 (.tmp 52) (.tmp 53)), none⟩,
 ⟨some 55, (.fieldAddr 4 (.tmp 54)), none⟩,
 ⟨some 56, (.load (some 5) (.tmp 55)), none⟩,
 ⟨some 57, (.fieldAddr 2 (.tmp 11)), none⟩,
 ⟨some 58, (.load none (.tmp 57)), none⟩,
 ⟨some 59, (.mov (.tmp 12)), none⟩,
 ⟨some 60, (.indexAddrL 3 (.tmp 58) (.tmp 59)), none⟩,
 ⟨some 61, (.load (some 3) (.tmp 60)), none⟩,
 ⟨some 62, (.call (.fn 44) [(.tmp 50), (.tmp 56), (.tmp 61)] [] none), none⟩,
 ⟨some 63, (.un .not (.tmp 62)), none⟩])
 (.cond (.tmp 63) (.seq (.region none 0 [⟨some 8, (.mov (.const (.bool false))), none⟩])
 .ret)
 .skip)))))
 (.region none 0 [⟨some 42, (.mov (.tmp 12)), none⟩,
 ⟨some 43, (.bin .add (.tmp 42) (.const (.int .i64 1))), none⟩,
 ⟨some 12, (.mov (.tmp 43)), none⟩]))))))
 (.seq (.region none 1 [⟨some 64, (.fieldAddr 0 (.tmp 10)), none⟩,
 ⟨some 65, (.load (some 3) (.tmp 64)), none⟩,
 ⟨some 66, (.call (.fn 34) [(.tmp 65)] [] none), none⟩,
 ⟨some 67, (.call (.fn 33) [(.tmp 66)] [] none), none⟩,
 ⟨some 14, (.alloc 0 [.int .i64 0, .int .i64 0, .int .i64 0, .int .i64 0, .nils 5]), none⟩,
 ⟨none, (.store 5 (.tmp 14) (.tmp 67)), none⟩])
 (.seq (.region none 2 [⟨some 68, (.load (some 3) (.tmp 11)), none⟩,
 ⟨some 69, (.load (some 3) (.tmp 11)), none⟩,
 ⟨some 70, (.lit 0 3 [[.int .i64 0, .int .i64 0, .nils 3], [.int .i64 0, .int .i64 0, .nils 3]] [(0, (.tmp 68)), (1, (.tmp 69))]), none⟩,
 ⟨some 71, (.build [.int .i64 0, .int .i64 0, .nils 3] [(0, 1, (.const (.int .i64 4))), (2, 1, (.tmp 70))]), none⟩,
 ⟨some 15, (.alloc 1 [.int .i64 0, .int .i64 0, .nils 3]), none⟩,
 ⟨none, (.store 3 (.tmp 15) (.tmp 71)), none⟩])
 (.seq (.region none 2 [⟨some 72, (.load (some 3) (.tmp 11)), none⟩,
 ⟨some 73, (.lit 0 3 [[.int .i64 0, .int .i64 0, .nils 3]] [(0, (.tmp 72))]), none⟩,
 ⟨some 74, (.build [.int .i64 0, .int .i64 0, .nils 3] [(0, 1, (.const (.int .i64 4))), (2, 1, (.tmp 73))]), none⟩,
 ⟨some 16, (.alloc 1 [.int .i64 0, .int .i64 0, .nils 3]), none⟩,
 ⟨none, (.store 3 (.tmp 16) (.tmp 74)), none⟩])
 (.seq (.region (some ([(3, 4)], [5])) 0 [⟨some 75, (.load (some 2) (.tmp 9)), none⟩,
 ⟨some 76, (.load (some 5) (.tmp 14)), none⟩,
 ⟨some 77, (.load (some 3) (.tmp 15)), none⟩,
 ⟨some 78, (.call (.fn 44) [(.tmp 75), (.tmp 76), (.tmp 77)] [] none), none⟩,
 ⟨some 79, (.load (some 3) (.tmp 11)), none⟩,
 ⟨some 80, (.call (.fn 47) [(.tmp 79)] [] none), none⟩,
 ⟨some 81, (.bin .mul (.const (.int .i64 2)) (.tmp 80)), none⟩,
 ⟨some 82, (.bin .add (.tmp 81) (.const (.int .i64 1))), none⟩,
 ⟨some 83, (.bin .leq (.tmp 82) (.const (.int .i64 256))), none⟩,
 ⟨some 84, (.eqb false (.tmp 78) (.tmp 83)), none⟩,
 ⟨some 17, (.mov (.tmp 84)), none⟩])
 (.seq (.region none 0 [⟨some 85, (.mov (.tmp 3)), none⟩,
 ⟨some 86, (.call (.fn 28) [(.tmp 85), (.const (.int .i64 4))] [] none), none⟩,
 ⟨some 87, (.bin .add (.const (.int .i64 1099511627775)) (.tmp 86)), none⟩,
 ⟨some 18, (.mov (.tmp 87)), none⟩])
 (.seq (.region (some ([(0, 3), (9, 13)], [])) 0 [⟨some 88, (.load (some 2) (.tmp 9)), none⟩,
 ⟨some 89, (.build [.int .i64 0, .int .i64 0, .int .i64 0, .int .i64 0, .nils 5] []), none⟩,
 ⟨some 90, (.mov (.tmp 18)), none⟩,
 ⟨some 91, (.call (.fn 46) [(.tmp 90)] [] none), none⟩,
 ⟨some 92, (.call (.fn 44) [(.tmp 88), (.tmp 89), (.tmp 91)] [] none), none⟩,
 ⟨some 93, (.mov (.tmp 18)), none⟩,
 ⟨some 94, (.bin .leq (.tmp 93) (.const (.int .i64 1099511627776))), none⟩,
 ⟨some 95, (.eqb false (.tmp 92) (.tmp 94)), none⟩,
 ⟨some 96, (.mov (.tmp 95)), none⟩,
 ⟨some 97, (.load (some 2) (.tmp 9)), (some (96, true))⟩,
 ⟨some 98, (.build [.int .i64 0, .int .i64 0, .int .i64 0, .int .i64 0, .nils 5] []), (some (96, true))⟩,
 ⟨some 99, (.mov (.tmp 18)), (some (96, true))⟩,
 ⟨some 100, (.un .neg (.tmp 99)), (some (96, true))⟩,
 ⟨some 101, (.call (.fn 46) [(.tmp 100)] [] none), (some (96, true))⟩,
 ⟨some 102, (.call (.fn 44) [(.tmp 97), (.tmp 98), (.tmp 101)] [] none), (some (96, true))⟩,
 ⟨some 103, (.mov (.tmp 18)), (some (96, true))⟩,
 ⟨some 104, (.bin .leq (.tmp 103) (.const (.int .i64 1099511627776))), (some (96, true))⟩,
 ⟨some 105, (.eqb false (.tmp 102) (.tmp 104)), (some (96, true))⟩,
 ⟨some 106, (.pick (.tmp 96) (.tmp 105) (.const (.bool false))), none⟩,
 ⟨some 19, (.mov (.tmp 106)), none⟩])
 (.seq (.region none 0 [⟨some 107, (.mov (.tmp 17)), none⟩,
 ⟨some 108, (.mov (.tmp 107)), none⟩,
 ⟨some 109, (.mov (.tmp 19)), (some (108, true))⟩,
 ⟨some 110, (.pick (.tmp 108) (.tmp 109) (.const (.bool false))), none⟩,
 ⟨some 111, (.mov (.tmp 110)), none⟩,
 ⟨some 112, (.load (some 2) (.tmp 9)), (some (111, true))⟩,
 ⟨some 113, (.load (some 5) (.tmp 14)), (some (111, true))⟩,
 ⟨some 114, (.load (some 3) (.tmp 15)), (some (111, true))⟩,
 ⟨some 115, (.call (.fn 44) [(.tmp 112), (.tmp 113), (.tmp 114)] [] none), (some (111, true))⟩,
 ⟨some 116, (.un .not (.tmp 115)), (some (111, true))⟩,
 ⟨some 117, (.mov (.tmp 116)), (some (111, true))⟩,
 ⟨some 118, (.load (some 2) (.tmp 9)), (some (117, false))⟩,
 ⟨some 119, (.load (some 5) (.tmp 14)), (some (117, false))⟩,
 ⟨some 120, (.load (some 3) (.tmp 16)), (some (117, false))⟩,
 ⟨some 121, (.call (.fn 44) [(.tmp 118), (.tmp 119), (.tmp 120)] [] none), (some (117, false))⟩,
 ⟨some 122, (.pick (.tmp 117) (.const (.bool true)) (.tmp 121)), (some (111, true))⟩,
 ⟨some 123, (.pick (.tmp 111) (.tmp 122) (.const (.bool false))), none⟩,
 ⟨some 124, (.mov (.tmp 123)), none⟩,
 ⟨some 125, (.call (.fn 42) [] [] none), (some (124, true))⟩,
 ⟨some 126, (.pick (.tmp 124) (.tmp 125) (.const (.bool false))), none⟩,
 ⟨some 8, (.mov (.tmp 126)), none⟩])
 .ret))))))))))))⟩
/-- splicery/spliceryref04.Types -/
def m26 : MF := ⟨1, 92, [.cell 2 (some 2)],
 (.seq (.region none 1 [⟨some 2, (.alloc 0 [.nils 6, .nils 31]), none⟩])
 (.seq (.region none 2 [⟨some 11, (.call (.fn 35) [(.const (.int .i64 0))] [] none), none⟩,
 ⟨some 12, (.build [.int .i64 0, .int .i64 0, .int .i64 0, .str [], .nils 3, .nils 3] [(0, 3, (.tmp 11)), (3, 1, (.const (.str [99, 111, 114, 101])))]), none⟩,
 ⟨some 13, (.lit 0 6 [[.int .i64 0, .int .i64 0, .int .i64 0, .str [], .nils 3, .nils 3]] [(0, (.tmp 12))]), none⟩,
 ⟨some 14, (.build [.nils 6, .nils 31] [(0, 1, (.tmp 13))]), none⟩,
 ⟨some 3, (.alloc 1 [.nils 6, .nils 31]), none⟩,
 ⟨none, (.store 2 (.tmp 3) (.tmp 14)), none⟩])
 (.seq (.region none 0 [⟨some 15, (.mov (.tmp 0)), none⟩,
 ⟨some 16, (.call (.fn 61) [(.tmp 15), (.const (.int .i64 0)), (.const (.int .i64 4))] [] none), none⟩,
 ⟨some 17, (.bin .add (.const (.int .i64 1)) (.tmp 16)), none⟩,
 ⟨some 4, (.mov (.tmp 17)), none⟩])
 (.seq (.region none 0 [⟨some 18, (.mov (.tmp 4)), none⟩,
 ⟨some 19, (.bin .add (.const (.int .i64 1)) (.tmp 18)), none⟩,
 ⟨some 5, (.mov (.tmp 19)), none⟩])
 (.seq (.seq (.region none 0 [⟨some 6, (.mov (.const (.int .i64 0))), none⟩])
 (.block 0 (.loop (.seq (.seq (.region none 0 [⟨some 20, (.mov (.tmp 6)), none⟩,
 ⟨some 21, (.mov (.tmp 4)), none⟩,
 ⟨some 22, (.bin .lss (.tmp 20) (.tmp 21)), none⟩])
 (.cond (.tmp 22) .skip
 (.exit 0)))
 (.seq (.block 1 (.seq (.region none 0 [⟨some 25, (.mov (.tmp 0)), none⟩,
 ⟨some 26, (.mov (.tmp 6)), none⟩,
 ⟨some 27, (.bin .add (.const (.int .i64 1)) (.tmp 26)), none⟩,
 ⟨some 28, (.call (.fn 61) [(.tmp 25), (.tmp 27), (.const (.int .i64 65536))] [] none), none⟩,
 ⟨some 7, (.mov (.tmp 28)), none⟩])
 (.seq (.region (some ([(2, 6), (5, 6), (2, 8), (5, 8), (2, 9), (5, 9), (2, 11), (5, 11), (6, 11), (8, 11), (9, 11)], [])) 2 [⟨some 29, (.mov (.tmp 6)), none⟩,
 ⟨some 30, (.bin .add (.const (.int .i64 1)) (.tmp 29)), none⟩,
 ⟨some 31, (.call (.fn 35) [(.tmp 30)] [] none), none⟩,
 ⟨some 32, (.mov (.tmp 7)), none⟩,
 ⟨some 33, (.bin .rem (.tmp 32) (.const (.int .i64 2))), none⟩,
 ⟨some 34, (.call (.fn 35) [(.const (.int .i64 0))] [] none), none⟩,
 ⟨some 35, (.lit 0 1 [[.str []], [.str []], [.str []], [.str []]] [(0, (.const (.str [80, 111, 105, 110, 116]))), (1, (.const (.str [83, 104, 97, 112, 101]))), (2, (.const (.str [83, 116, 97, 116, 101]))), (3, (.const (.str [69, 118, 101, 110, 116])))]), none⟩,
 ⟨some 36, (.mov (.tmp 6)), none⟩,
 ⟨some 37, (.indexAddrL 1 (.tmp 35) (.tmp 36)), none⟩,
 ⟨some 38, (.load none (.tmp 37)), none⟩,
 ⟨some 39, (.build [.int .i64 0, .int .i64 0, .int .i64 0, .int .i64 0, .int .i64 0, .int .i64 0, .int .i64 0, .str [], .nils 11, .int .i64 0, .int .i64 0, .int .i64 0, .int .i64 0, .nils 5, .int .i64 0, .int .i64 0, .int .i64 0, .int .i64 0, .int .i64 0, .int .i64 0, .int .i64 0, .int .i64 0, .int .i64 0, .int .i64 0, .int .i64 0, .int .i64 0, .nils 5, .nils 15, .nils 1, .int .i64 0, .nils 1] [(0, 3, (.tmp 31)), (3, 1, (.tmp 33)), (4, 3, (.tmp 34)), (7, 1, (.tmp 38))]), none⟩,
 ⟨some 8, (.alloc 1 [.int .i64 0, .int .i64 0, .int .i64 0, .int .i64 0, .int .i64 0, .int .i64 0, .int .i64 0, .str [], .nils 11, .int .i64 0, .int .i64 0, .int .i64 0, .int .i64 0, .nils 5, .int .i64 0, .int .i64 0, .int .i64 0, .int .i64 0, .int .i64 0, .int .i64 0, .int .i64 0, .int .i64 0, .int .i64 0, .int .i64 0, .int .i64 0, .int .i64 0, .nils 5, .nils 15, .nils 1, .int .i64 0, .nils 1]), none⟩,
 ⟨none, (.store 31 (.tmp 8) (.tmp 39)), none⟩])
 (.seq (.region none 0 [⟨some 40, (.mov (.tmp 7)), none⟩,
 ⟨some 41, (.bin .quo (.tmp 40) (.const (.int .i64 2))), none⟩,
 ⟨some 42, (.bin .rem (.tmp 41) (.const (.int .i64 3))), none⟩,
 ⟨some 43, (.bin .add (.const (.int .i64 1)) (.tmp 42)), none⟩,
 ⟨some 9, (.mov (.tmp 43)), none⟩])
 (.seq (.seq (.region none 0 [⟨some 10, (.mov (.const (.int .i64 0))), none⟩])
 (.block 2 (.loop (.seq (.seq (.region none 0 [⟨some 44, (.mov (.tmp 10)), none⟩,
 ⟨some 45, (.mov (.tmp 9)), none⟩,
 ⟨some 46, (.bin .lss (.tmp 44) (.tmp 45)), none⟩])
 (.cond (.tmp 46) .skip
 (.exit 2)))
 (.seq (.block 3 (.seq (.region (some ([(1, 3), (1, 4), (3, 4), (3, 6), (3, 7), (1, 14), (4, 14), (6, 14), (7, 14), (1, 16), (4, 16), (6, 16), (7, 16)], [])) 2 [⟨some 49, (.fieldAddr 8 (.tmp 8)), none⟩,
 ⟨some 50, (.load none (.tmp 49)), none⟩,
 ⟨some 51, (.mov (.tmp 5)), none⟩,
 ⟨some 52, (.call (.fn 35) [(.tmp 51)] [] none), none⟩,
 ⟨some 53, (.lit 0 1 [[.str []], [.str []], [.str []]] [(0, (.const (.str [120]))), (1, (.const (.str [121]))), (2, (.const (.str [122])))]), none⟩,
 ⟨some 54, (.mov (.tmp 10)), none⟩,
 ⟨some 55, (.indexAddrL 1 (.tmp 53) (.tmp 54)), none⟩,
 ⟨some 56, (.load none (.tmp 55)), none⟩,
 ⟨some 57, (.mov (.tmp 0)), none⟩,
 ⟨some 58, (.mov (.tmp 6)), none⟩,
 ⟨some 59, (.bin .mul (.const (.int .i64 3)) (.tmp 58)), none⟩,
 ⟨some 60, (.bin .add (.const (.int .i64 5)) (.tmp 59)), none⟩,
 ⟨some 61, (.mov (.tmp 10)), none⟩,
 ⟨some 62, (.bin .add (.tmp 60) (.tmp 61)), none⟩,
 ⟨some 63, (.call (.fn 61) [(.tmp 57), (.tmp 62), (.const (.int .i64 65536))] [] none), none⟩,
 ⟨some 64, (.mov (.tmp 6)), none⟩,
 ⟨some 65, (.call (.fn 27) [(.tmp 63), (.tmp 64)] [] none), none⟩,
 ⟨some 66, (.build [.int .i64 0, .int .i64 0, .int .i64 0, .str [], .int .i64 0, .int .i64 0, .int .i64 0, .int .i64 0, .nils 5, .int .i64 0, .int .i64 0] [(0, 3, (.tmp 52)), (3, 1, (.tmp 56)), (4, 5, (.tmp 65))]), none⟩,
 ⟨some 67, (.ilit 11 [[.int .i64 0, .int .i64 0, .int .i64 0, .str [], .int .i64 0, .int .i64 0, .int .i64 0, .int .i64 0, .nils 5, .int .i64 0, .int .i64 0]] [(0, (.tmp 66))]), none⟩,
 ⟨some 68, (.append 1 11 112 (.tmp 50) (.tmp 67)), none⟩,
 ⟨some 69, (.fieldAddr 8 (.tmp 8)), none⟩,
 ⟨none, (.store 1 (.tmp 69) (.tmp 68)), none⟩])
 (.region none 0 [⟨some 70, (.mov (.tmp 5)), none⟩,
 ⟨some 71, (.bin .add (.tmp 70) (.const (.int .i64 1))), none⟩,
 ⟨some 5, (.mov (.tmp 71)), none⟩])))
 (.region none 0 [⟨some 47, (.mov (.tmp 10)), none⟩,
 ⟨some 48, (.bin .add (.tmp 47) (.const (.int .i64 1))), none⟩,
 ⟨some 10, (.mov (.tmp 48)), none⟩]))))))
 (.seq (.region none 1 [⟨some 72, (.fieldAddr 1 (.tmp 3)), none⟩,
 ⟨some 73, (.load none (.tmp 72)), none⟩,
 ⟨some 74, (.load (some 31) (.tmp 8)), none⟩,
 ⟨some 75, (.flit 31 [[.int .i64 0, .int .i64 0, .int .i64 0, .int .i64 0, .int .i64 0, .int .i64 0, .int .i64 0, .str [], .nils 11, .int .i64 0, .int .i64 0, .int .i64 0, .int .i64 0, .nils 5, .int .i64 0, .int .i64 0, .int .i64 0, .int .i64 0, .int .i64 0, .int .i64 0, .int .i64 0, .int .i64 0, .int .i64 0, .int .i64 0, .int .i64 0, .int .i64 0, .nils 5, .nils 15, .nils 1, .int .i64 0, .nils 1]] [(0, (.tmp 74))]), none⟩,
 ⟨some 76, (.append 0 31 352 (.tmp 73) (.tmp 75)), none⟩,
 ⟨some 77, (.fieldAddr 1 (.tmp 3)), none⟩,
 ⟨none, (.store 1 (.tmp 77) (.tmp 76)), none⟩])
 (.region (some ([(1, 10)], [])) 1 [⟨some 78, (.fieldAddr 0 (.tmp 3)), none⟩,
 ⟨some 79, (.load none (.tmp 78)), none⟩,
 ⟨some 80, (.fieldAddr 0 (.tmp 3)), none⟩,
 ⟨some 81, (.load none (.tmp 80)), none⟩,
 ⟨some 82, (.indexAddrL 6 (.tmp 81) (.const (.int .i64 0))), none⟩,
 ⟨some 83, (.fieldAddr 5 (.tmp 82)), none⟩,
 ⟨some 84, (.load none (.tmp 83)), none⟩,
 ⟨some 85, (.fieldAddr 0 (.tmp 8)), none⟩,
 ⟨some 86, (.load (some 3) (.tmp 85)), none⟩,
 ⟨some 87, (.ilit 3 [[.int .i64 0, .int .i64 0, .int .i64 0]] [(0, (.tmp 86))]), none⟩,
 ⟨some 88, (.append 0 3 24 (.tmp 84) (.tmp 87)), none⟩,
 ⟨some 89, (.indexAddrL 6 (.tmp 79) (.const (.int .i64 0))), none⟩,
 ⟨some 90, (.fieldAddr 5 (.tmp 89)), none⟩,
 ⟨none, (.store 1 (.tmp 90) (.tmp 88)), none⟩])))))))
 (.region none 0 [⟨some 23, (.mov (.tmp 6)), none⟩,
 ⟨some 24, (.bin .add (.tmp 23) (.const (.int .i64 1))), none⟩,
 ⟨some 6, (.mov (.tmp 24)), none⟩]))))))
 (.seq (.region none 0 [⟨some 91, (.load (some 2) (.tmp 3)), none⟩,
 ⟨none, (.store 2 (.tmp 2) (.tmp 91)), none⟩])
 .ret))))))⟩
/-- splicery/spliceryref04.Pick -/
def m27 : MF := ⟨2, 35, [.cell 4 (some 5)],
 (.seq (.region none 1 [⟨some 4, (.alloc 0 [.int .i64 0, .int .i64 0, .int .i64 0, .int .i64 0, .nils 5]), none⟩])
 (.seq (.region none 0 [⟨some 7, (.mov (.tmp 0)), none⟩,
 ⟨some 8, (.mov (.tmp 1)), none⟩,
 ⟨some 9, (.bin .mul (.const (.int .i64 2)) (.tmp 8)), none⟩,
 ⟨some 10, (.bin .add (.const (.int .i64 4)) (.tmp 9)), none⟩,
 ⟨some 11, (.call (.fn 28) [(.tmp 7), (.tmp 10)] [] none), none⟩,
 ⟨some 5, (.mov (.tmp 11)), none⟩])
 (.seq (.seq (.region none 0 [⟨some 12, (.mov (.tmp 5)), none⟩,
 ⟨some 13, (.bin .eql (.tmp 12) (.const (.int .i64 1))), none⟩])
 (.cond (.tmp 13) (.seq (.region none 0 [⟨some 14, (.build [.int .i64 0, .int .i64 0, .int .i64 0, .int .i64 0, .nils 5] [(0, 1, (.const (.int .i64 1)))]), none⟩,
 ⟨none, (.store 5 (.tmp 4) (.tmp 14)), none⟩])
 .ret)
 .skip))
 (.seq (.seq (.region none 0 [⟨some 15, (.mov (.tmp 5)), none⟩,
 ⟨some 16, (.bin .eql (.tmp 15) (.const (.int .i64 2))), none⟩])
 (.cond (.tmp 16) (.seq (.region none 0 [⟨some 17, (.build [.int .i64 0, .int .i64 0, .int .i64 0, .int .i64 0, .nils 5] []), none⟩,
 ⟨some 18, (.call (.fn 33) [(.tmp 17)] [] none), none⟩,
 ⟨none, (.store 5 (.tmp 4) (.tmp 18)), none⟩])
 .ret)
 .skip))
 (.seq (.seq (.region none 0 [⟨some 19, (.mov (.tmp 5)), none⟩,
 ⟨some 20, (.bin .geq (.tmp 19) (.const (.int .i64 4))), none⟩])
 (.cond (.tmp 20) (.seq (.region none 1 [⟨some 21, (.mov (.tmp 5)), none⟩,
 ⟨some 22, (.bin .sub (.tmp 21) (.const (.int .i64 4))), none⟩,
 ⟨some 23, (.bin .quo (.tmp 22) (.const (.int .i64 2))), none⟩,
 ⟨some 24, (.bin .add (.const (.int .i64 1)) (.tmp 23)), none⟩,
 ⟨some 25, (.call (.fn 35) [(.tmp 24)] [] none), none⟩,
 ⟨some 26, (.call (.fn 34) [(.tmp 25)] [] none), none⟩,
 ⟨some 6, (.alloc 0 [.int .i64 0, .int .i64 0, .int .i64 0, .int .i64 0, .nils 5]), none⟩,
 ⟨none, (.store 5 (.tmp 6) (.tmp 26)), none⟩])
 (.seq (.seq (.region none 0 [⟨some 27, (.mov (.tmp 0)), none⟩,
 ⟨some 28, (.bin .quo (.tmp 27) (.const (.int .i64 64))), none⟩,
 ⟨some 29, (.call (.fn 28) [(.tmp 28), (.const (.int .i64 5))] [] none), none⟩,
 ⟨some 30, (.bin .eql (.tmp 29) (.const (.int .i64 1))), none⟩])
 (.cond (.tmp 30) (.seq (.region none 0 [⟨some 31, (.load (some 5) (.tmp 6)), none⟩,
 ⟨some 32, (.call (.fn 33) [(.tmp 31)] [] none), none⟩,
 ⟨none, (.store 5 (.tmp 4) (.tmp 32)), none⟩])
 .ret)
 .skip))
 (.seq (.region none 0 [⟨some 33, (.load (some 5) (.tmp 6)), none⟩,
 ⟨none, (.store 5 (.tmp 4) (.tmp 33)), none⟩])
 .ret)))
 .skip))
 (.seq (.region none 0 [⟨some 34, (.build [.int .i64 0, .int .i64 0, .int .i64 0, .int .i64 0, .nils 5] []), none⟩,
 ⟨none, (.store 5 (.tmp 4) (.tmp 34)), none⟩])
 .ret))))))⟩
/-- splicery/spliceryref01.Around -/
def m28 : MF := ⟨2, 13, [.tmp 4],
 (.seq (.region none 0 [⟨some 4, (.mov (.const (.int .i64 0))), none⟩])
 (.seq (.seq (.region none 0 [⟨some 5, (.mov (.tmp 0)), none⟩,
 ⟨some 6, (.bin .lss (.tmp 5) (.const (.int .i64 0))), none⟩])
 (.cond (.tmp 6) (.region none 0 [⟨some 7, (.mov (.tmp 0)), none⟩,
 ⟨some 8, (.bin .add (.tmp 7) (.const (.int .i64 1))), none⟩,
 ⟨some 9, (.un .neg (.tmp 8)), none⟩,
 ⟨some 0, (.mov (.tmp 9)), none⟩])
 .skip))
 (.seq (.region none 0 [⟨some 10, (.mov (.tmp 0)), none⟩,
 ⟨some 11, (.mov (.tmp 1)), none⟩,
 ⟨some 12, (.bin .rem (.tmp 10) (.tmp 11)), none⟩,
 ⟨some 4, (.mov (.tmp 12)), none⟩])
 .ret)))⟩
/-- splicery/spliceryref04.Value -/
def m29 : MF := ⟨3, 31, [.cell 6 (some 3)],
 (.seq (.region none 3 [⟨some 3, (.box 0 (.tmp 0)), none⟩,
 ⟨some 4, (.box 1 (.tmp 1)), none⟩,
 ⟨some 6, (.alloc 2 [.int .i64 0, .int .i64 0, .nils 3]), none⟩])
 (.seq (.region none 1 [⟨some 10, (.load (some 2) (.tmp 3)), none⟩,
 ⟨some 11, (.load (some 5) (.tmp 4)), none⟩,
 ⟨some 12, (.mov (.tmp 2)), none⟩,
 ⟨some 13, (.call (.fn 81) [(.tmp 10), (.tmp 11), (.tmp 12), (.const (.int .i64 0)), (.const (.int .i64 1))] [] none), none⟩,
 ⟨some 9, (.mov (.tmp 13)), none⟩,
 ⟨some 14, (.extract (.tmp 9) 0), none⟩,
 ⟨some 15, (.extract (.tmp 9) 1), none⟩,
 ⟨some 7, (.alloc 0 [.int .i64 0, .int .i64 0, .nils 3]), none⟩,
 ⟨none, (.store 3 (.tmp 7) (.tmp 14)), none⟩,
 ⟨some 8, (.mov (.tmp 15)), none⟩])
 (.seq (.seq (.region none 0 [⟨some 16, (.load (some 3) (.tmp 7)), none⟩,
 ⟨some 17, (.call (.fn 48) [(.tmp 16)] [] none), none⟩,
 ⟨some 18, (.bin .gtr (.tmp 17) (.const (.int .i64 256))), none⟩,
 ⟨some 19, (.mov (.tmp 18)), none⟩,
 ⟨some 20, (.load (some 3) (.tmp 7)), (some (19, false))⟩,
 ⟨some 21, (.call (.fn 82) [(.tmp 20)] [] none), (some (19, false))⟩,
 ⟨some 22, (.bin .gtr (.tmp 21) (.const (.int .i64 24))), (some (19, false))⟩,
 ⟨some 23, (.pick (.tmp 19) (.const (.bool true)) (.tmp 22)), none⟩])
 (.cond (.tmp 23) (.region none 0 [⟨some 25, (.load (some 2) (.tmp 3)), none⟩,
 ⟨some 26, (.load (some 5) (.tmp 4)), none⟩,
 ⟨some 27, (.call (.fn 54) [(.tmp 25), (.tmp 26)] [] none), none⟩,
 ⟨some 24, (.mov (.tmp 27)), none⟩,
 ⟨some 28, (.extract (.tmp 24) 0), none⟩,
 ⟨some 29, (.extract (.tmp 24) 1), none⟩,
 ⟨none, (.store 3 (.tmp 7) (.tmp 28)), none⟩])
 .skip))
 (.seq (.region none 0 [⟨some 30, (.load (some 3) (.tmp 7)), none⟩,
 ⟨none, (.store 3 (.tmp 6) (.tmp 30)), none⟩])
 .ret))))⟩
/-- splicery/spliceryref04.List -/
def m33 : MF := ⟨1, 6, [.cell 2 (some 5)],
 (.seq (.region none 2 [⟨some 1, (.box 0 (.tmp 0)), none⟩,
 ⟨some 2, (.alloc 1 [.int .i64 0, .int .i64 0, .int .i64 0, .int .i64 0, .nils 5]), none⟩])
 (.seq (.region none 1 [⟨some 3, (.load (some 5) (.tmp 1)), none⟩,
 ⟨some 4, (.lit 0 5 [[.int .i64 0, .int .i64 0, .int .i64 0, .int .i64 0, .nils 5]] [(0, (.tmp 3))]), none⟩,
 ⟨some 5, (.build [.int .i64 0, .int .i64 0, .int .i64 0, .int .i64 0, .nils 5] [(0, 1, (.const (.int .i64 2))), (4, 1, (.tmp 4))]), none⟩,
 ⟨none, (.store 5 (.tmp 2) (.tmp 5)), none⟩])
 .ret))⟩
/-- splicery/spliceryref04.Of -/
def m34 : MF := ⟨1, 5, [.cell 2 (some 5)],
 (.seq (.region none 2 [⟨some 1, (.box 0 (.tmp 0)), none⟩,
 ⟨some 2, (.alloc 1 [.int .i64 0, .int .i64 0, .int .i64 0, .int .i64 0, .nils 5]), none⟩])
 (.seq (.region none 0 [⟨some 3, (.load (some 3) (.tmp 1)), none⟩,
 ⟨some 4, (.build [.int .i64 0, .int .i64 0, .int .i64 0, .int .i64 0, .nils 5] [(0, 1, (.const (.int .i64 3))), (1, 3, (.tmp 3))]), none⟩,
 ⟨none, (.store 5 (.tmp 2) (.tmp 4)), none⟩])
 .ret))⟩
/-- splicery/spliceryref04.ID -/
def m35 : MF := ⟨1, 9, [.cell 2 (some 3)],
 (.seq (.region none 1 [⟨some 2, (.alloc 0 [.int .i64 0, .int .i64 0, .int .i64 0]), none⟩])
 (.seq (.region none 0 [⟨some 3, (.mov (.tmp 0)), none⟩,
 ⟨some 4, (.bin .quo (.tmp 3) (.const (.int .i64 32))), none⟩,
 ⟨some 5, (.bin .add (.const (.int .i64 1)) (.tmp 4)), none⟩,
 ⟨some 6, (.mov (.tmp 0)), none⟩,
 ⟨some 7, (.bin .rem (.tmp 6) (.const (.int .i64 32))), none⟩,
 ⟨some 8, (.build [.int .i64 0, .int .i64 0, .int .i64 0] [(1, 1, (.tmp 5)), (2, 1, (.tmp 7))]), none⟩,
 ⟨none, (.store 3 (.tmp 2) (.tmp 8)), none⟩])
 .ret))⟩
/-- splicery/value.ValidType -/
def m36 : MF := ⟨2, 69, [.tmp 4],
 (.seq (.region none 2 [⟨some 2, (.box 0 (.tmp 0)), none⟩,
 ⟨some 3, (.box 1 (.tmp 1)), none⟩,
 ⟨some 4, (.mov (.const (.bool false))), none⟩])
 (.seq (.seq (.region none 0 [⟨some 5, (.mov (.const (.int .i64 1))), none⟩])
 (.block 0 (.loop (.seq (.seq (.region none 0 [⟨some 8, (.mov (.tmp 5)), none⟩,
 ⟨some 9, (.bin .leq (.tmp 8) (.const (.int .i64 24))), none⟩])
 (.cond (.tmp 9) .skip
 (.exit 0)))
 (.seq (.block 1 (.seq (.region none 0 [⟨some 12, (.fieldAddr 0 (.tmp 3)), none⟩,
 ⟨some 13, (.load none (.tmp 12)), none⟩])
 (.block 2 (.seq (.seq (.region none 0 [⟨some 15, (.bin .eql (.tmp 13) (.const (.int .i64 0))), none⟩,
 ⟨some 14, (.mov (.tmp 15)), none⟩])
 (.cond (.tmp 14) .skip
 (.region none 0 [⟨some 16, (.bin .eql (.tmp 13) (.const (.int .i64 1))), none⟩,
 ⟨some 14, (.mov (.tmp 16)), none⟩])))
 (.cond (.tmp 14) (.seq (.region none 0 [⟨some 17, (.fieldAddr 1 (.tmp 3)), none⟩,
 ⟨some 18, (.load (some 3) (.tmp 17)), none⟩,
 ⟨some 19, (.build [.int .i64 0, .int .i64 0, .int .i64 0] []), none⟩,
 ⟨some 20, (.eqv false [1, 1, 1] (.tmp 18) (.tmp 19)), none⟩,
 ⟨some 21, (.mov (.tmp 20)), none⟩,
 ⟨some 22, (.fieldAddr 4 (.tmp 3)), (some (21, true))⟩,
 ⟨some 23, (.load none (.tmp 22)), (some (21, true))⟩,
 ⟨some 24, (.len (.tmp 23)), (some (21, true))⟩,
 ⟨some 25, (.bin .eql (.tmp 24) (.const (.int .i64 0))), (some (21, true))⟩,
 ⟨some 26, (.pick (.tmp 21) (.tmp 25) (.const (.bool false))), none⟩,
 ⟨some 4, (.mov (.tmp 26)), none⟩])
 .ret)
 (.seq (.region none 0 [⟨some 28, (.bin .eql (.tmp 13) (.const (.int .i64 3))), none⟩,
 ⟨some 27, (.mov (.tmp 28)), none⟩])
 (.cond (.tmp 27) (.seq (.region none 1 [⟨some 30, (.load (some 2) (.tmp 2)), none⟩,
 ⟨some 31, (.fieldAddr 1 (.tmp 3)), none⟩,
 ⟨some 32, (.load (some 3) (.tmp 31)), none⟩,
 ⟨some 33, (.call (.fn 40) [(.tmp 30), (.tmp 32)] [] none), none⟩,
 ⟨some 29, (.mov (.tmp 33)), none⟩,
 ⟨some 34, (.extract (.tmp 29) 0), none⟩,
 ⟨some 35, (.extract (.tmp 29) 1), none⟩,
 ⟨some 6, (.alloc 0 [.int .i64 0, .int .i64 0, .int .i64 0, .int .i64 0, .int .i64 0, .int .i64 0, .int .i64 0, .str [], .nils 11, .int .i64 0, .int .i64 0, .int .i64 0, .int .i64 0, .nils 5, .int .i64 0, .int .i64 0, .int .i64 0, .int .i64 0, .int .i64 0, .int .i64 0, .int .i64 0, .int .i64 0, .int .i64 0, .int .i64 0, .int .i64 0, .int .i64 0, .nils 5, .nils 15, .nils 1, .int .i64 0, .nils 1]), none⟩,
 ⟨none, (.store 31 (.tmp 6) (.tmp 34)), none⟩,
 ⟨some 7, (.mov (.tmp 35)), none⟩])
 (.seq (.region none 0 [⟨some 36, (.mov (.tmp 7)), none⟩,
 ⟨some 37, (.mov (.tmp 36)), none⟩,
 ⟨some 38, (.fieldAddr 3 (.tmp 6)), (some (37, true))⟩,
 ⟨some 39, (.load none (.tmp 38)), (some (37, true))⟩,
 ⟨some 40, (.bin .eql (.tmp 39) (.const (.int .i64 0))), (some (37, true))⟩,
 ⟨some 41, (.mov (.tmp 40)), (some (37, true))⟩,
 ⟨some 42, (.fieldAddr 3 (.tmp 6)), (some (41, false))⟩,
 ⟨some 43, (.load none (.tmp 42)), (some (41, false))⟩,
 ⟨some 44, (.bin .eql (.tmp 43) (.const (.int .i64 1))), (some (41, false))⟩,
 ⟨some 45, (.pick (.tmp 41) (.const (.bool true)) (.tmp 44)), (some (37, true))⟩,
 ⟨some 46, (.pick (.tmp 37) (.tmp 45) (.const (.bool false))), none⟩,
 ⟨some 47, (.mov (.tmp 46)), none⟩,
 ⟨some 48, (.fieldAddr 4 (.tmp 3)), (some (47, true))⟩,
 ⟨some 49, (.load none (.tmp 48)), (some (47, true))⟩,
 ⟨some 50, (.len (.tmp 49)), (some (47, true))⟩,
 ⟨some 51, (.bin .eql (.tmp 50) (.const (.int .i64 0))), (some (47, true))⟩,
 ⟨some 52, (.pick (.tmp 47) (.tmp 51) (.const (.bool false))), none⟩,
 ⟨some 4, (.mov (.tmp 52)), none⟩])
 .ret))
 (.seq (.region none 0 [⟨some 54, (.bin .eql (.tmp 13) (.const (.int .i64 2))), none⟩,
 ⟨some 53, (.mov (.tmp 54)), none⟩])
 (.cond (.tmp 53) (.seq (.seq (.region none 0 [⟨some 55, (.fieldAddr 1 (.tmp 3)), none⟩,
 ⟨some 56, (.load (some 3) (.tmp 55)), none⟩,
 ⟨some 57, (.build [.int .i64 0, .int .i64 0, .int .i64 0] []), none⟩,
 ⟨some 58, (.eqv true [1, 1, 1] (.tmp 56) (.tmp 57)), none⟩,
 ⟨some 59, (.mov (.tmp 58)), none⟩,
 ⟨some 60, (.fieldAddr 4 (.tmp 3)), (some (59, false))⟩,
 ⟨some 61, (.load none (.tmp 60)), (some (59, false))⟩,
 ⟨some 62, (.len (.tmp 61)), (some (59, false))⟩,
 ⟨some 63, (.bin .neq (.tmp 62) (.const (.int .i64 1))), (some (59, false))⟩,
 ⟨some 64, (.pick (.tmp 59) (.const (.bool true)) (.tmp 63)), none⟩])
 (.cond (.tmp 64) (.seq (.region none 0 [⟨some 4, (.mov (.const (.bool false))), none⟩])
 .ret)
 .skip))
 (.region none 0 [⟨some 65, (.fieldAddr 4 (.tmp 3)), none⟩,
 ⟨some 66, (.load none (.tmp 65)), none⟩,
 ⟨some 67, (.indexAddrL 5 (.tmp 66) (.const (.int .i64 0))), none⟩,
 ⟨some 68, (.load (some 5) (.tmp 67)), none⟩,
 ⟨none, (.store 5 (.tmp 3) (.tmp 68)), none⟩]))
 (.seq (.region none 0 [⟨some 4, (.mov (.const (.bool false))), none⟩])
 .ret))))))))))
 (.region none 0 [⟨some 10, (.mov (.tmp 5)), none⟩,
 ⟨some 11, (.bin .add (.tmp 10) (.const (.int .i64 1))), none⟩,
 ⟨some 5, (.mov (.tmp 11)), none⟩]))))))
 (.seq (.region none 0 [⟨some 4, (.mov (.const (.bool false))), none⟩])
 .ret)))⟩
/-- splicery/spliceryref04.ValidType -/
def m37 : MF := ⟨2, 8, [.tmp 4],
 (.seq (.region none 2 [⟨some 2, (.box 0 (.tmp 0)), none⟩,
 ⟨some 3, (.box 1 (.tmp 1)), none⟩,
 ⟨some 4, (.mov (.const (.bool false))), none⟩])
 (.seq (.region none 0 [⟨some 5, (.load (some 2) (.tmp 2)), none⟩,
 ⟨some 6, (.load (some 5) (.tmp 3)), none⟩,
 ⟨some 7, (.call (.fn 87) [(.tmp 5), (.tmp 6), (.const (.int .i64 1))] [] none), none⟩,
 ⟨some 4, (.mov (.tmp 7)), none⟩])
 .ret))⟩
/-- splicery/value.SameType -/
def m38 : MF := ⟨2, 24, [.tmp 4],
 (.seq (.region none 2 [⟨some 2, (.box 0 (.tmp 0)), none⟩,
 ⟨some 3, (.box 1 (.tmp 1)), none⟩,
 ⟨some 4, (.mov (.const (.bool false))), none⟩])
 (.seq (.region none 0 [⟨some 5, (.fieldAddr 0 (.tmp 2)), none⟩,
 ⟨some 6, (.load none (.tmp 5)), none⟩,
 ⟨some 7, (.fieldAddr 0 (.tmp 3)), none⟩,
 ⟨some 8, (.load none (.tmp 7)), none⟩,
 ⟨some 9, (.bin .eql (.tmp 6) (.tmp 8)), none⟩,
 ⟨some 10, (.mov (.tmp 9)), none⟩,
 ⟨some 11, (.fieldAddr 1 (.tmp 2)), (some (10, true))⟩,
 ⟨some 12, (.load (some 3) (.tmp 11)), (some (10, true))⟩,
 ⟨some 13, (.fieldAddr 1 (.tmp 3)), (some (10, true))⟩,
 ⟨some 14, (.load (some 3) (.tmp 13)), (some (10, true))⟩,
 ⟨some 15, (.eqv false [1, 1, 1] (.tmp 12) (.tmp 14)), (some (10, true))⟩,
 ⟨some 16, (.pick (.tmp 10) (.tmp 15) (.const (.bool false))), none⟩,
 ⟨some 17, (.mov (.tmp 16)), none⟩,
 ⟨some 18, (.fieldAddr 4 (.tmp 2)), (some (17, true))⟩,
 ⟨some 19, (.load none (.tmp 18)), (some (17, true))⟩,
 ⟨some 20, (.fieldAddr 4 (.tmp 3)), (some (17, true))⟩,
 ⟨some 21, (.load none (.tmp 20)), (some (17, true))⟩,
 ⟨some 22, (.call (.fn 88) [(.tmp 19), (.tmp 21), (.fn 38)] [] none), (some (17, true))⟩,
 ⟨some 23, (.pick (.tmp 17) (.tmp 22) (.const (.bool false))), none⟩,
 ⟨some 4, (.mov (.tmp 23)), none⟩])
 .ret))⟩
/-- splicery/value.Def -/
def m40 : MF := ⟨2, 19, [.cell 4 (some 31), .tmp 5],
 (.seq (.region none 3 [⟨some 2, (.box 0 (.tmp 0)), none⟩,
 ⟨some 3, (.box 1 (.tmp 1)), none⟩,
 ⟨some 4, (.alloc 2 [.int .i64 0, .int .i64 0, .int .i64 0, .int .i64 0, .int .i64 0, .int .i64 0, .int .i64 0, .str [], .nils 11, .int .i64 0, .int .i64 0, .int .i64 0, .int .i64 0, .nils 5, .int .i64 0, .int .i64 0, .int .i64 0, .int .i64 0, .int .i64 0, .int .i64 0, .int .i64 0, .int .i64 0, .int .i64 0, .int .i64 0, .int .i64 0, .int .i64 0, .nils 5, .nils 15, .nils 1, .int .i64 0, .nils 1]), none⟩,
 ⟨some 5, (.mov (.const (.bool false))), none⟩])
 (.seq (.region none 0 [⟨some 7, (.fieldAddr 1 (.tmp 2)), none⟩,
 ⟨some 8, (.load none (.tmp 7)), none⟩,
 ⟨some 9, (.mkFn 90 [(.tmp 3)]), none⟩,
 ⟨some 10, (.call (.fn 89) [(.tmp 8), (.tmp 9)] [] none), none⟩,
 ⟨some 6, (.mov (.tmp 10)), none⟩])
 (.seq (.seq (.region none 0 [⟨some 11, (.mov (.tmp 6)), none⟩,
 ⟨some 12, (.bin .lss (.tmp 11) (.const (.int .i64 0))), none⟩])
 (.cond (.tmp 12) (.seq (.region none 0 [⟨some 13, (.build [.int .i64 0, .int .i64 0, .int .i64 0, .int .i64 0, .int .i64 0, .int .i64 0, .int .i64 0, .str [], .nils 11, .int .i64 0, .int .i64 0, .int .i64 0, .int .i64 0, .nils 5, .int .i64 0, .int .i64 0, .int .i64 0, .int .i64 0, .int .i64 0, .int .i64 0, .int .i64 0, .int .i64 0, .int .i64 0, .int .i64 0, .int .i64 0, .int .i64 0, .nils 5, .nils 15, .nils 1, .int .i64 0, .nils 1] []), none⟩,
 ⟨none, (.store 31 (.tmp 4) (.tmp 13)), none⟩,
 ⟨some 5, (.mov (.const (.bool false))), none⟩])
 .ret)
 .skip))
 (.seq (.region none 0 [⟨some 14, (.fieldAddr 1 (.tmp 2)), none⟩,
 ⟨some 15, (.load none (.tmp 14)), none⟩,
 ⟨some 16, (.mov (.tmp 6)), none⟩,
 ⟨some 17, (.indexAddrL 31 (.tmp 15) (.tmp 16)), none⟩,
 ⟨some 18, (.load (some 31) (.tmp 17)), none⟩,
 ⟨none, (.store 31 (.tmp 4) (.tmp 18)), none⟩,
 ⟨some 5, (.mov (.const (.bool true))), none⟩])
 .ret))))⟩
/-- splicery/spliceryref04.Def -/
def m41 : MF := ⟨2, 28, [.cell 4 (some 31), .tmp 5],
 (.seq (.region none 3 [⟨some 2, (.box 0 (.tmp 0)), none⟩,
 ⟨some 3, (.box 1 (.tmp 1)), none⟩,
 ⟨some 4, (.alloc 2 [.int .i64 0, .int .i64 0, .int .i64 0, .int .i64 0, .int .i64 0, .int .i64 0, .int .i64 0, .str [], .nils 11, .int .i64 0, .int .i64 0, .int .i64 0, .int .i64 0, .nils 5, .int .i64 0, .int .i64 0, .int .i64 0, .int .i64 0, .int .i64 0, .int .i64 0, .int .i64 0, .int .i64 0, .int .i64 0, .int .i64 0, .int .i64 0, .int .i64 0, .nils 5, .nils 15, .nils 1, .int .i64 0, .nils 1]), none⟩,
 ⟨some 5, (.mov (.const (.bool false))), none⟩])
 (.seq (.seq (.region none 0 [⟨some 6, (.mov (.const (.int .i64 0))), none⟩])
 (.block 0 (.loop (.seq (.seq (.region none 0 [⟨some 7, (.mov (.tmp 6)), none⟩,
 ⟨some 8, (.fieldAddr 1 (.tmp 2)), none⟩,
 ⟨some 9, (.load none (.tmp 8)), none⟩,
 ⟨some 10, (.len (.tmp 9)), none⟩,
 ⟨some 11, (.bin .lss (.tmp 7) (.tmp 10)), none⟩])
 (.cond (.tmp 11) .skip
 (.exit 0)))
 (.seq (.block 1 (.seq (.region (some ([], [])) 0 [⟨some 14, (.fieldAddr 1 (.tmp 2)), none⟩,
 ⟨some 15, (.load none (.tmp 14)), none⟩,
 ⟨some 16, (.mov (.tmp 6)), none⟩,
 ⟨some 17, (.indexAddrL 31 (.tmp 15) (.tmp 16)), none⟩,
 ⟨some 18, (.fieldAddr 0 (.tmp 17)), none⟩,
 ⟨some 19, (.load (some 3) (.tmp 18)), none⟩,
 ⟨some 20, (.load (some 3) (.tmp 3)), none⟩,
 ⟨some 21, (.eqv false [1, 1, 1] (.tmp 19) (.tmp 20)), none⟩])
 (.cond (.tmp 21) (.seq (.region none 0 [⟨some 22, (.fieldAddr 1 (.tmp 2)), none⟩,
 ⟨some 23, (.load none (.tmp 22)), none⟩,
 ⟨some 24, (.mov (.tmp 6)), none⟩,
 ⟨some 25, (.indexAddrL 31 (.tmp 23) (.tmp 24)), none⟩,
 ⟨some 26, (.load (some 31) (.tmp 25)), none⟩,
 ⟨none, (.store 31 (.tmp 4) (.tmp 26)), none⟩,
 ⟨some 5, (.mov (.const (.bool true))), none⟩])
 .ret)
 .skip)))
 (.region none 0 [⟨some 12, (.mov (.tmp 6)), none⟩,
 ⟨some 13, (.bin .add (.tmp 12) (.const (.int .i64 1))), none⟩,
 ⟨some 6, (.mov (.tmp 13)), none⟩]))))))
 (.seq (.region none 0 [⟨some 27, (.build [.int .i64 0, .int .i64 0, .int .i64 0, .int .i64 0, .int .i64 0, .int .i64 0, .int .i64 0, .str [], .nils 11, .int .i64 0, .int .i64 0, .int .i64 0, .int .i64 0, .nils 5, .int .i64 0, .int .i64 0, .int .i64 0, .int .i64 0, .int .i64 0, .int .i64 0, .int .i64 0, .int .i64 0, .int .i64 0, .int .i64 0, .int .i64 0, .int .i64 0, .nils 5, .nils 15, .nils 1, .int .i64 0, .nils 1] []), none⟩,
 ⟨none, (.store 31 (.tmp 4) (.tmp 27)), none⟩,
 ⟨some 5, (.mov (.const (.bool false))), none⟩])
 .ret)))⟩
/-- splicery/splicerylaw04.lives -/
def m42 : MF := ⟨0, 195, [.tmp 0],
 (.seq (.region none 0 [⟨some 0, (.mov (.const (.bool false))), none⟩])
 (.seq (.region none 1 [⟨some 22, (.call (.fn 91) [] [] none), none⟩,
 ⟨some 1, (.alloc 0 [.nils 6, .nils 31]), none⟩,
 ⟨none, (.store 2 (.tmp 1) (.tmp 22)), none⟩])
 (.seq (.region none 1 [⟨some 23, (.call (.fn 35) [(.const (.int .i64 1))] [] none), none⟩,
 ⟨some 24, (.call (.fn 34) [(.tmp 23)] [] none), none⟩,
 ⟨some 2, (.alloc 0 [.int .i64 0, .int .i64 0, .int .i64 0, .int .i64 0, .nils 5]), none⟩,
 ⟨none, (.store 5 (.tmp 2) (.tmp 24)), none⟩])
 (.seq (.region none 1 [⟨some 25, (.call (.fn 35) [(.const (.int .i64 2))] [] none), none⟩,
 ⟨some 26, (.call (.fn 34) [(.tmp 25)] [] none), none⟩,
 ⟨some 3, (.alloc 0 [.int .i64 0, .int .i64 0, .int .i64 0, .int .i64 0, .nils 5]), none⟩,
 ⟨none, (.store 5 (.tmp 3) (.tmp 26)), none⟩])
 (.seq (.region none 1 [⟨some 28, (.load (some 2) (.tmp 1)), none⟩,
 ⟨some 29, (.load (some 5) (.tmp 2)), none⟩,
 ⟨some 30, (.call (.fn 53) [(.tmp 28), (.tmp 29)] [] none), none⟩,
 ⟨some 27, (.mov (.tmp 30)), none⟩,
 ⟨some 31, (.extract (.tmp 27) 0), none⟩,
 ⟨some 32, (.extract (.tmp 27) 1), none⟩,
 ⟨some 4, (.alloc 0 [.int .i64 0, .int .i64 0, .nils 3]), none⟩,
 ⟨none, (.store 3 (.tmp 4) (.tmp 31)), none⟩,
 ⟨some 5, (.mov (.tmp 32)), none⟩])
 (.seq (.region none 1 [⟨some 34, (.load (some 2) (.tmp 1)), none⟩,
 ⟨some 35, (.load (some 5) (.tmp 3)), none⟩,
 ⟨some 36, (.call (.fn 53) [(.tmp 34), (.tmp 35)] [] none), none⟩,
 ⟨some 33, (.mov (.tmp 36)), none⟩,
 ⟨some 37, (.extract (.tmp 33) 0), none⟩,
 ⟨some 38, (.extract (.tmp 33) 1), none⟩,
 ⟨some 6, (.alloc 0 [.int .i64 0, .int .i64 0, .nils 3]), none⟩,
 ⟨none, (.store 3 (.tmp 6) (.tmp 37)), none⟩,
 ⟨some 7, (.mov (.tmp 38)), none⟩])
 (.seq (.region none 3 [⟨some 39, (.call (.fn 46) [(.const (.int .i64 1))] [] none), none⟩,
 ⟨some 40, (.call (.fn 46) [(.const (.int .i64 (-2)))] [] none), none⟩,
 ⟨some 41, (.lit 0 3 [[.int .i64 0, .int .i64 0, .nils 3], [.int .i64 0, .int .i64 0, .nils 3]] [(0, (.tmp 39)), (1, (.tmp 40))]), none⟩,
 ⟨some 42, (.build [.int .i64 0, .int .i64 0, .nils 3] [(0, 1, (.const (.int .i64 2))), (2, 1, (.tmp 41))]), none⟩,
 ⟨some 43, (.lit 1 3 [[.int .i64 0, .int .i64 0, .nils 3]] [(0, (.tmp 42))]), none⟩,
 ⟨some 44, (.build [.int .i64 0, .int .i64 0, .nils 3] [(0, 1, (.const (.int .i64 3))), (1, 1, (.const (.int .i64 1))), (2, 1, (.tmp 43))]), none⟩,
 ⟨some 8, (.alloc 2 [.int .i64 0, .int .i64 0, .nils 3]), none⟩,
 ⟨none, (.store 3 (.tmp 8) (.tmp 44)), none⟩])
 (.seq (.region none 2 [⟨some 45, (.call (.fn 46) [(.const (.int .i64 1))] [] none), none⟩,
 ⟨some 46, (.lit 0 3 [[.int .i64 0, .int .i64 0, .nils 3]] [(0, (.tmp 45))]), none⟩,
 ⟨some 47, (.build [.int .i64 0, .int .i64 0, .nils 3] [(0, 1, (.const (.int .i64 3))), (1, 1, (.const (.int .i64 1))), (2, 1, (.tmp 46))]), none⟩,
 ⟨some 9, (.alloc 1 [.int .i64 0, .int .i64 0, .nils 3]), none⟩,
 ⟨none, (.store 3 (.tmp 9) (.tmp 47)), none⟩])
 (.seq (.region none 2 [⟨some 48, (.call (.fn 46) [(.const (.int .i64 3))] [] none), none⟩,
 ⟨some 49, (.call (.fn 46) [(.const (.int .i64 0))] [] none), none⟩,
 ⟨some 50, (.lit 0 3 [[.int .i64 0, .int .i64 0, .nils 3], [.int .i64 0, .int .i64 0, .nils 3]] [(0, (.tmp 48)), (1, (.tmp 49))]), none⟩,
 ⟨some 51, (.build [.int .i64 0, .int .i64 0, .nils 3] [(0, 1, (.const (.int .i64 4))), (2, 1, (.tmp 50))]), none⟩,
 ⟨some 10, (.alloc 1 [.int .i64 0, .int .i64 0, .nils 3]), none⟩,
 ⟨none, (.store 3 (.tmp 10) (.tmp 51)), none⟩])
 (.seq (.region none 2 [⟨some 52, (.call (.fn 46) [(.const (.int .i64 9))] [] none), none⟩,
 ⟨some 53, (.lit 0 3 [[.int .i64 0, .int .i64 0, .nils 3]] [(0, (.tmp 52))]), none⟩,
 ⟨some 54, (.build [.int .i64 0, .int .i64 0, .nils 3] [(0, 1, (.const (.int .i64 4))), (2, 1, (.tmp 53))]), none⟩,
 ⟨some 11, (.alloc 1 [.int .i64 0, .int .i64 0, .nils 3]), none⟩,
 ⟨none, (.store 3 (.tmp 11) (.tmp 54)), none⟩])
 (.seq (.region none 2 [⟨some 55, (.call (.fn 46) [(.const (.int .i64 1))] [] none), none⟩,
 ⟨some 56, (.call (.fn 46) [(.const (.int .i64 1))] [] none), none⟩,
 ⟨some 57, (.lit 0 3 [[.int .i64 0, .int .i64 0, .nils 3], [.int .i64 0, .int .i64 0, .nils 3]] [(0, (.tmp 55)), (1, (.tmp 56))]), none⟩,
 ⟨some 58, (.build [.int .i64 0, .int .i64 0, .nils 3] [(0, 1, (.const (.int .i64 4))), (2, 1, (.tmp 57))]), none⟩,
 ⟨some 12, (.alloc 1 [.int .i64 0, .int .i64 0, .nils 3]), none⟩,
 ⟨none, (.store 3 (.tmp 12) (.tmp 58)), none⟩])
 (.seq (.region none 2 [⟨some 59, (.call (.fn 46) [(.const (.int .i64 0))] [] none), none⟩,
 ⟨some 60, (.call (.fn 46) [(.const (.int .i64 0))] [] none), none⟩,
 ⟨some 61, (.lit 0 3 [[.int .i64 0, .int .i64 0, .nils 3], [.int .i64 0, .int .i64 0, .nils 3]] [(0, (.tmp 59)), (1, (.tmp 60))]), none⟩,
 ⟨some 62, (.build [.int .i64 0, .int .i64 0, .nils 3] [(0, 1, (.const (.int .i64 2))), (2, 1, (.tmp 61))]), none⟩,
 ⟨some 13, (.alloc 1 [.int .i64 0, .int .i64 0, .nils 3]), none⟩,
 ⟨none, (.store 3 (.tmp 13) (.tmp 62)), none⟩])
 (.seq (.region none 1 [⟨some 63, (.call (.fn 46) [(.const (.int .i64 5))] [] none), none⟩,
 ⟨some 64, (.lit 0 3 [[.int .i64 0, .int .i64 0, .nils 3]] [(0, (.tmp 63))]), none⟩,
 ⟨some 65, (.build [.int .i64 0, .int .i64 0, .nils 3] [(0, 1, (.const (.int .i64 4))), (2, 1, (.tmp 64))]), none⟩,
 ⟨some 66, (.call (.fn 57) [(.tmp 65)] [] none), none⟩,
 ⟨some 14, (.mov (.tmp 66)), none⟩])
 (.seq (.region none 1 [⟨some 68, (.mov (.tmp 14)), none⟩,
 ⟨some 69, (.call (.fn 59) [(.tmp 68)] [] none), none⟩,
 ⟨some 67, (.mov (.tmp 69)), none⟩,
 ⟨some 70, (.extract (.tmp 67) 0), none⟩,
 ⟨some 71, (.extract (.tmp 67) 1), none⟩,
 ⟨some 72, (.extract (.tmp 67) 2), none⟩,
 ⟨some 15, (.alloc 0 [.int .i64 0, .int .i64 0, .nils 3]), none⟩,
 ⟨none, (.store 3 (.tmp 15) (.tmp 70)), none⟩,
 ⟨some 16, (.mov (.tmp 71)), none⟩,
 ⟨some 17, (.mov (.tmp 72)), none⟩])
 (.seq (.seq (.region none 1 [⟨some 73, (.mov (.tmp 5)), none⟩,
 ⟨some 74, (.bin .neq (.tmp 73) (.const (.int .i64 0))), none⟩,
 ⟨some 75, (.mov (.tmp 74)), none⟩,
 ⟨some 76, (.mov (.tmp 7)), (some (75, false))⟩,
 ⟨some 77, (.bin .neq (.tmp 76) (.const (.int .i64 0))), (some (75, false))⟩,
 ⟨some 78, (.pick (.tmp 75) (.const (.bool true)) (.tmp 77)), none⟩,
 ⟨some 79, (.mov (.tmp 78)), none⟩,
 ⟨some 80, (.mov (.tmp 17)), (some (79, false))⟩,
 ⟨some 81, (.bin .neq (.tmp 80) (.const (.int .i64 0))), (some (79, false))⟩,
 ⟨some 82, (.pick (.tmp 79) (.const (.bool true)) (.tmp 81)), none⟩,
 ⟨some 83, (.mov (.tmp 82)), none⟩,
 ⟨some 84, (.mov (.tmp 16)), (some (83, false))⟩,
 ⟨some 85, (.bin .neq (.tmp 84) (.const (.int .i64 9))), (some (83, false))⟩,
 ⟨some 86, (.pick (.tmp 83) (.const (.bool true)) (.tmp 85)), none⟩,
 ⟨some 87, (.mov (.tmp 86)), none⟩,
 ⟨some 88, (.mov (.tmp 14)), (some (87, false))⟩,
 ⟨some 89, (.convStr (.tmp 88)), (some (87, false))⟩,
 ⟨some 90, (.lit 0 1 (List.replicate 9 [.int .u8 0]) [(0, (.const (.int .u8 129))), (1, (.const (.int .u8 4))), (2, (.const (.int .u8 128))), (3, (.const (.int .u8 129))), (4, (.const (.int .u8 1))), (5, (.const (.int .u8 128))), (6, (.const (.int .u8 129))), (7, (.const (.int .u8 5))), (8, (.const (.int .u8 128)))]), (some (87, false))⟩,
 ⟨some 91, (.convStr (.tmp 90)), (some (87, false))⟩,
 ⟨some 92, (.bin .neq (.tmp 89) (.tmp 91)), (some (87, false))⟩,
 ⟨some 93, (.pick (.tmp 87) (.const (.bool true)) (.tmp 92)), none⟩,
 ⟨some 94, (.mov (.tmp 93)), none⟩,
 ⟨some 95, (.fieldAddr 2 (.tmp 15)), (some (94, false))⟩,
 ⟨some 96, (.load none (.tmp 95)), (some (94, false))⟩,
 ⟨some 97, (.len (.tmp 96)), (some (94, false))⟩,
 ⟨some 98, (.bin .neq (.tmp 97) (.const (.int .i64 1))), (some (94, false))⟩,
 ⟨some 99, (.pick (.tmp 94) (.const (.bool true)) (.tmp 98)), none⟩])
 (.cond (.tmp 99) (.seq (.region none 0 [⟨some 0, (.mov (.const (.bool false))), none⟩])
 .ret)
 .skip))
 (.seq (.region (some ([(0, 1), (0, 6), (1, 6), (2, 6)], [])) 1 [⟨some 101, (.load (some 2) (.tmp 1)), none⟩,
 ⟨some 102, (.call (.fn 35) [(.const (.int .i64 2))] [] none), none⟩,
 ⟨some 103, (.call (.fn 40) [(.tmp 101), (.tmp 102)] [] none), none⟩,
 ⟨some 100, (.mov (.tmp 103)), none⟩,
 ⟨some 104, (.extract (.tmp 100) 0), none⟩,
 ⟨some 105, (.extract (.tmp 100) 1), none⟩,
 ⟨some 18, (.alloc 0 [.int .i64 0, .int .i64 0, .int .i64 0, .int .i64 0, .int .i64 0, .int .i64 0, .int .i64 0, .str [], .nils 11, .int .i64 0, .int .i64 0, .int .i64 0, .int .i64 0, .nils 5, .int .i64 0, .int .i64 0, .int .i64 0, .int .i64 0, .int .i64 0, .int .i64 0, .int .i64 0, .int .i64 0, .int .i64 0, .int .i64 0, .int .i64 0, .int .i64 0, .nils 5, .nils 15, .nils 1, .int .i64 0, .nils 1]), none⟩,
 ⟨none, (.store 31 (.tmp 18) (.tmp 104)), none⟩,
 ⟨some 19, (.mov (.tmp 105)), none⟩])
 (.seq (.region (some ([(4, 5), (4, 6)], [2, 7, 13, 18])) 0 [⟨some 106, (.load (some 2) (.tmp 1)), none⟩,
 ⟨some 107, (.load (some 5) (.tmp 3)), none⟩,
 ⟨some 108, (.call (.fn 36) [(.tmp 106), (.tmp 107)] [] none), none⟩,
 ⟨some 109, (.mov (.tmp 108)), none⟩,
 ⟨some 110, (.load (some 2) (.tmp 1)), (some (109, true))⟩,
 ⟨some 111, (.call (.fn 35) [(.const (.int .i64 3))] [] none), (some (109, true))⟩,
 ⟨some 112, (.call (.fn 34) [(.tmp 111)] [] none), (some (109, true))⟩,
 ⟨some 113, (.call (.fn 36) [(.tmp 110), (.tmp 112)] [] none), (some (109, true))⟩,
 ⟨some 114, (.un .not (.tmp 113)), (some (109, true))⟩,
 ⟨some 115, (.pick (.tmp 109) (.tmp 114) (.const (.bool false))), none⟩,
 ⟨some 116, (.mov (.tmp 115)), none⟩,
 ⟨some 117, (.load (some 5) (.tmp 3)), (some (116, true))⟩,
 ⟨some 118, (.load (some 5) (.tmp 3)), (some (116, true))⟩,
 ⟨some 119, (.call (.fn 38) [(.tmp 117), (.tmp 118)] [] none), (some (116, true))⟩,
 ⟨some 120, (.pick (.tmp 116) (.tmp 119) (.const (.bool false))), none⟩,
 ⟨some 121, (.mov (.tmp 120)), none⟩,
 ⟨some 122, (.load (some 5) (.tmp 3)), (some (121, true))⟩,
 ⟨some 123, (.load (some 5) (.tmp 2)), (some (121, true))⟩,
 ⟨some 124, (.call (.fn 38) [(.tmp 122), (.tmp 123)] [] none), (some (121, true))⟩,
 ⟨some 125, (.un .not (.tmp 124)), (some (121, true))⟩,
 ⟨some 126, (.pick (.tmp 121) (.tmp 125) (.const (.bool false))), none⟩,
 ⟨some 20, (.mov (.tmp 126)), none⟩])
 (.seq (.region none 0 [⟨some 127, (.call (.fn 46) [(.const (.int .i64 2))] [] none), none⟩,
 ⟨some 128, (.build [.int .i64 0, .int .i64 0, .nils 3] [(0, 1, (.const (.int .i64 1))), (1, 1, (.const (.int .i64 1)))]), none⟩,
 ⟨some 129, (.call (.fn 51) [(.tmp 127), (.tmp 128)] [] none), none⟩,
 ⟨some 130, (.bin .eql (.tmp 129) (.const (.int .i64 (-1)))), none⟩,
 ⟨some 131, (.mov (.tmp 130)), none⟩,
 ⟨some 132, (.load (some 3) (.tmp 11)), (some (131, true))⟩,
 ⟨some 133, (.load (some 3) (.tmp 12)), (some (131, true))⟩,
 ⟨some 134, (.call (.fn 51) [(.tmp 132), (.tmp 133)] [] none), (some (131, true))⟩,
 ⟨some 135, (.bin .eql (.tmp 134) (.const (.int .i64 (-1)))), (some (131, true))⟩,
 ⟨some 136, (.pick (.tmp 131) (.tmp 135) (.const (.bool false))), none⟩,
 ⟨some 137, (.mov (.tmp 136)), none⟩,
 ⟨some 138, (.load (some 3) (.tmp 12)), (some (137, true))⟩,
 ⟨some 139, (.load (some 3) (.tmp 11)), (some (137, true))⟩,
 ⟨some 140, (.call (.fn 51) [(.tmp 138), (.tmp 139)] [] none), (some (137, true))⟩,
 ⟨some 141, (.bin .eql (.tmp 140) (.const (.int .i64 1))), (some (137, true))⟩,
 ⟨some 142, (.pick (.tmp 137) (.tmp 141) (.const (.bool false))), none⟩,
 ⟨some 21, (.mov (.tmp 142)), none⟩])
 (.seq (.region (some ([(18, 19), (18, 20)], [15, 22, 28, 34, 39, 44, 49])) 1 [⟨some 143, (.mov (.tmp 20)), none⟩,
 ⟨some 144, (.mov (.tmp 143)), none⟩,
 ⟨some 145, (.mov (.tmp 21)), (some (144, true))⟩,
 ⟨some 146, (.pick (.tmp 144) (.tmp 145) (.const (.bool false))), none⟩,
 ⟨some 147, (.mov (.tmp 146)), none⟩,
 ⟨some 148, (.mov (.tmp 19)), (some (147, true))⟩,
 ⟨some 149, (.pick (.tmp 147) (.tmp 148) (.const (.bool false))), none⟩,
 ⟨some 150, (.mov (.tmp 149)), none⟩,
 ⟨some 151, (.fieldAddr 7 (.tmp 18)), (some (150, true))⟩,
 ⟨some 152, (.load none (.tmp 151)), (some (150, true))⟩,
 ⟨some 153, (.bin .eql (.tmp 152) (.const (.str [83, 104, 97, 112, 101]))), (some (150, true))⟩,
 ⟨some 154, (.pick (.tmp 150) (.tmp 153) (.const (.bool false))), none⟩,
 ⟨some 155, (.mov (.tmp 154)), none⟩,
 ⟨some 156, (.load (some 3) (.tmp 4)), (some (155, true))⟩,
 ⟨some 157, (.load (some 3) (.tmp 13)), (some (155, true))⟩,
 ⟨some 158, (.call (.fn 55) [(.tmp 156), (.tmp 157)] [] none), (some (155, true))⟩,
 ⟨some 159, (.pick (.tmp 155) (.tmp 158) (.const (.bool false))), none⟩,
 ⟨some 160, (.mov (.tmp 159)), none⟩,
 ⟨some 161, (.load (some 3) (.tmp 6)), (some (160, true))⟩,
 ⟨some 162, (.call (.fn 46) [(.const (.int .i64 0))] [] none), (some (160, true))⟩,
 ⟨some 163, (.lit 0 3 [[.int .i64 0, .int .i64 0, .nils 3]] [(0, (.tmp 162))]), (some (160, true))⟩,
 ⟨some 164, (.build [.int .i64 0, .int .i64 0, .nils 3] [(0, 1, (.const (.int .i64 3))), (2, 1, (.tmp 163))]), (some (160, true))⟩,
 ⟨some 165, (.call (.fn 55) [(.tmp 161), (.tmp 164)] [] none), (some (160, true))⟩,
 ⟨some 166, (.pick (.tmp 160) (.tmp 165) (.const (.bool false))), none⟩,
 ⟨some 167, (.mov (.tmp 166)), none⟩,
 ⟨some 168, (.load (some 2) (.tmp 1)), (some (167, true))⟩,
 ⟨some 169, (.load (some 5) (.tmp 3)), (some (167, true))⟩,
 ⟨some 170, (.load (some 3) (.tmp 8)), (some (167, true))⟩,
 ⟨some 171, (.call (.fn 44) [(.tmp 168), (.tmp 169), (.tmp 170)] [] none), (some (167, true))⟩,
 ⟨some 172, (.pick (.tmp 167) (.tmp 171) (.const (.bool false))), none⟩,
 ⟨some 173, (.mov (.tmp 172)), none⟩,
 ⟨some 174, (.load (some 2) (.tmp 1)), (some (173, true))⟩,
 ⟨some 175, (.load (some 5) (.tmp 3)), (some (173, true))⟩,
 ⟨some 176, (.load (some 3) (.tmp 9)), (some (173, true))⟩,
 ⟨some 177, (.call (.fn 44) [(.tmp 174), (.tmp 175), (.tmp 176)] [] none), (some (173, true))⟩,
 ⟨some 178, (.un .not (.tmp 177)), (some (173, true))⟩,
 ⟨some 179, (.pick (.tmp 173) (.tmp 178) (.const (.bool false))), none⟩,
 ⟨some 180, (.mov (.tmp 179)), none⟩,
 ⟨some 181, (.load (some 3) (.tmp 8)), (some (180, true))⟩,
 ⟨some 182, (.call (.fn 49) [(.tmp 181)] [] none), (some (180, true))⟩,
 ⟨some 183, (.bin .eql (.tmp 182) (.const (.int .i64 4))), (some (180, true))⟩,
 ⟨some 184, (.pick (.tmp 180) (.tmp 183) (.const (.bool false))), none⟩,
 ⟨some 185, (.mov (.tmp 184)), none⟩,
 ⟨some 186, (.load (some 3) (.tmp 10)), (some (185, true))⟩,
 ⟨some 187, (.call (.fn 49) [(.tmp 186)] [] none), (some (185, true))⟩,
 ⟨some 188, (.bin .eql (.tmp 187) (.const (.int .i64 5))), (some (185, true))⟩,
 ⟨some 189, (.pick (.tmp 185) (.tmp 188) (.const (.bool false))), none⟩,
 ⟨some 190, (.mov (.tmp 189)), none⟩,
 ⟨some 191, (.load (some 3) (.tmp 8)), (some (190, true))⟩,
 ⟨some 192, (.call (.fn 47) [(.tmp 191)] [] none), (some (190, true))⟩,
 ⟨some 193, (.bin .eql (.tmp 192) (.const (.int .i64 4))), (some (190, true))⟩,
 ⟨some 194, (.pick (.tmp 190) (.tmp 193) (.const (.bool false))), none⟩,
 ⟨some 0, (.mov (.tmp 194)), none⟩])
 .ret)))))))))))))))))))⟩
/-- splicery/value.Valid -/
def m44 : MF := ⟨3, 15, [.tmp 6],
 (.seq (.region none 3 [⟨some 3, (.box 0 (.tmp 0)), none⟩,
 ⟨some 4, (.box 1 (.tmp 1)), none⟩,
 ⟨some 5, (.box 2 (.tmp 2)), none⟩,
 ⟨some 6, (.mov (.const (.bool false))), none⟩])
 (.seq (.region none 0 [⟨some 7, (.load (some 3) (.tmp 5)), none⟩,
 ⟨some 8, (.call (.fn 92) [(.tmp 7)] [] none), none⟩,
 ⟨some 9, (.mov (.tmp 8)), none⟩,
 ⟨some 10, (.load (some 2) (.tmp 3)), (some (9, true))⟩,
 ⟨some 11, (.load (some 5) (.tmp 4)), (some (9, true))⟩,
 ⟨some 12, (.load (some 3) (.tmp 5)), (some (9, true))⟩,
 ⟨some 13, (.call (.fn 93) [(.tmp 10), (.tmp 11), (.tmp 12)] [] none), (some (9, true))⟩,
 ⟨some 14, (.pick (.tmp 9) (.tmp 13) (.const (.bool false))), none⟩,
 ⟨some 6, (.mov (.tmp 14)), none⟩])
 .ret))⟩
/-- splicery/splicerylaw04.num -/
def m46 : MF := ⟨1, 5, [.cell 2 (some 3)],
 (.seq (.region none 1 [⟨some 2, (.alloc 0 [.int .i64 0, .int .i64 0, .nils 3]), none⟩])
 (.seq (.region none 0 [⟨some 3, (.mov (.tmp 0)), none⟩,
 ⟨some 4, (.build [.int .i64 0, .int .i64 0, .nils 3] [(0, 1, (.const (.int .i64 0))), (1, 1, (.tmp 3))]), none⟩,
 ⟨none, (.store 3 (.tmp 2) (.tmp 4)), none⟩])
 .ret))⟩
/-- splicery/value.Size -/
def m47 : MF := ⟨1, 19, [.tmp 2],
 (.seq (.region none 1 [⟨some 1, (.box 0 (.tmp 0)), none⟩,
 ⟨some 2, (.mov (.const (.int .i64 0))), none⟩])
 (.seq (.region none 0 [⟨some 3, (.mov (.const (.int .i64 1))), none⟩])
 (.seq (.seq (.region none 0 [⟨some 6, (.fieldAddr 2 (.tmp 1)), none⟩,
 ⟨some 7, (.load none (.tmp 6)), none⟩,
 ⟨some 8, (.len (.tmp 7)), none⟩,
 ⟨some 9, (.mov (.const (.int .i64 0))), none⟩])
 (.block 0 (.loop (.seq (.region none 0 [⟨some 10, (.bin .lss (.tmp 9) (.tmp 8)), none⟩])
 (.seq (.cond (.tmp 10) .skip
 (.exit 0))
 (.seq (.block 1 (.seq (.region none 1 [⟨some 11, (.indexAddrL 3 (.tmp 7) (.tmp 9)), none⟩,
 ⟨some 12, (.load (some 3) (.tmp 11)), none⟩,
 ⟨some 5, (.alloc 0 [.int .i64 0, .int .i64 0, .nils 3]), none⟩,
 ⟨none, (.store 3 (.tmp 5) (.tmp 12)), none⟩])
 (.region none 0 [⟨some 13, (.mov (.tmp 3)), none⟩,
 ⟨some 14, (.load (some 3) (.tmp 5)), none⟩,
 ⟨some 15, (.call (.fn 47) [(.tmp 14)] [] none), none⟩,
 ⟨some 16, (.bin .add (.tmp 13) (.tmp 15)), none⟩,
 ⟨some 3, (.mov (.tmp 16)), none⟩])))
 (.region none 0 [⟨some 17, (.bin .add (.tmp 9) (.const (.int .i64 1))), none⟩,
 ⟨some 9, (.mov (.tmp 17)), none⟩])))))))
 (.seq (.region none 0 [⟨some 18, (.mov (.tmp 3)), none⟩,
 ⟨some 2, (.mov (.tmp 18)), none⟩])
 .ret))))⟩
/-- splicery/spliceryref04.Size -/
def m48 : MF := ⟨1, 21, [.tmp 2],
 (.seq (.region none 1 [⟨some 1, (.box 0 (.tmp 0)), none⟩,
 ⟨some 2, (.mov (.const (.int .i64 0))), none⟩])
 (.seq (.region none 0 [⟨some 3, (.mov (.const (.int .i64 1))), none⟩])
 (.seq (.seq (.region none 0 [⟨some 4, (.mov (.const (.int .i64 0))), none⟩])
 (.block 0 (.loop (.seq (.seq (.region none 0 [⟨some 5, (.mov (.tmp 4)), none⟩,
 ⟨some 6, (.fieldAddr 2 (.tmp 1)), none⟩,
 ⟨some 7, (.load none (.tmp 6)), none⟩,
 ⟨some 8, (.len (.tmp 7)), none⟩,
 ⟨some 9, (.bin .lss (.tmp 5) (.tmp 8)), none⟩])
 (.cond (.tmp 9) .skip
 (.exit 0)))
 (.seq (.block 1 (.region none 0 [⟨some 12, (.mov (.tmp 3)), none⟩,
 ⟨some 13, (.fieldAddr 2 (.tmp 1)), none⟩,
 ⟨some 14, (.load none (.tmp 13)), none⟩,
 ⟨some 15, (.mov (.tmp 4)), none⟩,
 ⟨some 16, (.indexAddrL 3 (.tmp 14) (.tmp 15)), none⟩,
 ⟨some 17, (.load (some 3) (.tmp 16)), none⟩,
 ⟨some 18, (.call (.fn 48) [(.tmp 17)] [] none), none⟩,
 ⟨some 19, (.bin .add (.tmp 12) (.tmp 18)), none⟩,
 ⟨some 3, (.mov (.tmp 19)), none⟩]))
 (.region none 0 [⟨some 10, (.mov (.tmp 4)), none⟩,
 ⟨some 11, (.bin .add (.tmp 10) (.const (.int .i64 1))), none⟩,
 ⟨some 4, (.mov (.tmp 11)), none⟩]))))))
 (.seq (.region none 0 [⟨some 20, (.mov (.tmp 3)), none⟩,
 ⟨some 2, (.mov (.tmp 20)), none⟩])
 .ret))))⟩
/-- splicery/value.Weight -/
def m49 : MF := ⟨1, 38, [.tmp 2],
 (.seq (.region none 1 [⟨some 1, (.box 0 (.tmp 0)), none⟩,
 ⟨some 2, (.mov (.const (.int .i64 0))), none⟩])
 (.seq (.seq (.region none 0 [⟨some 6, (.fieldAddr 0 (.tmp 1)), none⟩,
 ⟨some 7, (.load none (.tmp 6)), none⟩,
 ⟨some 8, (.bin .lss (.tmp 7) (.const (.int .i64 0))), none⟩,
 ⟨some 9, (.mov (.tmp 8)), none⟩,
 ⟨some 10, (.fieldAddr 0 (.tmp 1)), (some (9, false))⟩,
 ⟨some 11, (.load none (.tmp 10)), (some (9, false))⟩,
 ⟨some 12, (.bin .gtr (.tmp 11) (.const (.int .i64 4))), (some (9, false))⟩,
 ⟨some 13, (.pick (.tmp 9) (.const (.bool true)) (.tmp 12)), none⟩])
 (.cond (.tmp 13) (.seq (.region none 0 [⟨some 2, (.mov (.const (.int .i64 0))), none⟩])
 .ret)
 .skip))
 (.seq (.region none 0 [⟨some 14, (.load (some 3) (.tmp 1)), none⟩,
 ⟨some 15, (.call (.fn 95) [(.tmp 14)] [] none), none⟩,
 ⟨some 3, (.mov (.tmp 15)), none⟩])
 (.seq (.seq (.region none 0 [⟨some 16, (.fieldAddr 0 (.tmp 1)), none⟩,
 ⟨some 17, (.load none (.tmp 16)), none⟩,
 ⟨some 18, (.bin .eql (.tmp 17) (.const (.int .i64 0))), none⟩,
 ⟨some 19, (.mov (.tmp 18)), none⟩,
 ⟨some 20, (.fieldAddr 0 (.tmp 1)), (some (19, false))⟩,
 ⟨some 21, (.load none (.tmp 20)), (some (19, false))⟩,
 ⟨some 22, (.bin .eql (.tmp 21) (.const (.int .i64 1))), (some (19, false))⟩,
 ⟨some 23, (.pick (.tmp 19) (.const (.bool true)) (.tmp 22)), none⟩])
 (.cond (.tmp 23) (.seq (.region none 0 [⟨some 24, (.mov (.tmp 3)), none⟩,
 ⟨some 2, (.mov (.tmp 24)), none⟩])
 .ret)
 .skip))
 (.seq (.seq (.region none 0 [⟨some 25, (.fieldAddr 2 (.tmp 1)), none⟩,
 ⟨some 26, (.load none (.tmp 25)), none⟩,
 ⟨some 27, (.len (.tmp 26)), none⟩,
 ⟨some 28, (.mov (.const (.int .i64 0))), none⟩])
 (.block 0 (.loop (.seq (.region none 0 [⟨some 29, (.bin .lss (.tmp 28) (.tmp 27)), none⟩])
 (.seq (.cond (.tmp 29) .skip
 (.exit 0))
 (.seq (.block 1 (.seq (.region none 1 [⟨some 30, (.indexAddrL 3 (.tmp 26) (.tmp 28)), none⟩,
 ⟨some 31, (.load (some 3) (.tmp 30)), none⟩,
 ⟨some 5, (.alloc 0 [.int .i64 0, .int .i64 0, .nils 3]), none⟩,
 ⟨none, (.store 3 (.tmp 5) (.tmp 31)), none⟩])
 (.region none 0 [⟨some 32, (.mov (.tmp 3)), none⟩,
 ⟨some 33, (.load (some 3) (.tmp 5)), none⟩,
 ⟨some 34, (.call (.fn 49) [(.tmp 33)] [] none), none⟩,
 ⟨some 35, (.bin .add (.tmp 32) (.tmp 34)), none⟩,
 ⟨some 3, (.mov (.tmp 35)), none⟩])))
 (.region none 0 [⟨some 36, (.bin .add (.tmp 28) (.const (.int .i64 1))), none⟩,
 ⟨some 28, (.mov (.tmp 36)), none⟩])))))))
 (.seq (.region none 0 [⟨some 37, (.mov (.tmp 3)), none⟩,
 ⟨some 2, (.mov (.tmp 37)), none⟩])
 .ret))))))⟩
/-- splicery/value.Compare -/
def m51 : MF := ⟨2, 33, [.tmp 4],
 (.seq (.region none 2 [⟨some 2, (.box 0 (.tmp 0)), none⟩,
 ⟨some 3, (.box 1 (.tmp 1)), none⟩,
 ⟨some 4, (.mov (.const (.int .i64 0))), none⟩])
 (.seq (.seq (.region (some ([(4, 6), (4, 8), (4, 11), (9, 11), (4, 14), (9, 14)], [16, 18])) 0 [⟨some 6, (.fieldAddr 0 (.tmp 2)), none⟩,
 ⟨some 7, (.load none (.tmp 6)), none⟩,
 ⟨some 8, (.fieldAddr 0 (.tmp 3)), none⟩,
 ⟨some 9, (.load none (.tmp 8)), none⟩,
 ⟨some 10, (.call (.fn 97) [(.tmp 7), (.tmp 9)] [] none), none⟩,
 ⟨some 11, (.fieldAddr 1 (.tmp 2)), none⟩,
 ⟨some 12, (.load none (.tmp 11)), none⟩,
 ⟨some 13, (.fieldAddr 1 (.tmp 3)), none⟩,
 ⟨some 14, (.load none (.tmp 13)), none⟩,
 ⟨some 15, (.call (.fn 97) [(.tmp 12), (.tmp 14)] [] none), none⟩,
 ⟨some 16, (.fieldAddr 2 (.tmp 2)), none⟩,
 ⟨some 17, (.load none (.tmp 16)), none⟩,
 ⟨some 18, (.len (.tmp 17)), none⟩,
 ⟨some 19, (.fieldAddr 2 (.tmp 3)), none⟩,
 ⟨some 20, (.load none (.tmp 19)), none⟩,
 ⟨some 21, (.len (.tmp 20)), none⟩,
 ⟨some 22, (.call (.fn 97) [(.tmp 18), (.tmp 21)] [] none), none⟩,
 ⟨some 23, (.ilit 1 [[.int .i64 0], [.int .i64 0], [.int .i64 0]] [(0, (.tmp 10)), (1, (.tmp 15)), (2, (.tmp 22))]), none⟩,
 ⟨some 24, (.call (.fn 96) [(.tmp 23)] [] none), none⟩,
 ⟨some 5, (.mov (.tmp 24)), none⟩])
 (.seq (.region none 0 [⟨some 25, (.mov (.tmp 5)), none⟩,
 ⟨some 26, (.bin .neq (.tmp 25) (.const (.int .i64 0))), none⟩])
 (.cond (.tmp 26) (.seq (.region none 0 [⟨some 27, (.mov (.tmp 5)), none⟩,
 ⟨some 4, (.mov (.tmp 27)), none⟩])
 .ret)
 .skip)))
 (.seq (.region none 0 [⟨some 28, (.fieldAddr 2 (.tmp 2)), none⟩,
 ⟨some 29, (.load none (.tmp 28)), none⟩,
 ⟨some 30, (.fieldAddr 2 (.tmp 3)), none⟩,
 ⟨some 31, (.load none (.tmp 30)), none⟩,
 ⟨some 32, (.call (.fn 98) [(.tmp 29), (.tmp 31), (.fn 51)] [] none), none⟩,
 ⟨some 4, (.mov (.tmp 32)), none⟩])
 .ret)))⟩
/-- splicery/spliceryref04.Compare -/
def m52 : MF := ⟨2, 69, [.tmp 4],
 (.seq (.region none 2 [⟨some 2, (.box 0 (.tmp 0)), none⟩,
 ⟨some 3, (.box 1 (.tmp 1)), none⟩,
 ⟨some 4, (.mov (.const (.int .i64 0))), none⟩])
 (.seq (.region none 1 [⟨some 10, (.fieldAddr 0 (.tmp 2)), none⟩,
 ⟨some 11, (.load none (.tmp 10)), none⟩,
 ⟨some 12, (.fieldAddr 1 (.tmp 2)), none⟩,
 ⟨some 13, (.load none (.tmp 12)), none⟩,
 ⟨some 14, (.fieldAddr 2 (.tmp 2)), none⟩,
 ⟨some 15, (.load none (.tmp 14)), none⟩,
 ⟨some 16, (.len (.tmp 15)), none⟩,
 ⟨some 17, (.lit 0 1 [[.int .i64 0], [.int .i64 0], [.int .i64 0]] [(0, (.tmp 11)), (1, (.tmp 13)), (2, (.tmp 16))]), none⟩,
 ⟨some 5, (.mov (.tmp 17)), none⟩])
 (.seq (.region none 1 [⟨some 18, (.fieldAddr 0 (.tmp 3)), none⟩,
 ⟨some 19, (.load none (.tmp 18)), none⟩,
 ⟨some 20, (.fieldAddr 1 (.tmp 3)), none⟩,
 ⟨some 21, (.load none (.tmp 20)), none⟩,
 ⟨some 22, (.fieldAddr 2 (.tmp 3)), none⟩,
 ⟨some 23, (.load none (.tmp 22)), none⟩,
 ⟨some 24, (.len (.tmp 23)), none⟩,
 ⟨some 25, (.lit 0 1 [[.int .i64 0], [.int .i64 0], [.int .i64 0]] [(0, (.tmp 19)), (1, (.tmp 21)), (2, (.tmp 24))]), none⟩,
 ⟨some 6, (.mov (.tmp 25)), none⟩])
 (.seq (.seq (.region none 0 [⟨some 7, (.mov (.const (.int .i64 0))), none⟩])
 (.block 0 (.loop (.seq (.seq (.region none 0 [⟨some 26, (.mov (.tmp 7)), none⟩,
 ⟨some 27, (.bin .lss (.tmp 26) (.const (.int .i64 3))), none⟩])
 (.cond (.tmp 27) .skip
 (.exit 0)))
 (.seq (.block 1 (.seq (.seq (.region (some ([], [])) 0 [⟨some 30, (.mov (.tmp 5)), none⟩,
 ⟨some 31, (.mov (.tmp 7)), none⟩,
 ⟨some 32, (.indexAddrL 1 (.tmp 30) (.tmp 31)), none⟩,
 ⟨some 33, (.load none (.tmp 32)), none⟩,
 ⟨some 34, (.mov (.tmp 6)), none⟩,
 ⟨some 35, (.mov (.tmp 7)), none⟩,
 ⟨some 36, (.indexAddrL 1 (.tmp 34) (.tmp 35)), none⟩,
 ⟨some 37, (.load none (.tmp 36)), none⟩,
 ⟨some 38, (.bin .lss (.tmp 33) (.tmp 37)), none⟩])
 (.cond (.tmp 38) (.seq (.region none 0 [⟨some 4, (.mov (.const (.int .i64 (-1)))), none⟩])
 .ret)
 .skip))
 (.seq (.region (some ([], [])) 0 [⟨some 39, (.mov (.tmp 5)), none⟩,
 ⟨some 40, (.mov (.tmp 7)), none⟩,
 ⟨some 41, (.indexAddrL 1 (.tmp 39) (.tmp 40)), none⟩,
 ⟨some 42, (.load none (.tmp 41)), none⟩,
 ⟨some 43, (.mov (.tmp 6)), none⟩,
 ⟨some 44, (.mov (.tmp 7)), none⟩,
 ⟨some 45, (.indexAddrL 1 (.tmp 43) (.tmp 44)), none⟩,
 ⟨some 46, (.load none (.tmp 45)), none⟩,
 ⟨some 47, (.bin .gtr (.tmp 42) (.tmp 46)), none⟩])
 (.cond (.tmp 47) (.seq (.region none 0 [⟨some 4, (.mov (.const (.int .i64 1))), none⟩])
 .ret)
 .skip))))
 (.region none 0 [⟨some 28, (.mov (.tmp 7)), none⟩,
 ⟨some 29, (.bin .add (.tmp 28) (.const (.int .i64 1))), none⟩,
 ⟨some 7, (.mov (.tmp 29)), none⟩]))))))
 (.seq (.seq (.region none 0 [⟨some 8, (.mov (.const (.int .i64 0))), none⟩])
 (.block 2 (.loop (.seq (.seq (.region none 0 [⟨some 48, (.mov (.tmp 8)), none⟩,
 ⟨some 49, (.fieldAddr 2 (.tmp 2)), none⟩,
 ⟨some 50, (.load none (.tmp 49)), none⟩,
 ⟨some 51, (.len (.tmp 50)), none⟩,
 ⟨some 52, (.bin .lss (.tmp 48) (.tmp 51)), none⟩])
 (.cond (.tmp 52) .skip
 (.exit 2)))
 (.seq (.block 3 (.seq (.region (some ([], [10])) 0 [⟨some 55, (.fieldAddr 2 (.tmp 2)), none⟩,
 ⟨some 56, (.load none (.tmp 55)), none⟩,
 ⟨some 57, (.mov (.tmp 8)), none⟩,
 ⟨some 58, (.indexAddrL 3 (.tmp 56) (.tmp 57)), none⟩,
 ⟨some 59, (.load (some 3) (.tmp 58)), none⟩,
 ⟨some 60, (.fieldAddr 2 (.tmp 3)), none⟩,
 ⟨some 61, (.load none (.tmp 60)), none⟩,
 ⟨some 62, (.mov (.tmp 8)), none⟩,
 ⟨some 63, (.indexAddrL 3 (.tmp 61) (.tmp 62)), none⟩,
 ⟨some 64, (.load (some 3) (.tmp 63)), none⟩,
 ⟨some 65, (.call (.fn 52) [(.tmp 59), (.tmp 64)] [] none), none⟩,
 ⟨some 9, (.mov (.tmp 65)), none⟩])
 (.seq (.region none 0 [⟨some 66, (.mov (.tmp 9)), none⟩,
 ⟨some 67, (.bin .neq (.tmp 66) (.const (.int .i64 0))), none⟩])
 (.cond (.tmp 67) (.seq (.region none 0 [⟨some 68, (.mov (.tmp 9)), none⟩,
 ⟨some 4, (.mov (.tmp 68)), none⟩])
 .ret)
 .skip))))
 (.region none 0 [⟨some 53, (.mov (.tmp 8)), none⟩,
 ⟨some 54, (.bin .add (.tmp 53) (.const (.int .i64 1))), none⟩,
 ⟨some 8, (.mov (.tmp 54)), none⟩]))))))
 (.seq (.region none 0 [⟨some 4, (.mov (.const (.int .i64 0))), none⟩])
 .ret))))))⟩
/-- splicery/value.Zero -/
def m53 : MF := ⟨2, 14, [.cell 4 (some 3), .tmp 5],
 (.seq (.region none 3 [⟨some 2, (.box 0 (.tmp 0)), none⟩,
 ⟨some 3, (.box 1 (.tmp 1)), none⟩,
 ⟨some 4, (.alloc 2 [.int .i64 0, .int .i64 0, .nils 3]), none⟩,
 ⟨some 5, (.mov (.const (.int .i64 0))), none⟩])
 (.seq (.region none 1 [⟨some 6, (.alloc 0 [.int .i64 0]), none⟩,
 ⟨none, (.store 1 (.tmp 6) (.const (.int .i64 256))), none⟩])
 (.seq (.region none 1 [⟨some 7, (.alloc 0 [.nilf]), none⟩])
 (.seq (.region none 0 [⟨some 8, (.mkFn 99 [(.tmp 2), (.tmp 6), (.tmp 7)]), none⟩,
 ⟨none, (.store 1 (.tmp 7) (.tmp 8)), none⟩])
 (.seq (.region none 0 [⟨some 9, (.load none (.tmp 7)), none⟩,
 ⟨some 10, (.load (some 5) (.tmp 3)), none⟩,
 ⟨some 11, (.call (.tmp 9) [(.tmp 10), (.const (.int .i64 1))] [false, false, true, true, true, true, true, true, true, true] none), none⟩,
 ⟨some 12, (.extract (.tmp 11) 0), none⟩,
 ⟨some 13, (.extract (.tmp 11) 1), none⟩,
 ⟨none, (.store 3 (.tmp 4) (.tmp 12)), none⟩,
 ⟨some 5, (.mov (.tmp 13)), none⟩])
 .ret)))))⟩
/-- splicery/spliceryref04.Zero -/
def m54 : MF := ⟨2, 21, [.cell 4 (some 3), .tmp 5],
 (.seq (.region none 3 [⟨some 2, (.box 0 (.tmp 0)), none⟩,
 ⟨some 3, (.box 1 (.tmp 1)), none⟩,
 ⟨some 4, (.alloc 2 [.int .i64 0, .int .i64 0, .nils 3]), none⟩,
 ⟨some 5, (.mov (.const (.int .i64 0))), none⟩])
 (.seq (.region none 1 [⟨some 10, (.load (some 2) (.tmp 2)), none⟩,
 ⟨some 11, (.load (some 5) (.tmp 3)), none⟩,
 ⟨some 12, (.call (.fn 100) [(.tmp 10), (.tmp 11), (.const (.int .i64 1)), (.const (.int .i64 0))] [] none), none⟩,
 ⟨some 9, (.mov (.tmp 12)), none⟩,
 ⟨some 13, (.extract (.tmp 9) 0), none⟩,
 ⟨some 14, (.extract (.tmp 9) 1), none⟩,
 ⟨some 15, (.extract (.tmp 9) 2), none⟩,
 ⟨some 6, (.alloc 0 [.int .i64 0, .int .i64 0, .nils 3]), none⟩,
 ⟨none, (.store 3 (.tmp 6) (.tmp 13)), none⟩,
 ⟨some 7, (.mov (.tmp 14)), none⟩,
 ⟨some 8, (.mov (.tmp 15)), none⟩])
 (.seq (.seq (.region none 0 [⟨some 16, (.mov (.tmp 8)), none⟩,
 ⟨some 17, (.bin .neq (.tmp 16) (.const (.int .i64 0))), none⟩])
 (.cond (.tmp 17) (.seq (.region none 0 [⟨some 18, (.build [.int .i64 0, .int .i64 0, .nils 3] []), none⟩,
 ⟨some 19, (.mov (.tmp 8)), none⟩,
 ⟨none, (.store 3 (.tmp 4) (.tmp 18)), none⟩,
 ⟨some 5, (.mov (.tmp 19)), none⟩])
 .ret)
 .skip))
 (.seq (.region none 0 [⟨some 20, (.load (some 3) (.tmp 6)), none⟩,
 ⟨none, (.store 3 (.tmp 4) (.tmp 20)), none⟩,
 ⟨some 5, (.mov (.const (.int .i64 0))), none⟩])
 .ret))))⟩
/-- splicery/splicerylaw04.same -/
def m55 : MF := ⟨2, 9, [.tmp 4],
 (.seq (.region none 2 [⟨some 2, (.box 0 (.tmp 0)), none⟩,
 ⟨some 3, (.box 1 (.tmp 1)), none⟩,
 ⟨some 4, (.mov (.const (.bool false))), none⟩])
 (.seq (.region none 0 [⟨some 5, (.load (some 3) (.tmp 2)), none⟩,
 ⟨some 6, (.load (some 3) (.tmp 3)), none⟩,
 ⟨some 7, (.call (.fn 52) [(.tmp 5), (.tmp 6)] [] none), none⟩,
 ⟨some 8, (.bin .eql (.tmp 7) (.const (.int .i64 0))), none⟩,
 ⟨some 4, (.mov (.tmp 8)), none⟩])
 .ret))⟩
/-- splicery/value.Encode -/
def m57 : MF := ⟨1, 31, [.tmp 2],
 (.seq (.region none 1 [⟨some 1, (.box 0 (.tmp 0)), none⟩,
 ⟨some 2, (.mov (.const (.nils 1))), none⟩])
 (.seq (.region (some ([(2, 4), (2, 7), (5, 7)], [9, 11])) 1 [⟨some 6, (.fieldAddr 0 (.tmp 1)), none⟩,
 ⟨some 7, (.load none (.tmp 6)), none⟩,
 ⟨some 8, (.call (.fn 103) [(.tmp 7)] [] none), none⟩,
 ⟨some 9, (.fieldAddr 1 (.tmp 1)), none⟩,
 ⟨some 10, (.load none (.tmp 9)), none⟩,
 ⟨some 11, (.call (.fn 103) [(.tmp 10)] [] none), none⟩,
 ⟨some 12, (.fieldAddr 2 (.tmp 1)), none⟩,
 ⟨some 13, (.load none (.tmp 12)), none⟩,
 ⟨some 14, (.len (.tmp 13)), none⟩,
 ⟨some 15, (.call (.fn 103) [(.tmp 14)] [] none), none⟩,
 ⟨some 16, (.ilit 1 [[.nils 1], [.nils 1], [.nils 1]] [(0, (.tmp 8)), (1, (.tmp 11)), (2, (.tmp 15))]), none⟩,
 ⟨some 17, (.call (.fn 102) [(.tmp 16)] [] (some 0)), none⟩,
 ⟨some 3, (.mov (.tmp 17)), none⟩])
 (.seq (.seq (.region none 0 [⟨some 18, (.fieldAddr 2 (.tmp 1)), none⟩,
 ⟨some 19, (.load none (.tmp 18)), none⟩,
 ⟨some 20, (.len (.tmp 19)), none⟩,
 ⟨some 21, (.mov (.const (.int .i64 0))), none⟩])
 (.block 0 (.loop (.seq (.region none 0 [⟨some 22, (.bin .lss (.tmp 21) (.tmp 20)), none⟩])
 (.seq (.cond (.tmp 22) .skip
 (.exit 0))
 (.seq (.block 1 (.seq (.region none 1 [⟨some 23, (.indexAddrL 3 (.tmp 19) (.tmp 21)), none⟩,
 ⟨some 24, (.load (some 3) (.tmp 23)), none⟩,
 ⟨some 5, (.alloc 0 [.int .i64 0, .int .i64 0, .nils 3]), none⟩,
 ⟨none, (.store 3 (.tmp 5) (.tmp 24)), none⟩])
 (.region none 1 [⟨some 25, (.mov (.tmp 3)), none⟩,
 ⟨some 26, (.load (some 3) (.tmp 5)), none⟩,
 ⟨some 27, (.call (.fn 57) [(.tmp 26)] [] none), none⟩,
 ⟨some 28, (.append 0 1 1 (.tmp 25) (.tmp 27)), none⟩,
 ⟨some 3, (.mov (.tmp 28)), none⟩])))
 (.region none 0 [⟨some 29, (.bin .add (.tmp 21) (.const (.int .i64 1))), none⟩,
 ⟨some 21, (.mov (.tmp 29)), none⟩])))))))
 (.seq (.region none 0 [⟨some 30, (.mov (.tmp 3)), none⟩,
 ⟨some 2, (.mov (.tmp 30)), none⟩])
 .ret))))⟩
/-- splicery/value.Decode -/
def m59 : MF := ⟨1, 22, [.cell 2 (some 3), .tmp 3, .tmp 4],
 (.seq (.region none 2 [⟨some 1, (.box 0 (.tmp 0)), none⟩,
 ⟨some 2, (.alloc 1 [.int .i64 0, .int .i64 0, .nils 3]), none⟩,
 ⟨some 3, (.mov (.const (.int .i64 0))), none⟩,
 ⟨some 4, (.mov (.const (.int .i64 0))), none⟩])
 (.seq (.region none 2 [⟨some 5, (.alloc 0 [.int .i64 0]), none⟩,
 ⟨some 6, (.alloc 1 [.int .i64 0]), none⟩,
 ⟨none, (.store 1 (.tmp 5) (.const (.int .i64 256))), none⟩,
 ⟨none, (.store 1 (.tmp 6) (.const (.int .i64 0))), none⟩])
 (.seq (.region none 1 [⟨some 7, (.alloc 0 [.nilf]), none⟩])
 (.seq (.region none 0 [⟨some 10, (.mkFn 104 [(.tmp 5), (.tmp 1), (.tmp 6), (.tmp 7)]), none⟩,
 ⟨none, (.store 1 (.tmp 7) (.tmp 10)), none⟩])
 (.seq (.region none 1 [⟨some 12, (.load none (.tmp 7)), none⟩,
 ⟨some 13, (.call (.tmp 12) [(.const (.int .i64 1))] [false, true, true, true, true, true, true, true, true] none), none⟩,
 ⟨some 11, (.mov (.tmp 13)), none⟩,
 ⟨some 14, (.extract (.tmp 11) 0), none⟩,
 ⟨some 15, (.extract (.tmp 11) 1), none⟩,
 ⟨some 8, (.alloc 0 [.int .i64 0, .int .i64 0, .nils 3]), none⟩,
 ⟨none, (.store 3 (.tmp 8) (.tmp 14)), none⟩,
 ⟨some 9, (.mov (.tmp 15)), none⟩])
 (.seq (.seq (.region none 0 [⟨some 16, (.mov (.tmp 9)), none⟩,
 ⟨some 17, (.bin .neq (.tmp 16) (.const (.int .i64 0))), none⟩])
 (.cond (.tmp 17) (.seq (.region none 0 [⟨some 18, (.build [.int .i64 0, .int .i64 0, .nils 3] []), none⟩,
 ⟨some 19, (.mov (.tmp 9)), none⟩,
 ⟨none, (.store 3 (.tmp 2) (.tmp 18)), none⟩,
 ⟨some 3, (.mov (.const (.int .i64 0))), none⟩,
 ⟨some 4, (.mov (.tmp 19)), none⟩])
 .ret)
 .skip))
 (.seq (.region (some ([(1, 2)], [])) 0 [⟨some 20, (.load (some 3) (.tmp 8)), none⟩,
 ⟨some 21, (.load none (.tmp 6)), none⟩,
 ⟨none, (.store 3 (.tmp 2) (.tmp 20)), none⟩,
 ⟨some 3, (.mov (.tmp 21)), none⟩,
 ⟨some 4, (.mov (.const (.int .i64 0))), none⟩])
 .ret)))))))⟩
/-- splicery/spliceryref01.At -/
def m61 : MF := ⟨3, 21, [.tmp 6],
 (.seq (.region none 0 [⟨some 6, (.mov (.const (.int .i64 0))), none⟩])
 (.seq (.seq (.region none 0 [⟨some 7, (.mov (.tmp 1)), none⟩,
 ⟨some 8, (.bin .lss (.tmp 7) (.const (.int .i64 0))), none⟩,
 ⟨some 9, (.mov (.tmp 8)), none⟩,
 ⟨some 10, (.mov (.tmp 1)), (some (9, false))⟩,
 ⟨some 11, (.mov (.tmp 0)), (some (9, false))⟩,
 ⟨some 12, (.len (.tmp 11)), (some (9, false))⟩,
 ⟨some 13, (.bin .geq (.tmp 10) (.tmp 12)), (some (9, false))⟩,
 ⟨some 14, (.pick (.tmp 9) (.const (.bool true)) (.tmp 13)), none⟩])
 (.cond (.tmp 14) (.seq (.region none 0 [⟨some 6, (.mov (.const (.int .i64 0))), none⟩])
 .ret)
 .skip))
 (.seq (.region none 0 [⟨some 15, (.mov (.tmp 0)), none⟩,
 ⟨some 16, (.mov (.tmp 1)), none⟩,
 ⟨some 17, (.indexAddrL 1 (.tmp 15) (.tmp 16)), none⟩,
 ⟨some 18, (.load none (.tmp 17)), none⟩,
 ⟨some 19, (.mov (.tmp 2)), none⟩,
 ⟨some 20, (.call (.fn 28) [(.tmp 18), (.tmp 19)] [] none), none⟩,
 ⟨some 6, (.mov (.tmp 20)), none⟩])
 .ret)))⟩
/-- splicery/spliceryref04.Make -/
def m81 : MF := ⟨5, 169, [.cell 10 (some 3), .tmp 11],
 (.seq (.region none 3 [⟨some 5, (.box 0 (.tmp 0)), none⟩,
 ⟨some 6, (.box 1 (.tmp 1)), none⟩,
 ⟨some 10, (.alloc 2 [.int .i64 0, .int .i64 0, .nils 3]), none⟩,
 ⟨some 11, (.mov (.const (.int .i64 0))), none⟩])
 (.seq (.region none 0 [⟨some 25, (.mov (.tmp 2)), none⟩,
 ⟨some 26, (.mov (.tmp 3)), none⟩,
 ⟨some 27, (.call (.fn 61) [(.tmp 25), (.tmp 26), (.const (.int .i64 1048576))] [] none), none⟩,
 ⟨some 12, (.mov (.tmp 27)), none⟩])
 (.seq (.region none 0 [⟨some 28, (.mov (.tmp 3)), none⟩,
 ⟨some 29, (.bin .add (.tmp 28) (.const (.int .i64 1))), none⟩,
 ⟨some 3, (.mov (.tmp 29)), none⟩])
 (.seq (.seq (.region none 0 [⟨some 30, (.fieldAddr 0 (.tmp 6)), none⟩,
 ⟨some 31, (.load none (.tmp 30)), none⟩,
 ⟨some 32, (.bin .eql (.tmp 31) (.const (.int .i64 0))), none⟩])
 (.cond (.tmp 32) (.seq (.seq (.region none 0 [⟨some 33, (.mov (.tmp 12)), none⟩,
 ⟨some 34, (.bin .rem (.tmp 33) (.const (.int .i64 16))), none⟩,
 ⟨some 35, (.bin .eql (.tmp 34) (.const (.int .i64 0))), none⟩])
 (.cond (.tmp 35) (.seq (.region none 0 [⟨some 36, (.mov (.tmp 12)), none⟩,
 ⟨some 37, (.bin .quo (.tmp 36) (.const (.int .i64 16))), none⟩,
 ⟨some 38, (.bin .rem (.tmp 37) (.const (.int .i64 3))), none⟩,
 ⟨some 39, (.bin .sub (.const (.int .i64 1099511627776)) (.tmp 38)), none⟩,
 ⟨some 40, (.build [.int .i64 0, .int .i64 0, .nils 3] [(0, 1, (.const (.int .i64 0))), (1, 1, (.tmp 39))]), none⟩,
 ⟨some 41, (.mov (.tmp 3)), none⟩,
 ⟨none, (.store 3 (.tmp 10) (.tmp 40)), none⟩,
 ⟨some 11, (.mov (.tmp 41)), none⟩])
 .ret)
 .skip))
 (.seq (.seq (.region none 0 [⟨some 42, (.mov (.tmp 12)), none⟩,
 ⟨some 43, (.bin .rem (.tmp 42) (.const (.int .i64 16))), none⟩,
 ⟨some 44, (.bin .eql (.tmp 43) (.const (.int .i64 1))), none⟩])
 (.cond (.tmp 44) (.seq (.region none 0 [⟨some 45, (.mov (.tmp 12)), none⟩,
 ⟨some 46, (.bin .quo (.tmp 45) (.const (.int .i64 16))), none⟩,
 ⟨some 47, (.bin .rem (.tmp 46) (.const (.int .i64 3))), none⟩,
 ⟨some 48, (.bin .add (.const (.int .i64 (-1099511627776))) (.tmp 47)), none⟩,
 ⟨some 49, (.build [.int .i64 0, .int .i64 0, .nils 3] [(0, 1, (.const (.int .i64 0))), (1, 1, (.tmp 48))]), none⟩,
 ⟨some 50, (.mov (.tmp 3)), none⟩,
 ⟨none, (.store 3 (.tmp 10) (.tmp 49)), none⟩,
 ⟨some 11, (.mov (.tmp 50)), none⟩])
 .ret)
 .skip))
 (.seq (.region none 0 [⟨some 51, (.mov (.tmp 12)), none⟩,
 ⟨some 52, (.bin .quo (.tmp 51) (.const (.int .i64 16))), none⟩,
 ⟨some 53, (.bin .rem (.tmp 52) (.const (.int .i64 9))), none⟩,
 ⟨some 54, (.bin .sub (.tmp 53) (.const (.int .i64 4))), none⟩,
 ⟨some 55, (.build [.int .i64 0, .int .i64 0, .nils 3] [(0, 1, (.const (.int .i64 0))), (1, 1, (.tmp 54))]), none⟩,
 ⟨some 56, (.mov (.tmp 3)), none⟩,
 ⟨none, (.store 3 (.tmp 10) (.tmp 55)), none⟩,
 ⟨some 11, (.mov (.tmp 56)), none⟩])
 .ret)))
 .skip))
 (.seq (.seq (.region none 0 [⟨some 57, (.fieldAddr 0 (.tmp 6)), none⟩,
 ⟨some 58, (.load none (.tmp 57)), none⟩,
 ⟨some 59, (.bin .eql (.tmp 58) (.const (.int .i64 1))), none⟩])
 (.cond (.tmp 59) (.seq (.region none 0 [⟨some 60, (.mov (.tmp 12)), none⟩,
 ⟨some 61, (.bin .rem (.tmp 60) (.const (.int .i64 2))), none⟩,
 ⟨some 62, (.build [.int .i64 0, .int .i64 0, .nils 3] [(0, 1, (.const (.int .i64 1))), (1, 1, (.tmp 61))]), none⟩,
 ⟨some 63, (.mov (.tmp 3)), none⟩,
 ⟨none, (.store 3 (.tmp 10) (.tmp 62)), none⟩,
 ⟨some 11, (.mov (.tmp 63)), none⟩])
 .ret)
 .skip))
 (.seq (.region none 1 [⟨some 64, (.build [.int .i64 0, .int .i64 0, .nils 3] [(0, 1, (.const (.int .i64 4)))]), none⟩,
 ⟨some 13, (.alloc 0 [.int .i64 0, .int .i64 0, .nils 3]), none⟩,
 ⟨none, (.store 3 (.tmp 13) (.tmp 64)), none⟩])
 (.seq (.seq (.region none 0 [⟨some 65, (.fieldAddr 0 (.tmp 6)), none⟩,
 ⟨some 66, (.load none (.tmp 65)), none⟩,
 ⟨some 67, (.bin .eql (.tmp 66) (.const (.int .i64 2))), none⟩])
 (.cond (.tmp 67) (.seq (.region none 0 [⟨some 68, (.mov (.tmp 12)), none⟩,
 ⟨some 69, (.bin .rem (.tmp 68) (.const (.int .i64 3))), none⟩,
 ⟨some 14, (.mov (.tmp 69)), none⟩])
 (.seq (.seq (.region none 0 [⟨some 70, (.mov (.tmp 4)), none⟩,
 ⟨some 71, (.bin .gtr (.tmp 70) (.const (.int .i64 3))), none⟩])
 (.cond (.tmp 71) (.region none 0 [⟨some 14, (.mov (.const (.int .i64 0))), none⟩])
 .skip))
 (.seq (.seq (.region none 0 [⟨some 15, (.mov (.const (.int .i64 0))), none⟩])
 (.block 0 (.loop (.seq (.seq (.region none 0 [⟨some 72, (.mov (.tmp 15)), none⟩,
 ⟨some 73, (.mov (.tmp 14)), none⟩,
 ⟨some 74, (.bin .lss (.tmp 72) (.tmp 73)), none⟩])
 (.cond (.tmp 74) .skip
 (.exit 0)))
 (.seq (.block 1 (.seq (.region (some ([(0, 13), (2, 13), (3, 13), (4, 13), (9, 13)], [])) 1 [⟨some 78, (.load (some 2) (.tmp 5)), none⟩,
 ⟨some 79, (.fieldAddr 4 (.tmp 6)), none⟩,
 ⟨some 80, (.load none (.tmp 79)), none⟩,
 ⟨some 81, (.indexAddrL 5 (.tmp 80) (.const (.int .i64 0))), none⟩,
 ⟨some 82, (.load (some 5) (.tmp 81)), none⟩,
 ⟨some 83, (.mov (.tmp 2)), none⟩,
 ⟨some 84, (.mov (.tmp 3)), none⟩,
 ⟨some 85, (.mov (.tmp 4)), none⟩,
 ⟨some 86, (.bin .add (.tmp 85) (.const (.int .i64 1))), none⟩,
 ⟨some 87, (.call (.fn 81) [(.tmp 78), (.tmp 82), (.tmp 83), (.tmp 84), (.tmp 86)] [] none), none⟩,
 ⟨some 77, (.mov (.tmp 87)), none⟩,
 ⟨some 88, (.extract (.tmp 77) 0), none⟩,
 ⟨some 89, (.extract (.tmp 77) 1), none⟩,
 ⟨some 16, (.alloc 0 [.int .i64 0, .int .i64 0, .nils 3]), none⟩,
 ⟨none, (.store 3 (.tmp 16) (.tmp 88)), none⟩,
 ⟨some 17, (.mov (.tmp 89)), none⟩])
 (.seq (.region none 0 [⟨some 90, (.mov (.tmp 17)), none⟩,
 ⟨some 3, (.mov (.tmp 90)), none⟩])
 (.region none 1 [⟨some 91, (.fieldAddr 2 (.tmp 13)), none⟩,
 ⟨some 92, (.load none (.tmp 91)), none⟩,
 ⟨some 93, (.load (some 3) (.tmp 16)), none⟩,
 ⟨some 94, (.ilit 3 [[.int .i64 0, .int .i64 0, .nils 3]] [(0, (.tmp 93))]), none⟩,
 ⟨some 95, (.append 0 3 40 (.tmp 92) (.tmp 94)), none⟩,
 ⟨some 96, (.fieldAddr 2 (.tmp 13)), none⟩,
 ⟨none, (.store 1 (.tmp 96) (.tmp 95)), none⟩]))))
 (.region none 0 [⟨some 75, (.mov (.tmp 15)), none⟩,
 ⟨some 76, (.bin .add (.tmp 75) (.const (.int .i64 1))), none⟩,
 ⟨some 15, (.mov (.tmp 76)), none⟩]))))))
 (.seq (.region none 0 [⟨some 97, (.load (some 3) (.tmp 13)), none⟩,
 ⟨some 98, (.mov (.tmp 3)), none⟩,
 ⟨none, (.store 3 (.tmp 10) (.tmp 97)), none⟩,
 ⟨some 11, (.mov (.tmp 98)), none⟩])
 .ret))))
 .skip))
 (.seq (.region none 1 [⟨some 100, (.load (some 2) (.tmp 5)), none⟩,
 ⟨some 101, (.fieldAddr 1 (.tmp 6)), none⟩,
 ⟨some 102, (.load (some 3) (.tmp 101)), none⟩,
 ⟨some 103, (.call (.fn 41) [(.tmp 100), (.tmp 102)] [] none), none⟩,
 ⟨some 99, (.mov (.tmp 103)), none⟩,
 ⟨some 104, (.extract (.tmp 99) 0), none⟩,
 ⟨some 105, (.extract (.tmp 99) 1), none⟩,
 ⟨some 18, (.alloc 0 [.int .i64 0, .int .i64 0, .int .i64 0, .int .i64 0, .int .i64 0, .int .i64 0, .int .i64 0, .str [], .nils 11, .int .i64 0, .int .i64 0, .int .i64 0, .int .i64 0, .nils 5, .int .i64 0, .int .i64 0, .int .i64 0, .int .i64 0, .int .i64 0, .int .i64 0, .int .i64 0, .int .i64 0, .int .i64 0, .int .i64 0, .int .i64 0, .int .i64 0, .nils 5, .nils 15, .nils 1, .int .i64 0, .nils 1]), none⟩,
 ⟨none, (.store 31 (.tmp 18) (.tmp 104)), none⟩,
 ⟨some 19, (.mov (.tmp 105)), none⟩])
 (.seq (.seq (.region none 0 [⟨some 106, (.fieldAddr 3 (.tmp 18)), none⟩,
 ⟨some 107, (.load none (.tmp 106)), none⟩,
 ⟨some 108, (.bin .eql (.tmp 107) (.const (.int .i64 1))), none⟩])
 (.cond (.tmp 108) (.seq (.region none 0 [⟨some 109, (.fieldAddr 0 (.tmp 13)), none⟩,
 ⟨none, (.store 1 (.tmp 109) (.const (.int .i64 3))), none⟩])
 (.seq (.region none 0 [⟨some 110, (.mov (.tmp 12)), none⟩,
 ⟨some 111, (.fieldAddr 8 (.tmp 18)), none⟩,
 ⟨some 112, (.load none (.tmp 111)), none⟩,
 ⟨some 113, (.len (.tmp 112)), none⟩,
 ⟨some 114, (.bin .rem (.tmp 110) (.tmp 113)), none⟩,
 ⟨some 115, (.fieldAddr 1 (.tmp 13)), none⟩,
 ⟨none, (.store 1 (.tmp 115) (.tmp 114)), none⟩])
 (.seq (.region (some ([(0, 16), (2, 16), (4, 16), (5, 16), (7, 16), (12, 16)], [])) 1 [⟨some 117, (.load (some 2) (.tmp 5)), none⟩,
 ⟨some 118, (.fieldAddr 8 (.tmp 18)), none⟩,
 ⟨some 119, (.load none (.tmp 118)), none⟩,
 ⟨some 120, (.fieldAddr 1 (.tmp 13)), none⟩,
 ⟨some 121, (.load none (.tmp 120)), none⟩,
 ⟨some 122, (.indexAddrL 11 (.tmp 119) (.tmp 121)), none⟩,
 ⟨some 123, (.fieldAddr 4 (.tmp 122)), none⟩,
 ⟨some 124, (.load (some 5) (.tmp 123)), none⟩,
 ⟨some 125, (.mov (.tmp 2)), none⟩,
 ⟨some 126, (.mov (.tmp 3)), none⟩,
 ⟨some 127, (.mov (.tmp 4)), none⟩,
 ⟨some 128, (.bin .add (.tmp 127) (.const (.int .i64 1))), none⟩,
 ⟨some 129, (.call (.fn 81) [(.tmp 117), (.tmp 124), (.tmp 125), (.tmp 126), (.tmp 128)] [] none), none⟩,
 ⟨some 116, (.mov (.tmp 129)), none⟩,
 ⟨some 130, (.extract (.tmp 116) 0), none⟩,
 ⟨some 131, (.extract (.tmp 116) 1), none⟩,
 ⟨some 20, (.alloc 0 [.int .i64 0, .int .i64 0, .nils 3]), none⟩,
 ⟨none, (.store 3 (.tmp 20) (.tmp 130)), none⟩,
 ⟨some 21, (.mov (.tmp 131)), none⟩])
 (.seq (.region none 1 [⟨some 132, (.load (some 3) (.tmp 20)), none⟩,
 ⟨some 133, (.lit 0 3 [[.int .i64 0, .int .i64 0, .nils 3]] [(0, (.tmp 132))]), none⟩,
 ⟨some 134, (.fieldAddr 2 (.tmp 13)), none⟩,
 ⟨none, (.store 1 (.tmp 134) (.tmp 133)), none⟩])
 (.seq (.region none 0 [⟨some 135, (.load (some 3) (.tmp 13)), none⟩,
 ⟨some 136, (.mov (.tmp 21)), none⟩,
 ⟨none, (.store 3 (.tmp 10) (.tmp 135)), none⟩,
 ⟨some 11, (.mov (.tmp 136)), none⟩])
 .ret)))))
 .skip))
 (.seq (.region none 0 [⟨some 137, (.fieldAddr 0 (.tmp 13)), none⟩,
 ⟨none, (.store 1 (.tmp 137) (.const (.int .i64 2))), none⟩])
 (.seq (.seq (.region none 0 [⟨some 22, (.mov (.const (.int .i64 0))), none⟩])
 (.block 2 (.loop (.seq (.seq (.region none 0 [⟨some 138, (.mov (.tmp 22)), none⟩,
 ⟨some 139, (.fieldAddr 8 (.tmp 18)), none⟩,
 ⟨some 140, (.load none (.tmp 139)), none⟩,
 ⟨some 141, (.len (.tmp 140)), none⟩,
 ⟨some 142, (.bin .lss (.tmp 138) (.tmp 141)), none⟩])
 (.cond (.tmp 142) .skip
 (.exit 2)))
 (.seq (.block 3 (.seq (.region (some ([(0, 15), (2, 15), (4, 15), (6, 15), (11, 15)], [])) 1 [⟨some 146, (.load (some 2) (.tmp 5)), none⟩,
 ⟨some 147, (.fieldAddr 8 (.tmp 18)), none⟩,
 ⟨some 148, (.load none (.tmp 147)), none⟩,
 ⟨some 149, (.mov (.tmp 22)), none⟩,
 ⟨some 150, (.indexAddrL 11 (.tmp 148) (.tmp 149)), none⟩,
 ⟨some 151, (.fieldAddr 4 (.tmp 150)), none⟩,
 ⟨some 152, (.load (some 5) (.tmp 151)), none⟩,
 ⟨some 153, (.mov (.tmp 2)), none⟩,
 ⟨some 154, (.mov (.tmp 3)), none⟩,
 ⟨some 155, (.mov (.tmp 4)), none⟩,
 ⟨some 156, (.bin .add (.tmp 155) (.const (.int .i64 1))), none⟩,
 ⟨some 157, (.call (.fn 81) [(.tmp 146), (.tmp 152), (.tmp 153), (.tmp 154), (.tmp 156)] [] none), none⟩,
 ⟨some 145, (.mov (.tmp 157)), none⟩,
 ⟨some 158, (.extract (.tmp 145) 0), none⟩,
 ⟨some 159, (.extract (.tmp 145) 1), none⟩,
 ⟨some 23, (.alloc 0 [.int .i64 0, .int .i64 0, .nils 3]), none⟩,
 ⟨none, (.store 3 (.tmp 23) (.tmp 158)), none⟩,
 ⟨some 24, (.mov (.tmp 159)), none⟩])
 (.seq (.region none 0 [⟨some 160, (.mov (.tmp 24)), none⟩,
 ⟨some 3, (.mov (.tmp 160)), none⟩])
 (.region none 1 [⟨some 161, (.fieldAddr 2 (.tmp 13)), none⟩,
 ⟨some 162, (.load none (.tmp 161)), none⟩,
 ⟨some 163, (.load (some 3) (.tmp 23)), none⟩,
 ⟨some 164, (.ilit 3 [[.int .i64 0, .int .i64 0, .nils 3]] [(0, (.tmp 163))]), none⟩,
 ⟨some 165, (.append 0 3 40 (.tmp 162) (.tmp 164)), none⟩,
 ⟨some 166, (.fieldAddr 2 (.tmp 13)), none⟩,
 ⟨none, (.store 1 (.tmp 166) (.tmp 165)), none⟩]))))
 (.region none 0 [⟨some 143, (.mov (.tmp 22)), none⟩,
 ⟨some 144, (.bin .add (.tmp 143) (.const (.int .i64 1))), none⟩,
 ⟨some 22, (.mov (.tmp 144)), none⟩]))))))
 (.seq (.region none 0 [⟨some 167, (.load (some 3) (.tmp 13)), none⟩,
 ⟨some 168, (.mov (.tmp 3)), none⟩,
 ⟨none, (.store 3 (.tmp 10) (.tmp 167)), none⟩,
 ⟨some 11, (.mov (.tmp 168)), none⟩])
 .ret))))))))))))⟩
/-- splicery/spliceryref04.Depth -/
def m82 : MF := ⟨1, 22, [.tmp 2],
 (.seq (.region none 1 [⟨some 1, (.box 0 (.tmp 0)), none⟩,
 ⟨some 2, (.mov (.const (.int .i64 0))), none⟩])
 (.seq (.region none 0 [⟨some 3, (.mov (.const (.int .i64 0))), none⟩])
 (.seq (.seq (.region none 0 [⟨some 4, (.mov (.const (.int .i64 0))), none⟩])
 (.block 0 (.loop (.seq (.seq (.region none 0 [⟨some 5, (.mov (.tmp 4)), none⟩,
 ⟨some 6, (.fieldAddr 2 (.tmp 1)), none⟩,
 ⟨some 7, (.load none (.tmp 6)), none⟩,
 ⟨some 8, (.len (.tmp 7)), none⟩,
 ⟨some 9, (.bin .lss (.tmp 5) (.tmp 8)), none⟩])
 (.cond (.tmp 9) .skip
 (.exit 0)))
 (.seq (.block 1 (.region none 0 [⟨some 12, (.mov (.tmp 3)), none⟩,
 ⟨some 13, (.fieldAddr 2 (.tmp 1)), none⟩,
 ⟨some 14, (.load none (.tmp 13)), none⟩,
 ⟨some 15, (.mov (.tmp 4)), none⟩,
 ⟨some 16, (.indexAddrL 3 (.tmp 14) (.tmp 15)), none⟩,
 ⟨some 17, (.load (some 3) (.tmp 16)), none⟩,
 ⟨some 18, (.call (.fn 82) [(.tmp 17)] [] none), none⟩,
 ⟨some 19, (.mmax [(.tmp 12), (.tmp 18)]), none⟩,
 ⟨some 3, (.mov (.tmp 19)), none⟩]))
 (.region none 0 [⟨some 10, (.mov (.tmp 4)), none⟩,
 ⟨some 11, (.bin .add (.tmp 10) (.const (.int .i64 1))), none⟩,
 ⟨some 4, (.mov (.tmp 11)), none⟩]))))))
 (.seq (.region none 0 [⟨some 20, (.mov (.tmp 3)), none⟩,
 ⟨some 21, (.bin .add (.tmp 20) (.const (.int .i64 1))), none⟩,
 ⟨some 2, (.mov (.tmp 21)), none⟩])
 .ret))))⟩
/-- splicery/spliceryref04.validType -/
def m87 : MF := ⟨3, 73, [.tmp 6],
 (.seq (.region none 2 [⟨some 3, (.box 0 (.tmp 0)), none⟩,
 ⟨some 4, (.box 1 (.tmp 1)), none⟩,
 ⟨some 6, (.mov (.const (.bool false))), none⟩])
 (.seq (.seq (.region none 0 [⟨some 9, (.mov (.tmp 2)), none⟩,
 ⟨some 10, (.bin .gtr (.tmp 9) (.const (.int .i64 24))), none⟩])
 (.cond (.tmp 10) (.seq (.region none 0 [⟨some 6, (.mov (.const (.bool false))), none⟩])
 .ret)
 .skip))
 (.seq (.seq (.region none 0 [⟨some 11, (.fieldAddr 0 (.tmp 4)), none⟩,
 ⟨some 12, (.load none (.tmp 11)), none⟩,
 ⟨some 13, (.bin .eql (.tmp 12) (.const (.int .i64 2))), none⟩])
 (.cond (.tmp 13) (.seq (.region (some ([], [18])) 0 [⟨some 14, (.fieldAddr 1 (.tmp 4)), none⟩,
 ⟨some 15, (.load (some 3) (.tmp 14)), none⟩,
 ⟨some 16, (.build [.int .i64 0, .int .i64 0, .int .i64 0] []), none⟩,
 ⟨some 17, (.eqv false [1, 1, 1] (.tmp 15) (.tmp 16)), none⟩,
 ⟨some 18, (.mov (.tmp 17)), none⟩,
 ⟨some 19, (.fieldAddr 4 (.tmp 4)), (some (18, true))⟩,
 ⟨some 20, (.load none (.tmp 19)), (some (18, true))⟩,
 ⟨some 21, (.len (.tmp 20)), (some (18, true))⟩,
 ⟨some 22, (.bin .eql (.tmp 21) (.const (.int .i64 1))), (some (18, true))⟩,
 ⟨some 23, (.pick (.tmp 18) (.tmp 22) (.const (.bool false))), none⟩,
 ⟨some 24, (.mov (.tmp 23)), none⟩,
 ⟨some 25, (.load (some 2) (.tmp 3)), (some (24, true))⟩,
 ⟨some 26, (.fieldAddr 4 (.tmp 4)), (some (24, true))⟩,
 ⟨some 27, (.load none (.tmp 26)), (some (24, true))⟩,
 ⟨some 28, (.indexAddrL 5 (.tmp 27) (.const (.int .i64 0))), (some (24, true))⟩,
 ⟨some 29, (.load (some 5) (.tmp 28)), (some (24, true))⟩,
 ⟨some 30, (.mov (.tmp 2)), (some (24, true))⟩,
 ⟨some 31, (.bin .add (.tmp 30) (.const (.int .i64 1))), (some (24, true))⟩,
 ⟨some 32, (.call (.fn 87) [(.tmp 25), (.tmp 29), (.tmp 31)] [] none), (some (24, true))⟩,
 ⟨some 33, (.pick (.tmp 24) (.tmp 32) (.const (.bool false))), none⟩,
 ⟨some 6, (.mov (.tmp 33)), none⟩])
 .ret)
 .skip))
 (.seq (.seq (.region none 0 [⟨some 34, (.fieldAddr 4 (.tmp 4)), none⟩,
 ⟨some 35, (.load none (.tmp 34)), none⟩,
 ⟨some 36, (.len (.tmp 35)), none⟩,
 ⟨some 37, (.bin .gtr (.tmp 36) (.const (.int .i64 0))), none⟩])
 (.cond (.tmp 37) (.seq (.region none 0 [⟨some 6, (.mov (.const (.bool false))), none⟩])
 .ret)
 .skip))
 (.seq (.seq (.region none 0 [⟨some 38, (.fieldAddr 0 (.tmp 4)), none⟩,
 ⟨some 39, (.load none (.tmp 38)), none⟩,
 ⟨some 40, (.bin .eql (.tmp 39) (.const (.int .i64 3))), none⟩])
 (.cond (.tmp 40) (.seq (.region none 1 [⟨some 42, (.load (some 2) (.tmp 3)), none⟩,
 ⟨some 43, (.fieldAddr 1 (.tmp 4)), none⟩,
 ⟨some 44, (.load (some 3) (.tmp 43)), none⟩,
 ⟨some 45, (.call (.fn 41) [(.tmp 42), (.tmp 44)] [] none), none⟩,
 ⟨some 41, (.mov (.tmp 45)), none⟩,
 ⟨some 46, (.extract (.tmp 41) 0), none⟩,
 ⟨some 47, (.extract (.tmp 41) 1), none⟩,
 ⟨some 7, (.alloc 0 [.int .i64 0, .int .i64 0, .int .i64 0, .int .i64 0, .int .i64 0, .int .i64 0, .int .i64 0, .str [], .nils 11, .int .i64 0, .int .i64 0, .int .i64 0, .int .i64 0, .nils 5, .int .i64 0, .int .i64 0, .int .i64 0, .int .i64 0, .int .i64 0, .int .i64 0, .int .i64 0, .int .i64 0, .int .i64 0, .int .i64 0, .int .i64 0, .int .i64 0, .nils 5, .nils 15, .nils 1, .int .i64 0, .nils 1]), none⟩,
 ⟨none, (.store 31 (.tmp 7) (.tmp 46)), none⟩,
 ⟨some 8, (.mov (.tmp 47)), none⟩])
 (.seq (.region none 0 [⟨some 48, (.mov (.tmp 8)), none⟩,
 ⟨some 49, (.mov (.tmp 48)), none⟩,
 ⟨some 50, (.fieldAddr 3 (.tmp 7)), (some (49, true))⟩,
 ⟨some 51, (.load none (.tmp 50)), (some (49, true))⟩,
 ⟨some 52, (.bin .eql (.tmp 51) (.const (.int .i64 0))), (some (49, true))⟩,
 ⟨some 53, (.mov (.tmp 52)), (some (49, true))⟩,
 ⟨some 54, (.fieldAddr 3 (.tmp 7)), (some (53, false))⟩,
 ⟨some 55, (.load none (.tmp 54)), (some (53, false))⟩,
 ⟨some 56, (.bin .eql (.tmp 55) (.const (.int .i64 1))), (some (53, false))⟩,
 ⟨some 57, (.pick (.tmp 53) (.const (.bool true)) (.tmp 56)), (some (49, true))⟩,
 ⟨some 58, (.pick (.tmp 49) (.tmp 57) (.const (.bool false))), none⟩,
 ⟨some 6, (.mov (.tmp 58)), none⟩])
 .ret))
 .skip))
 (.seq (.region none 0 [⟨some 59, (.fieldAddr 1 (.tmp 4)), none⟩,
 ⟨some 60, (.load (some 3) (.tmp 59)), none⟩,
 ⟨some 61, (.build [.int .i64 0, .int .i64 0, .int .i64 0] []), none⟩,
 ⟨some 62, (.eqv false [1, 1, 1] (.tmp 60) (.tmp 61)), none⟩,
 ⟨some 63, (.mov (.tmp 62)), none⟩,
 ⟨some 64, (.fieldAddr 0 (.tmp 4)), (some (63, true))⟩,
 ⟨some 65, (.load none (.tmp 64)), (some (63, true))⟩,
 ⟨some 66, (.bin .eql (.tmp 65) (.const (.int .i64 0))), (some (63, true))⟩,
 ⟨some 67, (.mov (.tmp 66)), (some (63, true))⟩,
 ⟨some 68, (.fieldAddr 0 (.tmp 4)), (some (67, false))⟩,
 ⟨some 69, (.load none (.tmp 68)), (some (67, false))⟩,
 ⟨some 70, (.bin .eql (.tmp 69) (.const (.int .i64 1))), (some (67, false))⟩,
 ⟨some 71, (.pick (.tmp 67) (.const (.bool true)) (.tmp 70)), (some (63, true))⟩,
 ⟨some 72, (.pick (.tmp 63) (.tmp 71) (.const (.bool false))), none⟩,
 ⟨some 6, (.mov (.tmp 72)), none⟩])
 .ret))))))⟩
/-- slices.EqualFunc[[]splicery/api.Type,[]splicery/api.Type,splicery/api.Type,splicery/api.Type] -/
def m88 : MF := ⟨3, 32, [.tmp 6],
 (.seq (.region none 0 [⟨some 6, (.mov (.const (.bool false))), none⟩])
 (.seq (.seq (.region none 0 [⟨some 10, (.mov (.tmp 0)), none⟩,
 ⟨some 11, (.len (.tmp 10)), none⟩,
 ⟨some 12, (.mov (.tmp 1)), none⟩,
 ⟨some 13, (.len (.tmp 12)), none⟩,
 ⟨some 14, (.bin .neq (.tmp 11) (.tmp 13)), none⟩])
 (.cond (.tmp 14) (.seq (.region none 0 [⟨some 6, (.mov (.const (.bool false))), none⟩])
 .ret)
 .skip))
 (.seq (.seq (.region none 0 [⟨some 15, (.mov (.tmp 0)), none⟩,
 ⟨some 16, (.len (.tmp 15)), none⟩,
 ⟨some 17, (.mov (.const (.int .i64 0))), none⟩])
 (.block 0 (.loop (.seq (.region none 0 [⟨some 18, (.bin .lss (.tmp 17) (.tmp 16)), none⟩])
 (.seq (.cond (.tmp 18) .skip
 (.exit 0))
 (.seq (.block 1 (.seq (.region none 1 [⟨some 19, (.mov (.tmp 17)), none⟩,
 ⟨some 20, (.indexAddrL 5 (.tmp 15) (.tmp 17)), none⟩,
 ⟨some 21, (.load (some 5) (.tmp 20)), none⟩,
 ⟨some 8, (.alloc 0 [.int .i64 0, .int .i64 0, .int .i64 0, .int .i64 0, .nils 5]), none⟩,
 ⟨some 7, (.mov (.tmp 19)), none⟩,
 ⟨none, (.store 5 (.tmp 8) (.tmp 21)), none⟩])
 (.seq (.region none 1 [⟨some 22, (.mov (.tmp 1)), none⟩,
 ⟨some 23, (.mov (.tmp 7)), none⟩,
 ⟨some 24, (.indexAddrL 5 (.tmp 22) (.tmp 23)), none⟩,
 ⟨some 25, (.load (some 5) (.tmp 24)), none⟩,
 ⟨some 9, (.alloc 0 [.int .i64 0, .int .i64 0, .int .i64 0, .int .i64 0, .nils 5]), none⟩,
 ⟨none, (.store 5 (.tmp 9) (.tmp 25)), none⟩])
 (.seq (.region none 0 [⟨some 26, (.mov (.tmp 2)), none⟩,
 ⟨some 27, (.load (some 5) (.tmp 8)), none⟩,
 ⟨some 28, (.load (some 5) (.tmp 9)), none⟩,
 ⟨some 29, (.call (.tmp 26) [(.tmp 27), (.tmp 28)] [] none), none⟩,
 ⟨some 30, (.un .not (.tmp 29)), none⟩])
 (.cond (.tmp 30) (.seq (.region none 0 [⟨some 6, (.mov (.const (.bool false))), none⟩])
 .ret)
 .skip)))))
 (.region none 0 [⟨some 31, (.bin .add (.tmp 17) (.const (.int .i64 1))), none⟩,
 ⟨some 17, (.mov (.tmp 31)), none⟩])))))))
 (.seq (.region none 0 [⟨some 6, (.mov (.const (.bool true))), none⟩])
 .ret))))⟩
/-- slices.IndexFunc[[]splicery/api.Def,splicery/api.Def] -/
def m89 : MF := ⟨2, 19, [.tmp 4],
 (.seq (.region none 0 [⟨some 4, (.mov (.const (.int .i64 0))), none⟩])
 (.seq (.seq (.region none 0 [⟨some 6, (.mov (.tmp 0)), none⟩,
 ⟨some 7, (.len (.tmp 6)), none⟩,
 ⟨some 8, (.mov (.const (.int .i64 0))), none⟩])
 (.block 0 (.loop (.seq (.region none 0 [⟨some 9, (.bin .lss (.tmp 8) (.tmp 7)), none⟩])
 (.seq (.cond (.tmp 9) .skip
 (.exit 0))
 (.seq (.block 1 (.seq (.region none 0 [⟨some 10, (.mov (.tmp 8)), none⟩,
 ⟨some 5, (.mov (.tmp 10)), none⟩])
 (.seq (.region none 0 [⟨some 11, (.mov (.tmp 1)), none⟩,
 ⟨some 12, (.mov (.tmp 0)), none⟩,
 ⟨some 13, (.mov (.tmp 5)), none⟩,
 ⟨some 14, (.indexAddrL 31 (.tmp 12) (.tmp 13)), none⟩,
 ⟨some 15, (.load (some 31) (.tmp 14)), none⟩,
 ⟨some 16, (.call (.tmp 11) [(.tmp 15)] [] none), none⟩])
 (.cond (.tmp 16) (.seq (.region none 0 [⟨some 17, (.mov (.tmp 5)), none⟩,
 ⟨some 4, (.mov (.tmp 17)), none⟩])
 .ret)
 .skip))))
 (.region none 0 [⟨some 18, (.bin .add (.tmp 8) (.const (.int .i64 1))), none⟩,
 ⟨some 8, (.mov (.tmp 18)), none⟩])))))))
 (.seq (.region none 0 [⟨some 4, (.mov (.const (.int .i64 (-1)))), none⟩])
 .ret)))⟩
/-- splicery/value.Def$1 -/
def m90 : MF := ⟨2, 8, [.tmp 3],
 (.seq (.region none 1 [⟨some 2, (.box 0 (.tmp 0)), none⟩,
 ⟨some 3, (.mov (.const (.bool false))), none⟩])
 (.seq (.region none 0 [⟨some 4, (.fieldAddr 0 (.tmp 2)), none⟩,
 ⟨some 5, (.load (some 3) (.tmp 4)), none⟩,
 ⟨some 6, (.load (some 3) (.tmp 1)), none⟩,
 ⟨some 7, (.eqv false [1, 1, 1] (.tmp 5) (.tmp 6)), none⟩,
 ⟨some 3, (.mov (.tmp 7)), none⟩])
 .ret))⟩
/-- splicery/splicerylaw04.example -/
def m91 : MF := ⟨0, 23, [.cell 0 (some 2)],
 (.seq (.region none 1 [⟨some 0, (.alloc 0 [.nils 6, .nils 31]), none⟩])
 (.seq (.region none 2 [⟨some 3, (.call (.fn 35) [(.const (.int .i64 1))] [] none), none⟩,
 ⟨some 4, (.call (.fn 35) [(.const (.int .i64 3))] [] none), none⟩,
 ⟨some 5, (.build [.int .i64 0, .int .i64 0, .int .i64 0, .str [], .int .i64 0, .int .i64 0, .int .i64 0, .int .i64 0, .nils 5, .int .i64 0, .int .i64 0] [(0, 3, (.tmp 4)), (3, 1, (.const (.str [120])))]), none⟩,
 ⟨some 6, (.call (.fn 35) [(.const (.int .i64 4))] [] none), none⟩,
 ⟨some 7, (.build [.int .i64 0, .int .i64 0, .int .i64 0, .str [], .int .i64 0, .int .i64 0, .int .i64 0, .int .i64 0, .nils 5, .int .i64 0, .int .i64 0] [(0, 3, (.tmp 6)), (3, 1, (.const (.str [121])))]), none⟩,
 ⟨some 8, (.lit 0 11 [[.int .i64 0, .int .i64 0, .int .i64 0, .str [], .int .i64 0, .int .i64 0, .int .i64 0, .int .i64 0, .nils 5, .int .i64 0, .int .i64 0], [.int .i64 0, .int .i64 0, .int .i64 0, .str [], .int .i64 0, .int .i64 0, .int .i64 0, .int .i64 0, .nils 5, .int .i64 0, .int .i64 0]] [(0, (.tmp 5)), (1, (.tmp 7))]), none⟩,
 ⟨some 9, (.build [.int .i64 0, .int .i64 0, .int .i64 0, .int .i64 0, .int .i64 0, .int .i64 0, .int .i64 0, .str [], .nils 11, .int .i64 0, .int .i64 0, .int .i64 0, .int .i64 0, .nils 5, .int .i64 0, .int .i64 0, .int .i64 0, .int .i64 0, .int .i64 0, .int .i64 0, .int .i64 0, .int .i64 0, .int .i64 0, .int .i64 0, .int .i64 0, .int .i64 0, .nils 5, .nils 15, .nils 1, .int .i64 0, .nils 1] [(0, 3, (.tmp 3)), (3, 1, (.const (.int .i64 0))), (7, 1, (.const (.str [80, 111, 105, 110, 116]))), (8, 1, (.tmp 8))]), none⟩,
 ⟨some 1, (.alloc 1 [.int .i64 0, .int .i64 0, .int .i64 0, .int .i64 0, .int .i64 0, .int .i64 0, .int .i64 0, .str [], .nils 11, .int .i64 0, .int .i64 0, .int .i64 0, .int .i64 0, .nils 5, .int .i64 0, .int .i64 0, .int .i64 0, .int .i64 0, .int .i64 0, .int .i64 0, .int .i64 0, .int .i64 0, .int .i64 0, .int .i64 0, .int .i64 0, .int .i64 0, .nils 5, .nils 15, .nils 1, .int .i64 0, .nils 1]), none⟩,
 ⟨none, (.store 31 (.tmp 1) (.tmp 9)), none⟩])
 (.seq (.region none 2 [⟨some 10, (.call (.fn 35) [(.const (.int .i64 2))] [] none), none⟩,
 ⟨some 11, (.call (.fn 35) [(.const (.int .i64 5))] [] none), none⟩,
 ⟨some 12, (.build [.int .i64 0, .int .i64 0, .int .i64 0, .str [], .int .i64 0, .int .i64 0, .int .i64 0, .int .i64 0, .nils 5, .int .i64 0, .int .i64 0] [(0, 3, (.tmp 11)), (3, 1, (.const (.str [68, 111, 116])))]), none⟩,
 ⟨some 13, (.call (.fn 35) [(.const (.int .i64 6))] [] none), none⟩,
 ⟨some 14, (.call (.fn 35) [(.const (.int .i64 1))] [] none), none⟩,
 ⟨some 15, (.call (.fn 34) [(.tmp 14)] [] none), none⟩,
 ⟨some 16, (.build [.int .i64 0, .int .i64 0, .int .i64 0, .str [], .int .i64 0, .int .i64 0, .int .i64 0, .int .i64 0, .nils 5, .int .i64 0, .int .i64 0] [(0, 3, (.tmp 13)), (3, 1, (.const (.str [66, 111, 120]))), (4, 5, (.tmp 15))]), none⟩,
 ⟨some 17, (.lit 0 11 [[.int .i64 0, .int .i64 0, .int .i64 0, .str [], .int .i64 0, .int .i64 0, .int .i64 0, .int .i64 0, .nils 5, .int .i64 0, .int .i64 0], [.int .i64 0, .int .i64 0, .int .i64 0, .str [], .int .i64 0, .int .i64 0, .int .i64 0, .int .i64 0, .nils 5, .int .i64 0, .int .i64 0]] [(0, (.tmp 12)), (1, (.tmp 16))]), none⟩,
 ⟨some 18, (.build [.int .i64 0, .int .i64 0, .int .i64 0, .int .i64 0, .int .i64 0, .int .i64 0, .int .i64 0, .str [], .nils 11, .int .i64 0, .int .i64 0, .int .i64 0, .int .i64 0, .nils 5, .int .i64 0, .int .i64 0, .int .i64 0, .int .i64 0, .int .i64 0, .int .i64 0, .int .i64 0, .int .i64 0, .int .i64 0, .int .i64 0, .int .i64 0, .int .i64 0, .nils 5, .nils 15, .nils 1, .int .i64 0, .nils 1] [(0, 3, (.tmp 10)), (3, 1, (.const (.int .i64 1))), (7, 1, (.const (.str [83, 104, 97, 112, 101]))), (8, 1, (.tmp 17))]), none⟩,
 ⟨some 2, (.alloc 1 [.int .i64 0, .int .i64 0, .int .i64 0, .int .i64 0, .int .i64 0, .int .i64 0, .int .i64 0, .str [], .nils 11, .int .i64 0, .int .i64 0, .int .i64 0, .int .i64 0, .nils 5, .int .i64 0, .int .i64 0, .int .i64 0, .int .i64 0, .int .i64 0, .int .i64 0, .int .i64 0, .int .i64 0, .int .i64 0, .int .i64 0, .int .i64 0, .int .i64 0, .nils 5, .nils 15, .nils 1, .int .i64 0, .nils 1]), none⟩,
 ⟨none, (.store 31 (.tmp 2) (.tmp 18)), none⟩])
 (.seq (.region none 1 [⟨some 19, (.load (some 31) (.tmp 1)), none⟩,
 ⟨some 20, (.load (some 31) (.tmp 2)), none⟩,
 ⟨some 21, (.lit 0 31 [[.int .i64 0, .int .i64 0, .int .i64 0, .int .i64 0, .int .i64 0, .int .i64 0, .int .i64 0, .str [], .nils 11, .int .i64 0, .int .i64 0, .int .i64 0, .int .i64 0, .nils 5, .int .i64 0, .int .i64 0, .int .i64 0, .int .i64 0, .int .i64 0, .int .i64 0, .int .i64 0, .int .i64 0, .int .i64 0, .int .i64 0, .int .i64 0, .int .i64 0, .nils 5, .nils 15, .nils 1, .int .i64 0, .nils 1], [.int .i64 0, .int .i64 0, .int .i64 0, .int .i64 0, .int .i64 0, .int .i64 0, .int .i64 0, .str [], .nils 11, .int .i64 0, .int .i64 0, .int .i64 0, .int .i64 0, .nils 5, .int .i64 0, .int .i64 0, .int .i64 0, .int .i64 0, .int .i64 0, .int .i64 0, .int .i64 0, .int .i64 0, .int .i64 0, .int .i64 0, .int .i64 0, .int .i64 0, .nils 5, .nils 15, .nils 1, .int .i64 0, .nils 1]] [(0, (.tmp 19)), (1, (.tmp 20))]), none⟩,
 ⟨some 22, (.build [.nils 6, .nils 31] [(1, 1, (.tmp 21))]), none⟩,
 ⟨none, (.store 2 (.tmp 0) (.tmp 22)), none⟩])
 .ret))))⟩
/-- splicery/value.small -/
def m92 : MF := ⟨1, 9, [.tmp 2],
 (.seq (.region none 1 [⟨some 1, (.box 0 (.tmp 0)), none⟩,
 ⟨some 2, (.mov (.const (.bool false))), none⟩])
 (.seq (.region none 1 [⟨some 3, (.alloc 0 [.int .i64 0]), none⟩,
 ⟨none, (.store 1 (.tmp 3) (.const (.int .i64 256))), none⟩])
 (.seq (.region none 1 [⟨some 4, (.alloc 0 [.nilf]), none⟩])
 (.seq (.region none 0 [⟨some 5, (.mkFn 130 [(.tmp 3), (.tmp 4)]), none⟩,
 ⟨none, (.store 1 (.tmp 4) (.tmp 5)), none⟩])
 (.seq (.region none 0 [⟨some 6, (.load none (.tmp 4)), none⟩,
 ⟨some 7, (.load (some 3) (.tmp 1)), none⟩,
 ⟨some 8, (.call (.tmp 6) [(.tmp 7), (.const (.int .i64 1))] [false, false, true, true, true, true, true, true, true, true] none), none⟩,
 ⟨some 2, (.mov (.tmp 8)), none⟩])
 .ret)))))⟩
/-- splicery/value.fits -/
def m93 : MF := ⟨3, 159, [.tmp 6],
 (.seq (.region none 3 [⟨some 3, (.box 0 (.tmp 0)), none⟩,
 ⟨some 4, (.box 1 (.tmp 1)), none⟩,
 ⟨some 5, (.box 2 (.tmp 2)), none⟩,
 ⟨some 6, (.mov (.const (.bool false))), none⟩])
 (.seq (.seq (.region none 0 [⟨some 11, (.load (some 2) (.tmp 3)), none⟩,
 ⟨some 12, (.load (some 5) (.tmp 4)), none⟩,
 ⟨some 13, (.call (.fn 36) [(.tmp 11), (.tmp 12)] [] none), none⟩,
 ⟨some 14, (.un .not (.tmp 13)), none⟩])
 (.cond (.tmp 14) (.seq (.region none 0 [⟨some 6, (.mov (.const (.bool false))), none⟩])
 .ret)
 .skip))
 (.seq (.seq (.region none 0 [⟨some 15, (.fieldAddr 0 (.tmp 4)), none⟩,
 ⟨some 16, (.load none (.tmp 15)), none⟩])
 (.block 0 (.seq (.region none 0 [⟨some 18, (.bin .eql (.tmp 16) (.const (.int .i64 0))), none⟩,
 ⟨some 17, (.mov (.tmp 18)), none⟩])
 (.cond (.tmp 17) (.seq (.region none 0 [⟨some 19, (.fieldAddr 0 (.tmp 5)), none⟩,
 ⟨some 20, (.load none (.tmp 19)), none⟩,
 ⟨some 21, (.bin .eql (.tmp 20) (.const (.int .i64 0))), none⟩,
 ⟨some 22, (.mov (.tmp 21)), none⟩,
 ⟨some 23, (.fieldAddr 2 (.tmp 5)), (some (22, true))⟩,
 ⟨some 24, (.load none (.tmp 23)), (some (22, true))⟩,
 ⟨some 25, (.len (.tmp 24)), (some (22, true))⟩,
 ⟨some 26, (.bin .eql (.tmp 25) (.const (.int .i64 0))), (some (22, true))⟩,
 ⟨some 27, (.pick (.tmp 22) (.tmp 26) (.const (.bool false))), none⟩,
 ⟨some 28, (.mov (.tmp 27)), none⟩,
 ⟨some 29, (.fieldAddr 1 (.tmp 5)), (some (28, true))⟩,
 ⟨some 30, (.load none (.tmp 29)), (some (28, true))⟩,
 ⟨some 31, (.bin .geq (.tmp 30) (.const (.int .i64 (-1099511627776)))), (some (28, true))⟩,
 ⟨some 32, (.pick (.tmp 28) (.tmp 31) (.const (.bool false))), none⟩,
 ⟨some 33, (.mov (.tmp 32)), none⟩,
 ⟨some 34, (.fieldAddr 1 (.tmp 5)), (some (33, true))⟩,
 ⟨some 35, (.load none (.tmp 34)), (some (33, true))⟩,
 ⟨some 36, (.bin .leq (.tmp 35) (.const (.int .i64 1099511627776))), (some (33, true))⟩,
 ⟨some 37, (.pick (.tmp 33) (.tmp 36) (.const (.bool false))), none⟩,
 ⟨some 6, (.mov (.tmp 37)), none⟩])
 .ret)
 (.seq (.region none 0 [⟨some 39, (.bin .eql (.tmp 16) (.const (.int .i64 1))), none⟩,
 ⟨some 38, (.mov (.tmp 39)), none⟩])
 (.cond (.tmp 38) (.seq (.region none 0 [⟨some 40, (.fieldAddr 0 (.tmp 5)), none⟩,
 ⟨some 41, (.load none (.tmp 40)), none⟩,
 ⟨some 42, (.bin .eql (.tmp 41) (.const (.int .i64 1))), none⟩,
 ⟨some 43, (.mov (.tmp 42)), none⟩,
 ⟨some 44, (.fieldAddr 2 (.tmp 5)), (some (43, true))⟩,
 ⟨some 45, (.load none (.tmp 44)), (some (43, true))⟩,
 ⟨some 46, (.len (.tmp 45)), (some (43, true))⟩,
 ⟨some 47, (.bin .eql (.tmp 46) (.const (.int .i64 0))), (some (43, true))⟩,
 ⟨some 48, (.pick (.tmp 43) (.tmp 47) (.const (.bool false))), none⟩,
 ⟨some 49, (.mov (.tmp 48)), none⟩,
 ⟨some 50, (.fieldAddr 1 (.tmp 5)), (some (49, true))⟩,
 ⟨some 51, (.load none (.tmp 50)), (some (49, true))⟩,
 ⟨some 52, (.bin .eql (.tmp 51) (.const (.int .i64 0))), (some (49, true))⟩,
 ⟨some 53, (.mov (.tmp 52)), (some (49, true))⟩,
 ⟨some 54, (.fieldAddr 1 (.tmp 5)), (some (53, false))⟩,
 ⟨some 55, (.load none (.tmp 54)), (some (53, false))⟩,
 ⟨some 56, (.bin .eql (.tmp 55) (.const (.int .i64 1))), (some (53, false))⟩,
 ⟨some 57, (.pick (.tmp 53) (.const (.bool true)) (.tmp 56)), (some (49, true))⟩,
 ⟨some 58, (.pick (.tmp 49) (.tmp 57) (.const (.bool false))), none⟩,
 ⟨some 6, (.mov (.tmp 58)), none⟩])
 .ret)
 (.seq (.region none 0 [⟨some 60, (.bin .eql (.tmp 16) (.const (.int .i64 2))), none⟩,
 ⟨some 59, (.mov (.tmp 60)), none⟩])
 (.cond (.tmp 59) (.seq (.region none 0 [⟨some 61, (.fieldAddr 0 (.tmp 5)), none⟩,
 ⟨some 62, (.load none (.tmp 61)), none⟩,
 ⟨some 63, (.bin .eql (.tmp 62) (.const (.int .i64 4))), none⟩,
 ⟨some 64, (.mov (.tmp 63)), none⟩,
 ⟨some 65, (.fieldAddr 1 (.tmp 5)), (some (64, true))⟩,
 ⟨some 66, (.load none (.tmp 65)), (some (64, true))⟩,
 ⟨some 67, (.bin .eql (.tmp 66) (.const (.int .i64 0))), (some (64, true))⟩,
 ⟨some 68, (.pick (.tmp 64) (.tmp 67) (.const (.bool false))), none⟩,
 ⟨some 69, (.mov (.tmp 68)), none⟩,
 ⟨some 70, (.fieldAddr 2 (.tmp 5)), (some (69, true))⟩,
 ⟨some 71, (.load none (.tmp 70)), (some (69, true))⟩,
 ⟨some 72, (.mkFn 133 [(.tmp 3), (.tmp 4)]), (some (69, true))⟩,
 ⟨some 73, (.call (.fn 131) [(.tmp 71), (.tmp 72)] [] none), (some (69, true))⟩,
 ⟨some 74, (.un .not (.tmp 73)), (some (69, true))⟩,
 ⟨some 75, (.pick (.tmp 69) (.tmp 74) (.const (.bool false))), none⟩,
 ⟨some 6, (.mov (.tmp 75)), none⟩])
 .ret)
 .skip))))))))
 (.seq (.region none 1 [⟨some 77, (.load (some 2) (.tmp 3)), none⟩,
 ⟨some 78, (.fieldAddr 1 (.tmp 4)), none⟩,
 ⟨some 79, (.load (some 3) (.tmp 78)), none⟩,
 ⟨some 80, (.call (.fn 40) [(.tmp 77), (.tmp 79)] [] none), none⟩,
 ⟨some 76, (.mov (.tmp 80)), none⟩,
 ⟨some 81, (.extract (.tmp 76) 0), none⟩,
 ⟨some 82, (.extract (.tmp 76) 1), none⟩,
 ⟨some 7, (.alloc 0 [.int .i64 0, .int .i64 0, .int .i64 0, .int .i64 0, .int .i64 0, .int .i64 0, .int .i64 0, .str [], .nils 11, .int .i64 0, .int .i64 0, .int .i64 0, .int .i64 0, .nils 5, .int .i64 0, .int .i64 0, .int .i64 0, .int .i64 0, .int .i64 0, .int .i64 0, .int .i64 0, .int .i64 0, .int .i64 0, .int .i64 0, .int .i64 0, .int .i64 0, .nils 5, .nils 15, .nils 1, .int .i64 0, .nils 1]), none⟩,
 ⟨none, (.store 31 (.tmp 7) (.tmp 81)), none⟩,
 ⟨some 8, (.mov (.tmp 82)), none⟩])
 (.seq (.seq (.region none 0 [⟨some 83, (.fieldAddr 3 (.tmp 7)), none⟩,
 ⟨some 84, (.load none (.tmp 83)), none⟩,
 ⟨some 85, (.bin .eql (.tmp 84) (.const (.int .i64 1))), none⟩])
 (.cond (.tmp 85) (.seq (.region (some ([], [35])) 0 [⟨some 86, (.fieldAddr 0 (.tmp 5)), none⟩,
 ⟨some 87, (.load none (.tmp 86)), none⟩,
 ⟨some 88, (.bin .eql (.tmp 87) (.const (.int .i64 3))), none⟩,
 ⟨some 89, (.mov (.tmp 88)), none⟩,
 ⟨some 90, (.fieldAddr 1 (.tmp 5)), (some (89, true))⟩,
 ⟨some 91, (.load none (.tmp 90)), (some (89, true))⟩,
 ⟨some 92, (.bin .geq (.tmp 91) (.const (.int .i64 0))), (some (89, true))⟩,
 ⟨some 93, (.pick (.tmp 89) (.tmp 92) (.const (.bool false))), none⟩,
 ⟨some 94, (.mov (.tmp 93)), none⟩,
 ⟨some 95, (.fieldAddr 1 (.tmp 5)), (some (94, true))⟩,
 ⟨some 96, (.load none (.tmp 95)), (some (94, true))⟩,
 ⟨some 97, (.fieldAddr 8 (.tmp 7)), (some (94, true))⟩,
 ⟨some 98, (.load none (.tmp 97)), (some (94, true))⟩,
 ⟨some 99, (.len (.tmp 98)), (some (94, true))⟩,
 ⟨some 100, (.bin .lss (.tmp 96) (.tmp 99)), (some (94, true))⟩,
 ⟨some 101, (.pick (.tmp 94) (.tmp 100) (.const (.bool false))), none⟩,
 ⟨some 102, (.mov (.tmp 101)), none⟩,
 ⟨some 103, (.fieldAddr 2 (.tmp 5)), (some (102, true))⟩,
 ⟨some 104, (.load none (.tmp 103)), (some (102, true))⟩,
 ⟨some 105, (.len (.tmp 104)), (some (102, true))⟩,
 ⟨some 106, (.bin .eql (.tmp 105) (.const (.int .i64 1))), (some (102, true))⟩,
 ⟨some 107, (.pick (.tmp 102) (.tmp 106) (.const (.bool false))), none⟩,
 ⟨some 108, (.mov (.tmp 107)), none⟩,
 ⟨some 109, (.load (some 2) (.tmp 3)), (some (108, true))⟩,
 ⟨some 110, (.fieldAddr 8 (.tmp 7)), (some (108, true))⟩,
 ⟨some 111, (.load none (.tmp 110)), (some (108, true))⟩,
 ⟨some 112, (.fieldAddr 1 (.tmp 5)), (some (108, true))⟩,
 ⟨some 113, (.load none (.tmp 112)), (some (108, true))⟩,
 ⟨some 114, (.indexAddrL 11 (.tmp 111) (.tmp 113)), (some (108, true))⟩,
 ⟨some 115, (.fieldAddr 4 (.tmp 114)), (some (108, true))⟩,
 ⟨some 116, (.load (some 5) (.tmp 115)), (some (108, true))⟩,
 ⟨some 117, (.fieldAddr 2 (.tmp 5)), (some (108, true))⟩,
 ⟨some 118, (.load none (.tmp 117)), (some (108, true))⟩,
 ⟨some 119, (.indexAddrL 3 (.tmp 118) (.const (.int .i64 0))), (some (108, true))⟩,
 ⟨some 120, (.load (some 3) (.tmp 119)), (some (108, true))⟩,
 ⟨some 121, (.call (.fn 93) [(.tmp 109), (.tmp 116), (.tmp 120)] [] none), (some (108, true))⟩,
 ⟨some 122, (.pick (.tmp 108) (.tmp 121) (.const (.bool false))), none⟩,
 ⟨some 6, (.mov (.tmp 122)), none⟩])
 .ret)
 .skip))
 (.seq (.seq (.region none 0 [⟨some 123, (.fieldAddr 0 (.tmp 5)), none⟩,
 ⟨some 124, (.load none (.tmp 123)), none⟩,
 ⟨some 125, (.bin .neq (.tmp 124) (.const (.int .i64 2))), none⟩,
 ⟨some 126, (.mov (.tmp 125)), none⟩,
 ⟨some 127, (.fieldAddr 1 (.tmp 5)), (some (126, false))⟩,
 ⟨some 128, (.load none (.tmp 127)), (some (126, false))⟩,
 ⟨some 129, (.bin .neq (.tmp 128) (.const (.int .i64 0))), (some (126, false))⟩,
 ⟨some 130, (.pick (.tmp 126) (.const (.bool true)) (.tmp 129)), none⟩,
 ⟨some 131, (.mov (.tmp 130)), none⟩,
 ⟨some 132, (.fieldAddr 2 (.tmp 5)), (some (131, false))⟩,
 ⟨some 133, (.load none (.tmp 132)), (some (131, false))⟩,
 ⟨some 134, (.len (.tmp 133)), (some (131, false))⟩,
 ⟨some 135, (.fieldAddr 8 (.tmp 7)), (some (131, false))⟩,
 ⟨some 136, (.load none (.tmp 135)), (some (131, false))⟩,
 ⟨some 137, (.len (.tmp 136)), (some (131, false))⟩,
 ⟨some 138, (.bin .neq (.tmp 134) (.tmp 137)), (some (131, false))⟩,
 ⟨some 139, (.pick (.tmp 131) (.const (.bool true)) (.tmp 138)), none⟩])
 (.cond (.tmp 139) (.seq (.region none 0 [⟨some 6, (.mov (.const (.bool false))), none⟩])
 .ret)
 .skip))
 (.seq (.seq (.region none 0 [⟨some 140, (.fieldAddr 2 (.tmp 5)), none⟩,
 ⟨some 141, (.load none (.tmp 140)), none⟩,
 ⟨some 142, (.len (.tmp 141)), none⟩,
 ⟨some 143, (.mov (.const (.int .i64 0))), none⟩])
 (.block 1 (.loop (.seq (.region none 0 [⟨some 144, (.bin .lss (.tmp 143) (.tmp 142)), none⟩])
 (.seq (.cond (.tmp 144) .skip
 (.exit 1))
 (.seq (.block 2 (.seq (.region none 1 [⟨some 145, (.mov (.tmp 143)), none⟩,
 ⟨some 146, (.indexAddrL 3 (.tmp 141) (.tmp 143)), none⟩,
 ⟨some 147, (.load (some 3) (.tmp 146)), none⟩,
 ⟨some 10, (.alloc 0 [.int .i64 0, .int .i64 0, .nils 3]), none⟩,
 ⟨some 9, (.mov (.tmp 145)), none⟩,
 ⟨none, (.store 3 (.tmp 10) (.tmp 147)), none⟩])
 (.seq (.region (some ([], [8])) 0 [⟨some 148, (.load (some 2) (.tmp 3)), none⟩,
 ⟨some 149, (.fieldAddr 8 (.tmp 7)), none⟩,
 ⟨some 150, (.load none (.tmp 149)), none⟩,
 ⟨some 151, (.mov (.tmp 9)), none⟩,
 ⟨some 152, (.indexAddrL 11 (.tmp 150) (.tmp 151)), none⟩,
 ⟨some 153, (.fieldAddr 4 (.tmp 152)), none⟩,
 ⟨some 154, (.load (some 5) (.tmp 153)), none⟩,
 ⟨some 155, (.load (some 3) (.tmp 10)), none⟩,
 ⟨some 156, (.call (.fn 93) [(.tmp 148), (.tmp 154), (.tmp 155)] [] none), none⟩,
 ⟨some 157, (.un .not (.tmp 156)), none⟩])
 (.cond (.tmp 157) (.seq (.region none 0 [⟨some 6, (.mov (.const (.bool false))), none⟩])
 .ret)
 .skip))))
 (.region none 0 [⟨some 158, (.bin .add (.tmp 143) (.const (.int .i64 1))), none⟩,
 ⟨some 143, (.mov (.tmp 158)), none⟩])))))))
 (.seq (.region none 0 [⟨some 6, (.mov (.const (.bool true))), none⟩])
 .ret))))))))⟩
/-- splicery/value.weights -/
def m95 : MF := ⟨1, 29, [.tmp 2],
 (.seq (.region none 1 [⟨some 1, (.box 0 (.tmp 0)), none⟩,
 ⟨some 2, (.mov (.const (.int .i64 0))), none⟩])
 (.seq (.region none 1 [⟨some 4, (.fieldAddr 1 (.tmp 1)), none⟩,
 ⟨some 5, (.load none (.tmp 4)), none⟩,
 ⟨some 6, (.fieldAddr 1 (.tmp 1)), none⟩,
 ⟨some 7, (.load none (.tmp 6)), none⟩,
 ⟨some 8, (.fieldAddr 1 (.tmp 1)), none⟩,
 ⟨some 9, (.load none (.tmp 8)), none⟩,
 ⟨some 10, (.fieldAddr 2 (.tmp 1)), none⟩,
 ⟨some 11, (.load none (.tmp 10)), none⟩,
 ⟨some 12, (.len (.tmp 11)), none⟩,
 ⟨some 13, (.build ((List.replicate 5 (0 : Int)).map (V.int .i64)) [(0, 1, (.tmp 5)), (1, 1, (.tmp 7)), (2, 1, (.const (.int .i64 0))), (3, 1, (.tmp 9)), (4, 1, (.tmp 12))]), none⟩,
 ⟨some 3, (.alloc 0 ((List.replicate 5 (0 : Int)).map (V.int .i64))), none⟩,
 ⟨none, (.store 5 (.tmp 3) (.tmp 13)), none⟩])
 (.seq (.seq (.region none 0 [⟨some 14, (.fieldAddr 0 (.tmp 1)), none⟩,
 ⟨some 15, (.load none (.tmp 14)), none⟩,
 ⟨some 16, (.bin .eql (.tmp 15) (.const (.int .i64 0))), none⟩,
 ⟨some 17, (.mov (.tmp 16)), none⟩,
 ⟨some 18, (.fieldAddr 1 (.tmp 1)), (some (17, true))⟩,
 ⟨some 19, (.load none (.tmp 18)), (some (17, true))⟩,
 ⟨some 20, (.bin .lss (.tmp 19) (.const (.int .i64 0))), (some (17, true))⟩,
 ⟨some 21, (.pick (.tmp 17) (.tmp 20) (.const (.bool false))), none⟩])
 (.cond (.tmp 21) (.seq (.region none 0 [⟨some 22, (.fieldAddr 1 (.tmp 1)), none⟩,
 ⟨some 23, (.load none (.tmp 22)), none⟩,
 ⟨some 24, (.un .neg (.tmp 23)), none⟩,
 ⟨some 2, (.mov (.tmp 24)), none⟩])
 .ret)
 .skip))
 (.seq (.region none 0 [⟨some 25, (.fieldAddr 0 (.tmp 1)), none⟩,
 ⟨some 26, (.load none (.tmp 25)), none⟩,
 ⟨some 27, (.indexAddrA 5 1 (.tmp 3) (.tmp 26)), none⟩,
 ⟨some 28, (.load none (.tmp 27)), none⟩,
 ⟨some 2, (.mov (.tmp 28)), none⟩])
 .ret))))⟩
/-- cmp.Or[int] -/
def m96 : MF := ⟨1, 18, [.tmp 2],
 (.seq (.region none 0 [⟨some 2, (.mov (.const (.int .i64 0))), none⟩])
 (.seq (.region none 0 [⟨some 3, (.mov (.const (.int .i64 0))), none⟩])
 (.seq (.seq (.region none 0 [⟨some 6, (.mov (.tmp 0)), none⟩,
 ⟨some 7, (.len (.tmp 6)), none⟩,
 ⟨some 8, (.mov (.const (.int .i64 0))), none⟩])
 (.block 0 (.loop (.seq (.region none 0 [⟨some 9, (.bin .lss (.tmp 8) (.tmp 7)), none⟩])
 (.seq (.cond (.tmp 9) .skip
 (.exit 0))
 (.seq (.block 1 (.seq (.region none 0 [⟨some 10, (.indexAddrL 1 (.tmp 6) (.tmp 8)), none⟩,
 ⟨some 11, (.load none (.tmp 10)), none⟩,
 ⟨some 5, (.mov (.tmp 11)), none⟩])
 (.seq (.region none 0 [⟨some 12, (.mov (.tmp 5)), none⟩,
 ⟨some 13, (.mov (.tmp 3)), none⟩,
 ⟨some 14, (.bin .neq (.tmp 12) (.tmp 13)), none⟩])
 (.cond (.tmp 14) (.seq (.region none 0 [⟨some 15, (.mov (.tmp 5)), none⟩,
 ⟨some 2, (.mov (.tmp 15)), none⟩])
 .ret)
 .skip))))
 (.region none 0 [⟨some 16, (.bin .add (.tmp 8) (.const (.int .i64 1))), none⟩,
 ⟨some 8, (.mov (.tmp 16)), none⟩])))))))
 (.seq (.region none 0 [⟨some 17, (.mov (.tmp 3)), none⟩,
 ⟨some 2, (.mov (.tmp 17)), none⟩])
 .ret))))⟩
/-- cmp.Compare[int] -/
def m97 : MF := ⟨2, 20, [.tmp 4],
 (.seq (.region none 0 [⟨some 4, (.mov (.const (.int .i64 0))), none⟩])
 (.seq (.region none 0 [⟨some 7, (.mov (.tmp 0)), none⟩,
 ⟨some 8, (.call (.fn 134) [(.tmp 7)] [] none), none⟩,
 ⟨some 5, (.mov (.tmp 8)), none⟩])
 (.seq (.region none 0 [⟨some 9, (.mov (.tmp 1)), none⟩,
 ⟨some 10, (.call (.fn 134) [(.tmp 9)] [] none), none⟩,
 ⟨some 6, (.mov (.tmp 10)), none⟩])
 (.seq (.seq (.region none 0 [⟨some 11, (.mov (.tmp 5)), none⟩])
 (.cond (.tmp 11) (.seq (.seq (.region none 0 [⟨some 12, (.mov (.tmp 6)), none⟩])
 (.cond (.tmp 12) (.seq (.region none 0 [⟨some 4, (.mov (.const (.int .i64 0))), none⟩])
 .ret)
 .skip))
 (.seq (.region none 0 [⟨some 4, (.mov (.const (.int .i64 (-1)))), none⟩])
 .ret))
 .skip))
 (.seq (.seq (.region none 0 [⟨some 13, (.mov (.tmp 6)), none⟩])
 (.cond (.tmp 13) (.seq (.region none 0 [⟨some 4, (.mov (.const (.int .i64 1))), none⟩])
 .ret)
 .skip))
 (.seq (.seq (.region none 0 [⟨some 14, (.mov (.tmp 0)), none⟩,
 ⟨some 15, (.mov (.tmp 1)), none⟩,
 ⟨some 16, (.bin .lss (.tmp 14) (.tmp 15)), none⟩])
 (.cond (.tmp 16) (.seq (.region none 0 [⟨some 4, (.mov (.const (.int .i64 (-1)))), none⟩])
 .ret)
 .skip))
 (.seq (.seq (.region none 0 [⟨some 17, (.mov (.tmp 0)), none⟩,
 ⟨some 18, (.mov (.tmp 1)), none⟩,
 ⟨some 19, (.bin .gtr (.tmp 17) (.tmp 18)), none⟩])
 (.cond (.tmp 19) (.seq (.region none 0 [⟨some 4, (.mov (.const (.int .i64 1))), none⟩])
 .ret)
 .skip))
 (.seq (.region none 0 [⟨some 4, (.mov (.const (.int .i64 0))), none⟩])
 .ret))))))))⟩
/-- slices.CompareFunc[[]splicery/api.Value,[]splicery/api.Value,splicery/api.Value,splicery/api.Value] -/
def m98 : MF := ⟨3, 39, [.tmp 6],
 (.seq (.region none 0 [⟨some 6, (.mov (.const (.int .i64 0))), none⟩])
 (.seq (.seq (.region none 0 [⟨some 11, (.mov (.tmp 0)), none⟩,
 ⟨some 12, (.len (.tmp 11)), none⟩,
 ⟨some 13, (.mov (.const (.int .i64 0))), none⟩])
 (.block 0 (.loop (.seq (.region none 0 [⟨some 14, (.bin .lss (.tmp 13) (.tmp 12)), none⟩])
 (.seq (.cond (.tmp 14) .skip
 (.exit 0))
 (.seq (.block 1 (.seq (.region none 1 [⟨some 15, (.mov (.tmp 13)), none⟩,
 ⟨some 16, (.indexAddrL 3 (.tmp 11) (.tmp 13)), none⟩,
 ⟨some 17, (.load (some 3) (.tmp 16)), none⟩,
 ⟨some 8, (.alloc 0 [.int .i64 0, .int .i64 0, .nils 3]), none⟩,
 ⟨some 7, (.mov (.tmp 15)), none⟩,
 ⟨none, (.store 3 (.tmp 8) (.tmp 17)), none⟩])
 (.seq (.seq (.region none 0 [⟨some 18, (.mov (.tmp 7)), none⟩,
 ⟨some 19, (.mov (.tmp 1)), none⟩,
 ⟨some 20, (.len (.tmp 19)), none⟩,
 ⟨some 21, (.bin .geq (.tmp 18) (.tmp 20)), none⟩])
 (.cond (.tmp 21) (.seq (.region none 0 [⟨some 6, (.mov (.const (.int .i64 1))), none⟩])
 .ret)
 .skip))
 (.seq (.region none 1 [⟨some 22, (.mov (.tmp 1)), none⟩,
 ⟨some 23, (.mov (.tmp 7)), none⟩,
 ⟨some 24, (.indexAddrL 3 (.tmp 22) (.tmp 23)), none⟩,
 ⟨some 25, (.load (some 3) (.tmp 24)), none⟩,
 ⟨some 9, (.alloc 0 [.int .i64 0, .int .i64 0, .nils 3]), none⟩,
 ⟨none, (.store 3 (.tmp 9) (.tmp 25)), none⟩])
 (.seq (.region none 0 [⟨some 26, (.mov (.tmp 2)), none⟩,
 ⟨some 27, (.load (some 3) (.tmp 8)), none⟩,
 ⟨some 28, (.load (some 3) (.tmp 9)), none⟩,
 ⟨some 29, (.call (.tmp 26) [(.tmp 27), (.tmp 28)] [] none), none⟩,
 ⟨some 10, (.mov (.tmp 29)), none⟩])
 (.seq (.region none 0 [⟨some 30, (.mov (.tmp 10)), none⟩,
 ⟨some 31, (.bin .neq (.tmp 30) (.const (.int .i64 0))), none⟩])
 (.cond (.tmp 31) (.seq (.region none 0 [⟨some 32, (.mov (.tmp 10)), none⟩,
 ⟨some 6, (.mov (.tmp 32)), none⟩])
 .ret)
 .skip)))))))
 (.region none 0 [⟨some 33, (.bin .add (.tmp 13) (.const (.int .i64 1))), none⟩,
 ⟨some 13, (.mov (.tmp 33)), none⟩])))))))
 (.seq (.seq (.region none 0 [⟨some 34, (.mov (.tmp 0)), none⟩,
 ⟨some 35, (.len (.tmp 34)), none⟩,
 ⟨some 36, (.mov (.tmp 1)), none⟩,
 ⟨some 37, (.len (.tmp 36)), none⟩,
 ⟨some 38, (.bin .lss (.tmp 35) (.tmp 37)), none⟩])
 (.cond (.tmp 38) (.seq (.region none 0 [⟨some 6, (.mov (.const (.int .i64 (-1)))), none⟩])
 .ret)
 .skip))
 (.seq (.region none 0 [⟨some 6, (.mov (.const (.int .i64 0))), none⟩])
 .ret))))⟩
/-- splicery/value.Zero$1 -/
def m99 : MF := ⟨5, 89, [.cell 7 (some 3), .tmp 8],
 (.seq (.region none 2 [⟨some 5, (.box 0 (.tmp 0)), none⟩,
 ⟨some 7, (.alloc 1 [.int .i64 0, .int .i64 0, .nils 3]), none⟩,
 ⟨some 8, (.mov (.const (.int .i64 0))), none⟩])
 (.seq (.seq (.region none 0 [⟨some 17, (.load (some 2) (.tmp 2)), none⟩,
 ⟨some 18, (.load (some 5) (.tmp 5)), none⟩,
 ⟨some 19, (.call (.fn 36) [(.tmp 17), (.tmp 18)] [] none), none⟩,
 ⟨some 20, (.un .not (.tmp 19)), none⟩])
 (.cond (.tmp 20) (.seq (.region none 0 [⟨some 21, (.build [.int .i64 0, .int .i64 0, .nils 3] []), none⟩,
 ⟨none, (.store 3 (.tmp 7) (.tmp 21)), none⟩,
 ⟨some 8, (.mov (.const (.int .i64 1))), none⟩])
 .ret)
 .skip))
 (.seq (.seq (.region none 0 [⟨some 22, (.load none (.tmp 3)), none⟩,
 ⟨some 23, (.bin .sub (.tmp 22) (.const (.int .i64 1))), none⟩,
 ⟨none, (.store 1 (.tmp 3) (.tmp 23)), none⟩])
 (.seq (.region none 0 [⟨some 24, (.load none (.tmp 3)), none⟩,
 ⟨some 25, (.bin .lss (.tmp 24) (.const (.int .i64 0))), none⟩,
 ⟨some 26, (.mov (.tmp 25)), none⟩,
 ⟨some 27, (.mov (.tmp 1)), (some (26, false))⟩,
 ⟨some 28, (.bin .gtr (.tmp 27) (.const (.int .i64 24))), (some (26, false))⟩,
 ⟨some 29, (.pick (.tmp 26) (.const (.bool true)) (.tmp 28)), none⟩])
 (.cond (.tmp 29) (.seq (.region none 0 [⟨some 30, (.build [.int .i64 0, .int .i64 0, .nils 3] []), none⟩,
 ⟨none, (.store 3 (.tmp 7) (.tmp 30)), none⟩,
 ⟨some 8, (.mov (.const (.int .i64 4))), none⟩])
 .ret)
 .skip)))
 (.seq (.seq (.region none 0 [⟨some 31, (.fieldAddr 0 (.tmp 5)), none⟩,
 ⟨some 32, (.load none (.tmp 31)), none⟩])
 (.block 0 (.seq (.region none 0 [⟨some 34, (.bin .eql (.tmp 32) (.const (.int .i64 0))), none⟩,
 ⟨some 33, (.mov (.tmp 34)), none⟩])
 (.cond (.tmp 33) (.seq (.region none 0 [⟨some 35, (.build [.int .i64 0, .int .i64 0, .nils 3] [(0, 1, (.const (.int .i64 0)))]), none⟩,
 ⟨none, (.store 3 (.tmp 7) (.tmp 35)), none⟩,
 ⟨some 8, (.mov (.const (.int .i64 0))), none⟩])
 .ret)
 (.seq (.region none 0 [⟨some 37, (.bin .eql (.tmp 32) (.const (.int .i64 1))), none⟩,
 ⟨some 36, (.mov (.tmp 37)), none⟩])
 (.cond (.tmp 36) (.seq (.region none 0 [⟨some 38, (.build [.int .i64 0, .int .i64 0, .nils 3] [(0, 1, (.const (.int .i64 1)))]), none⟩,
 ⟨none, (.store 3 (.tmp 7) (.tmp 38)), none⟩,
 ⟨some 8, (.mov (.const (.int .i64 0))), none⟩])
 .ret)
 (.seq (.region none 0 [⟨some 40, (.bin .eql (.tmp 32) (.const (.int .i64 2))), none⟩,
 ⟨some 39, (.mov (.tmp 40)), none⟩])
 (.cond (.tmp 39) (.seq (.region none 0 [⟨some 41, (.build [.int .i64 0, .int .i64 0, .nils 3] [(0, 1, (.const (.int .i64 4)))]), none⟩,
 ⟨none, (.store 3 (.tmp 7) (.tmp 41)), none⟩,
 ⟨some 8, (.mov (.const (.int .i64 0))), none⟩])
 .ret)
 .skip))))))))
 (.seq (.region none 1 [⟨some 43, (.load (some 2) (.tmp 2)), none⟩,
 ⟨some 44, (.fieldAddr 1 (.tmp 5)), none⟩,
 ⟨some 45, (.load (some 3) (.tmp 44)), none⟩,
 ⟨some 46, (.call (.fn 40) [(.tmp 43), (.tmp 45)] [] none), none⟩,
 ⟨some 42, (.mov (.tmp 46)), none⟩,
 ⟨some 47, (.extract (.tmp 42) 0), none⟩,
 ⟨some 48, (.extract (.tmp 42) 1), none⟩,
 ⟨some 9, (.alloc 0 [.int .i64 0, .int .i64 0, .int .i64 0, .int .i64 0, .int .i64 0, .int .i64 0, .int .i64 0, .str [], .nils 11, .int .i64 0, .int .i64 0, .int .i64 0, .int .i64 0, .nils 5, .int .i64 0, .int .i64 0, .int .i64 0, .int .i64 0, .int .i64 0, .int .i64 0, .int .i64 0, .int .i64 0, .int .i64 0, .int .i64 0, .int .i64 0, .int .i64 0, .nils 5, .nils 15, .nils 1, .int .i64 0, .nils 1]), none⟩,
 ⟨none, (.store 31 (.tmp 9) (.tmp 47)), none⟩,
 ⟨some 10, (.mov (.tmp 48)), none⟩])
 (.seq (.region none 1 [⟨some 49, (.build [.int .i64 0, .int .i64 0, .nils 3] [(0, 1, (.const (.int .i64 2)))]), none⟩,
 ⟨some 11, (.alloc 0 [.int .i64 0, .int .i64 0, .nils 3]), none⟩,
 ⟨none, (.store 3 (.tmp 11) (.tmp 49)), none⟩])
 (.seq (.region none 0 [⟨some 50, (.fieldAddr 8 (.tmp 9)), none⟩,
 ⟨some 51, (.load none (.tmp 50)), none⟩,
 ⟨some 12, (.mov (.tmp 51)), none⟩])
 (.seq (.seq (.region none 0 [⟨some 52, (.fieldAddr 3 (.tmp 9)), none⟩,
 ⟨some 53, (.load none (.tmp 52)), none⟩,
 ⟨some 54, (.bin .eql (.tmp 53) (.const (.int .i64 1))), none⟩])
 (.cond (.tmp 54) (.seq (.seq (.region none 0 [⟨some 55, (.mov (.tmp 12)), none⟩,
 ⟨some 56, (.len (.tmp 55)), none⟩,
 ⟨some 57, (.bin .eql (.tmp 56) (.const (.int .i64 0))), none⟩])
 (.cond (.tmp 57) (.seq (.region none 0 [⟨some 58, (.build [.int .i64 0, .int .i64 0, .nils 3] []), none⟩,
 ⟨none, (.store 3 (.tmp 7) (.tmp 58)), none⟩,
 ⟨some 8, (.mov (.const (.int .i64 1))), none⟩])
 .ret)
 .skip))
 (.region (some ([(1, 3)], [])) 0 [⟨some 59, (.mov (.tmp 12)), none⟩,
 ⟨some 60, (.sliceL 11 (.tmp 59) none (some (.const (.int .i64 1)))), none⟩,
 ⟨some 61, (.fieldAddr 0 (.tmp 11)), none⟩,
 ⟨none, (.store 1 (.tmp 61) (.const (.int .i64 3))), none⟩,
 ⟨some 12, (.mov (.tmp 60)), none⟩]))
 .skip))
 (.seq (.seq (.region none 0 [⟨some 62, (.mov (.tmp 12)), none⟩,
 ⟨some 63, (.len (.tmp 62)), none⟩,
 ⟨some 64, (.mov (.const (.int .i64 0))), none⟩])
 (.block 1 (.loop (.seq (.region none 0 [⟨some 65, (.bin .lss (.tmp 64) (.tmp 63)), none⟩])
 (.seq (.cond (.tmp 65) .skip
 (.exit 1))
 (.seq (.block 2 (.seq (.region none 1 [⟨some 66, (.indexAddrL 11 (.tmp 62) (.tmp 64)), none⟩,
 ⟨some 67, (.load (some 11) (.tmp 66)), none⟩,
 ⟨some 14, (.alloc 0 [.int .i64 0, .int .i64 0, .int .i64 0, .str [], .int .i64 0, .int .i64 0, .int .i64 0, .int .i64 0, .nils 5, .int .i64 0, .int .i64 0]), none⟩,
 ⟨none, (.store 11 (.tmp 14) (.tmp 67)), none⟩])
 (.seq (.region none 1 [⟨some 69, (.load none (.tmp 4)), none⟩,
 ⟨some 70, (.fieldAddr 4 (.tmp 14)), none⟩,
 ⟨some 71, (.load (some 5) (.tmp 70)), none⟩,
 ⟨some 72, (.mov (.tmp 1)), none⟩,
 ⟨some 73, (.bin .add (.tmp 72) (.const (.int .i64 1))), none⟩,
 ⟨some 74, (.call (.tmp 69) [(.tmp 71), (.tmp 73)] [false, false, true, true, true, true, true, true, true, true] none), none⟩,
 ⟨some 68, (.mov (.tmp 74)), none⟩,
 ⟨some 75, (.extract (.tmp 68) 0), none⟩,
 ⟨some 76, (.extract (.tmp 68) 1), none⟩,
 ⟨some 15, (.alloc 0 [.int .i64 0, .int .i64 0, .nils 3]), none⟩,
 ⟨none, (.store 3 (.tmp 15) (.tmp 75)), none⟩,
 ⟨some 16, (.mov (.tmp 76)), none⟩])
 (.seq (.seq (.region none 0 [⟨some 77, (.mov (.tmp 16)), none⟩,
 ⟨some 78, (.bin .neq (.tmp 77) (.const (.int .i64 0))), none⟩])
 (.cond (.tmp 78) (.seq (.region none 0 [⟨some 79, (.build [.int .i64 0, .int .i64 0, .nils 3] []), none⟩,
 ⟨some 80, (.mov (.tmp 16)), none⟩,
 ⟨none, (.store 3 (.tmp 7) (.tmp 79)), none⟩,
 ⟨some 8, (.mov (.tmp 80)), none⟩])
 .ret)
 .skip))
 (.region none 1 [⟨some 81, (.fieldAddr 2 (.tmp 11)), none⟩,
 ⟨some 82, (.load none (.tmp 81)), none⟩,
 ⟨some 83, (.load (some 3) (.tmp 15)), none⟩,
 ⟨some 84, (.ilit 3 [[.int .i64 0, .int .i64 0, .nils 3]] [(0, (.tmp 83))]), none⟩,
 ⟨some 85, (.append 0 3 40 (.tmp 82) (.tmp 84)), none⟩,
 ⟨some 86, (.fieldAddr 2 (.tmp 11)), none⟩,
 ⟨none, (.store 1 (.tmp 86) (.tmp 85)), none⟩])))))
 (.region none 0 [⟨some 87, (.bin .add (.tmp 64) (.const (.int .i64 1))), none⟩,
 ⟨some 64, (.mov (.tmp 87)), none⟩])))))))
 (.seq (.region none 0 [⟨some 88, (.load (some 3) (.tmp 11)), none⟩,
 ⟨none, (.store 3 (.tmp 7) (.tmp 88)), none⟩,
 ⟨some 8, (.mov (.const (.int .i64 0))), none⟩])
 .ret))))))))))⟩
/-- splicery/spliceryref04.zero -/
def m100 : MF := ⟨4, 103, [.cell 8 (some 3), .tmp 9, .tmp 10],
 (.seq (.region none 3 [⟨some 4, (.box 0 (.tmp 0)), none⟩,
 ⟨some 5, (.box 1 (.tmp 1)), none⟩,
 ⟨some 8, (.alloc 2 [.int .i64 0, .int .i64 0, .nils 3]), none⟩,
 ⟨some 9, (.mov (.const (.int .i64 0))), none⟩,
 ⟨some 10, (.mov (.const (.int .i64 0))), none⟩])
 (.seq (.seq (.region none 0 [⟨some 19, (.load (some 2) (.tmp 4)), none⟩,
 ⟨some 20, (.load (some 5) (.tmp 5)), none⟩,
 ⟨some 21, (.call (.fn 37) [(.tmp 19), (.tmp 20)] [] none), none⟩,
 ⟨some 22, (.un .not (.tmp 21)), none⟩])
 (.cond (.tmp 22) (.seq (.region none 0 [⟨some 23, (.build [.int .i64 0, .int .i64 0, .nils 3] []), none⟩,
 ⟨some 24, (.mov (.tmp 3)), none⟩,
 ⟨none, (.store 3 (.tmp 8) (.tmp 23)), none⟩,
 ⟨some 9, (.mov (.tmp 24)), none⟩,
 ⟨some 10, (.mov (.const (.int .i64 1))), none⟩])
 .ret)
 .skip))
 (.seq (.region none 0 [⟨some 25, (.mov (.tmp 3)), none⟩,
 ⟨some 26, (.bin .add (.tmp 25) (.const (.int .i64 1))), none⟩,
 ⟨some 3, (.mov (.tmp 26)), none⟩])
 (.seq (.seq (.region none 0 [⟨some 27, (.mov (.tmp 3)), none⟩,
 ⟨some 28, (.bin .gtr (.tmp 27) (.const (.int .i64 256))), none⟩,
 ⟨some 29, (.mov (.tmp 28)), none⟩,
 ⟨some 30, (.mov (.tmp 2)), (some (29, false))⟩,
 ⟨some 31, (.bin .gtr (.tmp 30) (.const (.int .i64 24))), (some (29, false))⟩,
 ⟨some 32, (.pick (.tmp 29) (.const (.bool true)) (.tmp 31)), none⟩])
 (.cond (.tmp 32) (.seq (.region none 0 [⟨some 33, (.build [.int .i64 0, .int .i64 0, .nils 3] []), none⟩,
 ⟨some 34, (.mov (.tmp 3)), none⟩,
 ⟨none, (.store 3 (.tmp 8) (.tmp 33)), none⟩,
 ⟨some 9, (.mov (.tmp 34)), none⟩,
 ⟨some 10, (.mov (.const (.int .i64 4))), none⟩])
 .ret)
 .skip))
 (.seq (.seq (.region none 0 [⟨some 35, (.fieldAddr 0 (.tmp 5)), none⟩,
 ⟨some 36, (.load none (.tmp 35)), none⟩,
 ⟨some 37, (.bin .eql (.tmp 36) (.const (.int .i64 0))), none⟩])
 (.cond (.tmp 37) (.seq (.region none 0 [⟨some 38, (.build [.int .i64 0, .int .i64 0, .nils 3] [(0, 1, (.const (.int .i64 0)))]), none⟩,
 ⟨some 39, (.mov (.tmp 3)), none⟩,
 ⟨none, (.store 3 (.tmp 8) (.tmp 38)), none⟩,
 ⟨some 9, (.mov (.tmp 39)), none⟩,
 ⟨some 10, (.mov (.const (.int .i64 0))), none⟩])
 .ret)
 .skip))
 (.seq (.seq (.region none 0 [⟨some 40, (.fieldAddr 0 (.tmp 5)), none⟩,
 ⟨some 41, (.load none (.tmp 40)), none⟩,
 ⟨some 42, (.bin .eql (.tmp 41) (.const (.int .i64 1))), none⟩])
 (.cond (.tmp 42) (.seq (.region none 0 [⟨some 43, (.build [.int .i64 0, .int .i64 0, .nils 3] [(0, 1, (.const (.int .i64 1)))]), none⟩,
 ⟨some 44, (.mov (.tmp 3)), none⟩,
 ⟨none, (.store 3 (.tmp 8) (.tmp 43)), none⟩,
 ⟨some 9, (.mov (.tmp 44)), none⟩,
 ⟨some 10, (.mov (.const (.int .i64 0))), none⟩])
 .ret)
 .skip))
 (.seq (.seq (.region none 0 [⟨some 45, (.fieldAddr 0 (.tmp 5)), none⟩,
 ⟨some 46, (.load none (.tmp 45)), none⟩,
 ⟨some 47, (.bin .eql (.tmp 46) (.const (.int .i64 2))), none⟩])
 (.cond (.tmp 47) (.seq (.region none 0 [⟨some 48, (.build [.int .i64 0, .int .i64 0, .nils 3] [(0, 1, (.const (.int .i64 4)))]), none⟩,
 ⟨some 49, (.mov (.tmp 3)), none⟩,
 ⟨none, (.store 3 (.tmp 8) (.tmp 48)), none⟩,
 ⟨some 9, (.mov (.tmp 49)), none⟩,
 ⟨some 10, (.mov (.const (.int .i64 0))), none⟩])
 .ret)
 .skip))
 (.seq (.region none 1 [⟨some 51, (.load (some 2) (.tmp 4)), none⟩,
 ⟨some 52, (.fieldAddr 1 (.tmp 5)), none⟩,
 ⟨some 53, (.load (some 3) (.tmp 52)), none⟩,
 ⟨some 54, (.call (.fn 41) [(.tmp 51), (.tmp 53)] [] none), none⟩,
 ⟨some 50, (.mov (.tmp 54)), none⟩,
 ⟨some 55, (.extract (.tmp 50) 0), none⟩,
 ⟨some 56, (.extract (.tmp 50) 1), none⟩,
 ⟨some 11, (.alloc 0 [.int .i64 0, .int .i64 0, .int .i64 0, .int .i64 0, .int .i64 0, .int .i64 0, .int .i64 0, .str [], .nils 11, .int .i64 0, .int .i64 0, .int .i64 0, .int .i64 0, .nils 5, .int .i64 0, .int .i64 0, .int .i64 0, .int .i64 0, .int .i64 0, .int .i64 0, .int .i64 0, .int .i64 0, .int .i64 0, .int .i64 0, .int .i64 0, .int .i64 0, .nils 5, .nils 15, .nils 1, .int .i64 0, .nils 1]), none⟩,
 ⟨none, (.store 31 (.tmp 11) (.tmp 55)), none⟩,
 ⟨some 12, (.mov (.tmp 56)), none⟩])
 (.seq (.region none 1 [⟨some 57, (.build [.int .i64 0, .int .i64 0, .nils 3] [(0, 1, (.const (.int .i64 2)))]), none⟩,
 ⟨some 13, (.alloc 0 [.int .i64 0, .int .i64 0, .nils 3]), none⟩,
 ⟨none, (.store 3 (.tmp 13) (.tmp 57)), none⟩])
 (.seq (.region none 0 [⟨some 58, (.fieldAddr 8 (.tmp 11)), none⟩,
 ⟨some 59, (.load none (.tmp 58)), none⟩,
 ⟨some 60, (.len (.tmp 59)), none⟩,
 ⟨some 14, (.mov (.tmp 60)), none⟩])
 (.seq (.seq (.region none 0 [⟨some 61, (.fieldAddr 3 (.tmp 11)), none⟩,
 ⟨some 62, (.load none (.tmp 61)), none⟩,
 ⟨some 63, (.bin .eql (.tmp 62) (.const (.int .i64 1))), none⟩])
 (.cond (.tmp 63) (.seq (.region none 0 [⟨some 64, (.fieldAddr 0 (.tmp 13)), none⟩,
 ⟨none, (.store 1 (.tmp 64) (.const (.int .i64 3))), none⟩])
 (.seq (.seq (.region none 0 [⟨some 65, (.mov (.tmp 14)), none⟩,
 ⟨some 66, (.bin .eql (.tmp 65) (.const (.int .i64 0))), none⟩])
 (.cond (.tmp 66) (.seq (.region none 0 [⟨some 67, (.build [.int .i64 0, .int .i64 0, .nils 3] []), none⟩,
 ⟨some 68, (.mov (.tmp 3)), none⟩,
 ⟨none, (.store 3 (.tmp 8) (.tmp 67)), none⟩,
 ⟨some 9, (.mov (.tmp 68)), none⟩,
 ⟨some 10, (.mov (.const (.int .i64 1))), none⟩])
 .ret)
 .skip))
 (.region none 0 [⟨some 14, (.mov (.const (.int .i64 1))), none⟩])))
 .skip))
 (.seq (.seq (.region none 0 [⟨some 15, (.mov (.const (.int .i64 0))), none⟩])
 (.block 0 (.loop (.seq (.seq (.region none 0 [⟨some 69, (.mov (.tmp 15)), none⟩,
 ⟨some 70, (.mov (.tmp 14)), none⟩,
 ⟨some 71, (.bin .lss (.tmp 69) (.tmp 70)), none⟩])
 (.cond (.tmp 71) .skip
 (.exit 0)))
 (.seq (.block 1 (.seq (.region (some ([(0, 15), (2, 15), (4, 15), (6, 15), (10, 15)], [])) 1 [⟨some 75, (.load (some 2) (.tmp 4)), none⟩,
 ⟨some 76, (.fieldAddr 8 (.tmp 11)), none⟩,
 ⟨some 77, (.load none (.tmp 76)), none⟩,
 ⟨some 78, (.mov (.tmp 15)), none⟩,
 ⟨some 79, (.indexAddrL 11 (.tmp 77) (.tmp 78)), none⟩,
 ⟨some 80, (.fieldAddr 4 (.tmp 79)), none⟩,
 ⟨some 81, (.load (some 5) (.tmp 80)), none⟩,
 ⟨some 82, (.mov (.tmp 2)), none⟩,
 ⟨some 83, (.bin .add (.tmp 82) (.const (.int .i64 1))), none⟩,
 ⟨some 84, (.mov (.tmp 3)), none⟩,
 ⟨some 85, (.call (.fn 100) [(.tmp 75), (.tmp 81), (.tmp 83), (.tmp 84)] [] none), none⟩,
 ⟨some 74, (.mov (.tmp 85)), none⟩,
 ⟨some 86, (.extract (.tmp 74) 0), none⟩,
 ⟨some 87, (.extract (.tmp 74) 1), none⟩,
 ⟨some 88, (.extract (.tmp 74) 2), none⟩,
 ⟨some 16, (.alloc 0 [.int .i64 0, .int .i64 0, .nils 3]), none⟩,
 ⟨none, (.store 3 (.tmp 16) (.tmp 86)), none⟩,
 ⟨some 17, (.mov (.tmp 87)), none⟩,
 ⟨some 18, (.mov (.tmp 88)), none⟩])
 (.seq (.seq (.region none 0 [⟨some 89, (.mov (.tmp 18)), none⟩,
 ⟨some 90, (.bin .neq (.tmp 89) (.const (.int .i64 0))), none⟩])
 (.cond (.tmp 90) (.seq (.region none 0 [⟨some 91, (.build [.int .i64 0, .int .i64 0, .nils 3] []), none⟩,
 ⟨some 92, (.mov (.tmp 17)), none⟩,
 ⟨some 93, (.mov (.tmp 18)), none⟩,
 ⟨none, (.store 3 (.tmp 8) (.tmp 91)), none⟩,
 ⟨some 9, (.mov (.tmp 92)), none⟩,
 ⟨some 10, (.mov (.tmp 93)), none⟩])
 .ret)
 .skip))
 (.seq (.region none 0 [⟨some 94, (.mov (.tmp 17)), none⟩,
 ⟨some 3, (.mov (.tmp 94)), none⟩])
 (.region none 1 [⟨some 95, (.fieldAddr 2 (.tmp 13)), none⟩,
 ⟨some 96, (.load none (.tmp 95)), none⟩,
 ⟨some 97, (.load (some 3) (.tmp 16)), none⟩,
 ⟨some 98, (.ilit 3 [[.int .i64 0, .int .i64 0, .nils 3]] [(0, (.tmp 97))]), none⟩,
 ⟨some 99, (.append 0 3 40 (.tmp 96) (.tmp 98)), none⟩,
 ⟨some 100, (.fieldAddr 2 (.tmp 13)), none⟩,
 ⟨none, (.store 1 (.tmp 100) (.tmp 99)), none⟩])))))
 (.region none 0 [⟨some 72, (.mov (.tmp 15)), none⟩,
 ⟨some 73, (.bin .add (.tmp 72) (.const (.int .i64 1))), none⟩,
 ⟨some 15, (.mov (.tmp 73)), none⟩]))))))
 (.seq (.region none 0 [⟨some 101, (.load (some 3) (.tmp 13)), none⟩,
 ⟨some 102, (.mov (.tmp 3)), none⟩,
 ⟨none, (.store 3 (.tmp 8) (.tmp 101)), none⟩,
 ⟨some 9, (.mov (.tmp 102)), none⟩,
 ⟨some 10, (.mov (.const (.int .i64 0))), none⟩])
 .ret)))))))))))))⟩
/-- slices.Concat[[]byte,byte] -/
def m102 : MF := ⟨1, 36, [.tmp 2],
 (.seq (.region none 0 [⟨some 2, (.mov (.const (.nils 1))), none⟩])
 (.seq (.region none 0 [⟨some 3, (.mov (.const (.int .i64 0))), none⟩])
 (.seq (.seq (.region none 0 [⟨some 9, (.mov (.tmp 0)), none⟩,
 ⟨some 10, (.len (.tmp 9)), none⟩,
 ⟨some 11, (.mov (.const (.int .i64 0))), none⟩])
 (.block 0 (.loop (.seq (.region none 0 [⟨some 12, (.bin .lss (.tmp 11) (.tmp 10)), none⟩])
 (.seq (.cond (.tmp 12) .skip
 (.exit 0))
 (.seq (.block 1 (.seq (.region none 0 [⟨some 13, (.indexAddrL 1 (.tmp 9) (.tmp 11)), none⟩,
 ⟨some 14, (.load none (.tmp 13)), none⟩,
 ⟨some 5, (.mov (.tmp 14)), none⟩])
 (.seq (.region none 0 [⟨some 15, (.mov (.tmp 3)), none⟩,
 ⟨some 16, (.mov (.tmp 5)), none⟩,
 ⟨some 17, (.len (.tmp 16)), none⟩,
 ⟨some 18, (.bin .add (.tmp 15) (.tmp 17)), none⟩,
 ⟨some 3, (.mov (.tmp 18)), none⟩])
 (.seq (.region none 0 [⟨some 19, (.mov (.tmp 3)), none⟩,
 ⟨some 20, (.bin .lss (.tmp 19) (.const (.int .i64 0))), none⟩])
 (.cond (.tmp 20) (.region none 0 [⟨some 21, (.mkIface 9 (.const (.str [108, 101, 110, 32, 111, 117, 116, 32, 111, 102, 32, 114, 97, 110, 103, 101]))), none⟩,
 ⟨none, (.panic (.tmp 21)), none⟩])
 .skip)))))
 (.region none 0 [⟨some 22, (.bin .add (.tmp 11) (.const (.int .i64 1))), none⟩,
 ⟨some 11, (.mov (.tmp 22)), none⟩])))))))
 (.seq (.region none 1 [⟨some 23, (.mov (.tmp 3)), none⟩,
 ⟨some 24, (.call (.fn 135) [(.const (.nils 1)), (.tmp 23)] [true, false] (some 0)), none⟩,
 ⟨some 6, (.mov (.tmp 24)), none⟩])
 (.seq (.seq (.region none 0 [⟨some 25, (.mov (.tmp 0)), none⟩,
 ⟨some 26, (.len (.tmp 25)), none⟩,
 ⟨some 27, (.mov (.const (.int .i64 0))), none⟩])
 (.block 2 (.loop (.seq (.region none 0 [⟨some 28, (.bin .lss (.tmp 27) (.tmp 26)), none⟩])
 (.seq (.cond (.tmp 28) .skip
 (.exit 2))
 (.seq (.block 3 (.seq (.region none 0 [⟨some 29, (.indexAddrL 1 (.tmp 25) (.tmp 27)), none⟩,
 ⟨some 30, (.load none (.tmp 29)), none⟩,
 ⟨some 8, (.mov (.tmp 30)), none⟩])
 (.region none 1 [⟨some 31, (.mov (.tmp 6)), none⟩,
 ⟨some 32, (.mov (.tmp 8)), none⟩,
 ⟨some 33, (.append 0 1 1 (.tmp 31) (.tmp 32)), none⟩,
 ⟨some 6, (.mov (.tmp 33)), none⟩])))
 (.region none 0 [⟨some 34, (.bin .add (.tmp 27) (.const (.int .i64 1))), none⟩,
 ⟨some 27, (.mov (.tmp 34)), none⟩])))))))
 (.seq (.region none 0 [⟨some 35, (.mov (.tmp 6)), none⟩,
 ⟨some 2, (.mov (.tmp 35)), none⟩])
 .ret))))))⟩
/-- splicery/wire.Int -/
def m103 : MF := ⟨1, 47, [.tmp 2],
 (.seq (.region none 0 [⟨some 2, (.mov (.const (.nils 1))), none⟩])
 (.scope (.seq (.region none 0 [⟨some 8, (.mov (.tmp 0)), none⟩,
 ⟨some 9, (.convInt .u64 (.tmp 8)), none⟩,
 ⟨some 3, (.mov (.tmp 9)), none⟩,
 ⟨some 4, (.mov (.const (.int .u8 0))), none⟩])
 (.seq (.seq (.region none 0 [⟨some 10, (.mov (.tmp 0)), none⟩,
 ⟨some 11, (.bin .lss (.tmp 10) (.const (.int .i64 0))), none⟩])
 (.cond (.tmp 11) (.region none 0 [⟨some 12, (.mov (.tmp 3)), none⟩,
 ⟨some 13, (.un .xor (.tmp 12)), none⟩,
 ⟨some 3, (.mov (.tmp 13)), none⟩,
 ⟨some 4, (.mov (.const (.int .u8 255))), none⟩])
 .skip))
 (.seq (.region none 0 [⟨some 5, (.mov (.const (.int .i64 8))), none⟩])
 (.seq .skip
 (.seq (.block 0 (.loop (.seq (.seq (.region none 0 [⟨some 14, (.mov (.tmp 5)), none⟩,
 ⟨some 15, (.bin .gtr (.tmp 14) (.const (.int .i64 0))), none⟩])
 (.cond (.tmp 15) .skip
 (.exit 0)))
 (.block 1 (.seq (.seq (.region none 0 [⟨some 16, (.mov (.tmp 3)), none⟩,
 ⟨some 17, (.mov (.tmp 5)), none⟩,
 ⟨some 18, (.bin .sub (.tmp 17) (.const (.int .i64 1))), none⟩,
 ⟨some 19, (.bin .mul (.const (.int .i64 8)) (.tmp 18)), none⟩,
 ⟨some 20, (.bin .shr (.tmp 16) (.tmp 19)), none⟩,
 ⟨some 21, (.bin .gtr (.tmp 20) (.const (.int .u64 0))), none⟩])
 (.cond (.tmp 21) (.exit 0)
 .skip))
 (.region none 0 [⟨some 22, (.mov (.tmp 5)), none⟩,
 ⟨some 23, (.bin .sub (.tmp 22) (.const (.int .i64 1))), none⟩,
 ⟨some 5, (.mov (.tmp 23)), none⟩]))))))
 (.seq (.region none 1 [⟨some 24, (.mov (.tmp 5)), none⟩,
 ⟨some 25, (.bin .add (.const (.int .i64 128)) (.tmp 24)), none⟩,
 ⟨some 26, (.convInt .u8 (.tmp 25)), none⟩,
 ⟨some 27, (.mov (.tmp 4)), none⟩,
 ⟨some 28, (.bin .xor (.tmp 26) (.tmp 27)), none⟩,
 ⟨some 29, (.lit 0 1 [[.int .u8 0]] [(0, (.tmp 28))]), none⟩,
 ⟨some 6, (.mov (.tmp 29)), none⟩])
 (.seq (.seq (.region none 0 [⟨some 30, (.mov (.tmp 5)), none⟩,
 ⟨some 31, (.bin .sub (.tmp 30) (.const (.int .i64 1))), none⟩,
 ⟨some 7, (.mov (.tmp 31)), none⟩])
 (.block 2 (.loop (.seq (.seq (.region none 0 [⟨some 32, (.mov (.tmp 7)), none⟩,
 ⟨some 33, (.bin .geq (.tmp 32) (.const (.int .i64 0))), none⟩])
 (.cond (.tmp 33) .skip
 (.exit 2)))
 (.seq (.block 3 (.region none 1 [⟨some 36, (.mov (.tmp 6)), none⟩,
 ⟨some 37, (.mov (.tmp 3)), none⟩,
 ⟨some 38, (.mov (.tmp 7)), none⟩,
 ⟨some 39, (.bin .mul (.const (.int .i64 8)) (.tmp 38)), none⟩,
 ⟨some 40, (.bin .shr (.tmp 37) (.tmp 39)), none⟩,
 ⟨some 41, (.convInt .u8 (.tmp 40)), none⟩,
 ⟨some 42, (.mov (.tmp 4)), none⟩,
 ⟨some 43, (.bin .xor (.tmp 41) (.tmp 42)), none⟩,
 ⟨some 44, (.ilit 1 [[.int .u8 0]] [(0, (.tmp 43))]), none⟩,
 ⟨some 45, (.append 0 1 1 (.tmp 36) (.tmp 44)), none⟩,
 ⟨some 6, (.mov (.tmp 45)), none⟩]))
 (.region none 0 [⟨some 34, (.mov (.tmp 7)), none⟩,
 ⟨some 35, (.bin .sub (.tmp 34) (.const (.int .i64 1))), none⟩,
 ⟨some 7, (.mov (.tmp 35)), none⟩]))))))
 (.seq (.region none 0 [⟨some 46, (.mov (.tmp 6)), none⟩,
 ⟨some 2, (.mov (.tmp 46)), none⟩])
 .ret))))))))))⟩
/-- splicery/value.Decode$1 -/
def m104 : MF := ⟨5, 79, [.cell 6 (some 3), .tmp 7],
 (.seq (.region none 1 [⟨some 6, (.alloc 0 [.int .i64 0, .int .i64 0, .nils 3]), none⟩,
 ⟨some 7, (.mov (.const (.int .i64 0))), none⟩])
 (.seq (.seq (.region none 0 [⟨some 16, (.load none (.tmp 1)), none⟩,
 ⟨some 17, (.bin .sub (.tmp 16) (.const (.int .i64 1))), none⟩,
 ⟨none, (.store 1 (.tmp 1) (.tmp 17)), none⟩])
 (.seq (.region none 0 [⟨some 18, (.load none (.tmp 1)), none⟩,
 ⟨some 19, (.bin .lss (.tmp 18) (.const (.int .i64 0))), none⟩,
 ⟨some 20, (.mov (.tmp 19)), none⟩,
 ⟨some 21, (.mov (.tmp 0)), (some (20, false))⟩,
 ⟨some 22, (.bin .gtr (.tmp 21) (.const (.int .i64 24))), (some (20, false))⟩,
 ⟨some 23, (.pick (.tmp 20) (.const (.bool true)) (.tmp 22)), none⟩])
 (.cond (.tmp 23) (.seq (.region none 0 [⟨some 24, (.build [.int .i64 0, .int .i64 0, .nils 3] []), none⟩,
 ⟨none, (.store 3 (.tmp 6) (.tmp 24)), none⟩,
 ⟨some 7, (.mov (.const (.int .i64 4))), none⟩])
 .ret)
 .skip)))
 (.seq (.region none 1 [⟨some 8, (.alloc 0 [.int .i64 0, .int .i64 0, .int .i64 0]), none⟩])
 (.seq (.seq (.region none 0 [⟨some 25, (.mov (.const (.int .i64 0))), none⟩])
 (.block 0 (.loop (.seq (.region none 0 [⟨some 26, (.bin .lss (.tmp 25) (.const (.int .i64 3))), none⟩])
 (.seq (.cond (.tmp 26) .skip
 (.exit 0))
 (.seq (.block 1 (.seq (.region none 0 [⟨some 27, (.mov (.tmp 25)), none⟩,
 ⟨some 9, (.mov (.tmp 27)), none⟩])
 (.seq (.region none 0 [⟨some 29, (.load none (.tmp 2)), none⟩,
 ⟨some 30, (.load none (.tmp 3)), none⟩,
 ⟨some 31, (.sliceL 1 (.tmp 29) (some (.tmp 30)) none), none⟩,
 ⟨some 32, (.call (.fn 105) [(.tmp 31)] [] none), none⟩,
 ⟨some 28, (.mov (.tmp 32)), none⟩,
 ⟨some 33, (.extract (.tmp 28) 0), none⟩,
 ⟨some 34, (.extract (.tmp 28) 1), none⟩,
 ⟨some 35, (.extract (.tmp 28) 2), none⟩,
 ⟨some 10, (.mov (.tmp 33)), none⟩,
 ⟨some 11, (.mov (.tmp 34)), none⟩,
 ⟨some 12, (.mov (.tmp 35)), none⟩])
 (.seq (.seq (.region none 0 [⟨some 36, (.mov (.tmp 12)), none⟩,
 ⟨some 37, (.bin .neq (.tmp 36) (.const (.int .i64 0))), none⟩])
 (.cond (.tmp 37) (.seq (.region none 0 [⟨some 38, (.build [.int .i64 0, .int .i64 0, .nils 3] []), none⟩,
 ⟨some 39, (.mov (.tmp 12)), none⟩,
 ⟨none, (.store 3 (.tmp 6) (.tmp 38)), none⟩,
 ⟨some 7, (.mov (.tmp 39)), none⟩])
 .ret)
 .skip))
 (.region (some ([(2, 6)], [])) 0 [⟨some 40, (.mov (.tmp 9)), none⟩,
 ⟨some 41, (.mov (.tmp 10)), none⟩,
 ⟨some 42, (.load none (.tmp 3)), none⟩,
 ⟨some 43, (.mov (.tmp 11)), none⟩,
 ⟨some 44, (.bin .add (.tmp 42) (.tmp 43)), none⟩,
 ⟨some 45, (.indexAddrA 3 1 (.tmp 8) (.tmp 40)), none⟩,
 ⟨none, (.store 1 (.tmp 45) (.tmp 41)), none⟩,
 ⟨none, (.store 1 (.tmp 3) (.tmp 44)), none⟩])))))
 (.region none 0 [⟨some 46, (.bin .add (.tmp 25) (.const (.int .i64 1))), none⟩,
 ⟨some 25, (.mov (.tmp 46)), none⟩])))))))
 (.seq (.seq (.region none 0 [⟨some 47, (.indexAddrA 3 1 (.tmp 8) (.const (.int .i64 2))), none⟩,
 ⟨some 48, (.load none (.tmp 47)), none⟩,
 ⟨some 49, (.bin .lss (.tmp 48) (.const (.int .i64 0))), none⟩])
 (.cond (.tmp 49) (.seq (.region none 0 [⟨some 50, (.build [.int .i64 0, .int .i64 0, .nils 3] []), none⟩,
 ⟨none, (.store 3 (.tmp 6) (.tmp 50)), none⟩,
 ⟨some 7, (.mov (.const (.int .i64 2))), none⟩])
 .ret)
 .skip))
 (.seq (.region none 1 [⟨some 51, (.indexAddrA 3 1 (.tmp 8) (.const (.int .i64 0))), none⟩,
 ⟨some 52, (.load none (.tmp 51)), none⟩,
 ⟨some 53, (.indexAddrA 3 1 (.tmp 8) (.const (.int .i64 1))), none⟩,
 ⟨some 54, (.load none (.tmp 53)), none⟩,
 ⟨some 55, (.build [.int .i64 0, .int .i64 0, .nils 3] [(0, 1, (.tmp 52)), (1, 1, (.tmp 54))]), none⟩,
 ⟨some 13, (.alloc 0 [.int .i64 0, .int .i64 0, .nils 3]), none⟩,
 ⟨none, (.store 3 (.tmp 13) (.tmp 55)), none⟩])
 (.seq (.seq (.region none 0 [⟨some 56, (.indexAddrA 3 1 (.tmp 8) (.const (.int .i64 2))), none⟩,
 ⟨some 57, (.load none (.tmp 56)), none⟩,
 ⟨some 58, (.mov (.const (.int .i64 0))), none⟩])
 (.block 2 (.loop (.seq (.region none 0 [⟨some 59, (.bin .lss (.tmp 58) (.tmp 57)), none⟩])
 (.seq (.cond (.tmp 59) .skip
 (.exit 2))
 (.seq (.block 3 (.seq (.region none 1 [⟨some 61, (.load none (.tmp 4)), none⟩,
 ⟨some 62, (.mov (.tmp 0)), none⟩,
 ⟨some 63, (.bin .add (.tmp 62) (.const (.int .i64 1))), none⟩,
 ⟨some 64, (.call (.tmp 61) [(.tmp 63)] [false, true, true, true, true, true, true, true, true] none), none⟩,
 ⟨some 60, (.mov (.tmp 64)), none⟩,
 ⟨some 65, (.extract (.tmp 60) 0), none⟩,
 ⟨some 66, (.extract (.tmp 60) 1), none⟩,
 ⟨some 14, (.alloc 0 [.int .i64 0, .int .i64 0, .nils 3]), none⟩,
 ⟨none, (.store 3 (.tmp 14) (.tmp 65)), none⟩,
 ⟨some 15, (.mov (.tmp 66)), none⟩])
 (.seq (.seq (.region none 0 [⟨some 67, (.mov (.tmp 15)), none⟩,
 ⟨some 68, (.bin .neq (.tmp 67) (.const (.int .i64 0))), none⟩])
 (.cond (.tmp 68) (.seq (.region none 0 [⟨some 69, (.build [.int .i64 0, .int .i64 0, .nils 3] []), none⟩,
 ⟨some 70, (.mov (.tmp 15)), none⟩,
 ⟨none, (.store 3 (.tmp 6) (.tmp 69)), none⟩,
 ⟨some 7, (.mov (.tmp 70)), none⟩])
 .ret)
 .skip))
 (.region none 1 [⟨some 71, (.fieldAddr 2 (.tmp 13)), none⟩,
 ⟨some 72, (.load none (.tmp 71)), none⟩,
 ⟨some 73, (.load (some 3) (.tmp 14)), none⟩,
 ⟨some 74, (.ilit 3 [[.int .i64 0, .int .i64 0, .nils 3]] [(0, (.tmp 73))]), none⟩,
 ⟨some 75, (.append 0 3 40 (.tmp 72) (.tmp 74)), none⟩,
 ⟨some 76, (.fieldAddr 2 (.tmp 13)), none⟩,
 ⟨none, (.store 1 (.tmp 76) (.tmp 75)), none⟩]))))
 (.region none 0 [⟨some 77, (.bin .add (.tmp 58) (.const (.int .i64 1))), none⟩,
 ⟨some 58, (.mov (.tmp 77)), none⟩])))))))
 (.seq (.region none 0 [⟨some 78, (.load (some 3) (.tmp 13)), none⟩,
 ⟨none, (.store 3 (.tmp 6) (.tmp 78)), none⟩,
 ⟨some 7, (.mov (.const (.int .i64 0))), none⟩])
 .ret))))))))⟩
/-- splicery/wire.GetInt -/
def m105 : MF := ⟨1, 71, [.tmp 2, .tmp 3, .tmp 4],
 (.seq (.region none 0 [⟨some 2, (.mov (.const (.int .i64 0))), none⟩,
 ⟨some 3, (.mov (.const (.int .i64 0))), none⟩,
 ⟨some 4, (.mov (.const (.int .i64 0))), none⟩])
 (.seq (.seq (.region none 0 [⟨some 10, (.mov (.tmp 0)), none⟩,
 ⟨some 11, (.len (.tmp 10)), none⟩,
 ⟨some 12, (.bin .eql (.tmp 11) (.const (.int .i64 0))), none⟩])
 (.cond (.tmp 12) (.seq (.region none 0 [⟨some 2, (.mov (.const (.int .i64 0))), none⟩,
 ⟨some 3, (.mov (.const (.int .i64 0))), none⟩,
 ⟨some 4, (.mov (.const (.int .i64 3))), none⟩])
 .ret)
 .skip))
 (.seq (.region none 0 [⟨some 5, (.mov (.const (.int .u8 0))), none⟩])
 (.seq (.seq (.region none 0 [⟨some 13, (.mov (.tmp 0)), none⟩,
 ⟨some 14, (.indexAddrL 1 (.tmp 13) (.const (.int .i64 0))), none⟩,
 ⟨some 15, (.load none (.tmp 14)), none⟩,
 ⟨some 16, (.bin .lss (.tmp 15) (.const (.int .u8 128))), none⟩])
 (.cond (.tmp 16) (.region none 0 [⟨some 5, (.mov (.const (.int .u8 255))), none⟩])
 .skip))
 (.seq (.region none 0 [⟨some 17, (.mov (.tmp 0)), none⟩,
 ⟨some 18, (.indexAddrL 1 (.tmp 17) (.const (.int .i64 0))), none⟩,
 ⟨some 19, (.load none (.tmp 18)), none⟩,
 ⟨some 20, (.mov (.tmp 5)), none⟩,
 ⟨some 21, (.bin .xor (.tmp 19) (.tmp 20)), none⟩,
 ⟨some 22, (.convInt .i64 (.tmp 21)), none⟩,
 ⟨some 23, (.bin .sub (.tmp 22) (.const (.int .i64 128))), none⟩,
 ⟨some 6, (.mov (.tmp 23)), none⟩])
 (.seq (.block 0 (.seq (.region none 0 [⟨some 25, (.mov (.tmp 6)), none⟩,
 ⟨some 26, (.bin .gtr (.tmp 25) (.const (.int .i64 8))), none⟩,
 ⟨some 24, (.mov (.tmp 26)), none⟩])
 (.cond (.tmp 24) (.seq (.region none 0 [⟨some 2, (.mov (.const (.int .i64 0))), none⟩,
 ⟨some 3, (.mov (.const (.int .i64 0))), none⟩,
 ⟨some 4, (.mov (.const (.int .i64 2))), none⟩])
 .ret)
 (.seq (.region none 0 [⟨some 28, (.mov (.tmp 0)), none⟩,
 ⟨some 29, (.len (.tmp 28)), none⟩,
 ⟨some 30, (.mov (.tmp 6)), none⟩,
 ⟨some 31, (.bin .leq (.tmp 29) (.tmp 30)), none⟩,
 ⟨some 27, (.mov (.tmp 31)), none⟩])
 (.cond (.tmp 27) (.seq (.region none 0 [⟨some 2, (.mov (.const (.int .i64 0))), none⟩,
 ⟨some 3, (.mov (.const (.int .i64 0))), none⟩,
 ⟨some 4, (.mov (.const (.int .i64 3))), none⟩])
 .ret)
 (.seq (.region none 0 [⟨some 33, (.mov (.tmp 6)), none⟩,
 ⟨some 34, (.bin .gtr (.tmp 33) (.const (.int .i64 0))), none⟩,
 ⟨some 35, (.mov (.tmp 34)), none⟩,
 ⟨some 36, (.mov (.tmp 0)), (some (35, true))⟩,
 ⟨some 37, (.indexAddrL 1 (.tmp 36) (.const (.int .i64 1))), (some (35, true))⟩,
 ⟨some 38, (.load none (.tmp 37)), (some (35, true))⟩,
 ⟨some 39, (.mov (.tmp 5)), (some (35, true))⟩,
 ⟨some 40, (.bin .xor (.tmp 38) (.tmp 39)), (some (35, true))⟩,
 ⟨some 41, (.bin .eql (.tmp 40) (.const (.int .u8 0))), (some (35, true))⟩,
 ⟨some 42, (.pick (.tmp 35) (.tmp 41) (.const (.bool false))), none⟩,
 ⟨some 32, (.mov (.tmp 42)), none⟩])
 (.cond (.tmp 32) (.seq (.region none 0 [⟨some 2, (.mov (.const (.int .i64 0))), none⟩,
 ⟨some 3, (.mov (.const (.int .i64 0))), none⟩,
 ⟨some 4, (.mov (.const (.int .i64 2))), none⟩])
 .ret)
 .skip)))))))
 (.seq (.region none 0 [⟨some 7, (.mov (.const (.int .u64 0))), none⟩])
 (.seq (.seq (.region none 0 [⟨some 43, (.mov (.tmp 0)), none⟩,
 ⟨some 44, (.mov (.tmp 6)), none⟩,
 ⟨some 45, (.bin .add (.tmp 44) (.const (.int .i64 1))), none⟩,
 ⟨some 46, (.sliceL 1 (.tmp 43) (some (.const (.int .i64 1))) (some (.tmp 45))), none⟩,
 ⟨some 47, (.len (.tmp 46)), none⟩,
 ⟨some 48, (.mov (.const (.int .i64 0))), none⟩])
 (.block 1 (.loop (.seq (.region none 0 [⟨some 49, (.bin .lss (.tmp 48) (.tmp 47)), none⟩])
 (.seq (.cond (.tmp 49) .skip
 (.exit 1))
 (.seq (.block 2 (.seq (.region none 0 [⟨some 50, (.indexAddrL 1 (.tmp 46) (.tmp 48)), none⟩,
 ⟨some 51, (.load none (.tmp 50)), none⟩,
 ⟨some 9, (.mov (.tmp 51)), none⟩])
 (.region none 0 [⟨some 52, (.mov (.tmp 7)), none⟩,
 ⟨some 53, (.bin .shl (.tmp 52) (.const (.int .u64 8))), none⟩,
 ⟨some 54, (.mov (.tmp 9)), none⟩,
 ⟨some 55, (.mov (.tmp 5)), none⟩,
 ⟨some 56, (.bin .xor (.tmp 54) (.tmp 55)), none⟩,
 ⟨some 57, (.convInt .u64 (.tmp 56)), none⟩,
 ⟨some 58, (.bin .or (.tmp 53) (.tmp 57)), none⟩,
 ⟨some 7, (.mov (.tmp 58)), none⟩])))
 (.region none 0 [⟨some 59, (.bin .add (.tmp 48) (.const (.int .i64 1))), none⟩,
 ⟨some 48, (.mov (.tmp 59)), none⟩])))))))
 (.seq (.seq (.region none 0 [⟨some 60, (.mov (.tmp 7)), none⟩,
 ⟨some 61, (.bin .shr (.tmp 60) (.const (.int .u64 63))), none⟩,
 ⟨some 62, (.bin .gtr (.tmp 61) (.const (.int .u64 0))), none⟩])
 (.cond (.tmp 62) (.seq (.region none 0 [⟨some 2, (.mov (.const (.int .i64 0))), none⟩,
 ⟨some 3, (.mov (.const (.int .i64 0))), none⟩,
 ⟨some 4, (.mov (.const (.int .i64 2))), none⟩])
 .ret)
 .skip))
 (.seq (.seq (.region none 0 [⟨some 63, (.mov (.tmp 5)), none⟩,
 ⟨some 64, (.bin .gtr (.tmp 63) (.const (.int .u8 0))), none⟩])
 (.cond (.tmp 64) (.region none 0 [⟨some 65, (.mov (.tmp 7)), none⟩,
 ⟨some 66, (.un .xor (.tmp 65)), none⟩,
 ⟨some 7, (.mov (.tmp 66)), none⟩])
 .skip))
 (.seq (.region none 0 [⟨some 67, (.mov (.tmp 7)), none⟩,
 ⟨some 68, (.convInt .i64 (.tmp 67)), none⟩,
 ⟨some 69, (.mov (.tmp 6)), none⟩,
 ⟨some 70, (.bin .add (.tmp 69) (.const (.int .i64 1))), none⟩,
 ⟨some 2, (.mov (.tmp 68)), none⟩,
 ⟨some 3, (.mov (.tmp 70)), none⟩,
 ⟨some 4, (.mov (.const (.int .i64 0))), none⟩])
 .ret)))))))))))⟩
/-- splicery/value.small$1 -/
def m130 : MF := ⟨4, 22, [.tmp 6],
 (.seq (.region none 2 [⟨some 4, (.box 0 (.tmp 0)), none⟩,
 ⟨some 5, (.box 1 (.tmp 1)), none⟩,
 ⟨some 6, (.mov (.const (.bool false))), none⟩])
 (.seq (.region none 0 [⟨some 7, (.load none (.tmp 2)), none⟩,
 ⟨some 8, (.bin .sub (.tmp 7) (.const (.int .i64 1))), none⟩,
 ⟨none, (.store 1 (.tmp 2) (.tmp 8)), none⟩])
 (.seq (.region none 0 [⟨some 9, (.load none (.tmp 2)), none⟩,
 ⟨some 10, (.bin .geq (.tmp 9) (.const (.int .i64 0))), none⟩,
 ⟨some 11, (.mov (.tmp 10)), none⟩,
 ⟨some 12, (.load none (.tmp 5)), (some (11, true))⟩,
 ⟨some 13, (.bin .leq (.tmp 12) (.const (.int .i64 24))), (some (11, true))⟩,
 ⟨some 14, (.pick (.tmp 11) (.tmp 13) (.const (.bool false))), none⟩,
 ⟨some 15, (.mov (.tmp 14)), none⟩,
 ⟨some 16, (.fieldAddr 2 (.tmp 4)), (some (15, true))⟩,
 ⟨some 17, (.load none (.tmp 16)), (some (15, true))⟩,
 ⟨some 18, (.mkFn 132 [(.tmp 3), (.tmp 5)]), (some (15, true))⟩,
 ⟨some 19, (.call (.fn 131) [(.tmp 17), (.tmp 18)] [false, true] none), (some (15, true))⟩,
 ⟨some 20, (.un .not (.tmp 19)), (some (15, true))⟩,
 ⟨some 21, (.pick (.tmp 15) (.tmp 20) (.const (.bool false))), none⟩,
 ⟨some 6, (.mov (.tmp 21)), none⟩])
 .ret)))⟩
/-- slices.ContainsFunc[[]splicery/api.Value,splicery/api.Value] -/
def m131 : MF := ⟨2, 9, [.tmp 4],
 (.seq (.region none 0 [⟨some 4, (.mov (.const (.bool false))), none⟩])
 (.seq (.region none 0 [⟨some 5, (.mov (.tmp 0)), none⟩,
 ⟨some 6, (.mov (.tmp 1)), none⟩,
 ⟨some 7, (.call (.fn 141) [(.tmp 5), (.tmp 6)] [false, true] none), none⟩,
 ⟨some 8, (.bin .geq (.tmp 7) (.const (.int .i64 0))), none⟩,
 ⟨some 4, (.mov (.tmp 8)), none⟩])
 .ret))⟩
/-- splicery/value.small$1$1 -/
def m132 : MF := ⟨3, 11, [.tmp 4],
 (.seq (.region none 1 [⟨some 3, (.box 0 (.tmp 0)), none⟩,
 ⟨some 4, (.mov (.const (.bool false))), none⟩])
 (.seq (.region none 0 [⟨some 5, (.load none (.tmp 1)), none⟩,
 ⟨some 6, (.load (some 3) (.tmp 3)), none⟩,
 ⟨some 7, (.load none (.tmp 2)), none⟩,
 ⟨some 8, (.bin .add (.tmp 7) (.const (.int .i64 1))), none⟩,
 ⟨some 9, (.call (.tmp 5) [(.tmp 6), (.tmp 8)] [false, false, true, true, true, true, true, true, true, true] none), none⟩,
 ⟨some 10, (.un .not (.tmp 9)), none⟩,
 ⟨some 4, (.mov (.tmp 10)), none⟩])
 .ret))⟩
/-- splicery/value.fits$1 -/
def m133 : MF := ⟨3, 13, [.tmp 4],
 (.seq (.region none 1 [⟨some 3, (.box 0 (.tmp 0)), none⟩,
 ⟨some 4, (.mov (.const (.bool false))), none⟩])
 (.seq (.region (some ([], [6])) 0 [⟨some 5, (.load (some 2) (.tmp 1)), none⟩,
 ⟨some 6, (.fieldAddr 4 (.tmp 2)), none⟩,
 ⟨some 7, (.load none (.tmp 6)), none⟩,
 ⟨some 8, (.indexAddrL 5 (.tmp 7) (.const (.int .i64 0))), none⟩,
 ⟨some 9, (.load (some 5) (.tmp 8)), none⟩,
 ⟨some 10, (.load (some 3) (.tmp 3)), none⟩,
 ⟨some 11, (.call (.fn 93) [(.tmp 5), (.tmp 9), (.tmp 10)] [] none), none⟩,
 ⟨some 12, (.un .not (.tmp 11)), none⟩,
 ⟨some 4, (.mov (.tmp 12)), none⟩])
 .ret))⟩
/-- cmp.isNaN[int] -/
def m134 : MF := ⟨1, 6, [.tmp 2],
 (.seq (.region none 0 [⟨some 2, (.mov (.const (.bool false))), none⟩])
 (.seq (.region none 0 [⟨some 3, (.mov (.tmp 0)), none⟩,
 ⟨some 4, (.mov (.tmp 0)), none⟩,
 ⟨some 5, (.bin .neq (.tmp 3) (.tmp 4)), none⟩,
 ⟨some 2, (.mov (.tmp 5)), none⟩])
 .ret))⟩
/-- slices.Grow[[]byte,byte] -/
def m135 : MF := ⟨2, 27, [.tmp 4],
 (.seq (.region none 0 [⟨some 4, (.mov (.const (.nils 1))), none⟩])
 (.seq (.seq (.region none 0 [⟨some 5, (.mov (.tmp 1)), none⟩,
 ⟨some 6, (.bin .lss (.tmp 5) (.const (.int .i64 0))), none⟩])
 (.cond (.tmp 6) (.region none 0 [⟨some 7, (.mkIface 9 (.const (.str [99, 97, 110, 110, 111, 116, 32, 98, 101, 32, 110, 101, 103, 97, 116, 105, 118, 101]))), none⟩,
 ⟨none, (.panic (.tmp 7)), none⟩])
 .skip))
 (.seq (.seq (.region none 0 [⟨some 8, (.mov (.tmp 1)), none⟩,
 ⟨some 9, (.mov (.tmp 0)), none⟩,
 ⟨some 10, (.cap0 (.tmp 9)), none⟩,
 ⟨some 11, (.mov (.tmp 0)), none⟩,
 ⟨some 12, (.len (.tmp 11)), none⟩,
 ⟨some 13, (.bin .sub (.tmp 10) (.tmp 12)), none⟩,
 ⟨some 14, (.bin .sub (.tmp 8) (.tmp 13)), none⟩,
 ⟨some 1, (.mov (.tmp 14)), none⟩])
 (.seq (.region none 0 [⟨some 15, (.mov (.tmp 1)), none⟩,
 ⟨some 16, (.bin .gtr (.tmp 15) (.const (.int .i64 0))), none⟩])
 (.cond (.tmp 16) (.region none 1 [⟨some 17, (.mov (.tmp 0)), none⟩,
 ⟨some 18, (.mov (.tmp 0)), none⟩,
 ⟨some 19, (.cap0 (.tmp 18)), none⟩,
 ⟨some 20, (.sliceL 1 (.tmp 17) none (some (.tmp 19))), none⟩,
 ⟨some 21, (.mov (.tmp 1)), none⟩,
 ⟨some 22, (.appendZ 0 1 1 [.int .u8 0] (.tmp 20) (.tmp 21)), none⟩,
 ⟨some 23, (.mov (.tmp 0)), none⟩,
 ⟨some 24, (.len (.tmp 23)), none⟩,
 ⟨some 25, (.sliceL 1 (.tmp 22) none (some (.tmp 24))), none⟩,
 ⟨some 0, (.mov (.tmp 25)), none⟩])
 .skip)))
 (.seq (.region none 0 [⟨some 26, (.mov (.tmp 0)), none⟩,
 ⟨some 4, (.mov (.tmp 26)), none⟩])
 .ret))))⟩
/-- slices.IndexFunc[[]splicery/api.Value,splicery/api.Value] -/
def m141 : MF := ⟨2, 19, [.tmp 4],
 (.seq (.region none 0 [⟨some 4, (.mov (.const (.int .i64 0))), none⟩])
 (.seq (.seq (.region none 0 [⟨some 6, (.mov (.tmp 0)), none⟩,
 ⟨some 7, (.len (.tmp 6)), none⟩,
 ⟨some 8, (.mov (.const (.int .i64 0))), none⟩])
 (.block 0 (.loop (.seq (.region none 0 [⟨some 9, (.bin .lss (.tmp 8) (.tmp 7)), none⟩])
 (.seq (.cond (.tmp 9) .skip
 (.exit 0))
 (.seq (.block 1 (.seq (.region none 0 [⟨some 10, (.mov (.tmp 8)), none⟩,
 ⟨some 5, (.mov (.tmp 10)), none⟩])
 (.seq (.region none 0 [⟨some 11, (.mov (.tmp 1)), none⟩,
 ⟨some 12, (.mov (.tmp 0)), none⟩,
 ⟨some 13, (.mov (.tmp 5)), none⟩,
 ⟨some 14, (.indexAddrL 3 (.tmp 12) (.tmp 13)), none⟩,
 ⟨some 15, (.load (some 3) (.tmp 14)), none⟩,
 ⟨some 16, (.call (.tmp 11) [(.tmp 15)] [false, true, true, true, true, true, true, true, true] none), none⟩])
 (.cond (.tmp 16) (.seq (.region none 0 [⟨some 17, (.mov (.tmp 5)), none⟩,
 ⟨some 4, (.mov (.tmp 17)), none⟩])
 .ret)
 .skip))))
 (.region none 0 [⟨some 18, (.bin .add (.tmp 8) (.const (.int .i64 1))), none⟩,
 ⟨some 8, (.mov (.tmp 18)), none⟩])))))))
 (.seq (.region none 0 [⟨some 4, (.mov (.const (.int .i64 (-1)))), none⟩])
 .ret)))⟩
def tbl : List (Option MF) := [none, none, none, none, none, none, none, none, none, none, none, none, some m12, none, none, none, none, none, none, none, none, none, none, none, none, none, some m26, some m27, some m28, some m29, none, none, none, some m33, some m34, some m35, some m36, some m37, some m38, none, some m40, some m41, some m42, none, some m44, none, some m46, some m47, some m48, some m49, none, some m51, some m52, some m53, some m54, some m55, none, some m57, none, some m59, none, some m61, none, none, none, none, none, none, none, none, none, none, none, none, none, none, none, none, none, none, none, some m81, some m82, none, none, none, none, some m87, some m88, some m89, some m90, some m91, some m92, some m93, none, some m95, some m96, some m97, some m98, some m99, some m100, none, some m102, some m103, some m104, some m105, none, none, none, none, none, none, none, none, none, none, none, none, none, none, none, none, none, none, none, none, none, none, none, none, some m130, some m131, some m132, some m133, some m134, some m135, none, none, none, none, none, some m141, none, none, none, none, none, none, none, none, none, none, none, none, none, none, none, none, none, none, none, none]
def T (f : Nat) : Option MF := (tbl[f]?).join
end Go.Proofs.Ytoccgkgdhobmfaa.Am
