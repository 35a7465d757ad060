/- The abstract machine's form of the seat's functions, printed by gen.py. -/
import Derived.Test.YtoccgkgdhobmfaaDoorWe
import Derived.Test.YtoccgkgdhobmfaaDoorProg
set_option maxRecDepth 100000
namespace Go.Proofs.YtoccgkgdhobmfaaDoor.Am
open Go
/-- splicery/splicerylaw02.HashSumMatchesSpec -/
def m3 : MF := ⟨1, 29, [.tmp 2],
  (.seq (.region none 0 [⟨some 2, (.mov (.const (.bool false))), none⟩])
    (.seq (.region none 0 [⟨some 6, (.call (.fn 14) [] [] none), none⟩,
      ⟨some 3, (.mov (.tmp 6)), none⟩])
    (.seq (.seq (.region none 0 [⟨some 7, (.mov (.tmp 0)), none⟩,
      ⟨some 8, (.len (.tmp 7)), none⟩,
      ⟨some 9, (.bin .gtr (.tmp 8) (.const (.int .i64 1000))), none⟩])
    (.cond (.tmp 9) (.seq (.region none 0 [⟨some 10, (.mov (.tmp 3)), none⟩,
      ⟨some 2, (.mov (.tmp 10)), none⟩])
    .ret)
    .skip))
    (.seq (.region none 0 [⟨some 11, (.mov (.tmp 0)), none⟩,
      ⟨some 12, (.convStr (.tmp 11)), none⟩,
      ⟨some 4, (.mov (.tmp 12)), none⟩])
    (.seq (.region none 1 [⟨some 13, (.mov (.tmp 0)), none⟩,
      ⟨some 14, (.call (.fn 15) [(.tmp 13)] [] none), none⟩,
      ⟨some 5, (.alloc 0 ((List.replicate 32 (0 : Int)).map (V.int .u8))), none⟩,
      ⟨none, (.store 32 (.tmp 5) (.tmp 14)), none⟩])
    (.seq (.region (some ([(2, 5)], [])) 0 [⟨some 15, (.mov (.tmp 3)), none⟩,
      ⟨some 16, (.mov (.tmp 15)), none⟩,
      ⟨some 17, (.load (some 32) (.tmp 5)), (some (16, true))⟩,
      ⟨some 18, (.mov (.tmp 4)), (some (16, true))⟩,
      ⟨some 19, (.convBytes (.tmp 18)), (some (16, true))⟩,
      ⟨some 20, (.call (.fn 16) [(.tmp 19)] [] none), (some (16, true))⟩,
      ⟨some 21, (.eqv false [1, 1, 1, 1, 1, 1, 1, 1, 1, 1, 1, 1, 1, 1, 1, 1, 1, 1, 1, 1, 1, 1, 1, 1, 1, 1, 1, 1, 1, 1, 1, 1] (.tmp 17) (.tmp 20)), (some (16, true))⟩,
      ⟨some 22, (.pick (.tmp 16) (.tmp 21) (.const (.bool false))), none⟩,
      ⟨some 23, (.mov (.tmp 22)), none⟩,
      ⟨some 24, (.mov (.tmp 0)), (some (23, true))⟩,
      ⟨some 25, (.convStr (.tmp 24)), (some (23, true))⟩,
      ⟨some 26, (.mov (.tmp 4)), (some (23, true))⟩,
      ⟨some 27, (.bin .eql (.tmp 25) (.tmp 26)), (some (23, true))⟩,
      ⟨some 28, (.pick (.tmp 23) (.tmp 27) (.const (.bool false))), none⟩,
      ⟨some 2, (.mov (.tmp 28)), none⟩])
    .ret))))))⟩

/-- splicery/splicerylaw02.HashStreamsAgree -/
def m4 : MF := ⟨3, 102, [.tmp 6],
  (.seq (.region none 0 [⟨some 6, (.mov (.const (.bool false))), none⟩])
    (.seq (.region none 0 [⟨some 16, (.call (.fn 14) [] [] none), none⟩,
      ⟨some 7, (.mov (.tmp 16)), none⟩])
    (.seq (.seq (.region none 0 [⟨some 17, (.mov (.tmp 0)), none⟩,
      ⟨some 18, (.call (.fn 17) [(.tmp 17)] [] none), none⟩,
      ⟨some 19, (.un .not (.tmp 18)), none⟩,
      ⟨some 20, (.mov (.tmp 19)), none⟩,
      ⟨some 21, (.mov (.tmp 1)), (some (20, false))⟩,
      ⟨some 22, (.lenS (.tmp 21)), (some (20, false))⟩,
      ⟨some 23, (.bin .gtr (.tmp 22) (.const (.int .i64 400))), (some (20, false))⟩,
      ⟨some 24, (.pick (.tmp 20) (.const (.bool true)) (.tmp 23)), none⟩])
    (.cond (.tmp 24) (.seq (.region none 0 [⟨some 25, (.mov (.tmp 7)), none⟩,
      ⟨some 6, (.mov (.tmp 25)), none⟩])
    .ret)
    .skip))
    (.seq (.region none 0 [⟨some 26, (.mov (.tmp 2)), none⟩,
      ⟨some 27, (.convInt .i64 (.tmp 26)), none⟩,
      ⟨some 28, (.mov (.tmp 0)), none⟩,
      ⟨some 29, (.len (.tmp 28)), none⟩,
      ⟨some 30, (.bin .add (.tmp 29) (.const (.int .i64 1))), none⟩,
      ⟨some 31, (.bin .rem (.tmp 27) (.tmp 30)), none⟩,
      ⟨some 8, (.mov (.tmp 31)), none⟩])
    (.seq (.region none 1 [⟨some 32, (.call (.fn 18) [] [] none), none⟩,
      ⟨some 9, (.alloc 0 (((List.replicate 8 (0 : Int)).map (V.int .u32)) ++ (((List.replicate 64 (0 : Int)).map (V.int .u8)) ++ ([.int .u64 0])))), none⟩,
      ⟨none, (.store 73 (.tmp 9) (.tmp 32)), none⟩])
    (.seq (.seq (.region none 0 [⟨some 10, (.mov (.const (.int .i64 0))), none⟩])
    (.block 0 (.loop (.seq (.seq (.region none 0 [⟨some 33, (.mov (.tmp 10)), none⟩,
      ⟨some 34, (.mov (.tmp 8)), none⟩,
      ⟨some 35, (.bin .lss (.tmp 33) (.tmp 34)), none⟩])
    (.cond (.tmp 35) .skip
    (.exit 0)))
    (.seq (.block 1 (.region (some ([], [5])) 0 [⟨some 38, (.load (some 73) (.tmp 9)), none⟩,
      ⟨some 39, (.mov (.tmp 0)), none⟩,
      ⟨some 40, (.mov (.tmp 10)), none⟩,
      ⟨some 41, (.indexAddrL 1 (.tmp 39) (.tmp 40)), none⟩,
      ⟨some 42, (.load none (.tmp 41)), none⟩,
      ⟨some 43, (.call (.fn 19) [(.tmp 38), (.tmp 42)] [] none), none⟩,
      ⟨none, (.store 73 (.tmp 9) (.tmp 43)), none⟩]))
    (.region none 0 [⟨some 36, (.mov (.tmp 10)), none⟩,
      ⟨some 37, (.bin .add (.tmp 36) (.const (.int .i64 1))), none⟩,
      ⟨some 10, (.mov (.tmp 37)), none⟩]))))))
    (.seq (.region none 1 [⟨some 44, (.load (some 73) (.tmp 9)), none⟩,
      ⟨some 11, (.alloc 0 (((List.replicate 8 (0 : Int)).map (V.int .u32)) ++ (((List.replicate 64 (0 : Int)).map (V.int .u8)) ++ ([.int .u64 0])))), none⟩,
      ⟨none, (.store 73 (.tmp 11) (.tmp 44)), none⟩])
    (.seq (.seq (.region none 0 [⟨some 45, (.mov (.tmp 8)), none⟩,
      ⟨some 12, (.mov (.tmp 45)), none⟩])
    (.block 2 (.loop (.seq (.seq (.region none 0 [⟨some 46, (.mov (.tmp 12)), none⟩,
      ⟨some 47, (.mov (.tmp 0)), none⟩,
      ⟨some 48, (.len (.tmp 47)), none⟩,
      ⟨some 49, (.bin .lss (.tmp 46) (.tmp 48)), none⟩])
    (.cond (.tmp 49) .skip
    (.exit 2)))
    (.seq (.block 3 (.region (some ([], [5])) 0 [⟨some 52, (.load (some 73) (.tmp 9)), none⟩,
      ⟨some 53, (.mov (.tmp 0)), none⟩,
      ⟨some 54, (.mov (.tmp 12)), none⟩,
      ⟨some 55, (.indexAddrL 1 (.tmp 53) (.tmp 54)), none⟩,
      ⟨some 56, (.load none (.tmp 55)), none⟩,
      ⟨some 57, (.call (.fn 19) [(.tmp 52), (.tmp 56)] [] none), none⟩,
      ⟨none, (.store 73 (.tmp 9) (.tmp 57)), none⟩]))
    (.region none 0 [⟨some 50, (.mov (.tmp 12)), none⟩,
      ⟨some 51, (.bin .add (.tmp 50) (.const (.int .i64 1))), none⟩,
      ⟨some 12, (.mov (.tmp 51)), none⟩]))))))
    (.seq (.region none 1 [⟨some 58, (.load (some 73) (.tmp 11)), none⟩,
      ⟨some 59, (.mov (.tmp 1)), none⟩,
      ⟨some 60, (.call (.fn 19) [(.tmp 58), (.tmp 59)] [] none), none⟩,
      ⟨some 13, (.alloc 0 (((List.replicate 8 (0 : Int)).map (V.int .u32)) ++ (((List.replicate 64 (0 : Int)).map (V.int .u8)) ++ ([.int .u64 0])))), none⟩,
      ⟨none, (.store 73 (.tmp 13) (.tmp 60)), none⟩])
    (.seq (.region none 0 [⟨some 61, (.mov (.tmp 0)), none⟩,
      ⟨some 62, (.call (.fn 20) [(.tmp 61)] [] none), none⟩,
      ⟨some 14, (.mov (.tmp 62)), none⟩])
    (.seq (.region none 0 [⟨some 63, (.mov (.tmp 0)), none⟩,
      ⟨some 64, (.mov (.tmp 8)), none⟩,
      ⟨some 65, (.sliceL 1 (.tmp 63) none (some (.tmp 64))), none⟩,
      ⟨some 66, (.call (.fn 20) [(.tmp 65)] [] none), none⟩,
      ⟨some 15, (.mov (.tmp 66)), none⟩])
    (.seq (.region none 0 [⟨some 67, (.mov (.tmp 7)), none⟩,
      ⟨some 68, (.mov (.tmp 67)), none⟩,
      ⟨some 69, (.load (some 73) (.tmp 9)), (some (68, true))⟩,
      ⟨some 70, (.call (.fn 21) [(.tmp 69)] [] none), (some (68, true))⟩,
      ⟨some 71, (.mov (.tmp 14)), (some (68, true))⟩,
      ⟨some 72, (.convBytes (.tmp 71)), (some (68, true))⟩,
      ⟨some 73, (.call (.fn 16) [(.tmp 72)] [] none), (some (68, true))⟩,
      ⟨some 74, (.eqv false [1, 1, 1, 1, 1, 1, 1, 1, 1, 1, 1, 1, 1, 1, 1, 1, 1, 1, 1, 1, 1, 1, 1, 1, 1, 1, 1, 1, 1, 1, 1, 1] (.tmp 70) (.tmp 73)), (some (68, true))⟩,
      ⟨some 75, (.pick (.tmp 68) (.tmp 74) (.const (.bool false))), none⟩,
      ⟨some 76, (.mov (.tmp 75)), none⟩,
      ⟨some 77, (.load (some 73) (.tmp 11)), (some (76, true))⟩,
      ⟨some 78, (.call (.fn 21) [(.tmp 77)] [] none), (some (76, true))⟩,
      ⟨some 79, (.mov (.tmp 15)), (some (76, true))⟩,
      ⟨some 80, (.convBytes (.tmp 79)), (some (76, true))⟩,
      ⟨some 81, (.call (.fn 16) [(.tmp 80)] [] none), (some (76, true))⟩,
      ⟨some 82, (.eqv false [1, 1, 1, 1, 1, 1, 1, 1, 1, 1, 1, 1, 1, 1, 1, 1, 1, 1, 1, 1, 1, 1, 1, 1, 1, 1, 1, 1, 1, 1, 1, 1] (.tmp 78) (.tmp 81)), (some (76, true))⟩,
      ⟨some 83, (.pick (.tmp 76) (.tmp 82) (.const (.bool false))), none⟩,
      ⟨some 84, (.mov (.tmp 83)), none⟩,
      ⟨some 85, (.load (some 73) (.tmp 13)), (some (84, true))⟩,
      ⟨some 86, (.call (.fn 21) [(.tmp 85)] [] none), (some (84, true))⟩,
      ⟨some 87, (.mov (.tmp 15)), (some (84, true))⟩,
      ⟨some 88, (.mov (.tmp 1)), (some (84, true))⟩,
      ⟨some 89, (.bin .add (.tmp 87) (.tmp 88)), (some (84, true))⟩,
      ⟨some 90, (.convBytes (.tmp 89)), (some (84, true))⟩,
      ⟨some 91, (.call (.fn 16) [(.tmp 90)] [] none), (some (84, true))⟩,
      ⟨some 92, (.eqv false [1, 1, 1, 1, 1, 1, 1, 1, 1, 1, 1, 1, 1, 1, 1, 1, 1, 1, 1, 1, 1, 1, 1, 1, 1, 1, 1, 1, 1, 1, 1, 1] (.tmp 86) (.tmp 91)), (some (84, true))⟩,
      ⟨some 93, (.pick (.tmp 84) (.tmp 92) (.const (.bool false))), none⟩,
      ⟨some 94, (.mov (.tmp 93)), none⟩,
      ⟨some 95, (.load (some 73) (.tmp 9)), (some (94, true))⟩,
      ⟨some 96, (.call (.fn 21) [(.tmp 95)] [] none), (some (94, true))⟩,
      ⟨some 97, (.mov (.tmp 14)), (some (94, true))⟩,
      ⟨some 98, (.convBytes (.tmp 97)), (some (94, true))⟩,
      ⟨some 99, (.call (.fn 15) [(.tmp 98)] [] none), (some (94, true))⟩,
      ⟨some 100, (.eqv false [1, 1, 1, 1, 1, 1, 1, 1, 1, 1, 1, 1, 1, 1, 1, 1, 1, 1, 1, 1, 1, 1, 1, 1, 1, 1, 1, 1, 1, 1, 1, 1] (.tmp 96) (.tmp 99)), (some (94, true))⟩,
      ⟨some 101, (.pick (.tmp 94) (.tmp 100) (.const (.bool false))), none⟩,
      ⟨some 6, (.mov (.tmp 101)), none⟩])
    .ret))))))))))))⟩

/-- splicery/splicerylaw02.HashMacMatchesSpec -/
def m5 : MF := ⟨2, 26, [.tmp 4],
  (.seq (.region none 0 [⟨some 4, (.mov (.const (.bool false))), none⟩])
    (.seq (.region none 0 [⟨some 6, (.call (.fn 14) [] [] none), none⟩,
      ⟨some 5, (.mov (.tmp 6)), none⟩])
    (.seq (.seq (.region none 0 [⟨some 7, (.mov (.tmp 0)), none⟩,
      ⟨some 8, (.lenS (.tmp 7)), none⟩,
      ⟨some 9, (.bin .gtr (.tmp 8) (.const (.int .i64 400))), none⟩,
      ⟨some 10, (.mov (.tmp 9)), none⟩,
      ⟨some 11, (.mov (.tmp 1)), (some (10, false))⟩,
      ⟨some 12, (.lenS (.tmp 11)), (some (10, false))⟩,
      ⟨some 13, (.bin .gtr (.tmp 12) (.const (.int .i64 400))), (some (10, false))⟩,
      ⟨some 14, (.pick (.tmp 10) (.const (.bool true)) (.tmp 13)), none⟩])
    (.cond (.tmp 14) (.seq (.region none 0 [⟨some 15, (.mov (.tmp 5)), none⟩,
      ⟨some 4, (.mov (.tmp 15)), none⟩])
    .ret)
    .skip))
    (.seq (.region none 0 [⟨some 16, (.mov (.tmp 5)), none⟩,
      ⟨some 17, (.mov (.tmp 16)), none⟩,
      ⟨some 18, (.mov (.tmp 0)), (some (17, true))⟩,
      ⟨some 19, (.mov (.tmp 1)), (some (17, true))⟩,
      ⟨some 20, (.call (.fn 22) [(.tmp 18), (.tmp 19)] [] none), (some (17, true))⟩,
      ⟨some 21, (.mov (.tmp 0)), (some (17, true))⟩,
      ⟨some 22, (.mov (.tmp 1)), (some (17, true))⟩,
      ⟨some 23, (.call (.fn 23) [(.tmp 21), (.tmp 22)] [] none), (some (17, true))⟩,
      ⟨some 24, (.bin .eql (.tmp 20) (.tmp 23)), (some (17, true))⟩,
      ⟨some 25, (.pick (.tmp 17) (.tmp 24) (.const (.bool false))), none⟩,
      ⟨some 4, (.mov (.tmp 25)), none⟩])
    .ret))))⟩

/-- splicery/splicerylaw02.HashMacKeys -/
def m6 : MF := ⟨2, 54, [.tmp 4],
  (.seq (.region none 0 [⟨some 4, (.mov (.const (.bool false))), none⟩])
    (.seq (.region none 0 [⟨some 8, (.call (.fn 14) [] [] none), none⟩,
      ⟨some 5, (.mov (.tmp 8)), none⟩])
    (.seq (.seq (.region none 0 [⟨some 9, (.mov (.tmp 0)), none⟩,
      ⟨some 10, (.lenS (.tmp 9)), none⟩,
      ⟨some 11, (.bin .gtr (.tmp 10) (.const (.int .i64 400))), none⟩,
      ⟨some 12, (.mov (.tmp 11)), none⟩,
      ⟨some 13, (.mov (.tmp 1)), (some (12, false))⟩,
      ⟨some 14, (.lenS (.tmp 13)), (some (12, false))⟩,
      ⟨some 15, (.bin .gtr (.tmp 14) (.const (.int .i64 400))), (some (12, false))⟩,
      ⟨some 16, (.pick (.tmp 12) (.const (.bool true)) (.tmp 15)), none⟩])
    (.cond (.tmp 16) (.seq (.region none 0 [⟨some 17, (.mov (.tmp 5)), none⟩,
      ⟨some 4, (.mov (.tmp 17)), none⟩])
    .ret)
    .skip))
    (.seq (.region none 0 [⟨some 18, (.mov (.tmp 0)), none⟩,
      ⟨some 19, (.mov (.tmp 1)), none⟩,
      ⟨some 20, (.call (.fn 22) [(.tmp 18), (.tmp 19)] [] none), none⟩,
      ⟨some 6, (.mov (.tmp 20)), none⟩])
    (.seq (.seq (.region none 0 [⟨some 21, (.mov (.tmp 0)), none⟩,
      ⟨some 22, (.lenS (.tmp 21)), none⟩,
      ⟨some 23, (.bin .gtr (.tmp 22) (.const (.int .i64 64))), none⟩])
    (.cond (.tmp 23) (.seq (.region none 0 [⟨some 24, (.mov (.tmp 0)), none⟩,
      ⟨some 25, (.convBytes (.tmp 24)), none⟩,
      ⟨some 26, (.call (.fn 15) [(.tmp 25)] [] none), none⟩,
      ⟨some 27, (.call (.fn 24) [(.tmp 26)] [] none), none⟩,
      ⟨some 7, (.mov (.tmp 27)), none⟩])
    (.seq (.region none 0 [⟨some 28, (.mov (.tmp 5)), none⟩,
      ⟨some 29, (.mov (.tmp 28)), none⟩,
      ⟨some 30, (.mov (.tmp 6)), (some (29, true))⟩,
      ⟨some 31, (.mov (.tmp 7)), (some (29, true))⟩,
      ⟨some 32, (.mov (.tmp 1)), (some (29, true))⟩,
      ⟨some 33, (.call (.fn 22) [(.tmp 31), (.tmp 32)] [] none), (some (29, true))⟩,
      ⟨some 34, (.bin .eql (.tmp 30) (.tmp 33)), (some (29, true))⟩,
      ⟨some 35, (.pick (.tmp 29) (.tmp 34) (.const (.bool false))), none⟩,
      ⟨some 4, (.mov (.tmp 35)), none⟩])
    .ret))
    .skip))
    (.seq (.seq (.region none 0 [⟨some 36, (.mov (.tmp 0)), none⟩,
      ⟨some 37, (.lenS (.tmp 36)), none⟩,
      ⟨some 38, (.bin .lss (.tmp 37) (.const (.int .i64 64))), none⟩])
    (.cond (.tmp 38) (.seq (.region none 0 [⟨some 39, (.mov (.tmp 5)), none⟩,
      ⟨some 40, (.mov (.tmp 39)), none⟩,
      ⟨some 41, (.mov (.tmp 6)), (some (40, true))⟩,
      ⟨some 42, (.mov (.tmp 0)), (some (40, true))⟩,
      ⟨some 43, (.bin .add (.tmp 42) (.const (.str [0]))), (some (40, true))⟩,
      ⟨some 44, (.mov (.tmp 1)), (some (40, true))⟩,
      ⟨some 45, (.call (.fn 22) [(.tmp 43), (.tmp 44)] [] none), (some (40, true))⟩,
      ⟨some 46, (.bin .eql (.tmp 41) (.tmp 45)), (some (40, true))⟩,
      ⟨some 47, (.pick (.tmp 40) (.tmp 46) (.const (.bool false))), none⟩,
      ⟨some 4, (.mov (.tmp 47)), none⟩])
    .ret)
    .skip))
    (.seq (.region none 0 [⟨some 48, (.mov (.tmp 5)), none⟩,
      ⟨some 49, (.mov (.tmp 48)), none⟩,
      ⟨some 50, (.mov (.tmp 6)), (some (49, true))⟩,
      ⟨some 51, (.lenS (.tmp 50)), (some (49, true))⟩,
      ⟨some 52, (.bin .eql (.tmp 51) (.const (.int .i64 32))), (some (49, true))⟩,
      ⟨some 53, (.pick (.tmp 49) (.tmp 52) (.const (.bool false))), none⟩,
      ⟨some 4, (.mov (.tmp 53)), none⟩])
    .ret)))))))⟩

/-- splicery/splicerylaw02.HashOfMatchesSpec -/
def m7 : MF := ⟨2, 31, [.tmp 4],
  (.seq (.region none 0 [⟨some 4, (.mov (.const (.bool false))), none⟩])
    (.seq (.region none 0 [⟨some 7, (.call (.fn 14) [] [] none), none⟩,
      ⟨some 5, (.mov (.tmp 7)), none⟩])
    (.seq (.seq (.region none 0 [⟨some 8, (.mov (.tmp 1)), none⟩,
      ⟨some 9, (.call (.fn 17) [(.tmp 8)] [] none), none⟩,
      ⟨some 10, (.un .not (.tmp 9)), none⟩])
    (.cond (.tmp 10) (.seq (.region none 0 [⟨some 11, (.mov (.tmp 5)), none⟩,
      ⟨some 4, (.mov (.tmp 11)), none⟩])
    .ret)
    .skip))
    (.seq (.region none 1 [⟨some 12, (.mov (.tmp 0)), none⟩,
      ⟨some 13, (.mov (.tmp 1)), none⟩,
      ⟨some 14, (.call (.fn 25) [(.tmp 12), (.tmp 13)] [] none), none⟩,
      ⟨some 6, (.alloc 0 ((List.replicate 16 (0 : Int)).map (V.int .u8))), none⟩,
      ⟨none, (.store 16 (.tmp 6) (.tmp 14)), none⟩])
    (.seq (.region (some ([(2, 5), (9, 13)], [])) 0 [⟨some 15, (.mov (.tmp 5)), none⟩,
      ⟨some 16, (.mov (.tmp 15)), none⟩,
      ⟨some 17, (.load (some 16) (.tmp 6)), (some (16, true))⟩,
      ⟨some 18, (.mov (.tmp 0)), (some (16, true))⟩,
      ⟨some 19, (.mov (.tmp 1)), (some (16, true))⟩,
      ⟨some 20, (.call (.fn 26) [(.tmp 18), (.tmp 19)] [] none), (some (16, true))⟩,
      ⟨some 21, (.eqv false [1, 1, 1, 1, 1, 1, 1, 1, 1, 1, 1, 1, 1, 1, 1, 1] (.tmp 17) (.tmp 20)), (some (16, true))⟩,
      ⟨some 22, (.pick (.tmp 16) (.tmp 21) (.const (.bool false))), none⟩,
      ⟨some 23, (.mov (.tmp 22)), none⟩,
      ⟨some 24, (.load (some 16) (.tmp 6)), (some (23, true))⟩,
      ⟨some 25, (.mov (.tmp 0)), (some (23, true))⟩,
      ⟨some 26, (.bin .and (.tmp 25) (.const (.int .i64 255))), (some (23, true))⟩,
      ⟨some 27, (.mov (.tmp 1)), (some (23, true))⟩,
      ⟨some 28, (.call (.fn 25) [(.tmp 26), (.tmp 27)] [] none), (some (23, true))⟩,
      ⟨some 29, (.eqv false [1, 1, 1, 1, 1, 1, 1, 1, 1, 1, 1, 1, 1, 1, 1, 1] (.tmp 24) (.tmp 28)), (some (23, true))⟩,
      ⟨some 30, (.pick (.tmp 23) (.tmp 29) (.const (.bool false))), none⟩,
      ⟨some 4, (.mov (.tmp 30)), none⟩])
    .ret)))))⟩

/-- splicery/splicerylaw02.HashOfSeparates -/
def m8 : MF := ⟨3, 120, [.tmp 6],
  (.seq (.region none 1 [⟨some 3, (.box 0 (.tmp 0)), none⟩,
      ⟨some 6, (.mov (.const (.bool false))), none⟩])
    (.seq (.region none 0 [⟨some 18, (.call (.fn 14) [] [] none), none⟩,
      ⟨some 7, (.mov (.tmp 18)), none⟩])
    (.seq (.seq (.region none 0 [⟨some 19, (.mov (.tmp 1)), none⟩,
      ⟨some 20, (.call (.fn 17) [(.tmp 19)] [] none), none⟩,
      ⟨some 21, (.un .not (.tmp 20)), none⟩,
      ⟨some 22, (.mov (.tmp 21)), none⟩,
      ⟨some 23, (.mov (.tmp 2)), (some (22, false))⟩,
      ⟨some 24, (.call (.fn 17) [(.tmp 23)] [] none), (some (22, false))⟩,
      ⟨some 25, (.un .not (.tmp 24)), (some (22, false))⟩,
      ⟨some 26, (.pick (.tmp 22) (.const (.bool true)) (.tmp 25)), none⟩])
    (.cond (.tmp 26) (.seq (.region none 0 [⟨some 27, (.mov (.tmp 7)), none⟩,
      ⟨some 6, (.mov (.tmp 27)), none⟩])
    .ret)
    .skip))
    (.seq (.region none 0 [⟨some 28, (.indexAddrA 2 1 (.tmp 3) (.const (.int .i64 0))), none⟩,
      ⟨some 29, (.load none (.tmp 28)), none⟩,
      ⟨some 30, (.indexAddrA 2 1 (.tmp 3) (.const (.int .i64 1))), none⟩,
      ⟨some 31, (.load none (.tmp 30)), none⟩,
      ⟨some 32, (.bin .eql (.tmp 29) (.tmp 31)), none⟩,
      ⟨some 33, (.mov (.tmp 32)), none⟩,
      ⟨some 34, (.mov (.tmp 1)), (some (33, true))⟩,
      ⟨some 35, (.len (.tmp 34)), (some (33, true))⟩,
      ⟨some 36, (.mov (.tmp 2)), (some (33, true))⟩,
      ⟨some 37, (.len (.tmp 36)), (some (33, true))⟩,
      ⟨some 38, (.bin .eql (.tmp 35) (.tmp 37)), (some (33, true))⟩,
      ⟨some 39, (.pick (.tmp 33) (.tmp 38) (.const (.bool false))), none⟩,
      ⟨some 8, (.mov (.tmp 39)), none⟩])
    (.seq (.seq (.region none 0 [⟨some 9, (.mov (.const (.int .i64 0))), none⟩])
    (.block 0 (.loop (.seq (.seq (.region none 0 [⟨some 40, (.mov (.tmp 9)), none⟩,
      ⟨some 41, (.mov (.tmp 1)), none⟩,
      ⟨some 42, (.len (.tmp 41)), none⟩,
      ⟨some 43, (.bin .lss (.tmp 40) (.tmp 42)), none⟩,
      ⟨some 44, (.mov (.tmp 43)), none⟩,
      ⟨some 45, (.mov (.tmp 8)), (some (44, true))⟩,
      ⟨some 46, (.pick (.tmp 44) (.tmp 45) (.const (.bool false))), none⟩])
    (.cond (.tmp 46) .skip
    (.exit 0)))
    (.seq (.block 1 (.region (some ([], [])) 0 [⟨some 49, (.mov (.tmp 1)), none⟩,
      ⟨some 50, (.mov (.tmp 9)), none⟩,
      ⟨some 51, (.indexAddrL 1 (.tmp 49) (.tmp 50)), none⟩,
      ⟨some 52, (.load none (.tmp 51)), none⟩,
      ⟨some 53, (.mov (.tmp 2)), none⟩,
      ⟨some 54, (.mov (.tmp 9)), none⟩,
      ⟨some 55, (.indexAddrL 1 (.tmp 53) (.tmp 54)), none⟩,
      ⟨some 56, (.load none (.tmp 55)), none⟩,
      ⟨some 57, (.bin .eql (.tmp 52) (.tmp 56)), none⟩,
      ⟨some 8, (.mov (.tmp 57)), none⟩]))
    (.region none 0 [⟨some 47, (.mov (.tmp 9)), none⟩,
      ⟨some 48, (.bin .add (.tmp 47) (.const (.int .i64 1))), none⟩,
      ⟨some 9, (.mov (.tmp 48)), none⟩]))))))
    (.seq (.region none 0 [⟨some 58, (.indexAddrA 2 1 (.tmp 3) (.const (.int .i64 0))), none⟩,
      ⟨some 59, (.load none (.tmp 58)), none⟩,
      ⟨some 60, (.convInt .i64 (.tmp 59)), none⟩,
      ⟨some 61, (.mov (.tmp 1)), none⟩,
      ⟨some 62, (.call (.fn 27) [(.tmp 60), (.tmp 61)] [] none), none⟩,
      ⟨some 10, (.mov (.tmp 62)), none⟩])
    (.seq (.region none 0 [⟨some 63, (.indexAddrA 2 1 (.tmp 3) (.const (.int .i64 1))), none⟩,
      ⟨some 64, (.load none (.tmp 63)), none⟩,
      ⟨some 65, (.convInt .i64 (.tmp 64)), none⟩,
      ⟨some 66, (.mov (.tmp 2)), none⟩,
      ⟨some 67, (.call (.fn 27) [(.tmp 65), (.tmp 66)] [] none), none⟩,
      ⟨some 11, (.mov (.tmp 67)), none⟩])
    (.seq (.seq (.region none 0 [⟨some 68, (.mov (.tmp 8)), none⟩])
    (.cond (.tmp 68) (.seq (.region none 0 [⟨some 69, (.mov (.tmp 7)), none⟩,
      ⟨some 70, (.mov (.tmp 69)), none⟩,
      ⟨some 71, (.mov (.tmp 10)), (some (70, true))⟩,
      ⟨some 72, (.convStr (.tmp 71)), (some (70, true))⟩,
      ⟨some 73, (.mov (.tmp 11)), (some (70, true))⟩,
      ⟨some 74, (.convStr (.tmp 73)), (some (70, true))⟩,
      ⟨some 75, (.bin .eql (.tmp 72) (.tmp 74)), (some (70, true))⟩,
      ⟨some 76, (.pick (.tmp 70) (.tmp 75) (.const (.bool false))), none⟩,
      ⟨some 6, (.mov (.tmp 76)), none⟩])
    .ret)
    .skip))
    (.seq (.region none 1 [⟨some 77, (.indexAddrA 2 1 (.tmp 3) (.const (.int .i64 0))), none⟩,
      ⟨some 78, (.load none (.tmp 77)), none⟩,
      ⟨some 79, (.convInt .i64 (.tmp 78)), none⟩,
      ⟨some 80, (.mov (.tmp 1)), none⟩,
      ⟨some 81, (.call (.fn 25) [(.tmp 79), (.tmp 80)] [] none), none⟩,
      ⟨some 12, (.alloc 0 ((List.replicate 16 (0 : Int)).map (V.int .u8))), none⟩,
      ⟨none, (.store 16 (.tmp 12) (.tmp 81)), none⟩])
    (.seq (.region none 1 [⟨some 82, (.indexAddrA 2 1 (.tmp 3) (.const (.int .i64 1))), none⟩,
      ⟨some 83, (.load none (.tmp 82)), none⟩,
      ⟨some 84, (.convInt .i64 (.tmp 83)), none⟩,
      ⟨some 85, (.mov (.tmp 2)), none⟩,
      ⟨some 86, (.call (.fn 25) [(.tmp 84), (.tmp 85)] [] none), none⟩,
      ⟨some 13, (.alloc 0 ((List.replicate 16 (0 : Int)).map (V.int .u8))), none⟩,
      ⟨none, (.store 16 (.tmp 13) (.tmp 86)), none⟩])
    (.seq (.region none 1 [⟨some 87, (.mov (.tmp 10)), none⟩,
      ⟨some 88, (.call (.fn 15) [(.tmp 87)] [] none), none⟩,
      ⟨some 14, (.alloc 0 ((List.replicate 32 (0 : Int)).map (V.int .u8))), none⟩,
      ⟨none, (.store 32 (.tmp 14) (.tmp 88)), none⟩])
    (.seq (.region none 1 [⟨some 89, (.mov (.tmp 11)), none⟩,
      ⟨some 90, (.call (.fn 15) [(.tmp 89)] [] none), none⟩,
      ⟨some 15, (.alloc 0 ((List.replicate 32 (0 : Int)).map (V.int .u8))), none⟩,
      ⟨none, (.store 32 (.tmp 15) (.tmp 90)), none⟩])
    (.seq (.region none 0 [⟨some 16, (.mov (.const (.bool true))), none⟩])
    (.seq (.seq (.region none 0 [⟨some 17, (.mov (.const (.int .i64 0))), none⟩])
    (.block 2 (.loop (.seq (.seq (.region none 0 [⟨some 91, (.mov (.tmp 17)), none⟩,
      ⟨some 92, (.bin .lss (.tmp 91) (.const (.int .i64 16))), none⟩])
    (.cond (.tmp 92) .skip
    (.exit 2)))
    (.seq (.block 3 (.region (some ([], [])) 0 [⟨some 95, (.mov (.tmp 16)), none⟩,
      ⟨some 96, (.mov (.tmp 95)), none⟩,
      ⟨some 97, (.mov (.tmp 17)), (some (96, true))⟩,
      ⟨some 98, (.indexAddrA 32 1 (.tmp 14) (.tmp 97)), (some (96, true))⟩,
      ⟨some 99, (.load none (.tmp 98)), (some (96, true))⟩,
      ⟨some 100, (.mov (.tmp 17)), (some (96, true))⟩,
      ⟨some 101, (.indexAddrA 32 1 (.tmp 15) (.tmp 100)), (some (96, true))⟩,
      ⟨some 102, (.load none (.tmp 101)), (some (96, true))⟩,
      ⟨some 103, (.bin .eql (.tmp 99) (.tmp 102)), (some (96, true))⟩,
      ⟨some 104, (.pick (.tmp 96) (.tmp 103) (.const (.bool false))), none⟩,
      ⟨some 16, (.mov (.tmp 104)), none⟩]))
    (.region none 0 [⟨some 93, (.mov (.tmp 17)), none⟩,
      ⟨some 94, (.bin .add (.tmp 93) (.const (.int .i64 1))), none⟩,
      ⟨some 17, (.mov (.tmp 94)), none⟩]))))))
    (.seq (.region none 0 [⟨some 105, (.mov (.tmp 7)), none⟩,
      ⟨some 106, (.mov (.tmp 105)), none⟩,
      ⟨some 107, (.mov (.tmp 10)), (some (106, true))⟩,
      ⟨some 108, (.convStr (.tmp 107)), (some (106, true))⟩,
      ⟨some 109, (.mov (.tmp 11)), (some (106, true))⟩,
      ⟨some 110, (.convStr (.tmp 109)), (some (106, true))⟩,
      ⟨some 111, (.bin .neq (.tmp 108) (.tmp 110)), (some (106, true))⟩,
      ⟨some 112, (.pick (.tmp 106) (.tmp 111) (.const (.bool false))), none⟩,
      ⟨some 113, (.mov (.tmp 112)), none⟩,
      ⟨some 114, (.load (some 16) (.tmp 12)), (some (113, true))⟩,
      ⟨some 115, (.load (some 16) (.tmp 13)), (some (113, true))⟩,
      ⟨some 116, (.eqv false [1, 1, 1, 1, 1, 1, 1, 1, 1, 1, 1, 1, 1, 1, 1, 1] (.tmp 114) (.tmp 115)), (some (113, true))⟩,
      ⟨some 117, (.mov (.tmp 16)), (some (113, true))⟩,
      ⟨some 118, (.eqb false (.tmp 116) (.tmp 117)), (some (113, true))⟩,
      ⟨some 119, (.pick (.tmp 113) (.tmp 118) (.const (.bool false))), none⟩,
      ⟨some 6, (.mov (.tmp 119)), none⟩])
    .ret)))))))))))))))⟩

/-- splicery/splicerylaw02.HashEqualIsEquality -/
def m9 : MF := ⟨2, 45, [.tmp 4],
  (.seq (.region none 0 [⟨some 4, (.mov (.const (.bool false))), none⟩])
    (.seq (.region none 0 [⟨some 9, (.call (.fn 14) [] [] none), none⟩,
      ⟨some 5, (.mov (.tmp 9)), none⟩])
    (.seq (.seq (.region none 0 [⟨some 10, (.mov (.tmp 0)), none⟩,
      ⟨some 11, (.lenS (.tmp 10)), none⟩,
      ⟨some 12, (.bin .gtr (.tmp 11) (.const (.int .i64 400))), none⟩,
      ⟨some 13, (.mov (.tmp 12)), none⟩,
      ⟨some 14, (.mov (.tmp 1)), (some (13, false))⟩,
      ⟨some 15, (.lenS (.tmp 14)), (some (13, false))⟩,
      ⟨some 16, (.bin .gtr (.tmp 15) (.const (.int .i64 400))), (some (13, false))⟩,
      ⟨some 17, (.pick (.tmp 13) (.const (.bool true)) (.tmp 16)), none⟩])
    (.cond (.tmp 17) (.seq (.region none 0 [⟨some 18, (.mov (.tmp 5)), none⟩,
      ⟨some 4, (.mov (.tmp 18)), none⟩])
    .ret)
    .skip))
    (.seq (.region none 0 [⟨some 19, (.mov (.tmp 0)), none⟩,
      ⟨some 20, (.mov (.tmp 1)), none⟩,
      ⟨some 21, (.call (.fn 28) [(.tmp 19), (.tmp 20)] [] none), none⟩,
      ⟨some 6, (.mov (.tmp 21)), none⟩])
    (.seq (.region none 0 [⟨some 22, (.mov (.tmp 1)), none⟩,
      ⟨some 23, (.mov (.tmp 0)), none⟩,
      ⟨some 24, (.call (.fn 28) [(.tmp 22), (.tmp 23)] [] none), none⟩,
      ⟨some 7, (.mov (.tmp 24)), none⟩])
    (.seq (.region none 0 [⟨some 25, (.mov (.tmp 0)), none⟩,
      ⟨some 26, (.mov (.tmp 0)), none⟩,
      ⟨some 27, (.bin .add (.tmp 26) (.const (.str []))), none⟩,
      ⟨some 28, (.call (.fn 28) [(.tmp 25), (.tmp 27)] [] none), none⟩,
      ⟨some 8, (.mov (.tmp 28)), none⟩])
    (.seq (.region none 0 [⟨some 29, (.mov (.tmp 5)), none⟩,
      ⟨some 30, (.mov (.tmp 29)), none⟩,
      ⟨some 31, (.mov (.tmp 6)), (some (30, true))⟩,
      ⟨some 32, (.mov (.tmp 0)), (some (30, true))⟩,
      ⟨some 33, (.mov (.tmp 1)), (some (30, true))⟩,
      ⟨some 34, (.bin .eql (.tmp 32) (.tmp 33)), (some (30, true))⟩,
      ⟨some 35, (.eqb false (.tmp 31) (.tmp 34)), (some (30, true))⟩,
      ⟨some 36, (.pick (.tmp 30) (.tmp 35) (.const (.bool false))), none⟩,
      ⟨some 37, (.mov (.tmp 36)), none⟩,
      ⟨some 38, (.mov (.tmp 7)), (some (37, true))⟩,
      ⟨some 39, (.mov (.tmp 6)), (some (37, true))⟩,
      ⟨some 40, (.eqb false (.tmp 38) (.tmp 39)), (some (37, true))⟩,
      ⟨some 41, (.pick (.tmp 37) (.tmp 40) (.const (.bool false))), none⟩,
      ⟨some 42, (.mov (.tmp 41)), none⟩,
      ⟨some 43, (.mov (.tmp 8)), (some (42, true))⟩,
      ⟨some 44, (.pick (.tmp 42) (.tmp 43) (.const (.bool false))), none⟩,
      ⟨some 4, (.mov (.tmp 44)), none⟩])
    .ret)))))))⟩

/-- splicery/splicerylaw02.sanity -/
def m14 : MF := ⟨0, 49, [.tmp 0],
  (.seq (.region none 0 [⟨some 0, (.mov (.const (.bool false))), none⟩])
    (.seq (.region none 2 [⟨some 7, (.lit 0 1 [[.int .u8 0], [.int .u8 0], [.int .u8 0]] [(0, (.const (.int .u8 97))), (1, (.const (.int .u8 98))), (2, (.const (.int .u8 99)))]), none⟩,
      ⟨some 8, (.convSl (.tmp 7)), none⟩,
      ⟨some 9, (.call (.fn 15) [(.tmp 8)] [] none), none⟩,
      ⟨some 1, (.alloc 1 ((List.replicate 32 (0 : Int)).map (V.int .u8))), none⟩,
      ⟨none, (.store 32 (.tmp 1) (.tmp 9)), none⟩])
    (.seq (.region none 1 [⟨some 10, (.call (.fn 18) [] [] none), none⟩,
      ⟨some 11, (.call (.fn 19) [(.tmp 10), (.const (.str [97]))] [] none), none⟩,
      ⟨some 12, (.call (.fn 19) [(.tmp 11), (.const (.str [98, 99]))] [] none), none⟩,
      ⟨some 13, (.call (.fn 21) [(.tmp 12)] [] none), none⟩,
      ⟨some 2, (.alloc 0 ((List.replicate 32 (0 : Int)).map (V.int .u8))), none⟩,
      ⟨none, (.store 32 (.tmp 2) (.tmp 13)), none⟩])
    (.seq (.region none 1 [⟨some 14, (.ilit 1 [[.str []], [.str []]] [(0, (.const (.str [97]))), (1, (.const (.str [])))]), none⟩,
      ⟨some 15, (.call (.fn 25) [(.const (.int .i64 8)), (.tmp 14)] [] none), none⟩,
      ⟨some 3, (.alloc 0 ((List.replicate 16 (0 : Int)).map (V.int .u8))), none⟩,
      ⟨none, (.store 16 (.tmp 3) (.tmp 15)), none⟩])
    (.seq (.region none 0 [⟨some 16, (.call (.fn 22) [(.const (.str [74, 101, 102, 101])), (.const (.str [119, 104, 97, 116, 32, 100, 111, 32, 121, 97, 32, 119, 97, 110, 116, 32, 102, 111, 114, 32, 110, 111, 116, 104, 105, 110, 103, 63]))] [] none), none⟩,
      ⟨some 4, (.mov (.tmp 16)), none⟩])
    (.seq (.region none 0 [⟨some 17, (.call (.fn 28) [(.const (.str [97, 98])), (.const (.str [97, 98]))] [] none), none⟩,
      ⟨some 5, (.mov (.tmp 17)), none⟩])
    (.seq (.region none 0 [⟨some 18, (.call (.fn 28) [(.const (.str [97, 98])), (.const (.str [97, 99]))] [] none), none⟩,
      ⟨some 19, (.mov (.tmp 18)), none⟩,
      ⟨some 20, (.call (.fn 28) [(.const (.str [])), (.const (.str [97]))] [] none), (some (19, false))⟩,
      ⟨some 21, (.pick (.tmp 19) (.const (.bool true)) (.tmp 20)), none⟩,
      ⟨some 6, (.mov (.tmp 21)), none⟩])
    (.seq (.region none 0 [⟨some 22, (.load (some 32) (.tmp 1)), none⟩,
      ⟨some 23, (.call (.fn 24) [(.tmp 22)] [] none), none⟩,
      ⟨some 24, (.call (.fn 45) [(.tmp 23)] [] none), none⟩,
      ⟨some 25, (.bin .eql (.tmp 24) (.const (.str [98, 97, 55, 56, 49, 54, 98, 102, 56, 102, 48, 49, 99, 102, 101, 97, 52, 49, 52, 49, 52, 48, 100, 101, 53, 100, 97, 101, 50, 50, 50, 51, 98, 48, 48, 51, 54, 49, 97, 51, 57, 54, 49, 55, 55, 97, 57, 99, 98, 52, 49, 48, 102, 102, 54, 49, 102, 50, 48, 48, 49, 53, 97, 100]))), none⟩,
      ⟨some 26, (.mov (.tmp 25)), none⟩,
      ⟨some 27, (.load (some 32) (.tmp 1)), (some (26, true))⟩,
      ⟨some 28, (.load (some 32) (.tmp 2)), (some (26, true))⟩,
      ⟨some 29, (.eqv false [1, 1, 1, 1, 1, 1, 1, 1, 1, 1, 1, 1, 1, 1, 1, 1, 1, 1, 1, 1, 1, 1, 1, 1, 1, 1, 1, 1, 1, 1, 1, 1] (.tmp 27) (.tmp 28)), (some (26, true))⟩,
      ⟨some 30, (.pick (.tmp 26) (.tmp 29) (.const (.bool false))), none⟩,
      ⟨some 31, (.mov (.tmp 30)), none⟩,
      ⟨some 32, (.mov (.tmp 4)), (some (31, true))⟩,
      ⟨some 33, (.call (.fn 45) [(.tmp 32)] [] none), (some (31, true))⟩,
      ⟨some 34, (.bin .eql (.tmp 33) (.const (.str [53, 98, 100, 99, 99, 49, 52, 54, 98, 102, 54, 48, 55, 53, 52, 101, 54, 97, 48, 52, 50, 52, 50, 54, 48, 56, 57, 53, 55, 53, 99, 55, 53, 97, 48, 48, 51, 102, 48, 56, 57, 100, 50, 55, 51, 57, 56, 51, 57, 100, 101, 99, 53, 56, 98, 57, 54, 52, 101, 99, 51, 56, 52, 51]))), (some (31, true))⟩,
      ⟨some 35, (.pick (.tmp 31) (.tmp 34) (.const (.bool false))), none⟩,
      ⟨some 36, (.mov (.tmp 35)), none⟩,
      ⟨some 37, (.load (some 16) (.tmp 3)), (some (36, true))⟩,
      ⟨some 38, (.call (.fn 46) [(.tmp 37)] [] none), (some (36, true))⟩,
      ⟨some 39, (.call (.fn 45) [(.tmp 38)] [] none), (some (36, true))⟩,
      ⟨some 40, (.bin .eql (.tmp 39) (.const (.str [51, 54, 99, 100, 53, 48, 56, 53, 48, 51, 50, 57, 102, 56, 56, 52, 48, 54, 101, 51, 49, 98, 98, 56, 97, 55, 100, 56, 102, 98, 54, 50]))), (some (36, true))⟩,
      ⟨some 41, (.pick (.tmp 36) (.tmp 40) (.const (.bool false))), none⟩,
      ⟨some 42, (.mov (.tmp 41)), none⟩,
      ⟨some 43, (.mov (.tmp 5)), (some (42, true))⟩,
      ⟨some 44, (.pick (.tmp 42) (.tmp 43) (.const (.bool false))), none⟩,
      ⟨some 45, (.mov (.tmp 44)), none⟩,
      ⟨some 46, (.mov (.tmp 6)), (some (45, true))⟩,
      ⟨some 47, (.un .not (.tmp 46)), (some (45, true))⟩,
      ⟨some 48, (.pick (.tmp 45) (.tmp 47) (.const (.bool false))), none⟩,
      ⟨some 0, (.mov (.tmp 48)), none⟩])
    .ret))))))))⟩

/-- splicery/hash.Sum -/
def m15 : MF := ⟨1, 8, [.cell 2 (some 32)],
  (.seq (.region none 1 [⟨some 2, (.alloc 0 ((List.replicate 32 (0 : Int)).map (V.int .u8))), none⟩])
    (.seq (.region (some ([(0, 2)], [3, 4])) 0 [⟨some 3, (.call (.fn 18) [] [] none), none⟩,
      ⟨some 4, (.mov (.tmp 0)), none⟩,
      ⟨some 5, (.convStr (.tmp 4)), none⟩,
      ⟨some 6, (.call (.fn 19) [(.tmp 3), (.tmp 5)] [] none), none⟩,
      ⟨some 7, (.call (.fn 21) [(.tmp 6)] [] none), none⟩,
      ⟨none, (.store 32 (.tmp 2) (.tmp 7)), none⟩])
    .ret))⟩

/-- splicery/spliceryref02.Sum -/
def m16 : MF := ⟨1, 164, [.cell 2 (some 32)],
  (.seq (.region none 1 [⟨some 2, (.alloc 0 ((List.replicate 32 (0 : Int)).map (V.int .u8))), none⟩])
    (.seq (.region none 1 [⟨some 20, (.build ((List.replicate 8 (0 : Int)).map (V.int .u32)) [(0, 1, (.const (.int .u32 1779033703))), (1, 1, (.const (.int .u32 3144134277))), (2, 1, (.const (.int .u32 1013904242))), (3, 1, (.const (.int .u32 2773480762))), (4, 1, (.const (.int .u32 1359893119))), (5, 1, (.const (.int .u32 2600822924))), (6, 1, (.const (.int .u32 528734635))), (7, 1, (.const (.int .u32 1541459225)))]), none⟩,
      ⟨some 3, (.alloc 0 ((List.replicate 8 (0 : Int)).map (V.int .u32))), none⟩,
      ⟨none, (.store 8 (.tmp 3) (.tmp 20)), none⟩])
    (.seq (.region none 0 [⟨some 21, (.mov (.tmp 0)), none⟩,
      ⟨some 22, (.call (.fn 47) [(.tmp 21)] [] none), none⟩,
      ⟨some 4, (.mov (.tmp 22)), none⟩])
    (.seq (.seq (.region none 0 [⟨some 5, (.mov (.const (.int .i64 0))), none⟩])
    (.block 0 (.loop (.seq (.seq (.region none 0 [⟨some 23, (.mov (.tmp 5)), none⟩,
      ⟨some 24, (.mov (.tmp 4)), none⟩,
      ⟨some 25, (.len (.tmp 24)), none⟩,
      ⟨some 26, (.bin .lss (.tmp 23) (.tmp 25)), none⟩])
    (.cond (.tmp 26) .skip
    (.exit 0)))
    (.seq (.block 1 (.seq (.region none 1 [⟨some 29, (.mov (.tmp 4)), none⟩,
      ⟨some 30, (.mov (.tmp 5)), none⟩,
      ⟨some 31, (.mov (.tmp 5)), none⟩,
      ⟨some 32, (.bin .add (.tmp 31) (.const (.int .i64 64))), none⟩,
      ⟨some 33, (.sliceL 1 (.tmp 29) (some (.tmp 30)) (some (.tmp 32))), none⟩,
      ⟨some 34, (.call (.fn 48) [(.tmp 33)] [] none), none⟩,
      ⟨some 6, (.alloc 0 ((List.replicate 64 (0 : Int)).map (V.int .u32))), none⟩,
      ⟨none, (.store 64 (.tmp 6) (.tmp 34)), none⟩])
    (.seq (.region (some ([], [])) 0 [⟨some 35, (.indexAddrA 8 1 (.tmp 3) (.const (.int .i64 0))), none⟩,
      ⟨some 36, (.load none (.tmp 35)), none⟩,
      ⟨some 37, (.indexAddrA 8 1 (.tmp 3) (.const (.int .i64 1))), none⟩,
      ⟨some 38, (.load none (.tmp 37)), none⟩,
      ⟨some 39, (.indexAddrA 8 1 (.tmp 3) (.const (.int .i64 2))), none⟩,
      ⟨some 40, (.load none (.tmp 39)), none⟩,
      ⟨some 41, (.indexAddrA 8 1 (.tmp 3) (.const (.int .i64 3))), none⟩,
      ⟨some 42, (.load none (.tmp 41)), none⟩,
      ⟨some 43, (.indexAddrA 8 1 (.tmp 3) (.const (.int .i64 4))), none⟩,
      ⟨some 44, (.load none (.tmp 43)), none⟩,
      ⟨some 45, (.indexAddrA 8 1 (.tmp 3) (.const (.int .i64 5))), none⟩,
      ⟨some 46, (.load none (.tmp 45)), none⟩,
      ⟨some 47, (.indexAddrA 8 1 (.tmp 3) (.const (.int .i64 6))), none⟩,
      ⟨some 48, (.load none (.tmp 47)), none⟩,
      ⟨some 49, (.indexAddrA 8 1 (.tmp 3) (.const (.int .i64 7))), none⟩,
      ⟨some 50, (.load none (.tmp 49)), none⟩,
      ⟨some 7, (.mov (.tmp 36)), none⟩,
      ⟨some 8, (.mov (.tmp 38)), none⟩,
      ⟨some 9, (.mov (.tmp 40)), none⟩,
      ⟨some 10, (.mov (.tmp 42)), none⟩,
      ⟨some 11, (.mov (.tmp 44)), none⟩,
      ⟨some 12, (.mov (.tmp 46)), none⟩,
      ⟨some 13, (.mov (.tmp 48)), none⟩,
      ⟨some 14, (.mov (.tmp 50)), none⟩])
    (.seq (.seq (.region none 0 [⟨some 15, (.mov (.const (.int .i64 0))), none⟩])
    (.block 2 (.loop (.seq (.seq (.region none 0 [⟨some 51, (.mov (.tmp 15)), none⟩,
      ⟨some 52, (.bin .lss (.tmp 51) (.const (.int .i64 64))), none⟩])
    (.cond (.tmp 52) .skip
    (.exit 2)))
    (.seq (.block 3 (.seq (.region (some ([(2, 21), (4, 21), (7, 21), (2, 25), (4, 25), (7, 25)], [])) 0 [⟨some 55, (.mov (.tmp 14)), none⟩,
      ⟨some 56, (.mov (.tmp 11)), none⟩,
      ⟨some 57, (.call (.fn 49) [(.tmp 56), (.const (.int .i64 6))] [] none), none⟩,
      ⟨some 58, (.mov (.tmp 11)), none⟩,
      ⟨some 59, (.call (.fn 49) [(.tmp 58), (.const (.int .i64 11))] [] none), none⟩,
      ⟨some 60, (.bin .xor (.tmp 57) (.tmp 59)), none⟩,
      ⟨some 61, (.mov (.tmp 11)), none⟩,
      ⟨some 62, (.call (.fn 49) [(.tmp 61), (.const (.int .i64 25))] [] none), none⟩,
      ⟨some 63, (.bin .xor (.tmp 60) (.tmp 62)), none⟩,
      ⟨some 64, (.bin .add (.tmp 55) (.tmp 63)), none⟩,
      ⟨some 65, (.mov (.tmp 11)), none⟩,
      ⟨some 66, (.mov (.tmp 12)), none⟩,
      ⟨some 67, (.bin .and (.tmp 65) (.tmp 66)), none⟩,
      ⟨some 68, (.mov (.tmp 11)), none⟩,
      ⟨some 69, (.bin .xor (.tmp 68) (.const (.int .u32 4294967295))), none⟩,
      ⟨some 70, (.mov (.tmp 13)), none⟩,
      ⟨some 71, (.bin .and (.tmp 69) (.tmp 70)), none⟩,
      ⟨some 72, (.bin .xor (.tmp 67) (.tmp 71)), none⟩,
      ⟨some 73, (.bin .add (.tmp 64) (.tmp 72)), none⟩,
      ⟨some 74, (.mov (.tmp 15)), none⟩,
      ⟨some 75, (.indexAddrA 64 1 (.glob 0) (.tmp 74)), none⟩,
      ⟨some 76, (.load none (.tmp 75)), none⟩,
      ⟨some 77, (.bin .add (.tmp 73) (.tmp 76)), none⟩,
      ⟨some 78, (.mov (.tmp 15)), none⟩,
      ⟨some 79, (.indexAddrA 64 1 (.tmp 6) (.tmp 78)), none⟩,
      ⟨some 80, (.load none (.tmp 79)), none⟩,
      ⟨some 81, (.bin .add (.tmp 77) (.tmp 80)), none⟩,
      ⟨some 16, (.mov (.tmp 81)), none⟩])
    (.seq (.region none 0 [⟨some 82, (.mov (.tmp 7)), none⟩,
      ⟨some 83, (.call (.fn 49) [(.tmp 82), (.const (.int .i64 2))] [] none), none⟩,
      ⟨some 84, (.mov (.tmp 7)), none⟩,
      ⟨some 85, (.call (.fn 49) [(.tmp 84), (.const (.int .i64 13))] [] none), none⟩,
      ⟨some 86, (.bin .xor (.tmp 83) (.tmp 85)), none⟩,
      ⟨some 87, (.mov (.tmp 7)), none⟩,
      ⟨some 88, (.call (.fn 49) [(.tmp 87), (.const (.int .i64 22))] [] none), none⟩,
      ⟨some 89, (.bin .xor (.tmp 86) (.tmp 88)), none⟩,
      ⟨some 90, (.mov (.tmp 7)), none⟩,
      ⟨some 91, (.mov (.tmp 8)), none⟩,
      ⟨some 92, (.bin .and (.tmp 90) (.tmp 91)), none⟩,
      ⟨some 93, (.mov (.tmp 7)), none⟩,
      ⟨some 94, (.mov (.tmp 9)), none⟩,
      ⟨some 95, (.bin .and (.tmp 93) (.tmp 94)), none⟩,
      ⟨some 96, (.bin .xor (.tmp 92) (.tmp 95)), none⟩,
      ⟨some 97, (.mov (.tmp 8)), none⟩,
      ⟨some 98, (.mov (.tmp 9)), none⟩,
      ⟨some 99, (.bin .and (.tmp 97) (.tmp 98)), none⟩,
      ⟨some 100, (.bin .xor (.tmp 96) (.tmp 99)), none⟩,
      ⟨some 101, (.bin .add (.tmp 89) (.tmp 100)), none⟩,
      ⟨some 17, (.mov (.tmp 101)), none⟩])
    (.seq (.region none 0 [⟨some 102, (.mov (.tmp 13)), none⟩,
      ⟨some 14, (.mov (.tmp 102)), none⟩])
    (.seq (.region none 0 [⟨some 103, (.mov (.tmp 12)), none⟩,
      ⟨some 13, (.mov (.tmp 103)), none⟩])
    (.seq (.region none 0 [⟨some 104, (.mov (.tmp 11)), none⟩,
      ⟨some 12, (.mov (.tmp 104)), none⟩])
    (.seq (.region none 0 [⟨some 105, (.mov (.tmp 10)), none⟩,
      ⟨some 106, (.mov (.tmp 16)), none⟩,
      ⟨some 107, (.bin .add (.tmp 105) (.tmp 106)), none⟩,
      ⟨some 11, (.mov (.tmp 107)), none⟩])
    (.seq (.region none 0 [⟨some 108, (.mov (.tmp 9)), none⟩,
      ⟨some 10, (.mov (.tmp 108)), none⟩])
    (.seq (.region none 0 [⟨some 109, (.mov (.tmp 8)), none⟩,
      ⟨some 9, (.mov (.tmp 109)), none⟩])
    (.seq (.region none 0 [⟨some 110, (.mov (.tmp 7)), none⟩,
      ⟨some 8, (.mov (.tmp 110)), none⟩])
    (.region none 0 [⟨some 111, (.mov (.tmp 16)), none⟩,
      ⟨some 112, (.mov (.tmp 17)), none⟩,
      ⟨some 113, (.bin .add (.tmp 111) (.tmp 112)), none⟩,
      ⟨some 7, (.mov (.tmp 113)), none⟩])))))))))))
    (.region none 0 [⟨some 53, (.mov (.tmp 15)), none⟩,
      ⟨some 54, (.bin .add (.tmp 53) (.const (.int .i64 1))), none⟩,
      ⟨some 15, (.mov (.tmp 54)), none⟩]))))))
    (.region none 0 [⟨some 114, (.indexAddrA 8 1 (.tmp 3) (.const (.int .i64 0))), none⟩,
      ⟨some 115, (.load none (.tmp 114)), none⟩,
      ⟨some 116, (.mov (.tmp 7)), none⟩,
      ⟨some 117, (.bin .add (.tmp 115) (.tmp 116)), none⟩,
      ⟨some 118, (.indexAddrA 8 1 (.tmp 3) (.const (.int .i64 1))), none⟩,
      ⟨some 119, (.load none (.tmp 118)), none⟩,
      ⟨some 120, (.mov (.tmp 8)), none⟩,
      ⟨some 121, (.bin .add (.tmp 119) (.tmp 120)), none⟩,
      ⟨some 122, (.indexAddrA 8 1 (.tmp 3) (.const (.int .i64 2))), none⟩,
      ⟨some 123, (.load none (.tmp 122)), none⟩,
      ⟨some 124, (.mov (.tmp 9)), none⟩,
      ⟨some 125, (.bin .add (.tmp 123) (.tmp 124)), none⟩,
      ⟨some 126, (.indexAddrA 8 1 (.tmp 3) (.const (.int .i64 3))), none⟩,
      ⟨some 127, (.load none (.tmp 126)), none⟩,
      ⟨some 128, (.mov (.tmp 10)), none⟩,
      ⟨some 129, (.bin .add (.tmp 127) (.tmp 128)), none⟩,
      ⟨some 130, (.indexAddrA 8 1 (.tmp 3) (.const (.int .i64 4))), none⟩,
      ⟨some 131, (.load none (.tmp 130)), none⟩,
      ⟨some 132, (.mov (.tmp 11)), none⟩,
      ⟨some 133, (.bin .add (.tmp 131) (.tmp 132)), none⟩,
      ⟨some 134, (.indexAddrA 8 1 (.tmp 3) (.const (.int .i64 5))), none⟩,
      ⟨some 135, (.load none (.tmp 134)), none⟩,
      ⟨some 136, (.mov (.tmp 12)), none⟩,
      ⟨some 137, (.bin .add (.tmp 135) (.tmp 136)), none⟩,
      ⟨some 138, (.indexAddrA 8 1 (.tmp 3) (.const (.int .i64 6))), none⟩,
      ⟨some 139, (.load none (.tmp 138)), none⟩,
      ⟨some 140, (.mov (.tmp 13)), none⟩,
      ⟨some 141, (.bin .add (.tmp 139) (.tmp 140)), none⟩,
      ⟨some 142, (.indexAddrA 8 1 (.tmp 3) (.const (.int .i64 7))), none⟩,
      ⟨some 143, (.load none (.tmp 142)), none⟩,
      ⟨some 144, (.mov (.tmp 14)), none⟩,
      ⟨some 145, (.bin .add (.tmp 143) (.tmp 144)), none⟩,
      ⟨some 146, (.build ((List.replicate 8 (0 : Int)).map (V.int .u32)) [(0, 1, (.tmp 117)), (1, 1, (.tmp 121)), (2, 1, (.tmp 125)), (3, 1, (.tmp 129)), (4, 1, (.tmp 133)), (5, 1, (.tmp 137)), (6, 1, (.tmp 141)), (7, 1, (.tmp 145))]), none⟩,
      ⟨none, (.store 8 (.tmp 3) (.tmp 146)), none⟩])))))
    (.region none 0 [⟨some 27, (.mov (.tmp 5)), none⟩,
      ⟨some 28, (.bin .add (.tmp 27) (.const (.int .i64 64))), none⟩,
      ⟨some 5, (.mov (.tmp 28)), none⟩]))))))
    (.seq (.region none 1 [⟨some 18, (.alloc 0 ((List.replicate 32 (0 : Int)).map (V.int .u8))), none⟩])
    (.seq (.seq (.region none 0 [⟨some 19, (.mov (.const (.int .i64 0))), none⟩])
    (.block 4 (.loop (.seq (.seq (.region none 0 [⟨some 147, (.mov (.tmp 19)), none⟩,
      ⟨some 148, (.bin .lss (.tmp 147) (.const (.int .i64 32))), none⟩])
    (.cond (.tmp 148) .skip
    (.exit 4)))
    (.seq (.block 5 (.region none 0 [⟨some 151, (.mov (.tmp 19)), none⟩,
      ⟨some 152, (.mov (.tmp 19)), none⟩,
      ⟨some 153, (.bin .quo (.tmp 152) (.const (.int .i64 4))), none⟩,
      ⟨some 154, (.indexAddrA 8 1 (.tmp 3) (.tmp 153)), none⟩,
      ⟨some 155, (.load none (.tmp 154)), none⟩,
      ⟨some 156, (.mov (.tmp 19)), none⟩,
      ⟨some 157, (.bin .rem (.tmp 156) (.const (.int .i64 4))), none⟩,
      ⟨some 158, (.bin .mul (.const (.int .i64 8)) (.tmp 157)), none⟩,
      ⟨some 159, (.bin .sub (.const (.int .i64 24)) (.tmp 158)), none⟩,
      ⟨some 160, (.bin .shr (.tmp 155) (.tmp 159)), none⟩,
      ⟨some 161, (.convInt .u8 (.tmp 160)), none⟩,
      ⟨some 162, (.indexAddrA 32 1 (.tmp 18) (.tmp 151)), none⟩,
      ⟨none, (.store 1 (.tmp 162) (.tmp 161)), none⟩]))
    (.region none 0 [⟨some 149, (.mov (.tmp 19)), none⟩,
      ⟨some 150, (.bin .add (.tmp 149) (.const (.int .i64 1))), none⟩,
      ⟨some 19, (.mov (.tmp 150)), none⟩]))))))
    (.seq (.region none 0 [⟨some 163, (.load (some 32) (.tmp 18)), none⟩,
      ⟨none, (.store 32 (.tmp 2) (.tmp 163)), none⟩])
    .ret)))))))⟩

/-- splicery/spliceryref02.Few -/
def m17 : MF := ⟨1, 19, [.tmp 2],
  (.seq (.region none 0 [⟨some 2, (.mov (.const (.bool false))), none⟩])
    (.seq (.seq (.region none 0 [⟨some 4, (.mov (.tmp 0)), none⟩,
      ⟨some 5, (.len (.tmp 4)), none⟩,
      ⟨some 6, (.bin .gtr (.tmp 5) (.const (.int .i64 12))), none⟩])
    (.cond (.tmp 6) (.seq (.region none 0 [⟨some 2, (.mov (.const (.bool false))), none⟩])
    .ret)
    .skip))
    (.seq (.seq (.region none 0 [⟨some 3, (.mov (.const (.int .i64 0))), none⟩])
    (.block 0 (.loop (.seq (.seq (.region none 0 [⟨some 7, (.mov (.tmp 3)), none⟩,
      ⟨some 8, (.mov (.tmp 0)), none⟩,
      ⟨some 9, (.len (.tmp 8)), none⟩,
      ⟨some 10, (.bin .lss (.tmp 7) (.tmp 9)), none⟩])
    (.cond (.tmp 10) .skip
    (.exit 0)))
    (.seq (.block 1 (.seq (.region none 0 [⟨some 13, (.mov (.tmp 0)), none⟩,
      ⟨some 14, (.mov (.tmp 3)), none⟩,
      ⟨some 15, (.indexAddrL 1 (.tmp 13) (.tmp 14)), none⟩,
      ⟨some 16, (.load none (.tmp 15)), none⟩,
      ⟨some 17, (.lenS (.tmp 16)), none⟩,
      ⟨some 18, (.bin .gtr (.tmp 17) (.const (.int .i64 400))), none⟩])
    (.cond (.tmp 18) (.seq (.region none 0 [⟨some 2, (.mov (.const (.bool false))), none⟩])
    .ret)
    .skip)))
    (.region none 0 [⟨some 11, (.mov (.tmp 3)), none⟩,
      ⟨some 12, (.bin .add (.tmp 11) (.const (.int .i64 1))), none⟩,
      ⟨some 3, (.mov (.tmp 12)), none⟩]))))))
    (.seq (.region none 0 [⟨some 2, (.mov (.const (.bool true))), none⟩])
    .ret))))⟩

/-- splicery/hash.Begin -/
def m18 : MF := ⟨0, 3, [.cell 0 (some 73)],
  (.seq (.region none 1 [⟨some 0, (.alloc 0 (((List.replicate 8 (0 : Int)).map (V.int .u32)) ++ (((List.replicate 64 (0 : Int)).map (V.int .u8)) ++ ([.int .u64 0])))), none⟩])
    (.seq (.region none 0 [⟨some 1, (.build ((List.replicate 8 (0 : Int)).map (V.int .u32)) [(0, 1, (.const (.int .u32 1779033703))), (1, 1, (.const (.int .u32 3144134277))), (2, 1, (.const (.int .u32 1013904242))), (3, 1, (.const (.int .u32 2773480762))), (4, 1, (.const (.int .u32 1359893119))), (5, 1, (.const (.int .u32 2600822924))), (6, 1, (.const (.int .u32 528734635))), (7, 1, (.const (.int .u32 1541459225)))]), none⟩,
      ⟨some 2, (.build (((List.replicate 8 (0 : Int)).map (V.int .u32)) ++ (((List.replicate 64 (0 : Int)).map (V.int .u8)) ++ ([.int .u64 0]))) [(0, 8, (.tmp 1))]), none⟩,
      ⟨none, (.store 73 (.tmp 0) (.tmp 2)), none⟩])
    .ret))⟩

/-- (splicery/hash.Stream).Add -/
def m19 : MF := ⟨2, 38, [.cell 4 (some 73)],
  (.seq (.region none 2 [⟨some 2, (.box 0 (.tmp 0)), none⟩,
      ⟨some 4, (.alloc 1 (((List.replicate 8 (0 : Int)).map (V.int .u32)) ++ (((List.replicate 64 (0 : Int)).map (V.int .u8)) ++ ([.int .u64 0])))), none⟩])
    (.seq (.block 0 (.loop (.seq (.seq (.region none 0 [⟨some 7, (.mov (.tmp 1)), none⟩,
      ⟨some 8, (.bin .neq (.tmp 7) (.const (.str []))), none⟩])
    (.cond (.tmp 8) .skip
    (.exit 0)))
    (.block 1 (.seq (.region none 0 [⟨some 9, (.fieldAddr 72 (.tmp 2)), none⟩,
      ⟨some 10, (.load none (.tmp 9)), none⟩,
      ⟨some 11, (.bin .rem (.tmp 10) (.const (.int .u64 64))), none⟩,
      ⟨some 12, (.convInt .i64 (.tmp 11)), none⟩,
      ⟨some 5, (.mov (.tmp 12)), none⟩])
    (.seq (.region none 0 [⟨some 13, (.fieldAddr 8 (.tmp 2)), none⟩,
      ⟨some 14, (.mov (.tmp 5)), none⟩,
      ⟨some 15, (.sliceA 64 1 (.tmp 13) (some (.tmp 14)) none), none⟩,
      ⟨some 16, (.mov (.tmp 1)), none⟩,
      ⟨some 17, (.copy 1 (.tmp 15) (.tmp 16)), none⟩,
      ⟨some 6, (.mov (.tmp 17)), none⟩])
    (.seq (.region none 0 [⟨some 18, (.mov (.tmp 1)), none⟩,
      ⟨some 19, (.mov (.tmp 6)), none⟩,
      ⟨some 20, (.sliceS (.tmp 18) (some (.tmp 19)) none), none⟩,
      ⟨some 1, (.mov (.tmp 20)), none⟩])
    (.seq (.region none 0 [⟨some 21, (.fieldAddr 72 (.tmp 2)), none⟩,
      ⟨some 22, (.load none (.tmp 21)), none⟩,
      ⟨some 23, (.mov (.tmp 6)), none⟩,
      ⟨some 24, (.convInt .u64 (.tmp 23)), none⟩,
      ⟨some 25, (.bin .add (.tmp 22) (.tmp 24)), none⟩,
      ⟨some 26, (.fieldAddr 72 (.tmp 2)), none⟩,
      ⟨none, (.store 1 (.tmp 26) (.tmp 25)), none⟩])
    (.seq (.region none 0 [⟨some 27, (.mov (.tmp 5)), none⟩,
      ⟨some 28, (.mov (.tmp 6)), none⟩,
      ⟨some 29, (.bin .add (.tmp 27) (.tmp 28)), none⟩,
      ⟨some 30, (.bin .eql (.tmp 29) (.const (.int .i64 64))), none⟩])
    (.cond (.tmp 30) (.region (some ([], [4])) 0 [⟨some 31, (.fieldAddr 0 (.tmp 2)), none⟩,
      ⟨some 32, (.load (some 8) (.tmp 31)), none⟩,
      ⟨some 33, (.fieldAddr 8 (.tmp 2)), none⟩,
      ⟨some 34, (.sliceA 64 1 (.tmp 33) none none), none⟩,
      ⟨some 35, (.call (.fn 50) [(.tmp 32), (.tmp 34)] [] none), none⟩,
      ⟨some 36, (.fieldAddr 0 (.tmp 2)), none⟩,
      ⟨none, (.store 8 (.tmp 36) (.tmp 35)), none⟩])
    .skip))))))))))
    (.seq (.region none 0 [⟨some 37, (.load (some 73) (.tmp 2)), none⟩,
      ⟨none, (.store 73 (.tmp 4) (.tmp 37)), none⟩])
    .ret)))⟩

/-- splicery/spliceryref02.Joined -/
def m20 : MF := ⟨1, 18, [.tmp 2],
  (.seq (.region none 0 [⟨some 2, (.mov (.const (.str []))), none⟩])
    (.seq (.region none 0 [⟨some 3, (.mov (.const (.str []))), none⟩])
    (.seq (.seq (.region none 0 [⟨some 4, (.mov (.const (.int .i64 0))), none⟩])
    (.block 0 (.loop (.seq (.seq (.region none 0 [⟨some 5, (.mov (.tmp 4)), none⟩,
      ⟨some 6, (.mov (.tmp 0)), none⟩,
      ⟨some 7, (.len (.tmp 6)), none⟩,
      ⟨some 8, (.bin .lss (.tmp 5) (.tmp 7)), none⟩])
    (.cond (.tmp 8) .skip
    (.exit 0)))
    (.seq (.block 1 (.region none 0 [⟨some 11, (.mov (.tmp 3)), none⟩,
      ⟨some 12, (.mov (.tmp 0)), none⟩,
      ⟨some 13, (.mov (.tmp 4)), none⟩,
      ⟨some 14, (.indexAddrL 1 (.tmp 12) (.tmp 13)), none⟩,
      ⟨some 15, (.load none (.tmp 14)), none⟩,
      ⟨some 16, (.bin .add (.tmp 11) (.tmp 15)), none⟩,
      ⟨some 3, (.mov (.tmp 16)), none⟩]))
    (.region none 0 [⟨some 9, (.mov (.tmp 4)), none⟩,
      ⟨some 10, (.bin .add (.tmp 9) (.const (.int .i64 1))), none⟩,
      ⟨some 4, (.mov (.tmp 10)), none⟩]))))))
    (.seq (.region none 0 [⟨some 17, (.mov (.tmp 3)), none⟩,
      ⟨some 2, (.mov (.tmp 17)), none⟩])
    .ret))))⟩

/-- (splicery/hash.Stream).Sum -/
def m21 : MF := ⟨1, 58, [.cell 2 (some 32)],
  (.seq (.region none 2 [⟨some 1, (.box 0 (.tmp 0)), none⟩,
      ⟨some 2, (.alloc 1 ((List.replicate 32 (0 : Int)).map (V.int .u8))), none⟩])
    (.seq (.region none 0 [⟨some 8, (.fieldAddr 72 (.tmp 1)), none⟩,
      ⟨some 9, (.load none (.tmp 8)), none⟩,
      ⟨some 10, (.bin .mul (.const (.int .u64 8)) (.tmp 9)), none⟩,
      ⟨some 3, (.mov (.tmp 10)), none⟩])
    (.seq (.region none 1 [⟨some 11, (.lit 0 1 [[.int .u8 0]] [(0, (.const (.int .u8 128)))]), none⟩,
      ⟨some 4, (.mov (.tmp 11)), none⟩])
    (.seq (.block 0 (.loop (.seq (.seq (.region none 0 [⟨some 12, (.fieldAddr 72 (.tmp 1)), none⟩,
      ⟨some 13, (.load none (.tmp 12)), none⟩,
      ⟨some 14, (.convInt .i64 (.tmp 13)), none⟩,
      ⟨some 15, (.mov (.tmp 4)), none⟩,
      ⟨some 16, (.len (.tmp 15)), none⟩,
      ⟨some 17, (.bin .add (.tmp 14) (.tmp 16)), none⟩,
      ⟨some 18, (.bin .rem (.tmp 17) (.const (.int .i64 64))), none⟩,
      ⟨some 19, (.bin .neq (.tmp 18) (.const (.int .i64 56))), none⟩])
    (.cond (.tmp 19) .skip
    (.exit 0)))
    (.block 1 (.region none 1 [⟨some 20, (.mov (.tmp 4)), none⟩,
      ⟨some 21, (.ilit 1 [[.int .u8 0]] [(0, (.const (.int .u8 0)))]), none⟩,
      ⟨some 22, (.append 0 1 1 (.tmp 20) (.tmp 21)), none⟩,
      ⟨some 4, (.mov (.tmp 22)), none⟩])))))
    (.seq (.seq (.region none 0 [⟨some 23, (.mov (.const (.int .i64 0))), none⟩])
    (.block 2 (.loop (.seq (.region none 0 [⟨some 24, (.bin .lss (.tmp 23) (.const (.int .i64 8))), none⟩])
    (.seq (.cond (.tmp 24) .skip
    (.exit 2))
    (.seq (.block 3 (.seq (.region none 0 [⟨some 25, (.mov (.tmp 23)), none⟩,
      ⟨some 5, (.mov (.tmp 25)), none⟩])
    (.region none 1 [⟨some 26, (.mov (.tmp 4)), none⟩,
      ⟨some 27, (.mov (.tmp 3)), none⟩,
      ⟨some 28, (.mov (.tmp 5)), none⟩,
      ⟨some 29, (.bin .mul (.const (.int .i64 8)) (.tmp 28)), none⟩,
      ⟨some 30, (.bin .sub (.const (.int .i64 56)) (.tmp 29)), none⟩,
      ⟨some 31, (.bin .shr (.tmp 27) (.tmp 30)), none⟩,
      ⟨some 32, (.convInt .u8 (.tmp 31)), none⟩,
      ⟨some 33, (.ilit 1 [[.int .u8 0]] [(0, (.tmp 32))]), none⟩,
      ⟨some 34, (.append 0 1 1 (.tmp 26) (.tmp 33)), none⟩,
      ⟨some 4, (.mov (.tmp 34)), none⟩])))
    (.region none 0 [⟨some 35, (.bin .add (.tmp 23) (.const (.int .i64 1))), none⟩,
      ⟨some 23, (.mov (.tmp 35)), none⟩])))))))
    (.seq (.region none 0 [⟨some 36, (.load (some 73) (.tmp 1)), none⟩,
      ⟨some 37, (.mov (.tmp 4)), none⟩,
      ⟨some 38, (.convStr (.tmp 37)), none⟩,
      ⟨some 39, (.call (.fn 19) [(.tmp 36), (.tmp 38)] [] none), none⟩,
      ⟨none, (.store 73 (.tmp 1) (.tmp 39)), none⟩])
    (.seq (.region none 1 [⟨some 6, (.alloc 0 ((List.replicate 32 (0 : Int)).map (V.int .u8))), none⟩])
    (.seq (.seq (.region none 0 [⟨some 40, (.mov (.const (.int .i64 0))), none⟩])
    (.block 4 (.loop (.seq (.region none 0 [⟨some 41, (.bin .lss (.tmp 40) (.const (.int .i64 32))), none⟩])
    (.seq (.cond (.tmp 41) .skip
    (.exit 4))
    (.seq (.block 5 (.seq (.region none 0 [⟨some 42, (.mov (.tmp 40)), none⟩,
      ⟨some 7, (.mov (.tmp 42)), none⟩])
    (.region none 0 [⟨some 43, (.mov (.tmp 7)), none⟩,
      ⟨some 44, (.mov (.tmp 7)), none⟩,
      ⟨some 45, (.bin .quo (.tmp 44) (.const (.int .i64 4))), none⟩,
      ⟨some 46, (.fieldAddr 0 (.tmp 1)), none⟩,
      ⟨some 47, (.indexAddrA 8 1 (.tmp 46) (.tmp 45)), none⟩,
      ⟨some 48, (.load none (.tmp 47)), none⟩,
      ⟨some 49, (.mov (.tmp 7)), none⟩,
      ⟨some 50, (.bin .rem (.tmp 49) (.const (.int .i64 4))), none⟩,
      ⟨some 51, (.bin .mul (.const (.int .i64 8)) (.tmp 50)), none⟩,
      ⟨some 52, (.bin .sub (.const (.int .i64 24)) (.tmp 51)), none⟩,
      ⟨some 53, (.bin .shr (.tmp 48) (.tmp 52)), none⟩,
      ⟨some 54, (.convInt .u8 (.tmp 53)), none⟩,
      ⟨some 55, (.indexAddrA 32 1 (.tmp 6) (.tmp 43)), none⟩,
      ⟨none, (.store 1 (.tmp 55) (.tmp 54)), none⟩])))
    (.region none 0 [⟨some 56, (.bin .add (.tmp 40) (.const (.int .i64 1))), none⟩,
      ⟨some 40, (.mov (.tmp 56)), none⟩])))))))
    (.seq (.region none 0 [⟨some 57, (.load (some 32) (.tmp 6)), none⟩,
      ⟨none, (.store 32 (.tmp 2) (.tmp 57)), none⟩])
    .ret)))))))))⟩

/-- splicery/hash.Mac -/
def m22 : MF := ⟨2, 35, [.tmp 4],
  (.seq (.region none 1 [⟨some 2, (.box 0 (.tmp 0)), none⟩,
      ⟨some 4, (.mov (.const (.str []))), none⟩])
    (.seq (.seq (.region none 0 [⟨some 9, (.load none (.tmp 2)), none⟩,
      ⟨some 10, (.lenS (.tmp 9)), none⟩,
      ⟨some 11, (.bin .gtr (.tmp 10) (.const (.int .i64 64))), none⟩])
    (.cond (.tmp 11) (.seq (.region none 1 [⟨some 12, (.load none (.tmp 2)), none⟩,
      ⟨some 13, (.convBytes (.tmp 12)), none⟩,
      ⟨some 14, (.call (.fn 15) [(.tmp 13)] [] none), none⟩,
      ⟨some 5, (.alloc 0 ((List.replicate 32 (0 : Int)).map (V.int .u8))), none⟩,
      ⟨none, (.store 32 (.tmp 5) (.tmp 14)), none⟩])
    (.region none 0 [⟨some 15, (.sliceA 32 1 (.tmp 5) none none), none⟩,
      ⟨some 16, (.convStr (.tmp 15)), none⟩,
      ⟨none, (.store 1 (.tmp 2) (.tmp 16)), none⟩]))
    .skip))
    (.seq (.region none 0 [⟨some 17, (.mkFn 51 [(.tmp 2)]), none⟩,
      ⟨some 6, (.mov (.tmp 17)), none⟩])
    (.seq (.region none 1 [⟨some 18, (.call (.fn 18) [] [] none), none⟩,
      ⟨some 19, (.mov (.tmp 6)), none⟩,
      ⟨some 20, (.call (.tmp 19) [(.const (.int .u8 54))] [] none), none⟩,
      ⟨some 21, (.call (.fn 19) [(.tmp 18), (.tmp 20)] [] none), none⟩,
      ⟨some 22, (.mov (.tmp 1)), none⟩,
      ⟨some 23, (.call (.fn 19) [(.tmp 21), (.tmp 22)] [] none), none⟩,
      ⟨some 24, (.call (.fn 21) [(.tmp 23)] [] none), none⟩,
      ⟨some 7, (.alloc 0 ((List.replicate 32 (0 : Int)).map (V.int .u8))), none⟩,
      ⟨none, (.store 32 (.tmp 7) (.tmp 24)), none⟩])
    (.seq (.region (some ([(0, 5), (2, 5), (3, 5), (0, 8), (2, 8), (3, 8), (5, 8), (6, 8), (7, 8)], [])) 1 [⟨some 25, (.call (.fn 18) [] [] none), none⟩,
      ⟨some 26, (.mov (.tmp 6)), none⟩,
      ⟨some 27, (.call (.tmp 26) [(.const (.int .u8 92))] [] none), none⟩,
      ⟨some 28, (.call (.fn 19) [(.tmp 25), (.tmp 27)] [] none), none⟩,
      ⟨some 29, (.sliceA 32 1 (.tmp 7) none none), none⟩,
      ⟨some 30, (.convStr (.tmp 29)), none⟩,
      ⟨some 31, (.call (.fn 19) [(.tmp 28), (.tmp 30)] [] none), none⟩,
      ⟨some 32, (.call (.fn 21) [(.tmp 31)] [] none), none⟩,
      ⟨some 8, (.alloc 0 ((List.replicate 32 (0 : Int)).map (V.int .u8))), none⟩,
      ⟨none, (.store 32 (.tmp 8) (.tmp 32)), none⟩])
    (.seq (.region none 0 [⟨some 33, (.sliceA 32 1 (.tmp 8) none none), none⟩,
      ⟨some 34, (.convStr (.tmp 33)), none⟩,
      ⟨some 4, (.mov (.tmp 34)), none⟩])
    .ret))))))⟩

/-- splicery/spliceryref02.Mac -/
def m23 : MF := ⟨2, 22, [.tmp 4],
  (.seq (.region none 0 [⟨some 4, (.mov (.const (.str []))), none⟩])
    (.seq (.region none 1 [⟨some 7, (.mov (.tmp 0)), none⟩,
      ⟨some 8, (.call (.fn 52) [(.tmp 7), (.const (.int .u8 54))] [] (some 0)), none⟩,
      ⟨some 5, (.mov (.tmp 8)), none⟩])
    (.seq (.region none 1 [⟨some 9, (.mov (.tmp 5)), none⟩,
      ⟨some 10, (.mov (.tmp 1)), none⟩,
      ⟨some 11, (.append 0 1 1 (.tmp 9) (.tmp 10)), none⟩,
      ⟨some 5, (.mov (.tmp 11)), none⟩])
    (.seq (.region none 1 [⟨some 12, (.mov (.tmp 0)), none⟩,
      ⟨some 13, (.call (.fn 52) [(.tmp 12), (.const (.int .u8 92))] [] (some 0)), none⟩,
      ⟨some 6, (.mov (.tmp 13)), none⟩])
    (.seq (.region none 1 [⟨some 14, (.mov (.tmp 6)), none⟩,
      ⟨some 15, (.mov (.tmp 5)), none⟩,
      ⟨some 16, (.call (.fn 16) [(.tmp 15)] [] none), none⟩,
      ⟨some 17, (.call (.fn 24) [(.tmp 16)] [] none), none⟩,
      ⟨some 18, (.append 0 1 1 (.tmp 14) (.tmp 17)), none⟩,
      ⟨some 6, (.mov (.tmp 18)), none⟩])
    (.seq (.region none 0 [⟨some 19, (.mov (.tmp 6)), none⟩,
      ⟨some 20, (.call (.fn 16) [(.tmp 19)] [] none), none⟩,
      ⟨some 21, (.call (.fn 24) [(.tmp 20)] [] none), none⟩,
      ⟨some 4, (.mov (.tmp 21)), none⟩])
    .ret))))))⟩

/-- splicery/spliceryref02.Bytes32 -/
def m24 : MF := ⟨1, 17, [.tmp 2],
  (.seq (.region none 1 [⟨some 1, (.box 0 (.tmp 0)), none⟩,
      ⟨some 2, (.mov (.const (.str []))), none⟩])
    (.seq (.region none 0 [⟨some 3, (.mov (.const (.nils 1))), none⟩])
    (.seq (.seq (.region none 0 [⟨some 4, (.mov (.const (.int .i64 0))), none⟩])
    (.block 0 (.loop (.seq (.seq (.region none 0 [⟨some 5, (.mov (.tmp 4)), none⟩,
      ⟨some 6, (.bin .lss (.tmp 5) (.const (.int .i64 32))), none⟩])
    (.cond (.tmp 6) .skip
    (.exit 0)))
    (.seq (.block 1 (.region none 1 [⟨some 9, (.mov (.tmp 3)), none⟩,
      ⟨some 10, (.mov (.tmp 4)), none⟩,
      ⟨some 11, (.indexAddrA 32 1 (.tmp 1) (.tmp 10)), none⟩,
      ⟨some 12, (.load none (.tmp 11)), none⟩,
      ⟨some 13, (.ilit 1 [[.int .u8 0]] [(0, (.tmp 12))]), none⟩,
      ⟨some 14, (.append 0 1 1 (.tmp 9) (.tmp 13)), none⟩,
      ⟨some 3, (.mov (.tmp 14)), none⟩]))
    (.region none 0 [⟨some 7, (.mov (.tmp 4)), none⟩,
      ⟨some 8, (.bin .add (.tmp 7) (.const (.int .i64 1))), none⟩,
      ⟨some 4, (.mov (.tmp 8)), none⟩]))))))
    (.seq (.region none 0 [⟨some 15, (.mov (.tmp 3)), none⟩,
      ⟨some 16, (.convStr (.tmp 15)), none⟩,
      ⟨some 2, (.mov (.tmp 16)), none⟩])
    .ret))))⟩

/-- splicery/hash.Of -/
def m25 : MF := ⟨2, 32, [.cell 4 (some 16)],
  (.seq (.region none 1 [⟨some 4, (.alloc 0 ((List.replicate 16 (0 : Int)).map (V.int .u8))), none⟩])
    (.seq (.region (some ([(0, 3), (0, 4), (0, 6), (3, 6), (4, 6), (5, 6)], [])) 2 [⟨some 9, (.call (.fn 18) [] [] none), none⟩,
      ⟨some 10, (.mov (.tmp 0)), none⟩,
      ⟨some 11, (.convInt .u8 (.tmp 10)), none⟩,
      ⟨some 12, (.lit 0 1 [[.int .u8 0]] [(0, (.tmp 11))]), none⟩,
      ⟨some 13, (.convStr (.tmp 12)), none⟩,
      ⟨some 14, (.call (.fn 19) [(.tmp 9), (.tmp 13)] [] none), none⟩,
      ⟨some 5, (.alloc 1 (((List.replicate 8 (0 : Int)).map (V.int .u32)) ++ (((List.replicate 64 (0 : Int)).map (V.int .u8)) ++ ([.int .u64 0])))), none⟩,
      ⟨none, (.store 73 (.tmp 5) (.tmp 14)), none⟩])
    (.seq (.seq (.region none 0 [⟨some 15, (.mov (.tmp 1)), none⟩,
      ⟨some 16, (.len (.tmp 15)), none⟩,
      ⟨some 17, (.mov (.const (.int .i64 0))), none⟩])
    (.block 0 (.loop (.seq (.region none 0 [⟨some 18, (.bin .lss (.tmp 17) (.tmp 16)), none⟩])
    (.seq (.cond (.tmp 18) .skip
    (.exit 0))
    (.seq (.block 1 (.seq (.region none 0 [⟨some 19, (.indexAddrL 1 (.tmp 15) (.tmp 17)), none⟩,
      ⟨some 20, (.load none (.tmp 19)), none⟩,
      ⟨some 7, (.mov (.tmp 20)), none⟩])
    (.region (some ([(0, 2)], [4])) 0 [⟨some 21, (.load (some 73) (.tmp 5)), none⟩,
      ⟨some 22, (.mov (.tmp 7)), none⟩,
      ⟨some 23, (.call (.fn 39) [(.tmp 22)] [] none), none⟩,
      ⟨some 24, (.convStr (.tmp 23)), none⟩,
      ⟨some 25, (.call (.fn 19) [(.tmp 21), (.tmp 24)] [] none), none⟩,
      ⟨none, (.store 73 (.tmp 5) (.tmp 25)), none⟩])))
    (.region none 0 [⟨some 26, (.bin .add (.tmp 17) (.const (.int .i64 1))), none⟩,
      ⟨some 17, (.mov (.tmp 26)), none⟩])))))))
    (.seq (.region none 1 [⟨some 27, (.load (some 73) (.tmp 5)), none⟩,
      ⟨some 28, (.call (.fn 21) [(.tmp 27)] [] none), none⟩,
      ⟨some 8, (.alloc 0 ((List.replicate 32 (0 : Int)).map (V.int .u8))), none⟩,
      ⟨none, (.store 32 (.tmp 8) (.tmp 28)), none⟩])
    (.seq (.region none 0 [⟨some 29, (.sliceA 32 1 (.tmp 8) none (some (.const (.int .i64 16)))), none⟩,
      ⟨some 30, (.arrPtr 16 (.tmp 29)), none⟩,
      ⟨some 31, (.load (some 16) (.tmp 30)), none⟩,
      ⟨none, (.store 16 (.tmp 4) (.tmp 31)), none⟩])
    .ret)))))⟩

/-- splicery/spliceryref02.Of -/
def m26 : MF := ⟨2, 9, [.cell 4 (some 16)],
  (.seq (.region none 1 [⟨some 4, (.alloc 0 ((List.replicate 16 (0 : Int)).map (V.int .u8))), none⟩])
    (.seq (.region none 0 [⟨some 5, (.mov (.tmp 0)), none⟩,
      ⟨some 6, (.mov (.tmp 1)), none⟩,
      ⟨some 7, (.call (.fn 27) [(.tmp 5), (.tmp 6)] [] none), none⟩,
      ⟨some 8, (.call (.fn 53) [(.tmp 7)] [] none), none⟩,
      ⟨none, (.store 16 (.tmp 4) (.tmp 8)), none⟩])
    .ret))⟩

/-- splicery/spliceryref02.Input -/
def m27 : MF := ⟨2, 24, [.tmp 4],
  (.seq (.region none 0 [⟨some 4, (.mov (.const (.nils 1))), none⟩])
    (.seq (.region none 1 [⟨some 7, (.mov (.tmp 0)), none⟩,
      ⟨some 8, (.convInt .u8 (.tmp 7)), none⟩,
      ⟨some 9, (.lit 0 1 [[.int .u8 0]] [(0, (.tmp 8))]), none⟩,
      ⟨some 5, (.mov (.tmp 9)), none⟩])
    (.seq (.seq (.region none 0 [⟨some 6, (.mov (.const (.int .i64 0))), none⟩])
    (.block 0 (.loop (.seq (.seq (.region none 0 [⟨some 10, (.mov (.tmp 6)), none⟩,
      ⟨some 11, (.mov (.tmp 1)), none⟩,
      ⟨some 12, (.len (.tmp 11)), none⟩,
      ⟨some 13, (.bin .lss (.tmp 10) (.tmp 12)), none⟩])
    (.cond (.tmp 13) .skip
    (.exit 0)))
    (.seq (.block 1 (.region none 1 [⟨some 16, (.mov (.tmp 5)), none⟩,
      ⟨some 17, (.mov (.tmp 1)), none⟩,
      ⟨some 18, (.mov (.tmp 6)), none⟩,
      ⟨some 19, (.indexAddrL 1 (.tmp 17) (.tmp 18)), none⟩,
      ⟨some 20, (.load none (.tmp 19)), none⟩,
      ⟨some 21, (.call (.fn 54) [(.tmp 20)] [] none), none⟩,
      ⟨some 22, (.append 0 1 1 (.tmp 16) (.tmp 21)), none⟩,
      ⟨some 5, (.mov (.tmp 22)), none⟩]))
    (.region none 0 [⟨some 14, (.mov (.tmp 6)), none⟩,
      ⟨some 15, (.bin .add (.tmp 14) (.const (.int .i64 1))), none⟩,
      ⟨some 6, (.mov (.tmp 15)), none⟩]))))))
    (.seq (.region none 0 [⟨some 23, (.mov (.tmp 5)), none⟩,
      ⟨some 4, (.mov (.tmp 23)), none⟩])
    .ret))))⟩

/-- splicery/hash.Equal -/
def m28 : MF := ⟨2, 29, [.tmp 4],
  (.seq (.region none 0 [⟨some 4, (.mov (.const (.bool false))), none⟩])
    (.seq (.seq (.region none 0 [⟨some 7, (.mov (.tmp 0)), none⟩,
      ⟨some 8, (.lenS (.tmp 7)), none⟩,
      ⟨some 9, (.mov (.tmp 1)), none⟩,
      ⟨some 10, (.lenS (.tmp 9)), none⟩,
      ⟨some 11, (.bin .neq (.tmp 8) (.tmp 10)), none⟩])
    (.cond (.tmp 11) (.seq (.region none 0 [⟨some 4, (.mov (.const (.bool false))), none⟩])
    .ret)
    .skip))
    (.seq (.region none 0 [⟨some 5, (.mov (.const (.int .u8 0))), none⟩])
    (.seq (.seq (.region none 0 [⟨some 12, (.mov (.tmp 0)), none⟩,
      ⟨some 13, (.lenS (.tmp 12)), none⟩,
      ⟨some 14, (.mov (.const (.int .i64 0))), none⟩])
    (.block 0 (.loop (.seq (.region none 0 [⟨some 15, (.bin .lss (.tmp 14) (.tmp 13)), none⟩])
    (.seq (.cond (.tmp 15) .skip
    (.exit 0))
    (.seq (.block 1 (.seq (.region none 0 [⟨some 16, (.mov (.tmp 14)), none⟩,
      ⟨some 6, (.mov (.tmp 16)), none⟩])
    (.region (some ([], [])) 0 [⟨some 17, (.mov (.tmp 5)), none⟩,
      ⟨some 18, (.mov (.tmp 0)), none⟩,
      ⟨some 19, (.mov (.tmp 6)), none⟩,
      ⟨some 20, (.indexS (.tmp 18) (.tmp 19)), none⟩,
      ⟨some 21, (.mov (.tmp 1)), none⟩,
      ⟨some 22, (.mov (.tmp 6)), none⟩,
      ⟨some 23, (.indexS (.tmp 21) (.tmp 22)), none⟩,
      ⟨some 24, (.bin .xor (.tmp 20) (.tmp 23)), none⟩,
      ⟨some 25, (.bin .or (.tmp 17) (.tmp 24)), none⟩,
      ⟨some 5, (.mov (.tmp 25)), none⟩])))
    (.region none 0 [⟨some 26, (.bin .add (.tmp 14) (.const (.int .i64 1))), none⟩,
      ⟨some 14, (.mov (.tmp 26)), none⟩])))))))
    (.seq (.region none 0 [⟨some 27, (.mov (.tmp 5)), none⟩,
      ⟨some 28, (.bin .eql (.tmp 27) (.const (.int .u8 0))), none⟩,
      ⟨some 4, (.mov (.tmp 28)), none⟩])
    .ret)))))⟩

/-- splicery/wire.Bytes -/
def m39 : MF := ⟨1, 8, [.tmp 2],
  (.seq (.region none 0 [⟨some 2, (.mov (.const (.nils 1))), none⟩])
    (.seq (.region none 2 [⟨some 3, (.mov (.tmp 0)), none⟩,
      ⟨some 4, (.lenS (.tmp 3)), none⟩,
      ⟨some 5, (.call (.fn 64) [(.tmp 4)] [] (some 0)), none⟩,
      ⟨some 6, (.mov (.tmp 0)), none⟩,
      ⟨some 7, (.append 1 1 1 (.tmp 5) (.tmp 6)), none⟩,
      ⟨some 2, (.mov (.tmp 7)), none⟩])
    .ret))⟩

/-- splicery/splicerylaw02.hex -/
def m45 : MF := ⟨1, 29, [.tmp 2],
  (.seq (.region none 0 [⟨some 2, (.mov (.const (.str []))), none⟩])
    (.seq (.region none 0 [⟨some 3, (.mov (.const (.str [48, 49, 50, 51, 52, 53, 54, 55, 56, 57, 97, 98, 99, 100, 101, 102]))), none⟩])
    (.seq (.region none 0 [⟨some 4, (.mov (.const (.nils 1))), none⟩])
    (.seq (.seq (.region none 0 [⟨some 5, (.mov (.const (.int .i64 0))), none⟩])
    (.block 0 (.loop (.seq (.seq (.region none 0 [⟨some 6, (.mov (.tmp 5)), none⟩,
      ⟨some 7, (.mov (.tmp 0)), none⟩,
      ⟨some 8, (.lenS (.tmp 7)), none⟩,
      ⟨some 9, (.bin .lss (.tmp 6) (.tmp 8)), none⟩])
    (.cond (.tmp 9) .skip
    (.exit 0)))
    (.seq (.block 1 (.region (some ([], [])) 1 [⟨some 12, (.mov (.tmp 4)), none⟩,
      ⟨some 13, (.mov (.tmp 3)), none⟩,
      ⟨some 14, (.mov (.tmp 0)), none⟩,
      ⟨some 15, (.mov (.tmp 5)), none⟩,
      ⟨some 16, (.indexS (.tmp 14) (.tmp 15)), none⟩,
      ⟨some 17, (.bin .quo (.tmp 16) (.const (.int .u8 16))), none⟩,
      ⟨some 18, (.indexS (.tmp 13) (.tmp 17)), none⟩,
      ⟨some 19, (.mov (.tmp 3)), none⟩,
      ⟨some 20, (.mov (.tmp 0)), none⟩,
      ⟨some 21, (.mov (.tmp 5)), none⟩,
      ⟨some 22, (.indexS (.tmp 20) (.tmp 21)), none⟩,
      ⟨some 23, (.bin .rem (.tmp 22) (.const (.int .u8 16))), none⟩,
      ⟨some 24, (.indexS (.tmp 19) (.tmp 23)), none⟩,
      ⟨some 25, (.ilit 1 [[.int .u8 0], [.int .u8 0]] [(0, (.tmp 18)), (1, (.tmp 24))]), none⟩,
      ⟨some 26, (.append 0 1 1 (.tmp 12) (.tmp 25)), none⟩,
      ⟨some 4, (.mov (.tmp 26)), none⟩]))
    (.region none 0 [⟨some 10, (.mov (.tmp 5)), none⟩,
      ⟨some 11, (.bin .add (.tmp 10) (.const (.int .i64 1))), none⟩,
      ⟨some 5, (.mov (.tmp 11)), none⟩]))))))
    (.seq (.region none 0 [⟨some 27, (.mov (.tmp 4)), none⟩,
      ⟨some 28, (.convStr (.tmp 27)), none⟩,
      ⟨some 2, (.mov (.tmp 28)), none⟩])
    .ret)))))⟩

/-- splicery/spliceryref02.Text -/
def m46 : MF := ⟨1, 17, [.tmp 2],
  (.seq (.region none 1 [⟨some 1, (.box 0 (.tmp 0)), none⟩,
      ⟨some 2, (.mov (.const (.str []))), none⟩])
    (.seq (.region none 0 [⟨some 3, (.mov (.const (.nils 1))), none⟩])
    (.seq (.seq (.region none 0 [⟨some 4, (.mov (.const (.int .i64 0))), none⟩])
    (.block 0 (.loop (.seq (.seq (.region none 0 [⟨some 5, (.mov (.tmp 4)), none⟩,
      ⟨some 6, (.bin .lss (.tmp 5) (.const (.int .i64 16))), none⟩])
    (.cond (.tmp 6) .skip
    (.exit 0)))
    (.seq (.block 1 (.region none 1 [⟨some 9, (.mov (.tmp 3)), none⟩,
      ⟨some 10, (.mov (.tmp 4)), none⟩,
      ⟨some 11, (.indexAddrA 16 1 (.tmp 1) (.tmp 10)), none⟩,
      ⟨some 12, (.load none (.tmp 11)), none⟩,
      ⟨some 13, (.ilit 1 [[.int .u8 0]] [(0, (.tmp 12))]), none⟩,
      ⟨some 14, (.append 0 1 1 (.tmp 9) (.tmp 13)), none⟩,
      ⟨some 3, (.mov (.tmp 14)), none⟩]))
    (.region none 0 [⟨some 7, (.mov (.tmp 4)), none⟩,
      ⟨some 8, (.bin .add (.tmp 7) (.const (.int .i64 1))), none⟩,
      ⟨some 4, (.mov (.tmp 8)), none⟩]))))))
    (.seq (.region none 0 [⟨some 15, (.mov (.tmp 3)), none⟩,
      ⟨some 16, (.convStr (.tmp 15)), none⟩,
      ⟨some 2, (.mov (.tmp 16)), none⟩])
    .ret))))⟩

/-- splicery/spliceryref02.padded -/
def m47 : MF := ⟨1, 37, [.tmp 2],
  (.seq (.region none 0 [⟨some 2, (.mov (.const (.nils 1))), none⟩])
    (.seq (.region none 2 [⟨some 6, (.lit 0 1 [] []), none⟩,
      ⟨some 7, (.mov (.tmp 0)), none⟩,
      ⟨some 8, (.append 1 1 1 (.tmp 6) (.tmp 7)), none⟩,
      ⟨some 3, (.mov (.tmp 8)), none⟩])
    (.seq (.region none 1 [⟨some 9, (.mov (.tmp 3)), none⟩,
      ⟨some 10, (.ilit 1 [[.int .u8 0]] [(0, (.const (.int .u8 128)))]), none⟩,
      ⟨some 11, (.append 0 1 1 (.tmp 9) (.tmp 10)), none⟩,
      ⟨some 3, (.mov (.tmp 11)), none⟩])
    (.seq (.block 0 (.loop (.seq (.seq (.region none 0 [⟨some 12, (.mov (.tmp 3)), none⟩,
      ⟨some 13, (.len (.tmp 12)), none⟩,
      ⟨some 14, (.bin .rem (.tmp 13) (.const (.int .i64 64))), none⟩,
      ⟨some 15, (.bin .neq (.tmp 14) (.const (.int .i64 56))), none⟩])
    (.cond (.tmp 15) .skip
    (.exit 0)))
    (.block 1 (.region none 1 [⟨some 16, (.mov (.tmp 3)), none⟩,
      ⟨some 17, (.ilit 1 [[.int .u8 0]] [(0, (.const (.int .u8 0)))]), none⟩,
      ⟨some 18, (.append 0 1 1 (.tmp 16) (.tmp 17)), none⟩,
      ⟨some 3, (.mov (.tmp 18)), none⟩])))))
    (.seq (.region none 0 [⟨some 19, (.mov (.tmp 0)), none⟩,
      ⟨some 20, (.len (.tmp 19)), none⟩,
      ⟨some 21, (.convInt .u64 (.tmp 20)), none⟩,
      ⟨some 22, (.bin .mul (.const (.int .u64 8)) (.tmp 21)), none⟩,
      ⟨some 4, (.mov (.tmp 22)), none⟩])
    (.seq (.seq (.region none 0 [⟨some 5, (.mov (.const (.int .i64 0))), none⟩])
    (.block 2 (.loop (.seq (.seq (.region none 0 [⟨some 23, (.mov (.tmp 5)), none⟩,
      ⟨some 24, (.bin .lss (.tmp 23) (.const (.int .i64 8))), none⟩])
    (.cond (.tmp 24) .skip
    (.exit 2)))
    (.seq (.block 3 (.region none 1 [⟨some 27, (.mov (.tmp 3)), none⟩,
      ⟨some 28, (.mov (.tmp 4)), none⟩,
      ⟨some 29, (.mov (.tmp 5)), none⟩,
      ⟨some 30, (.bin .mul (.const (.int .i64 8)) (.tmp 29)), none⟩,
      ⟨some 31, (.bin .sub (.const (.int .i64 56)) (.tmp 30)), none⟩,
      ⟨some 32, (.bin .shr (.tmp 28) (.tmp 31)), none⟩,
      ⟨some 33, (.convInt .u8 (.tmp 32)), none⟩,
      ⟨some 34, (.ilit 1 [[.int .u8 0]] [(0, (.tmp 33))]), none⟩,
      ⟨some 35, (.append 0 1 1 (.tmp 27) (.tmp 34)), none⟩,
      ⟨some 3, (.mov (.tmp 35)), none⟩]))
    (.region none 0 [⟨some 25, (.mov (.tmp 5)), none⟩,
      ⟨some 26, (.bin .add (.tmp 25) (.const (.int .i64 1))), none⟩,
      ⟨some 5, (.mov (.tmp 26)), none⟩]))))))
    (.seq (.region none 0 [⟨some 36, (.mov (.tmp 3)), none⟩,
      ⟨some 2, (.mov (.tmp 36)), none⟩])
    .ret)))))))⟩

/-- splicery/spliceryref02.words -/
def m48 : MF := ⟨1, 101, [.cell 2 (some 64)],
  (.seq (.region none 1 [⟨some 2, (.alloc 0 ((List.replicate 64 (0 : Int)).map (V.int .u32))), none⟩])
    (.seq (.region none 1 [⟨some 3, (.alloc 0 ((List.replicate 64 (0 : Int)).map (V.int .u32))), none⟩])
    (.seq (.seq (.region none 0 [⟨some 4, (.mov (.const (.int .i64 0))), none⟩])
    (.block 0 (.loop (.seq (.seq (.region none 0 [⟨some 8, (.mov (.tmp 4)), none⟩,
      ⟨some 9, (.bin .lss (.tmp 8) (.const (.int .i64 16))), none⟩])
    (.cond (.tmp 9) .skip
    (.exit 0)))
    (.seq (.block 1 (.region (some ([], [])) 0 [⟨some 12, (.mov (.tmp 4)), none⟩,
      ⟨some 13, (.mov (.tmp 0)), none⟩,
      ⟨some 14, (.mov (.tmp 4)), none⟩,
      ⟨some 15, (.bin .mul (.const (.int .i64 4)) (.tmp 14)), none⟩,
      ⟨some 16, (.indexAddrL 1 (.tmp 13) (.tmp 15)), none⟩,
      ⟨some 17, (.load none (.tmp 16)), none⟩,
      ⟨some 18, (.convInt .u32 (.tmp 17)), none⟩,
      ⟨some 19, (.bin .shl (.tmp 18) (.const (.int .u64 24))), none⟩,
      ⟨some 20, (.mov (.tmp 0)), none⟩,
      ⟨some 21, (.mov (.tmp 4)), none⟩,
      ⟨some 22, (.bin .mul (.const (.int .i64 4)) (.tmp 21)), none⟩,
      ⟨some 23, (.bin .add (.tmp 22) (.const (.int .i64 1))), none⟩,
      ⟨some 24, (.indexAddrL 1 (.tmp 20) (.tmp 23)), none⟩,
      ⟨some 25, (.load none (.tmp 24)), none⟩,
      ⟨some 26, (.convInt .u32 (.tmp 25)), none⟩,
      ⟨some 27, (.bin .shl (.tmp 26) (.const (.int .u64 16))), none⟩,
      ⟨some 28, (.bin .or (.tmp 19) (.tmp 27)), none⟩,
      ⟨some 29, (.mov (.tmp 0)), none⟩,
      ⟨some 30, (.mov (.tmp 4)), none⟩,
      ⟨some 31, (.bin .mul (.const (.int .i64 4)) (.tmp 30)), none⟩,
      ⟨some 32, (.bin .add (.tmp 31) (.const (.int .i64 2))), none⟩,
      ⟨some 33, (.indexAddrL 1 (.tmp 29) (.tmp 32)), none⟩,
      ⟨some 34, (.load none (.tmp 33)), none⟩,
      ⟨some 35, (.convInt .u32 (.tmp 34)), none⟩,
      ⟨some 36, (.bin .shl (.tmp 35) (.const (.int .u64 8))), none⟩,
      ⟨some 37, (.bin .or (.tmp 28) (.tmp 36)), none⟩,
      ⟨some 38, (.mov (.tmp 0)), none⟩,
      ⟨some 39, (.mov (.tmp 4)), none⟩,
      ⟨some 40, (.bin .mul (.const (.int .i64 4)) (.tmp 39)), none⟩,
      ⟨some 41, (.bin .add (.tmp 40) (.const (.int .i64 3))), none⟩,
      ⟨some 42, (.indexAddrL 1 (.tmp 38) (.tmp 41)), none⟩,
      ⟨some 43, (.load none (.tmp 42)), none⟩,
      ⟨some 44, (.convInt .u32 (.tmp 43)), none⟩,
      ⟨some 45, (.bin .or (.tmp 37) (.tmp 44)), none⟩,
      ⟨some 46, (.indexAddrA 64 1 (.tmp 3) (.tmp 12)), none⟩,
      ⟨none, (.store 1 (.tmp 46) (.tmp 45)), none⟩]))
    (.region none 0 [⟨some 10, (.mov (.tmp 4)), none⟩,
      ⟨some 11, (.bin .add (.tmp 10) (.const (.int .i64 1))), none⟩,
      ⟨some 4, (.mov (.tmp 11)), none⟩]))))))
    (.seq (.seq (.region none 0 [⟨some 5, (.mov (.const (.int .i64 16))), none⟩])
    (.block 2 (.loop (.seq (.seq (.region none 0 [⟨some 47, (.mov (.tmp 5)), none⟩,
      ⟨some 48, (.bin .lss (.tmp 47) (.const (.int .i64 64))), none⟩])
    (.cond (.tmp 48) .skip
    (.exit 2)))
    (.seq (.block 3 (.seq (.region (some ([(4, 8), (4, 14), (9, 14)], [])) 0 [⟨some 51, (.mov (.tmp 5)), none⟩,
      ⟨some 52, (.bin .sub (.tmp 51) (.const (.int .i64 15))), none⟩,
      ⟨some 53, (.indexAddrA 64 1 (.tmp 3) (.tmp 52)), none⟩,
      ⟨some 54, (.load none (.tmp 53)), none⟩,
      ⟨some 55, (.call (.fn 49) [(.tmp 54), (.const (.int .i64 7))] [] none), none⟩,
      ⟨some 56, (.mov (.tmp 5)), none⟩,
      ⟨some 57, (.bin .sub (.tmp 56) (.const (.int .i64 15))), none⟩,
      ⟨some 58, (.indexAddrA 64 1 (.tmp 3) (.tmp 57)), none⟩,
      ⟨some 59, (.load none (.tmp 58)), none⟩,
      ⟨some 60, (.call (.fn 49) [(.tmp 59), (.const (.int .i64 18))] [] none), none⟩,
      ⟨some 61, (.bin .xor (.tmp 55) (.tmp 60)), none⟩,
      ⟨some 62, (.mov (.tmp 5)), none⟩,
      ⟨some 63, (.bin .sub (.tmp 62) (.const (.int .i64 15))), none⟩,
      ⟨some 64, (.indexAddrA 64 1 (.tmp 3) (.tmp 63)), none⟩,
      ⟨some 65, (.load none (.tmp 64)), none⟩,
      ⟨some 66, (.bin .shr (.tmp 65) (.const (.int .u64 3))), none⟩,
      ⟨some 67, (.bin .xor (.tmp 61) (.tmp 66)), none⟩,
      ⟨some 6, (.mov (.tmp 67)), none⟩])
    (.seq (.region (some ([(4, 8), (4, 14), (9, 14)], [])) 0 [⟨some 68, (.mov (.tmp 5)), none⟩,
      ⟨some 69, (.bin .sub (.tmp 68) (.const (.int .i64 2))), none⟩,
      ⟨some 70, (.indexAddrA 64 1 (.tmp 3) (.tmp 69)), none⟩,
      ⟨some 71, (.load none (.tmp 70)), none⟩,
      ⟨some 72, (.call (.fn 49) [(.tmp 71), (.const (.int .i64 17))] [] none), none⟩,
      ⟨some 73, (.mov (.tmp 5)), none⟩,
      ⟨some 74, (.bin .sub (.tmp 73) (.const (.int .i64 2))), none⟩,
      ⟨some 75, (.indexAddrA 64 1 (.tmp 3) (.tmp 74)), none⟩,
      ⟨some 76, (.load none (.tmp 75)), none⟩,
      ⟨some 77, (.call (.fn 49) [(.tmp 76), (.const (.int .i64 19))] [] none), none⟩,
      ⟨some 78, (.bin .xor (.tmp 72) (.tmp 77)), none⟩,
      ⟨some 79, (.mov (.tmp 5)), none⟩,
      ⟨some 80, (.bin .sub (.tmp 79) (.const (.int .i64 2))), none⟩,
      ⟨some 81, (.indexAddrA 64 1 (.tmp 3) (.tmp 80)), none⟩,
      ⟨some 82, (.load none (.tmp 81)), none⟩,
      ⟨some 83, (.bin .shr (.tmp 82) (.const (.int .u64 10))), none⟩,
      ⟨some 84, (.bin .xor (.tmp 78) (.tmp 83)), none⟩,
      ⟨some 7, (.mov (.tmp 84)), none⟩])
    (.region (some ([], [])) 0 [⟨some 85, (.mov (.tmp 5)), none⟩,
      ⟨some 86, (.mov (.tmp 5)), none⟩,
      ⟨some 87, (.bin .sub (.tmp 86) (.const (.int .i64 16))), none⟩,
      ⟨some 88, (.indexAddrA 64 1 (.tmp 3) (.tmp 87)), none⟩,
      ⟨some 89, (.load none (.tmp 88)), none⟩,
      ⟨some 90, (.mov (.tmp 6)), none⟩,
      ⟨some 91, (.bin .add (.tmp 89) (.tmp 90)), none⟩,
      ⟨some 92, (.mov (.tmp 5)), none⟩,
      ⟨some 93, (.bin .sub (.tmp 92) (.const (.int .i64 7))), none⟩,
      ⟨some 94, (.indexAddrA 64 1 (.tmp 3) (.tmp 93)), none⟩,
      ⟨some 95, (.load none (.tmp 94)), none⟩,
      ⟨some 96, (.bin .add (.tmp 91) (.tmp 95)), none⟩,
      ⟨some 97, (.mov (.tmp 7)), none⟩,
      ⟨some 98, (.bin .add (.tmp 96) (.tmp 97)), none⟩,
      ⟨some 99, (.indexAddrA 64 1 (.tmp 3) (.tmp 85)), none⟩,
      ⟨none, (.store 1 (.tmp 99) (.tmp 98)), none⟩]))))
    (.region none 0 [⟨some 49, (.mov (.tmp 5)), none⟩,
      ⟨some 50, (.bin .add (.tmp 49) (.const (.int .i64 1))), none⟩,
      ⟨some 5, (.mov (.tmp 50)), none⟩]))))))
    (.seq (.region none 0 [⟨some 100, (.load (some 64) (.tmp 3)), none⟩,
      ⟨none, (.store 64 (.tmp 2) (.tmp 100)), none⟩])
    .ret)))))⟩

/-- splicery/spliceryref02.rotr -/
def m49 : MF := ⟨2, 13, [.tmp 4],
  (.seq (.region none 0 [⟨some 4, (.mov (.const (.int .u32 0))), none⟩])
    (.seq (.region (some ([], [])) 0 [⟨some 5, (.mov (.tmp 0)), none⟩,
      ⟨some 6, (.mov (.tmp 1)), none⟩,
      ⟨some 7, (.bin .shr (.tmp 5) (.tmp 6)), none⟩,
      ⟨some 8, (.mov (.tmp 0)), none⟩,
      ⟨some 9, (.mov (.tmp 1)), none⟩,
      ⟨some 10, (.bin .sub (.const (.int .i64 32)) (.tmp 9)), none⟩,
      ⟨some 11, (.bin .shl (.tmp 8) (.tmp 10)), none⟩,
      ⟨some 12, (.bin .or (.tmp 7) (.tmp 11)), none⟩,
      ⟨some 4, (.mov (.tmp 12)), none⟩])
    .ret))⟩

/-- splicery/hash.compress -/
def m50 : MF := ⟨2, 116, [.cell 4 (some 8)],
  (.seq (.region none 2 [⟨some 2, (.box 0 (.tmp 0)), none⟩,
      ⟨some 4, (.alloc 1 ((List.replicate 8 (0 : Int)).map (V.int .u32))), none⟩])
    (.seq (.region none 1 [⟨some 13, (.mov (.tmp 1)), none⟩,
      ⟨some 14, (.call (.fn 90) [(.tmp 13)] [] none), none⟩,
      ⟨some 5, (.alloc 0 ((List.replicate 64 (0 : Int)).map (V.int .u32))), none⟩,
      ⟨none, (.store 64 (.tmp 5) (.tmp 14)), none⟩])
    (.seq (.region (some ([(2, 6), (5, 6), (2, 7), (5, 7), (6, 7), (5, 8)], [])) 2 [⟨some 15, (.sliceA 8 1 (.tmp 2) none (some (.const (.int .i64 4)))), none⟩,
      ⟨some 16, (.arrPtr 4 (.tmp 15)), none⟩,
      ⟨some 17, (.load (some 4) (.tmp 16)), none⟩,
      ⟨some 18, (.sliceA 8 1 (.tmp 2) (some (.const (.int .i64 4))) none), none⟩,
      ⟨some 19, (.arrPtr 4 (.tmp 18)), none⟩,
      ⟨some 20, (.load (some 4) (.tmp 19)), none⟩,
      ⟨some 6, (.alloc 0 [.int .u32 0, .int .u32 0, .int .u32 0, .int .u32 0]), none⟩,
      ⟨some 7, (.alloc 1 [.int .u32 0, .int .u32 0, .int .u32 0, .int .u32 0]), none⟩,
      ⟨none, (.store 4 (.tmp 6) (.tmp 17)), none⟩,
      ⟨none, (.store 4 (.tmp 7) (.tmp 20)), none⟩])
    (.seq (.seq (.region none 0 [⟨some 21, (.load (some 64) (.glob 1)), none⟩,
      ⟨some 22, (.mov (.const (.int .i64 0))), none⟩])
    (.block 0 (.loop (.seq (.region none 0 [⟨some 23, (.bin .lss (.tmp 22) (.const (.int .i64 64))), none⟩])
    (.seq (.cond (.tmp 23) .skip
    (.exit 0))
    (.seq (.block 1 (.seq (.region none 0 [⟨some 24, (.mov (.tmp 22)), none⟩,
      ⟨some 25, (.indexA 64 1 false (.tmp 21) (.tmp 22)), none⟩,
      ⟨some 8, (.mov (.tmp 24)), none⟩,
      ⟨some 9, (.mov (.tmp 25)), none⟩])
    (.seq (.region (some ([(1, 4), (4, 7), (4, 9), (4, 12), (4, 15), (4, 23)], [])) 0 [⟨some 26, (.indexAddrA 4 1 (.tmp 7) (.const (.int .i64 3))), none⟩,
      ⟨some 27, (.load none (.tmp 26)), none⟩,
      ⟨some 28, (.indexAddrA 4 1 (.tmp 7) (.const (.int .i64 0))), none⟩,
      ⟨some 29, (.load none (.tmp 28)), none⟩,
      ⟨some 30, (.call (.fn 91) [(.tmp 29), (.const (.int .i64 6)), (.const (.int .i64 11)), (.const (.int .i64 25))] [] none), none⟩,
      ⟨some 31, (.bin .add (.tmp 27) (.tmp 30)), none⟩,
      ⟨some 32, (.indexAddrA 4 1 (.tmp 7) (.const (.int .i64 0))), none⟩,
      ⟨some 33, (.load none (.tmp 32)), none⟩,
      ⟨some 34, (.indexAddrA 4 1 (.tmp 7) (.const (.int .i64 1))), none⟩,
      ⟨some 35, (.load none (.tmp 34)), none⟩,
      ⟨some 36, (.bin .and (.tmp 33) (.tmp 35)), none⟩,
      ⟨some 37, (.indexAddrA 4 1 (.tmp 7) (.const (.int .i64 0))), none⟩,
      ⟨some 38, (.load none (.tmp 37)), none⟩,
      ⟨some 39, (.un .xor (.tmp 38)), none⟩,
      ⟨some 40, (.indexAddrA 4 1 (.tmp 7) (.const (.int .i64 2))), none⟩,
      ⟨some 41, (.load none (.tmp 40)), none⟩,
      ⟨some 42, (.bin .and (.tmp 39) (.tmp 41)), none⟩,
      ⟨some 43, (.bin .xor (.tmp 36) (.tmp 42)), none⟩,
      ⟨some 44, (.bin .add (.tmp 31) (.tmp 43)), none⟩,
      ⟨some 45, (.mov (.tmp 9)), none⟩,
      ⟨some 46, (.bin .add (.tmp 44) (.tmp 45)), none⟩,
      ⟨some 47, (.mov (.tmp 8)), none⟩,
      ⟨some 48, (.indexAddrA 64 1 (.tmp 5) (.tmp 47)), none⟩,
      ⟨some 49, (.load none (.tmp 48)), none⟩,
      ⟨some 50, (.bin .add (.tmp 46) (.tmp 49)), none⟩,
      ⟨some 10, (.mov (.tmp 50)), none⟩])
    (.seq (.region (some ([(2, 4), (2, 6), (2, 9), (2, 11), (2, 15), (2, 17)], [])) 0 [⟨some 51, (.indexAddrA 4 1 (.tmp 6) (.const (.int .i64 0))), none⟩,
      ⟨some 52, (.load none (.tmp 51)), none⟩,
      ⟨some 53, (.call (.fn 91) [(.tmp 52), (.const (.int .i64 2)), (.const (.int .i64 13)), (.const (.int .i64 22))] [] none), none⟩,
      ⟨some 54, (.indexAddrA 4 1 (.tmp 6) (.const (.int .i64 0))), none⟩,
      ⟨some 55, (.load none (.tmp 54)), none⟩,
      ⟨some 56, (.indexAddrA 4 1 (.tmp 6) (.const (.int .i64 1))), none⟩,
      ⟨some 57, (.load none (.tmp 56)), none⟩,
      ⟨some 58, (.bin .and (.tmp 55) (.tmp 57)), none⟩,
      ⟨some 59, (.indexAddrA 4 1 (.tmp 6) (.const (.int .i64 0))), none⟩,
      ⟨some 60, (.load none (.tmp 59)), none⟩,
      ⟨some 61, (.indexAddrA 4 1 (.tmp 6) (.const (.int .i64 2))), none⟩,
      ⟨some 62, (.load none (.tmp 61)), none⟩,
      ⟨some 63, (.bin .and (.tmp 60) (.tmp 62)), none⟩,
      ⟨some 64, (.bin .xor (.tmp 58) (.tmp 63)), none⟩,
      ⟨some 65, (.indexAddrA 4 1 (.tmp 6) (.const (.int .i64 1))), none⟩,
      ⟨some 66, (.load none (.tmp 65)), none⟩,
      ⟨some 67, (.indexAddrA 4 1 (.tmp 6) (.const (.int .i64 2))), none⟩,
      ⟨some 68, (.load none (.tmp 67)), none⟩,
      ⟨some 69, (.bin .and (.tmp 66) (.tmp 68)), none⟩,
      ⟨some 70, (.bin .xor (.tmp 64) (.tmp 69)), none⟩,
      ⟨some 71, (.bin .add (.tmp 53) (.tmp 70)), none⟩,
      ⟨some 11, (.mov (.tmp 71)), none⟩])
    (.seq (.region none 0 [⟨some 72, (.indexAddrA 4 1 (.tmp 6) (.const (.int .i64 3))), none⟩,
      ⟨some 73, (.load none (.tmp 72)), none⟩,
      ⟨some 74, (.mov (.tmp 10)), none⟩,
      ⟨some 75, (.bin .add (.tmp 73) (.tmp 74)), none⟩,
      ⟨some 76, (.indexAddrA 4 1 (.tmp 7) (.const (.int .i64 0))), none⟩,
      ⟨some 77, (.load none (.tmp 76)), none⟩,
      ⟨some 78, (.indexAddrA 4 1 (.tmp 7) (.const (.int .i64 1))), none⟩,
      ⟨some 79, (.load none (.tmp 78)), none⟩,
      ⟨some 80, (.indexAddrA 4 1 (.tmp 7) (.const (.int .i64 2))), none⟩,
      ⟨some 81, (.load none (.tmp 80)), none⟩,
      ⟨some 82, (.build [.int .u32 0, .int .u32 0, .int .u32 0, .int .u32 0] [(0, 1, (.tmp 75)), (1, 1, (.tmp 77)), (2, 1, (.tmp 79)), (3, 1, (.tmp 81))]), none⟩,
      ⟨none, (.store 4 (.tmp 7) (.tmp 82)), none⟩])
    (.region none 0 [⟨some 83, (.mov (.tmp 10)), none⟩,
      ⟨some 84, (.mov (.tmp 11)), none⟩,
      ⟨some 85, (.bin .add (.tmp 83) (.tmp 84)), none⟩,
      ⟨some 86, (.indexAddrA 4 1 (.tmp 6) (.const (.int .i64 0))), none⟩,
      ⟨some 87, (.load none (.tmp 86)), none⟩,
      ⟨some 88, (.indexAddrA 4 1 (.tmp 6) (.const (.int .i64 1))), none⟩,
      ⟨some 89, (.load none (.tmp 88)), none⟩,
      ⟨some 90, (.indexAddrA 4 1 (.tmp 6) (.const (.int .i64 2))), none⟩,
      ⟨some 91, (.load none (.tmp 90)), none⟩,
      ⟨some 92, (.build [.int .u32 0, .int .u32 0, .int .u32 0, .int .u32 0] [(0, 1, (.tmp 85)), (1, 1, (.tmp 87)), (2, 1, (.tmp 89)), (3, 1, (.tmp 91))]), none⟩,
      ⟨none, (.store 4 (.tmp 6) (.tmp 92)), none⟩]))))))
    (.region none 0 [⟨some 93, (.bin .add (.tmp 22) (.const (.int .i64 1))), none⟩,
      ⟨some 22, (.mov (.tmp 93)), none⟩])))))))
    (.seq (.seq (.region none 0 [⟨some 94, (.mov (.const (.int .i64 0))), none⟩])
    (.block 2 (.loop (.seq (.region none 0 [⟨some 95, (.bin .lss (.tmp 94) (.const (.int .i64 4))), none⟩])
    (.seq (.cond (.tmp 95) .skip
    (.exit 2))
    (.seq (.block 3 (.seq (.region none 0 [⟨some 96, (.mov (.tmp 94)), none⟩,
      ⟨some 12, (.mov (.tmp 96)), none⟩])
    (.seq (.region (some ([], [])) 0 [⟨some 97, (.mov (.tmp 12)), none⟩,
      ⟨some 98, (.indexAddrA 8 1 (.tmp 2) (.tmp 97)), none⟩,
      ⟨some 99, (.load none (.tmp 98)), none⟩,
      ⟨some 100, (.mov (.tmp 12)), none⟩,
      ⟨some 101, (.indexAddrA 4 1 (.tmp 6) (.tmp 100)), none⟩,
      ⟨some 102, (.load none (.tmp 101)), none⟩,
      ⟨some 103, (.bin .add (.tmp 99) (.tmp 102)), none⟩,
      ⟨some 104, (.indexAddrA 8 1 (.tmp 2) (.tmp 97)), none⟩,
      ⟨none, (.store 1 (.tmp 104) (.tmp 103)), none⟩])
    (.region (some ([], [])) 0 [⟨some 105, (.mov (.tmp 12)), none⟩,
      ⟨some 106, (.bin .add (.tmp 105) (.const (.int .i64 4))), none⟩,
      ⟨some 107, (.indexAddrA 8 1 (.tmp 2) (.tmp 106)), none⟩,
      ⟨some 108, (.load none (.tmp 107)), none⟩,
      ⟨some 109, (.mov (.tmp 12)), none⟩,
      ⟨some 110, (.indexAddrA 4 1 (.tmp 7) (.tmp 109)), none⟩,
      ⟨some 111, (.load none (.tmp 110)), none⟩,
      ⟨some 112, (.bin .add (.tmp 108) (.tmp 111)), none⟩,
      ⟨some 113, (.indexAddrA 8 1 (.tmp 2) (.tmp 106)), none⟩,
      ⟨none, (.store 1 (.tmp 113) (.tmp 112)), none⟩]))))
    (.region none 0 [⟨some 114, (.bin .add (.tmp 94) (.const (.int .i64 1))), none⟩,
      ⟨some 94, (.mov (.tmp 114)), none⟩])))))))
    (.seq (.region none 0 [⟨some 115, (.load (some 8) (.tmp 2)), none⟩,
      ⟨none, (.store 8 (.tmp 4) (.tmp 115)), none⟩])
    .ret))))))⟩

/-- splicery/hash.Mac$1 -/
def m51 : MF := ⟨2, 21, [.tmp 3],
  (.seq (.region none 0 [⟨some 3, (.mov (.const (.str []))), none⟩])
    (.seq (.region none 1 [⟨some 4, (.alloc 0 ((List.replicate 64 (0 : Int)).map (V.int .u8))), none⟩])
    (.seq (.region (some ([], [])) 0 [⟨some 6, (.sliceA 64 1 (.tmp 4) none none), none⟩,
      ⟨some 7, (.load none (.tmp 1)), none⟩,
      ⟨some 8, (.copy 1 (.tmp 6) (.tmp 7)), none⟩])
    (.seq (.seq (.region none 0 [⟨some 9, (.mov (.const (.int .i64 0))), none⟩])
    (.block 0 (.loop (.seq (.region none 0 [⟨some 10, (.bin .lss (.tmp 9) (.const (.int .i64 64))), none⟩])
    (.seq (.cond (.tmp 10) .skip
    (.exit 0))
    (.seq (.block 1 (.seq (.region none 0 [⟨some 11, (.mov (.tmp 9)), none⟩,
      ⟨some 5, (.mov (.tmp 11)), none⟩])
    (.region none 0 [⟨some 12, (.mov (.tmp 5)), none⟩,
      ⟨some 13, (.indexAddrA 64 1 (.tmp 4) (.tmp 12)), none⟩,
      ⟨some 14, (.load none (.tmp 13)), none⟩,
      ⟨some 15, (.mov (.tmp 0)), none⟩,
      ⟨some 16, (.bin .xor (.tmp 14) (.tmp 15)), none⟩,
      ⟨some 17, (.indexAddrA 64 1 (.tmp 4) (.tmp 12)), none⟩,
      ⟨none, (.store 1 (.tmp 17) (.tmp 16)), none⟩])))
    (.region none 0 [⟨some 18, (.bin .add (.tmp 9) (.const (.int .i64 1))), none⟩,
      ⟨some 9, (.mov (.tmp 18)), none⟩])))))))
    (.seq (.region none 0 [⟨some 19, (.sliceA 64 1 (.tmp 4) none none), none⟩,
      ⟨some 20, (.convStr (.tmp 19)), none⟩,
      ⟨some 3, (.mov (.tmp 20)), none⟩])
    .ret)))))⟩

/-- splicery/spliceryref02.padKey -/
def m52 : MF := ⟨2, 35, [.tmp 4],
  (.seq (.region none 0 [⟨some 4, (.mov (.const (.nils 1))), none⟩])
    (.seq (.region none 0 [⟨some 9, (.mov (.tmp 0)), none⟩,
      ⟨some 5, (.mov (.tmp 9)), none⟩])
    (.seq (.seq (.region none 0 [⟨some 10, (.mov (.tmp 0)), none⟩,
      ⟨some 11, (.lenS (.tmp 10)), none⟩,
      ⟨some 12, (.bin .gtr (.tmp 11) (.const (.int .i64 64))), none⟩])
    (.cond (.tmp 12) (.region none 0 [⟨some 13, (.mov (.tmp 0)), none⟩,
      ⟨some 14, (.convBytes (.tmp 13)), none⟩,
      ⟨some 15, (.call (.fn 16) [(.tmp 14)] [] none), none⟩,
      ⟨some 16, (.call (.fn 24) [(.tmp 15)] [] none), none⟩,
      ⟨some 5, (.mov (.tmp 16)), none⟩])
    .skip))
    (.seq (.region none 0 [⟨some 6, (.mov (.const (.nils 1))), none⟩])
    (.seq (.seq (.region none 0 [⟨some 7, (.mov (.const (.int .i64 0))), none⟩])
    (.block 0 (.loop (.seq (.seq (.region none 0 [⟨some 17, (.mov (.tmp 7)), none⟩,
      ⟨some 18, (.bin .lss (.tmp 17) (.const (.int .i64 64))), none⟩])
    (.cond (.tmp 18) .skip
    (.exit 0)))
    (.seq (.block 1 (.seq (.region none 0 [⟨some 8, (.mov (.const (.int .u8 0))), none⟩])
    (.seq (.seq (.region none 0 [⟨some 21, (.mov (.tmp 7)), none⟩,
      ⟨some 22, (.mov (.tmp 5)), none⟩,
      ⟨some 23, (.lenS (.tmp 22)), none⟩,
      ⟨some 24, (.bin .lss (.tmp 21) (.tmp 23)), none⟩])
    (.cond (.tmp 24) (.region none 0 [⟨some 25, (.mov (.tmp 5)), none⟩,
      ⟨some 26, (.mov (.tmp 7)), none⟩,
      ⟨some 27, (.indexS (.tmp 25) (.tmp 26)), none⟩,
      ⟨some 8, (.mov (.tmp 27)), none⟩])
    .skip))
    (.region none 1 [⟨some 28, (.mov (.tmp 6)), none⟩,
      ⟨some 29, (.mov (.tmp 8)), none⟩,
      ⟨some 30, (.mov (.tmp 1)), none⟩,
      ⟨some 31, (.bin .xor (.tmp 29) (.tmp 30)), none⟩,
      ⟨some 32, (.ilit 1 [[.int .u8 0]] [(0, (.tmp 31))]), none⟩,
      ⟨some 33, (.append 0 1 1 (.tmp 28) (.tmp 32)), none⟩,
      ⟨some 6, (.mov (.tmp 33)), none⟩]))))
    (.region none 0 [⟨some 19, (.mov (.tmp 7)), none⟩,
      ⟨some 20, (.bin .add (.tmp 19) (.const (.int .i64 1))), none⟩,
      ⟨some 7, (.mov (.tmp 20)), none⟩]))))))
    (.seq (.region none 0 [⟨some 34, (.mov (.tmp 6)), none⟩,
      ⟨some 4, (.mov (.tmp 34)), none⟩])
    .ret))))))⟩

/-- splicery/spliceryref02.Short -/
def m53 : MF := ⟨1, 19, [.cell 2 (some 16)],
  (.seq (.region none 1 [⟨some 2, (.alloc 0 ((List.replicate 16 (0 : Int)).map (V.int .u8))), none⟩])
    (.seq (.region none 1 [⟨some 6, (.mov (.tmp 0)), none⟩,
      ⟨some 7, (.call (.fn 16) [(.tmp 6)] [] none), none⟩,
      ⟨some 3, (.alloc 0 ((List.replicate 32 (0 : Int)).map (V.int .u8))), none⟩,
      ⟨none, (.store 32 (.tmp 3) (.tmp 7)), none⟩])
    (.seq (.region none 1 [⟨some 8, (.build ((List.replicate 16 (0 : Int)).map (V.int .u8)) []), none⟩,
      ⟨some 4, (.alloc 0 ((List.replicate 16 (0 : Int)).map (V.int .u8))), none⟩,
      ⟨none, (.store 16 (.tmp 4) (.tmp 8)), none⟩])
    (.seq (.seq (.region none 0 [⟨some 5, (.mov (.const (.int .i64 0))), none⟩])
    (.block 0 (.loop (.seq (.seq (.region none 0 [⟨some 9, (.mov (.tmp 5)), none⟩,
      ⟨some 10, (.bin .lss (.tmp 9) (.const (.int .i64 16))), none⟩])
    (.cond (.tmp 10) .skip
    (.exit 0)))
    (.seq (.block 1 (.region none 0 [⟨some 13, (.mov (.tmp 5)), none⟩,
      ⟨some 14, (.mov (.tmp 5)), none⟩,
      ⟨some 15, (.indexAddrA 32 1 (.tmp 3) (.tmp 14)), none⟩,
      ⟨some 16, (.load none (.tmp 15)), none⟩,
      ⟨some 17, (.indexAddrA 16 1 (.tmp 4) (.tmp 13)), none⟩,
      ⟨none, (.store 1 (.tmp 17) (.tmp 16)), none⟩]))
    (.region none 0 [⟨some 11, (.mov (.tmp 5)), none⟩,
      ⟨some 12, (.bin .add (.tmp 11) (.const (.int .i64 1))), none⟩,
      ⟨some 5, (.mov (.tmp 12)), none⟩]))))))
    (.seq (.region none 0 [⟨some 18, (.load (some 16) (.tmp 4)), none⟩,
      ⟨none, (.store 16 (.tmp 2) (.tmp 18)), none⟩])
    .ret)))))⟩

/-- splicery/spliceryref01.Bytes -/
def m54 : MF := ⟨1, 9, [.tmp 2],
  (.seq (.region none 0 [⟨some 2, (.mov (.const (.nils 1))), none⟩])
    (.seq (.region none 2 [⟨some 3, (.mov (.tmp 0)), none⟩,
      ⟨some 4, (.lenS (.tmp 3)), none⟩,
      ⟨some 5, (.call (.fn 92) [(.tmp 4)] [] (some 0)), none⟩,
      ⟨some 6, (.mov (.tmp 0)), none⟩,
      ⟨some 7, (.convBytes (.tmp 6)), none⟩,
      ⟨some 8, (.append 1 1 1 (.tmp 5) (.tmp 7)), none⟩,
      ⟨some 2, (.mov (.tmp 8)), none⟩])
    .ret))⟩

/-- splicery/wire.Int -/
def m64 : MF := ⟨1, 47, [.tmp 2],
  (.seq (.region none 0 [⟨some 2, (.mov (.const (.nils 1))), none⟩])
    (.scope (.seq (.region none 0 [⟨some 8, (.mov (.tmp 0)), none⟩,
      ⟨some 9, (.convInt .u64 (.tmp 8)), none⟩,
      ⟨some 3, (.mov (.tmp 9)), none⟩,
      ⟨some 4, (.mov (.const (.int .u8 0))), none⟩])
    (.seq (.seq (.region none 0 [⟨some 10, (.mov (.tmp 0)), none⟩,
      ⟨some 11, (.bin .lss (.tmp 10) (.const (.int .i64 0))), none⟩])
    (.cond (.tmp 11) (.region none 0 [⟨some 12, (.mov (.tmp 3)), none⟩,
      ⟨some 13, (.un .xor (.tmp 12)), none⟩,
      ⟨some 3, (.mov (.tmp 13)), none⟩,
      ⟨some 4, (.mov (.const (.int .u8 255))), none⟩])
    .skip))
    (.seq (.region none 0 [⟨some 5, (.mov (.const (.int .i64 8))), none⟩])
    (.seq .skip
    (.seq (.block 0 (.loop (.seq (.seq (.region none 0 [⟨some 14, (.mov (.tmp 5)), none⟩,
      ⟨some 15, (.bin .gtr (.tmp 14) (.const (.int .i64 0))), none⟩])
    (.cond (.tmp 15) .skip
    (.exit 0)))
    (.block 1 (.seq (.seq (.region none 0 [⟨some 16, (.mov (.tmp 3)), none⟩,
      ⟨some 17, (.mov (.tmp 5)), none⟩,
      ⟨some 18, (.bin .sub (.tmp 17) (.const (.int .i64 1))), none⟩,
      ⟨some 19, (.bin .mul (.const (.int .i64 8)) (.tmp 18)), none⟩,
      ⟨some 20, (.bin .shr (.tmp 16) (.tmp 19)), none⟩,
      ⟨some 21, (.bin .gtr (.tmp 20) (.const (.int .u64 0))), none⟩])
    (.cond (.tmp 21) (.exit 0)
    .skip))
    (.region none 0 [⟨some 22, (.mov (.tmp 5)), none⟩,
      ⟨some 23, (.bin .sub (.tmp 22) (.const (.int .i64 1))), none⟩,
      ⟨some 5, (.mov (.tmp 23)), none⟩]))))))
    (.seq (.region none 1 [⟨some 24, (.mov (.tmp 5)), none⟩,
      ⟨some 25, (.bin .add (.const (.int .i64 128)) (.tmp 24)), none⟩,
      ⟨some 26, (.convInt .u8 (.tmp 25)), none⟩,
      ⟨some 27, (.mov (.tmp 4)), none⟩,
      ⟨some 28, (.bin .xor (.tmp 26) (.tmp 27)), none⟩,
      ⟨some 29, (.lit 0 1 [[.int .u8 0]] [(0, (.tmp 28))]), none⟩,
      ⟨some 6, (.mov (.tmp 29)), none⟩])
    (.seq (.seq (.region none 0 [⟨some 30, (.mov (.tmp 5)), none⟩,
      ⟨some 31, (.bin .sub (.tmp 30) (.const (.int .i64 1))), none⟩,
      ⟨some 7, (.mov (.tmp 31)), none⟩])
    (.block 2 (.loop (.seq (.seq (.region none 0 [⟨some 32, (.mov (.tmp 7)), none⟩,
      ⟨some 33, (.bin .geq (.tmp 32) (.const (.int .i64 0))), none⟩])
    (.cond (.tmp 33) .skip
    (.exit 2)))
    (.seq (.block 3 (.region none 1 [⟨some 36, (.mov (.tmp 6)), none⟩,
      ⟨some 37, (.mov (.tmp 3)), none⟩,
      ⟨some 38, (.mov (.tmp 7)), none⟩,
      ⟨some 39, (.bin .mul (.const (.int .i64 8)) (.tmp 38)), none⟩,
      ⟨some 40, (.bin .shr (.tmp 37) (.tmp 39)), none⟩,
      ⟨some 41, (.convInt .u8 (.tmp 40)), none⟩,
      ⟨some 42, (.mov (.tmp 4)), none⟩,
      ⟨some 43, (.bin .xor (.tmp 41) (.tmp 42)), none⟩,
      ⟨some 44, (.ilit 1 [[.int .u8 0]] [(0, (.tmp 43))]), none⟩,
      ⟨some 45, (.append 0 1 1 (.tmp 36) (.tmp 44)), none⟩,
      ⟨some 6, (.mov (.tmp 45)), none⟩]))
    (.region none 0 [⟨some 34, (.mov (.tmp 7)), none⟩,
      ⟨some 35, (.bin .sub (.tmp 34) (.const (.int .i64 1))), none⟩,
      ⟨some 7, (.mov (.tmp 35)), none⟩]))))))
    (.seq (.region none 0 [⟨some 46, (.mov (.tmp 6)), none⟩,
      ⟨some 2, (.mov (.tmp 46)), none⟩])
    .ret))))))))))⟩

/-- splicery/hash.schedule -/
def m90 : MF := ⟨1, 79, [.cell 2 (some 64)],
  (.seq (.region none 1 [⟨some 2, (.alloc 0 ((List.replicate 64 (0 : Int)).map (V.int .u32))), none⟩])
    (.seq (.region none 1 [⟨some 3, (.alloc 0 ((List.replicate 64 (0 : Int)).map (V.int .u32))), none⟩])
    (.seq (.seq (.region none 0 [⟨some 11, (.mov (.const (.int .i64 0))), none⟩])
    (.block 0 (.loop (.seq (.region none 0 [⟨some 12, (.bin .lss (.tmp 11) (.const (.int .i64 64))), none⟩])
    (.seq (.cond (.tmp 12) .skip
    (.exit 0))
    (.seq (.block 1 (.seq (.region none 0 [⟨some 13, (.mov (.tmp 11)), none⟩,
      ⟨some 4, (.mov (.tmp 13)), none⟩])
    (.seq (.seq (.region none 0 [⟨some 14, (.mov (.tmp 4)), none⟩,
      ⟨some 15, (.bin .lss (.tmp 14) (.const (.int .i64 16))), none⟩])
    (.cond (.tmp 15) (.seq (.seq (.region none 0 [⟨some 16, (.mov (.tmp 0)), none⟩,
      ⟨some 17, (.mov (.tmp 4)), none⟩,
      ⟨some 18, (.bin .mul (.const (.int .i64 4)) (.tmp 17)), none⟩,
      ⟨some 19, (.mov (.tmp 4)), none⟩,
      ⟨some 20, (.bin .mul (.const (.int .i64 4)) (.tmp 19)), none⟩,
      ⟨some 21, (.bin .add (.tmp 20) (.const (.int .i64 4))), none⟩,
      ⟨some 22, (.sliceL 1 (.tmp 16) (some (.tmp 18)) (some (.tmp 21))), none⟩,
      ⟨some 23, (.len (.tmp 22)), none⟩,
      ⟨some 24, (.mov (.const (.int .i64 0))), none⟩])
    (.block 2 (.loop (.seq (.region none 0 [⟨some 25, (.bin .lss (.tmp 24) (.tmp 23)), none⟩])
    (.seq (.cond (.tmp 25) .skip
    (.exit 2))
    (.seq (.block 3 (.seq (.region none 0 [⟨some 26, (.indexAddrL 1 (.tmp 22) (.tmp 24)), none⟩,
      ⟨some 27, (.load none (.tmp 26)), none⟩,
      ⟨some 6, (.mov (.tmp 27)), none⟩])
    (.region none 0 [⟨some 28, (.mov (.tmp 4)), none⟩,
      ⟨some 29, (.mov (.tmp 4)), none⟩,
      ⟨some 30, (.indexAddrA 64 1 (.tmp 3) (.tmp 29)), none⟩,
      ⟨some 31, (.load none (.tmp 30)), none⟩,
      ⟨some 32, (.bin .shl (.tmp 31) (.const (.int .u64 8))), none⟩,
      ⟨some 33, (.mov (.tmp 6)), none⟩,
      ⟨some 34, (.convInt .u32 (.tmp 33)), none⟩,
      ⟨some 35, (.bin .or (.tmp 32) (.tmp 34)), none⟩,
      ⟨some 36, (.indexAddrA 64 1 (.tmp 3) (.tmp 28)), none⟩,
      ⟨none, (.store 1 (.tmp 36) (.tmp 35)), none⟩])))
    (.region none 0 [⟨some 37, (.bin .add (.tmp 24) (.const (.int .i64 1))), none⟩,
      ⟨some 24, (.mov (.tmp 37)), none⟩])))))))
    (.exit 1))
    .skip))
    (.seq (.region (some ([], [])) 0 [⟨some 38, (.mov (.tmp 4)), none⟩,
      ⟨some 39, (.bin .sub (.tmp 38) (.const (.int .i64 15))), none⟩,
      ⟨some 40, (.indexAddrA 64 1 (.tmp 3) (.tmp 39)), none⟩,
      ⟨some 41, (.load none (.tmp 40)), none⟩,
      ⟨some 42, (.mov (.tmp 4)), none⟩,
      ⟨some 43, (.bin .sub (.tmp 42) (.const (.int .i64 2))), none⟩,
      ⟨some 44, (.indexAddrA 64 1 (.tmp 3) (.tmp 43)), none⟩,
      ⟨some 45, (.load none (.tmp 44)), none⟩,
      ⟨some 7, (.mov (.tmp 41)), none⟩,
      ⟨some 8, (.mov (.tmp 45)), none⟩])
    (.seq (.region none 0 [⟨some 46, (.mov (.tmp 7)), none⟩,
      ⟨some 47, (.call (.fn 111) [(.tmp 46), (.const (.int .i64 (-7)))] [] none), none⟩,
      ⟨some 48, (.mov (.tmp 7)), none⟩,
      ⟨some 49, (.call (.fn 111) [(.tmp 48), (.const (.int .i64 (-18)))] [] none), none⟩,
      ⟨some 50, (.bin .xor (.tmp 47) (.tmp 49)), none⟩,
      ⟨some 51, (.mov (.tmp 7)), none⟩,
      ⟨some 52, (.bin .shr (.tmp 51) (.const (.int .u64 3))), none⟩,
      ⟨some 53, (.bin .xor (.tmp 50) (.tmp 52)), none⟩,
      ⟨some 9, (.mov (.tmp 53)), none⟩])
    (.seq (.region none 0 [⟨some 54, (.mov (.tmp 8)), none⟩,
      ⟨some 55, (.call (.fn 111) [(.tmp 54), (.const (.int .i64 (-17)))] [] none), none⟩,
      ⟨some 56, (.mov (.tmp 8)), none⟩,
      ⟨some 57, (.call (.fn 111) [(.tmp 56), (.const (.int .i64 (-19)))] [] none), none⟩,
      ⟨some 58, (.bin .xor (.tmp 55) (.tmp 57)), none⟩,
      ⟨some 59, (.mov (.tmp 8)), none⟩,
      ⟨some 60, (.bin .shr (.tmp 59) (.const (.int .u64 10))), none⟩,
      ⟨some 61, (.bin .xor (.tmp 58) (.tmp 60)), none⟩,
      ⟨some 10, (.mov (.tmp 61)), none⟩])
    (.region (some ([], [])) 0 [⟨some 62, (.mov (.tmp 4)), none⟩,
      ⟨some 63, (.mov (.tmp 4)), none⟩,
      ⟨some 64, (.bin .sub (.tmp 63) (.const (.int .i64 16))), none⟩,
      ⟨some 65, (.indexAddrA 64 1 (.tmp 3) (.tmp 64)), none⟩,
      ⟨some 66, (.load none (.tmp 65)), none⟩,
      ⟨some 67, (.mov (.tmp 9)), none⟩,
      ⟨some 68, (.bin .add (.tmp 66) (.tmp 67)), none⟩,
      ⟨some 69, (.mov (.tmp 4)), none⟩,
      ⟨some 70, (.bin .sub (.tmp 69) (.const (.int .i64 7))), none⟩,
      ⟨some 71, (.indexAddrA 64 1 (.tmp 3) (.tmp 70)), none⟩,
      ⟨some 72, (.load none (.tmp 71)), none⟩,
      ⟨some 73, (.bin .add (.tmp 68) (.tmp 72)), none⟩,
      ⟨some 74, (.mov (.tmp 10)), none⟩,
      ⟨some 75, (.bin .add (.tmp 73) (.tmp 74)), none⟩,
      ⟨some 76, (.indexAddrA 64 1 (.tmp 3) (.tmp 62)), none⟩,
      ⟨none, (.store 1 (.tmp 76) (.tmp 75)), none⟩])))))))
    (.region none 0 [⟨some 77, (.bin .add (.tmp 11) (.const (.int .i64 1))), none⟩,
      ⟨some 11, (.mov (.tmp 77)), none⟩])))))))
    (.seq (.region none 0 [⟨some 78, (.load (some 64) (.tmp 3)), none⟩,
      ⟨none, (.store 64 (.tmp 2) (.tmp 78)), none⟩])
    .ret))))⟩

/-- splicery/hash.mix -/
def m91 : MF := ⟨4, 23, [.tmp 8],
  (.seq (.region none 0 [⟨some 8, (.mov (.const (.int .u32 0))), none⟩])
    (.seq (.region none 0 [⟨some 9, (.mov (.tmp 0)), none⟩,
      ⟨some 10, (.mov (.tmp 1)), none⟩,
      ⟨some 11, (.un .neg (.tmp 10)), none⟩,
      ⟨some 12, (.call (.fn 111) [(.tmp 9), (.tmp 11)] [] none), none⟩,
      ⟨some 13, (.mov (.tmp 0)), none⟩,
      ⟨some 14, (.mov (.tmp 2)), none⟩,
      ⟨some 15, (.un .neg (.tmp 14)), none⟩,
      ⟨some 16, (.call (.fn 111) [(.tmp 13), (.tmp 15)] [] none), none⟩,
      ⟨some 17, (.bin .xor (.tmp 12) (.tmp 16)), none⟩,
      ⟨some 18, (.mov (.tmp 0)), none⟩,
      ⟨some 19, (.mov (.tmp 3)), none⟩,
      ⟨some 20, (.un .neg (.tmp 19)), none⟩,
      ⟨some 21, (.call (.fn 111) [(.tmp 18), (.tmp 20)] [] none), none⟩,
      ⟨some 22, (.bin .xor (.tmp 17) (.tmp 21)), none⟩,
      ⟨some 8, (.mov (.tmp 22)), none⟩])
    .ret))⟩

/-- splicery/spliceryref01.Int -/
def m92 : MF := ⟨1, 59, [.tmp 2],
  (.seq (.region none 0 [⟨some 2, (.mov (.const (.nils 1))), none⟩])
    (.seq (.region none 0 [⟨some 9, (.mov (.tmp 0)), none⟩,
      ⟨some 3, (.mov (.tmp 9)), none⟩])
    (.seq (.seq (.region none 0 [⟨some 10, (.mov (.tmp 0)), none⟩,
      ⟨some 11, (.bin .lss (.tmp 10) (.const (.int .i64 0))), none⟩])
    (.cond (.tmp 11) (.region none 0 [⟨some 12, (.mov (.tmp 0)), none⟩,
      ⟨some 13, (.bin .sub (.const (.int .i64 (-1))) (.tmp 12)), none⟩,
      ⟨some 3, (.mov (.tmp 13)), none⟩])
    .skip))
    (.seq (.region none 0 [⟨some 4, (.mov (.const (.nils 1))), none⟩])
    (.seq (.block 0 (.loop (.seq (.seq (.region none 0 [⟨some 14, (.mov (.tmp 3)), none⟩,
      ⟨some 15, (.bin .gtr (.tmp 14) (.const (.int .i64 0))), none⟩])
    (.cond (.tmp 15) .skip
    (.exit 0)))
    (.block 1 (.seq (.region none 1 [⟨some 16, (.mov (.tmp 4)), none⟩,
      ⟨some 17, (.mov (.tmp 3)), none⟩,
      ⟨some 18, (.bin .rem (.tmp 17) (.const (.int .i64 256))), none⟩,
      ⟨some 19, (.convInt .u8 (.tmp 18)), none⟩,
      ⟨some 20, (.ilit 1 [[.int .u8 0]] [(0, (.tmp 19))]), none⟩,
      ⟨some 21, (.append 0 1 1 (.tmp 16) (.tmp 20)), none⟩,
      ⟨some 4, (.mov (.tmp 21)), none⟩])
    (.region none 0 [⟨some 22, (.mov (.tmp 3)), none⟩,
      ⟨some 23, (.bin .quo (.tmp 22) (.const (.int .i64 256))), none⟩,
      ⟨some 3, (.mov (.tmp 23)), none⟩]))))))
    (.seq (.region none 0 [⟨some 24, (.mov (.tmp 4)), none⟩,
      ⟨some 25, (.len (.tmp 24)), none⟩,
      ⟨some 5, (.mov (.tmp 25)), none⟩])
    (.seq (.region none 0 [⟨some 6, (.mov (.const (.nils 1))), none⟩])
    (.seq (.seq (.region none 0 [⟨some 26, (.mov (.tmp 0)), none⟩,
      ⟨some 27, (.bin .geq (.tmp 26) (.const (.int .i64 0))), none⟩])
    (.cond (.tmp 27) (.region none 1 [⟨some 28, (.mov (.tmp 6)), none⟩,
      ⟨some 29, (.mov (.tmp 5)), none⟩,
      ⟨some 30, (.bin .add (.const (.int .i64 128)) (.tmp 29)), none⟩,
      ⟨some 31, (.convInt .u8 (.tmp 30)), none⟩,
      ⟨some 32, (.ilit 1 [[.int .u8 0]] [(0, (.tmp 31))]), none⟩,
      ⟨some 33, (.append 0 1 1 (.tmp 28) (.tmp 32)), none⟩,
      ⟨some 6, (.mov (.tmp 33)), none⟩])
    (.region none 1 [⟨some 34, (.mov (.tmp 6)), none⟩,
      ⟨some 35, (.mov (.tmp 5)), none⟩,
      ⟨some 36, (.bin .sub (.const (.int .i64 127)) (.tmp 35)), none⟩,
      ⟨some 37, (.convInt .u8 (.tmp 36)), none⟩,
      ⟨some 38, (.ilit 1 [[.int .u8 0]] [(0, (.tmp 37))]), none⟩,
      ⟨some 39, (.append 0 1 1 (.tmp 34) (.tmp 38)), none⟩,
      ⟨some 6, (.mov (.tmp 39)), none⟩])))
    (.seq (.seq (.region none 0 [⟨some 40, (.mov (.tmp 5)), none⟩,
      ⟨some 41, (.bin .sub (.tmp 40) (.const (.int .i64 1))), none⟩,
      ⟨some 7, (.mov (.tmp 41)), none⟩])
    (.block 2 (.loop (.seq (.seq (.region none 0 [⟨some 42, (.mov (.tmp 7)), none⟩,
      ⟨some 43, (.bin .geq (.tmp 42) (.const (.int .i64 0))), none⟩])
    (.cond (.tmp 43) .skip
    (.exit 2)))
    (.seq (.block 3 (.seq (.region none 0 [⟨some 46, (.mov (.tmp 4)), none⟩,
      ⟨some 47, (.mov (.tmp 7)), none⟩,
      ⟨some 48, (.indexAddrL 1 (.tmp 46) (.tmp 47)), none⟩,
      ⟨some 49, (.load none (.tmp 48)), none⟩,
      ⟨some 8, (.mov (.tmp 49)), none⟩])
    (.seq (.seq (.region none 0 [⟨some 50, (.mov (.tmp 0)), none⟩,
      ⟨some 51, (.bin .lss (.tmp 50) (.const (.int .i64 0))), none⟩])
    (.cond (.tmp 51) (.region none 0 [⟨some 52, (.mov (.tmp 8)), none⟩,
      ⟨some 53, (.bin .sub (.const (.int .u8 255)) (.tmp 52)), none⟩,
      ⟨some 8, (.mov (.tmp 53)), none⟩])
    .skip))
    (.region none 1 [⟨some 54, (.mov (.tmp 6)), none⟩,
      ⟨some 55, (.mov (.tmp 8)), none⟩,
      ⟨some 56, (.ilit 1 [[.int .u8 0]] [(0, (.tmp 55))]), none⟩,
      ⟨some 57, (.append 0 1 1 (.tmp 54) (.tmp 56)), none⟩,
      ⟨some 6, (.mov (.tmp 57)), none⟩]))))
    (.region none 0 [⟨some 44, (.mov (.tmp 7)), none⟩,
      ⟨some 45, (.bin .sub (.tmp 44) (.const (.int .i64 1))), none⟩,
      ⟨some 7, (.mov (.tmp 45)), none⟩]))))))
    (.seq (.region none 0 [⟨some 58, (.mov (.tmp 6)), none⟩,
      ⟨some 2, (.mov (.tmp 58)), none⟩])
    .ret))))))))))⟩

/-- math/bits.RotateLeft32 -/
def m111 : MF := ⟨2, 17, [.tmp 4],
  (.seq (.region none 0 [⟨some 4, (.mov (.const (.int .u32 0))), none⟩])
    (.seq (.region none 0 [⟨some 6, (.mov (.tmp 1)), none⟩,
      ⟨some 7, (.convInt .u64 (.tmp 6)), none⟩,
      ⟨some 8, (.bin .and (.tmp 7) (.const (.int .u64 31))), none⟩,
      ⟨some 5, (.mov (.tmp 8)), none⟩])
    (.seq (.region none 0 [⟨some 9, (.mov (.tmp 0)), none⟩,
      ⟨some 10, (.mov (.tmp 5)), none⟩,
      ⟨some 11, (.bin .shl (.tmp 9) (.tmp 10)), none⟩,
      ⟨some 12, (.mov (.tmp 0)), none⟩,
      ⟨some 13, (.mov (.tmp 5)), none⟩,
      ⟨some 14, (.bin .sub (.const (.int .u64 32)) (.tmp 13)), none⟩,
      ⟨some 15, (.bin .shr (.tmp 12) (.tmp 14)), none⟩,
      ⟨some 16, (.bin .or (.tmp 11) (.tmp 15)), none⟩,
      ⟨some 4, (.mov (.tmp 16)), none⟩])
    .ret)))⟩
def tbl : List (Option MF) := [none, none, none, some m3, some m4, some m5, some m6, some m7, some m8, some m9, none, none, none, none, some m14, some m15, some m16, some m17, some m18, some m19, some m20, some m21, some m22, some m23, some m24, some m25, some m26, some m27, some m28, none, none, none, none, none, none, none, none, none, none, some m39, none, none, none, none, none, some m45, some m46, some m47, some m48, some m49, some m50, some m51, some m52, some m53, some m54, none, none, none, none, none, none, none, none, none, some m64, none, none, none, none, none, none, none, none, none, none, none, none, none, none, none, none, none, none, none, none, none, none, none, none, none, some m90, some m91, some m92, none, none, none, none, none, none, none, none, none, none, none, none, none, none, none, none, none, none, some m111, none, none, none, none, none, none, none, none, none, none, none, none, none, none, none, none, none, none, none, none, none, none, none, none, none, none, none, none, none, none, none]
def T (f : Nat) : Option MF := (tbl[f]?).join
end Go.Proofs.YtoccgkgdhobmfaaDoor.Am
