import Derived.Test.YtbmicihfhfcpkaaK15
set_option linter.unusedVariables false
namespace Go.Nac.L2
def c3 : CFunc := { nparams := 1, ntmps := 49, results := [(2, none)], body := (
 .seq (
  .seq (
  .region [⟨some 1, .box false 4 (.t 0), none⟩,
    ⟨some 2, .mov (.k (.bool false)), none⟩]) (.keep [1])) (
 .seq (
  .seq (
   .seq (
   .region [⟨some 7, .call false (.inr 5) [], none⟩,
     ⟨some 8, .un .not (.t 7), none⟩,
     ⟨some 9, .mov (.t 8), none⟩,
     ⟨some 10, .load (some 4) (.t 1), (some (9, false))⟩,
     ⟨some 11, .call false (.inr 6) [.t 10], (some (9, false))⟩,
     ⟨some 12, .un .not (.t 11), (some (9, false))⟩,
     ⟨some 13, .pick (.t 9) (.k (.bool true)) (.t 12), none⟩]) (.keep [1, 13])) (
  .cond (.t 13) (
   .seq (
    .seq (
    .region [⟨some 14, .call false (.inr 5) [], none⟩,
      ⟨some 2, .mov (.t 14), none⟩]) (.keep [2])) (
   .ret)) (
   .skip))) (
 .seq (
  .seq (
  .seq (.holes 2) (
  .regionD [(⟨some 16, .faddr 0 (.t 1), none⟩, none),
    (⟨some 17, .load none (.t 16), none⟩, none),
    (⟨some 18, .faddr 1 (.t 1), none⟩, none),
    (⟨some 19, .load none (.t 18), none⟩, none),
    (⟨some 20, .bsl true 1 [], none⟩, some 2),
    (⟨some 21, .faddr 2 (.t 1), none⟩, none),
    (⟨some 22, .load none (.t 21), none⟩, none),
    (⟨some 23, .append 1 4 (.t 20) (.t 22), none⟩, none),
    (⟨some 24, .bsl true 2 [], none⟩, some 1),
    (⟨some 25, .faddr 3 (.t 1), none⟩, none),
    (⟨some 26, .load none (.t 25), none⟩, none),
    (⟨some 27, .append 2 16 (.t 24) (.t 26), none⟩, none),
    (⟨some 28, .fz (.build [.string ⟨#[]⟩, .int .i64 0, .slice none 0 0, .slice none 0 0] [(0, 1, .t 17), (1, 1, .t 19), (2, 1, .t 23), (3, 1, .t 27)]), none⟩, none),
    (⟨some 29, .call false (.inr 7) [.t 28], none⟩, none),
    (⟨some 15, .mov (.t 29), none⟩, none),
    (⟨some 30, .ext 0 (.t 15), none⟩, none),
    (⟨some 31, .ext 1 (.t 15), none⟩, none),
    (⟨some 3, .mov (.t 30), none⟩, none),
    (⟨some 4, .mov (.t 31), none⟩, none)] [(0, 4), (1, 4), (2, 4), (3, 4), (4, 5), (4, 6), (0, 7), (1, 7), (2, 7), (3, 7), (0, 8), (1, 8), (2, 8), (3, 8), (4, 8), (5, 8), (6, 8), (7, 8), (4, 9), (7, 9), (8, 9), (4, 10), (7, 10), (8, 10), (0, 11), (1, 11), (2, 11), (3, 11)])) (.keep [1, 3, 4])) (
 .seq (
  .seq (
  .region [⟨some 32, .load (some 4) (.t 1), none⟩,
    ⟨some 33, .call false (.inr 8) [.t 32], none⟩,
    ⟨some 5, .mov (.t 33), none⟩]) (.keep [1, 3, 4, 5])) (
 .seq (
  .seq (
  .region [⟨some 6, .mov (.k (.slice none 0 0)), none⟩]) (.keep [1, 3, 4, 5, 6])) (
 .seq (
  .seq (
   .seq (
   .region [⟨some 34, .mov (.t 5), none⟩,
     ⟨some 35, .bin .eql (.t 34) (.k (.int .i64 0)), none⟩]) (.keep [1, 3, 4, 5, 6, 35])) (
  .cond (.t 35) (
   .seq (
   .region [⟨some 37, .load (some 4) (.t 1), none⟩,
     ⟨some 38, .call false (.inr 9) [.t 37], none⟩,
     ⟨some 36, .mov (.t 38), none⟩,
     ⟨some 39, .ext 0 (.t 36), none⟩,
     ⟨some 40, .ext 1 (.t 36), none⟩,
     ⟨some 6, .mov (.t 39), none⟩,
     ⟨some 5, .mov (.t 40), none⟩]) (.keep [3, 4, 5, 6])) (
   .skip))) (
 .seq (
  .seq (
  .region [⟨some 41, .mov (.t 4), none⟩,
    ⟨some 42, .mov (.t 5), none⟩,
    ⟨some 43, .bin .eql (.t 41) (.t 42), none⟩,
    ⟨some 44, .mov (.t 43), none⟩,
    ⟨some 45, .mov (.t 3), (some (44, true))⟩,
    ⟨some 46, .mov (.t 6), (some (44, true))⟩,
    ⟨some 47, .call false (.inr 10) [.t 45, .t 46], (some (44, true))⟩,
    ⟨some 48, .pick (.t 44) (.t 47) (.k (.bool false)), none⟩,
    ⟨some 2, .mov (.t 48), none⟩]) (.keep [2])) (
 .ret)))))))) }
def c5 : CFunc := { nparams := 0, ntmps := 223, results := [(0, none)], body := (
 .seq (
  .seq (
  .region [⟨some 0, .mov (.k (.bool false)), none⟩]) (.keep [])) (
 .seq (
  .seq (
  .region [⟨some 29, .call false (.inr 28) [], none⟩,
    ⟨some 30, .call false (.inr 27) [.t 29], none⟩,
    ⟨some 28, .mov (.t 30), none⟩,
    ⟨some 31, .ext 0 (.t 28), none⟩,
    ⟨some 32, .ext 1 (.t 28), none⟩,
    ⟨some 1, .mov (.t 31), none⟩,
    ⟨some 2, .mov (.t 32), none⟩]) (.keep [1, 2])) (
 .seq (
  .seq (
  .region [⟨some 34, .bsl true 2 [], none⟩,
    ⟨some 35, .mov (.t 1), none⟩,
    ⟨some 36, .fz (.append 2 16 (.t 34) (.t 35)), none⟩,
    ⟨some 37, .call false (.inr 29) [.t 36], none⟩,
    ⟨some 33, .mov (.t 37), none⟩,
    ⟨some 38, .ext 0 (.t 33), none⟩,
    ⟨some 39, .ext 1 (.t 33), none⟩,
    ⟨some 40, .ext 2 (.t 33), none⟩,
    ⟨some 3, .mov (.t 38), none⟩,
    ⟨some 4, .mov (.t 39), none⟩,
    ⟨some 5, .mov (.t 40), none⟩]) (.keep [1, 2, 3, 4, 5])) (
 .seq (
  .seq (
  .region [⟨some 42, .bsl true 2 [], none⟩,
    ⟨some 43, .mov (.t 1), none⟩,
    ⟨some 44, .fz (.append 2 16 (.t 42) (.t 43)), none⟩,
    ⟨some 45, .call false (.inr 30) [.t 44, .k (.int .i64 3)], none⟩,
    ⟨some 41, .mov (.t 45), none⟩,
    ⟨some 46, .ext 0 (.t 41), none⟩,
    ⟨some 47, .ext 1 (.t 41), none⟩,
    ⟨some 6, .mov (.t 46), none⟩,
    ⟨some 7, .mov (.t 47), none⟩]) (.keep [1, 2, 3, 4, 5, 6, 7])) (
 .seq (
  .seq (
  .region [⟨some 49, .bsl true 2 [], none⟩,
    ⟨some 50, .mov (.t 1), none⟩,
    ⟨some 51, .fz (.append 2 16 (.t 49) (.t 50)), none⟩,
    ⟨some 52, .call false (.inr 30) [.t 51, .k (.int .i64 2)], none⟩,
    ⟨some 48, .mov (.t 52), none⟩,
    ⟨some 53, .ext 0 (.t 48), none⟩,
    ⟨some 54, .ext 1 (.t 48), none⟩,
    ⟨some 8, .mov (.t 53), none⟩,
    ⟨some 9, .mov (.t 54), none⟩]) (.keep [1, 2, 3, 4, 5, 6, 7, 8, 9])) (
 .seq (
  .seq (
  .region [⟨some 56, .bsl true 2 [], none⟩,
    ⟨some 57, .mov (.t 4), none⟩,
    ⟨some 58, .fz (.append 2 16 (.t 56) (.t 57)), none⟩,
    ⟨some 59, .call false (.inr 31) [.t 58], none⟩,
    ⟨some 55, .mov (.t 59), none⟩,
    ⟨some 60, .ext 0 (.t 55), none⟩,
    ⟨some 61, .ext 1 (.t 55), none⟩,
    ⟨some 10, .mov (.t 60), none⟩,
    ⟨some 11, .mov (.t 61), none⟩]) (.keep [1, 2, 3, 4, 5, 6, 7, 8, 9, 10, 11])) (
 .seq (
  .seq (
  .region [⟨some 63, .bsl true 2 [], none⟩,
    ⟨some 64, .mov (.t 1), none⟩,
    ⟨some 65, .fz (.append 2 16 (.t 63) (.t 64)), none⟩,
    ⟨some 66, .call false (.inr 16) [.t 65, .k (.int .i64 3)], none⟩,
    ⟨some 62, .mov (.t 66), none⟩,
    ⟨some 67, .ext 0 (.t 62), none⟩,
    ⟨some 68, .ext 1 (.t 62), none⟩,
    ⟨some 12, .mov (.t 67), none⟩,
    ⟨some 13, .mov (.t 68), none⟩]) (.keep [1, 2, 3, 4, 5, 6, 7, 8, 9, 10, 11, 12, 13])) (
 .seq (
  .seq (
  .region [⟨some 70, .bsl true 2 [], none⟩,
    ⟨some 71, .mov (.t 1), none⟩,
    ⟨some 72, .fz (.append 2 16 (.t 70) (.t 71)), none⟩,
    ⟨some 73, .call false (.inr 14) [.t 72], none⟩,
    ⟨some 69, .mov (.t 73), none⟩,
    ⟨some 74, .ext 0 (.t 69), none⟩,
    ⟨some 75, .ext 1 (.t 69), none⟩,
    ⟨some 14, .mov (.t 74), none⟩,
    ⟨some 15, .mov (.t 75), none⟩]) (.keep [1, 2, 3, 4, 5, 6, 7, 8, 9, 10, 11, 12, 13, 14, 15])) (
 .seq (
  .seq (
  .region [⟨some 77, .build [.int .i64 0, .int .i64 0, .int .i64 0, .int .i64 0] [(0, 1, .k (.int .i64 3)), (1, 1, .k (.int .i64 4)), (2, 1, .k (.int .i64 2)), (3, 1, .k (.int .i64 4))], none⟩,
    ⟨some 78, .bsl false 4 [.t 77], none⟩,
    ⟨some 79, .call false (.inr 32) [.t 78, .k (.int .i64 2)], none⟩,
    ⟨some 76, .mov (.t 79), none⟩,
    ⟨some 80, .ext 0 (.t 76), none⟩,
    ⟨some 81, .ext 1 (.t 76), none⟩,
    ⟨some 16, .mov (.t 80), none⟩,
    ⟨some 17, .mov (.t 81), none⟩]) (.keep [1, 2, 3, 4, 5, 6, 7, 8, 9, 10, 11, 12, 13, 14, 15, 16, 17])) (
 .seq (
  .seq (
  .region [⟨some 83, .bsl true 2 [], none⟩,
    ⟨some 84, .mov (.t 4), none⟩,
    ⟨some 85, .fz (.append 2 16 (.t 83) (.t 84)), none⟩,
    ⟨some 86, .call false (.inr 33) [.t 85, .k (.int .i64 2)], none⟩,
    ⟨some 82, .mov (.t 86), none⟩,
    ⟨some 87, .ext 0 (.t 82), none⟩,
    ⟨some 88, .ext 1 (.t 82), none⟩,
    ⟨some 18, .mov (.t 87), none⟩,
    ⟨some 19, .mov (.t 88), none⟩]) (.keep [1, 2, 3, 4, 5, 6, 7, 8, 9, 10, 11, 12, 13, 14, 15, 16, 17, 18, 19])) (
 .seq (
  .seq (
  .region [⟨some 90, .call false (.inr 28) [], none⟩,
    ⟨some 91, .call false (.inr 34) [.t 90, .k (.int .i64 2)], none⟩,
    ⟨some 89, .mov (.t 91), none⟩,
    ⟨some 92, .ext 0 (.t 89), none⟩,
    ⟨some 93, .ext 1 (.t 89), none⟩,
    ⟨some 20, .mov (.t 92), none⟩,
    ⟨some 21, .mov (.t 93), none⟩]) (.keep [1, 2, 3, 4, 5, 6, 7, 8, 9, 10, 11, 12, 13, 14, 15, 16, 17, 18, 19, 20, 21])) (
 .seq (
  .seq (
   .seq (
   .region [⟨some 94, .mov (.t 2), none⟩,
     ⟨some 95, .mov (.t 5), none⟩,
     ⟨some 96, .bin .add (.t 94) (.t 95), none⟩,
     ⟨some 97, .mov (.t 7), none⟩,
     ⟨some 98, .bin .add (.t 96) (.t 97), none⟩,
     ⟨some 99, .mov (.t 9), none⟩,
     ⟨some 100, .bin .add (.t 98) (.t 99), none⟩,
     ⟨some 101, .mov (.t 11), none⟩,
     ⟨some 102, .bin .add (.t 100) (.t 101), none⟩,
     ⟨some 103, .mov (.t 13), none⟩,
     ⟨some 104, .bin .add (.t 102) (.t 103), none⟩,
     ⟨some 105, .mov (.t 15), none⟩,
     ⟨some 106, .bin .add (.t 104) (.t 105), none⟩,
     ⟨some 107, .mov (.t 17), none⟩,
     ⟨some 108, .bin .add (.t 106) (.t 107), none⟩,
     ⟨some 109, .mov (.t 19), none⟩,
     ⟨some 110, .bin .add (.t 108) (.t 109), none⟩,
     ⟨some 111, .mov (.t 21), none⟩,
     ⟨some 112, .bin .add (.t 110) (.t 111), none⟩,
     ⟨some 113, .bin .neq (.t 112) (.k (.int .i64 0)), none⟩,
     ⟨some 114, .mov (.t 113), none⟩,
     ⟨some 115, .mov (.t 1), (some (114, false))⟩,
     ⟨some 116, .call false (.inr 36) [.t 115], (some (114, false))⟩,
     ⟨some 117, .build [.int .i64 0, .int .i64 0] [(0, 1, .k (.int .i64 0)), (1, 1, .k (.int .i64 0))], (some (114, false))⟩,
     ⟨some 118, .build [.int .i64 0, .int .i64 0] [(0, 1, .k (.int .i64 1)), (1, 1, .k (.int .i64 5))], (some (114, false))⟩,
     ⟨some 119, .build [.int .i64 0, .int .i64 0] [(0, 1, .k (.int .i64 3)), (1, 1, .k (.int .i64 2))], (some (114, false))⟩,
     ⟨some 120, .build [.int .i64 0, .int .i64 0] [(0, 1, .k (.int .i64 4)), (1, 1, .k (.int .i64 4))], (some (114, false))⟩,
     ⟨some 121, .build [.int .i64 0, .int .i64 0] [(0, 1, .k (.int .i64 5)), (1, 1, .k (.int .i64 (-1)))], (some (114, false))⟩,
     ⟨some 122, .build [.int .i64 0, .int .i64 0] [(0, 1, .k (.int .i64 7)), (1, 1, .k (.int .i64 6))], (some (114, false))⟩,
     ⟨some 123, .bsl false 2 [.t 117, .t 118, .t 119, .t 120, .t 121, .t 122], (some (114, false))⟩,
     ⟨some 124, .call false (.inr 35) [.t 116, .t 123], (some (114, false))⟩,
     ⟨some 125, .un .not (.t 124), (some (114, false))⟩,
     ⟨some 126, .pick (.t 114) (.k (.bool true)) (.t 125), none⟩,
     ⟨some 127, .mov (.t 126), none⟩,
     ⟨some 128, .mov (.t 3), (some (127, false))⟩,
     ⟨some 129, .call false (.inr 38) [.t 128], (some (127, false))⟩,
     ⟨some 130, .build [.int .i64 0, .int .i64 0, .int .i64 0, .int .i64 0] [(0, 1, .k (.int .i64 3)), (1, 1, .k (.int .i64 4)), (2, 1, .k (.int .i64 2)), (3, 1, .k (.int .i64 4))], (some (127, false))⟩,
     ⟨some 131, .bsl false 4 [.t 130], (some (127, false))⟩,
     ⟨some 132, .call false (.inr 37) [.t 129, .t 131], (some (127, false))⟩,
     ⟨some 133, .un .not (.t 132), (some (127, false))⟩,
     ⟨some 134, .pick (.t 127) (.k (.bool true)) (.t 133), none⟩,
     ⟨some 135, .mov (.t 134), none⟩,
     ⟨some 136, .mov (.t 4), (some (135, false))⟩,
     ⟨some 137, .call false (.inr 36) [.t 136], (some (135, false))⟩,
     ⟨some 138, .call false (.inr 39) [.t 137], (some (135, false))⟩,
     ⟨some 139, .bsl false 1 [.k (.int .i64 0), .k (.int .i64 5), .k (.int .i64 (-1)), .k (.int .i64 6)], (some (135, false))⟩,
     ⟨some 140, .call false (.inr 10) [.t 138, .t 139], (some (135, false))⟩,
     ⟨some 141, .un .not (.t 140), (some (135, false))⟩,
     ⟨some 142, .pick (.t 135) (.k (.bool true)) (.t 141), none⟩,
     ⟨some 143, .mov (.t 142), none⟩,
     ⟨some 144, .mov (.t 6), (some (143, false))⟩,
     ⟨some 145, .call false (.inr 36) [.t 144], (some (143, false))⟩,
     ⟨some 146, .mov (.t 4), (some (143, false))⟩,
     ⟨some 147, .call false (.inr 36) [.t 146], (some (143, false))⟩,
     ⟨some 148, .call false (.inr 35) [.t 145, .t 147], (some (143, false))⟩,
     ⟨some 149, .un .not (.t 148), (some (143, false))⟩,
     ⟨some 150, .pick (.t 143) (.k (.bool true)) (.t 149), none⟩,
     ⟨some 151, .mov (.t 150), none⟩,
     ⟨some 152, .mov (.t 8), (some (151, false))⟩,
     ⟨some 153, .call false (.inr 36) [.t 152], (some (151, false))⟩,
     ⟨some 154, .mov (.t 1), (some (151, false))⟩,
     ⟨some 155, .call false (.inr 36) [.t 154], (some (151, false))⟩,
     ⟨some 156, .call false (.inr 35) [.t 153, .t 155], (some (151, false))⟩,
     ⟨some 157, .un .not (.t 156), (some (151, false))⟩,
     ⟨some 158, .pick (.t 151) (.k (.bool true)) (.t 157), none⟩]) (.keep [10, 12, 14, 16, 18, 20, 158])) (
  .cond (.t 158) (
   .seq (
    .seq (
    .region [⟨some 0, .mov (.k (.bool false)), none⟩]) (.keep [0])) (
   .ret)) (
   .skip))) (
 .seq (
  .seq (
  .region [⟨some 160, .build [.int .i64 0, .int .i64 0] [(0, 1, .k (.int .i64 40)), (1, 1, .k (.int .i64 1))], none⟩,
    ⟨some 161, .call false (.inr 28) [], none⟩,
    ⟨some 162, .call false (.inr 40) [.t 160, .t 161], none⟩,
    ⟨some 159, .mov (.t 162), none⟩,
    ⟨some 163, .ext 0 (.t 159), none⟩,
    ⟨some 164, .ext 1 (.t 159), none⟩,
    ⟨some 22, .mov (.t 163), none⟩,
    ⟨some 23, .mov (.t 164), none⟩]) (.keep [10, 12, 14, 16, 18, 20, 22, 23])) (
 .seq (
  .seq (
  .region [⟨some 166, .build [.int .i64 0, .int .i64 0, .int .i64 0, .int .i64 0] [(0, 1, .k (.int .i64 3)), (1, 1, .k (.int .i64 4)), (2, 1, .k (.int .i64 2)), (3, 1, .k (.int .i64 4))], none⟩,
    ⟨some 167, .bsl false 4 [.t 166], none⟩,
    ⟨some 168, .call false (.inr 41) [.t 167, .k (.int .i64 2), .k (.int .i64 1)], none⟩,
    ⟨some 165, .mov (.t 168), none⟩,
    ⟨some 169, .ext 0 (.t 165), none⟩,
    ⟨some 170, .ext 1 (.t 165), none⟩,
    ⟨some 24, .mov (.t 169), none⟩,
    ⟨some 25, .mov (.t 170), none⟩]) (.keep [10, 12, 14, 16, 18, 20, 22, 23, 24, 25])) (
 .seq (
  .seq (
  .region [⟨some 172, .build [.int .i64 0, .int .i64 0, .int .i64 0, .int .i64 0] [(0, 1, .k (.int .i64 3)), (1, 1, .k (.int .i64 4)), (2, 1, .k (.int .i64 2)), (3, 1, .k (.int .i64 4))], none⟩,
    ⟨some 173, .bsl false 4 [.t 172], none⟩,
    ⟨some 174, .call false (.inr 41) [.t 173, .k (.int .i64 2), .k (.int .i64 2)], none⟩,
    ⟨some 171, .mov (.t 174), none⟩,
    ⟨some 175, .ext 0 (.t 171), none⟩,
    ⟨some 176, .ext 1 (.t 171), none⟩,
    ⟨some 26, .mov (.t 175), none⟩,
    ⟨some 27, .mov (.t 176), none⟩]) (.keep [10, 12, 14, 16, 18, 20, 22, 23, 24, 25, 26, 27])) (
 .seq (
  .seq (
  .region [⟨some 177, .mov (.t 23), none⟩,
    ⟨some 178, .mov (.t 25), none⟩,
    ⟨some 179, .bin .add (.t 177) (.t 178), none⟩,
    ⟨some 180, .mov (.t 27), none⟩,
    ⟨some 181, .bin .add (.t 179) (.t 180), none⟩,
    ⟨some 182, .bin .eql (.t 181) (.k (.int .i64 0)), none⟩,
    ⟨some 183, .mov (.t 182), none⟩,
    ⟨some 184, .mov (.t 10), (some (183, true))⟩,
    ⟨some 185, .call false (.inr 38) [.t 184], (some (183, true))⟩,
    ⟨some 186, .build [.int .i64 0, .int .i64 0, .int .i64 0, .int .i64 0] [(0, 1, .k (.int .i64 8)), (1, 1, .k (.int .i64 9)), (2, 1, .k (.int .i64 0)), (3, 1, .k (.int .i64 5))], (some (183, true))⟩,
    ⟨some 187, .build [.int .i64 0, .int .i64 0, .int .i64 0, .int .i64 0] [(0, 1, .k (.int .i64 7)), (1, 1, .k (.int .i64 13)), (2, 1, .k (.int .i64 (-1))), (3, 1, .k (.int .i64 6))], (some (183, true))⟩,
    ⟨some 188, .bsl false 4 [.t 186, .t 187], (some (183, true))⟩,
    ⟨some 189, .call false (.inr 37) [.t 185, .t 188], (some (183, true))⟩,
    ⟨some 190, .pick (.t 183) (.t 189) (.k (.bool false)), none⟩,
    ⟨some 191, .mov (.t 190), none⟩,
    ⟨some 192, .mov (.t 12), (some (191, true))⟩,
    ⟨some 193, .bin .eql (.t 192) (.k (.int .i64 3)), (some (191, true))⟩,
    ⟨some 194, .pick (.t 191) (.t 193) (.k (.bool false)), none⟩,
    ⟨some 195, .mov (.t 194), none⟩,
    ⟨some 196, .mov (.t 14), (some (195, true))⟩,
    ⟨some 197, .bin .eql (.t 196) (.k (.int .i64 7)), (some (195, true))⟩,
    ⟨some 198, .pick (.t 195) (.t 197) (.k (.bool false)), none⟩,
    ⟨some 199, .mov (.t 198), none⟩,
    ⟨some 200, .mov (.t 16), (some (199, true))⟩,
    ⟨some 201, .bin .eql (.t 200) (.k (.int .i64 4)), (some (199, true))⟩,
    ⟨some 202, .pick (.t 199) (.t 201) (.k (.bool false)), none⟩,
    ⟨some 203, .mov (.t 202), none⟩,
    ⟨some 204, .mov (.t 18), (some (203, true))⟩,
    ⟨some 205, .bin .eql (.t 204) (.k (.int .i64 110)), (some (203, true))⟩,
    ⟨some 206, .pick (.t 203) (.t 205) (.k (.bool false)), none⟩,
    ⟨some 207, .mov (.t 206), none⟩,
    ⟨some 208, .mov (.t 20), (some (207, true))⟩,
    ⟨some 209, .bin .eql (.t 208) (.k (.int .i64 118)), (some (207, true))⟩,
    ⟨some 210, .pick (.t 207) (.t 209) (.k (.bool false)), none⟩,
    ⟨some 211, .mov (.t 210), none⟩,
    ⟨some 212, .mov (.t 22), (some (211, true))⟩,
    ⟨some 213, .bin .eql (.t 212) (.k (.int .i64 3)), (some (211, true))⟩,
    ⟨some 214, .pick (.t 211) (.t 213) (.k (.bool false)), none⟩,
    ⟨some 215, .mov (.t 214), none⟩,
    ⟨some 216, .mov (.t 24), (some (215, true))⟩,
    ⟨some 217, .bin .eql (.t 216) (.k (.int .i64 2)), (some (215, true))⟩,
    ⟨some 218, .pick (.t 215) (.t 217) (.k (.bool false)), none⟩,
    ⟨some 219, .mov (.t 218), none⟩,
    ⟨some 220, .mov (.t 26), (some (219, true))⟩,
    ⟨some 221, .bin .eql (.t 220) (.k (.int .i64 1)), (some (219, true))⟩,
    ⟨some 222, .pick (.t 219) (.t 221) (.k (.bool false)), none⟩,
    ⟨some 0, .mov (.t 222), none⟩]) (.keep [0])) (
 .ret))))))))))))))))) }
def c6 : CFunc := { nparams := 1, ntmps := 24, results := [(2, none)], body := (
 .seq (
  .seq (
  .region [⟨some 1, .box false 4 (.t 0), none⟩,
    ⟨some 2, .mov (.k (.bool false)), none⟩]) (.keep [1])) (
 .seq (
  .seq (
  .region [⟨some 3, .faddr 0 (.t 1), none⟩,
    ⟨some 4, .load none (.t 3), none⟩,
    ⟨some 5, .lens (.t 4), none⟩,
    ⟨some 6, .bin .leq (.t 5) (.k (.int .i64 60)), none⟩,
    ⟨some 7, .mov (.t 6), none⟩,
    ⟨some 8, .faddr 2 (.t 1), (some (7, true))⟩,
    ⟨some 9, .load none (.t 8), (some (7, true))⟩,
    ⟨some 10, .len (.t 9), (some (7, true))⟩,
    ⟨some 11, .bin .leq (.t 10) (.k (.int .i64 96)), (some (7, true))⟩,
    ⟨some 12, .mov (.t 11), (some (7, true))⟩,
    ⟨some 13, .faddr 2 (.t 1), (some (12, false))⟩,
    ⟨some 14, .load none (.t 13), (some (12, false))⟩,
    ⟨some 15, .len (.t 14), (some (12, false))⟩,
    ⟨some 16, .bin .eql (.t 15) (.k (.int .i64 40001)), (some (12, false))⟩,
    ⟨some 17, .pick (.t 12) (.k (.bool true)) (.t 16), (some (7, true))⟩,
    ⟨some 18, .pick (.t 7) (.t 17) (.k (.bool false)), none⟩,
    ⟨some 19, .mov (.t 18), none⟩,
    ⟨some 20, .faddr 3 (.t 1), (some (19, true))⟩,
    ⟨some 21, .load none (.t 20), (some (19, true))⟩,
    ⟨some 22, .call false (.inr 42) [.t 21, .k (.int .i64 8)], (some (19, true))⟩,
    ⟨some 23, .pick (.t 19) (.t 22) (.k (.bool false)), none⟩,
    ⟨some 2, .mov (.t 23), none⟩]) (.keep [2])) (
 .ret))) }
def c7 : CFunc := { nparams := 1, ntmps := 66, results := [(2, none), (3, none)], body := (
 .seq (
  .seq (
  .region [⟨some 1, .box false 4 (.t 0), none⟩,
    ⟨some 2, .mov (.k (.slice none 0 0)), none⟩,
    ⟨some 3, .mov (.k (.int .i64 0)), none⟩]) (.keep [1])) (
 .seq (
  .seq (
   .seq (
   .region [⟨some 13, .load (some 4) (.t 1), none⟩,
     ⟨some 14, .call false (.inr 43) [.t 13], none⟩,
     ⟨some 4, .mov (.t 14), none⟩]) (.keep [1, 4])) (
  .seq (
   .seq (
   .region [⟨some 15, .mov (.t 4), none⟩,
     ⟨some 16, .bin .neq (.t 15) (.k (.int .i64 0)), none⟩]) (.keep [1, 4, 16])) (
  .cond (.t 16) (
   .seq (
    .seq (
    .region [⟨some 17, .mov (.t 4), none⟩,
      ⟨some 2, .mov (.k (.slice none 0 0)), none⟩,
      ⟨some 3, .mov (.t 17), none⟩]) (.keep [2, 3])) (
   .ret)) (
   .skip)))) (
 .seq (
  .seq (
  .region [⟨some 18, .faddr 2 (.t 1), none⟩,
    ⟨some 19, .load none (.t 18), none⟩,
    ⟨some 20, .len (.t 19), none⟩,
    ⟨some 21, .mksl 1 none [.bool false] 1 (.t 20) (.t 20), none⟩,
    ⟨some 5, .mov (.t 21), none⟩]) (.keep [1, 5])) (
 .seq (
  .seq (
   .seq (
   .region [⟨some 22, .faddr 3 (.t 1), none⟩,
     ⟨some 23, .load none (.t 22), none⟩,
     ⟨some 24, .len (.t 23), none⟩,
     ⟨some 25, .mov (.k (.int .i64 0)), none⟩]) (.keep [1, 5, 23, 24, 25])) (
  .block 0 (
   .seq (.keep [1, 5, 23, 24, 25]) (.loop (.seq (
    .seq (
     .seq (
     .region [⟨some 26, .bin .lss (.t 25) (.t 24), none⟩]) (.keep [1, 5, 23, 24, 25, 26])) (
    .seq (
     .cond (.t 26) (
      .skip) (
      .exit 0)) (
    .seq (
     .block 1 (
      .seq (
       .seq (
       .region [⟨some 27, .iaddr 2 (.t 23) (.t 25), none⟩,
         ⟨some 28, .load (some 2) (.t 27), none⟩,
         ⟨some 7, .alloc (some 2) [.int .i64 0, .int .i64 0], none⟩,
         ⟨none, .store 2 (.t 7) (.t 28), none⟩]) (.keep [1, 5, 7, 23, 24, 25])) (
      .seq (
       .seq (
       .region [⟨some 29, .faddr 0 (.t 7), none⟩,
         ⟨some 30, .load none (.t 29), none⟩,
         ⟨some 8, .mov (.t 30), none⟩]) (.keep [1, 5, 7, 8, 23, 24, 25])) (
      .block 2 (
       .seq (.keep [1, 5, 7, 8, 23, 24, 25]) (.loop (.seq (
        .seq (
         .seq (
          .seq (
          .region [⟨some 31, .mov (.t 8), none⟩,
            ⟨some 32, .faddr 1 (.t 7), none⟩,
            ⟨some 33, .load none (.t 32), none⟩,
            ⟨some 34, .bin .lss (.t 31) (.t 33), none⟩]) (.keep [1, 5, 7, 8, 23, 24, 25, 34])) (
         .cond (.t 34) (
          .skip) (
          .exit 2))) (
        .seq (
         .block 3 (
          .seq (
          .region [⟨some 37, .mov (.t 5), none⟩,
            ⟨some 38, .mov (.t 8), none⟩,
            ⟨some 39, .iaddr 1 (.t 37) (.t 38), none⟩,
            ⟨none, .store 1 (.t 39) (.k (.bool true)), none⟩]) (.keep [1, 5, 7, 8, 23, 24, 25]))) (
        .seq (
        .region [⟨some 35, .mov (.t 8), none⟩,
          ⟨some 36, .bin .add (.t 35) (.k (.int .i64 1)), none⟩,
          ⟨some 8, .mov (.t 36), none⟩]) (.keep [1, 5, 7, 8, 23, 24, 25])))) (.keep [1, 5, 7, 8, 23, 24, 25])))))))) (
    .seq (
    .region [⟨some 40, .bin .add (.t 25) (.k (.int .i64 1)), none⟩,
      ⟨some 25, .mov (.t 40), none⟩]) (.keep [1, 5, 23, 24, 25]))))) (.seq (.keep [1, 5, 23, 24, 25]) .cut)))))) (
 .seq (
  .seq (
  .region [⟨some 9, .onil 1, none⟩]) (.keep [1, 5, 9])) (
 .seq (
  .seq (
   .seq (
   .region [⟨some 41, .faddr 2 (.t 1), none⟩,
     ⟨some 42, .load none (.t 41), none⟩,
     ⟨some 43, .len (.t 42), none⟩,
     ⟨some 44, .mov (.k (.int .i64 0)), none⟩]) (.keep [5, 9, 42, 43, 44])) (
  .block 4 (
   .seq (.keep [5, 9, 42, 43, 44]) (.loop (.seq (
    .seq (
     .seq (
     .region [⟨some 45, .bin .lss (.t 44) (.t 43), none⟩]) (.keep [5, 9, 42, 43, 44, 45])) (
    .seq (
     .cond (.t 45) (
      .skip) (
      .exit 4)) (
    .seq (
     .block 5 (
      .seq (
       .seq (
       .region [⟨some 46, .mov (.t 44), none⟩,
         ⟨some 47, .iaddr 1 (.t 42) (.t 44), none⟩,
         ⟨some 48, .load none (.t 47), none⟩,
         ⟨some 10, .mov (.t 46), none⟩,
         ⟨some 11, .mov (.t 48), none⟩]) (.keep [5, 9, 10, 11, 42, 43, 44])) (
      .seq (
       .seq (
       .region [⟨some 49, .mov (.t 11), none⟩,
         ⟨some 50, .sop (.ff .f64) [.t 49], none⟩,
         ⟨some 51, .sop (.fbin .mul) [.t 50, .k (.float .f64 4625196817309499392)], none⟩,
         ⟨some 52, .sop (.fi .i64) [.t 51], none⟩,
         ⟨some 12, .mov (.t 52), none⟩]) (.keep [5, 9, 10, 12, 42, 43, 44])) (
      .seq (
       .seq (
        .seq (
        .region [⟨some 53, .mov (.t 5), none⟩,
          ⟨some 54, .mov (.t 10), none⟩,
          ⟨some 55, .iaddr 1 (.t 53) (.t 54), none⟩,
          ⟨some 56, .load none (.t 55), none⟩]) (.keep [5, 9, 12, 42, 43, 44, 56])) (
       .cond (.t 56) (
        .exit 5) (
        .skip))) (
      .seq (
       .seq (
        .seq (
        .region [⟨some 57, .mov (.t 12), none⟩,
          ⟨some 58, .call false (.inr 44) [.t 57], none⟩,
          ⟨some 59, .bin .neq (.t 58) (.k (.int .i64 0)), none⟩]) (.keep [5, 9, 12, 42, 43, 44, 59])) (
       .cond (.t 59) (
        .seq (
         .seq (
         .region [⟨some 2, .mov (.k (.slice none 0 0)), none⟩,
           ⟨some 3, .mov (.k (.int .i64 3)), none⟩]) (.keep [2, 3])) (
        .ret)) (
        .skip))) (
      .seq (
      .region [⟨some 60, .mov (.t 9), none⟩,
        ⟨some 61, .mov (.t 12), none⟩,
        ⟨some 62, .bsl false 1 [.t 61], none⟩,
        ⟨some 63, .append 1 8 (.t 60) (.t 62), none⟩,
        ⟨some 9, .mov (.t 63), none⟩]) (.keep [5, 9, 42, 43, 44]))))))) (
    .seq (
    .region [⟨some 64, .bin .add (.t 44) (.k (.int .i64 1)), none⟩,
      ⟨some 44, .mov (.t 64), none⟩]) (.keep [5, 9, 42, 43, 44]))))) (.keep [5, 9, 42, 43, 44])))))) (
 .seq (
  .seq (
  .region [⟨some 65, .fz (.mov (.t 9)), none⟩,
    ⟨some 2, .mov (.t 65), none⟩,
    ⟨some 3, .mov (.k (.int .i64 0)), none⟩]) (.keep [2, 3])) (
 .ret)))))))) }
def c8 : CFunc := { nparams := 1, ntmps := 66, results := [(2, none)], body := (
 .seq (
  .seq (
  .region [⟨some 1, .box false 4 (.t 0), none⟩,
    ⟨some 2, .mov (.k (.int .i64 0)), none⟩]) (.keep [1])) (
 .seq (
  .seq (
   .seq (
   .region [⟨some 5, .faddr 0 (.t 1), none⟩,
     ⟨some 6, .load none (.t 5), none⟩,
     ⟨some 7, .call false (.inr 45) [.t 6], none⟩,
     ⟨some 8, .un .not (.t 7), none⟩]) (.keep [1, 8])) (
  .cond (.t 8) (
   .seq (
    .seq (
    .region [⟨some 2, .mov (.k (.int .i64 8)), none⟩]) (.keep [2])) (
   .ret)) (
   .skip))) (
 .seq (
  .seq (
   .seq (
   .region [⟨some 9, .faddr 1 (.t 1), none⟩,
     ⟨some 10, .load none (.t 9), none⟩,
     ⟨some 11, .call false (.inr 20) [.t 10, .k (.int .i64 0), .k (.int .i64 999999999)], none⟩,
     ⟨some 12, .bin .neq (.t 11) (.k (.int .i64 0)), none⟩]) (.keep [1, 12])) (
  .cond (.t 12) (
   .seq (
    .seq (
    .region [⟨some 2, .mov (.k (.int .i64 3)), none⟩]) (.keep [2])) (
   .ret)) (
   .skip))) (
 .seq (
  .seq (
   .seq (
   .region [⟨some 13, .faddr 2 (.t 1), none⟩,
     ⟨some 14, .load none (.t 13), none⟩,
     ⟨some 15, .len (.t 14), none⟩,
     ⟨some 16, .bin .gtr (.t 15) (.k (.int .i64 40000)), none⟩]) (.keep [1, 16])) (
  .cond (.t 16) (
   .seq (
    .seq (
    .region [⟨some 2, .mov (.k (.int .i64 5)), none⟩]) (.keep [2])) (
   .ret)) (
   .skip))) (
 .seq (
  .seq (
   .seq (
   .region [⟨some 17, .faddr 2 (.t 1), none⟩,
     ⟨some 18, .load none (.t 17), none⟩,
     ⟨some 19, .call false (.inr 46) [.t 18], none⟩,
     ⟨some 20, .faddr 3 (.t 1), none⟩,
     ⟨some 21, .load none (.t 20), none⟩,
     ⟨some 22, .call false (.inr 47) [.t 21], none⟩,
     ⟨some 23, .bsl false 1 [.t 19, .t 22], none⟩,
     ⟨some 24, .call false (.inr 19) [.t 23], none⟩,
     ⟨some 3, .mov (.t 24), none⟩]) (.keep [1, 3])) (
  .seq (
   .seq (
   .region [⟨some 25, .mov (.t 3), none⟩,
     ⟨some 26, .bin .neq (.t 25) (.k (.int .i64 0)), none⟩]) (.keep [1, 3, 26])) (
  .cond (.t 26) (
   .seq (
    .seq (
    .region [⟨some 27, .mov (.t 3), none⟩,
      ⟨some 2, .mov (.t 27), none⟩]) (.keep [2])) (
   .ret)) (
   .skip)))) (
 .seq (
  .seq (
   .seq (
   .region [⟨some 28, .faddr 3 (.t 1), none⟩,
     ⟨some 29, .load none (.t 28), none⟩,
     ⟨some 30, .len (.t 29), none⟩,
     ⟨some 31, .bin .gtr (.t 30) (.k (.int .i64 0)), none⟩,
     ⟨some 32, .mov (.t 31), none⟩,
     ⟨some 33, .faddr 3 (.t 1), (some (32, true))⟩,
     ⟨some 34, .load none (.t 33), (some (32, true))⟩,
     ⟨some 35, .faddr 3 (.t 1), (some (32, true))⟩,
     ⟨some 36, .load none (.t 35), (some (32, true))⟩,
     ⟨some 37, .len (.t 36), (some (32, true))⟩,
     ⟨some 38, .bin .sub (.t 37) (.k (.int .i64 1)), (some (32, true))⟩,
     ⟨some 39, .iaddr 2 (.t 34) (.t 38), (some (32, true))⟩,
     ⟨some 40, .faddr 1 (.t 39), (some (32, true))⟩,
     ⟨some 41, .load none (.t 40), (some (32, true))⟩,
     ⟨some 42, .faddr 2 (.t 1), (some (32, true))⟩,
     ⟨some 43, .load none (.t 42), (some (32, true))⟩,
     ⟨some 44, .len (.t 43), (some (32, true))⟩,
     ⟨some 45, .bin .gtr (.t 41) (.t 44), (some (32, true))⟩,
     ⟨some 46, .pick (.t 32) (.t 45) (.k (.bool false)), none⟩]) (.keep [1, 46])) (
  .cond (.t 46) (
   .seq (
    .seq (
    .region [⟨some 2, .mov (.k (.int .i64 14)), none⟩]) (.keep [2])) (
   .ret)) (
   .skip))) (
 .seq (
  .seq (
   .seq (
   .region [⟨some 4, .mov (.k (.int .i64 0)), none⟩]) (.keep [1, 4])) (
  .block 0 (
   .seq (.keep [1, 4]) (.loop (.seq (
    .seq (
     .seq (
      .seq (
      .region [⟨some 47, .mov (.t 4), none⟩,
        ⟨some 48, .faddr 2 (.t 1), none⟩,
        ⟨some 49, .load none (.t 48), none⟩,
        ⟨some 50, .len (.t 49), none⟩,
        ⟨some 51, .bin .lss (.t 47) (.t 50), none⟩]) (.keep [1, 4, 51])) (
     .cond (.t 51) (
      .skip) (
      .exit 0))) (
    .seq (
     .block 1 (
      .seq (
       .seq (
       .region [⟨some 54, .faddr 2 (.t 1), none⟩,
         ⟨some 55, .load none (.t 54), none⟩,
         ⟨some 56, .mov (.t 4), none⟩,
         ⟨some 57, .iaddr 1 (.t 55) (.t 56), none⟩,
         ⟨some 58, .load none (.t 57), none⟩,
         ⟨some 59, .sop (.fbin .neq) [.t 58, .k (.float .f32 0)], none⟩,
         ⟨some 60, .mov (.t 59), none⟩,
         ⟨some 61, .faddr 3 (.t 1), (some (60, true))⟩,
         ⟨some 62, .load none (.t 61), (some (60, true))⟩,
         ⟨some 63, .mov (.t 4), (some (60, true))⟩,
         ⟨some 64, .call false (.inr 48) [.t 62, .t 63], (some (60, true))⟩,
         ⟨some 65, .pick (.t 60) (.t 64) (.k (.bool false)), none⟩]) (.keep [1, 4, 65])) (
      .cond (.t 65) (
       .seq (
        .seq (
        .region [⟨some 2, .mov (.k (.int .i64 17)), none⟩]) (.keep [2])) (
       .ret)) (
       .skip)))) (
    .seq (
    .region [⟨some 52, .mov (.t 4), none⟩,
      ⟨some 53, .bin .add (.t 52) (.k (.int .i64 1)), none⟩,
      ⟨some 4, .mov (.t 53), none⟩]) (.keep [1, 4])))) (.keep [1, 4])))))) (
 .seq (
  .seq (
  .region [⟨some 2, .mov (.k (.int .i64 0)), none⟩]) (.keep [2])) (
 .ret))))))))) }
def c9 : CFunc := { nparams := 1, ntmps := 35, results := [(2, none), (3, none)], body := (
 .seq (
  .seq (
  .region [⟨some 1, .box false 4 (.t 0), none⟩,
    ⟨some 2, .mov (.k (.slice none 0 0)), none⟩,
    ⟨some 3, .mov (.k (.int .i64 0)), none⟩]) (.keep [1])) (
 .seq (
  .seq (
  .region [⟨some 4, .onil 1, none⟩]) (.keep [1, 4])) (
 .seq (
  .seq (
   .seq (
   .region [⟨some 5, .mov (.k (.int .i64 0)), none⟩]) (.keep [1, 4, 5])) (
  .block 0 (
   .seq (.keep [1, 4, 5]) (.loop (.seq (
    .seq (
     .seq (
      .seq (
      .region [⟨some 8, .mov (.t 5), none⟩,
        ⟨some 9, .faddr 2 (.t 1), none⟩,
        ⟨some 10, .load none (.t 9), none⟩,
        ⟨some 11, .len (.t 10), none⟩,
        ⟨some 12, .bin .lss (.t 8) (.t 11), none⟩]) (.keep [1, 4, 5, 12])) (
     .cond (.t 12) (
      .skip) (
      .exit 0))) (
    .seq (
     .block 1 (
      .seq (
       .seq (
        .seq (
        .region [⟨some 15, .faddr 3 (.t 1), none⟩,
          ⟨some 16, .load none (.t 15), none⟩,
          ⟨some 17, .mov (.t 5), none⟩,
          ⟨some 18, .call false (.inr 48) [.t 16, .t 17], none⟩]) (.keep [1, 4, 5, 18])) (
       .cond (.t 18) (
        .exit 1) (
        .skip))) (
      .seq (
       .seq (
       .region [⟨some 19, .faddr 2 (.t 1), none⟩,
         ⟨some 20, .load none (.t 19), none⟩,
         ⟨some 21, .mov (.t 5), none⟩,
         ⟨some 22, .iaddr 1 (.t 20) (.t 21), none⟩,
         ⟨some 23, .load none (.t 22), none⟩,
         ⟨some 24, .call false (.inr 49) [.t 23], none⟩,
         ⟨some 6, .mov (.t 24), none⟩]) (.keep [1, 4, 5, 6])) (
      .seq (
       .seq (
        .seq (
        .region [⟨some 25, .mov (.t 6), none⟩,
          ⟨some 26, .call false (.inr 50) [.t 25], none⟩,
          ⟨some 7, .mov (.t 26), none⟩]) (.keep [1, 4, 5, 6, 7])) (
       .seq (
        .seq (
        .region [⟨some 27, .mov (.t 7), none⟩,
          ⟨some 28, .bin .neq (.t 27) (.k (.int .i64 0)), none⟩]) (.keep [1, 4, 5, 6, 7, 28])) (
       .cond (.t 28) (
        .seq (
         .seq (
         .region [⟨some 29, .mov (.t 7), none⟩,
           ⟨some 2, .mov (.k (.slice none 0 0)), none⟩,
           ⟨some 3, .mov (.t 29), none⟩]) (.keep [2, 3])) (
        .ret)) (
        .skip)))) (
      .seq (
      .region [⟨some 30, .mov (.t 4), none⟩,
        ⟨some 31, .mov (.t 6), none⟩,
        ⟨some 32, .bsl false 1 [.t 31], none⟩,
        ⟨some 33, .append 1 8 (.t 30) (.t 32), none⟩,
        ⟨some 4, .mov (.t 33), none⟩]) (.keep [1, 4, 5])))))) (
    .seq (
    .region [⟨some 13, .mov (.t 5), none⟩,
      ⟨some 14, .bin .add (.t 13) (.k (.int .i64 1)), none⟩,
      ⟨some 5, .mov (.t 14), none⟩]) (.keep [1, 4, 5])))) (.keep [1, 4, 5])))))) (
 .seq (
  .seq (
  .region [⟨some 34, .fz (.mov (.t 4)), none⟩,
    ⟨some 2, .mov (.t 34), none⟩,
    ⟨some 3, .mov (.k (.int .i64 0)), none⟩]) (.keep [2, 3])) (
 .ret))))) }
def c10 : CFunc := { nparams := 2, ntmps := 26, results := [(4, none)], body := (
 .seq (
  .seq (
  .region [⟨some 4, .mov (.k (.bool false)), none⟩]) (.keep [0, 1])) (
 .seq (
  .seq (
   .seq (
   .region [⟨some 6, .mov (.t 0), none⟩,
     ⟨some 7, .len (.t 6), none⟩,
     ⟨some 8, .mov (.t 1), none⟩,
     ⟨some 9, .len (.t 8), none⟩,
     ⟨some 10, .bin .neq (.t 7) (.t 9), none⟩]) (.keep [0, 1, 10])) (
  .cond (.t 10) (
   .seq (
    .seq (
    .region [⟨some 4, .mov (.k (.bool false)), none⟩]) (.keep [4])) (
   .ret)) (
   .skip))) (
 .seq (
  .seq (
   .seq (
   .region [⟨some 5, .mov (.k (.int .i64 0)), none⟩]) (.keep [0, 1, 5])) (
  .block 0 (
   .seq (.keep [0, 1, 5]) (.loop (.seq (
    .seq (
     .seq (
      .seq (
      .region [⟨some 11, .mov (.t 5), none⟩,
        ⟨some 12, .mov (.t 0), none⟩,
        ⟨some 13, .len (.t 12), none⟩,
        ⟨some 14, .bin .lss (.t 11) (.t 13), none⟩]) (.keep [0, 1, 5, 14])) (
     .cond (.t 14) (
      .skip) (
      .exit 0))) (
    .seq (
     .block 1 (
      .seq (
       .seq (
       .region [⟨some 17, .mov (.t 0), none⟩,
         ⟨some 18, .mov (.t 5), none⟩,
         ⟨some 19, .iaddr 1 (.t 17) (.t 18), none⟩,
         ⟨some 20, .load none (.t 19), none⟩,
         ⟨some 21, .mov (.t 1), none⟩,
         ⟨some 22, .mov (.t 5), none⟩,
         ⟨some 23, .iaddr 1 (.t 21) (.t 22), none⟩,
         ⟨some 24, .load none (.t 23), none⟩,
         ⟨some 25, .bin .neq (.t 20) (.t 24), none⟩]) (.keep [0, 1, 5, 25])) (
      .cond (.t 25) (
       .seq (
        .seq (
        .region [⟨some 4, .mov (.k (.bool false)), none⟩]) (.keep [4])) (
       .ret)) (
       .skip)))) (
    .seq (
    .region [⟨some 15, .mov (.t 5), none⟩,
      ⟨some 16, .bin .add (.t 15) (.k (.int .i64 1)), none⟩,
      ⟨some 5, .mov (.t 16), none⟩]) (.keep [0, 1, 5])))) (.keep [0, 1, 5])))))) (
 .seq (
  .seq (
  .region [⟨some 4, .mov (.k (.bool true)), none⟩]) (.keep [4])) (
 .ret))))) }
def c14 : CFunc := { nparams := 1, ntmps := 46, results := [(2, none), (3, none)], body := (
 .seq (
  .seq (
  .region [⟨some 2, .mov (.k (.int .i64 0)), none⟩,
    ⟨some 3, .mov (.k (.int .i64 0)), none⟩]) (.keep [0])) (
 .seq (
  .seq (
   .seq (
   .region [⟨some 9, .mov (.t 0), none⟩,
     ⟨some 10, .call false (.inr 55) [.t 9], none⟩,
     ⟨some 11, .mov (.t 0), none⟩,
     ⟨some 12, .len (.t 11), none⟩,
     ⟨some 13, .bin .lss (.t 12) (.k (.int .i64 2)), none⟩,
     ⟨some 14, .call false (.inr 56) [.t 13, .k (.int .i64 7)], none⟩,
     ⟨some 15, .bsl false 1 [.t 10, .t 14], none⟩,
     ⟨some 16, .call false (.inr 51) [.t 15], none⟩,
     ⟨some 4, .mov (.t 16), none⟩]) (.keep [0, 4])) (
  .seq (
   .seq (
   .region [⟨some 17, .mov (.t 4), none⟩,
     ⟨some 18, .bin .neq (.t 17) (.k (.int .i64 0)), none⟩]) (.keep [0, 4, 18])) (
  .cond (.t 18) (
   .seq (
    .seq (
    .region [⟨some 19, .mov (.t 4), none⟩,
      ⟨some 2, .mov (.k (.int .i64 0)), none⟩,
      ⟨some 3, .mov (.t 19), none⟩]) (.keep [2, 3])) (
   .ret)) (
   .skip)))) (
 .seq (
  .seq (
  .region [⟨some 20, .mov (.t 0), none⟩,
    ⟨some 21, .iaddr 2 (.t 20) (.k (.int .i64 0)), none⟩,
    ⟨some 22, .faddr 1 (.t 21), none⟩,
    ⟨some 23, .load none (.t 22), none⟩,
    ⟨some 24, .mov (.t 0), none⟩,
    ⟨some 25, .iaddr 2 (.t 24) (.k (.int .i64 0)), none⟩,
    ⟨some 26, .faddr 1 (.t 25), none⟩,
    ⟨some 27, .load none (.t 26), none⟩,
    ⟨some 5, .mov (.t 23), none⟩,
    ⟨some 6, .mov (.t 27), none⟩]) (.keep [0, 5, 6])) (
 .seq (
  .seq (
   .seq (
   .region [⟨some 28, .mov (.t 0), none⟩,
     ⟨some 29, .len (.t 28), none⟩,
     ⟨some 30, .mov (.k (.int .i64 0)), none⟩]) (.keep [5, 6, 28, 29, 30])) (
  .block 0 (
   .seq (.keep [5, 6, 28, 29, 30]) (.loop (.seq (
    .seq (
     .seq (
     .region [⟨some 31, .bin .lss (.t 30) (.t 29), none⟩]) (.keep [5, 6, 28, 29, 30, 31])) (
    .seq (
     .cond (.t 31) (
      .skip) (
      .exit 0)) (
    .seq (
     .block 1 (
      .seq (
       .seq (
       .region [⟨some 32, .iaddr 2 (.t 28) (.t 30), none⟩,
         ⟨some 33, .load (some 2) (.t 32), none⟩,
         ⟨some 8, .alloc (some 2) [.int .i64 0, .int .i64 0], none⟩,
         ⟨none, .store 2 (.t 8) (.t 33), none⟩]) (.keep [5, 6, 8, 28, 29, 30])) (
      .seq (
      .region [⟨some 34, .mov (.t 5), none⟩,
        ⟨some 35, .faddr 1 (.t 8), none⟩,
        ⟨some 36, .load none (.t 35), none⟩,
        ⟨some 37, .min (.t 34) [.t 36], none⟩,
        ⟨some 38, .mov (.t 6), none⟩,
        ⟨some 39, .faddr 1 (.t 8), none⟩,
        ⟨some 40, .load none (.t 39), none⟩,
        ⟨some 41, .max (.t 38) [.t 40], none⟩,
        ⟨some 5, .mov (.t 37), none⟩,
        ⟨some 6, .mov (.t 41), none⟩]) (.keep [5, 6, 28, 29, 30])))) (
    .seq (
    .region [⟨some 42, .bin .add (.t 30) (.k (.int .i64 1)), none⟩,
      ⟨some 30, .mov (.t 42), none⟩]) (.keep [5, 6, 28, 29, 30]))))) (.seq (.keep [5, 6, 28, 29, 30]) .cut)))))) (
 .seq (
  .seq (
  .region [⟨some 43, .mov (.t 6), none⟩,
    ⟨some 44, .mov (.t 5), none⟩,
    ⟨some 45, .bin .sub (.t 43) (.t 44), none⟩,
    ⟨some 2, .mov (.t 45), none⟩,
    ⟨some 3, .mov (.k (.int .i64 0)), none⟩]) (.keep [2, 3])) (
 .ret)))))) }
def c16 : CFunc := { nparams := 2, ntmps := 47, results := [(4, none), (5, none)], body := (
 .seq (
  .seq (
  .region [⟨some 4, .mov (.k (.int .i64 0)), none⟩,
    ⟨some 5, .mov (.k (.int .i64 0)), none⟩]) (.keep [0, 1])) (
 .seq (
  .seq (
   .seq (
   .region [⟨some 10, .mov (.t 0), none⟩,
     ⟨some 11, .call false (.inr 55) [.t 10], none⟩,
     ⟨some 12, .mov (.t 1), none⟩,
     ⟨some 13, .call false (.inr 57) [.t 12], none⟩,
     ⟨some 14, .bsl false 1 [.t 11, .t 13], none⟩,
     ⟨some 15, .call false (.inr 51) [.t 14], none⟩,
     ⟨some 6, .mov (.t 15), none⟩]) (.keep [0, 1, 6])) (
  .seq (
   .seq (
   .region [⟨some 16, .mov (.t 6), none⟩,
     ⟨some 17, .bin .neq (.t 16) (.k (.int .i64 0)), none⟩]) (.keep [0, 1, 6, 17])) (
  .cond (.t 17) (
   .seq (
    .seq (
    .region [⟨some 18, .mov (.t 6), none⟩,
      ⟨some 4, .mov (.k (.int .i64 0)), none⟩,
      ⟨some 5, .mov (.t 18), none⟩]) (.keep [4, 5])) (
   .ret)) (
   .skip)))) (
 .seq (
  .seq (
  .region [⟨some 7, .mov (.k (.int .i64 0)), none⟩]) (.keep [0, 1, 7])) (
 .seq (
  .seq (
   .seq (
   .region [⟨some 19, .mov (.t 0), none⟩,
     ⟨some 20, .mov (.t 0), none⟩,
     ⟨some 21, .len (.t 20), none⟩,
     ⟨some 22, .min (.k (.int .i64 1)) [.t 21], none⟩,
     ⟨some 23, .slice 2 (.t 19) (some (.t 22)) none, none⟩,
     ⟨some 24, .len (.t 23), none⟩,
     ⟨some 25, .mov (.k (.int .i64 0)), none⟩]) (.keep [0, 1, 7, 23, 24, 25])) (
  .block 0 (
   .seq (.keep [0, 1, 7, 23, 24, 25]) (.loop (.seq (
    .seq (
     .seq (
     .region [⟨some 26, .bin .lss (.t 25) (.t 24), none⟩]) (.keep [0, 1, 7, 23, 24, 25, 26])) (
    .seq (
     .cond (.t 26) (
      .skip) (
      .exit 0)) (
    .seq (
     .block 1 (
      .seq (
       .seq (
       .region [⟨some 27, .mov (.t 25), none⟩,
         ⟨some 28, .iaddr 2 (.t 23) (.t 25), none⟩,
         ⟨some 29, .load (some 2) (.t 28), none⟩,
         ⟨some 9, .alloc (some 2) [.int .i64 0, .int .i64 0], none⟩,
         ⟨some 8, .mov (.t 27), none⟩,
         ⟨none, .store 2 (.t 9) (.t 29), none⟩]) (.keep [0, 1, 7, 8, 9, 23, 24, 25])) (
      .seq (
       .seq (
       .region [⟨some 30, .mov (.t 0), none⟩,
         ⟨some 31, .mov (.t 8), none⟩,
         ⟨some 32, .iaddr 2 (.t 30) (.t 31), none⟩,
         ⟨some 33, .faddr 1 (.t 32), none⟩,
         ⟨some 34, .load none (.t 33), none⟩,
         ⟨some 35, .mov (.t 1), none⟩,
         ⟨some 36, .bin .leq (.t 34) (.t 35), none⟩,
         ⟨some 37, .mov (.t 36), none⟩,
         ⟨some 38, .faddr 1 (.t 9), (some (37, true))⟩,
         ⟨some 39, .load none (.t 38), (some (37, true))⟩,
         ⟨some 40, .mov (.t 1), (some (37, true))⟩,
         ⟨some 41, .bin .gtr (.t 39) (.t 40), (some (37, true))⟩,
         ⟨some 42, .pick (.t 37) (.t 41) (.k (.bool false)), none⟩]) (.keep [0, 1, 7, 23, 24, 25, 42])) (
      .cond (.t 42) (
       .seq (
       .region [⟨some 43, .mov (.t 7), none⟩,
         ⟨some 44, .bin .add (.t 43) (.k (.int .i64 1)), none⟩,
         ⟨some 7, .mov (.t 44), none⟩]) (.keep [0, 1, 7, 23, 24, 25])) (
       .skip))))) (
    .seq (
    .region [⟨some 45, .bin .add (.t 25) (.k (.int .i64 1)), none⟩,
      ⟨some 25, .mov (.t 45), none⟩]) (.keep [0, 1, 7, 23, 24, 25]))))) (.seq (.keep [0, 1, 7, 23, 24, 25]) .cut)))))) (
 .seq (
  .seq (
  .region [⟨some 46, .mov (.t 7), none⟩,
    ⟨some 4, .mov (.t 46), none⟩,
    ⟨some 5, .mov (.k (.int .i64 0)), none⟩]) (.keep [4, 5])) (
 .ret)))))) }
def c19 : CFunc := { nparams := 1, ntmps := 19, results := [(2, none)], body := (
 .seq (
  .seq (
  .region [⟨some 2, .mov (.k (.int .i64 0)), none⟩]) (.keep [0])) (
 .seq (
  .seq (
   .seq (
   .region [⟨some 3, .mov (.k (.int .i64 0)), none⟩]) (.keep [0, 3])) (
  .block 0 (
   .seq (.keep [0, 3]) (.loop (.seq (
    .seq (
     .seq (
      .seq (
      .region [⟨some 4, .mov (.t 3), none⟩,
        ⟨some 5, .mov (.t 0), none⟩,
        ⟨some 6, .len (.t 5), none⟩,
        ⟨some 7, .bin .lss (.t 4) (.t 6), none⟩]) (.keep [0, 3, 7])) (
     .cond (.t 7) (
      .skip) (
      .exit 0))) (
    .seq (
     .block 1 (
      .seq (
       .seq (
       .region [⟨some 10, .mov (.t 0), none⟩,
         ⟨some 11, .mov (.t 3), none⟩,
         ⟨some 12, .iaddr 1 (.t 10) (.t 11), none⟩,
         ⟨some 13, .load none (.t 12), none⟩,
         ⟨some 14, .bin .neq (.t 13) (.k (.int .i64 0)), none⟩]) (.keep [0, 3, 14])) (
      .cond (.t 14) (
       .seq (
        .seq (
        .region [⟨some 15, .mov (.t 0), none⟩,
          ⟨some 16, .mov (.t 3), none⟩,
          ⟨some 17, .iaddr 1 (.t 15) (.t 16), none⟩,
          ⟨some 18, .load none (.t 17), none⟩,
          ⟨some 2, .mov (.t 18), none⟩]) (.keep [2])) (
       .ret)) (
       .skip)))) (
    .seq (
    .region [⟨some 8, .mov (.t 3), none⟩,
      ⟨some 9, .bin .add (.t 8) (.k (.int .i64 1)), none⟩,
      ⟨some 3, .mov (.t 9), none⟩]) (.keep [0, 3])))) (.keep [0, 3])))))) (
 .seq (
  .seq (
  .region [⟨some 2, .mov (.k (.int .i64 0)), none⟩]) (.keep [2])) (
 .ret)))) }
def c20 : CFunc := { nparams := 3, ntmps := 15, results := [(6, none)], body := (
 .seq (
  .seq (
  .region [⟨some 6, .mov (.k (.int .i64 0)), none⟩]) (.keep [0, 1, 2])) (
 .seq (
  .seq (
   .seq (
   .region [⟨some 7, .mov (.t 0), none⟩,
     ⟨some 8, .mov (.t 1), none⟩,
     ⟨some 9, .bin .lss (.t 7) (.t 8), none⟩,
     ⟨some 10, .mov (.t 9), none⟩,
     ⟨some 11, .mov (.t 0), (some (10, false))⟩,
     ⟨some 12, .mov (.t 2), (some (10, false))⟩,
     ⟨some 13, .bin .gtr (.t 11) (.t 12), (some (10, false))⟩,
     ⟨some 14, .pick (.t 10) (.k (.bool true)) (.t 13), none⟩]) (.keep [14])) (
  .cond (.t 14) (
   .seq (
    .seq (
    .region [⟨some 6, .mov (.k (.int .i64 3)), none⟩]) (.keep [6])) (
   .ret)) (
   .skip))) (
 .seq (
  .seq (
  .region [⟨some 6, .mov (.k (.int .i64 0)), none⟩]) (.keep [6])) (
 .ret)))) }
def c24 : CFunc := { nparams := 1, ntmps := 46, results := [(2, none)], body := (
 .seq (
  .seq (
  .region [⟨some 2, .mov (.k (.int .i64 0)), none⟩]) (.keep [0])) (
 .seq (
  .seq (
   .seq (
   .region [⟨some 6, .mov (.t 0), none⟩,
     ⟨some 7, .len (.t 6), none⟩,
     ⟨some 8, .bin .gtr (.t 7) (.k (.int .i64 40000)), none⟩]) (.keep [0, 8])) (
  .cond (.t 8) (
   .seq (
    .seq (
    .region [⟨some 2, .mov (.k (.int .i64 5)), none⟩]) (.keep [2])) (
   .ret)) (
   .skip))) (
 .seq (
  .seq (
   .seq (
   .region [⟨some 9, .mov (.t 0), none⟩,
     ⟨some 10, .len (.t 9), none⟩,
     ⟨some 11, .mov (.k (.int .i64 0)), none⟩]) (.keep [9, 10, 11])) (
  .block 0 (
   .seq (.keep [9, 10, 11]) (.loop (.seq (
    .seq (
     .seq (
     .region [⟨some 12, .bin .lss (.t 11) (.t 10), none⟩]) (.keep [9, 10, 11, 12])) (
    .seq (
     .cond (.t 12) (
      .skip) (
      .exit 0)) (
    .seq (
     .block 1 (
      .seq (
       .seq (
       .region [⟨some 13, .iaddr 4 (.t 9) (.t 11), none⟩,
         ⟨some 14, .load (some 4) (.t 13), none⟩,
         ⟨some 4, .alloc (some 4) [.int .i64 0, .int .i64 0, .int .i64 0, .int .i64 0], none⟩,
         ⟨none, .store 4 (.t 4) (.t 14), none⟩]) (.keep [4, 9, 10, 11])) (
      .seq (
       .seq (
       .region [⟨some 15, .faddr 0 (.t 4), none⟩,
         ⟨some 16, .load none (.t 15), none⟩,
         ⟨some 17, .call false (.inr 60) [.t 16], none⟩,
         ⟨some 18, .faddr 1 (.t 4), none⟩,
         ⟨some 19, .load none (.t 18), none⟩,
         ⟨some 20, .call false (.inr 60) [.t 19], none⟩,
         ⟨some 21, .faddr 2 (.t 4), none⟩,
         ⟨some 22, .load none (.t 21), none⟩,
         ⟨some 23, .call false (.inr 44) [.t 22], none⟩,
         ⟨some 24, .faddr 3 (.t 4), none⟩,
         ⟨some 25, .load none (.t 24), none⟩,
         ⟨some 26, .call false (.inr 44) [.t 25], none⟩,
         ⟨some 27, .faddr 0 (.t 4), none⟩,
         ⟨some 28, .load none (.t 27), none⟩,
         ⟨some 29, .faddr 1 (.t 4), none⟩,
         ⟨some 30, .load none (.t 29), none⟩,
         ⟨some 31, .bin .geq (.t 28) (.t 30), none⟩,
         ⟨some 32, .mov (.t 31), none⟩,
         ⟨some 33, .faddr 2 (.t 4), (some (32, false))⟩,
         ⟨some 34, .load none (.t 33), (some (32, false))⟩,
         ⟨some 35, .faddr 3 (.t 4), (some (32, false))⟩,
         ⟨some 36, .load none (.t 35), (some (32, false))⟩,
         ⟨some 37, .bin .geq (.t 34) (.t 36), (some (32, false))⟩,
         ⟨some 38, .pick (.t 32) (.k (.bool true)) (.t 37), none⟩,
         ⟨some 39, .call false (.inr 56) [.t 38, .k (.int .i64 11)], none⟩,
         ⟨some 40, .bsl false 1 [.t 17, .t 20, .t 23, .t 26, .t 39], none⟩,
         ⟨some 41, .call false (.inr 51) [.t 40], none⟩,
         ⟨some 5, .mov (.t 41), none⟩]) (.keep [5, 9, 10, 11])) (
      .seq (
       .seq (
       .region [⟨some 42, .mov (.t 5), none⟩,
         ⟨some 43, .bin .neq (.t 42) (.k (.int .i64 0)), none⟩]) (.keep [5, 9, 10, 11, 43])) (
      .cond (.t 43) (
       .seq (
        .seq (
        .region [⟨some 44, .mov (.t 5), none⟩,
          ⟨some 2, .mov (.t 44), none⟩]) (.keep [2])) (
       .ret)) (
       .skip)))))) (
    .seq (
    .region [⟨some 45, .bin .add (.t 11) (.k (.int .i64 1)), none⟩,
      ⟨some 11, .mov (.t 45), none⟩]) (.keep [9, 10, 11]))))) (.seq (.keep [9, 10, 11]) .cut)))))) (
 .seq (
  .seq (
  .region [⟨some 2, .mov (.k (.int .i64 0)), none⟩]) (.keep [2])) (
 .ret))))) }
def c27 : CFunc := { nparams := 1, ntmps := 12, results := [(2, none), (3, none)], body := (
 .seq (
  .seq (
  .region [⟨some 2, .mov (.k (.slice none 0 0)), none⟩,
    ⟨some 3, .mov (.k (.int .i64 0)), none⟩]) (.keep [0])) (
 .seq (
  .seq (
   .seq (
   .region [⟨some 5, .mov (.t 0), none⟩,
     ⟨some 6, .call false (.inr 61) [.t 5], none⟩,
     ⟨some 4, .mov (.t 6), none⟩]) (.keep [0, 4])) (
  .seq (
   .seq (
   .region [⟨some 7, .mov (.t 4), none⟩,
     ⟨some 8, .bin .neq (.t 7) (.k (.int .i64 0)), none⟩]) (.keep [0, 4, 8])) (
  .cond (.t 8) (
   .seq (
    .seq (
    .region [⟨some 9, .mov (.t 4), none⟩,
      ⟨some 2, .mov (.k (.slice none 0 0)), none⟩,
      ⟨some 3, .mov (.t 9), none⟩]) (.keep [2, 3])) (
   .ret)) (
   .skip)))) (
 .seq (
  .seq (
  .region [⟨some 10, .mov (.t 0), none⟩,
    ⟨some 11, .call false (.inr 62) [.t 10], none⟩,
    ⟨some 2, .mov (.t 11), none⟩,
    ⟨some 3, .mov (.k (.int .i64 0)), none⟩]) (.keep [2, 3])) (
 .ret)))) }
def c28 : CFunc := { nparams := 0, ntmps := 2, results := [(0, none)], body := (
 .seq (
  .seq (
  .region [⟨some 0, .mov (.k (.slice none 0 0)), none⟩]) (.keep [])) (
 .seq (
  .seq (
  .region [⟨some 1, .bsl false 1 [.k (.int .i64 0), .k (.int .i64 5), .k (.int .i64 5), .k (.int .i64 2), .k (.int .i64 4), .k (.int .i64 (-1)), .k (.int .i64 3), .k (.int .i64 6)], none⟩,
    ⟨some 0, .mov (.t 1), none⟩]) (.keep [0])) (
 .ret))) }
def c29 : CFunc := { nparams := 1, ntmps := 20, results := [(2, none), (3, none), (4, none)], body := (
 .seq (
  .seq (
  .region [⟨some 2, .mov (.k (.slice none 0 0)), none⟩,
    ⟨some 3, .mov (.k (.slice none 0 0)), none⟩,
    ⟨some 4, .mov (.k (.int .i64 0)), none⟩]) (.keep [0])) (
 .seq (
  .seq (
   .seq (
   .region [⟨some 8, .mov (.t 0), none⟩,
     ⟨some 9, .call false (.inr 55) [.t 8], none⟩,
     ⟨some 5, .mov (.t 9), none⟩]) (.keep [0, 5])) (
  .seq (
   .seq (
   .region [⟨some 10, .mov (.t 5), none⟩,
     ⟨some 11, .bin .neq (.t 10) (.k (.int .i64 0)), none⟩]) (.keep [0, 5, 11])) (
  .cond (.t 11) (
   .seq (
    .seq (
    .region [⟨some 12, .mov (.t 5), none⟩,
      ⟨some 2, .mov (.k (.slice none 0 0)), none⟩,
      ⟨some 3, .mov (.k (.slice none 0 0)), none⟩,
      ⟨some 4, .mov (.t 12), none⟩]) (.keep [2, 3, 4])) (
   .ret)) (
   .skip)))) (
 .seq (
  .seq (
  .region [⟨some 14, .mov (.t 0), none⟩,
    ⟨some 15, .call false (.inr 63) [.t 14], none⟩,
    ⟨some 13, .mov (.t 15), none⟩,
    ⟨some 16, .ext 0 (.t 13), none⟩,
    ⟨some 17, .ext 1 (.t 13), none⟩,
    ⟨some 6, .mov (.t 16), none⟩,
    ⟨some 7, .mov (.t 17), none⟩]) (.keep [6, 7])) (
 .seq (
  .seq (
  .region [⟨some 18, .mov (.t 6), none⟩,
    ⟨some 19, .mov (.t 7), none⟩,
    ⟨some 2, .mov (.t 18), none⟩,
    ⟨some 3, .mov (.t 19), none⟩,
    ⟨some 4, .mov (.k (.int .i64 0)), none⟩]) (.keep [2, 3, 4])) (
 .ret))))) }
def c30 : CFunc := { nparams := 2, ntmps := 50, results := [(4, none), (5, none)], body := (
 .seq (
  .seq (
  .region [⟨some 4, .mov (.k (.slice none 0 0)), none⟩,
    ⟨some 5, .mov (.k (.int .i64 0)), none⟩]) (.keep [0, 1])) (
 .seq (
  .seq (
   .seq (
   .region [⟨some 12, .mov (.t 0), none⟩,
     ⟨some 13, .call false (.inr 55) [.t 12], none⟩,
     ⟨some 14, .mov (.t 1), none⟩,
     ⟨some 15, .call false (.inr 57) [.t 14], none⟩,
     ⟨some 16, .bsl false 1 [.t 13, .t 15], none⟩,
     ⟨some 17, .call false (.inr 51) [.t 16], none⟩,
     ⟨some 6, .mov (.t 17), none⟩]) (.keep [0, 1, 6])) (
  .seq (
   .seq (
   .region [⟨some 18, .mov (.t 6), none⟩,
     ⟨some 19, .bin .neq (.t 18) (.k (.int .i64 0)), none⟩]) (.keep [0, 1, 6, 19])) (
  .cond (.t 19) (
   .seq (
    .seq (
    .region [⟨some 20, .mov (.t 6), none⟩,
      ⟨some 4, .mov (.k (.slice none 0 0)), none⟩,
      ⟨some 5, .mov (.t 20), none⟩]) (.keep [4, 5])) (
   .ret)) (
   .skip)))) (
 .seq (
  .seq (
  .region [⟨some 22, .mov (.t 0), none⟩,
    ⟨some 23, .call false (.inr 63) [.t 22], none⟩,
    ⟨some 21, .mov (.t 23), none⟩,
    ⟨some 24, .ext 0 (.t 21), none⟩,
    ⟨some 25, .ext 1 (.t 21), none⟩,
    ⟨some 7, .mov (.t 24), none⟩,
    ⟨some 8, .mov (.t 25), none⟩]) (.keep [0, 1, 7])) (
 .seq (
  .seq (
  .region [⟨some 26, .mkmap, none⟩,
    ⟨some 9, .alloc none [.map none], none⟩,
    ⟨none, .store 1 (.t 9) (.t 26), none⟩]) (.keep [0, 1, 7, 9])) (
 .seq (
  .seq (
   .seq (
   .region [⟨some 27, .mov (.t 7), none⟩,
     ⟨some 28, .len (.t 27), none⟩,
     ⟨some 29, .mov (.k (.int .i64 0)), none⟩]) (.keep [0, 1, 9, 27, 28, 29])) (
  .block 0 (
   .seq (.keep [0, 1, 9, 27, 28, 29]) (.loop (.seq (
    .seq (
     .seq (
     .region [⟨some 30, .bin .lss (.t 29) (.t 28), none⟩]) (.keep [0, 1, 9, 27, 28, 29, 30])) (
    .seq (
     .cond (.t 30) (
      .skip) (
      .exit 0)) (
    .seq (
     .block 1 (
      .seq (
       .seq (
       .region [⟨some 31, .iaddr 4 (.t 27) (.t 29), none⟩,
         ⟨some 32, .load (some 4) (.t 31), none⟩,
         ⟨some 11, .alloc (some 4) [.int .i64 0, .int .i64 0, .int .i64 0, .int .i64 0], none⟩,
         ⟨none, .store 4 (.t 11) (.t 32), none⟩]) (.keep [0, 1, 9, 11, 27, 28, 29])) (
      .seq (
       .seq (
       .region [⟨some 33, .faddr 3 (.t 11), none⟩,
         ⟨some 34, .load none (.t 33), none⟩,
         ⟨some 35, .faddr 2 (.t 11), none⟩,
         ⟨some 36, .load none (.t 35), none⟩,
         ⟨some 37, .bin .sub (.t 34) (.t 36), none⟩,
         ⟨some 38, .mov (.t 1), none⟩,
         ⟨some 39, .bin .lss (.t 37) (.t 38), none⟩]) (.keep [0, 1, 9, 11, 27, 28, 29, 39])) (
      .cond (.t 39) (
       .seq (
       .seq (.holes 0) (
       .regionD [(⟨some 40, .load none (.t 9), none⟩, none),
         (⟨some 41, .faddr 0 (.t 11), none⟩, none),
         (⟨some 42, .load none (.t 41), none⟩, none),
         (⟨some 43, .load none (.t 9), none⟩, none),
         (⟨some 44, .faddr 1 (.t 11), none⟩, none),
         (⟨some 45, .load none (.t 44), none⟩, none),
         (⟨none, .mupd .int (.t 40) (.t 42) (.k (.bool true)), none⟩, none),
         (⟨none, .mupd .int (.t 43) (.t 45) (.k (.bool true)), none⟩, none)] [(3, 6), (4, 6), (5, 6)])) (.keep [0, 1, 9, 27, 28, 29])) (
       .skip))))) (
    .seq (
    .region [⟨some 46, .bin .add (.t 29) (.k (.int .i64 1)), none⟩,
      ⟨some 29, .mov (.t 46), none⟩]) (.keep [0, 1, 9, 27, 28, 29]))))) (.seq (.keep [0, 1, 9, 27, 28, 29]) .cut)))))) (
 .seq (
  .seq (
  .region [⟨some 47, .mov (.t 0), none⟩,
    ⟨some 48, .mkfn 65 [.t 9], none⟩,
    ⟨some 49, .call false (.inr 64) [.t 47, .t 48], none⟩,
    ⟨some 4, .mov (.t 49), none⟩,
    ⟨some 5, .mov (.k (.int .i64 0)), none⟩]) (.keep [4, 5])) (
 .ret))))))) }
def c31 : CFunc := { nparams := 1, ntmps := 45, results := [(2, none), (3, none)], body := (
 .seq (
  .seq (
  .region [⟨some 2, .mov (.k (.slice none 0 0)), none⟩,
    ⟨some 3, .mov (.k (.int .i64 0)), none⟩]) (.keep [0])) (
 .seq (
  .seq (
   .seq (
   .region [⟨some 9, .mov (.t 0), none⟩,
     ⟨some 10, .call false (.inr 55) [.t 9], none⟩,
     ⟨some 4, .mov (.t 10), none⟩]) (.keep [0, 4])) (
  .seq (
   .seq (
   .region [⟨some 11, .mov (.t 4), none⟩,
     ⟨some 12, .bin .neq (.t 11) (.k (.int .i64 0)), none⟩]) (.keep [0, 4, 12])) (
  .cond (.t 12) (
   .seq (
    .seq (
    .region [⟨some 13, .mov (.t 4), none⟩,
      ⟨some 2, .mov (.k (.slice none 0 0)), none⟩,
      ⟨some 3, .mov (.t 13), none⟩]) (.keep [2, 3])) (
   .ret)) (
   .skip)))) (
 .seq (
  .seq (
   .seq (
   .region [⟨some 14, .mov (.t 0), none⟩,
     ⟨some 15, .len (.t 14), none⟩,
     ⟨some 16, .bin .eql (.t 15) (.k (.int .i64 0)), none⟩]) (.keep [0, 16])) (
  .cond (.t 16) (
   .seq (
    .seq (
    .region [⟨some 2, .mov (.k (.slice none 0 0)), none⟩,
      ⟨some 3, .mov (.k (.int .i64 0)), none⟩]) (.keep [2, 3])) (
   .ret)) (
   .skip))) (
 .seq (
  .seq (
  .region [⟨some 18, .mov (.t 0), none⟩,
    ⟨some 19, .mov (.t 0), none⟩,
    ⟨some 20, .mov (.t 0), none⟩,
    ⟨some 21, .mov (.t 0), none⟩,
    ⟨some 22, .len (.t 21), none⟩,
    ⟨some 23, .bin .sub (.t 22) (.k (.int .i64 1)), none⟩,
    ⟨some 24, .iaddr 2 (.t 20) (.t 23), none⟩,
    ⟨some 25, .faddr 0 (.t 24), none⟩,
    ⟨some 26, .load none (.t 25), none⟩,
    ⟨some 27, .mov (.t 0), none⟩,
    ⟨some 28, .iaddr 2 (.t 27) (.k (.int .i64 0)), none⟩,
    ⟨some 29, .faddr 0 (.t 28), none⟩,
    ⟨some 30, .load none (.t 29), none⟩,
    ⟨some 31, .bin .sub (.t 26) (.t 30), none⟩,
    ⟨some 32, .bin .add (.t 31) (.k (.int .i64 1)), none⟩,
    ⟨some 33, .call false (.inr 66) [.t 18, .t 19, .t 32], none⟩,
    ⟨some 17, .mov (.t 33), none⟩,
    ⟨some 34, .ext 0 (.t 17), none⟩,
    ⟨some 35, .ext 1 (.t 17), none⟩,
    ⟨some 5, .mov (.t 34), none⟩,
    ⟨some 6, .mov (.t 35), none⟩]) (.keep [5, 6])) (
 .seq (
  .seq (
   .seq (
   .region [⟨some 36, .mov (.t 6), none⟩,
     ⟨some 37, .bin .neq (.t 36) (.k (.int .i64 0)), none⟩]) (.keep [5, 6, 37])) (
  .cond (.t 37) (
   .seq (
    .seq (
    .region [⟨some 38, .mov (.t 6), none⟩,
      ⟨some 2, .mov (.k (.slice none 0 0)), none⟩,
      ⟨some 3, .mov (.t 38), none⟩]) (.keep [2, 3])) (
   .ret)) (
   .skip))) (
 .seq (
  .seq (
  .region [⟨some 40, .mov (.t 5), none⟩,
    ⟨some 41, .call false (.inr 63) [.t 40], none⟩,
    ⟨some 39, .mov (.t 41), none⟩,
    ⟨some 42, .ext 0 (.t 39), none⟩,
    ⟨some 43, .ext 1 (.t 39), none⟩,
    ⟨some 7, .mov (.t 42), none⟩,
    ⟨some 8, .mov (.t 43), none⟩]) (.keep [7])) (
 .seq (
  .seq (
  .region [⟨some 44, .mov (.t 7), none⟩,
    ⟨some 2, .mov (.t 44), none⟩,
    ⟨some 3, .mov (.k (.int .i64 0)), none⟩]) (.keep [2, 3])) (
 .ret)))))))) }
def c32 : CFunc := { nparams := 2, ntmps := 27, results := [(4, none), (5, none)], body := (
 .seq (
  .seq (
  .region [⟨some 4, .mov (.k (.int .i64 0)), none⟩,
    ⟨some 5, .mov (.k (.int .i64 0)), none⟩]) (.keep [0, 1])) (
 .seq (
  .seq (
   .seq (
   .region [⟨some 8, .mov (.t 0), none⟩,
     ⟨some 9, .call false (.inr 24) [.t 8], none⟩,
     ⟨some 10, .mov (.t 1), none⟩,
     ⟨some 11, .call false (.inr 67) [.t 10], none⟩,
     ⟨some 12, .bsl false 1 [.t 9, .t 11], none⟩,
     ⟨some 13, .call false (.inr 51) [.t 12], none⟩,
     ⟨some 6, .mov (.t 13), none⟩]) (.keep [0, 1, 6])) (
  .seq (
   .seq (
   .region [⟨some 14, .mov (.t 6), none⟩,
     ⟨some 15, .bin .neq (.t 14) (.k (.int .i64 0)), none⟩]) (.keep [0, 1, 6, 15])) (
  .cond (.t 15) (
   .seq (
    .seq (
    .region [⟨some 16, .mov (.t 6), none⟩,
      ⟨some 4, .mov (.k (.int .i64 0)), none⟩,
      ⟨some 5, .mov (.t 16), none⟩]) (.keep [4, 5])) (
   .ret)) (
   .skip)))) (
 .seq (
  .seq (
  .region [⟨some 17, .build [.int .i64 0, .bool false] [], none⟩,
    ⟨some 18, .box true 2 (.t 17), none⟩,
    ⟨some 7, .mov (.t 18), none⟩]) (.keep [0, 1, 7])) (
 .seq (
  .seq (
  .region [⟨some 19, .mov (.t 7), none⟩,
    ⟨some 20, .mov (.t 0), none⟩,
    ⟨some 21, .mov (.t 1), none⟩,
    ⟨some 22, .call true (.inr 68) [.t 19, .t 20, .t 21, .k (.int .i64 1)], none⟩]) (.keep [7])) (
 .seq (
  .seq (
  .region [⟨some 23, .mov (.t 7), none⟩,
    ⟨some 24, .call false (.inr 69) [.t 23], none⟩,
    ⟨some 25, .ext 0 (.t 24), none⟩,
    ⟨some 26, .ext 1 (.t 24), none⟩,
    ⟨some 4, .mov (.t 25), none⟩,
    ⟨some 5, .mov (.t 26), none⟩]) (.keep [4, 5])) (
 .ret)))))) }
def c33 : CFunc := { nparams := 2, ntmps := 27, results := [(4, none), (5, none)], body := (
 .seq (
  .seq (
  .region [⟨some 4, .mov (.k (.int .i64 0)), none⟩,
    ⟨some 5, .mov (.k (.int .i64 0)), none⟩]) (.keep [0, 1])) (
 .seq (
  .seq (
   .seq (
   .region [⟨some 8, .mov (.t 0), none⟩,
     ⟨some 9, .call false (.inr 55) [.t 8], none⟩,
     ⟨some 10, .mov (.t 1), none⟩,
     ⟨some 11, .call false (.inr 67) [.t 10], none⟩,
     ⟨some 12, .bsl false 1 [.t 9, .t 11], none⟩,
     ⟨some 13, .call false (.inr 51) [.t 12], none⟩,
     ⟨some 6, .mov (.t 13), none⟩]) (.keep [0, 1, 6])) (
  .seq (
   .seq (
   .region [⟨some 14, .mov (.t 6), none⟩,
     ⟨some 15, .bin .neq (.t 14) (.k (.int .i64 0)), none⟩]) (.keep [0, 1, 6, 15])) (
  .cond (.t 15) (
   .seq (
    .seq (
    .region [⟨some 16, .mov (.t 6), none⟩,
      ⟨some 4, .mov (.k (.int .i64 0)), none⟩,
      ⟨some 5, .mov (.t 16), none⟩]) (.keep [4, 5])) (
   .ret)) (
   .skip)))) (
 .seq (
  .seq (
  .region [⟨some 17, .build [.int .i64 0, .bool false] [], none⟩,
    ⟨some 18, .box true 2 (.t 17), none⟩,
    ⟨some 7, .mov (.t 18), none⟩]) (.keep [0, 1, 7])) (
 .seq (
  .seq (
  .region [⟨some 19, .mov (.t 7), none⟩,
    ⟨some 20, .mov (.t 0), none⟩,
    ⟨some 21, .mov (.t 1), none⟩,
    ⟨some 22, .call true (.inr 70) [.t 19, .t 20, .t 21], none⟩]) (.keep [7])) (
 .seq (
  .seq (
  .region [⟨some 23, .mov (.t 7), none⟩,
    ⟨some 24, .call false (.inr 69) [.t 23], none⟩,
    ⟨some 25, .ext 0 (.t 24), none⟩,
    ⟨some 26, .ext 1 (.t 24), none⟩,
    ⟨some 4, .mov (.t 25), none⟩,
    ⟨some 5, .mov (.t 26), none⟩]) (.keep [4, 5])) (
 .ret)))))) }
def c34 : CFunc := { nparams := 2, ntmps := 21, results := [(4, none), (5, none)], body := (
 .seq (
  .seq (
  .region [⟨some 4, .mov (.k (.int .i64 0)), none⟩,
    ⟨some 5, .mov (.k (.int .i64 0)), none⟩]) (.keep [0, 1])) (
 .seq (
  .seq (
   .seq (
   .region [⟨some 7, .mov (.t 0), none⟩,
     ⟨some 8, .call false (.inr 61) [.t 7], none⟩,
     ⟨some 9, .mov (.t 1), none⟩,
     ⟨some 10, .call false (.inr 67) [.t 9], none⟩,
     ⟨some 11, .bsl false 1 [.t 8, .t 10], none⟩,
     ⟨some 12, .call false (.inr 51) [.t 11], none⟩,
     ⟨some 6, .mov (.t 12), none⟩]) (.keep [0, 1, 6])) (
  .seq (
   .seq (
   .region [⟨some 13, .mov (.t 6), none⟩,
     ⟨some 14, .bin .neq (.t 13) (.k (.int .i64 0)), none⟩]) (.keep [0, 1, 6, 14])) (
  .cond (.t 14) (
   .seq (
    .seq (
    .region [⟨some 15, .mov (.t 6), none⟩,
      ⟨some 4, .mov (.k (.int .i64 0)), none⟩,
      ⟨some 5, .mov (.t 15), none⟩]) (.keep [4, 5])) (
   .ret)) (
   .skip)))) (
 .seq (
  .seq (
  .region [⟨some 16, .mov (.t 0), none⟩,
    ⟨some 17, .mov (.t 1), none⟩,
    ⟨some 18, .call false (.inr 71) [.t 16, .t 17], none⟩,
    ⟨some 19, .ext 0 (.t 18), none⟩,
    ⟨some 20, .ext 1 (.t 18), none⟩,
    ⟨some 4, .mov (.t 19), none⟩,
    ⟨some 5, .mov (.t 20), none⟩]) (.keep [4, 5])) (
 .ret)))) }
def c35 : CFunc := { nparams := 2, ntmps := 26, results := [(4, none)], body := (
 .seq (
  .seq (
  .region [⟨some 4, .mov (.k (.bool false)), none⟩]) (.keep [0, 1])) (
 .seq (
  .seq (
   .seq (
   .region [⟨some 6, .mov (.t 0), none⟩,
     ⟨some 7, .len (.t 6), none⟩,
     ⟨some 8, .mov (.t 1), none⟩,
     ⟨some 9, .len (.t 8), none⟩,
     ⟨some 10, .bin .neq (.t 7) (.t 9), none⟩]) (.keep [0, 1, 10])) (
  .cond (.t 10) (
   .seq (
    .seq (
    .region [⟨some 4, .mov (.k (.bool false)), none⟩]) (.keep [4])) (
   .ret)) (
   .skip))) (
 .seq (
  .seq (
   .seq (
   .region [⟨some 5, .mov (.k (.int .i64 0)), none⟩]) (.keep [0, 1, 5])) (
  .block 0 (
   .seq (.keep [0, 1, 5]) (.loop (.seq (
    .seq (
     .seq (
      .seq (
      .region [⟨some 11, .mov (.t 5), none⟩,
        ⟨some 12, .mov (.t 0), none⟩,
        ⟨some 13, .len (.t 12), none⟩,
        ⟨some 14, .bin .lss (.t 11) (.t 13), none⟩]) (.keep [0, 1, 5, 14])) (
     .cond (.t 14) (
      .skip) (
      .exit 0))) (
    .seq (
     .block 1 (
      .seq (
       .seq (
       .region [⟨some 17, .mov (.t 0), none⟩,
         ⟨some 18, .mov (.t 5), none⟩,
         ⟨some 19, .iaddr 2 (.t 17) (.t 18), none⟩,
         ⟨some 20, .load (some 2) (.t 19), none⟩,
         ⟨some 21, .mov (.t 1), none⟩,
         ⟨some 22, .mov (.t 5), none⟩,
         ⟨some 23, .iaddr 2 (.t 21) (.t 22), none⟩,
         ⟨some 24, .load (some 2) (.t 23), none⟩,
         ⟨some 25, .eqs true [.int, .int] (.t 20) (.t 24), none⟩]) (.keep [0, 1, 5, 25])) (
      .cond (.t 25) (
       .seq (
        .seq (
        .region [⟨some 4, .mov (.k (.bool false)), none⟩]) (.keep [4])) (
       .ret)) (
       .skip)))) (
    .seq (
    .region [⟨some 15, .mov (.t 5), none⟩,
      ⟨some 16, .bin .add (.t 15) (.k (.int .i64 1)), none⟩,
      ⟨some 5, .mov (.t 16), none⟩]) (.keep [0, 1, 5])))) (.keep [0, 1, 5])))))) (
 .seq (
  .seq (
  .region [⟨some 4, .mov (.k (.bool true)), none⟩]) (.keep [4])) (
 .ret))))) }
def c36 : CFunc := { nparams := 1, ntmps := 18, results := [(2, none)], body := (
 .seq (
  .seq (
  .region [⟨some 2, .mov (.k (.slice none 0 0)), none⟩]) (.keep [0])) (
 .seq (
  .seq (
  .region [⟨some 3, .onil 2, none⟩]) (.keep [0, 3])) (
 .seq (
  .seq (
   .seq (
   .region [⟨some 6, .mov (.t 0), none⟩,
     ⟨some 7, .len (.t 6), none⟩,
     ⟨some 8, .mov (.k (.int .i64 0)), none⟩]) (.keep [3, 6, 7, 8])) (
  .block 0 (
   .seq (.keep [3, 6, 7, 8]) (.loop (.seq (
    .seq (
     .seq (
     .region [⟨some 9, .bin .lss (.t 8) (.t 7), none⟩]) (.keep [3, 6, 7, 8, 9])) (
    .seq (
     .cond (.t 9) (
      .skip) (
      .exit 0)) (
    .seq (
     .block 1 (
      .seq (
       .seq (
       .region [⟨some 10, .iaddr 2 (.t 6) (.t 8), none⟩,
         ⟨some 11, .load (some 2) (.t 10), none⟩,
         ⟨some 5, .alloc (some 2) [.int .i64 0, .int .i64 0], none⟩,
         ⟨none, .store 2 (.t 5) (.t 11), none⟩]) (.keep [3, 5, 6, 7, 8])) (
      .seq (
      .region [⟨some 12, .mov (.t 3), none⟩,
        ⟨some 13, .load (some 2) (.t 5), none⟩,
        ⟨some 14, .bsl false 2 [.t 13], none⟩,
        ⟨some 15, .append 2 16 (.t 12) (.t 14), none⟩,
        ⟨some 3, .mov (.t 15), none⟩]) (.keep [3, 6, 7, 8])))) (
    .seq (
    .region [⟨some 16, .bin .add (.t 8) (.k (.int .i64 1)), none⟩,
      ⟨some 8, .mov (.t 16), none⟩]) (.keep [3, 6, 7, 8]))))) (.seq (.keep [3, 6, 7, 8]) .cut)))))) (
 .seq (
  .seq (
  .region [⟨some 17, .fz (.mov (.t 3)), none⟩,
    ⟨some 2, .mov (.t 17), none⟩]) (.keep [2])) (
 .ret))))) }
def c37 : CFunc := { nparams := 2, ntmps := 26, results := [(4, none)], body := (
 .seq (
  .seq (
  .region [⟨some 4, .mov (.k (.bool false)), none⟩]) (.keep [0, 1])) (
 .seq (
  .seq (
   .seq (
   .region [⟨some 6, .mov (.t 0), none⟩,
     ⟨some 7, .len (.t 6), none⟩,
     ⟨some 8, .mov (.t 1), none⟩,
     ⟨some 9, .len (.t 8), none⟩,
     ⟨some 10, .bin .neq (.t 7) (.t 9), none⟩]) (.keep [0, 1, 10])) (
  .cond (.t 10) (
   .seq (
    .seq (
    .region [⟨some 4, .mov (.k (.bool false)), none⟩]) (.keep [4])) (
   .ret)) (
   .skip))) (
 .seq (
  .seq (
   .seq (
   .region [⟨some 5, .mov (.k (.int .i64 0)), none⟩]) (.keep [0, 1, 5])) (
  .block 0 (
   .seq (.keep [0, 1, 5]) (.loop (.seq (
    .seq (
     .seq (
      .seq (
      .region [⟨some 11, .mov (.t 5), none⟩,
        ⟨some 12, .mov (.t 0), none⟩,
        ⟨some 13, .len (.t 12), none⟩,
        ⟨some 14, .bin .lss (.t 11) (.t 13), none⟩]) (.keep [0, 1, 5, 14])) (
     .cond (.t 14) (
      .skip) (
      .exit 0))) (
    .seq (
     .block 1 (
      .seq (
       .seq (
       .region [⟨some 17, .mov (.t 0), none⟩,
         ⟨some 18, .mov (.t 5), none⟩,
         ⟨some 19, .iaddr 4 (.t 17) (.t 18), none⟩,
         ⟨some 20, .load (some 4) (.t 19), none⟩,
         ⟨some 21, .mov (.t 1), none⟩,
         ⟨some 22, .mov (.t 5), none⟩,
         ⟨some 23, .iaddr 4 (.t 21) (.t 22), none⟩,
         ⟨some 24, .load (some 4) (.t 23), none⟩,
         ⟨some 25, .eqs true [.int, .int, .int, .int] (.t 20) (.t 24), none⟩]) (.keep [0, 1, 5, 25])) (
      .cond (.t 25) (
       .seq (
        .seq (
        .region [⟨some 4, .mov (.k (.bool false)), none⟩]) (.keep [4])) (
       .ret)) (
       .skip)))) (
    .seq (
    .region [⟨some 15, .mov (.t 5), none⟩,
      ⟨some 16, .bin .add (.t 15) (.k (.int .i64 1)), none⟩,
      ⟨some 5, .mov (.t 16), none⟩]) (.keep [0, 1, 5])))) (.keep [0, 1, 5])))))) (
 .seq (
  .seq (
  .region [⟨some 4, .mov (.k (.bool true)), none⟩]) (.keep [4])) (
 .ret))))) }
def c38 : CFunc := { nparams := 1, ntmps := 18, results := [(2, none)], body := (
 .seq (
  .seq (
  .region [⟨some 2, .mov (.k (.slice none 0 0)), none⟩]) (.keep [0])) (
 .seq (
  .seq (
  .region [⟨some 3, .onil 4, none⟩]) (.keep [0, 3])) (
 .seq (
  .seq (
   .seq (
   .region [⟨some 6, .mov (.t 0), none⟩,
     ⟨some 7, .len (.t 6), none⟩,
     ⟨some 8, .mov (.k (.int .i64 0)), none⟩]) (.keep [3, 6, 7, 8])) (
  .block 0 (
   .seq (.keep [3, 6, 7, 8]) (.loop (.seq (
    .seq (
     .seq (
     .region [⟨some 9, .bin .lss (.t 8) (.t 7), none⟩]) (.keep [3, 6, 7, 8, 9])) (
    .seq (
     .cond (.t 9) (
      .skip) (
      .exit 0)) (
    .seq (
     .block 1 (
      .seq (
       .seq (
       .region [⟨some 10, .iaddr 4 (.t 6) (.t 8), none⟩,
         ⟨some 11, .load (some 4) (.t 10), none⟩,
         ⟨some 5, .alloc (some 4) [.int .i64 0, .int .i64 0, .int .i64 0, .int .i64 0], none⟩,
         ⟨none, .store 4 (.t 5) (.t 11), none⟩]) (.keep [3, 5, 6, 7, 8])) (
      .seq (
      .region [⟨some 12, .mov (.t 3), none⟩,
        ⟨some 13, .load (some 4) (.t 5), none⟩,
        ⟨some 14, .bsl false 4 [.t 13], none⟩,
        ⟨some 15, .append 4 32 (.t 12) (.t 14), none⟩,
        ⟨some 3, .mov (.t 15), none⟩]) (.keep [3, 6, 7, 8])))) (
    .seq (
    .region [⟨some 16, .bin .add (.t 8) (.k (.int .i64 1)), none⟩,
      ⟨some 8, .mov (.t 16), none⟩]) (.keep [3, 6, 7, 8]))))) (.seq (.keep [3, 6, 7, 8]) .cut)))))) (
 .seq (
  .seq (
  .region [⟨some 17, .fz (.mov (.t 3)), none⟩,
    ⟨some 2, .mov (.t 17), none⟩]) (.keep [2])) (
 .ret))))) }
def c39 : CFunc := { nparams := 1, ntmps := 20, results := [(2, none)], body := (
 .seq (
  .seq (
  .region [⟨some 2, .mov (.k (.slice none 0 0)), none⟩]) (.keep [0])) (
 .seq (
  .seq (
  .region [⟨some 3, .onil 1, none⟩]) (.keep [0, 3])) (
 .seq (
  .seq (
   .seq (
   .region [⟨some 4, .mov (.k (.int .i64 0)), none⟩]) (.keep [0, 3, 4])) (
  .block 0 (
   .seq (.keep [0, 3, 4]) (.loop (.seq (
    .seq (
     .seq (
      .seq (
      .region [⟨some 5, .mov (.t 4), none⟩,
        ⟨some 6, .mov (.t 0), none⟩,
        ⟨some 7, .len (.t 6), none⟩,
        ⟨some 8, .bin .lss (.t 5) (.t 7), none⟩]) (.keep [0, 3, 4, 8])) (
     .cond (.t 8) (
      .skip) (
      .exit 0))) (
    .seq (
     .block 1 (
      .seq (
      .region [⟨some 11, .mov (.t 3), none⟩,
        ⟨some 12, .mov (.t 0), none⟩,
        ⟨some 13, .mov (.t 4), none⟩,
        ⟨some 14, .iaddr 2 (.t 12) (.t 13), none⟩,
        ⟨some 15, .faddr 1 (.t 14), none⟩,
        ⟨some 16, .load none (.t 15), none⟩,
        ⟨some 17, .bsl false 1 [.t 16], none⟩,
        ⟨some 18, .append 1 8 (.t 11) (.t 17), none⟩,
        ⟨some 3, .mov (.t 18), none⟩]) (.keep [0, 3, 4]))) (
    .seq (
    .region [⟨some 9, .mov (.t 4), none⟩,
      ⟨some 10, .bin .add (.t 9) (.k (.int .i64 1)), none⟩,
      ⟨some 4, .mov (.t 10), none⟩]) (.keep [0, 3, 4])))) (.keep [0, 3, 4])))))) (
 .seq (
  .seq (
  .region [⟨some 19, .fz (.mov (.t 3)), none⟩,
    ⟨some 2, .mov (.t 19), none⟩]) (.keep [2])) (
 .ret))))) }
def c40 : CFunc := { nparams := 2, ntmps := 39, results := [(4, none), (5, none)], body := (
 .seq (
  .seq (
  .region [⟨some 2, .box false 2 (.t 0), none⟩,
    ⟨some 4, .mov (.k (.int .i64 0)), none⟩,
    ⟨some 5, .mov (.k (.int .i64 0)), none⟩]) (.keep [1, 2])) (
 .seq (
  .seq (
   .seq (
   .region [⟨some 9, .load (some 2) (.t 2), none⟩,
     ⟨some 10, .call false (.inr 72) [.t 9], none⟩,
     ⟨some 11, .mov (.t 1), none⟩,
     ⟨some 12, .call false (.inr 61) [.t 11], none⟩,
     ⟨some 13, .bsl false 1 [.t 10, .t 12], none⟩,
     ⟨some 14, .call false (.inr 51) [.t 13], none⟩,
     ⟨some 6, .mov (.t 14), none⟩]) (.keep [1, 2, 6])) (
  .seq (
   .seq (
   .region [⟨some 15, .mov (.t 6), none⟩,
     ⟨some 16, .bin .neq (.t 15) (.k (.int .i64 0)), none⟩]) (.keep [1, 2, 6, 16])) (
  .cond (.t 16) (
   .seq (
    .seq (
    .region [⟨some 17, .mov (.t 6), none⟩,
      ⟨some 4, .mov (.k (.int .i64 0)), none⟩,
      ⟨some 5, .mov (.t 17), none⟩]) (.keep [4, 5])) (
   .ret)) (
   .skip)))) (
 .seq (
  .seq (
  .region [⟨some 19, .mov (.t 1), none⟩,
    ⟨some 20, .faddr 1 (.t 2), none⟩,
    ⟨some 21, .load none (.t 20), none⟩,
    ⟨some 22, .call false (.inr 71) [.t 19, .t 21], none⟩,
    ⟨some 18, .mov (.t 22), none⟩,
    ⟨some 23, .ext 0 (.t 18), none⟩,
    ⟨some 24, .ext 1 (.t 18), none⟩,
    ⟨some 7, .mov (.t 23), none⟩,
    ⟨some 8, .mov (.t 24), none⟩]) (.keep [2, 7, 8])) (
 .seq (
  .seq (
   .seq (
   .region [⟨some 25, .mov (.t 8), none⟩,
     ⟨some 26, .mov (.t 7), none⟩,
     ⟨some 27, .bin .eql (.t 26) (.k (.int .i64 0)), none⟩,
     ⟨some 28, .call false (.inr 56) [.t 27, .k (.int .i64 7)], none⟩,
     ⟨some 29, .bsl false 1 [.t 25, .t 28], none⟩,
     ⟨some 30, .call false (.inr 51) [.t 29], none⟩,
     ⟨some 8, .mov (.t 30), none⟩]) (.keep [2, 7, 8])) (
  .seq (
   .seq (
   .region [⟨some 31, .mov (.t 8), none⟩,
     ⟨some 32, .bin .neq (.t 31) (.k (.int .i64 0)), none⟩]) (.keep [2, 7, 8, 32])) (
  .cond (.t 32) (
   .seq (
    .seq (
    .region [⟨some 33, .mov (.t 8), none⟩,
      ⟨some 4, .mov (.k (.int .i64 0)), none⟩,
      ⟨some 5, .mov (.t 33), none⟩]) (.keep [4, 5])) (
   .ret)) (
   .skip)))) (
 .seq (
  .seq (
  .region [⟨some 34, .faddr 0 (.t 2), none⟩,
    ⟨some 35, .load none (.t 34), none⟩,
    ⟨some 36, .bin .mul (.k (.int .i64 2)) (.t 35), none⟩,
    ⟨some 37, .mov (.t 7), none⟩,
    ⟨some 38, .bin .quo (.t 36) (.t 37), none⟩,
    ⟨some 4, .mov (.t 38), none⟩,
    ⟨some 5, .mov (.k (.int .i64 0)), none⟩]) (.keep [4, 5])) (
 .ret)))))) }
def c41 : CFunc := { nparams := 3, ntmps := 37, results := [(6, none), (7, none)], body := (
 .seq (
  .seq (
  .region [⟨some 6, .mov (.k (.int .i64 0)), none⟩,
    ⟨some 7, .mov (.k (.int .i64 0)), none⟩]) (.keep [0, 1, 2])) (
 .seq (
  .seq (
  .region [⟨some 12, .mov (.t 0), none⟩,
    ⟨some 13, .mov (.t 1), none⟩,
    ⟨some 14, .call false (.inr 32) [.t 12, .t 13], none⟩,
    ⟨some 11, .mov (.t 14), none⟩,
    ⟨some 15, .ext 0 (.t 11), none⟩,
    ⟨some 16, .ext 1 (.t 11), none⟩,
    ⟨some 8, .mov (.t 15), none⟩,
    ⟨some 9, .mov (.t 16), none⟩]) (.keep [1, 2, 8, 9])) (
 .seq (
  .seq (
   .seq (
   .region [⟨some 17, .mov (.t 9), none⟩,
     ⟨some 18, .bin .neq (.t 17) (.k (.int .i64 0)), none⟩,
     ⟨some 19, .mov (.t 18), none⟩,
     ⟨some 20, .mov (.t 9), (some (19, true))⟩,
     ⟨some 21, .bin .neq (.t 20) (.k (.int .i64 4)), (some (19, true))⟩,
     ⟨some 22, .pick (.t 19) (.t 21) (.k (.bool false)), none⟩]) (.keep [1, 2, 8, 9, 22])) (
  .cond (.t 22) (
   .seq (
    .seq (
    .region [⟨some 23, .mov (.t 9), none⟩,
      ⟨some 6, .mov (.k (.int .i64 0)), none⟩,
      ⟨some 7, .mov (.t 23), none⟩]) (.keep [6, 7])) (
   .ret)) (
   .skip))) (
 .seq (
  .seq (
   .seq (
   .region [⟨some 24, .mov (.t 2), none⟩,
     ⟨some 25, .call false (.inr 52) [.t 24, .k (.int .i64 1), .k (.int .i64 999999999)], none⟩,
     ⟨some 26, .mov (.t 9), none⟩,
     ⟨some 27, .bsl false 1 [.t 25, .t 26], none⟩,
     ⟨some 28, .call false (.inr 51) [.t 27], none⟩,
     ⟨some 10, .mov (.t 28), none⟩]) (.keep [1, 2, 8, 10])) (
  .seq (
   .seq (
   .region [⟨some 29, .mov (.t 10), none⟩,
     ⟨some 30, .bin .neq (.t 29) (.k (.int .i64 0)), none⟩]) (.keep [1, 2, 8, 10, 30])) (
  .cond (.t 30) (
   .seq (
    .seq (
    .region [⟨some 31, .mov (.t 10), none⟩,
      ⟨some 6, .mov (.k (.int .i64 0)), none⟩,
      ⟨some 7, .mov (.t 31), none⟩]) (.keep [6, 7])) (
   .ret)) (
   .skip)))) (
 .seq (
  .seq (
  .region [⟨some 32, .mov (.t 8), none⟩,
    ⟨some 33, .mov (.t 2), none⟩,
    ⟨some 34, .bin .quo (.t 32) (.t 33), none⟩,
    ⟨some 35, .mov (.t 1), none⟩,
    ⟨some 36, .call false (.inr 73) [.t 34, .t 35], none⟩,
    ⟨some 6, .mov (.t 36), none⟩,
    ⟨some 7, .mov (.k (.int .i64 0)), none⟩]) (.keep [6, 7])) (
 .ret)))))) }
def c42 : CFunc := { nparams := 2, ntmps := 14, results := [(4, none)], body := (
 .seq (
  .seq (
  .region [⟨some 4, .mov (.k (.bool false)), none⟩]) (.keep [0, 1])) (
 .seq (
  .seq (
  .region [⟨some 5, .mov (.t 0), none⟩,
    ⟨some 6, .len (.t 5), none⟩,
    ⟨some 7, .mov (.t 1), none⟩,
    ⟨some 8, .bin .leq (.t 6) (.t 7), none⟩,
    ⟨some 9, .mov (.t 8), none⟩,
    ⟨some 10, .mov (.t 0), (some (9, false))⟩,
    ⟨some 11, .len (.t 10), (some (9, false))⟩,
    ⟨some 12, .bin .eql (.t 11) (.k (.int .i64 1025)), (some (9, false))⟩,
    ⟨some 13, .pick (.t 9) (.k (.bool true)) (.t 12), none⟩,
    ⟨some 4, .mov (.t 13), none⟩]) (.keep [4])) (
 .ret))) }
def c43 : CFunc := { nparams := 1, ntmps := 82, results := [(2, none)], body := (
 .seq (
  .seq (
  .region [⟨some 1, .box false 4 (.t 0), none⟩,
    ⟨some 2, .mov (.k (.int .i64 0)), none⟩]) (.keep [1])) (
 .seq (
  .seq (
   .seq (
   .region [⟨some 11, .faddr 0 (.t 1), none⟩,
     ⟨some 12, .load none (.t 11), none⟩,
     ⟨some 13, .call false (.inr 75) [.t 12], none⟩,
     ⟨some 14, .faddr 1 (.t 1), none⟩,
     ⟨some 15, .load none (.t 14), none⟩,
     ⟨some 16, .call false (.inr 76) [.t 15, .k (.int .i64 0), .k (.int .i64 999999999)], none⟩,
     ⟨some 17, .faddr 2 (.t 1), none⟩,
     ⟨some 18, .load none (.t 17), none⟩,
     ⟨some 19, .len (.t 18), none⟩,
     ⟨some 20, .bin .gtr (.t 19) (.k (.int .i64 40000)), none⟩,
     ⟨some 21, .call false (.inr 77) [.t 20, .k (.int .i64 5)], none⟩,
     ⟨some 22, .bsl false 1 [.t 13, .t 16, .t 21], none⟩,
     ⟨some 23, .call false (.inr 74) [.t 22], none⟩,
     ⟨some 3, .mov (.t 23), none⟩]) (.keep [1, 3])) (
  .seq (
   .seq (
   .region [⟨some 24, .mov (.t 3), none⟩,
     ⟨some 25, .bin .neq (.t 24) (.k (.int .i64 0)), none⟩]) (.keep [1, 3, 25])) (
  .cond (.t 25) (
   .seq (
    .seq (
    .region [⟨some 26, .mov (.t 3), none⟩,
      ⟨some 2, .mov (.t 26), none⟩]) (.keep [2])) (
   .ret)) (
   .skip)))) (
 .seq (
  .seq (
   .seq (
   .region [⟨some 27, .faddr 2 (.t 1), none⟩,
     ⟨some 28, .load none (.t 27), none⟩,
     ⟨some 29, .len (.t 28), none⟩,
     ⟨some 30, .mov (.k (.int .i64 0)), none⟩]) (.keep [1, 28, 29, 30])) (
  .block 0 (
   .seq (.keep [1, 28, 29, 30]) (.loop (.seq (
    .seq (
     .seq (
     .region [⟨some 31, .bin .lss (.t 30) (.t 29), none⟩]) (.keep [1, 28, 29, 30, 31])) (
    .seq (
     .cond (.t 31) (
      .skip) (
      .exit 0)) (
    .seq (
     .block 1 (
      .seq (
       .seq (
       .region [⟨some 32, .iaddr 1 (.t 28) (.t 30), none⟩,
         ⟨some 33, .load none (.t 32), none⟩,
         ⟨some 5, .mov (.t 33), none⟩]) (.keep [1, 5, 28, 29, 30])) (
      .seq (
       .seq (
       .region [⟨some 34, .mov (.t 5), none⟩,
         ⟨some 35, .call false (.inr 78) [.t 34], none⟩,
         ⟨some 6, .mov (.t 35), none⟩]) (.keep [1, 6, 28, 29, 30])) (
      .seq (
       .seq (
       .region [⟨some 36, .mov (.t 6), none⟩,
         ⟨some 37, .bin .neq (.t 36) (.k (.int .i64 0)), none⟩]) (.keep [1, 6, 28, 29, 30, 37])) (
      .cond (.t 37) (
       .seq (
        .seq (
        .region [⟨some 38, .mov (.t 6), none⟩,
          ⟨some 2, .mov (.t 38), none⟩]) (.keep [2])) (
       .ret)) (
       .skip)))))) (
    .seq (
    .region [⟨some 39, .bin .add (.t 30) (.k (.int .i64 1)), none⟩,
      ⟨some 30, .mov (.t 39), none⟩]) (.keep [1, 28, 29, 30]))))) (.keep [1, 28, 29, 30])))))) (
 .seq (
  .seq (
   .seq (
   .region [⟨some 40, .faddr 3 (.t 1), none⟩,
     ⟨some 41, .load none (.t 40), none⟩,
     ⟨some 42, .call false (.inr 79) [.t 41], none⟩,
     ⟨some 7, .mov (.t 42), none⟩]) (.keep [1, 7])) (
  .seq (
   .seq (
   .region [⟨some 43, .mov (.t 7), none⟩,
     ⟨some 44, .bin .neq (.t 43) (.k (.int .i64 0)), none⟩]) (.keep [1, 7, 44])) (
  .cond (.t 44) (
   .seq (
    .seq (
    .region [⟨some 45, .mov (.t 7), none⟩,
      ⟨some 2, .mov (.t 45), none⟩]) (.keep [2])) (
   .ret)) (
   .skip)))) (
 .seq (
  .seq (
   .seq (
   .region [⟨some 46, .faddr 3 (.t 1), none⟩,
     ⟨some 47, .load none (.t 46), none⟩,
     ⟨some 48, .len (.t 47), none⟩,
     ⟨some 8, .mov (.t 48), none⟩]) (.keep [1, 8])) (
  .seq (
   .seq (
   .region [⟨some 49, .mov (.t 8), none⟩,
     ⟨some 50, .bin .gtr (.t 49) (.k (.int .i64 0)), none⟩,
     ⟨some 51, .mov (.t 50), none⟩,
     ⟨some 52, .faddr 3 (.t 1), (some (51, true))⟩,
     ⟨some 53, .load none (.t 52), (some (51, true))⟩,
     ⟨some 54, .mov (.t 8), (some (51, true))⟩,
     ⟨some 55, .bin .sub (.t 54) (.k (.int .i64 1)), (some (51, true))⟩,
     ⟨some 56, .iaddr 2 (.t 53) (.t 55), (some (51, true))⟩,
     ⟨some 57, .faddr 1 (.t 56), (some (51, true))⟩,
     ⟨some 58, .load none (.t 57), (some (51, true))⟩,
     ⟨some 59, .faddr 2 (.t 1), (some (51, true))⟩,
     ⟨some 60, .load none (.t 59), (some (51, true))⟩,
     ⟨some 61, .len (.t 60), (some (51, true))⟩,
     ⟨some 62, .bin .gtr (.t 58) (.t 61), (some (51, true))⟩,
     ⟨some 63, .pick (.t 51) (.t 62) (.k (.bool false)), none⟩]) (.keep [1, 63])) (
  .cond (.t 63) (
   .seq (
    .seq (
    .region [⟨some 2, .mov (.k (.int .i64 14)), none⟩]) (.keep [2])) (
   .ret)) (
   .skip)))) (
 .seq (
  .seq (
   .seq (
   .region [⟨some 64, .load (some 4) (.t 1), none⟩,
     ⟨some 65, .call false (.inr 80) [.t 64], none⟩,
     ⟨some 66, .len (.t 65), none⟩,
     ⟨some 67, .mov (.k (.int .i64 0)), none⟩]) (.keep [1, 65, 66, 67])) (
  .block 2 (
   .seq (.keep [1, 65, 66, 67]) (.loop (.seq (
    .seq (
     .seq (
     .region [⟨some 68, .bin .lss (.t 67) (.t 66), none⟩]) (.keep [1, 65, 66, 67, 68])) (
    .seq (
     .cond (.t 68) (
      .skip) (
      .exit 2)) (
    .seq (
     .block 3 (
      .seq (
       .seq (
       .region [⟨some 69, .mov (.t 67), none⟩,
         ⟨some 70, .iaddr 1 (.t 65) (.t 67), none⟩,
         ⟨some 71, .load none (.t 70), none⟩,
         ⟨some 9, .mov (.t 69), none⟩,
         ⟨some 10, .mov (.t 71), none⟩]) (.keep [1, 9, 10, 65, 66, 67])) (
      .seq (
       .seq (
       .region [⟨some 72, .mov (.t 10), none⟩,
         ⟨some 73, .mov (.t 72), none⟩,
         ⟨some 74, .faddr 2 (.t 1), (some (73, true))⟩,
         ⟨some 75, .load none (.t 74), (some (73, true))⟩,
         ⟨some 76, .mov (.t 9), (some (73, true))⟩,
         ⟨some 77, .iaddr 1 (.t 75) (.t 76), (some (73, true))⟩,
         ⟨some 78, .load none (.t 77), (some (73, true))⟩,
         ⟨some 79, .sop (.fbin .neq) [.t 78, .k (.float .f32 0)], (some (73, true))⟩,
         ⟨some 80, .pick (.t 73) (.t 79) (.k (.bool false)), none⟩]) (.keep [1, 65, 66, 67, 80])) (
      .cond (.t 80) (
       .seq (
        .seq (
        .region [⟨some 2, .mov (.k (.int .i64 17)), none⟩]) (.keep [2])) (
       .ret)) (
       .skip))))) (
    .seq (
    .region [⟨some 81, .bin .add (.t 67) (.k (.int .i64 1)), none⟩,
      ⟨some 67, .mov (.t 81), none⟩]) (.keep [1, 65, 66, 67]))))) (.keep [1, 65, 66, 67])))))) (
 .seq (
  .seq (
  .region [⟨some 2, .mov (.k (.int .i64 0)), none⟩]) (.keep [2])) (
 .ret)))))))) }
def c44 : CFunc := { nparams := 1, ntmps := 5, results := [(2, none)], body := (
 .seq (
  .seq (
  .region [⟨some 2, .mov (.k (.int .i64 0)), none⟩]) (.keep [0])) (
 .seq (
  .seq (
  .region [⟨some 3, .mov (.t 0), none⟩,
    ⟨some 4, .call false (.inr 52) [.t 3, .k (.int .i64 (-32768)), .k (.int .i64 32768)], none⟩,
    ⟨some 2, .mov (.t 4), none⟩]) (.keep [2])) (
 .ret))) }
def c45 : CFunc := { nparams := 1, ntmps := 50, results := [(2, none)], body := (
 .seq (
  .seq (
  .region [⟨some 2, .mov (.k (.bool false)), none⟩]) (.keep [0])) (
 .seq (
  .seq (
   .seq (
   .region [⟨some 5, .mov (.t 0), none⟩,
     ⟨some 6, .lens (.t 5), none⟩,
     ⟨some 7, .bin .eql (.t 6) (.k (.int .i64 0)), none⟩,
     ⟨some 8, .mov (.t 7), none⟩,
     ⟨some 9, .mov (.t 0), (some (8, false))⟩,
     ⟨some 10, .lens (.t 9), (some (8, false))⟩,
     ⟨some 11, .bin .gtr (.t 10) (.k (.int .i64 24)), (some (8, false))⟩,
     ⟨some 12, .pick (.t 8) (.k (.bool true)) (.t 11), none⟩]) (.keep [0, 12])) (
  .cond (.t 12) (
   .seq (
    .seq (
    .region [⟨some 2, .mov (.k (.bool false)), none⟩]) (.keep [2])) (
   .ret)) (
   .skip))) (
 .seq (
  .seq (
   .seq (
   .region [⟨some 3, .mov (.k (.int .i64 0)), none⟩]) (.keep [0, 3])) (
  .block 0 (
   .seq (.keep [0, 3]) (.loop (.seq (
    .seq (
     .seq (
      .seq (
      .region [⟨some 13, .mov (.t 3), none⟩,
        ⟨some 14, .mov (.t 0), none⟩,
        ⟨some 15, .lens (.t 14), none⟩,
        ⟨some 16, .bin .lss (.t 13) (.t 15), none⟩]) (.keep [0, 3, 16])) (
     .cond (.t 16) (
      .skip) (
      .exit 0))) (
    .seq (
     .block 1 (
      .seq (
       .seq (
       .region [⟨some 19, .mov (.t 0), none⟩,
         ⟨some 20, .mov (.t 3), none⟩,
         ⟨some 21, .idxs (.t 19) (.t 20), none⟩,
         ⟨some 4, .mov (.t 21), none⟩]) (.keep [0, 3, 4])) (
      .seq (
       .seq (
        .seq (
        .region [⟨some 22, .mov (.t 4), none⟩,
          ⟨some 23, .bin .geq (.t 22) (.k (.int .u8 97)), none⟩,
          ⟨some 24, .mov (.t 23), none⟩,
          ⟨some 25, .mov (.t 4), (some (24, true))⟩,
          ⟨some 26, .bin .leq (.t 25) (.k (.int .u8 122)), (some (24, true))⟩,
          ⟨some 27, .pick (.t 24) (.t 26) (.k (.bool false)), none⟩,
          ⟨some 28, .mov (.t 27), none⟩,
          ⟨some 29, .mov (.t 4), (some (28, false))⟩,
          ⟨some 30, .bin .geq (.t 29) (.k (.int .u8 65)), (some (28, false))⟩,
          ⟨some 31, .mov (.t 30), (some (28, false))⟩,
          ⟨some 32, .mov (.t 4), (some (31, true))⟩,
          ⟨some 33, .bin .leq (.t 32) (.k (.int .u8 90)), (some (31, true))⟩,
          ⟨some 34, .pick (.t 31) (.t 33) (.k (.bool false)), (some (28, false))⟩,
          ⟨some 35, .pick (.t 28) (.k (.bool true)) (.t 34), none⟩]) (.keep [0, 3, 4, 35])) (
       .cond (.t 35) (
        .exit 1) (
        .skip))) (
      .seq (
       .seq (
       .region [⟨some 36, .mov (.t 3), none⟩,
         ⟨some 37, .bin .eql (.t 36) (.k (.int .i64 0)), none⟩,
         ⟨some 38, .mov (.t 37), none⟩,
         ⟨some 39, .mov (.t 4), (some (38, false))⟩,
         ⟨some 40, .bin .neq (.t 39) (.k (.int .u8 95)), (some (38, false))⟩,
         ⟨some 41, .mov (.t 40), (some (38, false))⟩,
         ⟨some 42, .mov (.t 4), (some (41, true))⟩,
         ⟨some 43, .bin .lss (.t 42) (.k (.int .u8 48)), (some (41, true))⟩,
         ⟨some 44, .mov (.t 43), (some (41, true))⟩,
         ⟨some 45, .mov (.t 4), (some (44, false))⟩,
         ⟨some 46, .bin .gtr (.t 45) (.k (.int .u8 57)), (some (44, false))⟩,
         ⟨some 47, .pick (.t 44) (.k (.bool true)) (.t 46), (some (41, true))⟩,
         ⟨some 48, .pick (.t 41) (.t 47) (.k (.bool false)), (some (38, false))⟩,
         ⟨some 49, .pick (.t 38) (.k (.bool true)) (.t 48), none⟩]) (.keep [0, 3, 49])) (
      .cond (.t 49) (
       .seq (
        .seq (
        .region [⟨some 2, .mov (.k (.bool false)), none⟩]) (.keep [2])) (
       .ret)) (
       .skip)))))) (
    .seq (
    .region [⟨some 17, .mov (.t 3), none⟩,
      ⟨some 18, .bin .add (.t 17) (.k (.int .i64 1)), none⟩,
      ⟨some 3, .mov (.t 18), none⟩]) (.keep [0, 3])))) (.keep [0, 3])))))) (
 .seq (
  .seq (
  .region [⟨some 2, .mov (.k (.bool true)), none⟩]) (.keep [2])) (
 .ret))))) }
def c46 : CFunc := { nparams := 1, ntmps := 19, results := [(2, none)], body := (
 .seq (
  .seq (
  .region [⟨some 2, .mov (.k (.int .i64 0)), none⟩]) (.keep [0])) (
 .seq (
  .seq (
   .seq (
   .region [⟨some 3, .mov (.k (.int .i64 0)), none⟩]) (.keep [0, 3])) (
  .block 0 (
   .seq (.keep [0, 3]) (.loop (.seq (
    .seq (
     .seq (
      .seq (
      .region [⟨some 5, .mov (.t 3), none⟩,
        ⟨some 6, .mov (.t 0), none⟩,
        ⟨some 7, .len (.t 6), none⟩,
        ⟨some 8, .bin .lss (.t 5) (.t 7), none⟩]) (.keep [0, 3, 8])) (
     .cond (.t 8) (
      .skip) (
      .exit 0))) (
    .seq (
     .block 1 (
      .seq (
       .seq (
       .region [⟨some 11, .mov (.t 0), none⟩,
         ⟨some 12, .mov (.t 3), none⟩,
         ⟨some 13, .iaddr 1 (.t 11) (.t 12), none⟩,
         ⟨some 14, .load none (.t 13), none⟩,
         ⟨some 15, .call false (.inr 81) [.t 14], none⟩,
         ⟨some 4, .mov (.t 15), none⟩]) (.keep [0, 3, 4])) (
      .seq (
       .seq (
       .region [⟨some 16, .mov (.t 4), none⟩,
         ⟨some 17, .bin .neq (.t 16) (.k (.int .i64 0)), none⟩]) (.keep [0, 3, 4, 17])) (
      .cond (.t 17) (
       .seq (
        .seq (
        .region [⟨some 18, .mov (.t 4), none⟩,
          ⟨some 2, .mov (.t 18), none⟩]) (.keep [2])) (
       .ret)) (
       .skip))))) (
    .seq (
    .region [⟨some 9, .mov (.t 3), none⟩,
      ⟨some 10, .bin .add (.t 9) (.k (.int .i64 1)), none⟩,
      ⟨some 3, .mov (.t 10), none⟩]) (.keep [0, 3])))) (.keep [0, 3])))))) (
 .seq (
  .seq (
  .region [⟨some 2, .mov (.k (.int .i64 0)), none⟩]) (.keep [2])) (
 .ret)))) }
def c47 : CFunc := { nparams := 1, ntmps := 35, results := [(2, none)], body := (
 .seq (
  .seq (
  .region [⟨some 2, .mov (.k (.int .i64 0)), none⟩]) (.keep [0])) (
 .seq (
  .seq (
   .seq (
   .region [⟨some 4, .mov (.t 0), none⟩,
     ⟨some 5, .len (.t 4), none⟩,
     ⟨some 6, .bin .gtr (.t 5) (.k (.int .i64 1024)), none⟩]) (.keep [0, 6])) (
  .cond (.t 6) (
   .seq (
    .seq (
    .region [⟨some 2, .mov (.k (.int .i64 5)), none⟩]) (.keep [2])) (
   .ret)) (
   .skip))) (
 .seq (
  .seq (
   .seq (
   .region [⟨some 3, .mov (.k (.int .i64 0)), none⟩]) (.keep [0, 3])) (
  .block 0 (
   .seq (.keep [0, 3]) (.loop (.seq (
    .seq (
     .seq (
      .seq (
      .region [⟨some 7, .mov (.t 3), none⟩,
        ⟨some 8, .mov (.t 0), none⟩,
        ⟨some 9, .len (.t 8), none⟩,
        ⟨some 10, .bin .lss (.t 7) (.t 9), none⟩]) (.keep [0, 3, 10])) (
     .cond (.t 10) (
      .skip) (
      .exit 0))) (
    .seq (
     .block 1 (
      .seq (
       .seq (
        .seq (
        .region [⟨some 13, .mov (.t 0), none⟩,
          ⟨some 14, .mov (.t 3), none⟩,
          ⟨some 15, .iaddr 2 (.t 13) (.t 14), none⟩,
          ⟨some 16, .load (some 2) (.t 15), none⟩,
          ⟨some 17, .call false (.inr 82) [.t 16], none⟩,
          ⟨some 18, .bin .neq (.t 17) (.k (.int .i64 0)), none⟩]) (.keep [0, 3, 18])) (
       .cond (.t 18) (
        .seq (
         .seq (
         .region [⟨some 2, .mov (.k (.int .i64 14)), none⟩]) (.keep [2])) (
        .ret)) (
        .skip))) (
      .seq (
       .seq (
       .region [⟨some 19, .mov (.t 3), none⟩,
         ⟨some 20, .bin .gtr (.t 19) (.k (.int .i64 0)), none⟩,
         ⟨some 21, .mov (.t 20), none⟩,
         ⟨some 22, .mov (.t 0), (some (21, true))⟩,
         ⟨some 23, .mov (.t 3), (some (21, true))⟩,
         ⟨some 24, .iaddr 2 (.t 22) (.t 23), (some (21, true))⟩,
         ⟨some 25, .faddr 0 (.t 24), (some (21, true))⟩,
         ⟨some 26, .load none (.t 25), (some (21, true))⟩,
         ⟨some 27, .mov (.t 0), (some (21, true))⟩,
         ⟨some 28, .mov (.t 3), (some (21, true))⟩,
         ⟨some 29, .bin .sub (.t 28) (.k (.int .i64 1)), (some (21, true))⟩,
         ⟨some 30, .iaddr 2 (.t 27) (.t 29), (some (21, true))⟩,
         ⟨some 31, .faddr 1 (.t 30), (some (21, true))⟩,
         ⟨some 32, .load none (.t 31), (some (21, true))⟩,
         ⟨some 33, .bin .leq (.t 26) (.t 32), (some (21, true))⟩,
         ⟨some 34, .pick (.t 21) (.t 33) (.k (.bool false)), none⟩]) (.keep [0, 3, 34])) (
      .cond (.t 34) (
       .seq (
        .seq (
        .region [⟨some 2, .mov (.k (.int .i64 11)), none⟩]) (.keep [2])) (
       .ret)) (
       .skip))))) (
    .seq (
    .region [⟨some 11, .mov (.t 3), none⟩,
      ⟨some 12, .bin .add (.t 11) (.k (.int .i64 1)), none⟩,
      ⟨some 3, .mov (.t 12), none⟩]) (.keep [0, 3])))) (.keep [0, 3])))))) (
 .seq (
  .seq (
  .region [⟨some 2, .mov (.k (.int .i64 0)), none⟩]) (.keep [2])) (
 .ret))))) }
def c48 : CFunc := { nparams := 2, ntmps := 28, results := [(4, none)], body := (
 .seq (
  .seq (
  .region [⟨some 4, .mov (.k (.bool false)), none⟩]) (.keep [0, 1])) (
 .seq (
  .seq (
   .seq (
   .region [⟨some 5, .mov (.k (.int .i64 0)), none⟩]) (.keep [0, 1, 5])) (
  .block 0 (
   .seq (.keep [0, 1, 5]) (.loop (.seq (
    .seq (
     .seq (
      .seq (
      .region [⟨some 6, .mov (.t 5), none⟩,
        ⟨some 7, .mov (.t 0), none⟩,
        ⟨some 8, .len (.t 7), none⟩,
        ⟨some 9, .bin .lss (.t 6) (.t 8), none⟩]) (.keep [0, 1, 5, 9])) (
     .cond (.t 9) (
      .skip) (
      .exit 0))) (
    .seq (
     .block 1 (
      .seq (
       .seq (
       .region [⟨some 12, .mov (.t 1), none⟩,
         ⟨some 13, .mov (.t 0), none⟩,
         ⟨some 14, .mov (.t 5), none⟩,
         ⟨some 15, .iaddr 2 (.t 13) (.t 14), none⟩,
         ⟨some 16, .faddr 0 (.t 15), none⟩,
         ⟨some 17, .load none (.t 16), none⟩,
         ⟨some 18, .bin .geq (.t 12) (.t 17), none⟩,
         ⟨some 19, .mov (.t 18), none⟩,
         ⟨some 20, .mov (.t 1), (some (19, true))⟩,
         ⟨some 21, .mov (.t 0), (some (19, true))⟩,
         ⟨some 22, .mov (.t 5), (some (19, true))⟩,
         ⟨some 23, .iaddr 2 (.t 21) (.t 22), (some (19, true))⟩,
         ⟨some 24, .faddr 1 (.t 23), (some (19, true))⟩,
         ⟨some 25, .load none (.t 24), (some (19, true))⟩,
         ⟨some 26, .bin .lss (.t 20) (.t 25), (some (19, true))⟩,
         ⟨some 27, .pick (.t 19) (.t 26) (.k (.bool false)), none⟩]) (.keep [0, 1, 5, 27])) (
      .cond (.t 27) (
       .seq (
        .seq (
        .region [⟨some 4, .mov (.k (.bool true)), none⟩]) (.keep [4])) (
       .ret)) (
       .skip)))) (
    .seq (
    .region [⟨some 10, .mov (.t 5), none⟩,
      ⟨some 11, .bin .add (.t 10) (.k (.int .i64 1)), none⟩,
      ⟨some 5, .mov (.t 11), none⟩]) (.keep [0, 1, 5])))) (.keep [0, 1, 5])))))) (
 .seq (
  .seq (
  .region [⟨some 4, .mov (.k (.bool false)), none⟩]) (.keep [4])) (
 .ret)))) }
def c49 : CFunc := { nparams := 1, ntmps := 7, results := [(2, none)], body := (
 .seq (
  .seq (
  .region [⟨some 2, .mov (.k (.int .i64 0)), none⟩]) (.keep [0])) (
 .seq (
  .seq (
  .region [⟨some 3, .mov (.t 0), none⟩,
    ⟨some 4, .sop (.ff .f64) [.t 3], none⟩,
    ⟨some 5, .sop (.fbin .mul) [.k (.float .f64 4625196817309499392), .t 4], none⟩,
    ⟨some 6, .sop (.fi .i64) [.t 5], none⟩,
    ⟨some 2, .mov (.t 6), none⟩]) (.keep [2])) (
 .ret))) }
def c50 : CFunc := { nparams := 1, ntmps := 5, results := [(2, none)], body := (
 .seq (
  .seq (
  .region [⟨some 2, .mov (.k (.int .i64 0)), none⟩]) (.keep [0])) (
 .seq (
  .seq (
  .region [⟨some 3, .mov (.t 0), none⟩,
    ⟨some 4, .call false (.inr 20) [.t 3, .k (.int .i64 (-32768)), .k (.int .i64 32768)], none⟩,
    ⟨some 2, .mov (.t 4), none⟩]) (.keep [2])) (
 .ret))) }
def c51 : CFunc := { nparams := 1, ntmps := 15, results := [(2, none)], body := (
 .seq (
  .seq (
  .region [⟨some 2, .mov (.k (.int .i64 0)), none⟩]) (.keep [0])) (
 .seq (
  .seq (
   .seq (
   .region [⟨some 5, .mov (.t 0), none⟩,
     ⟨some 6, .len (.t 5), none⟩,
     ⟨some 7, .mov (.k (.int .i64 0)), none⟩]) (.keep [5, 6, 7])) (
  .block 0 (
   .seq (.keep [5, 6, 7]) (.loop (.seq (
    .seq (
     .seq (
     .region [⟨some 8, .bin .lss (.t 7) (.t 6), none⟩]) (.keep [5, 6, 7, 8])) (
    .seq (
     .cond (.t 8) (
      .skip) (
      .exit 0)) (
    .seq (
     .block 1 (
      .seq (
       .seq (
       .region [⟨some 9, .iaddr 1 (.t 5) (.t 7), none⟩,
         ⟨some 10, .load none (.t 9), none⟩,
         ⟨some 4, .mov (.t 10), none⟩]) (.keep [4, 5, 6, 7])) (
      .seq (
       .seq (
       .region [⟨some 11, .mov (.t 4), none⟩,
         ⟨some 12, .bin .neq (.t 11) (.k (.int .i64 0)), none⟩]) (.keep [4, 5, 6, 7, 12])) (
      .cond (.t 12) (
       .seq (
        .seq (
        .region [⟨some 13, .mov (.t 4), none⟩,
          ⟨some 2, .mov (.t 13), none⟩]) (.keep [2])) (
       .ret)) (
       .skip))))) (
    .seq (
    .region [⟨some 14, .bin .add (.t 7) (.k (.int .i64 1)), none⟩,
      ⟨some 7, .mov (.t 14), none⟩]) (.keep [5, 6, 7]))))) (.keep [5, 6, 7])))))) (
 .seq (
  .seq (
  .region [⟨some 2, .mov (.k (.int .i64 0)), none⟩]) (.keep [2])) (
 .ret)))) }
def c52 : CFunc := { nparams := 3, ntmps := 16, results := [(6, none)], body := (
 .seq (
  .seq (
  .region [⟨some 6, .mov (.k (.int .i64 0)), none⟩]) (.keep [0, 1, 2])) (
 .seq (
  .seq (
  .region [⟨some 7, .mov (.t 0), none⟩,
    ⟨some 8, .mov (.t 1), none⟩,
    ⟨some 9, .bin .lss (.t 7) (.t 8), none⟩,
    ⟨some 10, .mov (.t 9), none⟩,
    ⟨some 11, .mov (.t 0), (some (10, false))⟩,
    ⟨some 12, .mov (.t 2), (some (10, false))⟩,
    ⟨some 13, .bin .gtr (.t 11) (.t 12), (some (10, false))⟩,
    ⟨some 14, .pick (.t 10) (.k (.bool true)) (.t 13), none⟩,
    ⟨some 15, .call false (.inr 56) [.t 14, .k (.int .i64 3)], none⟩,
    ⟨some 6, .mov (.t 15), none⟩]) (.keep [6])) (
 .ret))) }
def c55 : CFunc := { nparams := 1, ntmps := 75, results := [(2, none)], body := (
 .seq (
  .seq (
  .region [⟨some 2, .mov (.k (.int .i64 0)), none⟩]) (.keep [0])) (
 .seq (
  .seq (
   .seq (
   .region [⟨some 8, .mov (.t 0), none⟩,
     ⟨some 9, .len (.t 8), none⟩,
     ⟨some 10, .bin .gtr (.t 9) (.k (.int .i64 40000)), none⟩]) (.keep [0, 10])) (
  .cond (.t 10) (
   .seq (
    .seq (
    .region [⟨some 2, .mov (.k (.int .i64 5)), none⟩]) (.keep [2])) (
   .ret)) (
   .skip))) (
 .seq (
  .seq (
   .seq (
   .region [⟨some 11, .mov (.t 0), none⟩,
     ⟨some 12, .len (.t 11), none⟩,
     ⟨some 13, .mov (.k (.int .i64 0)), none⟩]) (.keep [0, 11, 12, 13])) (
  .block 0 (
   .seq (.keep [0, 11, 12, 13]) (.loop (.seq (
    .seq (
     .seq (
     .region [⟨some 14, .bin .lss (.t 13) (.t 12), none⟩]) (.keep [0, 11, 12, 13, 14])) (
    .seq (
     .cond (.t 14) (
      .skip) (
      .exit 0)) (
    .seq (
     .block 1 (
      .seq (
       .seq (
       .region [⟨some 15, .mov (.t 13), none⟩,
         ⟨some 16, .iaddr 2 (.t 11) (.t 13), none⟩,
         ⟨some 17, .load (some 2) (.t 16), none⟩,
         ⟨some 4, .alloc (some 2) [.int .i64 0, .int .i64 0], none⟩,
         ⟨some 3, .mov (.t 15), none⟩,
         ⟨none, .store 2 (.t 4) (.t 17), none⟩]) (.keep [0, 3, 4, 11, 12, 13])) (
      .seq (
       .seq (
       .region [⟨some 5, .mov (.k (.bool false)), none⟩,
         ⟨some 6, .mov (.k (.bool false)), none⟩]) (.keep [0, 3, 4, 5, 6, 11, 12, 13])) (
      .seq (
       .seq (
        .seq (
        .region [⟨some 18, .mov (.t 3), none⟩,
          ⟨some 19, .bin .gtr (.t 18) (.k (.int .i64 0)), none⟩]) (.keep [0, 3, 4, 5, 6, 11, 12, 13, 19])) (
       .cond (.t 19) (
        .seq (
        .region [⟨some 20, .faddr 0 (.t 4), none⟩,
          ⟨some 21, .load none (.t 20), none⟩,
          ⟨some 22, .mov (.t 0), none⟩,
          ⟨some 23, .mov (.t 3), none⟩,
          ⟨some 24, .bin .sub (.t 23) (.k (.int .i64 1)), none⟩,
          ⟨some 25, .iaddr 2 (.t 22) (.t 24), none⟩,
          ⟨some 26, .faddr 0 (.t 25), none⟩,
          ⟨some 27, .load none (.t 26), none⟩,
          ⟨some 28, .bin .leq (.t 21) (.t 27), none⟩,
          ⟨some 29, .faddr 1 (.t 4), none⟩,
          ⟨some 30, .load none (.t 29), none⟩,
          ⟨some 31, .mov (.t 0), none⟩,
          ⟨some 32, .mov (.t 3), none⟩,
          ⟨some 33, .bin .sub (.t 32) (.k (.int .i64 1)), none⟩,
          ⟨some 34, .iaddr 2 (.t 31) (.t 33), none⟩,
          ⟨some 35, .faddr 1 (.t 34), none⟩,
          ⟨some 36, .load none (.t 35), none⟩,
          ⟨some 37, .bin .eql (.t 30) (.t 36), none⟩,
          ⟨some 5, .mov (.t 28), none⟩,
          ⟨some 6, .mov (.t 37), none⟩]) (.keep [0, 3, 4, 5, 6, 11, 12, 13])) (
        .skip))) (
      .seq (
       .seq (
        .seq (
        .region [⟨some 38, .mov (.t 3), none⟩,
          ⟨some 39, .bin .gtr (.t 38) (.k (.int .i64 1)), none⟩]) (.keep [0, 3, 4, 5, 6, 11, 12, 13, 39])) (
       .cond (.t 39) (
        .seq (
        .region [⟨some 40, .mov (.t 6), none⟩,
          ⟨some 41, .mov (.t 40), none⟩,
          ⟨some 42, .mov (.t 0), (some (41, false))⟩,
          ⟨some 43, .mov (.t 3), (some (41, false))⟩,
          ⟨some 44, .bin .sub (.t 43) (.k (.int .i64 2)), (some (41, false))⟩,
          ⟨some 45, .iaddr 2 (.t 42) (.t 44), (some (41, false))⟩,
          ⟨some 46, .faddr 1 (.t 45), (some (41, false))⟩,
          ⟨some 47, .load none (.t 46), (some (41, false))⟩,
          ⟨some 48, .mov (.t 0), (some (41, false))⟩,
          ⟨some 49, .mov (.t 3), (some (41, false))⟩,
          ⟨some 50, .bin .sub (.t 49) (.k (.int .i64 1)), (some (41, false))⟩,
          ⟨some 51, .iaddr 2 (.t 48) (.t 50), (some (41, false))⟩,
          ⟨some 52, .faddr 1 (.t 51), (some (41, false))⟩,
          ⟨some 53, .load none (.t 52), (some (41, false))⟩,
          ⟨some 54, .faddr 1 (.t 4), (some (41, false))⟩,
          ⟨some 55, .load none (.t 54), (some (41, false))⟩,
          ⟨some 56, .call false (.inr 86) [.t 47, .t 53, .t 55], (some (41, false))⟩,
          ⟨some 57, .un .not (.t 56), (some (41, false))⟩,
          ⟨some 58, .pick (.t 41) (.k (.bool true)) (.t 57), none⟩,
          ⟨some 6, .mov (.t 58), none⟩]) (.keep [0, 4, 5, 6, 11, 12, 13])) (
        .skip))) (
      .seq (
       .seq (
       .region [⟨some 59, .faddr 0 (.t 4), none⟩,
         ⟨some 60, .load none (.t 59), none⟩,
         ⟨some 61, .call false (.inr 60) [.t 60], none⟩,
         ⟨some 62, .faddr 1 (.t 4), none⟩,
         ⟨some 63, .load none (.t 62), none⟩,
         ⟨some 64, .call false (.inr 44) [.t 63], none⟩,
         ⟨some 65, .mov (.t 5), none⟩,
         ⟨some 66, .call false (.inr 56) [.t 65, .k (.int .i64 11)], none⟩,
         ⟨some 67, .mov (.t 6), none⟩,
         ⟨some 68, .call false (.inr 56) [.t 67, .k (.int .i64 2)], none⟩,
         ⟨some 69, .bsl false 1 [.t 61, .t 64, .t 66, .t 68], none⟩,
         ⟨some 70, .call false (.inr 51) [.t 69], none⟩,
         ⟨some 7, .mov (.t 70), none⟩]) (.keep [0, 7, 11, 12, 13])) (
      .seq (
       .seq (
       .region [⟨some 71, .mov (.t 7), none⟩,
         ⟨some 72, .bin .neq (.t 71) (.k (.int .i64 0)), none⟩]) (.keep [0, 7, 11, 12, 13, 72])) (
      .cond (.t 72) (
       .seq (
        .seq (
        .region [⟨some 73, .mov (.t 7), none⟩,
          ⟨some 2, .mov (.t 73), none⟩]) (.keep [2])) (
       .ret)) (
       .skip))))))))) (
    .seq (
    .region [⟨some 74, .bin .add (.t 13) (.k (.int .i64 1)), none⟩,
      ⟨some 13, .mov (.t 74), none⟩]) (.keep [0, 11, 12, 13]))))) (.seq (.keep [0, 11, 12, 13]) .cut)))))) (
 .seq (
  .seq (
  .region [⟨some 2, .mov (.k (.int .i64 0)), none⟩]) (.keep [2])) (
 .ret))))) }
def c56 : CFunc := { nparams := 2, ntmps := 7, results := [(4, none)], body := (
 .seq (
  .seq (
  .region [⟨some 4, .mov (.k (.int .i64 0)), none⟩]) (.keep [0, 1])) (
 .seq (
  .seq (
   .seq (
   .region [⟨some 5, .mov (.t 0), none⟩]) (.keep [1, 5])) (
  .cond (.t 5) (
   .seq (
    .seq (
    .region [⟨some 6, .mov (.t 1), none⟩,
      ⟨some 4, .mov (.t 6), none⟩]) (.keep [4])) (
   .ret)) (
   .skip))) (
 .seq (
  .seq (
  .region [⟨some 4, .mov (.k (.int .i64 0)), none⟩]) (.keep [4])) (
 .ret)))) }
def c57 : CFunc := { nparams := 1, ntmps := 5, results := [(2, none)], body := (
 .seq (
  .seq (
  .region [⟨some 2, .mov (.k (.int .i64 0)), none⟩]) (.keep [0])) (
 .seq (
  .seq (
  .region [⟨some 3, .mov (.t 0), none⟩,
    ⟨some 4, .call false (.inr 52) [.t 3, .k (.int .i64 (-999999999)), .k (.int .i64 999999999)], none⟩,
    ⟨some 2, .mov (.t 4), none⟩]) (.keep [2])) (
 .ret))) }
def c60 : CFunc := { nparams := 1, ntmps := 5, results := [(2, none)], body := (
 .seq (
  .seq (
  .region [⟨some 2, .mov (.k (.int .i64 0)), none⟩]) (.keep [0])) (
 .seq (
  .seq (
  .region [⟨some 3, .mov (.t 0), none⟩,
    ⟨some 4, .call false (.inr 52) [.t 3, .k (.int .i64 0), .k (.int .i64 39999)], none⟩,
    ⟨some 2, .mov (.t 4), none⟩]) (.keep [2])) (
 .ret))) }
def c61 : CFunc := { nparams := 1, ntmps := 16, results := [(2, none)], body := (
 .seq (
  .seq (
  .region [⟨some 2, .mov (.k (.int .i64 0)), none⟩]) (.keep [0])) (
 .seq (
  .seq (
  .region [⟨some 4, .mov (.t 0), none⟩,
    ⟨some 5, .call false (.inr 87) [.t 4, .f 88], none⟩,
    ⟨some 3, .mov (.t 5), none⟩]) (.keep [0, 3])) (
 .seq (
  .seq (
  .region [⟨some 6, .mov (.t 0), none⟩,
    ⟨some 7, .len (.t 6), none⟩,
    ⟨some 8, .bin .gtr (.t 7) (.k (.int .i64 40000)), none⟩,
    ⟨some 9, .call false (.inr 56) [.t 8, .k (.int .i64 5)], none⟩,
    ⟨some 10, .mov (.t 3), none⟩,
    ⟨some 11, .len (.t 10), none⟩,
    ⟨some 12, .bin .gtr (.t 11) (.k (.int .i64 0)), none⟩,
    ⟨some 13, .call false (.inr 56) [.t 12, .k (.int .i64 3)], none⟩,
    ⟨some 14, .bsl false 1 [.t 9, .t 13], none⟩,
    ⟨some 15, .call false (.inr 51) [.t 14], none⟩,
    ⟨some 2, .mov (.t 15), none⟩]) (.keep [2])) (
 .ret)))) }
def c62 : CFunc := { nparams := 1, ntmps := 5, results := [(2, none)], body := (
 .seq (
  .seq (
  .region [⟨some 1, .box false 1 (.t 0), none⟩,
    ⟨some 2, .mov (.k (.slice none 0 0)), none⟩]) (.keep [1])) (
 .seq (
  .seq (
  .region [⟨some 3, .mkfn 90 [.t 1], none⟩,
    ⟨some 4, .call false (.inr 89) [.t 3], none⟩,
    ⟨some 2, .mov (.t 4), none⟩]) (.keep [2])) (
 .ret))) }
def c63 : CFunc := { nparams := 1, ntmps := 86, results := [(2, none), (3, none)], body := (
 .seq (
  .seq (
  .region [⟨some 2, .mov (.k (.slice none 0 0)), none⟩,
    ⟨some 3, .mov (.k (.slice none 0 0)), none⟩]) (.keep [0])) (
 .seq (
  .seq (
  .region [⟨some 4, .onil 4, none⟩]) (.keep [0, 4])) (
 .seq (
  .seq (
  .region [⟨some 5, .onil 2, none⟩]) (.keep [0, 4, 5])) (
 .seq (
  .seq (
   .seq (
   .region [⟨some 13, .mov (.t 0), none⟩,
     ⟨some 14, .len (.t 13), none⟩,
     ⟨some 15, .mov (.k (.int .i64 0)), none⟩]) (.keep [4, 5, 13, 14, 15])) (
  .block 0 (
   .seq (.keep [4, 5, 13, 14, 15]) (.loop (.seq (
    .seq (
     .seq (
     .region [⟨some 16, .bin .lss (.t 15) (.t 14), none⟩]) (.keep [4, 5, 13, 14, 15, 16])) (
    .seq (
     .cond (.t 16) (
      .skip) (
      .exit 0)) (
    .seq (
     .block 1 (
      .seq (
       .seq (
       .region [⟨some 17, .iaddr 2 (.t 13) (.t 15), none⟩,
         ⟨some 18, .load (some 2) (.t 17), none⟩,
         ⟨some 7, .alloc (some 2) [.int .i64 0, .int .i64 0], none⟩,
         ⟨none, .store 2 (.t 7) (.t 18), none⟩]) (.keep [4, 5, 7, 13, 14, 15])) (
      .scope (
       .seq (
        .seq (
        .region [⟨some 19, .mov (.t 5), none⟩,
          ⟨some 20, .load (some 2) (.t 7), none⟩,
          ⟨some 21, .bsl false 2 [.t 20], none⟩,
          ⟨some 22, .append 2 16 (.t 19) (.t 21), none⟩,
          ⟨some 5, .mov (.t 22), none⟩]) (.keep [4, 5, 13, 14, 15])) (
       .seq (
        .label 0) (
       .block 2 (
        .seq (.keep [4, 5, 13, 14, 15]) (.loop (.seq (
         .seq (
          .seq (
           .seq (
           .region [⟨some 23, .mov (.t 5), none⟩,
             ⟨some 24, .len (.t 23), none⟩,
             ⟨some 25, .bin .geq (.t 24) (.k (.int .i64 4)), none⟩]) (.keep [4, 5, 13, 14, 15, 25])) (
          .cond (.t 25) (
           .skip) (
           .exit 2))) (
         .block 3 (
          .seq (
           .seq (
           .region [⟨some 26, .mov (.t 5), none⟩,
             ⟨some 27, .mov (.t 5), none⟩,
             ⟨some 28, .len (.t 27), none⟩,
             ⟨some 29, .bin .sub (.t 28) (.k (.int .i64 4)), none⟩,
             ⟨some 30, .slice 2 (.t 26) (some (.t 29)) none, none⟩,
             ⟨some 31, .arrp 4 (.t 30), none⟩,
             ⟨some 32, .load (some 8) (.t 31), none⟩,
             ⟨some 8, .alloc (some 8) [.int .i64 0, .int .i64 0, .int .i64 0, .int .i64 0, .int .i64 0, .int .i64 0, .int .i64 0, .int .i64 0], none⟩,
             ⟨none, .store 8 (.t 8) (.t 32), none⟩]) (.keep [4, 5, 8, 13, 14, 15])) (
          .seq (
           .seq (
           .seq (.holes 4) (
           .regionD [(⟨some 33, .iaddra 4 2 (.t 8) (.k (.int .i64 0)), none⟩, none),
             (⟨some 34, .load (some 2) (.t 33), none⟩, none),
             (⟨some 35, .iaddra 4 2 (.t 8) (.k (.int .i64 1)), none⟩, none),
             (⟨some 36, .load (some 2) (.t 35), none⟩, none),
             (⟨some 37, .iaddra 4 2 (.t 8) (.k (.int .i64 2)), none⟩, none),
             (⟨some 38, .load (some 2) (.t 37), none⟩, none),
             (⟨some 39, .iaddra 4 2 (.t 8) (.k (.int .i64 3)), none⟩, none),
             (⟨some 40, .load (some 2) (.t 39), none⟩, none),
             (⟨some 9, .alloc (some 2) [.int .i64 0, .int .i64 0], none⟩, some 4),
             (⟨some 10, .alloc (some 2) [.int .i64 0, .int .i64 0], none⟩, some 3),
             (⟨some 11, .alloc (some 2) [.int .i64 0, .int .i64 0], none⟩, some 2),
             (⟨some 12, .alloc (some 2) [.int .i64 0, .int .i64 0], none⟩, some 1),
             (⟨none, .store 2 (.t 9) (.t 34), none⟩, none),
             (⟨none, .store 2 (.t 10) (.t 36), none⟩, none),
             (⟨none, .store 2 (.t 11) (.t 38), none⟩, none),
             (⟨none, .store 2 (.t 12) (.t 40), none⟩, none)] [(0, 8), (1, 8), (2, 8), (3, 8), (4, 8), (5, 8), (6, 8), (7, 8), (0, 9), (1, 9), (2, 9), (3, 9), (4, 9), (5, 9), (6, 9), (7, 9), (8, 9), (0, 10), (1, 10), (2, 10), (3, 10), (4, 10), (5, 10), (6, 10), (7, 10), (8, 10), (9, 10), (0, 11), (1, 11), (2, 11), (3, 11), (4, 11), (5, 11), (6, 11), (7, 11), (8, 11), (9, 11), (10, 11), (2, 12), (3, 12), (4, 12), (5, 12), (6, 12), (7, 12), (4, 13), (5, 13), (6, 13), (7, 13), (6, 14), (7, 14)])) (.keep [4, 5, 9, 10, 11, 12, 13, 14, 15])) (
          .seq (
           .seq (
            .seq (
            .region [⟨some 41, .load (some 2) (.t 10), none⟩,
              ⟨some 42, .load (some 2) (.t 11), none⟩,
              ⟨some 43, .call false (.inr 91) [.t 41, .t 42], none⟩,
              ⟨some 44, .load (some 2) (.t 9), none⟩,
              ⟨some 45, .load (some 2) (.t 10), none⟩,
              ⟨some 46, .call false (.inr 91) [.t 44, .t 45], none⟩,
              ⟨some 47, .bin .gtr (.t 43) (.t 46), none⟩,
              ⟨some 48, .mov (.t 47), none⟩,
              ⟨some 49, .load (some 2) (.t 10), (some (48, false))⟩,
              ⟨some 50, .load (some 2) (.t 11), (some (48, false))⟩,
              ⟨some 51, .call false (.inr 91) [.t 49, .t 50], (some (48, false))⟩,
              ⟨some 52, .load (some 2) (.t 11), (some (48, false))⟩,
              ⟨some 53, .load (some 2) (.t 12), (some (48, false))⟩,
              ⟨some 54, .call false (.inr 91) [.t 52, .t 53], (some (48, false))⟩,
              ⟨some 55, .bin .gtr (.t 51) (.t 54), (some (48, false))⟩,
              ⟨some 56, .pick (.t 48) (.k (.bool true)) (.t 55), none⟩]) (.keep [4, 5, 10, 11, 12, 13, 14, 15, 56])) (
           .cond (.t 56) (
            .exit 2) (
            .skip))) (
          .seq (
           .seq (
           .region [⟨some 57, .mov (.t 4), none⟩,
             ⟨some 58, .faddr 0 (.t 10), none⟩,
             ⟨some 59, .load none (.t 58), none⟩,
             ⟨some 60, .faddr 0 (.t 11), none⟩,
             ⟨some 61, .load none (.t 60), none⟩,
             ⟨some 62, .faddr 1 (.t 10), none⟩,
             ⟨some 63, .load none (.t 62), none⟩,
             ⟨some 64, .faddr 1 (.t 11), none⟩,
             ⟨some 65, .load none (.t 64), none⟩,
             ⟨some 66, .min (.t 63) [.t 65], none⟩,
             ⟨some 67, .faddr 1 (.t 10), none⟩,
             ⟨some 68, .load none (.t 67), none⟩,
             ⟨some 69, .faddr 1 (.t 11), none⟩,
             ⟨some 70, .load none (.t 69), none⟩,
             ⟨some 71, .max (.t 68) [.t 70], none⟩,
             ⟨some 72, .build [.int .i64 0, .int .i64 0, .int .i64 0, .int .i64 0] [(0, 1, .t 59), (1, 1, .t 61), (2, 1, .t 66), (3, 1, .t 71)], none⟩,
             ⟨some 73, .bsl false 4 [.t 72], none⟩,
             ⟨some 74, .append 4 32 (.t 57) (.t 73), none⟩,
             ⟨some 4, .mov (.t 74), none⟩]) (.keep [4, 5, 12, 13, 14, 15])) (
          .seq (
          .region [⟨some 75, .mov (.t 5), none⟩,
            ⟨some 76, .mov (.t 5), none⟩,
            ⟨some 77, .len (.t 76), none⟩,
            ⟨some 78, .bin .sub (.t 77) (.k (.int .i64 3)), none⟩,
            ⟨some 79, .slice 2 (.t 75) none (some (.t 78)), none⟩,
            ⟨some 80, .load (some 2) (.t 12), none⟩,
            ⟨some 81, .bsl false 2 [.t 80], none⟩,
            ⟨some 82, .append 2 16 (.t 79) (.t 81), none⟩,
            ⟨some 5, .mov (.t 82), none⟩]) (.keep [4, 5, 13, 14, 15])))))))) (.seq (.keep [4, 5, 13, 14, 15]) .cut)))))))))) (
    .seq (
    .region [⟨some 83, .bin .add (.t 15) (.k (.int .i64 1)), none⟩,
      ⟨some 15, .mov (.t 83), none⟩]) (.keep [4, 5, 13, 14, 15]))))) (.seq (.keep [4, 5, 13, 14, 15]) .cut)))))) (
 .seq (
  .seq (
  .region [⟨some 84, .fz (.mov (.t 4)), none⟩,
    ⟨some 85, .fz (.mov (.t 5)), none⟩,
    ⟨some 2, .mov (.t 84), none⟩,
    ⟨some 3, .mov (.t 85), none⟩]) (.keep [2, 3])) (
 .ret)))))) }
def c64 : CFunc := { nparams := 2, ntmps := 23, results := [(4, none)], body := (
 .seq (
  .seq (
  .region [⟨some 4, .mov (.k (.slice none 0 0)), none⟩]) (.keep [0, 1])) (
 .seq (
  .seq (
  .region [⟨some 5, .onil 2, none⟩]) (.keep [0, 1, 5])) (
 .seq (
  .seq (
   .seq (
   .region [⟨some 8, .mov (.t 0), none⟩,
     ⟨some 9, .len (.t 8), none⟩,
     ⟨some 10, .mov (.k (.int .i64 0)), none⟩]) (.keep [1, 5, 8, 9, 10])) (
  .block 0 (
   .seq (.keep [1, 5, 8, 9, 10]) (.loop (.seq (
    .seq (
     .seq (
     .region [⟨some 11, .bin .lss (.t 10) (.t 9), none⟩]) (.keep [1, 5, 8, 9, 10, 11])) (
    .seq (
     .cond (.t 11) (
      .skip) (
      .exit 0)) (
    .seq (
     .block 1 (
      .seq (
       .seq (
       .region [⟨some 12, .iaddr 2 (.t 8) (.t 10), none⟩,
         ⟨some 13, .load (some 2) (.t 12), none⟩,
         ⟨some 7, .alloc (some 2) [.int .i64 0, .int .i64 0], none⟩,
         ⟨none, .store 2 (.t 7) (.t 13), none⟩]) (.keep [1, 5, 7, 8, 9, 10])) (
      .seq (
       .seq (
       .region [⟨some 14, .mov (.t 1), none⟩,
         ⟨some 15, .load (some 2) (.t 7), none⟩,
         ⟨some 16, .call true (.inl (.t 14)) [.t 15], none⟩]) (.keep [1, 5, 7, 8, 9, 10, 16])) (
      .cond (.t 16) (
       .seq (
       .region [⟨some 17, .mov (.t 5), none⟩,
         ⟨some 18, .load (some 2) (.t 7), none⟩,
         ⟨some 19, .bsl false 2 [.t 18], none⟩,
         ⟨some 20, .append 2 16 (.t 17) (.t 19), none⟩,
         ⟨some 5, .mov (.t 20), none⟩]) (.keep [1, 5, 8, 9, 10])) (
       .skip))))) (
    .seq (
    .region [⟨some 21, .bin .add (.t 10) (.k (.int .i64 1)), none⟩,
      ⟨some 10, .mov (.t 21), none⟩]) (.keep [1, 5, 8, 9, 10]))))) (.seq (.keep [1, 5, 8, 9, 10]) .cut)))))) (
 .seq (
  .seq (
  .region [⟨some 22, .fz (.mov (.t 5)), none⟩,
    ⟨some 4, .mov (.t 22), none⟩]) (.keep [4])) (
 .ret))))) }
def c65 : CFunc := { nparams := 2, ntmps := 9, results := [(3, none)], body := (
 .seq (
  .seq (
  .region [⟨some 2, .box false 2 (.t 0), none⟩,
    ⟨some 3, .mov (.k (.bool false)), none⟩]) (.keep [1, 2])) (
 .seq (
  .seq (
  .region [⟨some 4, .load none (.t 1), none⟩,
    ⟨some 5, .faddr 0 (.t 2), none⟩,
    ⟨some 6, .load none (.t 5), none⟩,
    ⟨some 7, .look .int (.bool false) false (.t 4) (.t 6), none⟩,
    ⟨some 8, .un .not (.t 7), none⟩,
    ⟨some 3, .mov (.t 8), none⟩]) (.keep [3])) (
 .ret))) }
def c66 : CFunc := { nparams := 3, ntmps := 66, results := [(6, none), (7, none)], body := (
 .seq (
  .seq (
  .region [⟨some 6, .mov (.k (.slice none 0 0)), none⟩,
    ⟨some 7, .mov (.k (.int .i64 0)), none⟩]) (.keep [0, 1, 2])) (
 .seq (
  .seq (
  .region [⟨some 10, .mov (.t 1), none⟩,
    ⟨some 11, .len (.t 10), none⟩,
    ⟨some 12, .mksl 2 (some 2) [.int .i64 0, .int .i64 0] 16 (.t 11) (.t 11), none⟩,
    ⟨some 8, .mov (.t 12), none⟩]) (.keep [0, 1, 2, 8])) (
 .seq (
  .seq (
  .region [⟨some 13, .mov (.t 8), none⟩,
    ⟨some 14, .mov (.t 1), none⟩,
    ⟨some 15, .copy 2 (.t 13) (.t 14), none⟩]) (.keep [0, 2, 8])) (
 .seq (
  .seq (
   .seq (
   .region [⟨some 16, .mov (.t 8), none⟩,
     ⟨some 17, .len (.t 16), none⟩,
     ⟨some 18, .mov (.k (.int .i64 0)), none⟩]) (.keep [0, 2, 8, 17, 18])) (
  .block 0 (
   .seq (.keep [0, 2, 8, 17, 18]) (.loop (.seq (
    .seq (
     .seq (
     .region [⟨some 19, .bin .lss (.t 18) (.t 17), none⟩]) (.keep [0, 2, 8, 17, 18, 19])) (
    .seq (
     .cond (.t 19) (
      .skip) (
      .exit 0)) (
    .seq (
     .block 1 (
      .seq (
       .seq (
       .region [⟨some 20, .mov (.t 18), none⟩,
         ⟨some 9, .mov (.t 20), none⟩]) (.keep [0, 2, 8, 9, 17, 18])) (
      .seq (
       .seq (
       .region [⟨some 21, .mov (.t 8), none⟩,
         ⟨some 22, .mov (.t 9), none⟩,
         ⟨some 23, .iaddr 2 (.t 21) (.t 22), none⟩,
         ⟨some 24, .faddr 0 (.t 23), none⟩,
         ⟨some 25, .load none (.t 24), none⟩,
         ⟨some 26, .mov (.t 2), none⟩,
         ⟨some 27, .bin .add (.t 25) (.t 26), none⟩,
         ⟨some 28, .iaddr 2 (.t 21) (.t 22), none⟩,
         ⟨some 29, .faddr 0 (.t 28), none⟩,
         ⟨none, .store 1 (.t 29) (.t 27), none⟩]) (.keep [0, 2, 8, 9, 17, 18])) (
      .seq (
       .seq (
       .region [⟨some 30, .mov (.t 8), none⟩,
         ⟨some 31, .mov (.t 9), none⟩,
         ⟨some 32, .iaddr 2 (.t 30) (.t 31), none⟩,
         ⟨some 33, .faddr 0 (.t 32), none⟩,
         ⟨some 34, .load none (.t 33), none⟩,
         ⟨some 35, .call false (.inr 60) [.t 34], none⟩,
         ⟨some 36, .bin .neq (.t 35) (.k (.int .i64 0)), none⟩]) (.keep [0, 2, 8, 17, 18, 36])) (
      .cond (.t 36) (
       .seq (
        .seq (
        .region [⟨some 6, .mov (.k (.slice none 0 0)), none⟩,
          ⟨some 7, .mov (.k (.int .i64 3)), none⟩]) (.keep [6, 7])) (
       .ret)) (
       .skip)))))) (
    .seq (
    .region [⟨some 37, .bin .add (.t 18) (.k (.int .i64 1)), none⟩,
      ⟨some 18, .mov (.t 37), none⟩]) (.keep [0, 2, 8, 17, 18]))))) (.keep [0, 2, 8, 17, 18])))))) (
 .seq (
  .seq (
   .seq (
   .region [⟨some 38, .mov (.t 0), none⟩,
     ⟨some 39, .len (.t 38), none⟩,
     ⟨some 40, .bin .gtr (.t 39) (.k (.int .i64 0)), none⟩,
     ⟨some 41, .mov (.t 40), none⟩,
     ⟨some 42, .mov (.t 8), (some (41, true))⟩,
     ⟨some 43, .len (.t 42), (some (41, true))⟩,
     ⟨some 44, .bin .gtr (.t 43) (.k (.int .i64 0)), (some (41, true))⟩,
     ⟨some 45, .pick (.t 41) (.t 44) (.k (.bool false)), none⟩,
     ⟨some 46, .mov (.t 45), none⟩,
     ⟨some 47, .mov (.t 8), (some (46, true))⟩,
     ⟨some 48, .iaddr 2 (.t 47) (.k (.int .i64 0)), (some (46, true))⟩,
     ⟨some 49, .faddr 0 (.t 48), (some (46, true))⟩,
     ⟨some 50, .load none (.t 49), (some (46, true))⟩,
     ⟨some 51, .mov (.t 0), (some (46, true))⟩,
     ⟨some 52, .mov (.t 0), (some (46, true))⟩,
     ⟨some 53, .len (.t 52), (some (46, true))⟩,
     ⟨some 54, .bin .sub (.t 53) (.k (.int .i64 1)), (some (46, true))⟩,
     ⟨some 55, .iaddr 2 (.t 51) (.t 54), (some (46, true))⟩,
     ⟨some 56, .faddr 0 (.t 55), (some (46, true))⟩,
     ⟨some 57, .load none (.t 56), (some (46, true))⟩,
     ⟨some 58, .bin .leq (.t 50) (.t 57), (some (46, true))⟩,
     ⟨some 59, .pick (.t 46) (.t 58) (.k (.bool false)), none⟩]) (.keep [0, 8, 59])) (
  .cond (.t 59) (
   .seq (
    .seq (
    .region [⟨some 6, .mov (.k (.slice none 0 0)), none⟩,
      ⟨some 7, .mov (.k (.int .i64 11)), none⟩]) (.keep [6, 7])) (
   .ret)) (
   .skip))) (
 .seq (
  .seq (
  .region [⟨some 60, .mov (.t 0), none⟩,
    ⟨some 61, .fz (.mov (.t 8)), none⟩,
    ⟨some 62, .bsl false 1 [.t 60, .t 61], none⟩,
    ⟨some 63, .call false (.inr 93) [.t 62], none⟩,
    ⟨some 64, .call false (.inr 92) [.t 63], none⟩,
    ⟨some 65, .call false (.inr 89) [.t 64], none⟩,
    ⟨some 6, .mov (.t 65), none⟩,
    ⟨some 7, .mov (.k (.int .i64 0)), none⟩]) (.keep [6, 7])) (
 .ret))))))) }
def c67 : CFunc := { nparams := 1, ntmps := 5, results := [(2, none)], body := (
 .seq (
  .seq (
  .region [⟨some 2, .mov (.k (.int .i64 0)), none⟩]) (.keep [0])) (
 .seq (
  .seq (
  .region [⟨some 3, .mov (.t 0), none⟩,
    ⟨some 4, .call false (.inr 52) [.t 3, .k (.int .i64 1), .k (.int .i64 3)], none⟩,
    ⟨some 2, .mov (.t 4), none⟩]) (.keep [2])) (
 .ret))) }
def c68 : CFunc := { nparams := 4, ntmps := 28, results := [], body := (
 .seq (
  .seq (
  .region [⟨some 10, .mov (.t 1), none⟩,
    ⟨some 11, .len (.t 10), none⟩,
    ⟨some 12, .mov (.k (.int .i64 0)), none⟩]) (.keep [0, 2, 3, 10, 11, 12])) (
 .block 0 (
  .seq (.keep [0, 2, 3, 10, 11, 12]) (.loop (.seq (
   .seq (
    .seq (
    .region [⟨some 13, .bin .lss (.t 12) (.t 11), none⟩]) (.keep [0, 2, 3, 10, 11, 12, 13])) (
   .seq (
    .cond (.t 13) (
     .skip) (
     .exit 0)) (
   .seq (
    .block 1 (
     .seq (
      .seq (
      .region [⟨some 14, .iaddr 4 (.t 10) (.t 12), none⟩,
        ⟨some 15, .load (some 4) (.t 14), none⟩,
        ⟨some 9, .alloc (some 4) [.int .i64 0, .int .i64 0, .int .i64 0, .int .i64 0], none⟩,
        ⟨none, .store 4 (.t 9) (.t 15), none⟩]) (.keep [0, 2, 3, 9, 10, 11, 12])) (
     .seq (
     .region [⟨some 16, .mov (.t 0), none⟩,
       ⟨some 17, .mov (.t 3), none⟩,
       ⟨some 18, .faddr 3 (.t 9), none⟩,
       ⟨some 19, .load none (.t 18), none⟩,
       ⟨some 20, .faddr 2 (.t 9), none⟩,
       ⟨some 21, .load none (.t 20), none⟩,
       ⟨some 22, .bin .sub (.t 19) (.t 21), none⟩,
       ⟨some 23, .mov (.t 2), none⟩,
       ⟨some 24, .call false (.inr 95) [.t 22, .t 23], none⟩,
       ⟨some 25, .bin .mul (.t 17) (.t 24), none⟩,
       ⟨some 26, .call true (.inr 94) [.t 16, .t 25], none⟩]) (.keep [0, 2, 3, 10, 11, 12])))) (
   .seq (
   .region [⟨some 27, .bin .add (.t 12) (.k (.int .i64 1)), none⟩,
     ⟨some 12, .mov (.t 27), none⟩]) (.keep [0, 2, 3, 10, 11, 12]))))) (.seq (.keep [0, 2, 3, 10, 11, 12]) .cut)))))) }
def c69 : CFunc := { nparams := 1, ntmps := 12, results := [(2, none), (3, none)], body := (
 .seq (
  .seq (
  .region [⟨some 2, .mov (.k (.int .i64 0)), none⟩,
    ⟨some 3, .mov (.k (.int .i64 0)), none⟩]) (.keep [0])) (
 .seq (
  .seq (
   .seq (
   .region [⟨some 4, .mov (.t 0), none⟩,
     ⟨some 5, .nilc (.t 4), none⟩,
     ⟨some 6, .faddr 1 (.t 5), none⟩,
     ⟨some 7, .load none (.t 6), none⟩]) (.keep [0, 7])) (
  .cond (.t 7) (
   .seq (
    .seq (
    .region [⟨some 2, .mov (.k (.int .i64 0)), none⟩,
      ⟨some 3, .mov (.k (.int .i64 4)), none⟩]) (.keep [2, 3])) (
   .ret)) (
   .skip))) (
 .seq (
  .seq (
  .region [⟨some 8, .mov (.t 0), none⟩,
    ⟨some 9, .nilc (.t 8), none⟩,
    ⟨some 10, .faddr 0 (.t 9), none⟩,
    ⟨some 11, .load none (.t 10), none⟩,
    ⟨some 2, .mov (.t 11), none⟩,
    ⟨some 3, .mov (.k (.int .i64 0)), none⟩]) (.keep [2, 3])) (
 .ret)))) }
def c70 : CFunc := { nparams := 3, ntmps := 30, results := [], body := (
 .seq (
  .seq (
  .region [⟨some 8, .mov (.t 1), none⟩,
    ⟨some 9, .mov (.t 1), none⟩,
    ⟨some 10, .len (.t 9), none⟩,
    ⟨some 11, .min (.k (.int .i64 1)) [.t 10], none⟩,
    ⟨some 12, .slice 2 (.t 8) (some (.t 11)) none, none⟩,
    ⟨some 13, .len (.t 12), none⟩,
    ⟨some 14, .mov (.k (.int .i64 0)), none⟩]) (.keep [0, 1, 2, 12, 13, 14])) (
 .block 0 (
  .seq (.keep [0, 1, 2, 12, 13, 14]) (.loop (.seq (
   .seq (
    .seq (
    .region [⟨some 15, .bin .lss (.t 14) (.t 13), none⟩]) (.keep [0, 1, 2, 12, 13, 14, 15])) (
   .seq (
    .cond (.t 15) (
     .skip) (
     .exit 0)) (
   .seq (
    .block 1 (
     .seq (
      .seq (
      .region [⟨some 16, .mov (.t 14), none⟩,
        ⟨some 17, .iaddr 2 (.t 12) (.t 14), none⟩,
        ⟨some 18, .load (some 2) (.t 17), none⟩,
        ⟨some 7, .alloc (some 2) [.int .i64 0, .int .i64 0], none⟩,
        ⟨some 6, .mov (.t 16), none⟩,
        ⟨none, .store 2 (.t 7) (.t 18), none⟩]) (.keep [0, 1, 2, 6, 7, 12, 13, 14])) (
     .seq (
     .region [⟨some 19, .mov (.t 0), none⟩,
       ⟨some 20, .mov (.t 1), none⟩,
       ⟨some 21, .mov (.t 6), none⟩,
       ⟨some 22, .iaddr 2 (.t 20) (.t 21), none⟩,
       ⟨some 23, .load (some 2) (.t 22), none⟩,
       ⟨some 24, .load (some 2) (.t 7), none⟩,
       ⟨some 25, .call false (.inr 91) [.t 23, .t 24], none⟩,
       ⟨some 26, .mov (.t 2), none⟩,
       ⟨some 27, .call false (.inr 95) [.t 25, .t 26], none⟩,
       ⟨some 28, .call true (.inr 94) [.t 19, .t 27], none⟩]) (.keep [0, 1, 2, 12, 13, 14])))) (
   .seq (
   .region [⟨some 29, .bin .add (.t 14) (.k (.int .i64 1)), none⟩,
     ⟨some 14, .mov (.t 29), none⟩]) (.keep [0, 1, 2, 12, 13, 14]))))) (.seq (.keep [0, 1, 2, 12, 13, 14]) .cut)))))) }
def c71 : CFunc := { nparams := 2, ntmps := 29, results := [(4, none), (5, none)], body := (
 .seq (
  .seq (
  .region [⟨some 4, .mov (.k (.int .i64 0)), none⟩,
    ⟨some 5, .mov (.k (.int .i64 0)), none⟩]) (.keep [0, 1])) (
 .seq (
  .seq (
  .region [⟨some 10, .mov (.t 0), none⟩,
    ⟨some 11, .call false (.inr 62) [.t 10], none⟩,
    ⟨some 12, .call false (.inr 63) [.t 11], none⟩,
    ⟨some 9, .mov (.t 12), none⟩,
    ⟨some 13, .ext 0 (.t 9), none⟩,
    ⟨some 14, .ext 1 (.t 9), none⟩,
    ⟨some 6, .mov (.t 13), none⟩,
    ⟨some 7, .mov (.t 14), none⟩]) (.keep [1, 6, 7])) (
 .seq (
  .seq (
  .region [⟨some 15, .build [.int .i64 0, .bool false] [], none⟩,
    ⟨some 16, .box true 2 (.t 15), none⟩,
    ⟨some 8, .mov (.t 16), none⟩]) (.keep [1, 6, 7, 8])) (
 .seq (
  .seq (
  .region [⟨some 17, .mov (.t 8), none⟩,
    ⟨some 18, .mov (.t 6), none⟩,
    ⟨some 19, .mov (.t 1), none⟩,
    ⟨some 20, .call true (.inr 68) [.t 17, .t 18, .t 19, .k (.int .i64 2)], none⟩]) (.keep [1, 7, 8])) (
 .seq (
  .seq (
  .region [⟨some 21, .mov (.t 8), none⟩,
    ⟨some 22, .mov (.t 7), none⟩,
    ⟨some 23, .mov (.t 1), none⟩,
    ⟨some 24, .call true (.inr 70) [.t 21, .t 22, .t 23], none⟩]) (.keep [8])) (
 .seq (
  .seq (
  .region [⟨some 25, .mov (.t 8), none⟩,
    ⟨some 26, .call false (.inr 69) [.t 25], none⟩,
    ⟨some 27, .ext 0 (.t 26), none⟩,
    ⟨some 28, .ext 1 (.t 26), none⟩,
    ⟨some 4, .mov (.t 27), none⟩,
    ⟨some 5, .mov (.t 28), none⟩]) (.keep [4, 5])) (
 .ret))))))) }
def c72 : CFunc := { nparams := 1, ntmps := 11, results := [(2, none)], body := (
 .seq (
  .seq (
  .region [⟨some 1, .box false 2 (.t 0), none⟩,
    ⟨some 2, .mov (.k (.int .i64 0)), none⟩]) (.keep [1])) (
 .seq (
  .seq (
  .region [⟨some 3, .faddr 0 (.t 1), none⟩,
    ⟨some 4, .load none (.t 3), none⟩,
    ⟨some 5, .call false (.inr 52) [.t 4, .k (.int .i64 1), .k (.int .i64 1152921504606846976)], none⟩,
    ⟨some 6, .faddr 1 (.t 1), none⟩,
    ⟨some 7, .load none (.t 6), none⟩,
    ⟨some 8, .call false (.inr 67) [.t 7], none⟩,
    ⟨some 9, .bsl false 1 [.t 5, .t 8], none⟩,
    ⟨some 10, .call false (.inr 51) [.t 9], none⟩,
    ⟨some 2, .mov (.t 10), none⟩]) (.keep [2])) (
 .ret))) }
def c73 : CFunc := { nparams := 2, ntmps := 30, results := [(4, none)], body := (
 .seq (
  .seq (
  .region [⟨some 4, .mov (.k (.int .i64 0)), none⟩]) (.keep [0, 1])) (
 .seq (
  .seq (
   .seq (
   .region [⟨some 8, .mov (.t 1), none⟩,
     ⟨some 9, .bin .eql (.t 8) (.k (.int .i64 1)), none⟩]) (.keep [0, 1, 9])) (
  .cond (.t 9) (
   .seq (
    .seq (
    .region [⟨some 10, .mov (.t 0), none⟩,
      ⟨some 4, .mov (.t 10), none⟩]) (.keep [4])) (
   .ret)) (
   .skip))) (
 .seq (
  .seq (
  .region [⟨some 5, .mov (.k (.int .i64 0)), none⟩,
    ⟨some 6, .mov (.k (.int .i64 2147483648)), none⟩]) (.keep [0, 1, 5, 6])) (
 .seq (
  .seq (
   .seq (
   .region [⟨some 11, .mov (.t 1), none⟩,
     ⟨some 12, .bin .gtr (.t 11) (.k (.int .i64 2)), none⟩]) (.keep [0, 1, 5, 6, 12])) (
  .cond (.t 12) (
   .seq (
   .region [⟨some 6, .mov (.k (.int .i64 1048576)), none⟩]) (.keep [0, 1, 5, 6])) (
   .skip))) (
 .seq (
  .block 0 (
   .seq (.keep [0, 1, 5, 6]) (.loop (.seq (
    .seq (
     .seq (
      .seq (
      .region [⟨some 13, .mov (.t 5), none⟩,
        ⟨some 14, .mov (.t 6), none⟩,
        ⟨some 15, .bin .lss (.t 13) (.t 14), none⟩]) (.keep [0, 1, 5, 6, 15])) (
     .cond (.t 15) (
      .skip) (
      .exit 0))) (
    .block 1 (
     .seq (
      .seq (
      .region [⟨some 16, .mov (.t 5), none⟩,
        ⟨some 17, .mov (.t 6), none⟩,
        ⟨some 18, .bin .add (.t 16) (.t 17), none⟩,
        ⟨some 19, .bin .add (.t 18) (.k (.int .i64 1)), none⟩,
        ⟨some 20, .bin .quo (.t 19) (.k (.int .i64 2)), none⟩,
        ⟨some 7, .mov (.t 20), none⟩]) (.keep [0, 1, 5, 6, 7])) (
     .seq (
      .seq (
      .region [⟨some 21, .mov (.t 7), none⟩,
        ⟨some 22, .mov (.t 1), none⟩,
        ⟨some 23, .call false (.inr 95) [.t 21, .t 22], none⟩,
        ⟨some 24, .mov (.t 0), none⟩,
        ⟨some 25, .bin .leq (.t 23) (.t 24), none⟩]) (.keep [0, 1, 5, 6, 7, 25])) (
     .cond (.t 25) (
      .seq (
      .region [⟨some 26, .mov (.t 7), none⟩,
        ⟨some 5, .mov (.t 26), none⟩]) (.keep [0, 1, 5, 6])) (
      .seq (
      .region [⟨some 27, .mov (.t 7), none⟩,
        ⟨some 28, .bin .sub (.t 27) (.k (.int .i64 1)), none⟩,
        ⟨some 6, .mov (.t 28), none⟩]) (.keep [0, 1, 5, 6]))))))) (.keep [0, 1, 5, 6]))))) (
 .seq (
  .seq (
  .region [⟨some 29, .mov (.t 5), none⟩,
    ⟨some 4, .mov (.t 29), none⟩]) (.keep [4])) (
 .ret))))))) }
def c74 : CFunc := { nparams := 1, ntmps := 15, results := [(2, none)], body := (
 .seq (
  .seq (
  .region [⟨some 2, .mov (.k (.int .i64 0)), none⟩]) (.keep [0])) (
 .seq (
  .seq (
   .seq (
   .region [⟨some 5, .mov (.t 0), none⟩,
     ⟨some 6, .len (.t 5), none⟩,
     ⟨some 7, .mov (.k (.int .i64 0)), none⟩]) (.keep [5, 6, 7])) (
  .block 0 (
   .seq (.keep [5, 6, 7]) (.loop (.seq (
    .seq (
     .seq (
     .region [⟨some 8, .bin .lss (.t 7) (.t 6), none⟩]) (.keep [5, 6, 7, 8])) (
    .seq (
     .cond (.t 8) (
      .skip) (
      .exit 0)) (
    .seq (
     .block 1 (
      .seq (
       .seq (
       .region [⟨some 9, .iaddr 1 (.t 5) (.t 7), none⟩,
         ⟨some 10, .load none (.t 9), none⟩,
         ⟨some 4, .mov (.t 10), none⟩]) (.keep [4, 5, 6, 7])) (
      .seq (
       .seq (
       .region [⟨some 11, .mov (.t 4), none⟩,
         ⟨some 12, .bin .neq (.t 11) (.k (.int .i64 0)), none⟩]) (.keep [4, 5, 6, 7, 12])) (
      .cond (.t 12) (
       .seq (
        .seq (
        .region [⟨some 13, .mov (.t 4), none⟩,
          ⟨some 2, .mov (.t 13), none⟩]) (.keep [2])) (
       .ret)) (
       .skip))))) (
    .seq (
    .region [⟨some 14, .bin .add (.t 7) (.k (.int .i64 1)), none⟩,
      ⟨some 7, .mov (.t 14), none⟩]) (.keep [5, 6, 7]))))) (.keep [5, 6, 7])))))) (
 .seq (
  .seq (
  .region [⟨some 2, .mov (.k (.int .i64 0)), none⟩]) (.keep [2])) (
 .ret)))) }
def c75 : CFunc := { nparams := 1, ntmps := 7, results := [(2, none)], body := (
 .seq (
  .seq (
  .region [⟨some 2, .mov (.k (.int .i64 0)), none⟩]) (.keep [0])) (
 .seq (
  .seq (
  .region [⟨some 3, .mov (.t 0), none⟩,
    ⟨some 4, .call false (.inr 96) [.t 3], none⟩,
    ⟨some 5, .un .not (.t 4), none⟩,
    ⟨some 6, .call false (.inr 77) [.t 5, .k (.int .i64 8)], none⟩,
    ⟨some 2, .mov (.t 6), none⟩]) (.keep [2])) (
 .ret))) }
def c76 : CFunc := { nparams := 3, ntmps := 16, results := [(6, none)], body := (
 .seq (
  .seq (
  .region [⟨some 6, .mov (.k (.int .i64 0)), none⟩]) (.keep [0, 1, 2])) (
 .seq (
  .seq (
  .region [⟨some 7, .mov (.t 0), none⟩,
    ⟨some 8, .mov (.t 1), none⟩,
    ⟨some 9, .bin .lss (.t 7) (.t 8), none⟩,
    ⟨some 10, .mov (.t 9), none⟩,
    ⟨some 11, .mov (.t 0), (some (10, false))⟩,
    ⟨some 12, .mov (.t 2), (some (10, false))⟩,
    ⟨some 13, .bin .gtr (.t 11) (.t 12), (some (10, false))⟩,
    ⟨some 14, .pick (.t 10) (.k (.bool true)) (.t 13), none⟩,
    ⟨some 15, .call false (.inr 77) [.t 14, .k (.int .i64 3)], none⟩,
    ⟨some 6, .mov (.t 15), none⟩]) (.keep [6])) (
 .ret))) }
def c77 : CFunc := { nparams := 2, ntmps := 7, results := [(4, none)], body := (
 .seq (
  .seq (
  .region [⟨some 4, .mov (.k (.int .i64 0)), none⟩]) (.keep [0, 1])) (
 .seq (
  .seq (
   .seq (
   .region [⟨some 5, .mov (.t 0), none⟩]) (.keep [1, 5])) (
  .cond (.t 5) (
   .seq (
    .seq (
    .region [⟨some 6, .mov (.t 1), none⟩,
      ⟨some 4, .mov (.t 6), none⟩]) (.keep [4])) (
   .ret)) (
   .skip))) (
 .seq (
  .seq (
  .region [⟨some 4, .mov (.k (.int .i64 0)), none⟩]) (.keep [4])) (
 .ret)))) }
def c78 : CFunc := { nparams := 1, ntmps := 26, results := [(2, none)], body := (
 .seq (
  .seq (
  .region [⟨some 2, .mov (.k (.int .i64 0)), none⟩]) (.keep [0])) (
 .seq (
  .seq (
  .region [⟨some 4, .mov (.t 0), none⟩,
    ⟨some 5, .sop (.ff .f64) [.t 4], none⟩,
    ⟨some 3, .mov (.t 5), none⟩]) (.keep [0, 3])) (
 .seq (
  .block 0 (
   .seq (
    .seq (
    .region [⟨some 7, .mov (.t 3), none⟩,
      ⟨some 8, .mov (.t 3), none⟩,
      ⟨some 9, .sop (.fbin .sub) [.t 7, .t 8], none⟩,
      ⟨some 10, .sop (.fbin .neq) [.t 9, .k (.float .f64 0)], none⟩,
      ⟨some 6, .mov (.t 10), none⟩]) (.keep [0, 3, 6])) (
   .cond (.t 6) (
    .seq (
     .seq (
     .region [⟨some 2, .mov (.k (.int .i64 1)), none⟩]) (.keep [2])) (
    .ret)) (
    .seq (
     .seq (
     .region [⟨some 12, .mov (.t 3), none⟩,
       ⟨some 13, .sop (.fbin .lss) [.t 12, .k (.float .f64 13880094051555868672)], none⟩,
       ⟨some 14, .mov (.t 13), none⟩,
       ⟨some 15, .mov (.t 3), (some (14, false))⟩,
       ⟨some 16, .sop (.fbin .gtr) [.t 15, .k (.float .f64 4656722014701092864)], (some (14, false))⟩,
       ⟨some 17, .pick (.t 14) (.k (.bool true)) (.t 16), none⟩,
       ⟨some 18, .mov (.t 17), none⟩,
       ⟨some 19, .mov (.t 0), (some (18, false))⟩,
       ⟨some 20, .call false (.inr 97) [.t 19], (some (18, false))⟩,
       ⟨some 21, .sop (.itf .f64) [.t 20], (some (18, false))⟩,
       ⟨some 22, .mov (.t 3), (some (18, false))⟩,
       ⟨some 23, .sop (.fbin .mul) [.t 22, .k (.float .f64 4625196817309499392)], (some (18, false))⟩,
       ⟨some 24, .sop (.fbin .neq) [.t 21, .t 23], (some (18, false))⟩,
       ⟨some 25, .pick (.t 18) (.k (.bool true)) (.t 24), none⟩,
       ⟨some 11, .mov (.t 25), none⟩]) (.keep [11])) (
    .cond (.t 11) (
     .seq (
      .seq (
      .region [⟨some 2, .mov (.k (.int .i64 3)), none⟩]) (.keep [2])) (
     .ret)) (
     .skip)))))) (
 .seq (
  .seq (
  .region [⟨some 2, .mov (.k (.int .i64 0)), none⟩]) (.keep [2])) (
 .ret))))) }
def c79 : CFunc := { nparams := 1, ntmps := 31, results := [(2, none)], body := (
 .seq (
  .seq (
  .region [⟨some 2, .mov (.k (.int .i64 0)), none⟩]) (.keep [0])) (
 .seq (
  .seq (
   .seq (
   .region [⟨some 7, .mov (.t 0), none⟩,
     ⟨some 8, .len (.t 7), none⟩,
     ⟨some 9, .bin .gtr (.t 8) (.k (.int .i64 1024)), none⟩]) (.keep [0, 9])) (
  .cond (.t 9) (
   .seq (
    .seq (
    .region [⟨some 2, .mov (.k (.int .i64 5)), none⟩]) (.keep [2])) (
   .ret)) (
   .skip))) (
 .seq (
  .seq (
  .region [⟨some 3, .mov (.k (.int .i64 (-1))), none⟩]) (.keep [0, 3])) (
 .seq (
  .seq (
   .seq (
   .region [⟨some 10, .mov (.t 0), none⟩,
     ⟨some 11, .len (.t 10), none⟩,
     ⟨some 12, .mov (.k (.int .i64 0)), none⟩]) (.keep [3, 10, 11, 12])) (
  .block 0 (
   .seq (.keep [3, 10, 11, 12]) (.loop (.seq (
    .seq (
     .seq (
     .region [⟨some 13, .bin .lss (.t 12) (.t 11), none⟩]) (.keep [3, 10, 11, 12, 13])) (
    .seq (
     .cond (.t 13) (
      .skip) (
      .exit 0)) (
    .seq (
     .block 1 (
      .seq (
       .seq (
       .region [⟨some 14, .iaddr 2 (.t 10) (.t 12), none⟩,
         ⟨some 15, .load (some 2) (.t 14), none⟩,
         ⟨some 5, .alloc (some 2) [.int .i64 0, .int .i64 0], none⟩,
         ⟨none, .store 2 (.t 5) (.t 15), none⟩]) (.keep [3, 5, 10, 11, 12])) (
      .seq (
       .seq (
        .seq (
        .region [⟨some 16, .load (some 2) (.t 5), none⟩,
          ⟨some 17, .call false (.inr 98) [.t 16], none⟩,
          ⟨some 18, .faddr 0 (.t 5), none⟩,
          ⟨some 19, .load none (.t 18), none⟩,
          ⟨some 20, .mov (.t 3), none⟩,
          ⟨some 21, .bin .leq (.t 19) (.t 20), none⟩,
          ⟨some 22, .call false (.inr 77) [.t 21, .k (.int .i64 11)], none⟩,
          ⟨some 23, .bsl false 1 [.t 17, .t 22], none⟩,
          ⟨some 24, .call false (.inr 74) [.t 23], none⟩,
          ⟨some 6, .mov (.t 24), none⟩]) (.keep [5, 6, 10, 11, 12])) (
       .seq (
        .seq (
        .region [⟨some 25, .mov (.t 6), none⟩,
          ⟨some 26, .bin .neq (.t 25) (.k (.int .i64 0)), none⟩]) (.keep [5, 6, 10, 11, 12, 26])) (
       .cond (.t 26) (
        .seq (
         .seq (
         .region [⟨some 27, .mov (.t 6), none⟩,
           ⟨some 2, .mov (.t 27), none⟩]) (.keep [2])) (
        .ret)) (
        .skip)))) (
      .seq (
      .region [⟨some 28, .faddr 1 (.t 5), none⟩,
        ⟨some 29, .load none (.t 28), none⟩,
        ⟨some 3, .mov (.t 29), none⟩]) (.keep [3, 10, 11, 12]))))) (
    .seq (
    .region [⟨some 30, .bin .add (.t 12) (.k (.int .i64 1)), none⟩,
      ⟨some 12, .mov (.t 30), none⟩]) (.keep [3, 10, 11, 12]))))) (.seq (.keep [3, 10, 11, 12]) .cut)))))) (
 .seq (
  .seq (
  .region [⟨some 2, .mov (.k (.int .i64 0)), none⟩]) (.keep [2])) (
 .ret)))))) }
def c80 : CFunc := { nparams := 1, ntmps := 31, results := [(2, none)], body := (
 .seq (
  .seq (
  .region [⟨some 1, .box false 4 (.t 0), none⟩,
    ⟨some 2, .mov (.k (.slice none 0 0)), none⟩]) (.keep [1])) (
 .seq (
  .seq (
  .region [⟨some 7, .faddr 2 (.t 1), none⟩,
    ⟨some 8, .load none (.t 7), none⟩,
    ⟨some 9, .len (.t 8), none⟩,
    ⟨some 10, .mksl 1 none [.bool false] 1 (.t 9) (.t 9), none⟩,
    ⟨some 3, .mov (.t 10), none⟩]) (.keep [1, 3])) (
 .seq (
  .seq (
   .seq (
   .region [⟨some 11, .faddr 3 (.t 1), none⟩,
     ⟨some 12, .load none (.t 11), none⟩,
     ⟨some 13, .len (.t 12), none⟩,
     ⟨some 14, .mov (.k (.int .i64 0)), none⟩]) (.keep [3, 12, 13, 14])) (
  .block 0 (
   .seq (.keep [3, 12, 13, 14]) (.loop (.seq (
    .seq (
     .seq (
     .region [⟨some 15, .bin .lss (.t 14) (.t 13), none⟩]) (.keep [3, 12, 13, 14, 15])) (
    .seq (
     .cond (.t 15) (
      .skip) (
      .exit 0)) (
    .seq (
     .block 1 (
      .seq (
       .seq (
       .region [⟨some 16, .iaddr 2 (.t 12) (.t 14), none⟩,
         ⟨some 17, .load (some 2) (.t 16), none⟩,
         ⟨some 5, .alloc (some 2) [.int .i64 0, .int .i64 0], none⟩,
         ⟨none, .store 2 (.t 5) (.t 17), none⟩]) (.keep [3, 5, 12, 13, 14])) (
      .seq (
       .seq (
       .region [⟨some 18, .faddr 0 (.t 5), none⟩,
         ⟨some 19, .load none (.t 18), none⟩,
         ⟨some 6, .mov (.t 19), none⟩]) (.keep [3, 5, 6, 12, 13, 14])) (
      .block 2 (
       .seq (.keep [3, 5, 6, 12, 13, 14]) (.loop (.seq (
        .seq (
         .seq (
          .seq (
          .region [⟨some 20, .mov (.t 6), none⟩,
            ⟨some 21, .faddr 1 (.t 5), none⟩,
            ⟨some 22, .load none (.t 21), none⟩,
            ⟨some 23, .bin .lss (.t 20) (.t 22), none⟩]) (.keep [3, 5, 6, 12, 13, 14, 23])) (
         .cond (.t 23) (
          .skip) (
          .exit 2))) (
        .seq (
         .block 3 (
          .seq (
          .region [⟨some 26, .mov (.t 3), none⟩,
            ⟨some 27, .mov (.t 6), none⟩,
            ⟨some 28, .iaddr 1 (.t 26) (.t 27), none⟩,
            ⟨none, .store 1 (.t 28) (.k (.bool true)), none⟩]) (.keep [3, 5, 6, 12, 13, 14]))) (
        .seq (
        .region [⟨some 24, .mov (.t 6), none⟩,
          ⟨some 25, .bin .add (.t 24) (.k (.int .i64 1)), none⟩,
          ⟨some 6, .mov (.t 25), none⟩]) (.keep [3, 5, 6, 12, 13, 14])))) (.keep [3, 5, 6, 12, 13, 14])))))))) (
    .seq (
    .region [⟨some 29, .bin .add (.t 14) (.k (.int .i64 1)), none⟩,
      ⟨some 14, .mov (.t 29), none⟩]) (.keep [3, 12, 13, 14]))))) (.seq (.keep [3, 12, 13, 14]) .cut)))))) (
 .seq (
  .seq (
  .region [⟨some 30, .fz (.mov (.t 3)), none⟩,
    ⟨some 2, .mov (.t 30), none⟩]) (.keep [2])) (
 .ret))))) }
def c81 : CFunc := { nparams := 1, ntmps := 23, results := [(2, none)], body := (
 .seq (
  .seq (
  .region [⟨some 2, .mov (.k (.int .i64 0)), none⟩]) (.keep [0])) (
 .seq (
  .seq (
  .region [⟨some 4, .mov (.t 0), none⟩,
    ⟨some 5, .sop (.ff .f64) [.t 4], none⟩,
    ⟨some 6, .sop (.fbin .mul) [.k (.float .f64 4625196817309499392), .t 5], none⟩,
    ⟨some 3, .mov (.t 6), none⟩]) (.keep [3])) (
 .seq (
  .seq (
   .seq (
   .region [⟨some 7, .mov (.t 3), none⟩,
     ⟨some 8, .mov (.t 3), none⟩,
     ⟨some 9, .sop (.fbin .sub) [.t 7, .t 8], none⟩,
     ⟨some 10, .sop (.fbin .neq) [.t 9, .k (.float .f64 0)], none⟩]) (.keep [3, 10])) (
  .cond (.t 10) (
   .seq (
    .seq (
    .region [⟨some 2, .mov (.k (.int .i64 1)), none⟩]) (.keep [2])) (
   .ret)) (
   .skip))) (
 .seq (
  .seq (
   .seq (
   .region [⟨some 11, .mov (.t 3), none⟩,
     ⟨some 12, .sop (.fbin .lss) [.t 11, .k (.float .f64 13898108450065350656)], none⟩,
     ⟨some 13, .mov (.t 12), none⟩,
     ⟨some 14, .mov (.t 3), (some (13, false))⟩,
     ⟨some 15, .sop (.fbin .gtr) [.t 14, .k (.float .f64 4674736413210574848)], (some (13, false))⟩,
     ⟨some 16, .pick (.t 13) (.k (.bool true)) (.t 15), none⟩,
     ⟨some 17, .mov (.t 16), none⟩,
     ⟨some 18, .mov (.t 3), (some (17, false))⟩,
     ⟨some 19, .call false (.inr 99) [.t 18], (some (17, false))⟩,
     ⟨some 20, .mov (.t 3), (some (17, false))⟩,
     ⟨some 21, .sop (.fbin .neq) [.t 19, .t 20], (some (17, false))⟩,
     ⟨some 22, .pick (.t 17) (.k (.bool true)) (.t 21), none⟩]) (.keep [22])) (
  .cond (.t 22) (
   .seq (
    .seq (
    .region [⟨some 2, .mov (.k (.int .i64 3)), none⟩]) (.keep [2])) (
   .ret)) (
   .skip))) (
 .seq (
  .seq (
  .region [⟨some 2, .mov (.k (.int .i64 0)), none⟩]) (.keep [2])) (
 .ret)))))) }
def c82 : CFunc := { nparams := 1, ntmps := 18, results := [(2, none)], body := (
 .seq (
  .seq (
  .region [⟨some 1, .box false 2 (.t 0), none⟩,
    ⟨some 2, .mov (.k (.int .i64 0)), none⟩]) (.keep [1])) (
 .seq (
  .seq (
   .seq (
   .region [⟨some 3, .faddr 0 (.t 1), none⟩,
     ⟨some 4, .load none (.t 3), none⟩,
     ⟨some 5, .bin .lss (.t 4) (.k (.int .i64 0)), none⟩,
     ⟨some 6, .mov (.t 5), none⟩,
     ⟨some 7, .faddr 1 (.t 1), (some (6, false))⟩,
     ⟨some 8, .load none (.t 7), (some (6, false))⟩,
     ⟨some 9, .faddr 0 (.t 1), (some (6, false))⟩,
     ⟨some 10, .load none (.t 9), (some (6, false))⟩,
     ⟨some 11, .bin .leq (.t 8) (.t 10), (some (6, false))⟩,
     ⟨some 12, .pick (.t 6) (.k (.bool true)) (.t 11), none⟩,
     ⟨some 13, .mov (.t 12), none⟩,
     ⟨some 14, .faddr 1 (.t 1), (some (13, false))⟩,
     ⟨some 15, .load none (.t 14), (some (13, false))⟩,
     ⟨some 16, .bin .gtr (.t 15) (.k (.int .i64 40000)), (some (13, false))⟩,
     ⟨some 17, .pick (.t 13) (.k (.bool true)) (.t 16), none⟩]) (.keep [17])) (
  .cond (.t 17) (
   .seq (
    .seq (
    .region [⟨some 2, .mov (.k (.int .i64 14)), none⟩]) (.keep [2])) (
   .ret)) (
   .skip))) (
 .seq (
  .seq (
  .region [⟨some 2, .mov (.k (.int .i64 0)), none⟩]) (.keep [2])) (
 .ret)))) }
def c86 : CFunc := { nparams := 3, ntmps := 25, results := [(6, none)], body := (
 .seq (
  .seq (
  .region [⟨some 6, .mov (.k (.bool false)), none⟩]) (.keep [0, 1, 2])) (
 .seq (
  .seq (
  .region [⟨some 7, .mov (.t 0), none⟩,
    ⟨some 8, .mov (.t 1), none⟩,
    ⟨some 9, .bin .lss (.t 7) (.t 8), none⟩,
    ⟨some 10, .mov (.t 9), none⟩,
    ⟨some 11, .mov (.t 1), (some (10, true))⟩,
    ⟨some 12, .mov (.t 2), (some (10, true))⟩,
    ⟨some 13, .bin .gtr (.t 11) (.t 12), (some (10, true))⟩,
    ⟨some 14, .pick (.t 10) (.t 13) (.k (.bool false)), none⟩,
    ⟨some 15, .mov (.t 14), none⟩,
    ⟨some 16, .mov (.t 0), (some (15, false))⟩,
    ⟨some 17, .mov (.t 1), (some (15, false))⟩,
    ⟨some 18, .bin .gtr (.t 16) (.t 17), (some (15, false))⟩,
    ⟨some 19, .mov (.t 18), (some (15, false))⟩,
    ⟨some 20, .mov (.t 1), (some (19, true))⟩,
    ⟨some 21, .mov (.t 2), (some (19, true))⟩,
    ⟨some 22, .bin .lss (.t 20) (.t 21), (some (19, true))⟩,
    ⟨some 23, .pick (.t 19) (.t 22) (.k (.bool false)), (some (15, false))⟩,
    ⟨some 24, .pick (.t 15) (.k (.bool true)) (.t 23), none⟩,
    ⟨some 6, .mov (.t 24), none⟩]) (.keep [6])) (
 .ret))) }
def c87 : CFunc := { nparams := 2, ntmps := 23, results := [(4, none)], body := (
 .seq (
  .seq (
  .region [⟨some 4, .mov (.k (.slice none 0 0)), none⟩]) (.keep [0, 1])) (
 .seq (
  .seq (
  .region [⟨some 5, .onil 1, none⟩]) (.keep [0, 1, 5])) (
 .seq (
  .seq (
   .seq (
   .region [⟨some 8, .mov (.t 0), none⟩,
     ⟨some 9, .len (.t 8), none⟩,
     ⟨some 10, .mov (.k (.int .i64 0)), none⟩]) (.keep [1, 5, 8, 9, 10])) (
  .block 0 (
   .seq (.keep [1, 5, 8, 9, 10]) (.loop (.seq (
    .seq (
     .seq (
     .region [⟨some 11, .bin .lss (.t 10) (.t 9), none⟩]) (.keep [1, 5, 8, 9, 10, 11])) (
    .seq (
     .cond (.t 11) (
      .skip) (
      .exit 0)) (
    .seq (
     .block 1 (
      .seq (
       .seq (
       .region [⟨some 12, .iaddr 1 (.t 8) (.t 10), none⟩,
         ⟨some 13, .load none (.t 12), none⟩,
         ⟨some 7, .mov (.t 13), none⟩]) (.keep [1, 5, 7, 8, 9, 10])) (
      .seq (
       .seq (
       .region [⟨some 14, .mov (.t 1), none⟩,
         ⟨some 15, .mov (.t 7), none⟩,
         ⟨some 16, .call true (.inl (.t 14)) [.t 15], none⟩]) (.keep [1, 5, 7, 8, 9, 10, 16])) (
      .cond (.t 16) (
       .seq (
       .region [⟨some 17, .mov (.t 5), none⟩,
         ⟨some 18, .mov (.t 7), none⟩,
         ⟨some 19, .bsl false 1 [.t 18], none⟩,
         ⟨some 20, .append 1 8 (.t 17) (.t 19), none⟩,
         ⟨some 5, .mov (.t 20), none⟩]) (.keep [1, 5, 8, 9, 10])) (
       .skip))))) (
    .seq (
    .region [⟨some 21, .bin .add (.t 10) (.k (.int .i64 1)), none⟩,
      ⟨some 10, .mov (.t 21), none⟩]) (.keep [1, 5, 8, 9, 10]))))) (.seq (.keep [1, 5, 8, 9, 10]) .cut)))))) (
 .seq (
  .seq (
  .region [⟨some 22, .fz (.mov (.t 5)), none⟩,
    ⟨some 4, .mov (.t 22), none⟩]) (.keep [4])) (
 .ret))))) }
def c88 : CFunc := { nparams := 1, ntmps := 6, results := [(2, none)], body := (
 .seq (
  .seq (
  .region [⟨some 2, .mov (.k (.bool false)), none⟩]) (.keep [0])) (
 .seq (
  .seq (
  .region [⟨some 3, .mov (.t 0), none⟩,
    ⟨some 4, .call false (.inr 44) [.t 3], none⟩,
    ⟨some 5, .bin .neq (.t 4) (.k (.int .i64 0)), none⟩,
    ⟨some 2, .mov (.t 5), none⟩]) (.keep [2])) (
 .ret))) }
def c89 : CFunc := { nparams := 1, ntmps := 55, results := [(2, none)], body := (
 .seq (
  .seq (
  .region [⟨some 2, .mov (.k (.slice none 0 0)), none⟩]) (.keep [0, 4, 7])) (
 .seq (
  .seq (
  .seq (
  .region [⟨some 3, .alloc none [.slice none 0 0], none⟩]) (.own 3 0 2)) (.keep [0, 3, 4, 7])) (
 .seq (
  .seq (
   .seq (
   .region [⟨some 6, .mov (.t 0), none⟩]) (.keep [3, 4, 6, 7])) (
  .block 0 (
   .rangeFunc (.t 6) [7] (
    .seq (
    .region [⟨some 4, .alloc (some 2) [.int .i64 0, .int .i64 0], none⟩,
      ⟨none, .store 2 (.t 4) (.t 7), none⟩]) (.keep [3, 4])) (
    .block 1 (
     .seq (
      .seq (
      .region [⟨some 8, .load none (.t 3), none⟩,
        ⟨some 9, .len (.t 8), none⟩,
        ⟨some 5, .mov (.t 9), none⟩]) (.keep [3, 4, 5])) (
     .block 2 (
      .seq (
       .seq (
       .region [⟨some 15, .mov (.t 5), none⟩,
         ⟨some 16, .bin .gtr (.t 15) (.k (.int .i64 0)), none⟩,
         ⟨some 17, .mov (.t 16), none⟩,
         ⟨some 18, .load none (.t 3), (some (17, true))⟩,
         ⟨some 19, .mov (.t 5), (some (17, true))⟩,
         ⟨some 20, .bin .sub (.t 19) (.k (.int .i64 1)), (some (17, true))⟩,
         ⟨some 21, .iaddr 2 (.t 18) (.t 20), (some (17, true))⟩,
         ⟨some 22, .faddr 1 (.t 21), (some (17, true))⟩,
         ⟨some 23, .load none (.t 22), (some (17, true))⟩,
         ⟨some 24, .faddr 1 (.t 4), (some (17, true))⟩,
         ⟨some 25, .load none (.t 24), (some (17, true))⟩,
         ⟨some 26, .bin .eql (.t 23) (.t 25), (some (17, true))⟩,
         ⟨some 27, .pick (.t 17) (.t 26) (.k (.bool false)), none⟩,
         ⟨some 14, .mov (.t 27), none⟩]) (.keep [3, 4, 5, 14])) (
      .cond (.t 14) (
       .skip) (
       .seq (
        .seq (
        .region [⟨some 29, .mov (.t 5), none⟩,
          ⟨some 30, .bin .gtr (.t 29) (.k (.int .i64 1)), none⟩,
          ⟨some 31, .mov (.t 30), none⟩,
          ⟨some 32, .load none (.t 3), (some (31, true))⟩,
          ⟨some 33, .mov (.t 5), (some (31, true))⟩,
          ⟨some 34, .bin .sub (.t 33) (.k (.int .i64 2)), (some (31, true))⟩,
          ⟨some 35, .iaddr 2 (.t 32) (.t 34), (some (31, true))⟩,
          ⟨some 36, .faddr 1 (.t 35), (some (31, true))⟩,
          ⟨some 37, .load none (.t 36), (some (31, true))⟩,
          ⟨some 38, .load none (.t 3), (some (31, true))⟩,
          ⟨some 39, .mov (.t 5), (some (31, true))⟩,
          ⟨some 40, .bin .sub (.t 39) (.k (.int .i64 1)), (some (31, true))⟩,
          ⟨some 41, .iaddr 2 (.t 38) (.t 40), (some (31, true))⟩,
          ⟨some 42, .faddr 1 (.t 41), (some (31, true))⟩,
          ⟨some 43, .load none (.t 42), (some (31, true))⟩,
          ⟨some 44, .faddr 1 (.t 4), (some (31, true))⟩,
          ⟨some 45, .load none (.t 44), (some (31, true))⟩,
          ⟨some 46, .call false (.inr 86) [.t 37, .t 43, .t 45], (some (31, true))⟩,
          ⟨some 47, .un .not (.t 46), (some (31, true))⟩,
          ⟨some 48, .pick (.t 31) (.t 47) (.k (.bool false)), none⟩,
          ⟨some 28, .mov (.t 48), none⟩]) (.keep [3, 4, 5, 28])) (
       .cond (.t 28) (
        .seq (
        .region [⟨some 49, .load none (.t 3), none⟩,
          ⟨some 50, .mov (.t 5), none⟩,
          ⟨some 51, .bin .sub (.t 50) (.k (.int .i64 1)), none⟩,
          ⟨some 52, .load (some 2) (.t 4), none⟩,
          ⟨some 53, .iaddr 2 (.t 49) (.t 51), none⟩,
          ⟨none, .store 2 (.t 53) (.t 52), none⟩]) (.keep [])) (
        .seq (
        .region [⟨some 10, .load none (.t 3), none⟩,
          ⟨some 11, .load (some 2) (.t 4), none⟩,
          ⟨some 12, .bsl false 2 [.t 11], none⟩,
          ⟨some 13, .append 2 16 (.t 10) (.t 12), none⟩,
          ⟨none, .store 1 (.t 3) (.t 13), none⟩]) (.keep [])))))))))))) (
 .seq (
  .seq (
  .region [⟨some 54, .load none (.t 3), none⟩,
    ⟨some 2, .mov (.t 54), none⟩]) (.keep [2])) (
 .ret))))) }
def c90 : CFunc := { nparams := 2, ntmps := 19, results := [], body := (
 .seq (
  .seq (
  .region [⟨some 5, .load none (.t 1), none⟩,
    ⟨some 6, .len (.t 5), none⟩,
    ⟨some 7, .mov (.k (.int .i64 0)), none⟩]) (.keep [0, 5, 6, 7])) (
 .block 0 (
  .seq (.keep [0, 5, 6, 7]) (.loop (.seq (
   .seq (
    .seq (
    .region [⟨some 8, .bin .lss (.t 7) (.t 6), none⟩]) (.keep [0, 5, 6, 7, 8])) (
   .seq (
    .cond (.t 8) (
     .skip) (
     .exit 0)) (
   .seq (
    .block 1 (
     .seq (
      .seq (
      .region [⟨some 9, .mov (.t 7), none⟩,
        ⟨some 10, .iaddr 1 (.t 5) (.t 7), none⟩,
        ⟨some 11, .load none (.t 10), none⟩,
        ⟨some 3, .mov (.t 9), none⟩,
        ⟨some 4, .mov (.t 11), none⟩]) (.keep [0, 3, 4, 5, 6, 7])) (
     .seq (
      .seq (
      .region [⟨some 12, .mov (.t 0), none⟩,
        ⟨some 13, .mov (.t 3), none⟩,
        ⟨some 14, .mov (.t 4), none⟩,
        ⟨some 15, .build [.int .i64 0, .int .i64 0] [(0, 1, .t 13), (1, 1, .t 14)], none⟩,
        ⟨some 16, .call true (.inl (.t 12)) [.t 15], none⟩,
        ⟨some 17, .un .not (.t 16), none⟩]) (.keep [0, 5, 6, 7, 17])) (
     .cond (.t 17) (
      .ret) (
      .skip))))) (
   .seq (
   .region [⟨some 18, .bin .add (.t 7) (.k (.int .i64 1)), none⟩,
     ⟨some 7, .mov (.t 18), none⟩]) (.keep [0, 5, 6, 7]))))) (.seq (.keep [0, 5, 6, 7]) .cut)))))) }
def c91 : CFunc := { nparams := 2, ntmps := 16, results := [(4, none)], body := (
 .seq (
  .seq (
  .region [⟨some 2, .box false 2 (.t 0), none⟩,
    ⟨some 3, .box false 2 (.t 1), none⟩,
    ⟨some 4, .mov (.k (.int .i64 0)), none⟩]) (.keep [2, 3])) (
 .seq (
  .seq (
  .region [⟨some 5, .faddr 1 (.t 2), none⟩,
    ⟨some 6, .load none (.t 5), none⟩,
    ⟨some 7, .faddr 1 (.t 3), none⟩,
    ⟨some 8, .load none (.t 7), none⟩,
    ⟨some 9, .bin .sub (.t 6) (.t 8), none⟩,
    ⟨some 10, .faddr 1 (.t 3), none⟩,
    ⟨some 11, .load none (.t 10), none⟩,
    ⟨some 12, .faddr 1 (.t 2), none⟩,
    ⟨some 13, .load none (.t 12), none⟩,
    ⟨some 14, .bin .sub (.t 11) (.t 13), none⟩,
    ⟨some 15, .max (.t 9) [.t 14], none⟩,
    ⟨some 4, .mov (.t 15), none⟩]) (.keep [4])) (
 .ret))) }
def c92 : CFunc := { nparams := 1, ntmps := 4, results := [(2, none)], body := (
 .seq (
  .seq (
  .region [⟨some 1, .box false 1 (.t 0), none⟩,
    ⟨some 2, .mov (.k (.nilFunc)), none⟩]) (.keep [1])) (
 .seq (
  .seq (
  .region [⟨some 3, .mkfn 111 [.t 1], none⟩,
    ⟨some 2, .mov (.t 3), none⟩]) (.keep [2])) (
 .ret))) }
def c93 : CFunc := { nparams := 1, ntmps := 36, results := [(2, none)], body := (
 .seq (
  .seq (
  .region [⟨some 2, .mov (.k (.slice none 0 0)), none⟩]) (.keep [0])) (
 .seq (
  .seq (
  .region [⟨some 3, .mov (.k (.int .i64 0)), none⟩]) (.keep [0, 3])) (
 .seq (
  .seq (
   .seq (
   .region [⟨some 9, .mov (.t 0), none⟩,
     ⟨some 10, .len (.t 9), none⟩,
     ⟨some 11, .mov (.k (.int .i64 0)), none⟩]) (.keep [0, 3, 9, 10, 11])) (
  .block 0 (
   .seq (.keep [0, 3, 9, 10, 11]) (.loop (.seq (
    .seq (
     .seq (
     .region [⟨some 12, .bin .lss (.t 11) (.t 10), none⟩]) (.keep [0, 3, 9, 10, 11, 12])) (
    .seq (
     .cond (.t 12) (
      .skip) (
      .exit 0)) (
    .seq (
     .block 1 (
      .seq (
       .seq (
       .region [⟨some 13, .iaddr 1 (.t 9) (.t 11), none⟩,
         ⟨some 14, .load none (.t 13), none⟩,
         ⟨some 5, .mov (.t 14), none⟩]) (.keep [0, 3, 5, 9, 10, 11])) (
      .seq (
       .seq (
       .region [⟨some 15, .mov (.t 3), none⟩,
         ⟨some 16, .mov (.t 5), none⟩,
         ⟨some 17, .len (.t 16), none⟩,
         ⟨some 18, .bin .add (.t 15) (.t 17), none⟩,
         ⟨some 3, .mov (.t 18), none⟩]) (.keep [0, 3, 9, 10, 11])) (
      .seq (
       .seq (
       .region [⟨some 19, .mov (.t 3), none⟩,
         ⟨some 20, .bin .lss (.t 19) (.k (.int .i64 0)), none⟩]) (.keep [0, 3, 9, 10, 11, 20])) (
      .cond (.t 20) (
       .seq (
       .region [⟨some 21, .bad, none⟩,
         ⟨none, .bad, none⟩]) (.keep [0, 3, 9, 10, 11])) (
       .skip)))))) (
    .seq (
    .region [⟨some 22, .bin .add (.t 11) (.k (.int .i64 1)), none⟩,
      ⟨some 11, .mov (.t 22), none⟩]) (.keep [0, 3, 9, 10, 11]))))) (.keep [0, 3, 9, 10, 11])))))) (
 .seq (
  .seq (
  .region [⟨some 23, .mov (.t 3), none⟩,
    ⟨some 24, .call true (.inr 112) [.k (.slice none 0 0), .t 23], none⟩,
    ⟨some 6, .mov (.t 24), none⟩]) (.keep [0, 6])) (
 .seq (
  .seq (
   .seq (
   .region [⟨some 25, .mov (.t 0), none⟩,
     ⟨some 26, .len (.t 25), none⟩,
     ⟨some 27, .mov (.k (.int .i64 0)), none⟩]) (.keep [6, 25, 26, 27])) (
  .block 2 (
   .seq (.keep [6, 25, 26, 27]) (.loop (.seq (
    .seq (
     .seq (
     .region [⟨some 28, .bin .lss (.t 27) (.t 26), none⟩]) (.keep [6, 25, 26, 27, 28])) (
    .seq (
     .cond (.t 28) (
      .skip) (
      .exit 2)) (
    .seq (
     .block 3 (
      .seq (
       .seq (
       .region [⟨some 29, .iaddr 1 (.t 25) (.t 27), none⟩,
         ⟨some 30, .load none (.t 29), none⟩,
         ⟨some 8, .mov (.t 30), none⟩]) (.keep [6, 8, 25, 26, 27])) (
      .seq (
      .region [⟨some 31, .mov (.t 6), none⟩,
        ⟨some 32, .mov (.t 8), none⟩,
        ⟨some 33, .append 2 16 (.t 31) (.t 32), none⟩,
        ⟨some 6, .mov (.t 33), none⟩]) (.keep [6, 25, 26, 27])))) (
    .seq (
    .region [⟨some 34, .bin .add (.t 27) (.k (.int .i64 1)), none⟩,
      ⟨some 27, .mov (.t 34), none⟩]) (.keep [6, 25, 26, 27]))))) (.keep [6, 25, 26, 27])))))) (
 .seq (
  .seq (
  .region [⟨some 35, .fz (.mov (.t 6)), none⟩,
    ⟨some 2, .mov (.t 35), none⟩]) (.keep [2])) (
 .ret))))))) }
def c94 : CFunc := { nparams := 2, ntmps := 28, results := [], body := (
 .seq (
  .seq (
   .seq (
   .region [⟨some 4, .mov (.t 0), none⟩,
     ⟨some 5, .nilc (.t 4), none⟩,
     ⟨some 6, .faddr 1 (.t 5), none⟩,
     ⟨some 7, .load none (.t 6), none⟩,
     ⟨some 8, .mov (.t 7), none⟩,
     ⟨some 9, .mov (.t 1), (some (8, false))⟩,
     ⟨some 10, .mov (.t 0), (some (8, false))⟩,
     ⟨some 11, .nilc (.t 10), (some (8, false))⟩,
     ⟨some 12, .faddr 0 (.t 11), (some (8, false))⟩,
     ⟨some 13, .load none (.t 12), (some (8, false))⟩,
     ⟨some 14, .bin .sub (.k (.int .i64 1152921504606846976)) (.t 13), (some (8, false))⟩,
     ⟨some 15, .bin .gtr (.t 9) (.t 14), (some (8, false))⟩,
     ⟨some 16, .pick (.t 8) (.k (.bool true)) (.t 15), none⟩]) (.keep [0, 1, 16])) (
  .cond (.t 16) (
   .seq (
    .seq (
    .region [⟨some 17, .mov (.t 0), none⟩,
      ⟨some 18, .nilc (.t 17), none⟩,
      ⟨some 19, .faddr 1 (.t 18), none⟩,
      ⟨none, .store 1 (.t 19) (.k (.bool true)), none⟩]) (.keep [])) (
   .ret)) (
   .skip))) (
 .seq (
 .region [⟨some 20, .mov (.t 0), none⟩,
   ⟨some 21, .nilc (.t 20), none⟩,
   ⟨some 22, .faddr 0 (.t 21), none⟩,
   ⟨some 23, .load none (.t 22), none⟩,
   ⟨some 24, .mov (.t 1), none⟩,
   ⟨some 25, .bin .add (.t 23) (.t 24), none⟩,
   ⟨some 26, .nilc (.t 20), none⟩,
   ⟨some 27, .faddr 0 (.t 26), none⟩,
   ⟨none, .store 1 (.t 27) (.t 25), none⟩]) (.keep []))) }
def c95 : CFunc := { nparams := 2, ntmps := 14, results := [(4, none)], body := (
 .seq (
  .seq (
  .region [⟨some 4, .mov (.k (.int .i64 0)), none⟩]) (.keep [0, 1])) (
 .seq (
  .seq (
  .region [⟨some 5, .mov (.k (.int .i64 1)), none⟩]) (.keep [0, 1, 5])) (
 .seq (
  .seq (
   .seq (
   .region [⟨some 6, .mov (.t 1), none⟩,
     ⟨some 7, .mov (.k (.int .i64 0)), none⟩]) (.keep [0, 5, 6, 7])) (
  .block 0 (
   .seq (.keep [0, 5, 6, 7]) (.loop (.seq (
    .seq (
     .seq (
     .region [⟨some 8, .bin .lss (.t 7) (.t 6), none⟩]) (.keep [0, 5, 6, 7, 8])) (
    .seq (
     .cond (.t 8) (
      .skip) (
      .exit 0)) (
    .seq (
     .block 1 (
      .seq (
      .region [⟨some 9, .mov (.t 5), none⟩,
        ⟨some 10, .mov (.t 0), none⟩,
        ⟨some 11, .bin .mul (.t 9) (.t 10), none⟩,
        ⟨some 5, .mov (.t 11), none⟩]) (.keep [0, 5, 6, 7]))) (
    .seq (
    .region [⟨some 12, .bin .add (.t 7) (.k (.int .i64 1)), none⟩,
      ⟨some 7, .mov (.t 12), none⟩]) (.keep [0, 5, 6, 7]))))) (.keep [0, 5, 6, 7])))))) (
 .seq (
  .seq (
  .region [⟨some 13, .mov (.t 5), none⟩,
    ⟨some 4, .mov (.t 13), none⟩]) (.keep [4])) (
 .ret))))) }
def c96 : CFunc := { nparams := 1, ntmps := 49, results := [(2, none)], body := (
 .seq (
  .seq (
  .region [⟨some 2, .mov (.k (.bool false)), none⟩]) (.keep [0])) (
 .seq (
  .seq (
   .seq (
   .region [⟨some 6, .mov (.t 0), none⟩,
     ⟨some 7, .lens (.t 6), none⟩,
     ⟨some 8, .bin .gtr (.t 7) (.k (.int .i64 24)), none⟩]) (.keep [0, 8])) (
  .cond (.t 8) (
   .seq (
    .seq (
    .region [⟨some 2, .mov (.k (.bool false)), none⟩]) (.keep [2])) (
   .ret)) (
   .skip))) (
 .seq (
  .seq (
   .seq (
   .region [⟨some 9, .mov (.t 0), none⟩,
     ⟨some 10, .srng (.t 9), none⟩]) (.keep [0, 10])) (
  .block 0 (
   .seq (.keep [0, 10]) (.loop (.seq (
    .seq (
     .seq (
     .region [⟨some 11, .snxt (.t 10), none⟩,
       ⟨some 12, .ext 0 (.t 11), none⟩]) (.keep [0, 10, 11, 12])) (
    .seq (
     .cond (.t 12) (
      .skip) (
      .exit 0)) (
    .block 1 (
     .seq (
      .seq (
      .region [⟨some 13, .ext 1 (.t 11), none⟩,
        ⟨some 14, .ext 2 (.t 11), none⟩,
        ⟨some 3, .mov (.t 13), none⟩,
        ⟨some 4, .mov (.t 14), none⟩]) (.keep [0, 3, 4, 10])) (
     .seq (
      .seq (
      .region [⟨some 15, .mov (.t 4), none⟩,
        ⟨some 16, .bin .geq (.t 15) (.k (.int .i32 65)), none⟩,
        ⟨some 17, .mov (.t 16), none⟩,
        ⟨some 18, .mov (.t 4), (some (17, true))⟩,
        ⟨some 19, .bin .leq (.t 18) (.k (.int .i32 90)), (some (17, true))⟩,
        ⟨some 20, .pick (.t 17) (.t 19) (.k (.bool false)), none⟩,
        ⟨some 21, .mov (.t 20), none⟩,
        ⟨some 22, .mov (.t 4), (some (21, false))⟩,
        ⟨some 23, .bin .geq (.t 22) (.k (.int .i32 97)), (some (21, false))⟩,
        ⟨some 24, .mov (.t 23), (some (21, false))⟩,
        ⟨some 25, .mov (.t 4), (some (24, true))⟩,
        ⟨some 26, .bin .leq (.t 25) (.k (.int .i32 122)), (some (24, true))⟩,
        ⟨some 27, .pick (.t 24) (.t 26) (.k (.bool false)), (some (21, false))⟩,
        ⟨some 28, .pick (.t 21) (.k (.bool true)) (.t 27), none⟩,
        ⟨some 5, .mov (.t 28), none⟩]) (.keep [0, 3, 4, 5, 10])) (
     .seq (
      .seq (
      .region [⟨some 29, .mov (.t 5), none⟩,
        ⟨some 30, .un .not (.t 29), none⟩,
        ⟨some 31, .mov (.t 30), none⟩,
        ⟨some 32, .mov (.t 3), (some (31, true))⟩,
        ⟨some 33, .bin .eql (.t 32) (.k (.int .i64 0)), (some (31, true))⟩,
        ⟨some 34, .mov (.t 33), (some (31, true))⟩,
        ⟨some 35, .mov (.t 4), (some (34, false))⟩,
        ⟨some 36, .bin .neq (.t 35) (.k (.int .i32 95)), (some (34, false))⟩,
        ⟨some 37, .mov (.t 36), (some (34, false))⟩,
        ⟨some 38, .mov (.t 4), (some (37, true))⟩,
        ⟨some 39, .bin .lss (.t 38) (.k (.int .i32 48)), (some (37, true))⟩,
        ⟨some 40, .mov (.t 39), (some (37, true))⟩,
        ⟨some 41, .mov (.t 4), (some (40, false))⟩,
        ⟨some 42, .bin .gtr (.t 41) (.k (.int .i32 57)), (some (40, false))⟩,
        ⟨some 43, .pick (.t 40) (.k (.bool true)) (.t 42), (some (37, true))⟩,
        ⟨some 44, .pick (.t 37) (.t 43) (.k (.bool false)), (some (34, false))⟩,
        ⟨some 45, .pick (.t 34) (.k (.bool true)) (.t 44), (some (31, true))⟩,
        ⟨some 46, .pick (.t 31) (.t 45) (.k (.bool false)), none⟩]) (.keep [0, 10, 46])) (
     .cond (.t 46) (
      .seq (
       .seq (
       .region [⟨some 2, .mov (.k (.bool false)), none⟩]) (.keep [2])) (
      .ret)) (
      .skip)))))))) (.keep [0, 10])))))) (
 .seq (
  .seq (
  .region [⟨some 47, .mov (.t 0), none⟩,
    ⟨some 48, .bin .neq (.t 47) (.k (.string ⟨#[]⟩)), none⟩,
    ⟨some 2, .mov (.t 48), none⟩]) (.keep [2])) (
 .ret))))) }
def c97 : CFunc := { nparams := 1, ntmps := 7, results := [(2, none)], body := (
 .seq (
  .seq (
  .region [⟨some 2, .mov (.k (.int .i64 0)), none⟩]) (.keep [0])) (
 .seq (
  .seq (
  .region [⟨some 3, .mov (.t 0), none⟩,
    ⟨some 4, .sop (.ff .f64) [.t 3], none⟩,
    ⟨some 5, .sop (.fbin .mul) [.t 4, .k (.float .f64 4625196817309499392)], none⟩,
    ⟨some 6, .sop (.fi .i64) [.t 5], none⟩,
    ⟨some 2, .mov (.t 6), none⟩]) (.keep [2])) (
 .ret))) }
def c98 : CFunc := { nparams := 1, ntmps := 19, results := [(2, none)], body := (
 .seq (
  .seq (
  .region [⟨some 1, .box false 2 (.t 0), none⟩,
    ⟨some 2, .mov (.k (.int .i64 0)), none⟩]) (.keep [1])) (
 .seq (
  .seq (
  .region [⟨some 3, .faddr 0 (.t 1), none⟩,
    ⟨some 4, .load none (.t 3), none⟩,
    ⟨some 5, .bin .lss (.t 4) (.k (.int .i64 0)), none⟩,
    ⟨some 6, .mov (.t 5), none⟩,
    ⟨some 7, .faddr 0 (.t 1), (some (6, false))⟩,
    ⟨some 8, .load none (.t 7), (some (6, false))⟩,
    ⟨some 9, .faddr 1 (.t 1), (some (6, false))⟩,
    ⟨some 10, .load none (.t 9), (some (6, false))⟩,
    ⟨some 11, .bin .geq (.t 8) (.t 10), (some (6, false))⟩,
    ⟨some 12, .pick (.t 6) (.k (.bool true)) (.t 11), none⟩,
    ⟨some 13, .mov (.t 12), none⟩,
    ⟨some 14, .faddr 1 (.t 1), (some (13, false))⟩,
    ⟨some 15, .load none (.t 14), (some (13, false))⟩,
    ⟨some 16, .bin .gtr (.t 15) (.k (.int .i64 40000)), (some (13, false))⟩,
    ⟨some 17, .pick (.t 13) (.k (.bool true)) (.t 16), none⟩,
    ⟨some 18, .call false (.inr 77) [.t 17, .k (.int .i64 14)], none⟩,
    ⟨some 2, .mov (.t 18), none⟩]) (.keep [2])) (
 .ret))) }
def c99 : CFunc := { nparams := 1, ntmps := 7, results := [(2, none)], body := (
 .seq (
  .seq (
  .region [⟨some 2, .mov (.k (.float .f64 0)), none⟩]) (.keep [0])) (
 .seq (
  .cond (.k (.bool true)) (
   .seq (
    .seq (
    .region [⟨some 3, .mov (.t 0), none⟩,
      ⟨some 4, .call false (.inr 113) [.t 3], none⟩,
      ⟨some 2, .mov (.t 4), none⟩]) (.keep [2])) (
   .ret)) (
   .skip)) (
 .seq (
  .seq (
  .region [⟨some 5, .mov (.t 0), none⟩,
    ⟨some 6, .call false (.inr 114) [.t 5], none⟩,
    ⟨some 2, .mov (.t 6), none⟩]) (.keep [2])) (
 .ret)))) }
def c111 : CFunc := { nparams := 2, ntmps := 16, results := [], body := (
 .seq (
  .seq (
  .region [⟨some 5, .load none (.t 1), none⟩,
    ⟨some 6, .len (.t 5), none⟩,
    ⟨some 7, .mov (.k (.int .i64 0)), none⟩]) (.keep [0, 5, 6, 7])) (
 .block 0 (
  .seq (.keep [0, 5, 6, 7]) (.loop (.seq (
   .seq (
    .seq (
    .region [⟨some 8, .bin .lss (.t 7) (.t 6), none⟩]) (.keep [0, 5, 6, 7, 8])) (
   .seq (
    .cond (.t 8) (
     .skip) (
     .exit 0)) (
   .seq (
    .block 1 (
     .seq (
      .seq (
      .region [⟨some 9, .iaddr 2 (.t 5) (.t 7), none⟩,
        ⟨some 10, .load (some 2) (.t 9), none⟩,
        ⟨some 4, .alloc (some 2) [.int .i64 0, .int .i64 0], none⟩,
        ⟨none, .store 2 (.t 4) (.t 10), none⟩]) (.keep [0, 4, 5, 6, 7])) (
     .seq (
      .seq (
      .region [⟨some 11, .mov (.t 0), none⟩,
        ⟨some 12, .load (some 2) (.t 4), none⟩,
        ⟨some 13, .call true (.inl (.t 11)) [.t 12], none⟩,
        ⟨some 14, .un .not (.t 13), none⟩]) (.keep [0, 5, 6, 7, 14])) (
     .cond (.t 14) (
      .ret) (
      .skip))))) (
   .seq (
   .region [⟨some 15, .bin .add (.t 7) (.k (.int .i64 1)), none⟩,
     ⟨some 7, .mov (.t 15), none⟩]) (.keep [0, 5, 6, 7]))))) (.seq (.keep [0, 5, 6, 7]) .cut)))))) }
def c112 : CFunc := { nparams := 2, ntmps := 27, results := [(4, none)], hands := true, body := (
 .seq (
  .seq (
  .region [⟨some 4, .onil 2, none⟩]) (.keep [0, 1])) (
 .seq (
  .seq (
   .seq (
   .region [⟨some 5, .mov (.t 1), none⟩,
     ⟨some 6, .bin .lss (.t 5) (.k (.int .i64 0)), none⟩]) (.keep [0, 1, 6])) (
  .cond (.t 6) (
   .seq (
   .region [⟨some 7, .bad, none⟩,
     ⟨none, .bad, none⟩]) (.keep [0, 1])) (
   .skip))) (
 .seq (
  .seq (
   .seq (
   .region [⟨some 8, .mov (.t 1), none⟩,
     ⟨some 9, .mov (.t 0), none⟩,
     ⟨some 10, .capn (.t 9), none⟩,
     ⟨some 11, .mov (.t 0), none⟩,
     ⟨some 12, .len (.t 11), none⟩,
     ⟨some 13, .bin .sub (.t 10) (.t 12), none⟩,
     ⟨some 14, .bin .sub (.t 8) (.t 13), none⟩,
     ⟨some 1, .mov (.t 14), none⟩]) (.keep [0, 1])) (
  .seq (
   .seq (
   .region [⟨some 15, .mov (.t 1), none⟩,
     ⟨some 16, .bin .gtr (.t 15) (.k (.int .i64 0)), none⟩]) (.keep [0, 1, 16])) (
  .cond (.t 16) (
   .seq (
   .region [⟨some 17, .mov (.t 0), none⟩,
     ⟨some 18, .mov (.t 0), none⟩,
     ⟨some 19, .capn (.t 18), none⟩,
     ⟨some 20, .slice 2 (.t 17) none (some (.t 19)), none⟩,
     ⟨some 21, .mov (.t 1), none⟩,
     ⟨some 22, .appz 2 (some 2) [.int .i64 0, .int .i64 0] 16 (.t 20) (.t 21), none⟩,
     ⟨some 23, .mov (.t 0), none⟩,
     ⟨some 24, .len (.t 23), none⟩,
     ⟨some 25, .slice 2 (.t 22) none (some (.t 24)), none⟩,
     ⟨some 0, .mov (.t 25), none⟩]) (.keep [0])) (
   .skip)))) (
 .seq (
  .seq (
  .region [⟨some 26, .mov (.t 0), none⟩,
    ⟨some 4, .mov (.t 26), none⟩]) (.keep [4])) (
 .ret))))) }
def F : Prog
 | 3 => some c3
 | 5 => some c5
 | 6 => some c6
 | 7 => some c7
 | 8 => some c8
 | 9 => some c9
 | 10 => some c10
 | 14 => some c14
 | 16 => some c16
 | 19 => some c19
 | 20 => some c20
 | 24 => some c24
 | 27 => some c27
 | 28 => some c28
 | 29 => some c29
 | 30 => some c30
 | 31 => some c31
 | 32 => some c32
 | 33 => some c33
 | 34 => some c34
 | 35 => some c35
 | 36 => some c36
 | 37 => some c37
 | 38 => some c38
 | 39 => some c39
 | 40 => some c40
 | 41 => some c41
 | 42 => some c42
 | 43 => some c43
 | 44 => some c44
 | 45 => some c45
 | 46 => some c46
 | 47 => some c47
 | 48 => some c48
 | 49 => some c49
 | 50 => some c50
 | 51 => some c51
 | 52 => some c52
 | 55 => some c55
 | 56 => some c56
 | 57 => some c57
 | 60 => some c60
 | 61 => some c61
 | 62 => some c62
 | 63 => some c63
 | 64 => some c64
 | 65 => some c65
 | 66 => some c66
 | 67 => some c67
 | 68 => some c68
 | 69 => some c69
 | 70 => some c70
 | 71 => some c71
 | 72 => some c72
 | 73 => some c73
 | 74 => some c74
 | 75 => some c75
 | 76 => some c76
 | 77 => some c77
 | 78 => some c78
 | 79 => some c79
 | 80 => some c80
 | 81 => some c81
 | 82 => some c82
 | 86 => some c86
 | 87 => some c87
 | 88 => some c88
 | 89 => some c89
 | 90 => some c90
 | 91 => some c91
 | 92 => some c92
 | 93 => some c93
 | 94 => some c94
 | 95 => some c95
 | 96 => some c96
 | 97 => some c97
 | 98 => some c98
 | 99 => some c99
 | 111 => some c111
 | 112 => some c112
 | _ => none
end Go.Nac.L2

