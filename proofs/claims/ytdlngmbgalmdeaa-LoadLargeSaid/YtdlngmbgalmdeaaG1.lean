import Derived.Test.YtdlngmbgalmdeaaK15
set_option linter.unusedVariables false
namespace Go.Nac.L1
def c6 : CFunc := { nparams := 2, ntmps := 206, results := [(4, none)], body := (
 .seq (
  .seq (
  .region [⟨some 3, .box false 2 (.t 1), none⟩,
    ⟨some 4, .mov (.k (.bool false)), none⟩]) (.keep [0, 3])) (
 .seq (
  .seq (
   .seq (
   .region [⟨some 27, .call false (.inr 13) [], none⟩,
     ⟨some 28, .un .not (.t 27), none⟩,
     ⟨some 29, .mov (.t 28), none⟩,
     ⟨some 30, .mov (.t 0), (some (29, false))⟩,
     ⟨some 31, .len (.t 30), (some (29, false))⟩,
     ⟨some 32, .bin .gtr (.t 31) (.k (.int .i64 24)), (some (29, false))⟩,
     ⟨some 33, .pick (.t 29) (.k (.bool true)) (.t 32), none⟩,
     ⟨some 34, .mov (.t 33), none⟩,
     ⟨some 35, .mov (.t 0), (some (34, false))⟩,
     ⟨some 36, .call false (.inr 17) [.t 35], (some (34, false))⟩,
     ⟨some 37, .bin .neq (.t 36) (.k (.int .i64 0)), (some (34, false))⟩,
     ⟨some 38, .pick (.t 34) (.k (.bool true)) (.t 37), none⟩]) (.keep [0, 3, 38])) (
  .cond (.t 38) (
   .seq (
    .seq (
    .region [⟨some 39, .call false (.inr 13) [], none⟩,
      ⟨some 4, .mov (.t 39), none⟩]) (.keep [4])) (
   .ret)) (
   .skip))) (
 .seq (
  .seq (
  .region [⟨some 40, .iaddra 2 1 (.t 3) (.k (.int .i64 0)), none⟩,
    ⟨some 41, .load none (.t 40), none⟩,
    ⟨some 42, .iaddra 2 1 (.t 3) (.k (.int .i64 1)), none⟩,
    ⟨some 43, .load none (.t 42), none⟩,
    ⟨some 44, .min (.t 41) [.t 43], none⟩,
    ⟨some 45, .conv .i64 (.t 44), none⟩,
    ⟨some 46, .iaddra 2 1 (.t 3) (.k (.int .i64 0)), none⟩,
    ⟨some 47, .load none (.t 46), none⟩,
    ⟨some 48, .iaddra 2 1 (.t 3) (.k (.int .i64 1)), none⟩,
    ⟨some 49, .load none (.t 48), none⟩,
    ⟨some 50, .max (.t 47) [.t 49], none⟩,
    ⟨some 51, .conv .i64 (.t 50), none⟩,
    ⟨some 5, .mov (.t 45), none⟩,
    ⟨some 6, .mov (.t 51), none⟩]) (.keep [0, 5, 6])) (
 .seq (
  .seq (
  .region [⟨some 53, .mov (.t 0), none⟩,
    ⟨some 54, .call false (.inr 40) [.t 53], none⟩,
    ⟨some 52, .mov (.t 54), none⟩,
    ⟨some 55, .ext 0 (.t 52), none⟩,
    ⟨some 56, .ext 1 (.t 52), none⟩,
    ⟨some 57, .ext 2 (.t 52), none⟩,
    ⟨some 7, .mov (.t 55), none⟩,
    ⟨some 8, .mov (.t 56), none⟩,
    ⟨some 9, .mov (.t 57), none⟩]) (.keep [0, 5, 6, 7, 8, 9])) (
 .seq (
  .seq (
  .region [⟨some 59, .mov (.t 0), none⟩,
    ⟨some 60, .call false (.inr 16) [.t 59], none⟩,
    ⟨some 61, .call false (.inr 15) [.t 60], none⟩,
    ⟨some 58, .mov (.t 61), none⟩,
    ⟨some 62, .ext 0 (.t 58), none⟩,
    ⟨some 63, .ext 1 (.t 58), none⟩,
    ⟨some 10, .mov (.t 62), none⟩,
    ⟨some 11, .mov (.t 63), none⟩]) (.keep [0, 5, 6, 7, 8, 9, 10, 11])) (
 .seq (
  .seq (
  .region [⟨some 65, .bsl true 2 [], none⟩,
    ⟨some 66, .mov (.t 10), none⟩,
    ⟨some 67, .fz (.append 2 16 (.t 65) (.t 66)), none⟩,
    ⟨some 68, .mov (.t 5), none⟩,
    ⟨some 69, .call false (.inr 43) [.t 67, .t 68], none⟩,
    ⟨some 64, .mov (.t 69), none⟩,
    ⟨some 70, .ext 0 (.t 64), none⟩,
    ⟨some 71, .ext 1 (.t 64), none⟩,
    ⟨some 12, .mov (.t 70), none⟩,
    ⟨some 13, .mov (.t 71), none⟩]) (.keep [0, 5, 6, 7, 8, 9, 10, 11, 12, 13])) (
 .seq (
  .seq (
  .region [⟨some 73, .bsl true 2 [], none⟩,
    ⟨some 74, .mov (.t 10), none⟩,
    ⟨some 75, .fz (.append 2 16 (.t 73) (.t 74)), none⟩,
    ⟨some 76, .mov (.t 6), none⟩,
    ⟨some 77, .call false (.inr 43) [.t 75, .t 76], none⟩,
    ⟨some 72, .mov (.t 77), none⟩,
    ⟨some 78, .ext 0 (.t 72), none⟩,
    ⟨some 79, .ext 1 (.t 72), none⟩,
    ⟨some 14, .mov (.t 78), none⟩,
    ⟨some 15, .mov (.t 79), none⟩]) (.keep [0, 5, 7, 8, 9, 10, 11, 12, 13, 14, 15])) (
 .seq (
  .seq (
   .seq (
   .region [⟨some 80, .mov (.t 9), none⟩,
     ⟨some 81, .un .not (.t 80), none⟩,
     ⟨some 82, .mov (.t 81), none⟩,
     ⟨some 83, .mov (.t 11), (some (82, false))⟩,
     ⟨some 84, .bin .neq (.t 83) (.k (.int .i64 0)), (some (82, false))⟩,
     ⟨some 85, .pick (.t 82) (.k (.bool true)) (.t 84), none⟩,
     ⟨some 86, .mov (.t 85), none⟩,
     ⟨some 87, .mov (.t 13), (some (86, false))⟩,
     ⟨some 88, .bin .neq (.t 87) (.k (.int .i64 0)), (some (86, false))⟩,
     ⟨some 89, .pick (.t 86) (.k (.bool true)) (.t 88), none⟩,
     ⟨some 90, .mov (.t 89), none⟩,
     ⟨some 91, .mov (.t 15), (some (90, false))⟩,
     ⟨some 92, .bin .neq (.t 91) (.k (.int .i64 0)), (some (90, false))⟩,
     ⟨some 93, .pick (.t 90) (.k (.bool true)) (.t 92), none⟩,
     ⟨some 94, .mov (.t 93), none⟩,
     ⟨some 95, .mov (.t 12), (some (94, false))⟩,
     ⟨some 96, .len (.t 95), (some (94, false))⟩,
     ⟨some 97, .mov (.t 10), (some (94, false))⟩,
     ⟨some 98, .len (.t 97), (some (94, false))⟩,
     ⟨some 99, .bin .gtr (.t 96) (.t 98), (some (94, false))⟩,
     ⟨some 100, .pick (.t 94) (.k (.bool true)) (.t 99), none⟩,
     ⟨some 101, .mov (.t 100), none⟩,
     ⟨some 102, .mov (.t 14), (some (101, false))⟩,
     ⟨some 103, .len (.t 102), (some (101, false))⟩,
     ⟨some 104, .mov (.t 12), (some (101, false))⟩,
     ⟨some 105, .len (.t 104), (some (101, false))⟩,
     ⟨some 106, .bin .gtr (.t 103) (.t 105), (some (101, false))⟩,
     ⟨some 107, .pick (.t 101) (.k (.bool true)) (.t 106), none⟩]) (.keep [0, 5, 7, 8, 12, 14, 107])) (
  .cond (.t 107) (
   .seq (
    .seq (
    .region [⟨some 4, .mov (.k (.bool false)), none⟩]) (.keep [4])) (
   .ret)) (
   .skip))) (
 .seq (
  .seq (
  .region [⟨some 109, .bsl true 2 [], none⟩,
    ⟨some 110, .mov (.t 12), none⟩,
    ⟨some 111, .fz (.append 2 16 (.t 109) (.t 110)), none⟩,
    ⟨some 112, .call false (.inr 44) [.t 111], none⟩,
    ⟨some 108, .mov (.t 112), none⟩,
    ⟨some 113, .ext 0 (.t 108), none⟩,
    ⟨some 114, .ext 1 (.t 108), none⟩,
    ⟨some 115, .ext 2 (.t 108), none⟩,
    ⟨some 16, .mov (.t 113), none⟩,
    ⟨some 17, .mov (.t 114), none⟩,
    ⟨some 18, .mov (.t 115), none⟩]) (.keep [0, 5, 7, 8, 12, 14, 16, 17, 18])) (
 .seq (
  .seq (
  .region [⟨some 117, .bsl true 2 [], none⟩,
    ⟨some 118, .mov (.t 12), none⟩,
    ⟨some 119, .fz (.append 2 16 (.t 117) (.t 118)), none⟩,
    ⟨some 120, .mov (.t 5), none⟩,
    ⟨some 121, .call false (.inr 43) [.t 119, .t 120], none⟩,
    ⟨some 116, .mov (.t 121), none⟩,
    ⟨some 122, .ext 0 (.t 116), none⟩,
    ⟨some 123, .ext 1 (.t 116), none⟩,
    ⟨some 19, .mov (.t 122), none⟩,
    ⟨some 20, .mov (.t 123), none⟩]) (.keep [0, 5, 7, 8, 12, 14, 16, 17, 18, 19, 20])) (
 .seq (
  .seq (
   .seq (
   .region [⟨some 124, .mov (.t 18), none⟩,
     ⟨some 125, .bin .neq (.t 124) (.k (.int .i64 0)), none⟩,
     ⟨some 126, .mov (.t 125), none⟩,
     ⟨some 127, .mov (.t 20), (some (126, false))⟩,
     ⟨some 128, .bin .neq (.t 127) (.k (.int .i64 0)), (some (126, false))⟩,
     ⟨some 129, .pick (.t 126) (.k (.bool true)) (.t 128), none⟩,
     ⟨some 130, .mov (.t 129), none⟩,
     ⟨some 131, .mov (.t 16), (some (130, false))⟩,
     ⟨some 132, .len (.t 131), (some (130, false))⟩,
     ⟨some 133, .mov (.t 0), (some (130, false))⟩,
     ⟨some 134, .len (.t 133), (some (130, false))⟩,
     ⟨some 135, .bin .gtr (.t 132) (.t 134), (some (130, false))⟩,
     ⟨some 136, .pick (.t 130) (.k (.bool true)) (.t 135), none⟩,
     ⟨some 137, .mov (.t 136), none⟩,
     ⟨some 138, .mov (.t 19), (some (137, false))⟩,
     ⟨some 139, .call false (.inr 21) [.t 138], (some (137, false))⟩,
     ⟨some 140, .mov (.t 12), (some (137, false))⟩,
     ⟨some 141, .call false (.inr 21) [.t 140], (some (137, false))⟩,
     ⟨some 142, .call false (.inr 20) [.t 139, .t 141], (some (137, false))⟩,
     ⟨some 143, .un .not (.t 142), (some (137, false))⟩,
     ⟨some 144, .pick (.t 137) (.k (.bool true)) (.t 143), none⟩]) (.keep [5, 7, 8, 12, 14, 16, 17, 144])) (
  .cond (.t 144) (
   .seq (
    .seq (
    .region [⟨some 4, .mov (.k (.bool false)), none⟩]) (.keep [4])) (
   .ret)) (
   .skip))) (
 .seq (
  .seq (
  .region [⟨some 21, .onil 4, none⟩]) (.keep [5, 7, 8, 12, 14, 16, 17, 21])) (
 .seq (
  .seq (
   .seq (
   .region [⟨some 145, .mov (.t 7), none⟩,
     ⟨some 146, .len (.t 145), none⟩,
     ⟨some 147, .mov (.k (.int .i64 0)), none⟩]) (.keep [5, 8, 12, 14, 16, 17, 21, 145, 146, 147])) (
  .block 0 (
   .seq (.keep [5, 8, 12, 14, 16, 17, 21, 145, 146, 147]) (.loop (.seq (
    .seq (
     .seq (
     .region [⟨some 148, .bin .lss (.t 147) (.t 146), none⟩]) (.keep [5, 8, 12, 14, 16, 17, 21, 145, 146, 147, 148])) (
    .seq (
     .cond (.t 148) (
      .skip) (
      .exit 0)) (
    .seq (
     .block 1 (
      .seq (
       .seq (
       .region [⟨some 149, .iaddr 4 (.t 145) (.t 147), none⟩,
         ⟨some 150, .load (some 4) (.t 149), none⟩,
         ⟨some 23, .alloc (some 4) [.int .i64 0, .int .i64 0, .int .i64 0, .int .i64 0], none⟩,
         ⟨none, .store 4 (.t 23) (.t 150), none⟩]) (.keep [5, 8, 12, 14, 16, 17, 21, 23, 145, 146, 147])) (
      .seq (
       .seq (
       .region [⟨some 151, .faddr 3 (.t 23), none⟩,
         ⟨some 152, .load none (.t 151), none⟩,
         ⟨some 153, .faddr 2 (.t 23), none⟩,
         ⟨some 154, .load none (.t 153), none⟩,
         ⟨some 155, .bin .sub (.t 152) (.t 154), none⟩,
         ⟨some 156, .mov (.t 5), none⟩,
         ⟨some 157, .bin .geq (.t 155) (.t 156), none⟩]) (.keep [5, 8, 12, 14, 16, 17, 21, 23, 145, 146, 147, 157])) (
      .cond (.t 157) (
       .seq (
       .region [⟨some 158, .mov (.t 21), none⟩,
         ⟨some 159, .load (some 4) (.t 23), none⟩,
         ⟨some 160, .bsl false 4 [.t 159], none⟩,
         ⟨some 161, .append 4 32 (.t 158) (.t 160), none⟩,
         ⟨some 21, .mov (.t 161), none⟩]) (.keep [5, 8, 12, 14, 16, 17, 21, 145, 146, 147])) (
       .skip))))) (
    .seq (
    .region [⟨some 162, .bin .add (.t 147) (.k (.int .i64 1)), none⟩,
      ⟨some 147, .mov (.t 162), none⟩]) (.keep [5, 8, 12, 14, 16, 17, 21, 145, 146, 147]))))) (.seq (.keep [5, 8, 12, 14, 16, 17, 21, 145, 146, 147]) .cut)))))) (
 .seq (
  .seq (
   .seq (
   .region [⟨some 163, .mov (.t 16), none⟩,
     ⟨some 164, .call false (.inr 47) [.t 163], none⟩,
     ⟨some 165, .call false (.inr 46) [.t 164], none⟩,
     ⟨some 166, .fz (.mov (.t 21)), none⟩,
     ⟨some 167, .call false (.inr 46) [.t 166], none⟩,
     ⟨some 168, .call false (.inr 45) [.t 165, .t 167], none⟩,
     ⟨some 169, .un .not (.t 168), none⟩,
     ⟨some 170, .mov (.t 169), none⟩,
     ⟨some 171, .mov (.t 17), (some (170, false))⟩,
     ⟨some 172, .call false (.inr 21) [.t 171], (some (170, false))⟩,
     ⟨some 173, .call false (.inr 49) [.t 172], (some (170, false))⟩,
     ⟨some 174, .mov (.t 8), (some (170, false))⟩,
     ⟨some 175, .call false (.inr 49) [.t 174], (some (170, false))⟩,
     ⟨some 176, .call false (.inr 48) [.t 173, .t 175], (some (170, false))⟩,
     ⟨some 177, .un .not (.t 176), (some (170, false))⟩,
     ⟨some 178, .pick (.t 170) (.k (.bool true)) (.t 177), none⟩]) (.keep [12, 14, 178])) (
  .cond (.t 178) (
   .seq (
    .seq (
    .region [⟨some 4, .mov (.k (.bool false)), none⟩]) (.keep [4])) (
   .ret)) (
   .skip))) (
 .seq (
  .seq (
  .region [⟨some 24, .mov (.k (.int .i64 0)), none⟩]) (.keep [12, 14, 24])) (
 .seq (
  .seq (
   .seq (
   .region [⟨some 179, .mov (.t 14), none⟩,
     ⟨some 180, .len (.t 179), none⟩,
     ⟨some 181, .mov (.k (.int .i64 0)), none⟩]) (.keep [12, 24, 179, 180, 181])) (
  .block 2 (
   .seq (.keep [12, 24, 179, 180, 181]) (.loop (.seq (
    .seq (
     .seq (
     .region [⟨some 182, .bin .lss (.t 181) (.t 180), none⟩]) (.keep [12, 24, 179, 180, 181, 182])) (
    .seq (
     .cond (.t 182) (
      .skip) (
      .exit 2)) (
    .seq (
     .block 3 (
      .seq (
       .seq (
       .region [⟨some 183, .iaddr 2 (.t 179) (.t 181), none⟩,
         ⟨some 184, .load (some 2) (.t 183), none⟩,
         ⟨some 26, .alloc (some 2) [.int .i64 0, .int .i64 0], none⟩,
         ⟨none, .store 2 (.t 26) (.t 184), none⟩]) (.keep [12, 24, 26, 179, 180, 181])) (
      .seq (
       .block 4 (
        .seq (.keep [12, 24, 26, 179, 180, 181]) (.loop (.seq (
         .seq (
          .seq (
           .seq (
           .region [⟨some 185, .mov (.t 24), none⟩,
             ⟨some 186, .mov (.t 12), none⟩,
             ⟨some 187, .len (.t 186), none⟩,
             ⟨some 188, .bin .lss (.t 185) (.t 187), none⟩,
             ⟨some 189, .mov (.t 188), none⟩,
             ⟨some 190, .mov (.t 12), (some (189, true))⟩,
             ⟨some 191, .mov (.t 24), (some (189, true))⟩,
             ⟨some 192, .iaddr 2 (.t 190) (.t 191), (some (189, true))⟩,
             ⟨some 193, .load (some 2) (.t 192), (some (189, true))⟩,
             ⟨some 194, .load (some 2) (.t 26), (some (189, true))⟩,
             ⟨some 195, .eqs true [.int, .int] (.t 193) (.t 194), (some (189, true))⟩,
             ⟨some 196, .pick (.t 189) (.t 195) (.k (.bool false)), none⟩]) (.keep [12, 24, 26, 179, 180, 181, 196])) (
          .cond (.t 196) (
           .skip) (
           .exit 4))) (
         .block 5 (
          .seq (
          .region [⟨some 197, .mov (.t 24), none⟩,
            ⟨some 198, .bin .add (.t 197) (.k (.int .i64 1)), none⟩,
            ⟨some 24, .mov (.t 198), none⟩]) (.keep [12, 24, 26, 179, 180, 181])))) (.keep [12, 24, 26, 179, 180, 181]))))) (
      .seq (
       .seq (
        .seq (
        .region [⟨some 199, .mov (.t 24), none⟩,
          ⟨some 200, .mov (.t 12), none⟩,
          ⟨some 201, .len (.t 200), none⟩,
          ⟨some 202, .bin .eql (.t 199) (.t 201), none⟩]) (.keep [12, 24, 179, 180, 181, 202])) (
       .cond (.t 202) (
        .seq (
         .seq (
         .region [⟨some 4, .mov (.k (.bool false)), none⟩]) (.keep [4])) (
        .ret)) (
        .skip))) (
      .seq (
      .region [⟨some 203, .mov (.t 24), none⟩,
        ⟨some 204, .bin .add (.t 203) (.k (.int .i64 1)), none⟩,
        ⟨some 24, .mov (.t 204), none⟩]) (.keep [12, 24, 179, 180, 181])))))) (
    .seq (
    .region [⟨some 205, .bin .add (.t 181) (.k (.int .i64 1)), none⟩,
      ⟨some 181, .mov (.t 205), none⟩]) (.keep [12, 24, 179, 180, 181]))))) (.seq (.keep [12, 24, 179, 180, 181]) .cut)))))) (
 .seq (
  .seq (
  .region [⟨some 4, .mov (.k (.bool true)), none⟩]) (.keep [4])) (
 .ret)))))))))))))))))) }
def c13 : CFunc := { nparams := 0, ntmps := 223, results := [(0, none)], body := (
 .seq (
  .seq (
  .region [⟨some 0, .mov (.k (.bool false)), none⟩]) (.keep [])) (
 .seq (
  .seq (
  .region [⟨some 29, .call false (.inr 66) [], none⟩,
    ⟨some 30, .call false (.inr 15) [.t 29], none⟩,
    ⟨some 28, .mov (.t 30), none⟩,
    ⟨some 31, .ext 0 (.t 28), none⟩,
    ⟨some 32, .ext 1 (.t 28), none⟩,
    ⟨some 1, .mov (.t 31), none⟩,
    ⟨some 2, .mov (.t 32), none⟩]) (.keep [1, 2])) (
 .seq (
  .seq (
  .region [⟨some 34, .bsl true 2 [], none⟩,
    ⟨some 35, .mov (.t 1), none⟩,
    ⟨some 36, .fz (.append 2 16 (.t 34) (.t 35)), none⟩,
    ⟨some 37, .call false (.inr 44) [.t 36], none⟩,
    ⟨some 33, .mov (.t 37), none⟩,
    ⟨some 38, .ext 0 (.t 33), none⟩,
    ⟨some 39, .ext 1 (.t 33), none⟩,
    ⟨some 40, .ext 2 (.t 33), none⟩,
    ⟨some 3, .mov (.t 38), none⟩,
    ⟨some 4, .mov (.t 39), none⟩,
    ⟨some 5, .mov (.t 40), none⟩]) (.keep [1, 2, 3, 4, 5])) (
 .seq (
  .seq (
  .region [⟨some 42, .bsl true 2 [], none⟩,
    ⟨some 43, .mov (.t 1), none⟩,
    ⟨some 44, .fz (.append 2 16 (.t 42) (.t 43)), none⟩,
    ⟨some 45, .call false (.inr 43) [.t 44, .k (.int .i64 3)], none⟩,
    ⟨some 41, .mov (.t 45), none⟩,
    ⟨some 46, .ext 0 (.t 41), none⟩,
    ⟨some 47, .ext 1 (.t 41), none⟩,
    ⟨some 6, .mov (.t 46), none⟩,
    ⟨some 7, .mov (.t 47), none⟩]) (.keep [1, 2, 3, 4, 5, 6, 7])) (
 .seq (
  .seq (
  .region [⟨some 49, .bsl true 2 [], none⟩,
    ⟨some 50, .mov (.t 1), none⟩,
    ⟨some 51, .fz (.append 2 16 (.t 49) (.t 50)), none⟩,
    ⟨some 52, .call false (.inr 43) [.t 51, .k (.int .i64 2)], none⟩,
    ⟨some 48, .mov (.t 52), none⟩,
    ⟨some 53, .ext 0 (.t 48), none⟩,
    ⟨some 54, .ext 1 (.t 48), none⟩,
    ⟨some 8, .mov (.t 53), none⟩,
    ⟨some 9, .mov (.t 54), none⟩]) (.keep [1, 2, 3, 4, 5, 6, 7, 8, 9])) (
 .seq (
  .seq (
  .region [⟨some 56, .bsl true 2 [], none⟩,
    ⟨some 57, .mov (.t 4), none⟩,
    ⟨some 58, .fz (.append 2 16 (.t 56) (.t 57)), none⟩,
    ⟨some 59, .call false (.inr 50) [.t 58], none⟩,
    ⟨some 55, .mov (.t 59), none⟩,
    ⟨some 60, .ext 0 (.t 55), none⟩,
    ⟨some 61, .ext 1 (.t 55), none⟩,
    ⟨some 10, .mov (.t 60), none⟩,
    ⟨some 11, .mov (.t 61), none⟩]) (.keep [1, 2, 3, 4, 5, 6, 7, 8, 9, 10, 11])) (
 .seq (
  .seq (
  .region [⟨some 63, .bsl true 2 [], none⟩,
    ⟨some 64, .mov (.t 1), none⟩,
    ⟨some 65, .fz (.append 2 16 (.t 63) (.t 64)), none⟩,
    ⟨some 66, .call false (.inr 41) [.t 65, .k (.int .i64 3)], none⟩,
    ⟨some 62, .mov (.t 66), none⟩,
    ⟨some 67, .ext 0 (.t 62), none⟩,
    ⟨some 68, .ext 1 (.t 62), none⟩,
    ⟨some 12, .mov (.t 67), none⟩,
    ⟨some 13, .mov (.t 68), none⟩]) (.keep [1, 2, 3, 4, 5, 6, 7, 8, 9, 10, 11, 12, 13])) (
 .seq (
  .seq (
  .region [⟨some 70, .bsl true 2 [], none⟩,
    ⟨some 71, .mov (.t 1), none⟩,
    ⟨some 72, .fz (.append 2 16 (.t 70) (.t 71)), none⟩,
    ⟨some 73, .call false (.inr 42) [.t 72], none⟩,
    ⟨some 69, .mov (.t 73), none⟩,
    ⟨some 74, .ext 0 (.t 69), none⟩,
    ⟨some 75, .ext 1 (.t 69), none⟩,
    ⟨some 14, .mov (.t 74), none⟩,
    ⟨some 15, .mov (.t 75), none⟩]) (.keep [1, 2, 3, 4, 5, 6, 7, 8, 9, 10, 11, 12, 13, 14, 15])) (
 .seq (
  .seq (
  .region [⟨some 77, .build [.int .i64 0, .int .i64 0, .int .i64 0, .int .i64 0] [(0, 1, .k (.int .i64 3)), (1, 1, .k (.int .i64 4)), (2, 1, .k (.int .i64 2)), (3, 1, .k (.int .i64 4))], none⟩,
    ⟨some 78, .bsl false 4 [.t 77], none⟩,
    ⟨some 79, .call false (.inr 25) [.t 78, .k (.int .i64 2)], none⟩,
    ⟨some 76, .mov (.t 79), none⟩,
    ⟨some 80, .ext 0 (.t 76), none⟩,
    ⟨some 81, .ext 1 (.t 76), none⟩,
    ⟨some 16, .mov (.t 80), none⟩,
    ⟨some 17, .mov (.t 81), none⟩]) (.keep [1, 2, 3, 4, 5, 6, 7, 8, 9, 10, 11, 12, 13, 14, 15, 16, 17])) (
 .seq (
  .seq (
  .region [⟨some 83, .bsl true 2 [], none⟩,
    ⟨some 84, .mov (.t 4), none⟩,
    ⟨some 85, .fz (.append 2 16 (.t 83) (.t 84)), none⟩,
    ⟨some 86, .call false (.inr 27) [.t 85, .k (.int .i64 2)], none⟩,
    ⟨some 82, .mov (.t 86), none⟩,
    ⟨some 87, .ext 0 (.t 82), none⟩,
    ⟨some 88, .ext 1 (.t 82), none⟩,
    ⟨some 18, .mov (.t 87), none⟩,
    ⟨some 19, .mov (.t 88), none⟩]) (.keep [1, 2, 3, 4, 5, 6, 7, 8, 9, 10, 11, 12, 13, 14, 15, 16, 17, 18, 19])) (
 .seq (
  .seq (
  .region [⟨some 90, .call false (.inr 66) [], none⟩,
    ⟨some 91, .call false (.inr 28) [.t 90, .k (.int .i64 2)], none⟩,
    ⟨some 89, .mov (.t 91), none⟩,
    ⟨some 92, .ext 0 (.t 89), none⟩,
    ⟨some 93, .ext 1 (.t 89), none⟩,
    ⟨some 20, .mov (.t 92), none⟩,
    ⟨some 21, .mov (.t 93), none⟩]) (.keep [1, 2, 3, 4, 5, 6, 7, 8, 9, 10, 11, 12, 13, 14, 15, 16, 17, 18, 19, 20, 21])) (
 .seq (
  .seq (
   .seq (
   .region [⟨some 94, .mov (.t 2), none⟩,
     ⟨some 95, .mov (.t 5), none⟩,
     ⟨some 96, .bin .add (.t 94) (.t 95), none⟩,
     ⟨some 97, .mov (.t 7), none⟩,
     ⟨some 98, .bin .add (.t 96) (.t 97), none⟩,
     ⟨some 99, .mov (.t 9), none⟩,
     ⟨some 100, .bin .add (.t 98) (.t 99), none⟩,
     ⟨some 101, .mov (.t 11), none⟩,
     ⟨some 102, .bin .add (.t 100) (.t 101), none⟩,
     ⟨some 103, .mov (.t 13), none⟩,
     ⟨some 104, .bin .add (.t 102) (.t 103), none⟩,
     ⟨some 105, .mov (.t 15), none⟩,
     ⟨some 106, .bin .add (.t 104) (.t 105), none⟩,
     ⟨some 107, .mov (.t 17), none⟩,
     ⟨some 108, .bin .add (.t 106) (.t 107), none⟩,
     ⟨some 109, .mov (.t 19), none⟩,
     ⟨some 110, .bin .add (.t 108) (.t 109), none⟩,
     ⟨some 111, .mov (.t 21), none⟩,
     ⟨some 112, .bin .add (.t 110) (.t 111), none⟩,
     ⟨some 113, .bin .neq (.t 112) (.k (.int .i64 0)), none⟩,
     ⟨some 114, .mov (.t 113), none⟩,
     ⟨some 115, .mov (.t 1), (some (114, false))⟩,
     ⟨some 116, .call false (.inr 21) [.t 115], (some (114, false))⟩,
     ⟨some 117, .build [.int .i64 0, .int .i64 0] [(0, 1, .k (.int .i64 0)), (1, 1, .k (.int .i64 0))], (some (114, false))⟩,
     ⟨some 118, .build [.int .i64 0, .int .i64 0] [(0, 1, .k (.int .i64 1)), (1, 1, .k (.int .i64 5))], (some (114, false))⟩,
     ⟨some 119, .build [.int .i64 0, .int .i64 0] [(0, 1, .k (.int .i64 3)), (1, 1, .k (.int .i64 2))], (some (114, false))⟩,
     ⟨some 120, .build [.int .i64 0, .int .i64 0] [(0, 1, .k (.int .i64 4)), (1, 1, .k (.int .i64 4))], (some (114, false))⟩,
     ⟨some 121, .build [.int .i64 0, .int .i64 0] [(0, 1, .k (.int .i64 5)), (1, 1, .k (.int .i64 (-1)))], (some (114, false))⟩,
     ⟨some 122, .build [.int .i64 0, .int .i64 0] [(0, 1, .k (.int .i64 7)), (1, 1, .k (.int .i64 6))], (some (114, false))⟩,
     ⟨some 123, .bsl false 2 [.t 117, .t 118, .t 119, .t 120, .t 121, .t 122], (some (114, false))⟩,
     ⟨some 124, .call false (.inr 20) [.t 116, .t 123], (some (114, false))⟩,
     ⟨some 125, .un .not (.t 124), (some (114, false))⟩,
     ⟨some 126, .pick (.t 114) (.k (.bool true)) (.t 125), none⟩,
     ⟨some 127, .mov (.t 126), none⟩,
     ⟨some 128, .mov (.t 3), (some (127, false))⟩,
     ⟨some 129, .call false (.inr 47) [.t 128], (some (127, false))⟩,
     ⟨some 130, .build [.int .i64 0, .int .i64 0, .int .i64 0, .int .i64 0] [(0, 1, .k (.int .i64 3)), (1, 1, .k (.int .i64 4)), (2, 1, .k (.int .i64 2)), (3, 1, .k (.int .i64 4))], (some (127, false))⟩,
     ⟨some 131, .bsl false 4 [.t 130], (some (127, false))⟩,
     ⟨some 132, .call false (.inr 56) [.t 129, .t 131], (some (127, false))⟩,
     ⟨some 133, .un .not (.t 132), (some (127, false))⟩,
     ⟨some 134, .pick (.t 127) (.k (.bool true)) (.t 133), none⟩,
     ⟨some 135, .mov (.t 134), none⟩,
     ⟨some 136, .mov (.t 4), (some (135, false))⟩,
     ⟨some 137, .call false (.inr 21) [.t 136], (some (135, false))⟩,
     ⟨some 138, .call false (.inr 49) [.t 137], (some (135, false))⟩,
     ⟨some 139, .bsl false 1 [.k (.int .i64 0), .k (.int .i64 5), .k (.int .i64 (-1)), .k (.int .i64 6)], (some (135, false))⟩,
     ⟨some 140, .call false (.inr 48) [.t 138, .t 139], (some (135, false))⟩,
     ⟨some 141, .un .not (.t 140), (some (135, false))⟩,
     ⟨some 142, .pick (.t 135) (.k (.bool true)) (.t 141), none⟩,
     ⟨some 143, .mov (.t 142), none⟩,
     ⟨some 144, .mov (.t 6), (some (143, false))⟩,
     ⟨some 145, .call false (.inr 21) [.t 144], (some (143, false))⟩,
     ⟨some 146, .mov (.t 4), (some (143, false))⟩,
     ⟨some 147, .call false (.inr 21) [.t 146], (some (143, false))⟩,
     ⟨some 148, .call false (.inr 20) [.t 145, .t 147], (some (143, false))⟩,
     ⟨some 149, .un .not (.t 148), (some (143, false))⟩,
     ⟨some 150, .pick (.t 143) (.k (.bool true)) (.t 149), none⟩,
     ⟨some 151, .mov (.t 150), none⟩,
     ⟨some 152, .mov (.t 8), (some (151, false))⟩,
     ⟨some 153, .call false (.inr 21) [.t 152], (some (151, false))⟩,
     ⟨some 154, .mov (.t 1), (some (151, false))⟩,
     ⟨some 155, .call false (.inr 21) [.t 154], (some (151, false))⟩,
     ⟨some 156, .call false (.inr 20) [.t 153, .t 155], (some (151, false))⟩,
     ⟨some 157, .un .not (.t 156), (some (151, false))⟩,
     ⟨some 158, .pick (.t 151) (.k (.bool true)) (.t 157), none⟩]) (.keep [10, 12, 14, 16, 18, 20, 158])) (
  .cond (.t 158) (
   .seq (
    .seq (
    .region [⟨some 0, .mov (.k (.bool false)), none⟩]) (.keep [0])) (
   .ret)) (
   .skip))) (
 .seq (
  .seq (
  .region [⟨some 160, .build [.int .i64 0, .int .i64 0] [(0, 1, .k (.int .i64 40)), (1, 1, .k (.int .i64 1))], none⟩,
    ⟨some 161, .call false (.inr 66) [], none⟩,
    ⟨some 162, .call false (.inr 59) [.t 160, .t 161], none⟩,
    ⟨some 159, .mov (.t 162), none⟩,
    ⟨some 163, .ext 0 (.t 159), none⟩,
    ⟨some 164, .ext 1 (.t 159), none⟩,
    ⟨some 22, .mov (.t 163), none⟩,
    ⟨some 23, .mov (.t 164), none⟩]) (.keep [10, 12, 14, 16, 18, 20, 22, 23])) (
 .seq (
  .seq (
  .region [⟨some 166, .build [.int .i64 0, .int .i64 0, .int .i64 0, .int .i64 0] [(0, 1, .k (.int .i64 3)), (1, 1, .k (.int .i64 4)), (2, 1, .k (.int .i64 2)), (3, 1, .k (.int .i64 4))], none⟩,
    ⟨some 167, .bsl false 4 [.t 166], none⟩,
    ⟨some 168, .call false (.inr 29) [.t 167, .k (.int .i64 2), .k (.int .i64 1)], none⟩,
    ⟨some 165, .mov (.t 168), none⟩,
    ⟨some 169, .ext 0 (.t 165), none⟩,
    ⟨some 170, .ext 1 (.t 165), none⟩,
    ⟨some 24, .mov (.t 169), none⟩,
    ⟨some 25, .mov (.t 170), none⟩]) (.keep [10, 12, 14, 16, 18, 20, 22, 23, 24, 25])) (
 .seq (
  .seq (
  .region [⟨some 172, .build [.int .i64 0, .int .i64 0, .int .i64 0, .int .i64 0] [(0, 1, .k (.int .i64 3)), (1, 1, .k (.int .i64 4)), (2, 1, .k (.int .i64 2)), (3, 1, .k (.int .i64 4))], none⟩,
    ⟨some 173, .bsl false 4 [.t 172], none⟩,
    ⟨some 174, .call false (.inr 29) [.t 173, .k (.int .i64 2), .k (.int .i64 2)], none⟩,
    ⟨some 171, .mov (.t 174), none⟩,
    ⟨some 175, .ext 0 (.t 171), none⟩,
    ⟨some 176, .ext 1 (.t 171), none⟩,
    ⟨some 26, .mov (.t 175), none⟩,
    ⟨some 27, .mov (.t 176), none⟩]) (.keep [10, 12, 14, 16, 18, 20, 22, 23, 24, 25, 26, 27])) (
 .seq (
  .seq (
  .region [⟨some 177, .mov (.t 23), none⟩,
    ⟨some 178, .mov (.t 25), none⟩,
    ⟨some 179, .bin .add (.t 177) (.t 178), none⟩,
    ⟨some 180, .mov (.t 27), none⟩,
    ⟨some 181, .bin .add (.t 179) (.t 180), none⟩,
    ⟨some 182, .bin .eql (.t 181) (.k (.int .i64 0)), none⟩,
    ⟨some 183, .mov (.t 182), none⟩,
    ⟨some 184, .mov (.t 10), (some (183, true))⟩,
    ⟨some 185, .call false (.inr 47) [.t 184], (some (183, true))⟩,
    ⟨some 186, .build [.int .i64 0, .int .i64 0, .int .i64 0, .int .i64 0] [(0, 1, .k (.int .i64 8)), (1, 1, .k (.int .i64 9)), (2, 1, .k (.int .i64 0)), (3, 1, .k (.int .i64 5))], (some (183, true))⟩,
    ⟨some 187, .build [.int .i64 0, .int .i64 0, .int .i64 0, .int .i64 0] [(0, 1, .k (.int .i64 7)), (1, 1, .k (.int .i64 13)), (2, 1, .k (.int .i64 (-1))), (3, 1, .k (.int .i64 6))], (some (183, true))⟩,
    ⟨some 188, .bsl false 4 [.t 186, .t 187], (some (183, true))⟩,
    ⟨some 189, .call false (.inr 56) [.t 185, .t 188], (some (183, true))⟩,
    ⟨some 190, .pick (.t 183) (.t 189) (.k (.bool false)), none⟩,
    ⟨some 191, .mov (.t 190), none⟩,
    ⟨some 192, .mov (.t 12), (some (191, true))⟩,
    ⟨some 193, .bin .eql (.t 192) (.k (.int .i64 3)), (some (191, true))⟩,
    ⟨some 194, .pick (.t 191) (.t 193) (.k (.bool false)), none⟩,
    ⟨some 195, .mov (.t 194), none⟩,
    ⟨some 196, .mov (.t 14), (some (195, true))⟩,
    ⟨some 197, .bin .eql (.t 196) (.k (.int .i64 7)), (some (195, true))⟩,
    ⟨some 198, .pick (.t 195) (.t 197) (.k (.bool false)), none⟩,
    ⟨some 199, .mov (.t 198), none⟩,
    ⟨some 200, .mov (.t 16), (some (199, true))⟩,
    ⟨some 201, .bin .eql (.t 200) (.k (.int .i64 4)), (some (199, true))⟩,
    ⟨some 202, .pick (.t 199) (.t 201) (.k (.bool false)), none⟩,
    ⟨some 203, .mov (.t 202), none⟩,
    ⟨some 204, .mov (.t 18), (some (203, true))⟩,
    ⟨some 205, .bin .eql (.t 204) (.k (.int .i64 110)), (some (203, true))⟩,
    ⟨some 206, .pick (.t 203) (.t 205) (.k (.bool false)), none⟩,
    ⟨some 207, .mov (.t 206), none⟩,
    ⟨some 208, .mov (.t 20), (some (207, true))⟩,
    ⟨some 209, .bin .eql (.t 208) (.k (.int .i64 118)), (some (207, true))⟩,
    ⟨some 210, .pick (.t 207) (.t 209) (.k (.bool false)), none⟩,
    ⟨some 211, .mov (.t 210), none⟩,
    ⟨some 212, .mov (.t 22), (some (211, true))⟩,
    ⟨some 213, .bin .eql (.t 212) (.k (.int .i64 3)), (some (211, true))⟩,
    ⟨some 214, .pick (.t 211) (.t 213) (.k (.bool false)), none⟩,
    ⟨some 215, .mov (.t 214), none⟩,
    ⟨some 216, .mov (.t 24), (some (215, true))⟩,
    ⟨some 217, .bin .eql (.t 216) (.k (.int .i64 2)), (some (215, true))⟩,
    ⟨some 218, .pick (.t 215) (.t 217) (.k (.bool false)), none⟩,
    ⟨some 219, .mov (.t 218), none⟩,
    ⟨some 220, .mov (.t 26), (some (219, true))⟩,
    ⟨some 221, .bin .eql (.t 220) (.k (.int .i64 1)), (some (219, true))⟩,
    ⟨some 222, .pick (.t 219) (.t 221) (.k (.bool false)), none⟩,
    ⟨some 0, .mov (.t 222), none⟩]) (.keep [0])) (
 .ret))))))))))))))))) }
def c15 : CFunc := { nparams := 1, ntmps := 12, results := [(2, none), (3, none)], body := (
 .seq (
  .seq (
  .region [⟨some 2, .mov (.k (.slice none 0 0)), none⟩,
    ⟨some 3, .mov (.k (.int .i64 0)), none⟩]) (.keep [0])) (
 .seq (
  .seq (
   .seq (
   .region [⟨some 5, .mov (.t 0), none⟩,
     ⟨some 6, .call false (.inr 19) [.t 5], none⟩,
     ⟨some 4, .mov (.t 6), none⟩]) (.keep [0, 4])) (
  .seq (
   .seq (
   .region [⟨some 7, .mov (.t 4), none⟩,
     ⟨some 8, .bin .neq (.t 7) (.k (.int .i64 0)), none⟩]) (.keep [0, 4, 8])) (
  .cond (.t 8) (
   .seq (
    .seq (
    .region [⟨some 9, .mov (.t 4), none⟩,
      ⟨some 2, .mov (.k (.slice none 0 0)), none⟩,
      ⟨some 3, .mov (.t 9), none⟩]) (.keep [2, 3])) (
   .ret)) (
   .skip)))) (
 .seq (
  .seq (
  .region [⟨some 10, .mov (.t 0), none⟩,
    ⟨some 11, .call false (.inr 67) [.t 10], none⟩,
    ⟨some 2, .mov (.t 11), none⟩,
    ⟨some 3, .mov (.k (.int .i64 0)), none⟩]) (.keep [2, 3])) (
 .ret)))) }
def c16 : CFunc := { nparams := 1, ntmps := 6, results := [(2, none)], hands := true, body := (
 .seq (
  .seq (
  .region [⟨some 2, .onil 1, none⟩]) (.keep [0])) (
 .seq (
  .seq (
  .region [⟨some 3, .bsl true 1 [], none⟩,
    ⟨some 4, .mov (.t 0), none⟩,
    ⟨some 5, .append 1 8 (.t 3) (.t 4), none⟩,
    ⟨some 2, .mov (.t 5), none⟩]) (.keep [2])) (
 .ret))) }
def c17 : CFunc := { nparams := 1, ntmps := 22, results := [(2, none)], body := (
 .seq (
  .seq (
  .region [⟨some 2, .mov (.k (.int .i64 0)), none⟩]) (.keep [0])) (
 .seq (
  .seq (
   .seq (
   .region [⟨some 5, .mov (.t 0), none⟩,
     ⟨some 6, .len (.t 5), none⟩,
     ⟨some 7, .bin .gtr (.t 6) (.k (.int .i64 40000)), none⟩]) (.keep [0, 7])) (
  .cond (.t 7) (
   .seq (
    .seq (
    .region [⟨some 2, .mov (.k (.int .i64 5)), none⟩]) (.keep [2])) (
   .ret)) (
   .skip))) (
 .seq (
  .seq (
   .seq (
   .region [⟨some 3, .mov (.k (.int .i64 0)), none⟩]) (.keep [0, 3])) (
  .block 0 (
   .seq (.keep [0, 3]) (.loop (.seq (
    .seq (
     .seq (
      .seq (
      .region [⟨some 8, .mov (.t 3), none⟩,
        ⟨some 9, .mov (.t 0), none⟩,
        ⟨some 10, .len (.t 9), none⟩,
        ⟨some 11, .bin .lss (.t 8) (.t 10), none⟩]) (.keep [0, 3, 11])) (
     .cond (.t 11) (
      .skip) (
      .exit 0))) (
    .seq (
     .block 1 (
      .seq (
       .seq (
       .region [⟨some 14, .mov (.t 0), none⟩,
         ⟨some 15, .mov (.t 3), none⟩,
         ⟨some 16, .iaddr 1 (.t 14) (.t 15), none⟩,
         ⟨some 17, .load none (.t 16), none⟩,
         ⟨some 18, .call false (.inr 68) [.t 17], none⟩,
         ⟨some 4, .mov (.t 18), none⟩]) (.keep [0, 3, 4])) (
      .seq (
       .seq (
       .region [⟨some 19, .mov (.t 4), none⟩,
         ⟨some 20, .bin .neq (.t 19) (.k (.int .i64 0)), none⟩]) (.keep [0, 3, 4, 20])) (
      .cond (.t 20) (
       .seq (
        .seq (
        .region [⟨some 21, .mov (.t 4), none⟩,
          ⟨some 2, .mov (.t 21), none⟩]) (.keep [2])) (
       .ret)) (
       .skip))))) (
    .seq (
    .region [⟨some 12, .mov (.t 3), none⟩,
      ⟨some 13, .bin .add (.t 12) (.k (.int .i64 1)), none⟩,
      ⟨some 3, .mov (.t 13), none⟩]) (.keep [0, 3])))) (.keep [0, 3])))))) (
 .seq (
  .seq (
  .region [⟨some 2, .mov (.k (.int .i64 0)), none⟩]) (.keep [2])) (
 .ret))))) }
def c19 : CFunc := { nparams := 1, ntmps := 16, results := [(2, none)], body := (
 .seq (
  .seq (
  .region [⟨some 2, .mov (.k (.int .i64 0)), none⟩]) (.keep [0])) (
 .seq (
  .seq (
  .region [⟨some 4, .mov (.t 0), none⟩,
    ⟨some 5, .call false (.inr 70) [.t 4, .f 71], none⟩,
    ⟨some 3, .mov (.t 5), none⟩]) (.keep [0, 3])) (
 .seq (
  .seq (
  .region [⟨some 6, .mov (.t 0), none⟩,
    ⟨some 7, .len (.t 6), none⟩,
    ⟨some 8, .bin .gtr (.t 7) (.k (.int .i64 40000)), none⟩,
    ⟨some 9, .call false (.inr 74) [.t 8, .k (.int .i64 5)], none⟩,
    ⟨some 10, .mov (.t 3), none⟩,
    ⟨some 11, .len (.t 10), none⟩,
    ⟨some 12, .bin .gtr (.t 11) (.k (.int .i64 0)), none⟩,
    ⟨some 13, .call false (.inr 74) [.t 12, .k (.int .i64 3)], none⟩,
    ⟨some 14, .bsl false 1 [.t 9, .t 13], none⟩,
    ⟨some 15, .call false (.inr 73) [.t 14], none⟩,
    ⟨some 2, .mov (.t 15), none⟩]) (.keep [2])) (
 .ret)))) }
def c20 : CFunc := { nparams := 2, ntmps := 26, results := [(4, none)], body := (
 .seq (
  .seq (
  .region [⟨some 4, .mov (.k (.bool false)), none⟩]) (.keep [0, 1])) (
 .seq (
  .seq (
   .seq (
   .region [⟨some 6, .mov (.t 0), none⟩,
     ⟨some 7, .len (.t 6), none⟩,
     ⟨some 8, .mov (.t 1), none⟩,
     ⟨some 9, .len (.t 8), none⟩,
     ⟨some 10, .bin .neq (.t 7) (.t 9), none⟩]) (.keep [0, 1, 10])) (
  .cond (.t 10) (
   .seq (
    .seq (
    .region [⟨some 4, .mov (.k (.bool false)), none⟩]) (.keep [4])) (
   .ret)) (
   .skip))) (
 .seq (
  .seq (
   .seq (
   .region [⟨some 5, .mov (.k (.int .i64 0)), none⟩]) (.keep [0, 1, 5])) (
  .block 0 (
   .seq (.keep [0, 1, 5]) (.loop (.seq (
    .seq (
     .seq (
      .seq (
      .region [⟨some 11, .mov (.t 5), none⟩,
        ⟨some 12, .mov (.t 0), none⟩,
        ⟨some 13, .len (.t 12), none⟩,
        ⟨some 14, .bin .lss (.t 11) (.t 13), none⟩]) (.keep [0, 1, 5, 14])) (
     .cond (.t 14) (
      .skip) (
      .exit 0))) (
    .seq (
     .block 1 (
      .seq (
       .seq (
       .region [⟨some 17, .mov (.t 0), none⟩,
         ⟨some 18, .mov (.t 5), none⟩,
         ⟨some 19, .iaddr 2 (.t 17) (.t 18), none⟩,
         ⟨some 20, .load (some 2) (.t 19), none⟩,
         ⟨some 21, .mov (.t 1), none⟩,
         ⟨some 22, .mov (.t 5), none⟩,
         ⟨some 23, .iaddr 2 (.t 21) (.t 22), none⟩,
         ⟨some 24, .load (some 2) (.t 23), none⟩,
         ⟨some 25, .eqs true [.int, .int] (.t 20) (.t 24), none⟩]) (.keep [0, 1, 5, 25])) (
      .cond (.t 25) (
       .seq (
        .seq (
        .region [⟨some 4, .mov (.k (.bool false)), none⟩]) (.keep [4])) (
       .ret)) (
       .skip)))) (
    .seq (
    .region [⟨some 15, .mov (.t 5), none⟩,
      ⟨some 16, .bin .add (.t 15) (.k (.int .i64 1)), none⟩,
      ⟨some 5, .mov (.t 16), none⟩]) (.keep [0, 1, 5])))) (.keep [0, 1, 5])))))) (
 .seq (
  .seq (
  .region [⟨some 4, .mov (.k (.bool true)), none⟩]) (.keep [4])) (
 .ret))))) }
def c21 : CFunc := { nparams := 1, ntmps := 18, results := [(2, none)], body := (
 .seq (
  .seq (
  .region [⟨some 2, .mov (.k (.slice none 0 0)), none⟩]) (.keep [0])) (
 .seq (
  .seq (
  .region [⟨some 3, .onil 2, none⟩]) (.keep [0, 3])) (
 .seq (
  .seq (
   .seq (
   .region [⟨some 6, .mov (.t 0), none⟩,
     ⟨some 7, .len (.t 6), none⟩,
     ⟨some 8, .mov (.k (.int .i64 0)), none⟩]) (.keep [3, 6, 7, 8])) (
  .block 0 (
   .seq (.keep [3, 6, 7, 8]) (.loop (.seq (
    .seq (
     .seq (
     .region [⟨some 9, .bin .lss (.t 8) (.t 7), none⟩]) (.keep [3, 6, 7, 8, 9])) (
    .seq (
     .cond (.t 9) (
      .skip) (
      .exit 0)) (
    .seq (
     .block 1 (
      .seq (
       .seq (
       .region [⟨some 10, .iaddr 2 (.t 6) (.t 8), none⟩,
         ⟨some 11, .load (some 2) (.t 10), none⟩,
         ⟨some 5, .alloc (some 2) [.int .i64 0, .int .i64 0], none⟩,
         ⟨none, .store 2 (.t 5) (.t 11), none⟩]) (.keep [3, 5, 6, 7, 8])) (
      .seq (
      .region [⟨some 12, .mov (.t 3), none⟩,
        ⟨some 13, .load (some 2) (.t 5), none⟩,
        ⟨some 14, .bsl false 2 [.t 13], none⟩,
        ⟨some 15, .append 2 16 (.t 12) (.t 14), none⟩,
        ⟨some 3, .mov (.t 15), none⟩]) (.keep [3, 6, 7, 8])))) (
    .seq (
    .region [⟨some 16, .bin .add (.t 8) (.k (.int .i64 1)), none⟩,
      ⟨some 8, .mov (.t 16), none⟩]) (.keep [3, 6, 7, 8]))))) (.seq (.keep [3, 6, 7, 8]) .cut)))))) (
 .seq (
  .seq (
  .region [⟨some 17, .fz (.mov (.t 3)), none⟩,
    ⟨some 2, .mov (.t 17), none⟩]) (.keep [2])) (
 .ret))))) }
def c22 : CFunc := { nparams := 1, ntmps := 75, results := [(2, none)], body := (
 .seq (
  .seq (
  .region [⟨some 2, .mov (.k (.int .i64 0)), none⟩]) (.keep [0])) (
 .seq (
  .seq (
   .seq (
   .region [⟨some 8, .mov (.t 0), none⟩,
     ⟨some 9, .len (.t 8), none⟩,
     ⟨some 10, .bin .gtr (.t 9) (.k (.int .i64 40000)), none⟩]) (.keep [0, 10])) (
  .cond (.t 10) (
   .seq (
    .seq (
    .region [⟨some 2, .mov (.k (.int .i64 5)), none⟩]) (.keep [2])) (
   .ret)) (
   .skip))) (
 .seq (
  .seq (
   .seq (
   .region [⟨some 11, .mov (.t 0), none⟩,
     ⟨some 12, .len (.t 11), none⟩,
     ⟨some 13, .mov (.k (.int .i64 0)), none⟩]) (.keep [0, 11, 12, 13])) (
  .block 0 (
   .seq (.keep [0, 11, 12, 13]) (.loop (.seq (
    .seq (
     .seq (
     .region [⟨some 14, .bin .lss (.t 13) (.t 12), none⟩]) (.keep [0, 11, 12, 13, 14])) (
    .seq (
     .cond (.t 14) (
      .skip) (
      .exit 0)) (
    .seq (
     .block 1 (
      .seq (
       .seq (
       .region [⟨some 15, .mov (.t 13), none⟩,
         ⟨some 16, .iaddr 2 (.t 11) (.t 13), none⟩,
         ⟨some 17, .load (some 2) (.t 16), none⟩,
         ⟨some 4, .alloc (some 2) [.int .i64 0, .int .i64 0], none⟩,
         ⟨some 3, .mov (.t 15), none⟩,
         ⟨none, .store 2 (.t 4) (.t 17), none⟩]) (.keep [0, 3, 4, 11, 12, 13])) (
      .seq (
       .seq (
       .region [⟨some 5, .mov (.k (.bool false)), none⟩,
         ⟨some 6, .mov (.k (.bool false)), none⟩]) (.keep [0, 3, 4, 5, 6, 11, 12, 13])) (
      .seq (
       .seq (
        .seq (
        .region [⟨some 18, .mov (.t 3), none⟩,
          ⟨some 19, .bin .gtr (.t 18) (.k (.int .i64 0)), none⟩]) (.keep [0, 3, 4, 5, 6, 11, 12, 13, 19])) (
       .cond (.t 19) (
        .seq (
        .region [⟨some 20, .faddr 0 (.t 4), none⟩,
          ⟨some 21, .load none (.t 20), none⟩,
          ⟨some 22, .mov (.t 0), none⟩,
          ⟨some 23, .mov (.t 3), none⟩,
          ⟨some 24, .bin .sub (.t 23) (.k (.int .i64 1)), none⟩,
          ⟨some 25, .iaddr 2 (.t 22) (.t 24), none⟩,
          ⟨some 26, .faddr 0 (.t 25), none⟩,
          ⟨some 27, .load none (.t 26), none⟩,
          ⟨some 28, .bin .leq (.t 21) (.t 27), none⟩,
          ⟨some 29, .faddr 1 (.t 4), none⟩,
          ⟨some 30, .load none (.t 29), none⟩,
          ⟨some 31, .mov (.t 0), none⟩,
          ⟨some 32, .mov (.t 3), none⟩,
          ⟨some 33, .bin .sub (.t 32) (.k (.int .i64 1)), none⟩,
          ⟨some 34, .iaddr 2 (.t 31) (.t 33), none⟩,
          ⟨some 35, .faddr 1 (.t 34), none⟩,
          ⟨some 36, .load none (.t 35), none⟩,
          ⟨some 37, .bin .eql (.t 30) (.t 36), none⟩,
          ⟨some 5, .mov (.t 28), none⟩,
          ⟨some 6, .mov (.t 37), none⟩]) (.keep [0, 3, 4, 5, 6, 11, 12, 13])) (
        .skip))) (
      .seq (
       .seq (
        .seq (
        .region [⟨some 38, .mov (.t 3), none⟩,
          ⟨some 39, .bin .gtr (.t 38) (.k (.int .i64 1)), none⟩]) (.keep [0, 3, 4, 5, 6, 11, 12, 13, 39])) (
       .cond (.t 39) (
        .seq (
        .region [⟨some 40, .mov (.t 6), none⟩,
          ⟨some 41, .mov (.t 40), none⟩,
          ⟨some 42, .mov (.t 0), (some (41, false))⟩,
          ⟨some 43, .mov (.t 3), (some (41, false))⟩,
          ⟨some 44, .bin .sub (.t 43) (.k (.int .i64 2)), (some (41, false))⟩,
          ⟨some 45, .iaddr 2 (.t 42) (.t 44), (some (41, false))⟩,
          ⟨some 46, .faddr 1 (.t 45), (some (41, false))⟩,
          ⟨some 47, .load none (.t 46), (some (41, false))⟩,
          ⟨some 48, .mov (.t 0), (some (41, false))⟩,
          ⟨some 49, .mov (.t 3), (some (41, false))⟩,
          ⟨some 50, .bin .sub (.t 49) (.k (.int .i64 1)), (some (41, false))⟩,
          ⟨some 51, .iaddr 2 (.t 48) (.t 50), (some (41, false))⟩,
          ⟨some 52, .faddr 1 (.t 51), (some (41, false))⟩,
          ⟨some 53, .load none (.t 52), (some (41, false))⟩,
          ⟨some 54, .faddr 1 (.t 4), (some (41, false))⟩,
          ⟨some 55, .load none (.t 54), (some (41, false))⟩,
          ⟨some 56, .call false (.inr 75) [.t 47, .t 53, .t 55], (some (41, false))⟩,
          ⟨some 57, .un .not (.t 56), (some (41, false))⟩,
          ⟨some 58, .pick (.t 41) (.k (.bool true)) (.t 57), none⟩,
          ⟨some 6, .mov (.t 58), none⟩]) (.keep [0, 4, 5, 6, 11, 12, 13])) (
        .skip))) (
      .seq (
       .seq (
       .region [⟨some 59, .faddr 0 (.t 4), none⟩,
         ⟨some 60, .load none (.t 59), none⟩,
         ⟨some 61, .call false (.inr 76) [.t 60], none⟩,
         ⟨some 62, .faddr 1 (.t 4), none⟩,
         ⟨some 63, .load none (.t 62), none⟩,
         ⟨some 64, .call false (.inr 72) [.t 63], none⟩,
         ⟨some 65, .mov (.t 5), none⟩,
         ⟨some 66, .call false (.inr 74) [.t 65, .k (.int .i64 11)], none⟩,
         ⟨some 67, .mov (.t 6), none⟩,
         ⟨some 68, .call false (.inr 74) [.t 67, .k (.int .i64 2)], none⟩,
         ⟨some 69, .bsl false 1 [.t 61, .t 64, .t 66, .t 68], none⟩,
         ⟨some 70, .call false (.inr 73) [.t 69], none⟩,
         ⟨some 7, .mov (.t 70), none⟩]) (.keep [0, 7, 11, 12, 13])) (
      .seq (
       .seq (
       .region [⟨some 71, .mov (.t 7), none⟩,
         ⟨some 72, .bin .neq (.t 71) (.k (.int .i64 0)), none⟩]) (.keep [0, 7, 11, 12, 13, 72])) (
      .cond (.t 72) (
       .seq (
        .seq (
        .region [⟨some 73, .mov (.t 7), none⟩,
          ⟨some 2, .mov (.t 73), none⟩]) (.keep [2])) (
       .ret)) (
       .skip))))))))) (
    .seq (
    .region [⟨some 74, .bin .add (.t 13) (.k (.int .i64 1)), none⟩,
      ⟨some 13, .mov (.t 74), none⟩]) (.keep [0, 11, 12, 13]))))) (.seq (.keep [0, 11, 12, 13]) .cut)))))) (
 .seq (
  .seq (
  .region [⟨some 2, .mov (.k (.int .i64 0)), none⟩]) (.keep [2])) (
 .ret))))) }
def c24 : CFunc := { nparams := 1, ntmps := 88, results := [(2, none)], body := (
 .seq (
  .seq (
  .region [⟨some 2, .mov (.k (.int .i64 0)), none⟩]) (.keep [0])) (
 .seq (
  .seq (
   .seq (
   .region [⟨some 5, .mov (.t 0), none⟩,
     ⟨some 6, .len (.t 5), none⟩,
     ⟨some 7, .bin .gtr (.t 6) (.k (.int .i64 40000)), none⟩]) (.keep [0, 7])) (
  .cond (.t 7) (
   .seq (
    .seq (
    .region [⟨some 2, .mov (.k (.int .i64 5)), none⟩]) (.keep [2])) (
   .ret)) (
   .skip))) (
 .seq (
  .seq (
   .seq (
   .region [⟨some 3, .mov (.k (.int .i64 0)), none⟩]) (.keep [0, 3])) (
  .block 0 (
   .seq (.keep [0, 3]) (.loop (.seq (
    .seq (
     .seq (
      .seq (
      .region [⟨some 8, .mov (.t 3), none⟩,
        ⟨some 9, .mov (.t 0), none⟩,
        ⟨some 10, .len (.t 9), none⟩,
        ⟨some 11, .bin .lss (.t 8) (.t 10), none⟩]) (.keep [0, 3, 11])) (
     .cond (.t 11) (
      .skip) (
      .exit 0))) (
    .seq (
     .block 1 (
      .seq (
       .seq (
        .seq (
        .region [⟨some 14, .mov (.t 0), none⟩,
          ⟨some 15, .mov (.t 3), none⟩,
          ⟨some 16, .iaddr 2 (.t 14) (.t 15), none⟩,
          ⟨some 17, .faddr 0 (.t 16), none⟩,
          ⟨some 18, .load none (.t 17), none⟩,
          ⟨some 19, .call false (.inr 33) [.t 18, .k (.int .i64 0), .k (.int .i64 39999)], none⟩,
          ⟨some 20, .mov (.t 0), none⟩,
          ⟨some 21, .mov (.t 3), none⟩,
          ⟨some 22, .iaddr 2 (.t 20) (.t 21), none⟩,
          ⟨some 23, .faddr 1 (.t 22), none⟩,
          ⟨some 24, .load none (.t 23), none⟩,
          ⟨some 25, .call false (.inr 68) [.t 24], none⟩,
          ⟨some 26, .bsl false 1 [.t 19, .t 25], none⟩,
          ⟨some 27, .call false (.inr 31) [.t 26], none⟩,
          ⟨some 4, .mov (.t 27), none⟩]) (.keep [0, 3, 4])) (
       .seq (
        .seq (
        .region [⟨some 28, .mov (.t 4), none⟩,
          ⟨some 29, .bin .neq (.t 28) (.k (.int .i64 0)), none⟩]) (.keep [0, 3, 4, 29])) (
       .cond (.t 29) (
        .seq (
         .seq (
         .region [⟨some 30, .mov (.t 4), none⟩,
           ⟨some 2, .mov (.t 30), none⟩]) (.keep [2])) (
        .ret)) (
        .skip)))) (
      .seq (
       .seq (
        .seq (
        .region [⟨some 31, .mov (.t 3), none⟩,
          ⟨some 32, .bin .gtr (.t 31) (.k (.int .i64 0)), none⟩,
          ⟨some 33, .mov (.t 32), none⟩,
          ⟨some 34, .mov (.t 0), (some (33, true))⟩,
          ⟨some 35, .mov (.t 3), (some (33, true))⟩,
          ⟨some 36, .iaddr 2 (.t 34) (.t 35), (some (33, true))⟩,
          ⟨some 37, .faddr 0 (.t 36), (some (33, true))⟩,
          ⟨some 38, .load none (.t 37), (some (33, true))⟩,
          ⟨some 39, .mov (.t 0), (some (33, true))⟩,
          ⟨some 40, .mov (.t 3), (some (33, true))⟩,
          ⟨some 41, .bin .sub (.t 40) (.k (.int .i64 1)), (some (33, true))⟩,
          ⟨some 42, .iaddr 2 (.t 39) (.t 41), (some (33, true))⟩,
          ⟨some 43, .faddr 0 (.t 42), (some (33, true))⟩,
          ⟨some 44, .load none (.t 43), (some (33, true))⟩,
          ⟨some 45, .bin .leq (.t 38) (.t 44), (some (33, true))⟩,
          ⟨some 46, .pick (.t 33) (.t 45) (.k (.bool false)), none⟩]) (.keep [0, 3, 46])) (
       .cond (.t 46) (
        .seq (
         .seq (
         .region [⟨some 2, .mov (.k (.int .i64 11)), none⟩]) (.keep [2])) (
        .ret)) (
        .skip))) (
      .seq (
       .seq (
       .region [⟨some 47, .mov (.t 3), none⟩,
         ⟨some 48, .bin .gtr (.t 47) (.k (.int .i64 0)), none⟩,
         ⟨some 49, .mov (.t 48), none⟩,
         ⟨some 50, .mov (.t 0), (some (49, true))⟩,
         ⟨some 51, .mov (.t 3), (some (49, true))⟩,
         ⟨some 52, .iaddr 2 (.t 50) (.t 51), (some (49, true))⟩,
         ⟨some 53, .faddr 1 (.t 52), (some (49, true))⟩,
         ⟨some 54, .load none (.t 53), (some (49, true))⟩,
         ⟨some 55, .mov (.t 0), (some (49, true))⟩,
         ⟨some 56, .mov (.t 3), (some (49, true))⟩,
         ⟨some 57, .bin .sub (.t 56) (.k (.int .i64 1)), (some (49, true))⟩,
         ⟨some 58, .iaddr 2 (.t 55) (.t 57), (some (49, true))⟩,
         ⟨some 59, .faddr 1 (.t 58), (some (49, true))⟩,
         ⟨some 60, .load none (.t 59), (some (49, true))⟩,
         ⟨some 61, .bin .eql (.t 54) (.t 60), (some (49, true))⟩,
         ⟨some 62, .pick (.t 49) (.t 61) (.k (.bool false)), none⟩,
         ⟨some 63, .mov (.t 62), none⟩,
         ⟨some 64, .mov (.t 3), (some (63, false))⟩,
         ⟨some 65, .bin .gtr (.t 64) (.k (.int .i64 1)), (some (63, false))⟩,
         ⟨some 66, .mov (.t 65), (some (63, false))⟩,
         ⟨some 67, .mov (.t 0), (some (66, true))⟩,
         ⟨some 68, .mov (.t 3), (some (66, true))⟩,
         ⟨some 69, .bin .sub (.t 68) (.k (.int .i64 2)), (some (66, true))⟩,
         ⟨some 70, .iaddr 2 (.t 67) (.t 69), (some (66, true))⟩,
         ⟨some 71, .faddr 1 (.t 70), (some (66, true))⟩,
         ⟨some 72, .load none (.t 71), (some (66, true))⟩,
         ⟨some 73, .mov (.t 0), (some (66, true))⟩,
         ⟨some 74, .mov (.t 3), (some (66, true))⟩,
         ⟨some 75, .bin .sub (.t 74) (.k (.int .i64 1)), (some (66, true))⟩,
         ⟨some 76, .iaddr 2 (.t 73) (.t 75), (some (66, true))⟩,
         ⟨some 77, .faddr 1 (.t 76), (some (66, true))⟩,
         ⟨some 78, .load none (.t 77), (some (66, true))⟩,
         ⟨some 79, .mov (.t 0), (some (66, true))⟩,
         ⟨some 80, .mov (.t 3), (some (66, true))⟩,
         ⟨some 81, .iaddr 2 (.t 79) (.t 80), (some (66, true))⟩,
         ⟨some 82, .faddr 1 (.t 81), (some (66, true))⟩,
         ⟨some 83, .load none (.t 82), (some (66, true))⟩,
         ⟨some 84, .call false (.inr 77) [.t 72, .t 78, .t 83], (some (66, true))⟩,
         ⟨some 85, .un .not (.t 84), (some (66, true))⟩,
         ⟨some 86, .pick (.t 66) (.t 85) (.k (.bool false)), (some (63, false))⟩,
         ⟨some 87, .pick (.t 63) (.k (.bool true)) (.t 86), none⟩]) (.keep [0, 3, 87])) (
      .cond (.t 87) (
       .seq (
        .seq (
        .region [⟨some 2, .mov (.k (.int .i64 2)), none⟩]) (.keep [2])) (
       .ret)) (
       .skip)))))) (
    .seq (
    .region [⟨some 12, .mov (.t 3), none⟩,
      ⟨some 13, .bin .add (.t 12) (.k (.int .i64 1)), none⟩,
      ⟨some 3, .mov (.t 13), none⟩]) (.keep [0, 3])))) (.keep [0, 3])))))) (
 .seq (
  .seq (
  .region [⟨some 2, .mov (.k (.int .i64 0)), none⟩]) (.keep [2])) (
 .ret))))) }
def c25 : CFunc := { nparams := 2, ntmps := 27, results := [(4, none), (5, none)], body := (
 .seq (
  .seq (
  .region [⟨some 4, .mov (.k (.int .i64 0)), none⟩,
    ⟨some 5, .mov (.k (.int .i64 0)), none⟩]) (.keep [0, 1])) (
 .seq (
  .seq (
   .seq (
   .region [⟨some 8, .mov (.t 0), none⟩,
     ⟨some 9, .call false (.inr 78) [.t 8], none⟩,
     ⟨some 10, .mov (.t 1), none⟩,
     ⟨some 11, .call false (.inr 79) [.t 10], none⟩,
     ⟨some 12, .bsl false 1 [.t 9, .t 11], none⟩,
     ⟨some 13, .call false (.inr 73) [.t 12], none⟩,
     ⟨some 6, .mov (.t 13), none⟩]) (.keep [0, 1, 6])) (
  .seq (
   .seq (
   .region [⟨some 14, .mov (.t 6), none⟩,
     ⟨some 15, .bin .neq (.t 14) (.k (.int .i64 0)), none⟩]) (.keep [0, 1, 6, 15])) (
  .cond (.t 15) (
   .seq (
    .seq (
    .region [⟨some 16, .mov (.t 6), none⟩,
      ⟨some 4, .mov (.k (.int .i64 0)), none⟩,
      ⟨some 5, .mov (.t 16), none⟩]) (.keep [4, 5])) (
   .ret)) (
   .skip)))) (
 .seq (
  .seq (
  .region [⟨some 17, .build [.int .i64 0, .bool false] [], none⟩,
    ⟨some 18, .box true 2 (.t 17), none⟩,
    ⟨some 7, .mov (.t 18), none⟩]) (.keep [0, 1, 7])) (
 .seq (
  .seq (
  .region [⟨some 19, .mov (.t 7), none⟩,
    ⟨some 20, .mov (.t 0), none⟩,
    ⟨some 21, .mov (.t 1), none⟩,
    ⟨some 22, .call true (.inr 80) [.t 19, .t 20, .t 21, .k (.int .i64 1)], none⟩]) (.keep [7])) (
 .seq (
  .seq (
  .region [⟨some 23, .mov (.t 7), none⟩,
    ⟨some 24, .call false (.inr 81) [.t 23], none⟩,
    ⟨some 25, .ext 0 (.t 24), none⟩,
    ⟨some 26, .ext 1 (.t 24), none⟩,
    ⟨some 4, .mov (.t 25), none⟩,
    ⟨some 5, .mov (.t 26), none⟩]) (.keep [4, 5])) (
 .ret)))))) }
def c27 : CFunc := { nparams := 2, ntmps := 27, results := [(4, none), (5, none)], body := (
 .seq (
  .seq (
  .region [⟨some 4, .mov (.k (.int .i64 0)), none⟩,
    ⟨some 5, .mov (.k (.int .i64 0)), none⟩]) (.keep [0, 1])) (
 .seq (
  .seq (
   .seq (
   .region [⟨some 8, .mov (.t 0), none⟩,
     ⟨some 9, .call false (.inr 22) [.t 8], none⟩,
     ⟨some 10, .mov (.t 1), none⟩,
     ⟨some 11, .call false (.inr 79) [.t 10], none⟩,
     ⟨some 12, .bsl false 1 [.t 9, .t 11], none⟩,
     ⟨some 13, .call false (.inr 73) [.t 12], none⟩,
     ⟨some 6, .mov (.t 13), none⟩]) (.keep [0, 1, 6])) (
  .seq (
   .seq (
   .region [⟨some 14, .mov (.t 6), none⟩,
     ⟨some 15, .bin .neq (.t 14) (.k (.int .i64 0)), none⟩]) (.keep [0, 1, 6, 15])) (
  .cond (.t 15) (
   .seq (
    .seq (
    .region [⟨some 16, .mov (.t 6), none⟩,
      ⟨some 4, .mov (.k (.int .i64 0)), none⟩,
      ⟨some 5, .mov (.t 16), none⟩]) (.keep [4, 5])) (
   .ret)) (
   .skip)))) (
 .seq (
  .seq (
  .region [⟨some 17, .build [.int .i64 0, .bool false] [], none⟩,
    ⟨some 18, .box true 2 (.t 17), none⟩,
    ⟨some 7, .mov (.t 18), none⟩]) (.keep [0, 1, 7])) (
 .seq (
  .seq (
  .region [⟨some 19, .mov (.t 7), none⟩,
    ⟨some 20, .mov (.t 0), none⟩,
    ⟨some 21, .mov (.t 1), none⟩,
    ⟨some 22, .call true (.inr 82) [.t 19, .t 20, .t 21], none⟩]) (.keep [7])) (
 .seq (
  .seq (
  .region [⟨some 23, .mov (.t 7), none⟩,
    ⟨some 24, .call false (.inr 81) [.t 23], none⟩,
    ⟨some 25, .ext 0 (.t 24), none⟩,
    ⟨some 26, .ext 1 (.t 24), none⟩,
    ⟨some 4, .mov (.t 25), none⟩,
    ⟨some 5, .mov (.t 26), none⟩]) (.keep [4, 5])) (
 .ret)))))) }
def c28 : CFunc := { nparams := 2, ntmps := 21, results := [(4, none), (5, none)], body := (
 .seq (
  .seq (
  .region [⟨some 4, .mov (.k (.int .i64 0)), none⟩,
    ⟨some 5, .mov (.k (.int .i64 0)), none⟩]) (.keep [0, 1])) (
 .seq (
  .seq (
   .seq (
   .region [⟨some 7, .mov (.t 0), none⟩,
     ⟨some 8, .call false (.inr 19) [.t 7], none⟩,
     ⟨some 9, .mov (.t 1), none⟩,
     ⟨some 10, .call false (.inr 79) [.t 9], none⟩,
     ⟨some 11, .bsl false 1 [.t 8, .t 10], none⟩,
     ⟨some 12, .call false (.inr 73) [.t 11], none⟩,
     ⟨some 6, .mov (.t 12), none⟩]) (.keep [0, 1, 6])) (
  .seq (
   .seq (
   .region [⟨some 13, .mov (.t 6), none⟩,
     ⟨some 14, .bin .neq (.t 13) (.k (.int .i64 0)), none⟩]) (.keep [0, 1, 6, 14])) (
  .cond (.t 14) (
   .seq (
    .seq (
    .region [⟨some 15, .mov (.t 6), none⟩,
      ⟨some 4, .mov (.k (.int .i64 0)), none⟩,
      ⟨some 5, .mov (.t 15), none⟩]) (.keep [4, 5])) (
   .ret)) (
   .skip)))) (
 .seq (
  .seq (
  .region [⟨some 16, .mov (.t 0), none⟩,
    ⟨some 17, .mov (.t 1), none⟩,
    ⟨some 18, .call false (.inr 83) [.t 16, .t 17], none⟩,
    ⟨some 19, .ext 0 (.t 18), none⟩,
    ⟨some 20, .ext 1 (.t 18), none⟩,
    ⟨some 4, .mov (.t 19), none⟩,
    ⟨some 5, .mov (.t 20), none⟩]) (.keep [4, 5])) (
 .ret)))) }
def c29 : CFunc := { nparams := 3, ntmps := 37, results := [(6, none), (7, none)], body := (
 .seq (
  .seq (
  .region [⟨some 6, .mov (.k (.int .i64 0)), none⟩,
    ⟨some 7, .mov (.k (.int .i64 0)), none⟩]) (.keep [0, 1, 2])) (
 .seq (
  .seq (
  .region [⟨some 12, .mov (.t 0), none⟩,
    ⟨some 13, .mov (.t 1), none⟩,
    ⟨some 14, .call false (.inr 25) [.t 12, .t 13], none⟩,
    ⟨some 11, .mov (.t 14), none⟩,
    ⟨some 15, .ext 0 (.t 11), none⟩,
    ⟨some 16, .ext 1 (.t 11), none⟩,
    ⟨some 8, .mov (.t 15), none⟩,
    ⟨some 9, .mov (.t 16), none⟩]) (.keep [1, 2, 8, 9])) (
 .seq (
  .seq (
   .seq (
   .region [⟨some 17, .mov (.t 9), none⟩,
     ⟨some 18, .bin .neq (.t 17) (.k (.int .i64 0)), none⟩,
     ⟨some 19, .mov (.t 18), none⟩,
     ⟨some 20, .mov (.t 9), (some (19, true))⟩,
     ⟨some 21, .bin .neq (.t 20) (.k (.int .i64 4)), (some (19, true))⟩,
     ⟨some 22, .pick (.t 19) (.t 21) (.k (.bool false)), none⟩]) (.keep [1, 2, 8, 9, 22])) (
  .cond (.t 22) (
   .seq (
    .seq (
    .region [⟨some 23, .mov (.t 9), none⟩,
      ⟨some 6, .mov (.k (.int .i64 0)), none⟩,
      ⟨some 7, .mov (.t 23), none⟩]) (.keep [6, 7])) (
   .ret)) (
   .skip))) (
 .seq (
  .seq (
   .seq (
   .region [⟨some 24, .mov (.t 2), none⟩,
     ⟨some 25, .call false (.inr 84) [.t 24, .k (.int .i64 1), .k (.int .i64 999999999)], none⟩,
     ⟨some 26, .mov (.t 9), none⟩,
     ⟨some 27, .bsl false 1 [.t 25, .t 26], none⟩,
     ⟨some 28, .call false (.inr 73) [.t 27], none⟩,
     ⟨some 10, .mov (.t 28), none⟩]) (.keep [1, 2, 8, 10])) (
  .seq (
   .seq (
   .region [⟨some 29, .mov (.t 10), none⟩,
     ⟨some 30, .bin .neq (.t 29) (.k (.int .i64 0)), none⟩]) (.keep [1, 2, 8, 10, 30])) (
  .cond (.t 30) (
   .seq (
    .seq (
    .region [⟨some 31, .mov (.t 10), none⟩,
      ⟨some 6, .mov (.k (.int .i64 0)), none⟩,
      ⟨some 7, .mov (.t 31), none⟩]) (.keep [6, 7])) (
   .ret)) (
   .skip)))) (
 .seq (
  .seq (
  .region [⟨some 32, .mov (.t 8), none⟩,
    ⟨some 33, .mov (.t 2), none⟩,
    ⟨some 34, .bin .quo (.t 32) (.t 33), none⟩,
    ⟨some 35, .mov (.t 1), none⟩,
    ⟨some 36, .call false (.inr 85) [.t 34, .t 35], none⟩,
    ⟨some 6, .mov (.t 36), none⟩,
    ⟨some 7, .mov (.k (.int .i64 0)), none⟩]) (.keep [6, 7])) (
 .ret)))))) }
def c31 : CFunc := { nparams := 1, ntmps := 19, results := [(2, none)], body := (
 .seq (
  .seq (
  .region [⟨some 2, .mov (.k (.int .i64 0)), none⟩]) (.keep [0])) (
 .seq (
  .seq (
   .seq (
   .region [⟨some 3, .mov (.k (.int .i64 0)), none⟩]) (.keep [0, 3])) (
  .block 0 (
   .seq (.keep [0, 3]) (.loop (.seq (
    .seq (
     .seq (
      .seq (
      .region [⟨some 4, .mov (.t 3), none⟩,
        ⟨some 5, .mov (.t 0), none⟩,
        ⟨some 6, .len (.t 5), none⟩,
        ⟨some 7, .bin .lss (.t 4) (.t 6), none⟩]) (.keep [0, 3, 7])) (
     .cond (.t 7) (
      .skip) (
      .exit 0))) (
    .seq (
     .block 1 (
      .seq (
       .seq (
       .region [⟨some 10, .mov (.t 0), none⟩,
         ⟨some 11, .mov (.t 3), none⟩,
         ⟨some 12, .iaddr 1 (.t 10) (.t 11), none⟩,
         ⟨some 13, .load none (.t 12), none⟩,
         ⟨some 14, .bin .neq (.t 13) (.k (.int .i64 0)), none⟩]) (.keep [0, 3, 14])) (
      .cond (.t 14) (
       .seq (
        .seq (
        .region [⟨some 15, .mov (.t 0), none⟩,
          ⟨some 16, .mov (.t 3), none⟩,
          ⟨some 17, .iaddr 1 (.t 15) (.t 16), none⟩,
          ⟨some 18, .load none (.t 17), none⟩,
          ⟨some 2, .mov (.t 18), none⟩]) (.keep [2])) (
       .ret)) (
       .skip)))) (
    .seq (
    .region [⟨some 8, .mov (.t 3), none⟩,
      ⟨some 9, .bin .add (.t 8) (.k (.int .i64 1)), none⟩,
      ⟨some 3, .mov (.t 9), none⟩]) (.keep [0, 3])))) (.keep [0, 3])))))) (
 .seq (
  .seq (
  .region [⟨some 2, .mov (.k (.int .i64 0)), none⟩]) (.keep [2])) (
 .ret)))) }
def c32 : CFunc := { nparams := 1, ntmps := 67, results := [(2, none)], body := (
 .seq (
  .seq (
  .region [⟨some 2, .mov (.k (.int .i64 0)), none⟩]) (.keep [0])) (
 .seq (
  .seq (
   .seq (
   .region [⟨some 5, .mov (.t 0), none⟩,
     ⟨some 6, .len (.t 5), none⟩,
     ⟨some 7, .bin .gtr (.t 6) (.k (.int .i64 40000)), none⟩]) (.keep [0, 7])) (
  .cond (.t 7) (
   .seq (
    .seq (
    .region [⟨some 2, .mov (.k (.int .i64 5)), none⟩]) (.keep [2])) (
   .ret)) (
   .skip))) (
 .seq (
  .seq (
   .seq (
   .region [⟨some 3, .mov (.k (.int .i64 0)), none⟩]) (.keep [0, 3])) (
  .block 0 (
   .seq (.keep [0, 3]) (.loop (.seq (
    .seq (
     .seq (
      .seq (
      .region [⟨some 8, .mov (.t 3), none⟩,
        ⟨some 9, .mov (.t 0), none⟩,
        ⟨some 10, .len (.t 9), none⟩,
        ⟨some 11, .bin .lss (.t 8) (.t 10), none⟩]) (.keep [0, 3, 11])) (
     .cond (.t 11) (
      .skip) (
      .exit 0))) (
    .seq (
     .block 1 (
      .seq (
       .seq (
        .seq (
        .region [⟨some 14, .mov (.t 0), none⟩,
          ⟨some 15, .mov (.t 3), none⟩,
          ⟨some 16, .iaddr 4 (.t 14) (.t 15), none⟩,
          ⟨some 17, .faddr 0 (.t 16), none⟩,
          ⟨some 18, .load none (.t 17), none⟩,
          ⟨some 19, .call false (.inr 33) [.t 18, .k (.int .i64 0), .k (.int .i64 39999)], none⟩,
          ⟨some 20, .mov (.t 0), none⟩,
          ⟨some 21, .mov (.t 3), none⟩,
          ⟨some 22, .iaddr 4 (.t 20) (.t 21), none⟩,
          ⟨some 23, .faddr 1 (.t 22), none⟩,
          ⟨some 24, .load none (.t 23), none⟩,
          ⟨some 25, .call false (.inr 33) [.t 24, .k (.int .i64 0), .k (.int .i64 39999)], none⟩,
          ⟨some 26, .mov (.t 0), none⟩,
          ⟨some 27, .mov (.t 3), none⟩,
          ⟨some 28, .iaddr 4 (.t 26) (.t 27), none⟩,
          ⟨some 29, .faddr 2 (.t 28), none⟩,
          ⟨some 30, .load none (.t 29), none⟩,
          ⟨some 31, .call false (.inr 68) [.t 30], none⟩,
          ⟨some 32, .mov (.t 0), none⟩,
          ⟨some 33, .mov (.t 3), none⟩,
          ⟨some 34, .iaddr 4 (.t 32) (.t 33), none⟩,
          ⟨some 35, .faddr 3 (.t 34), none⟩,
          ⟨some 36, .load none (.t 35), none⟩,
          ⟨some 37, .call false (.inr 68) [.t 36], none⟩,
          ⟨some 38, .bsl false 1 [.t 19, .t 25, .t 31, .t 37], none⟩,
          ⟨some 39, .call false (.inr 31) [.t 38], none⟩,
          ⟨some 4, .mov (.t 39), none⟩]) (.keep [0, 3, 4])) (
       .seq (
        .seq (
        .region [⟨some 40, .mov (.t 4), none⟩,
          ⟨some 41, .bin .neq (.t 40) (.k (.int .i64 0)), none⟩]) (.keep [0, 3, 4, 41])) (
       .cond (.t 41) (
        .seq (
         .seq (
         .region [⟨some 42, .mov (.t 4), none⟩,
           ⟨some 2, .mov (.t 42), none⟩]) (.keep [2])) (
        .ret)) (
        .skip)))) (
      .seq (
       .seq (
       .region [⟨some 43, .mov (.t 0), none⟩,
         ⟨some 44, .mov (.t 3), none⟩,
         ⟨some 45, .iaddr 4 (.t 43) (.t 44), none⟩,
         ⟨some 46, .faddr 0 (.t 45), none⟩,
         ⟨some 47, .load none (.t 46), none⟩,
         ⟨some 48, .mov (.t 0), none⟩,
         ⟨some 49, .mov (.t 3), none⟩,
         ⟨some 50, .iaddr 4 (.t 48) (.t 49), none⟩,
         ⟨some 51, .faddr 1 (.t 50), none⟩,
         ⟨some 52, .load none (.t 51), none⟩,
         ⟨some 53, .bin .geq (.t 47) (.t 52), none⟩,
         ⟨some 54, .mov (.t 53), none⟩,
         ⟨some 55, .mov (.t 0), (some (54, false))⟩,
         ⟨some 56, .mov (.t 3), (some (54, false))⟩,
         ⟨some 57, .iaddr 4 (.t 55) (.t 56), (some (54, false))⟩,
         ⟨some 58, .faddr 2 (.t 57), (some (54, false))⟩,
         ⟨some 59, .load none (.t 58), (some (54, false))⟩,
         ⟨some 60, .mov (.t 0), (some (54, false))⟩,
         ⟨some 61, .mov (.t 3), (some (54, false))⟩,
         ⟨some 62, .iaddr 4 (.t 60) (.t 61), (some (54, false))⟩,
         ⟨some 63, .faddr 3 (.t 62), (some (54, false))⟩,
         ⟨some 64, .load none (.t 63), (some (54, false))⟩,
         ⟨some 65, .bin .geq (.t 59) (.t 64), (some (54, false))⟩,
         ⟨some 66, .pick (.t 54) (.k (.bool true)) (.t 65), none⟩]) (.keep [0, 3, 66])) (
      .cond (.t 66) (
       .seq (
        .seq (
        .region [⟨some 2, .mov (.k (.int .i64 11)), none⟩]) (.keep [2])) (
       .ret)) (
       .skip))))) (
    .seq (
    .region [⟨some 12, .mov (.t 3), none⟩,
      ⟨some 13, .bin .add (.t 12) (.k (.int .i64 1)), none⟩,
      ⟨some 3, .mov (.t 13), none⟩]) (.keep [0, 3])))) (.keep [0, 3])))))) (
 .seq (
  .seq (
  .region [⟨some 2, .mov (.k (.int .i64 0)), none⟩]) (.keep [2])) (
 .ret))))) }
def c33 : CFunc := { nparams := 3, ntmps := 15, results := [(6, none)], body := (
 .seq (
  .seq (
  .region [⟨some 6, .mov (.k (.int .i64 0)), none⟩]) (.keep [0, 1, 2])) (
 .seq (
  .seq (
   .seq (
   .region [⟨some 7, .mov (.t 0), none⟩,
     ⟨some 8, .mov (.t 1), none⟩,
     ⟨some 9, .bin .lss (.t 7) (.t 8), none⟩,
     ⟨some 10, .mov (.t 9), none⟩,
     ⟨some 11, .mov (.t 0), (some (10, false))⟩,
     ⟨some 12, .mov (.t 2), (some (10, false))⟩,
     ⟨some 13, .bin .gtr (.t 11) (.t 12), (some (10, false))⟩,
     ⟨some 14, .pick (.t 10) (.k (.bool true)) (.t 13), none⟩]) (.keep [14])) (
  .cond (.t 14) (
   .seq (
    .seq (
    .region [⟨some 6, .mov (.k (.int .i64 3)), none⟩]) (.keep [6])) (
   .ret)) (
   .skip))) (
 .seq (
  .seq (
  .region [⟨some 6, .mov (.k (.int .i64 0)), none⟩]) (.keep [6])) (
 .ret)))) }
def c40 : CFunc := { nparams := 1, ntmps := 58, results := [(2, none), (3, none), (4, none)], body := (
 .seq (
  .seq (
  .region [⟨some 2, .mov (.k (.slice none 0 0)), none⟩,
    ⟨some 3, .mov (.k (.slice none 0 0)), none⟩,
    ⟨some 4, .mov (.k (.bool false)), none⟩]) (.keep [0])) (
 .seq (
  .seq (
  .region [⟨some 11, .mov (.t 0), none⟩,
    ⟨some 12, .call false (.inr 16) [.t 11], none⟩,
    ⟨some 13, .call false (.inr 15) [.t 12], none⟩,
    ⟨some 10, .mov (.t 13), none⟩,
    ⟨some 14, .ext 0 (.t 10), none⟩,
    ⟨some 15, .ext 1 (.t 10), none⟩,
    ⟨some 5, .mov (.t 14), none⟩,
    ⟨some 6, .mov (.t 15), none⟩]) (.keep [0, 5, 6])) (
 .seq (
  .seq (
  .region [⟨some 17, .mov (.t 5), none⟩,
    ⟨some 18, .call false (.inr 44) [.t 17], none⟩,
    ⟨some 16, .mov (.t 18), none⟩,
    ⟨some 19, .ext 0 (.t 16), none⟩,
    ⟨some 20, .ext 1 (.t 16), none⟩,
    ⟨some 21, .ext 2 (.t 16), none⟩,
    ⟨some 7, .mov (.t 19), none⟩,
    ⟨some 8, .mov (.t 20), none⟩,
    ⟨some 9, .mov (.t 21), none⟩]) (.keep [0, 6, 7, 8, 9])) (
 .seq (
  .seq (
  .region [⟨some 22, .mov (.t 7), none⟩,
    ⟨some 23, .call false (.inr 47) [.t 22], none⟩,
    ⟨some 24, .mov (.t 8), none⟩,
    ⟨some 25, .call false (.inr 21) [.t 24], none⟩,
    ⟨some 26, .mov (.t 6), none⟩,
    ⟨some 27, .bin .eql (.t 26) (.k (.int .i64 0)), none⟩,
    ⟨some 28, .mov (.t 27), none⟩,
    ⟨some 29, .mov (.t 9), (some (28, true))⟩,
    ⟨some 30, .bin .eql (.t 29) (.k (.int .i64 0)), (some (28, true))⟩,
    ⟨some 31, .pick (.t 28) (.t 30) (.k (.bool false)), none⟩,
    ⟨some 32, .mov (.t 31), none⟩,
    ⟨some 33, .mov (.t 7), (some (32, true))⟩,
    ⟨some 34, .len (.t 33), (some (32, true))⟩,
    ⟨some 35, .mov (.t 0), (some (32, true))⟩,
    ⟨some 36, .len (.t 35), (some (32, true))⟩,
    ⟨some 37, .bin .leq (.t 34) (.t 36), (some (32, true))⟩,
    ⟨some 38, .pick (.t 32) (.t 37) (.k (.bool false)), none⟩,
    ⟨some 39, .mov (.t 38), none⟩,
    ⟨some 40, .mov (.t 8), (some (39, true))⟩,
    ⟨some 41, .len (.t 40), (some (39, true))⟩,
    ⟨some 42, .mov (.t 0), (some (39, true))⟩,
    ⟨some 43, .len (.t 42), (some (39, true))⟩,
    ⟨some 44, .bin .leq (.t 41) (.t 43), (some (39, true))⟩,
    ⟨some 45, .pick (.t 39) (.t 44) (.k (.bool false)), none⟩,
    ⟨some 46, .mov (.t 45), none⟩,
    ⟨some 47, .mov (.t 7), (some (46, true))⟩,
    ⟨some 48, .call false (.inr 47) [.t 47], (some (46, true))⟩,
    ⟨some 49, .call false (.inr 32) [.t 48], (some (46, true))⟩,
    ⟨some 50, .bin .eql (.t 49) (.k (.int .i64 0)), (some (46, true))⟩,
    ⟨some 51, .pick (.t 46) (.t 50) (.k (.bool false)), none⟩,
    ⟨some 52, .mov (.t 51), none⟩,
    ⟨some 53, .mov (.t 8), (some (52, true))⟩,
    ⟨some 54, .call false (.inr 21) [.t 53], (some (52, true))⟩,
    ⟨some 55, .call false (.inr 24) [.t 54], (some (52, true))⟩,
    ⟨some 56, .bin .eql (.t 55) (.k (.int .i64 0)), (some (52, true))⟩,
    ⟨some 57, .pick (.t 52) (.t 56) (.k (.bool false)), none⟩,
    ⟨some 2, .mov (.t 23), none⟩,
    ⟨some 3, .mov (.t 25), none⟩,
    ⟨some 4, .mov (.t 57), none⟩]) (.keep [2, 3, 4])) (
 .ret))))) }
def c41 : CFunc := { nparams := 2, ntmps := 47, results := [(4, none), (5, none)], body := (
 .seq (
  .seq (
  .region [⟨some 4, .mov (.k (.int .i64 0)), none⟩,
    ⟨some 5, .mov (.k (.int .i64 0)), none⟩]) (.keep [0, 1])) (
 .seq (
  .seq (
   .seq (
   .region [⟨some 10, .mov (.t 0), none⟩,
     ⟨some 11, .call false (.inr 22) [.t 10], none⟩,
     ⟨some 12, .mov (.t 1), none⟩,
     ⟨some 13, .call false (.inr 90) [.t 12], none⟩,
     ⟨some 14, .bsl false 1 [.t 11, .t 13], none⟩,
     ⟨some 15, .call false (.inr 73) [.t 14], none⟩,
     ⟨some 6, .mov (.t 15), none⟩]) (.keep [0, 1, 6])) (
  .seq (
   .seq (
   .region [⟨some 16, .mov (.t 6), none⟩,
     ⟨some 17, .bin .neq (.t 16) (.k (.int .i64 0)), none⟩]) (.keep [0, 1, 6, 17])) (
  .cond (.t 17) (
   .seq (
    .seq (
    .region [⟨some 18, .mov (.t 6), none⟩,
      ⟨some 4, .mov (.k (.int .i64 0)), none⟩,
      ⟨some 5, .mov (.t 18), none⟩]) (.keep [4, 5])) (
   .ret)) (
   .skip)))) (
 .seq (
  .seq (
  .region [⟨some 7, .mov (.k (.int .i64 0)), none⟩]) (.keep [0, 1, 7])) (
 .seq (
  .seq (
   .seq (
   .region [⟨some 19, .mov (.t 0), none⟩,
     ⟨some 20, .mov (.t 0), none⟩,
     ⟨some 21, .len (.t 20), none⟩,
     ⟨some 22, .min (.k (.int .i64 1)) [.t 21], none⟩,
     ⟨some 23, .slice 2 (.t 19) (some (.t 22)) none, none⟩,
     ⟨some 24, .len (.t 23), none⟩,
     ⟨some 25, .mov (.k (.int .i64 0)), none⟩]) (.keep [0, 1, 7, 23, 24, 25])) (
  .block 0 (
   .seq (.keep [0, 1, 7, 23, 24, 25]) (.loop (.seq (
    .seq (
     .seq (
     .region [⟨some 26, .bin .lss (.t 25) (.t 24), none⟩]) (.keep [0, 1, 7, 23, 24, 25, 26])) (
    .seq (
     .cond (.t 26) (
      .skip) (
      .exit 0)) (
    .seq (
     .block 1 (
      .seq (
       .seq (
       .region [⟨some 27, .mov (.t 25), none⟩,
         ⟨some 28, .iaddr 2 (.t 23) (.t 25), none⟩,
         ⟨some 29, .load (some 2) (.t 28), none⟩,
         ⟨some 9, .alloc (some 2) [.int .i64 0, .int .i64 0], none⟩,
         ⟨some 8, .mov (.t 27), none⟩,
         ⟨none, .store 2 (.t 9) (.t 29), none⟩]) (.keep [0, 1, 7, 8, 9, 23, 24, 25])) (
      .seq (
       .seq (
       .region [⟨some 30, .mov (.t 0), none⟩,
         ⟨some 31, .mov (.t 8), none⟩,
         ⟨some 32, .iaddr 2 (.t 30) (.t 31), none⟩,
         ⟨some 33, .faddr 1 (.t 32), none⟩,
         ⟨some 34, .load none (.t 33), none⟩,
         ⟨some 35, .mov (.t 1), none⟩,
         ⟨some 36, .bin .leq (.t 34) (.t 35), none⟩,
         ⟨some 37, .mov (.t 36), none⟩,
         ⟨some 38, .faddr 1 (.t 9), (some (37, true))⟩,
         ⟨some 39, .load none (.t 38), (some (37, true))⟩,
         ⟨some 40, .mov (.t 1), (some (37, true))⟩,
         ⟨some 41, .bin .gtr (.t 39) (.t 40), (some (37, true))⟩,
         ⟨some 42, .pick (.t 37) (.t 41) (.k (.bool false)), none⟩]) (.keep [0, 1, 7, 23, 24, 25, 42])) (
      .cond (.t 42) (
       .seq (
       .region [⟨some 43, .mov (.t 7), none⟩,
         ⟨some 44, .bin .add (.t 43) (.k (.int .i64 1)), none⟩,
         ⟨some 7, .mov (.t 44), none⟩]) (.keep [0, 1, 7, 23, 24, 25])) (
       .skip))))) (
    .seq (
    .region [⟨some 45, .bin .add (.t 25) (.k (.int .i64 1)), none⟩,
      ⟨some 25, .mov (.t 45), none⟩]) (.keep [0, 1, 7, 23, 24, 25]))))) (.seq (.keep [0, 1, 7, 23, 24, 25]) .cut)))))) (
 .seq (
  .seq (
  .region [⟨some 46, .mov (.t 7), none⟩,
    ⟨some 4, .mov (.t 46), none⟩,
    ⟨some 5, .mov (.k (.int .i64 0)), none⟩]) (.keep [4, 5])) (
 .ret)))))) }
def c42 : CFunc := { nparams := 1, ntmps := 46, results := [(2, none), (3, none)], body := (
 .seq (
  .seq (
  .region [⟨some 2, .mov (.k (.int .i64 0)), none⟩,
    ⟨some 3, .mov (.k (.int .i64 0)), none⟩]) (.keep [0])) (
 .seq (
  .seq (
   .seq (
   .region [⟨some 9, .mov (.t 0), none⟩,
     ⟨some 10, .call false (.inr 22) [.t 9], none⟩,
     ⟨some 11, .mov (.t 0), none⟩,
     ⟨some 12, .len (.t 11), none⟩,
     ⟨some 13, .bin .lss (.t 12) (.k (.int .i64 2)), none⟩,
     ⟨some 14, .call false (.inr 74) [.t 13, .k (.int .i64 7)], none⟩,
     ⟨some 15, .bsl false 1 [.t 10, .t 14], none⟩,
     ⟨some 16, .call false (.inr 73) [.t 15], none⟩,
     ⟨some 4, .mov (.t 16), none⟩]) (.keep [0, 4])) (
  .seq (
   .seq (
   .region [⟨some 17, .mov (.t 4), none⟩,
     ⟨some 18, .bin .neq (.t 17) (.k (.int .i64 0)), none⟩]) (.keep [0, 4, 18])) (
  .cond (.t 18) (
   .seq (
    .seq (
    .region [⟨some 19, .mov (.t 4), none⟩,
      ⟨some 2, .mov (.k (.int .i64 0)), none⟩,
      ⟨some 3, .mov (.t 19), none⟩]) (.keep [2, 3])) (
   .ret)) (
   .skip)))) (
 .seq (
  .seq (
  .region [⟨some 20, .mov (.t 0), none⟩,
    ⟨some 21, .iaddr 2 (.t 20) (.k (.int .i64 0)), none⟩,
    ⟨some 22, .faddr 1 (.t 21), none⟩,
    ⟨some 23, .load none (.t 22), none⟩,
    ⟨some 24, .mov (.t 0), none⟩,
    ⟨some 25, .iaddr 2 (.t 24) (.k (.int .i64 0)), none⟩,
    ⟨some 26, .faddr 1 (.t 25), none⟩,
    ⟨some 27, .load none (.t 26), none⟩,
    ⟨some 5, .mov (.t 23), none⟩,
    ⟨some 6, .mov (.t 27), none⟩]) (.keep [0, 5, 6])) (
 .seq (
  .seq (
   .seq (
   .region [⟨some 28, .mov (.t 0), none⟩,
     ⟨some 29, .len (.t 28), none⟩,
     ⟨some 30, .mov (.k (.int .i64 0)), none⟩]) (.keep [5, 6, 28, 29, 30])) (
  .block 0 (
   .seq (.keep [5, 6, 28, 29, 30]) (.loop (.seq (
    .seq (
     .seq (
     .region [⟨some 31, .bin .lss (.t 30) (.t 29), none⟩]) (.keep [5, 6, 28, 29, 30, 31])) (
    .seq (
     .cond (.t 31) (
      .skip) (
      .exit 0)) (
    .seq (
     .block 1 (
      .seq (
       .seq (
       .region [⟨some 32, .iaddr 2 (.t 28) (.t 30), none⟩,
         ⟨some 33, .load (some 2) (.t 32), none⟩,
         ⟨some 8, .alloc (some 2) [.int .i64 0, .int .i64 0], none⟩,
         ⟨none, .store 2 (.t 8) (.t 33), none⟩]) (.keep [5, 6, 8, 28, 29, 30])) (
      .seq (
      .region [⟨some 34, .mov (.t 5), none⟩,
        ⟨some 35, .faddr 1 (.t 8), none⟩,
        ⟨some 36, .load none (.t 35), none⟩,
        ⟨some 37, .min (.t 34) [.t 36], none⟩,
        ⟨some 38, .mov (.t 6), none⟩,
        ⟨some 39, .faddr 1 (.t 8), none⟩,
        ⟨some 40, .load none (.t 39), none⟩,
        ⟨some 41, .max (.t 38) [.t 40], none⟩,
        ⟨some 5, .mov (.t 37), none⟩,
        ⟨some 6, .mov (.t 41), none⟩]) (.keep [5, 6, 28, 29, 30])))) (
    .seq (
    .region [⟨some 42, .bin .add (.t 30) (.k (.int .i64 1)), none⟩,
      ⟨some 30, .mov (.t 42), none⟩]) (.keep [5, 6, 28, 29, 30]))))) (.seq (.keep [5, 6, 28, 29, 30]) .cut)))))) (
 .seq (
  .seq (
  .region [⟨some 43, .mov (.t 6), none⟩,
    ⟨some 44, .mov (.t 5), none⟩,
    ⟨some 45, .bin .sub (.t 43) (.t 44), none⟩,
    ⟨some 2, .mov (.t 45), none⟩,
    ⟨some 3, .mov (.k (.int .i64 0)), none⟩]) (.keep [2, 3])) (
 .ret)))))) }
def c43 : CFunc := { nparams := 2, ntmps := 50, results := [(4, none), (5, none)], body := (
 .seq (
  .seq (
  .region [⟨some 4, .mov (.k (.slice none 0 0)), none⟩,
    ⟨some 5, .mov (.k (.int .i64 0)), none⟩]) (.keep [0, 1])) (
 .seq (
  .seq (
   .seq (
   .region [⟨some 12, .mov (.t 0), none⟩,
     ⟨some 13, .call false (.inr 22) [.t 12], none⟩,
     ⟨some 14, .mov (.t 1), none⟩,
     ⟨some 15, .call false (.inr 90) [.t 14], none⟩,
     ⟨some 16, .bsl false 1 [.t 13, .t 15], none⟩,
     ⟨some 17, .call false (.inr 73) [.t 16], none⟩,
     ⟨some 6, .mov (.t 17), none⟩]) (.keep [0, 1, 6])) (
  .seq (
   .seq (
   .region [⟨some 18, .mov (.t 6), none⟩,
     ⟨some 19, .bin .neq (.t 18) (.k (.int .i64 0)), none⟩]) (.keep [0, 1, 6, 19])) (
  .cond (.t 19) (
   .seq (
    .seq (
    .region [⟨some 20, .mov (.t 6), none⟩,
      ⟨some 4, .mov (.k (.slice none 0 0)), none⟩,
      ⟨some 5, .mov (.t 20), none⟩]) (.keep [4, 5])) (
   .ret)) (
   .skip)))) (
 .seq (
  .seq (
  .region [⟨some 22, .mov (.t 0), none⟩,
    ⟨some 23, .call false (.inr 91) [.t 22], none⟩,
    ⟨some 21, .mov (.t 23), none⟩,
    ⟨some 24, .ext 0 (.t 21), none⟩,
    ⟨some 25, .ext 1 (.t 21), none⟩,
    ⟨some 7, .mov (.t 24), none⟩,
    ⟨some 8, .mov (.t 25), none⟩]) (.keep [0, 1, 7])) (
 .seq (
  .seq (
  .region [⟨some 26, .mkmap, none⟩,
    ⟨some 9, .alloc none [.map none], none⟩,
    ⟨none, .store 1 (.t 9) (.t 26), none⟩]) (.keep [0, 1, 7, 9])) (
 .seq (
  .seq (
   .seq (
   .region [⟨some 27, .mov (.t 7), none⟩,
     ⟨some 28, .len (.t 27), none⟩,
     ⟨some 29, .mov (.k (.int .i64 0)), none⟩]) (.keep [0, 1, 9, 27, 28, 29])) (
  .block 0 (
   .seq (.keep [0, 1, 9, 27, 28, 29]) (.loop (.seq (
    .seq (
     .seq (
     .region [⟨some 30, .bin .lss (.t 29) (.t 28), none⟩]) (.keep [0, 1, 9, 27, 28, 29, 30])) (
    .seq (
     .cond (.t 30) (
      .skip) (
      .exit 0)) (
    .seq (
     .block 1 (
      .seq (
       .seq (
       .region [⟨some 31, .iaddr 4 (.t 27) (.t 29), none⟩,
         ⟨some 32, .load (some 4) (.t 31), none⟩,
         ⟨some 11, .alloc (some 4) [.int .i64 0, .int .i64 0, .int .i64 0, .int .i64 0], none⟩,
         ⟨none, .store 4 (.t 11) (.t 32), none⟩]) (.keep [0, 1, 9, 11, 27, 28, 29])) (
      .seq (
       .seq (
       .region [⟨some 33, .faddr 3 (.t 11), none⟩,
         ⟨some 34, .load none (.t 33), none⟩,
         ⟨some 35, .faddr 2 (.t 11), none⟩,
         ⟨some 36, .load none (.t 35), none⟩,
         ⟨some 37, .bin .sub (.t 34) (.t 36), none⟩,
         ⟨some 38, .mov (.t 1), none⟩,
         ⟨some 39, .bin .lss (.t 37) (.t 38), none⟩]) (.keep [0, 1, 9, 11, 27, 28, 29, 39])) (
      .cond (.t 39) (
       .seq (
       .seq (.holes 0) (
       .regionD [(⟨some 40, .load none (.t 9), none⟩, none),
         (⟨some 41, .faddr 0 (.t 11), none⟩, none),
         (⟨some 42, .load none (.t 41), none⟩, none),
         (⟨some 43, .load none (.t 9), none⟩, none),
         (⟨some 44, .faddr 1 (.t 11), none⟩, none),
         (⟨some 45, .load none (.t 44), none⟩, none),
         (⟨none, .mupd .int (.t 40) (.t 42) (.k (.bool true)), none⟩, none),
         (⟨none, .mupd .int (.t 43) (.t 45) (.k (.bool true)), none⟩, none)] [(3, 6), (4, 6), (5, 6)])) (.keep [0, 1, 9, 27, 28, 29])) (
       .skip))))) (
    .seq (
    .region [⟨some 46, .bin .add (.t 29) (.k (.int .i64 1)), none⟩,
      ⟨some 29, .mov (.t 46), none⟩]) (.keep [0, 1, 9, 27, 28, 29]))))) (.seq (.keep [0, 1, 9, 27, 28, 29]) .cut)))))) (
 .seq (
  .seq (
  .region [⟨some 47, .mov (.t 0), none⟩,
    ⟨some 48, .mkfn 93 [.t 9], none⟩,
    ⟨some 49, .call false (.inr 92) [.t 47, .t 48], none⟩,
    ⟨some 4, .mov (.t 49), none⟩,
    ⟨some 5, .mov (.k (.int .i64 0)), none⟩]) (.keep [4, 5])) (
 .ret))))))) }
def c44 : CFunc := { nparams := 1, ntmps := 20, results := [(2, none), (3, none), (4, none)], body := (
 .seq (
  .seq (
  .region [⟨some 2, .mov (.k (.slice none 0 0)), none⟩,
    ⟨some 3, .mov (.k (.slice none 0 0)), none⟩,
    ⟨some 4, .mov (.k (.int .i64 0)), none⟩]) (.keep [0])) (
 .seq (
  .seq (
   .seq (
   .region [⟨some 8, .mov (.t 0), none⟩,
     ⟨some 9, .call false (.inr 22) [.t 8], none⟩,
     ⟨some 5, .mov (.t 9), none⟩]) (.keep [0, 5])) (
  .seq (
   .seq (
   .region [⟨some 10, .mov (.t 5), none⟩,
     ⟨some 11, .bin .neq (.t 10) (.k (.int .i64 0)), none⟩]) (.keep [0, 5, 11])) (
  .cond (.t 11) (
   .seq (
    .seq (
    .region [⟨some 12, .mov (.t 5), none⟩,
      ⟨some 2, .mov (.k (.slice none 0 0)), none⟩,
      ⟨some 3, .mov (.k (.slice none 0 0)), none⟩,
      ⟨some 4, .mov (.t 12), none⟩]) (.keep [2, 3, 4])) (
   .ret)) (
   .skip)))) (
 .seq (
  .seq (
  .region [⟨some 14, .mov (.t 0), none⟩,
    ⟨some 15, .call false (.inr 91) [.t 14], none⟩,
    ⟨some 13, .mov (.t 15), none⟩,
    ⟨some 16, .ext 0 (.t 13), none⟩,
    ⟨some 17, .ext 1 (.t 13), none⟩,
    ⟨some 6, .mov (.t 16), none⟩,
    ⟨some 7, .mov (.t 17), none⟩]) (.keep [6, 7])) (
 .seq (
  .seq (
  .region [⟨some 18, .mov (.t 6), none⟩,
    ⟨some 19, .mov (.t 7), none⟩,
    ⟨some 2, .mov (.t 18), none⟩,
    ⟨some 3, .mov (.t 19), none⟩,
    ⟨some 4, .mov (.k (.int .i64 0)), none⟩]) (.keep [2, 3, 4])) (
 .ret))))) }
def c45 : CFunc := { nparams := 2, ntmps := 26, results := [(4, none)], body := (
 .seq (
  .seq (
  .region [⟨some 4, .mov (.k (.bool false)), none⟩]) (.keep [0, 1])) (
 .seq (
  .seq (
   .seq (
   .region [⟨some 6, .mov (.t 0), none⟩,
     ⟨some 7, .len (.t 6), none⟩,
     ⟨some 8, .mov (.t 1), none⟩,
     ⟨some 9, .len (.t 8), none⟩,
     ⟨some 10, .bin .neq (.t 7) (.t 9), none⟩]) (.keep [0, 1, 10])) (
  .cond (.t 10) (
   .seq (
    .seq (
    .region [⟨some 4, .mov (.k (.bool false)), none⟩]) (.keep [4])) (
   .ret)) (
   .skip))) (
 .seq (
  .seq (
   .seq (
   .region [⟨some 5, .mov (.k (.int .i64 0)), none⟩]) (.keep [0, 1, 5])) (
  .block 0 (
   .seq (.keep [0, 1, 5]) (.loop (.seq (
    .seq (
     .seq (
      .seq (
      .region [⟨some 11, .mov (.t 5), none⟩,
        ⟨some 12, .mov (.t 0), none⟩,
        ⟨some 13, .len (.t 12), none⟩,
        ⟨some 14, .bin .lss (.t 11) (.t 13), none⟩]) (.keep [0, 1, 5, 14])) (
     .cond (.t 14) (
      .skip) (
      .exit 0))) (
    .seq (
     .block 1 (
      .seq (
       .seq (
       .region [⟨some 17, .mov (.t 0), none⟩,
         ⟨some 18, .mov (.t 5), none⟩,
         ⟨some 19, .iaddr 2 (.t 17) (.t 18), none⟩,
         ⟨some 20, .load (some 2) (.t 19), none⟩,
         ⟨some 21, .mov (.t 1), none⟩,
         ⟨some 22, .mov (.t 5), none⟩,
         ⟨some 23, .iaddr 2 (.t 21) (.t 22), none⟩,
         ⟨some 24, .load (some 2) (.t 23), none⟩,
         ⟨some 25, .eqs true [.int, .int] (.t 20) (.t 24), none⟩]) (.keep [0, 1, 5, 25])) (
      .cond (.t 25) (
       .seq (
        .seq (
        .region [⟨some 4, .mov (.k (.bool false)), none⟩]) (.keep [4])) (
       .ret)) (
       .skip)))) (
    .seq (
    .region [⟨some 15, .mov (.t 5), none⟩,
      ⟨some 16, .bin .add (.t 15) (.k (.int .i64 1)), none⟩,
      ⟨some 5, .mov (.t 16), none⟩]) (.keep [0, 1, 5])))) (.keep [0, 1, 5])))))) (
 .seq (
  .seq (
  .region [⟨some 4, .mov (.k (.bool true)), none⟩]) (.keep [4])) (
 .ret))))) }
def c46 : CFunc := { nparams := 1, ntmps := 76, results := [(2, none)], body := (
 .seq (
  .seq (
  .region [⟨some 2, .mov (.k (.slice none 0 0)), none⟩]) (.keep [0])) (
 .seq (
  .seq (
  .region [⟨some 3, .mov (.k (.slice none 0 0)), none⟩]) (.keep [0, 3])) (
 .seq (
  .seq (
   .seq (
   .region [⟨some 4, .mov (.k (.int .i64 0)), none⟩]) (.keep [0, 3, 4])) (
  .block 0 (
   .seq (.keep [0, 3, 4]) (.loop (.seq (
    .seq (
     .seq (
      .seq (
      .region [⟨some 7, .mov (.t 4), none⟩,
        ⟨some 8, .mov (.t 0), none⟩,
        ⟨some 9, .len (.t 8), none⟩,
        ⟨some 10, .bin .lss (.t 7) (.t 9), none⟩]) (.keep [0, 3, 4, 10])) (
     .cond (.t 10) (
      .skip) (
      .exit 0))) (
    .seq (
     .block 1 (
      .seq (
       .seq (
       .seq (.holes 1) (
       .regionD [(⟨some 13, .mov (.t 0), none⟩, none),
         (⟨some 14, .mov (.t 4), none⟩, none),
         (⟨some 15, .iaddr 4 (.t 13) (.t 14), none⟩, none),
         (⟨some 16, .faddr 2 (.t 15), none⟩, none),
         (⟨some 17, .load none (.t 16), none⟩, none),
         (⟨some 18, .mov (.t 0), none⟩, none),
         (⟨some 19, .mov (.t 4), none⟩, none),
         (⟨some 20, .iaddr 4 (.t 18) (.t 19), none⟩, none),
         (⟨some 21, .faddr 3 (.t 20), none⟩, none),
         (⟨some 22, .load none (.t 21), none⟩, none),
         (⟨some 23, .build [.int .i64 0, .int .i64 0] [(0, 1, .t 17), (1, 1, .t 22)], none⟩, none),
         (⟨some 5, .alloc (some 2) [.int .i64 0, .int .i64 0], none⟩, some 1),
         (⟨none, .store 2 (.t 5) (.t 23), none⟩, none)] [(2, 11), (3, 11), (4, 11), (7, 11), (8, 11), (9, 11)])) (.keep [0, 3, 4, 5])) (
      .seq (
       .seq (
       .region [⟨some 24, .mov (.t 3), none⟩,
         ⟨some 25, .len (.t 24), none⟩,
         ⟨some 6, .mov (.t 25), none⟩]) (.keep [0, 3, 4, 5, 6])) (
      .seq (
       .block 2 (
        .seq (.keep [0, 3, 4, 5, 6]) (.loop (.seq (
         .seq (
          .seq (
           .seq (
           .region [⟨some 26, .mov (.t 6), none⟩,
             ⟨some 27, .bin .gtr (.t 26) (.k (.int .i64 0)), none⟩,
             ⟨some 28, .mov (.t 27), none⟩,
             ⟨some 29, .mov (.t 3), (some (28, true))⟩,
             ⟨some 30, .mov (.t 6), (some (28, true))⟩,
             ⟨some 31, .bin .sub (.t 30) (.k (.int .i64 1)), (some (28, true))⟩,
             ⟨some 32, .iaddr 2 (.t 29) (.t 31), (some (28, true))⟩,
             ⟨some 33, .faddr 0 (.t 32), (some (28, true))⟩,
             ⟨some 34, .load none (.t 33), (some (28, true))⟩,
             ⟨some 35, .faddr 0 (.t 5), (some (28, true))⟩,
             ⟨some 36, .load none (.t 35), (some (28, true))⟩,
             ⟨some 37, .bin .gtr (.t 34) (.t 36), (some (28, true))⟩,
             ⟨some 38, .mov (.t 37), (some (28, true))⟩,
             ⟨some 39, .mov (.t 3), (some (38, false))⟩,
             ⟨some 40, .mov (.t 6), (some (38, false))⟩,
             ⟨some 41, .bin .sub (.t 40) (.k (.int .i64 1)), (some (38, false))⟩,
             ⟨some 42, .iaddr 2 (.t 39) (.t 41), (some (38, false))⟩,
             ⟨some 43, .faddr 0 (.t 42), (some (38, false))⟩,
             ⟨some 44, .load none (.t 43), (some (38, false))⟩,
             ⟨some 45, .faddr 0 (.t 5), (some (38, false))⟩,
             ⟨some 46, .load none (.t 45), (some (38, false))⟩,
             ⟨some 47, .bin .eql (.t 44) (.t 46), (some (38, false))⟩,
             ⟨some 48, .mov (.t 47), (some (38, false))⟩,
             ⟨some 49, .mov (.t 3), (some (48, true))⟩,
             ⟨some 50, .mov (.t 6), (some (48, true))⟩,
             ⟨some 51, .bin .sub (.t 50) (.k (.int .i64 1)), (some (48, true))⟩,
             ⟨some 52, .iaddr 2 (.t 49) (.t 51), (some (48, true))⟩,
             ⟨some 53, .faddr 1 (.t 52), (some (48, true))⟩,
             ⟨some 54, .load none (.t 53), (some (48, true))⟩,
             ⟨some 55, .faddr 1 (.t 5), (some (48, true))⟩,
             ⟨some 56, .load none (.t 55), (some (48, true))⟩,
             ⟨some 57, .bin .gtr (.t 54) (.t 56), (some (48, true))⟩,
             ⟨some 58, .pick (.t 48) (.t 57) (.k (.bool false)), (some (38, false))⟩,
             ⟨some 59, .pick (.t 38) (.k (.bool true)) (.t 58), (some (28, true))⟩,
             ⟨some 60, .pick (.t 28) (.t 59) (.k (.bool false)), none⟩]) (.keep [0, 3, 4, 5, 6, 60])) (
          .cond (.t 60) (
           .skip) (
           .exit 2))) (
         .block 3 (
          .seq (
          .region [⟨some 61, .mov (.t 6), none⟩,
            ⟨some 62, .bin .sub (.t 61) (.k (.int .i64 1)), none⟩,
            ⟨some 6, .mov (.t 62), none⟩]) (.keep [0, 3, 4, 5, 6])))) (.keep [0, 3, 4, 5, 6]))))) (
      .seq (
      .seq (
      .seq (.holes 1) (
      .regionD [(⟨some 63, .bsl true 2 [], none⟩, some 1),
        (⟨some 64, .mov (.t 3), none⟩, none),
        (⟨some 65, .mov (.t 6), none⟩, none),
        (⟨some 66, .slice 2 (.t 64) none (some (.t 65)), none⟩, none),
        (⟨some 67, .append 2 16 (.t 63) (.t 66), none⟩, none),
        (⟨some 68, .load (some 2) (.t 5), none⟩, none),
        (⟨some 69, .bsl false 2 [.t 68], none⟩, none),
        (⟨some 70, .append 2 16 (.t 67) (.t 69), none⟩, none),
        (⟨some 71, .mov (.t 3), none⟩, none),
        (⟨some 72, .mov (.t 6), none⟩, none),
        (⟨some 73, .slice 2 (.t 71) (some (.t 72)) none, none⟩, none),
        (⟨some 74, .append 2 16 (.t 70) (.t 73), none⟩, none),
        (⟨some 3, .mov (.t 74), none⟩, none)] [(0, 3), (0, 5), (4, 5), (0, 6), (4, 6), (0, 10), (4, 10), (7, 10)])) (.keep [0, 3, 4])) (.fix 3)))))) (
    .seq (
    .region [⟨some 11, .mov (.t 4), none⟩,
      ⟨some 12, .bin .add (.t 11) (.k (.int .i64 1)), none⟩,
      ⟨some 4, .mov (.t 12), none⟩]) (.keep [0, 3, 4])))) (.seq (.keep [0, 3, 4]) .cut)))))) (
 .seq (
  .seq (
  .region [⟨some 75, .mov (.t 3), none⟩,
    ⟨some 2, .mov (.t 75), none⟩]) (.keep [2])) (
 .ret))))) }
def c47 : CFunc := { nparams := 1, ntmps := 18, results := [(2, none)], body := (
 .seq (
  .seq (
  .region [⟨some 2, .mov (.k (.slice none 0 0)), none⟩]) (.keep [0])) (
 .seq (
  .seq (
  .region [⟨some 3, .onil 4, none⟩]) (.keep [0, 3])) (
 .seq (
  .seq (
   .seq (
   .region [⟨some 6, .mov (.t 0), none⟩,
     ⟨some 7, .len (.t 6), none⟩,
     ⟨some 8, .mov (.k (.int .i64 0)), none⟩]) (.keep [3, 6, 7, 8])) (
  .block 0 (
   .seq (.keep [3, 6, 7, 8]) (.loop (.seq (
    .seq (
     .seq (
     .region [⟨some 9, .bin .lss (.t 8) (.t 7), none⟩]) (.keep [3, 6, 7, 8, 9])) (
    .seq (
     .cond (.t 9) (
      .skip) (
      .exit 0)) (
    .seq (
     .block 1 (
      .seq (
       .seq (
       .region [⟨some 10, .iaddr 4 (.t 6) (.t 8), none⟩,
         ⟨some 11, .load (some 4) (.t 10), none⟩,
         ⟨some 5, .alloc (some 4) [.int .i64 0, .int .i64 0, .int .i64 0, .int .i64 0], none⟩,
         ⟨none, .store 4 (.t 5) (.t 11), none⟩]) (.keep [3, 5, 6, 7, 8])) (
      .seq (
      .region [⟨some 12, .mov (.t 3), none⟩,
        ⟨some 13, .load (some 4) (.t 5), none⟩,
        ⟨some 14, .bsl false 4 [.t 13], none⟩,
        ⟨some 15, .append 4 32 (.t 12) (.t 14), none⟩,
        ⟨some 3, .mov (.t 15), none⟩]) (.keep [3, 6, 7, 8])))) (
    .seq (
    .region [⟨some 16, .bin .add (.t 8) (.k (.int .i64 1)), none⟩,
      ⟨some 8, .mov (.t 16), none⟩]) (.keep [3, 6, 7, 8]))))) (.seq (.keep [3, 6, 7, 8]) .cut)))))) (
 .seq (
  .seq (
  .region [⟨some 17, .fz (.mov (.t 3)), none⟩,
    ⟨some 2, .mov (.t 17), none⟩]) (.keep [2])) (
 .ret))))) }
def c48 : CFunc := { nparams := 2, ntmps := 26, results := [(4, none)], body := (
 .seq (
  .seq (
  .region [⟨some 4, .mov (.k (.bool false)), none⟩]) (.keep [0, 1])) (
 .seq (
  .seq (
   .seq (
   .region [⟨some 6, .mov (.t 0), none⟩,
     ⟨some 7, .len (.t 6), none⟩,
     ⟨some 8, .mov (.t 1), none⟩,
     ⟨some 9, .len (.t 8), none⟩,
     ⟨some 10, .bin .neq (.t 7) (.t 9), none⟩]) (.keep [0, 1, 10])) (
  .cond (.t 10) (
   .seq (
    .seq (
    .region [⟨some 4, .mov (.k (.bool false)), none⟩]) (.keep [4])) (
   .ret)) (
   .skip))) (
 .seq (
  .seq (
   .seq (
   .region [⟨some 5, .mov (.k (.int .i64 0)), none⟩]) (.keep [0, 1, 5])) (
  .block 0 (
   .seq (.keep [0, 1, 5]) (.loop (.seq (
    .seq (
     .seq (
      .seq (
      .region [⟨some 11, .mov (.t 5), none⟩,
        ⟨some 12, .mov (.t 0), none⟩,
        ⟨some 13, .len (.t 12), none⟩,
        ⟨some 14, .bin .lss (.t 11) (.t 13), none⟩]) (.keep [0, 1, 5, 14])) (
     .cond (.t 14) (
      .skip) (
      .exit 0))) (
    .seq (
     .block 1 (
      .seq (
       .seq (
       .region [⟨some 17, .mov (.t 0), none⟩,
         ⟨some 18, .mov (.t 5), none⟩,
         ⟨some 19, .iaddr 1 (.t 17) (.t 18), none⟩,
         ⟨some 20, .load none (.t 19), none⟩,
         ⟨some 21, .mov (.t 1), none⟩,
         ⟨some 22, .mov (.t 5), none⟩,
         ⟨some 23, .iaddr 1 (.t 21) (.t 22), none⟩,
         ⟨some 24, .load none (.t 23), none⟩,
         ⟨some 25, .bin .neq (.t 20) (.t 24), none⟩]) (.keep [0, 1, 5, 25])) (
      .cond (.t 25) (
       .seq (
        .seq (
        .region [⟨some 4, .mov (.k (.bool false)), none⟩]) (.keep [4])) (
       .ret)) (
       .skip)))) (
    .seq (
    .region [⟨some 15, .mov (.t 5), none⟩,
      ⟨some 16, .bin .add (.t 15) (.k (.int .i64 1)), none⟩,
      ⟨some 5, .mov (.t 16), none⟩]) (.keep [0, 1, 5])))) (.keep [0, 1, 5])))))) (
 .seq (
  .seq (
  .region [⟨some 4, .mov (.k (.bool true)), none⟩]) (.keep [4])) (
 .ret))))) }
def c49 : CFunc := { nparams := 1, ntmps := 20, results := [(2, none)], body := (
 .seq (
  .seq (
  .region [⟨some 2, .mov (.k (.slice none 0 0)), none⟩]) (.keep [0])) (
 .seq (
  .seq (
  .region [⟨some 3, .onil 1, none⟩]) (.keep [0, 3])) (
 .seq (
  .seq (
   .seq (
   .region [⟨some 4, .mov (.k (.int .i64 0)), none⟩]) (.keep [0, 3, 4])) (
  .block 0 (
   .seq (.keep [0, 3, 4]) (.loop (.seq (
    .seq (
     .seq (
      .seq (
      .region [⟨some 5, .mov (.t 4), none⟩,
        ⟨some 6, .mov (.t 0), none⟩,
        ⟨some 7, .len (.t 6), none⟩,
        ⟨some 8, .bin .lss (.t 5) (.t 7), none⟩]) (.keep [0, 3, 4, 8])) (
     .cond (.t 8) (
      .skip) (
      .exit 0))) (
    .seq (
     .block 1 (
      .seq (
      .region [⟨some 11, .mov (.t 3), none⟩,
        ⟨some 12, .mov (.t 0), none⟩,
        ⟨some 13, .mov (.t 4), none⟩,
        ⟨some 14, .iaddr 2 (.t 12) (.t 13), none⟩,
        ⟨some 15, .faddr 1 (.t 14), none⟩,
        ⟨some 16, .load none (.t 15), none⟩,
        ⟨some 17, .bsl false 1 [.t 16], none⟩,
        ⟨some 18, .append 1 8 (.t 11) (.t 17), none⟩,
        ⟨some 3, .mov (.t 18), none⟩]) (.keep [0, 3, 4]))) (
    .seq (
    .region [⟨some 9, .mov (.t 4), none⟩,
      ⟨some 10, .bin .add (.t 9) (.k (.int .i64 1)), none⟩,
      ⟨some 4, .mov (.t 10), none⟩]) (.keep [0, 3, 4])))) (.keep [0, 3, 4])))))) (
 .seq (
  .seq (
  .region [⟨some 19, .fz (.mov (.t 3)), none⟩,
    ⟨some 2, .mov (.t 19), none⟩]) (.keep [2])) (
 .ret))))) }
def c50 : CFunc := { nparams := 1, ntmps := 45, results := [(2, none), (3, none)], body := (
 .seq (
  .seq (
  .region [⟨some 2, .mov (.k (.slice none 0 0)), none⟩,
    ⟨some 3, .mov (.k (.int .i64 0)), none⟩]) (.keep [0])) (
 .seq (
  .seq (
   .seq (
   .region [⟨some 9, .mov (.t 0), none⟩,
     ⟨some 10, .call false (.inr 22) [.t 9], none⟩,
     ⟨some 4, .mov (.t 10), none⟩]) (.keep [0, 4])) (
  .seq (
   .seq (
   .region [⟨some 11, .mov (.t 4), none⟩,
     ⟨some 12, .bin .neq (.t 11) (.k (.int .i64 0)), none⟩]) (.keep [0, 4, 12])) (
  .cond (.t 12) (
   .seq (
    .seq (
    .region [⟨some 13, .mov (.t 4), none⟩,
      ⟨some 2, .mov (.k (.slice none 0 0)), none⟩,
      ⟨some 3, .mov (.t 13), none⟩]) (.keep [2, 3])) (
   .ret)) (
   .skip)))) (
 .seq (
  .seq (
   .seq (
   .region [⟨some 14, .mov (.t 0), none⟩,
     ⟨some 15, .len (.t 14), none⟩,
     ⟨some 16, .bin .eql (.t 15) (.k (.int .i64 0)), none⟩]) (.keep [0, 16])) (
  .cond (.t 16) (
   .seq (
    .seq (
    .region [⟨some 2, .mov (.k (.slice none 0 0)), none⟩,
      ⟨some 3, .mov (.k (.int .i64 0)), none⟩]) (.keep [2, 3])) (
   .ret)) (
   .skip))) (
 .seq (
  .seq (
  .region [⟨some 18, .mov (.t 0), none⟩,
    ⟨some 19, .mov (.t 0), none⟩,
    ⟨some 20, .mov (.t 0), none⟩,
    ⟨some 21, .mov (.t 0), none⟩,
    ⟨some 22, .len (.t 21), none⟩,
    ⟨some 23, .bin .sub (.t 22) (.k (.int .i64 1)), none⟩,
    ⟨some 24, .iaddr 2 (.t 20) (.t 23), none⟩,
    ⟨some 25, .faddr 0 (.t 24), none⟩,
    ⟨some 26, .load none (.t 25), none⟩,
    ⟨some 27, .mov (.t 0), none⟩,
    ⟨some 28, .iaddr 2 (.t 27) (.k (.int .i64 0)), none⟩,
    ⟨some 29, .faddr 0 (.t 28), none⟩,
    ⟨some 30, .load none (.t 29), none⟩,
    ⟨some 31, .bin .sub (.t 26) (.t 30), none⟩,
    ⟨some 32, .bin .add (.t 31) (.k (.int .i64 1)), none⟩,
    ⟨some 33, .call false (.inr 94) [.t 18, .t 19, .t 32], none⟩,
    ⟨some 17, .mov (.t 33), none⟩,
    ⟨some 34, .ext 0 (.t 17), none⟩,
    ⟨some 35, .ext 1 (.t 17), none⟩,
    ⟨some 5, .mov (.t 34), none⟩,
    ⟨some 6, .mov (.t 35), none⟩]) (.keep [5, 6])) (
 .seq (
  .seq (
   .seq (
   .region [⟨some 36, .mov (.t 6), none⟩,
     ⟨some 37, .bin .neq (.t 36) (.k (.int .i64 0)), none⟩]) (.keep [5, 6, 37])) (
  .cond (.t 37) (
   .seq (
    .seq (
    .region [⟨some 38, .mov (.t 6), none⟩,
      ⟨some 2, .mov (.k (.slice none 0 0)), none⟩,
      ⟨some 3, .mov (.t 38), none⟩]) (.keep [2, 3])) (
   .ret)) (
   .skip))) (
 .seq (
  .seq (
  .region [⟨some 40, .mov (.t 5), none⟩,
    ⟨some 41, .call false (.inr 91) [.t 40], none⟩,
    ⟨some 39, .mov (.t 41), none⟩,
    ⟨some 42, .ext 0 (.t 39), none⟩,
    ⟨some 43, .ext 1 (.t 39), none⟩,
    ⟨some 7, .mov (.t 42), none⟩,
    ⟨some 8, .mov (.t 43), none⟩]) (.keep [7])) (
 .seq (
  .seq (
  .region [⟨some 44, .mov (.t 7), none⟩,
    ⟨some 2, .mov (.t 44), none⟩,
    ⟨some 3, .mov (.k (.int .i64 0)), none⟩]) (.keep [2, 3])) (
 .ret)))))))) }
def c56 : CFunc := { nparams := 2, ntmps := 26, results := [(4, none)], body := (
 .seq (
  .seq (
  .region [⟨some 4, .mov (.k (.bool false)), none⟩]) (.keep [0, 1])) (
 .seq (
  .seq (
   .seq (
   .region [⟨some 6, .mov (.t 0), none⟩,
     ⟨some 7, .len (.t 6), none⟩,
     ⟨some 8, .mov (.t 1), none⟩,
     ⟨some 9, .len (.t 8), none⟩,
     ⟨some 10, .bin .neq (.t 7) (.t 9), none⟩]) (.keep [0, 1, 10])) (
  .cond (.t 10) (
   .seq (
    .seq (
    .region [⟨some 4, .mov (.k (.bool false)), none⟩]) (.keep [4])) (
   .ret)) (
   .skip))) (
 .seq (
  .seq (
   .seq (
   .region [⟨some 5, .mov (.k (.int .i64 0)), none⟩]) (.keep [0, 1, 5])) (
  .block 0 (
   .seq (.keep [0, 1, 5]) (.loop (.seq (
    .seq (
     .seq (
      .seq (
      .region [⟨some 11, .mov (.t 5), none⟩,
        ⟨some 12, .mov (.t 0), none⟩,
        ⟨some 13, .len (.t 12), none⟩,
        ⟨some 14, .bin .lss (.t 11) (.t 13), none⟩]) (.keep [0, 1, 5, 14])) (
     .cond (.t 14) (
      .skip) (
      .exit 0))) (
    .seq (
     .block 1 (
      .seq (
       .seq (
       .region [⟨some 17, .mov (.t 0), none⟩,
         ⟨some 18, .mov (.t 5), none⟩,
         ⟨some 19, .iaddr 4 (.t 17) (.t 18), none⟩,
         ⟨some 20, .load (some 4) (.t 19), none⟩,
         ⟨some 21, .mov (.t 1), none⟩,
         ⟨some 22, .mov (.t 5), none⟩,
         ⟨some 23, .iaddr 4 (.t 21) (.t 22), none⟩,
         ⟨some 24, .load (some 4) (.t 23), none⟩,
         ⟨some 25, .eqs true [.int, .int, .int, .int] (.t 20) (.t 24), none⟩]) (.keep [0, 1, 5, 25])) (
      .cond (.t 25) (
       .seq (
        .seq (
        .region [⟨some 4, .mov (.k (.bool false)), none⟩]) (.keep [4])) (
       .ret)) (
       .skip)))) (
    .seq (
    .region [⟨some 15, .mov (.t 5), none⟩,
      ⟨some 16, .bin .add (.t 15) (.k (.int .i64 1)), none⟩,
      ⟨some 5, .mov (.t 16), none⟩]) (.keep [0, 1, 5])))) (.keep [0, 1, 5])))))) (
 .seq (
  .seq (
  .region [⟨some 4, .mov (.k (.bool true)), none⟩]) (.keep [4])) (
 .ret))))) }
def c59 : CFunc := { nparams := 2, ntmps := 39, results := [(4, none), (5, none)], body := (
 .seq (
  .seq (
  .region [⟨some 2, .box false 2 (.t 0), none⟩,
    ⟨some 4, .mov (.k (.int .i64 0)), none⟩,
    ⟨some 5, .mov (.k (.int .i64 0)), none⟩]) (.keep [1, 2])) (
 .seq (
  .seq (
   .seq (
   .region [⟨some 9, .load (some 2) (.t 2), none⟩,
     ⟨some 10, .call false (.inr 98) [.t 9], none⟩,
     ⟨some 11, .mov (.t 1), none⟩,
     ⟨some 12, .call false (.inr 19) [.t 11], none⟩,
     ⟨some 13, .bsl false 1 [.t 10, .t 12], none⟩,
     ⟨some 14, .call false (.inr 73) [.t 13], none⟩,
     ⟨some 6, .mov (.t 14), none⟩]) (.keep [1, 2, 6])) (
  .seq (
   .seq (
   .region [⟨some 15, .mov (.t 6), none⟩,
     ⟨some 16, .bin .neq (.t 15) (.k (.int .i64 0)), none⟩]) (.keep [1, 2, 6, 16])) (
  .cond (.t 16) (
   .seq (
    .seq (
    .region [⟨some 17, .mov (.t 6), none⟩,
      ⟨some 4, .mov (.k (.int .i64 0)), none⟩,
      ⟨some 5, .mov (.t 17), none⟩]) (.keep [4, 5])) (
   .ret)) (
   .skip)))) (
 .seq (
  .seq (
  .region [⟨some 19, .mov (.t 1), none⟩,
    ⟨some 20, .faddr 1 (.t 2), none⟩,
    ⟨some 21, .load none (.t 20), none⟩,
    ⟨some 22, .call false (.inr 83) [.t 19, .t 21], none⟩,
    ⟨some 18, .mov (.t 22), none⟩,
    ⟨some 23, .ext 0 (.t 18), none⟩,
    ⟨some 24, .ext 1 (.t 18), none⟩,
    ⟨some 7, .mov (.t 23), none⟩,
    ⟨some 8, .mov (.t 24), none⟩]) (.keep [2, 7, 8])) (
 .seq (
  .seq (
   .seq (
   .region [⟨some 25, .mov (.t 8), none⟩,
     ⟨some 26, .mov (.t 7), none⟩,
     ⟨some 27, .bin .eql (.t 26) (.k (.int .i64 0)), none⟩,
     ⟨some 28, .call false (.inr 74) [.t 27, .k (.int .i64 7)], none⟩,
     ⟨some 29, .bsl false 1 [.t 25, .t 28], none⟩,
     ⟨some 30, .call false (.inr 73) [.t 29], none⟩,
     ⟨some 8, .mov (.t 30), none⟩]) (.keep [2, 7, 8])) (
  .seq (
   .seq (
   .region [⟨some 31, .mov (.t 8), none⟩,
     ⟨some 32, .bin .neq (.t 31) (.k (.int .i64 0)), none⟩]) (.keep [2, 7, 8, 32])) (
  .cond (.t 32) (
   .seq (
    .seq (
    .region [⟨some 33, .mov (.t 8), none⟩,
      ⟨some 4, .mov (.k (.int .i64 0)), none⟩,
      ⟨some 5, .mov (.t 33), none⟩]) (.keep [4, 5])) (
   .ret)) (
   .skip)))) (
 .seq (
  .seq (
  .region [⟨some 34, .faddr 0 (.t 2), none⟩,
    ⟨some 35, .load none (.t 34), none⟩,
    ⟨some 36, .bin .mul (.k (.int .i64 2)) (.t 35), none⟩,
    ⟨some 37, .mov (.t 7), none⟩,
    ⟨some 38, .bin .quo (.t 36) (.t 37), none⟩,
    ⟨some 4, .mov (.t 38), none⟩,
    ⟨some 5, .mov (.k (.int .i64 0)), none⟩]) (.keep [4, 5])) (
 .ret)))))) }
def c66 : CFunc := { nparams := 0, ntmps := 2, results := [(0, none)], body := (
 .seq (
  .seq (
  .region [⟨some 0, .mov (.k (.slice none 0 0)), none⟩]) (.keep [])) (
 .seq (
  .seq (
  .region [⟨some 1, .bsl false 1 [.k (.int .i64 0), .k (.int .i64 5), .k (.int .i64 5), .k (.int .i64 2), .k (.int .i64 4), .k (.int .i64 (-1)), .k (.int .i64 3), .k (.int .i64 6)], none⟩,
    ⟨some 0, .mov (.t 1), none⟩]) (.keep [0])) (
 .ret))) }
def c67 : CFunc := { nparams := 1, ntmps := 5, results := [(2, none)], body := (
 .seq (
  .seq (
  .region [⟨some 1, .box false 1 (.t 0), none⟩,
    ⟨some 2, .mov (.k (.slice none 0 0)), none⟩]) (.keep [1])) (
 .seq (
  .seq (
  .region [⟨some 3, .mkfn 100 [.t 1], none⟩,
    ⟨some 4, .call false (.inr 99) [.t 3], none⟩,
    ⟨some 2, .mov (.t 4), none⟩]) (.keep [2])) (
 .ret))) }
def c68 : CFunc := { nparams := 1, ntmps := 5, results := [(2, none)], body := (
 .seq (
  .seq (
  .region [⟨some 2, .mov (.k (.int .i64 0)), none⟩]) (.keep [0])) (
 .seq (
  .seq (
  .region [⟨some 3, .mov (.t 0), none⟩,
    ⟨some 4, .call false (.inr 33) [.t 3, .k (.int .i64 (-32768)), .k (.int .i64 32768)], none⟩,
    ⟨some 2, .mov (.t 4), none⟩]) (.keep [2])) (
 .ret))) }
def c70 : CFunc := { nparams := 2, ntmps := 23, results := [(4, none)], body := (
 .seq (
  .seq (
  .region [⟨some 4, .mov (.k (.slice none 0 0)), none⟩]) (.keep [0, 1])) (
 .seq (
  .seq (
  .region [⟨some 5, .onil 1, none⟩]) (.keep [0, 1, 5])) (
 .seq (
  .seq (
   .seq (
   .region [⟨some 8, .mov (.t 0), none⟩,
     ⟨some 9, .len (.t 8), none⟩,
     ⟨some 10, .mov (.k (.int .i64 0)), none⟩]) (.keep [1, 5, 8, 9, 10])) (
  .block 0 (
   .seq (.keep [1, 5, 8, 9, 10]) (.loop (.seq (
    .seq (
     .seq (
     .region [⟨some 11, .bin .lss (.t 10) (.t 9), none⟩]) (.keep [1, 5, 8, 9, 10, 11])) (
    .seq (
     .cond (.t 11) (
      .skip) (
      .exit 0)) (
    .seq (
     .block 1 (
      .seq (
       .seq (
       .region [⟨some 12, .iaddr 1 (.t 8) (.t 10), none⟩,
         ⟨some 13, .load none (.t 12), none⟩,
         ⟨some 7, .mov (.t 13), none⟩]) (.keep [1, 5, 7, 8, 9, 10])) (
      .seq (
       .seq (
       .region [⟨some 14, .mov (.t 1), none⟩,
         ⟨some 15, .mov (.t 7), none⟩,
         ⟨some 16, .call true (.inl (.t 14)) [.t 15], none⟩]) (.keep [1, 5, 7, 8, 9, 10, 16])) (
      .cond (.t 16) (
       .seq (
       .region [⟨some 17, .mov (.t 5), none⟩,
         ⟨some 18, .mov (.t 7), none⟩,
         ⟨some 19, .bsl false 1 [.t 18], none⟩,
         ⟨some 20, .append 1 8 (.t 17) (.t 19), none⟩,
         ⟨some 5, .mov (.t 20), none⟩]) (.keep [1, 5, 8, 9, 10])) (
       .skip))))) (
    .seq (
    .region [⟨some 21, .bin .add (.t 10) (.k (.int .i64 1)), none⟩,
      ⟨some 10, .mov (.t 21), none⟩]) (.keep [1, 5, 8, 9, 10]))))) (.seq (.keep [1, 5, 8, 9, 10]) .cut)))))) (
 .seq (
  .seq (
  .region [⟨some 22, .fz (.mov (.t 5)), none⟩,
    ⟨some 4, .mov (.t 22), none⟩]) (.keep [4])) (
 .ret))))) }
def c71 : CFunc := { nparams := 1, ntmps := 6, results := [(2, none)], body := (
 .seq (
  .seq (
  .region [⟨some 2, .mov (.k (.bool false)), none⟩]) (.keep [0])) (
 .seq (
  .seq (
  .region [⟨some 3, .mov (.t 0), none⟩,
    ⟨some 4, .call false (.inr 72) [.t 3], none⟩,
    ⟨some 5, .bin .neq (.t 4) (.k (.int .i64 0)), none⟩,
    ⟨some 2, .mov (.t 5), none⟩]) (.keep [2])) (
 .ret))) }
def c72 : CFunc := { nparams := 1, ntmps := 5, results := [(2, none)], body := (
 .seq (
  .seq (
  .region [⟨some 2, .mov (.k (.int .i64 0)), none⟩]) (.keep [0])) (
 .seq (
  .seq (
  .region [⟨some 3, .mov (.t 0), none⟩,
    ⟨some 4, .call false (.inr 84) [.t 3, .k (.int .i64 (-32768)), .k (.int .i64 32768)], none⟩,
    ⟨some 2, .mov (.t 4), none⟩]) (.keep [2])) (
 .ret))) }
def c73 : CFunc := { nparams := 1, ntmps := 15, results := [(2, none)], body := (
 .seq (
  .seq (
  .region [⟨some 2, .mov (.k (.int .i64 0)), none⟩]) (.keep [0])) (
 .seq (
  .seq (
   .seq (
   .region [⟨some 5, .mov (.t 0), none⟩,
     ⟨some 6, .len (.t 5), none⟩,
     ⟨some 7, .mov (.k (.int .i64 0)), none⟩]) (.keep [5, 6, 7])) (
  .block 0 (
   .seq (.keep [5, 6, 7]) (.loop (.seq (
    .seq (
     .seq (
     .region [⟨some 8, .bin .lss (.t 7) (.t 6), none⟩]) (.keep [5, 6, 7, 8])) (
    .seq (
     .cond (.t 8) (
      .skip) (
      .exit 0)) (
    .seq (
     .block 1 (
      .seq (
       .seq (
       .region [⟨some 9, .iaddr 1 (.t 5) (.t 7), none⟩,
         ⟨some 10, .load none (.t 9), none⟩,
         ⟨some 4, .mov (.t 10), none⟩]) (.keep [4, 5, 6, 7])) (
      .seq (
       .seq (
       .region [⟨some 11, .mov (.t 4), none⟩,
         ⟨some 12, .bin .neq (.t 11) (.k (.int .i64 0)), none⟩]) (.keep [4, 5, 6, 7, 12])) (
      .cond (.t 12) (
       .seq (
        .seq (
        .region [⟨some 13, .mov (.t 4), none⟩,
          ⟨some 2, .mov (.t 13), none⟩]) (.keep [2])) (
       .ret)) (
       .skip))))) (
    .seq (
    .region [⟨some 14, .bin .add (.t 7) (.k (.int .i64 1)), none⟩,
      ⟨some 7, .mov (.t 14), none⟩]) (.keep [5, 6, 7]))))) (.keep [5, 6, 7])))))) (
 .seq (
  .seq (
  .region [⟨some 2, .mov (.k (.int .i64 0)), none⟩]) (.keep [2])) (
 .ret)))) }
def c74 : CFunc := { nparams := 2, ntmps := 7, results := [(4, none)], body := (
 .seq (
  .seq (
  .region [⟨some 4, .mov (.k (.int .i64 0)), none⟩]) (.keep [0, 1])) (
 .seq (
  .seq (
   .seq (
   .region [⟨some 5, .mov (.t 0), none⟩]) (.keep [1, 5])) (
  .cond (.t 5) (
   .seq (
    .seq (
    .region [⟨some 6, .mov (.t 1), none⟩,
      ⟨some 4, .mov (.t 6), none⟩]) (.keep [4])) (
   .ret)) (
   .skip))) (
 .seq (
  .seq (
  .region [⟨some 4, .mov (.k (.int .i64 0)), none⟩]) (.keep [4])) (
 .ret)))) }
def c75 : CFunc := { nparams := 3, ntmps := 25, results := [(6, none)], body := (
 .seq (
  .seq (
  .region [⟨some 6, .mov (.k (.bool false)), none⟩]) (.keep [0, 1, 2])) (
 .seq (
  .seq (
  .region [⟨some 7, .mov (.t 0), none⟩,
    ⟨some 8, .mov (.t 1), none⟩,
    ⟨some 9, .bin .lss (.t 7) (.t 8), none⟩,
    ⟨some 10, .mov (.t 9), none⟩,
    ⟨some 11, .mov (.t 1), (some (10, true))⟩,
    ⟨some 12, .mov (.t 2), (some (10, true))⟩,
    ⟨some 13, .bin .gtr (.t 11) (.t 12), (some (10, true))⟩,
    ⟨some 14, .pick (.t 10) (.t 13) (.k (.bool false)), none⟩,
    ⟨some 15, .mov (.t 14), none⟩,
    ⟨some 16, .mov (.t 0), (some (15, false))⟩,
    ⟨some 17, .mov (.t 1), (some (15, false))⟩,
    ⟨some 18, .bin .gtr (.t 16) (.t 17), (some (15, false))⟩,
    ⟨some 19, .mov (.t 18), (some (15, false))⟩,
    ⟨some 20, .mov (.t 1), (some (19, true))⟩,
    ⟨some 21, .mov (.t 2), (some (19, true))⟩,
    ⟨some 22, .bin .lss (.t 20) (.t 21), (some (19, true))⟩,
    ⟨some 23, .pick (.t 19) (.t 22) (.k (.bool false)), (some (15, false))⟩,
    ⟨some 24, .pick (.t 15) (.k (.bool true)) (.t 23), none⟩,
    ⟨some 6, .mov (.t 24), none⟩]) (.keep [6])) (
 .ret))) }
def c76 : CFunc := { nparams := 1, ntmps := 5, results := [(2, none)], body := (
 .seq (
  .seq (
  .region [⟨some 2, .mov (.k (.int .i64 0)), none⟩]) (.keep [0])) (
 .seq (
  .seq (
  .region [⟨some 3, .mov (.t 0), none⟩,
    ⟨some 4, .call false (.inr 84) [.t 3, .k (.int .i64 0), .k (.int .i64 39999)], none⟩,
    ⟨some 2, .mov (.t 4), none⟩]) (.keep [2])) (
 .ret))) }
def c77 : CFunc := { nparams := 3, ntmps := 25, results := [(6, none)], body := (
 .seq (
  .seq (
  .region [⟨some 6, .mov (.k (.bool false)), none⟩]) (.keep [0, 1, 2])) (
 .seq (
  .seq (
  .region [⟨some 7, .mov (.t 1), none⟩,
    ⟨some 8, .mov (.t 0), none⟩,
    ⟨some 9, .bin .gtr (.t 7) (.t 8), none⟩,
    ⟨some 10, .mov (.t 9), none⟩,
    ⟨some 11, .mov (.t 1), (some (10, true))⟩,
    ⟨some 12, .mov (.t 2), (some (10, true))⟩,
    ⟨some 13, .bin .gtr (.t 11) (.t 12), (some (10, true))⟩,
    ⟨some 14, .pick (.t 10) (.t 13) (.k (.bool false)), none⟩,
    ⟨some 15, .mov (.t 14), none⟩,
    ⟨some 16, .mov (.t 1), (some (15, false))⟩,
    ⟨some 17, .mov (.t 0), (some (15, false))⟩,
    ⟨some 18, .bin .lss (.t 16) (.t 17), (some (15, false))⟩,
    ⟨some 19, .mov (.t 18), (some (15, false))⟩,
    ⟨some 20, .mov (.t 1), (some (19, true))⟩,
    ⟨some 21, .mov (.t 2), (some (19, true))⟩,
    ⟨some 22, .bin .lss (.t 20) (.t 21), (some (19, true))⟩,
    ⟨some 23, .pick (.t 19) (.t 22) (.k (.bool false)), (some (15, false))⟩,
    ⟨some 24, .pick (.t 15) (.k (.bool true)) (.t 23), none⟩,
    ⟨some 6, .mov (.t 24), none⟩]) (.keep [6])) (
 .ret))) }
def c78 : CFunc := { nparams := 1, ntmps := 46, results := [(2, none)], body := (
 .seq (
  .seq (
  .region [⟨some 2, .mov (.k (.int .i64 0)), none⟩]) (.keep [0])) (
 .seq (
  .seq (
   .seq (
   .region [⟨some 6, .mov (.t 0), none⟩,
     ⟨some 7, .len (.t 6), none⟩,
     ⟨some 8, .bin .gtr (.t 7) (.k (.int .i64 40000)), none⟩]) (.keep [0, 8])) (
  .cond (.t 8) (
   .seq (
    .seq (
    .region [⟨some 2, .mov (.k (.int .i64 5)), none⟩]) (.keep [2])) (
   .ret)) (
   .skip))) (
 .seq (
  .seq (
   .seq (
   .region [⟨some 9, .mov (.t 0), none⟩,
     ⟨some 10, .len (.t 9), none⟩,
     ⟨some 11, .mov (.k (.int .i64 0)), none⟩]) (.keep [9, 10, 11])) (
  .block 0 (
   .seq (.keep [9, 10, 11]) (.loop (.seq (
    .seq (
     .seq (
     .region [⟨some 12, .bin .lss (.t 11) (.t 10), none⟩]) (.keep [9, 10, 11, 12])) (
    .seq (
     .cond (.t 12) (
      .skip) (
      .exit 0)) (
    .seq (
     .block 1 (
      .seq (
       .seq (
       .region [⟨some 13, .iaddr 4 (.t 9) (.t 11), none⟩,
         ⟨some 14, .load (some 4) (.t 13), none⟩,
         ⟨some 4, .alloc (some 4) [.int .i64 0, .int .i64 0, .int .i64 0, .int .i64 0], none⟩,
         ⟨none, .store 4 (.t 4) (.t 14), none⟩]) (.keep [4, 9, 10, 11])) (
      .seq (
       .seq (
       .region [⟨some 15, .faddr 0 (.t 4), none⟩,
         ⟨some 16, .load none (.t 15), none⟩,
         ⟨some 17, .call false (.inr 76) [.t 16], none⟩,
         ⟨some 18, .faddr 1 (.t 4), none⟩,
         ⟨some 19, .load none (.t 18), none⟩,
         ⟨some 20, .call false (.inr 76) [.t 19], none⟩,
         ⟨some 21, .faddr 2 (.t 4), none⟩,
         ⟨some 22, .load none (.t 21), none⟩,
         ⟨some 23, .call false (.inr 72) [.t 22], none⟩,
         ⟨some 24, .faddr 3 (.t 4), none⟩,
         ⟨some 25, .load none (.t 24), none⟩,
         ⟨some 26, .call false (.inr 72) [.t 25], none⟩,
         ⟨some 27, .faddr 0 (.t 4), none⟩,
         ⟨some 28, .load none (.t 27), none⟩,
         ⟨some 29, .faddr 1 (.t 4), none⟩,
         ⟨some 30, .load none (.t 29), none⟩,
         ⟨some 31, .bin .geq (.t 28) (.t 30), none⟩,
         ⟨some 32, .mov (.t 31), none⟩,
         ⟨some 33, .faddr 2 (.t 4), (some (32, false))⟩,
         ⟨some 34, .load none (.t 33), (some (32, false))⟩,
         ⟨some 35, .faddr 3 (.t 4), (some (32, false))⟩,
         ⟨some 36, .load none (.t 35), (some (32, false))⟩,
         ⟨some 37, .bin .geq (.t 34) (.t 36), (some (32, false))⟩,
         ⟨some 38, .pick (.t 32) (.k (.bool true)) (.t 37), none⟩,
         ⟨some 39, .call false (.inr 74) [.t 38, .k (.int .i64 11)], none⟩,
         ⟨some 40, .bsl false 1 [.t 17, .t 20, .t 23, .t 26, .t 39], none⟩,
         ⟨some 41, .call false (.inr 73) [.t 40], none⟩,
         ⟨some 5, .mov (.t 41), none⟩]) (.keep [5, 9, 10, 11])) (
      .seq (
       .seq (
       .region [⟨some 42, .mov (.t 5), none⟩,
         ⟨some 43, .bin .neq (.t 42) (.k (.int .i64 0)), none⟩]) (.keep [5, 9, 10, 11, 43])) (
      .cond (.t 43) (
       .seq (
        .seq (
        .region [⟨some 44, .mov (.t 5), none⟩,
          ⟨some 2, .mov (.t 44), none⟩]) (.keep [2])) (
       .ret)) (
       .skip)))))) (
    .seq (
    .region [⟨some 45, .bin .add (.t 11) (.k (.int .i64 1)), none⟩,
      ⟨some 11, .mov (.t 45), none⟩]) (.keep [9, 10, 11]))))) (.seq (.keep [9, 10, 11]) .cut)))))) (
 .seq (
  .seq (
  .region [⟨some 2, .mov (.k (.int .i64 0)), none⟩]) (.keep [2])) (
 .ret))))) }
def c79 : CFunc := { nparams := 1, ntmps := 5, results := [(2, none)], body := (
 .seq (
  .seq (
  .region [⟨some 2, .mov (.k (.int .i64 0)), none⟩]) (.keep [0])) (
 .seq (
  .seq (
  .region [⟨some 3, .mov (.t 0), none⟩,
    ⟨some 4, .call false (.inr 84) [.t 3, .k (.int .i64 1), .k (.int .i64 3)], none⟩,
    ⟨some 2, .mov (.t 4), none⟩]) (.keep [2])) (
 .ret))) }
def c80 : CFunc := { nparams := 4, ntmps := 28, results := [], body := (
 .seq (
  .seq (
  .region [⟨some 10, .mov (.t 1), none⟩,
    ⟨some 11, .len (.t 10), none⟩,
    ⟨some 12, .mov (.k (.int .i64 0)), none⟩]) (.keep [0, 2, 3, 10, 11, 12])) (
 .block 0 (
  .seq (.keep [0, 2, 3, 10, 11, 12]) (.loop (.seq (
   .seq (
    .seq (
    .region [⟨some 13, .bin .lss (.t 12) (.t 11), none⟩]) (.keep [0, 2, 3, 10, 11, 12, 13])) (
   .seq (
    .cond (.t 13) (
     .skip) (
     .exit 0)) (
   .seq (
    .block 1 (
     .seq (
      .seq (
      .region [⟨some 14, .iaddr 4 (.t 10) (.t 12), none⟩,
        ⟨some 15, .load (some 4) (.t 14), none⟩,
        ⟨some 9, .alloc (some 4) [.int .i64 0, .int .i64 0, .int .i64 0, .int .i64 0], none⟩,
        ⟨none, .store 4 (.t 9) (.t 15), none⟩]) (.keep [0, 2, 3, 9, 10, 11, 12])) (
     .seq (
     .region [⟨some 16, .mov (.t 0), none⟩,
       ⟨some 17, .mov (.t 3), none⟩,
       ⟨some 18, .faddr 3 (.t 9), none⟩,
       ⟨some 19, .load none (.t 18), none⟩,
       ⟨some 20, .faddr 2 (.t 9), none⟩,
       ⟨some 21, .load none (.t 20), none⟩,
       ⟨some 22, .bin .sub (.t 19) (.t 21), none⟩,
       ⟨some 23, .mov (.t 2), none⟩,
       ⟨some 24, .call false (.inr 102) [.t 22, .t 23], none⟩,
       ⟨some 25, .bin .mul (.t 17) (.t 24), none⟩,
       ⟨some 26, .call true (.inr 101) [.t 16, .t 25], none⟩]) (.keep [0, 2, 3, 10, 11, 12])))) (
   .seq (
   .region [⟨some 27, .bin .add (.t 12) (.k (.int .i64 1)), none⟩,
     ⟨some 12, .mov (.t 27), none⟩]) (.keep [0, 2, 3, 10, 11, 12]))))) (.seq (.keep [0, 2, 3, 10, 11, 12]) .cut)))))) }
def c81 : CFunc := { nparams := 1, ntmps := 12, results := [(2, none), (3, none)], body := (
 .seq (
  .seq (
  .region [⟨some 2, .mov (.k (.int .i64 0)), none⟩,
    ⟨some 3, .mov (.k (.int .i64 0)), none⟩]) (.keep [0])) (
 .seq (
  .seq (
   .seq (
   .region [⟨some 4, .mov (.t 0), none⟩,
     ⟨some 5, .nilc (.t 4), none⟩,
     ⟨some 6, .faddr 1 (.t 5), none⟩,
     ⟨some 7, .load none (.t 6), none⟩]) (.keep [0, 7])) (
  .cond (.t 7) (
   .seq (
    .seq (
    .region [⟨some 2, .mov (.k (.int .i64 0)), none⟩,
      ⟨some 3, .mov (.k (.int .i64 4)), none⟩]) (.keep [2, 3])) (
   .ret)) (
   .skip))) (
 .seq (
  .seq (
  .region [⟨some 8, .mov (.t 0), none⟩,
    ⟨some 9, .nilc (.t 8), none⟩,
    ⟨some 10, .faddr 0 (.t 9), none⟩,
    ⟨some 11, .load none (.t 10), none⟩,
    ⟨some 2, .mov (.t 11), none⟩,
    ⟨some 3, .mov (.k (.int .i64 0)), none⟩]) (.keep [2, 3])) (
 .ret)))) }
def c82 : CFunc := { nparams := 3, ntmps := 30, results := [], body := (
 .seq (
  .seq (
  .region [⟨some 8, .mov (.t 1), none⟩,
    ⟨some 9, .mov (.t 1), none⟩,
    ⟨some 10, .len (.t 9), none⟩,
    ⟨some 11, .min (.k (.int .i64 1)) [.t 10], none⟩,
    ⟨some 12, .slice 2 (.t 8) (some (.t 11)) none, none⟩,
    ⟨some 13, .len (.t 12), none⟩,
    ⟨some 14, .mov (.k (.int .i64 0)), none⟩]) (.keep [0, 1, 2, 12, 13, 14])) (
 .block 0 (
  .seq (.keep [0, 1, 2, 12, 13, 14]) (.loop (.seq (
   .seq (
    .seq (
    .region [⟨some 15, .bin .lss (.t 14) (.t 13), none⟩]) (.keep [0, 1, 2, 12, 13, 14, 15])) (
   .seq (
    .cond (.t 15) (
     .skip) (
     .exit 0)) (
   .seq (
    .block 1 (
     .seq (
      .seq (
      .region [⟨some 16, .mov (.t 14), none⟩,
        ⟨some 17, .iaddr 2 (.t 12) (.t 14), none⟩,
        ⟨some 18, .load (some 2) (.t 17), none⟩,
        ⟨some 7, .alloc (some 2) [.int .i64 0, .int .i64 0], none⟩,
        ⟨some 6, .mov (.t 16), none⟩,
        ⟨none, .store 2 (.t 7) (.t 18), none⟩]) (.keep [0, 1, 2, 6, 7, 12, 13, 14])) (
     .seq (
     .region [⟨some 19, .mov (.t 0), none⟩,
       ⟨some 20, .mov (.t 1), none⟩,
       ⟨some 21, .mov (.t 6), none⟩,
       ⟨some 22, .iaddr 2 (.t 20) (.t 21), none⟩,
       ⟨some 23, .load (some 2) (.t 22), none⟩,
       ⟨some 24, .load (some 2) (.t 7), none⟩,
       ⟨some 25, .call false (.inr 103) [.t 23, .t 24], none⟩,
       ⟨some 26, .mov (.t 2), none⟩,
       ⟨some 27, .call false (.inr 102) [.t 25, .t 26], none⟩,
       ⟨some 28, .call true (.inr 101) [.t 19, .t 27], none⟩]) (.keep [0, 1, 2, 12, 13, 14])))) (
   .seq (
   .region [⟨some 29, .bin .add (.t 14) (.k (.int .i64 1)), none⟩,
     ⟨some 14, .mov (.t 29), none⟩]) (.keep [0, 1, 2, 12, 13, 14]))))) (.seq (.keep [0, 1, 2, 12, 13, 14]) .cut)))))) }
def c83 : CFunc := { nparams := 2, ntmps := 29, results := [(4, none), (5, none)], body := (
 .seq (
  .seq (
  .region [⟨some 4, .mov (.k (.int .i64 0)), none⟩,
    ⟨some 5, .mov (.k (.int .i64 0)), none⟩]) (.keep [0, 1])) (
 .seq (
  .seq (
  .region [⟨some 10, .mov (.t 0), none⟩,
    ⟨some 11, .call false (.inr 67) [.t 10], none⟩,
    ⟨some 12, .call false (.inr 91) [.t 11], none⟩,
    ⟨some 9, .mov (.t 12), none⟩,
    ⟨some 13, .ext 0 (.t 9), none⟩,
    ⟨some 14, .ext 1 (.t 9), none⟩,
    ⟨some 6, .mov (.t 13), none⟩,
    ⟨some 7, .mov (.t 14), none⟩]) (.keep [1, 6, 7])) (
 .seq (
  .seq (
  .region [⟨some 15, .build [.int .i64 0, .bool false] [], none⟩,
    ⟨some 16, .box true 2 (.t 15), none⟩,
    ⟨some 8, .mov (.t 16), none⟩]) (.keep [1, 6, 7, 8])) (
 .seq (
  .seq (
  .region [⟨some 17, .mov (.t 8), none⟩,
    ⟨some 18, .mov (.t 6), none⟩,
    ⟨some 19, .mov (.t 1), none⟩,
    ⟨some 20, .call true (.inr 80) [.t 17, .t 18, .t 19, .k (.int .i64 2)], none⟩]) (.keep [1, 7, 8])) (
 .seq (
  .seq (
  .region [⟨some 21, .mov (.t 8), none⟩,
    ⟨some 22, .mov (.t 7), none⟩,
    ⟨some 23, .mov (.t 1), none⟩,
    ⟨some 24, .call true (.inr 82) [.t 21, .t 22, .t 23], none⟩]) (.keep [8])) (
 .seq (
  .seq (
  .region [⟨some 25, .mov (.t 8), none⟩,
    ⟨some 26, .call false (.inr 81) [.t 25], none⟩,
    ⟨some 27, .ext 0 (.t 26), none⟩,
    ⟨some 28, .ext 1 (.t 26), none⟩,
    ⟨some 4, .mov (.t 27), none⟩,
    ⟨some 5, .mov (.t 28), none⟩]) (.keep [4, 5])) (
 .ret))))))) }
def c84 : CFunc := { nparams := 3, ntmps := 16, results := [(6, none)], body := (
 .seq (
  .seq (
  .region [⟨some 6, .mov (.k (.int .i64 0)), none⟩]) (.keep [0, 1, 2])) (
 .seq (
  .seq (
  .region [⟨some 7, .mov (.t 0), none⟩,
    ⟨some 8, .mov (.t 1), none⟩,
    ⟨some 9, .bin .lss (.t 7) (.t 8), none⟩,
    ⟨some 10, .mov (.t 9), none⟩,
    ⟨some 11, .mov (.t 0), (some (10, false))⟩,
    ⟨some 12, .mov (.t 2), (some (10, false))⟩,
    ⟨some 13, .bin .gtr (.t 11) (.t 12), (some (10, false))⟩,
    ⟨some 14, .pick (.t 10) (.k (.bool true)) (.t 13), none⟩,
    ⟨some 15, .call false (.inr 74) [.t 14, .k (.int .i64 3)], none⟩,
    ⟨some 6, .mov (.t 15), none⟩]) (.keep [6])) (
 .ret))) }
def c85 : CFunc := { nparams := 2, ntmps := 30, results := [(4, none)], body := (
 .seq (
  .seq (
  .region [⟨some 4, .mov (.k (.int .i64 0)), none⟩]) (.keep [0, 1])) (
 .seq (
  .seq (
   .seq (
   .region [⟨some 8, .mov (.t 1), none⟩,
     ⟨some 9, .bin .eql (.t 8) (.k (.int .i64 1)), none⟩]) (.keep [0, 1, 9])) (
  .cond (.t 9) (
   .seq (
    .seq (
    .region [⟨some 10, .mov (.t 0), none⟩,
      ⟨some 4, .mov (.t 10), none⟩]) (.keep [4])) (
   .ret)) (
   .skip))) (
 .seq (
  .seq (
  .region [⟨some 5, .mov (.k (.int .i64 0)), none⟩,
    ⟨some 6, .mov (.k (.int .i64 2147483648)), none⟩]) (.keep [0, 1, 5, 6])) (
 .seq (
  .seq (
   .seq (
   .region [⟨some 11, .mov (.t 1), none⟩,
     ⟨some 12, .bin .gtr (.t 11) (.k (.int .i64 2)), none⟩]) (.keep [0, 1, 5, 6, 12])) (
  .cond (.t 12) (
   .seq (
   .region [⟨some 6, .mov (.k (.int .i64 1048576)), none⟩]) (.keep [0, 1, 5, 6])) (
   .skip))) (
 .seq (
  .block 0 (
   .seq (.keep [0, 1, 5, 6]) (.loop (.seq (
    .seq (
     .seq (
      .seq (
      .region [⟨some 13, .mov (.t 5), none⟩,
        ⟨some 14, .mov (.t 6), none⟩,
        ⟨some 15, .bin .lss (.t 13) (.t 14), none⟩]) (.keep [0, 1, 5, 6, 15])) (
     .cond (.t 15) (
      .skip) (
      .exit 0))) (
    .block 1 (
     .seq (
      .seq (
      .region [⟨some 16, .mov (.t 5), none⟩,
        ⟨some 17, .mov (.t 6), none⟩,
        ⟨some 18, .bin .add (.t 16) (.t 17), none⟩,
        ⟨some 19, .bin .add (.t 18) (.k (.int .i64 1)), none⟩,
        ⟨some 20, .bin .quo (.t 19) (.k (.int .i64 2)), none⟩,
        ⟨some 7, .mov (.t 20), none⟩]) (.keep [0, 1, 5, 6, 7])) (
     .seq (
      .seq (
      .region [⟨some 21, .mov (.t 7), none⟩,
        ⟨some 22, .mov (.t 1), none⟩,
        ⟨some 23, .call false (.inr 102) [.t 21, .t 22], none⟩,
        ⟨some 24, .mov (.t 0), none⟩,
        ⟨some 25, .bin .leq (.t 23) (.t 24), none⟩]) (.keep [0, 1, 5, 6, 7, 25])) (
     .cond (.t 25) (
      .seq (
      .region [⟨some 26, .mov (.t 7), none⟩,
        ⟨some 5, .mov (.t 26), none⟩]) (.keep [0, 1, 5, 6])) (
      .seq (
      .region [⟨some 27, .mov (.t 7), none⟩,
        ⟨some 28, .bin .sub (.t 27) (.k (.int .i64 1)), none⟩,
        ⟨some 6, .mov (.t 28), none⟩]) (.keep [0, 1, 5, 6]))))))) (.keep [0, 1, 5, 6]))))) (
 .seq (
  .seq (
  .region [⟨some 29, .mov (.t 5), none⟩,
    ⟨some 4, .mov (.t 29), none⟩]) (.keep [4])) (
 .ret))))))) }
def c90 : CFunc := { nparams := 1, ntmps := 5, results := [(2, none)], body := (
 .seq (
  .seq (
  .region [⟨some 2, .mov (.k (.int .i64 0)), none⟩]) (.keep [0])) (
 .seq (
  .seq (
  .region [⟨some 3, .mov (.t 0), none⟩,
    ⟨some 4, .call false (.inr 84) [.t 3, .k (.int .i64 (-999999999)), .k (.int .i64 999999999)], none⟩,
    ⟨some 2, .mov (.t 4), none⟩]) (.keep [2])) (
 .ret))) }
def c91 : CFunc := { nparams := 1, ntmps := 86, results := [(2, none), (3, none)], body := (
 .seq (
  .seq (
  .region [⟨some 2, .mov (.k (.slice none 0 0)), none⟩,
    ⟨some 3, .mov (.k (.slice none 0 0)), none⟩]) (.keep [0])) (
 .seq (
  .seq (
  .region [⟨some 4, .onil 4, none⟩]) (.keep [0, 4])) (
 .seq (
  .seq (
  .region [⟨some 5, .onil 2, none⟩]) (.keep [0, 4, 5])) (
 .seq (
  .seq (
   .seq (
   .region [⟨some 13, .mov (.t 0), none⟩,
     ⟨some 14, .len (.t 13), none⟩,
     ⟨some 15, .mov (.k (.int .i64 0)), none⟩]) (.keep [4, 5, 13, 14, 15])) (
  .block 0 (
   .seq (.keep [4, 5, 13, 14, 15]) (.loop (.seq (
    .seq (
     .seq (
     .region [⟨some 16, .bin .lss (.t 15) (.t 14), none⟩]) (.keep [4, 5, 13, 14, 15, 16])) (
    .seq (
     .cond (.t 16) (
      .skip) (
      .exit 0)) (
    .seq (
     .block 1 (
      .seq (
       .seq (
       .region [⟨some 17, .iaddr 2 (.t 13) (.t 15), none⟩,
         ⟨some 18, .load (some 2) (.t 17), none⟩,
         ⟨some 7, .alloc (some 2) [.int .i64 0, .int .i64 0], none⟩,
         ⟨none, .store 2 (.t 7) (.t 18), none⟩]) (.keep [4, 5, 7, 13, 14, 15])) (
      .scope (
       .seq (
        .seq (
        .region [⟨some 19, .mov (.t 5), none⟩,
          ⟨some 20, .load (some 2) (.t 7), none⟩,
          ⟨some 21, .bsl false 2 [.t 20], none⟩,
          ⟨some 22, .append 2 16 (.t 19) (.t 21), none⟩,
          ⟨some 5, .mov (.t 22), none⟩]) (.keep [4, 5, 13, 14, 15])) (
       .seq (
        .label 0) (
       .block 2 (
        .seq (.keep [4, 5, 13, 14, 15]) (.loop (.seq (
         .seq (
          .seq (
           .seq (
           .region [⟨some 23, .mov (.t 5), none⟩,
             ⟨some 24, .len (.t 23), none⟩,
             ⟨some 25, .bin .geq (.t 24) (.k (.int .i64 4)), none⟩]) (.keep [4, 5, 13, 14, 15, 25])) (
          .cond (.t 25) (
           .skip) (
           .exit 2))) (
         .block 3 (
          .seq (
           .seq (
           .region [⟨some 26, .mov (.t 5), none⟩,
             ⟨some 27, .mov (.t 5), none⟩,
             ⟨some 28, .len (.t 27), none⟩,
             ⟨some 29, .bin .sub (.t 28) (.k (.int .i64 4)), none⟩,
             ⟨some 30, .slice 2 (.t 26) (some (.t 29)) none, none⟩,
             ⟨some 31, .arrp 4 (.t 30), none⟩,
             ⟨some 32, .load (some 8) (.t 31), none⟩,
             ⟨some 8, .alloc (some 8) [.int .i64 0, .int .i64 0, .int .i64 0, .int .i64 0, .int .i64 0, .int .i64 0, .int .i64 0, .int .i64 0], none⟩,
             ⟨none, .store 8 (.t 8) (.t 32), none⟩]) (.keep [4, 5, 8, 13, 14, 15])) (
          .seq (
           .seq (
           .seq (.holes 4) (
           .regionD [(⟨some 33, .iaddra 4 2 (.t 8) (.k (.int .i64 0)), none⟩, none),
             (⟨some 34, .load (some 2) (.t 33), none⟩, none),
             (⟨some 35, .iaddra 4 2 (.t 8) (.k (.int .i64 1)), none⟩, none),
             (⟨some 36, .load (some 2) (.t 35), none⟩, none),
             (⟨some 37, .iaddra 4 2 (.t 8) (.k (.int .i64 2)), none⟩, none),
             (⟨some 38, .load (some 2) (.t 37), none⟩, none),
             (⟨some 39, .iaddra 4 2 (.t 8) (.k (.int .i64 3)), none⟩, none),
             (⟨some 40, .load (some 2) (.t 39), none⟩, none),
             (⟨some 9, .alloc (some 2) [.int .i64 0, .int .i64 0], none⟩, some 4),
             (⟨some 10, .alloc (some 2) [.int .i64 0, .int .i64 0], none⟩, some 3),
             (⟨some 11, .alloc (some 2) [.int .i64 0, .int .i64 0], none⟩, some 2),
             (⟨some 12, .alloc (some 2) [.int .i64 0, .int .i64 0], none⟩, some 1),
             (⟨none, .store 2 (.t 9) (.t 34), none⟩, none),
             (⟨none, .store 2 (.t 10) (.t 36), none⟩, none),
             (⟨none, .store 2 (.t 11) (.t 38), none⟩, none),
             (⟨none, .store 2 (.t 12) (.t 40), none⟩, none)] [(0, 8), (1, 8), (2, 8), (3, 8), (4, 8), (5, 8), (6, 8), (7, 8), (0, 9), (1, 9), (2, 9), (3, 9), (4, 9), (5, 9), (6, 9), (7, 9), (8, 9), (0, 10), (1, 10), (2, 10), (3, 10), (4, 10), (5, 10), (6, 10), (7, 10), (8, 10), (9, 10), (0, 11), (1, 11), (2, 11), (3, 11), (4, 11), (5, 11), (6, 11), (7, 11), (8, 11), (9, 11), (10, 11), (2, 12), (3, 12), (4, 12), (5, 12), (6, 12), (7, 12), (4, 13), (5, 13), (6, 13), (7, 13), (6, 14), (7, 14)])) (.keep [4, 5, 9, 10, 11, 12, 13, 14, 15])) (
          .seq (
           .seq (
            .seq (
            .region [⟨some 41, .load (some 2) (.t 10), none⟩,
              ⟨some 42, .load (some 2) (.t 11), none⟩,
              ⟨some 43, .call false (.inr 103) [.t 41, .t 42], none⟩,
              ⟨some 44, .load (some 2) (.t 9), none⟩,
              ⟨some 45, .load (some 2) (.t 10), none⟩,
              ⟨some 46, .call false (.inr 103) [.t 44, .t 45], none⟩,
              ⟨some 47, .bin .gtr (.t 43) (.t 46), none⟩,
              ⟨some 48, .mov (.t 47), none⟩,
              ⟨some 49, .load (some 2) (.t 10), (some (48, false))⟩,
              ⟨some 50, .load (some 2) (.t 11), (some (48, false))⟩,
              ⟨some 51, .call false (.inr 103) [.t 49, .t 50], (some (48, false))⟩,
              ⟨some 52, .load (some 2) (.t 11), (some (48, false))⟩,
              ⟨some 53, .load (some 2) (.t 12), (some (48, false))⟩,
              ⟨some 54, .call false (.inr 103) [.t 52, .t 53], (some (48, false))⟩,
              ⟨some 55, .bin .gtr (.t 51) (.t 54), (some (48, false))⟩,
              ⟨some 56, .pick (.t 48) (.k (.bool true)) (.t 55), none⟩]) (.keep [4, 5, 10, 11, 12, 13, 14, 15, 56])) (
           .cond (.t 56) (
            .exit 2) (
            .skip))) (
          .seq (
           .seq (
           .region [⟨some 57, .mov (.t 4), none⟩,
             ⟨some 58, .faddr 0 (.t 10), none⟩,
             ⟨some 59, .load none (.t 58), none⟩,
             ⟨some 60, .faddr 0 (.t 11), none⟩,
             ⟨some 61, .load none (.t 60), none⟩,
             ⟨some 62, .faddr 1 (.t 10), none⟩,
             ⟨some 63, .load none (.t 62), none⟩,
             ⟨some 64, .faddr 1 (.t 11), none⟩,
             ⟨some 65, .load none (.t 64), none⟩,
             ⟨some 66, .min (.t 63) [.t 65], none⟩,
             ⟨some 67, .faddr 1 (.t 10), none⟩,
             ⟨some 68, .load none (.t 67), none⟩,
             ⟨some 69, .faddr 1 (.t 11), none⟩,
             ⟨some 70, .load none (.t 69), none⟩,
             ⟨some 71, .max (.t 68) [.t 70], none⟩,
             ⟨some 72, .build [.int .i64 0, .int .i64 0, .int .i64 0, .int .i64 0] [(0, 1, .t 59), (1, 1, .t 61), (2, 1, .t 66), (3, 1, .t 71)], none⟩,
             ⟨some 73, .bsl false 4 [.t 72], none⟩,
             ⟨some 74, .append 4 32 (.t 57) (.t 73), none⟩,
             ⟨some 4, .mov (.t 74), none⟩]) (.keep [4, 5, 12, 13, 14, 15])) (
          .seq (
          .region [⟨some 75, .mov (.t 5), none⟩,
            ⟨some 76, .mov (.t 5), none⟩,
            ⟨some 77, .len (.t 76), none⟩,
            ⟨some 78, .bin .sub (.t 77) (.k (.int .i64 3)), none⟩,
            ⟨some 79, .slice 2 (.t 75) none (some (.t 78)), none⟩,
            ⟨some 80, .load (some 2) (.t 12), none⟩,
            ⟨some 81, .bsl false 2 [.t 80], none⟩,
            ⟨some 82, .append 2 16 (.t 79) (.t 81), none⟩,
            ⟨some 5, .mov (.t 82), none⟩]) (.keep [4, 5, 13, 14, 15])))))))) (.seq (.keep [4, 5, 13, 14, 15]) .cut)))))))))) (
    .seq (
    .region [⟨some 83, .bin .add (.t 15) (.k (.int .i64 1)), none⟩,
      ⟨some 15, .mov (.t 83), none⟩]) (.keep [4, 5, 13, 14, 15]))))) (.seq (.keep [4, 5, 13, 14, 15]) .cut)))))) (
 .seq (
  .seq (
  .region [⟨some 84, .fz (.mov (.t 4)), none⟩,
    ⟨some 85, .fz (.mov (.t 5)), none⟩,
    ⟨some 2, .mov (.t 84), none⟩,
    ⟨some 3, .mov (.t 85), none⟩]) (.keep [2, 3])) (
 .ret)))))) }
def c92 : CFunc := { nparams := 2, ntmps := 23, results := [(4, none)], body := (
 .seq (
  .seq (
  .region [⟨some 4, .mov (.k (.slice none 0 0)), none⟩]) (.keep [0, 1])) (
 .seq (
  .seq (
  .region [⟨some 5, .onil 2, none⟩]) (.keep [0, 1, 5])) (
 .seq (
  .seq (
   .seq (
   .region [⟨some 8, .mov (.t 0), none⟩,
     ⟨some 9, .len (.t 8), none⟩,
     ⟨some 10, .mov (.k (.int .i64 0)), none⟩]) (.keep [1, 5, 8, 9, 10])) (
  .block 0 (
   .seq (.keep [1, 5, 8, 9, 10]) (.loop (.seq (
    .seq (
     .seq (
     .region [⟨some 11, .bin .lss (.t 10) (.t 9), none⟩]) (.keep [1, 5, 8, 9, 10, 11])) (
    .seq (
     .cond (.t 11) (
      .skip) (
      .exit 0)) (
    .seq (
     .block 1 (
      .seq (
       .seq (
       .region [⟨some 12, .iaddr 2 (.t 8) (.t 10), none⟩,
         ⟨some 13, .load (some 2) (.t 12), none⟩,
         ⟨some 7, .alloc (some 2) [.int .i64 0, .int .i64 0], none⟩,
         ⟨none, .store 2 (.t 7) (.t 13), none⟩]) (.keep [1, 5, 7, 8, 9, 10])) (
      .seq (
       .seq (
       .region [⟨some 14, .mov (.t 1), none⟩,
         ⟨some 15, .load (some 2) (.t 7), none⟩,
         ⟨some 16, .call true (.inl (.t 14)) [.t 15], none⟩]) (.keep [1, 5, 7, 8, 9, 10, 16])) (
      .cond (.t 16) (
       .seq (
       .region [⟨some 17, .mov (.t 5), none⟩,
         ⟨some 18, .load (some 2) (.t 7), none⟩,
         ⟨some 19, .bsl false 2 [.t 18], none⟩,
         ⟨some 20, .append 2 16 (.t 17) (.t 19), none⟩,
         ⟨some 5, .mov (.t 20), none⟩]) (.keep [1, 5, 8, 9, 10])) (
       .skip))))) (
    .seq (
    .region [⟨some 21, .bin .add (.t 10) (.k (.int .i64 1)), none⟩,
      ⟨some 10, .mov (.t 21), none⟩]) (.keep [1, 5, 8, 9, 10]))))) (.seq (.keep [1, 5, 8, 9, 10]) .cut)))))) (
 .seq (
  .seq (
  .region [⟨some 22, .fz (.mov (.t 5)), none⟩,
    ⟨some 4, .mov (.t 22), none⟩]) (.keep [4])) (
 .ret))))) }
def c93 : CFunc := { nparams := 2, ntmps := 9, results := [(3, none)], body := (
 .seq (
  .seq (
  .region [⟨some 2, .box false 2 (.t 0), none⟩,
    ⟨some 3, .mov (.k (.bool false)), none⟩]) (.keep [1, 2])) (
 .seq (
  .seq (
  .region [⟨some 4, .load none (.t 1), none⟩,
    ⟨some 5, .faddr 0 (.t 2), none⟩,
    ⟨some 6, .load none (.t 5), none⟩,
    ⟨some 7, .look .int (.bool false) false (.t 4) (.t 6), none⟩,
    ⟨some 8, .un .not (.t 7), none⟩,
    ⟨some 3, .mov (.t 8), none⟩]) (.keep [3])) (
 .ret))) }
def c94 : CFunc := { nparams := 3, ntmps := 66, results := [(6, none), (7, none)], body := (
 .seq (
  .seq (
  .region [⟨some 6, .mov (.k (.slice none 0 0)), none⟩,
    ⟨some 7, .mov (.k (.int .i64 0)), none⟩]) (.keep [0, 1, 2])) (
 .seq (
  .seq (
  .region [⟨some 10, .mov (.t 1), none⟩,
    ⟨some 11, .len (.t 10), none⟩,
    ⟨some 12, .mksl 2 (some 2) [.int .i64 0, .int .i64 0] 16 (.t 11) (.t 11), none⟩,
    ⟨some 8, .mov (.t 12), none⟩]) (.keep [0, 1, 2, 8])) (
 .seq (
  .seq (
  .region [⟨some 13, .mov (.t 8), none⟩,
    ⟨some 14, .mov (.t 1), none⟩,
    ⟨some 15, .copy 2 (.t 13) (.t 14), none⟩]) (.keep [0, 2, 8])) (
 .seq (
  .seq (
   .seq (
   .region [⟨some 16, .mov (.t 8), none⟩,
     ⟨some 17, .len (.t 16), none⟩,
     ⟨some 18, .mov (.k (.int .i64 0)), none⟩]) (.keep [0, 2, 8, 17, 18])) (
  .block 0 (
   .seq (.keep [0, 2, 8, 17, 18]) (.loop (.seq (
    .seq (
     .seq (
     .region [⟨some 19, .bin .lss (.t 18) (.t 17), none⟩]) (.keep [0, 2, 8, 17, 18, 19])) (
    .seq (
     .cond (.t 19) (
      .skip) (
      .exit 0)) (
    .seq (
     .block 1 (
      .seq (
       .seq (
       .region [⟨some 20, .mov (.t 18), none⟩,
         ⟨some 9, .mov (.t 20), none⟩]) (.keep [0, 2, 8, 9, 17, 18])) (
      .seq (
       .seq (
       .region [⟨some 21, .mov (.t 8), none⟩,
         ⟨some 22, .mov (.t 9), none⟩,
         ⟨some 23, .iaddr 2 (.t 21) (.t 22), none⟩,
         ⟨some 24, .faddr 0 (.t 23), none⟩,
         ⟨some 25, .load none (.t 24), none⟩,
         ⟨some 26, .mov (.t 2), none⟩,
         ⟨some 27, .bin .add (.t 25) (.t 26), none⟩,
         ⟨some 28, .iaddr 2 (.t 21) (.t 22), none⟩,
         ⟨some 29, .faddr 0 (.t 28), none⟩,
         ⟨none, .store 1 (.t 29) (.t 27), none⟩]) (.keep [0, 2, 8, 9, 17, 18])) (
      .seq (
       .seq (
       .region [⟨some 30, .mov (.t 8), none⟩,
         ⟨some 31, .mov (.t 9), none⟩,
         ⟨some 32, .iaddr 2 (.t 30) (.t 31), none⟩,
         ⟨some 33, .faddr 0 (.t 32), none⟩,
         ⟨some 34, .load none (.t 33), none⟩,
         ⟨some 35, .call false (.inr 76) [.t 34], none⟩,
         ⟨some 36, .bin .neq (.t 35) (.k (.int .i64 0)), none⟩]) (.keep [0, 2, 8, 17, 18, 36])) (
      .cond (.t 36) (
       .seq (
        .seq (
        .region [⟨some 6, .mov (.k (.slice none 0 0)), none⟩,
          ⟨some 7, .mov (.k (.int .i64 3)), none⟩]) (.keep [6, 7])) (
       .ret)) (
       .skip)))))) (
    .seq (
    .region [⟨some 37, .bin .add (.t 18) (.k (.int .i64 1)), none⟩,
      ⟨some 18, .mov (.t 37), none⟩]) (.keep [0, 2, 8, 17, 18]))))) (.keep [0, 2, 8, 17, 18])))))) (
 .seq (
  .seq (
   .seq (
   .region [⟨some 38, .mov (.t 0), none⟩,
     ⟨some 39, .len (.t 38), none⟩,
     ⟨some 40, .bin .gtr (.t 39) (.k (.int .i64 0)), none⟩,
     ⟨some 41, .mov (.t 40), none⟩,
     ⟨some 42, .mov (.t 8), (some (41, true))⟩,
     ⟨some 43, .len (.t 42), (some (41, true))⟩,
     ⟨some 44, .bin .gtr (.t 43) (.k (.int .i64 0)), (some (41, true))⟩,
     ⟨some 45, .pick (.t 41) (.t 44) (.k (.bool false)), none⟩,
     ⟨some 46, .mov (.t 45), none⟩,
     ⟨some 47, .mov (.t 8), (some (46, true))⟩,
     ⟨some 48, .iaddr 2 (.t 47) (.k (.int .i64 0)), (some (46, true))⟩,
     ⟨some 49, .faddr 0 (.t 48), (some (46, true))⟩,
     ⟨some 50, .load none (.t 49), (some (46, true))⟩,
     ⟨some 51, .mov (.t 0), (some (46, true))⟩,
     ⟨some 52, .mov (.t 0), (some (46, true))⟩,
     ⟨some 53, .len (.t 52), (some (46, true))⟩,
     ⟨some 54, .bin .sub (.t 53) (.k (.int .i64 1)), (some (46, true))⟩,
     ⟨some 55, .iaddr 2 (.t 51) (.t 54), (some (46, true))⟩,
     ⟨some 56, .faddr 0 (.t 55), (some (46, true))⟩,
     ⟨some 57, .load none (.t 56), (some (46, true))⟩,
     ⟨some 58, .bin .leq (.t 50) (.t 57), (some (46, true))⟩,
     ⟨some 59, .pick (.t 46) (.t 58) (.k (.bool false)), none⟩]) (.keep [0, 8, 59])) (
  .cond (.t 59) (
   .seq (
    .seq (
    .region [⟨some 6, .mov (.k (.slice none 0 0)), none⟩,
      ⟨some 7, .mov (.k (.int .i64 11)), none⟩]) (.keep [6, 7])) (
   .ret)) (
   .skip))) (
 .seq (
  .seq (
  .region [⟨some 60, .mov (.t 0), none⟩,
    ⟨some 61, .fz (.mov (.t 8)), none⟩,
    ⟨some 62, .bsl false 1 [.t 60, .t 61], none⟩,
    ⟨some 63, .call false (.inr 105) [.t 62], none⟩,
    ⟨some 64, .call false (.inr 104) [.t 63], none⟩,
    ⟨some 65, .call false (.inr 99) [.t 64], none⟩,
    ⟨some 6, .mov (.t 65), none⟩,
    ⟨some 7, .mov (.k (.int .i64 0)), none⟩]) (.keep [6, 7])) (
 .ret))))))) }
def c98 : CFunc := { nparams := 1, ntmps := 11, results := [(2, none)], body := (
 .seq (
  .seq (
  .region [⟨some 1, .box false 2 (.t 0), none⟩,
    ⟨some 2, .mov (.k (.int .i64 0)), none⟩]) (.keep [1])) (
 .seq (
  .seq (
  .region [⟨some 3, .faddr 0 (.t 1), none⟩,
    ⟨some 4, .load none (.t 3), none⟩,
    ⟨some 5, .call false (.inr 84) [.t 4, .k (.int .i64 1), .k (.int .i64 1152921504606846976)], none⟩,
    ⟨some 6, .faddr 1 (.t 1), none⟩,
    ⟨some 7, .load none (.t 6), none⟩,
    ⟨some 8, .call false (.inr 79) [.t 7], none⟩,
    ⟨some 9, .bsl false 1 [.t 5, .t 8], none⟩,
    ⟨some 10, .call false (.inr 73) [.t 9], none⟩,
    ⟨some 2, .mov (.t 10), none⟩]) (.keep [2])) (
 .ret))) }
def c99 : CFunc := { nparams := 1, ntmps := 55, results := [(2, none)], body := (
 .seq (
  .seq (
  .region [⟨some 2, .mov (.k (.slice none 0 0)), none⟩]) (.keep [0, 4, 7])) (
 .seq (
  .seq (
  .seq (
  .region [⟨some 3, .alloc none [.slice none 0 0], none⟩]) (.own 3 0 2)) (.keep [0, 3, 4, 7])) (
 .seq (
  .seq (
   .seq (
   .region [⟨some 6, .mov (.t 0), none⟩]) (.keep [3, 4, 6, 7])) (
  .block 0 (
   .rangeFunc (.t 6) [7] (
    .seq (
    .region [⟨some 4, .alloc (some 2) [.int .i64 0, .int .i64 0], none⟩,
      ⟨none, .store 2 (.t 4) (.t 7), none⟩]) (.keep [3, 4])) (
    .block 1 (
     .seq (
      .seq (
      .region [⟨some 8, .load none (.t 3), none⟩,
        ⟨some 9, .len (.t 8), none⟩,
        ⟨some 5, .mov (.t 9), none⟩]) (.keep [3, 4, 5])) (
     .block 2 (
      .seq (
       .seq (
       .region [⟨some 15, .mov (.t 5), none⟩,
         ⟨some 16, .bin .gtr (.t 15) (.k (.int .i64 0)), none⟩,
         ⟨some 17, .mov (.t 16), none⟩,
         ⟨some 18, .load none (.t 3), (some (17, true))⟩,
         ⟨some 19, .mov (.t 5), (some (17, true))⟩,
         ⟨some 20, .bin .sub (.t 19) (.k (.int .i64 1)), (some (17, true))⟩,
         ⟨some 21, .iaddr 2 (.t 18) (.t 20), (some (17, true))⟩,
         ⟨some 22, .faddr 1 (.t 21), (some (17, true))⟩,
         ⟨some 23, .load none (.t 22), (some (17, true))⟩,
         ⟨some 24, .faddr 1 (.t 4), (some (17, true))⟩,
         ⟨some 25, .load none (.t 24), (some (17, true))⟩,
         ⟨some 26, .bin .eql (.t 23) (.t 25), (some (17, true))⟩,
         ⟨some 27, .pick (.t 17) (.t 26) (.k (.bool false)), none⟩,
         ⟨some 14, .mov (.t 27), none⟩]) (.keep [3, 4, 5, 14])) (
      .cond (.t 14) (
       .skip) (
       .seq (
        .seq (
        .region [⟨some 29, .mov (.t 5), none⟩,
          ⟨some 30, .bin .gtr (.t 29) (.k (.int .i64 1)), none⟩,
          ⟨some 31, .mov (.t 30), none⟩,
          ⟨some 32, .load none (.t 3), (some (31, true))⟩,
          ⟨some 33, .mov (.t 5), (some (31, true))⟩,
          ⟨some 34, .bin .sub (.t 33) (.k (.int .i64 2)), (some (31, true))⟩,
          ⟨some 35, .iaddr 2 (.t 32) (.t 34), (some (31, true))⟩,
          ⟨some 36, .faddr 1 (.t 35), (some (31, true))⟩,
          ⟨some 37, .load none (.t 36), (some (31, true))⟩,
          ⟨some 38, .load none (.t 3), (some (31, true))⟩,
          ⟨some 39, .mov (.t 5), (some (31, true))⟩,
          ⟨some 40, .bin .sub (.t 39) (.k (.int .i64 1)), (some (31, true))⟩,
          ⟨some 41, .iaddr 2 (.t 38) (.t 40), (some (31, true))⟩,
          ⟨some 42, .faddr 1 (.t 41), (some (31, true))⟩,
          ⟨some 43, .load none (.t 42), (some (31, true))⟩,
          ⟨some 44, .faddr 1 (.t 4), (some (31, true))⟩,
          ⟨some 45, .load none (.t 44), (some (31, true))⟩,
          ⟨some 46, .call false (.inr 75) [.t 37, .t 43, .t 45], (some (31, true))⟩,
          ⟨some 47, .un .not (.t 46), (some (31, true))⟩,
          ⟨some 48, .pick (.t 31) (.t 47) (.k (.bool false)), none⟩,
          ⟨some 28, .mov (.t 48), none⟩]) (.keep [3, 4, 5, 28])) (
       .cond (.t 28) (
        .seq (
        .region [⟨some 49, .load none (.t 3), none⟩,
          ⟨some 50, .mov (.t 5), none⟩,
          ⟨some 51, .bin .sub (.t 50) (.k (.int .i64 1)), none⟩,
          ⟨some 52, .load (some 2) (.t 4), none⟩,
          ⟨some 53, .iaddr 2 (.t 49) (.t 51), none⟩,
          ⟨none, .store 2 (.t 53) (.t 52), none⟩]) (.keep [])) (
        .seq (
        .region [⟨some 10, .load none (.t 3), none⟩,
          ⟨some 11, .load (some 2) (.t 4), none⟩,
          ⟨some 12, .bsl false 2 [.t 11], none⟩,
          ⟨some 13, .append 2 16 (.t 10) (.t 12), none⟩,
          ⟨none, .store 1 (.t 3) (.t 13), none⟩]) (.keep [])))))))))))) (
 .seq (
  .seq (
  .region [⟨some 54, .load none (.t 3), none⟩,
    ⟨some 2, .mov (.t 54), none⟩]) (.keep [2])) (
 .ret))))) }
def c100 : CFunc := { nparams := 2, ntmps := 19, results := [], body := (
 .seq (
  .seq (
  .region [⟨some 5, .load none (.t 1), none⟩,
    ⟨some 6, .len (.t 5), none⟩,
    ⟨some 7, .mov (.k (.int .i64 0)), none⟩]) (.keep [0, 5, 6, 7])) (
 .block 0 (
  .seq (.keep [0, 5, 6, 7]) (.loop (.seq (
   .seq (
    .seq (
    .region [⟨some 8, .bin .lss (.t 7) (.t 6), none⟩]) (.keep [0, 5, 6, 7, 8])) (
   .seq (
    .cond (.t 8) (
     .skip) (
     .exit 0)) (
   .seq (
    .block 1 (
     .seq (
      .seq (
      .region [⟨some 9, .mov (.t 7), none⟩,
        ⟨some 10, .iaddr 1 (.t 5) (.t 7), none⟩,
        ⟨some 11, .load none (.t 10), none⟩,
        ⟨some 3, .mov (.t 9), none⟩,
        ⟨some 4, .mov (.t 11), none⟩]) (.keep [0, 3, 4, 5, 6, 7])) (
     .seq (
      .seq (
      .region [⟨some 12, .mov (.t 0), none⟩,
        ⟨some 13, .mov (.t 3), none⟩,
        ⟨some 14, .mov (.t 4), none⟩,
        ⟨some 15, .build [.int .i64 0, .int .i64 0] [(0, 1, .t 13), (1, 1, .t 14)], none⟩,
        ⟨some 16, .call true (.inl (.t 12)) [.t 15], none⟩,
        ⟨some 17, .un .not (.t 16), none⟩]) (.keep [0, 5, 6, 7, 17])) (
     .cond (.t 17) (
      .ret) (
      .skip))))) (
   .seq (
   .region [⟨some 18, .bin .add (.t 7) (.k (.int .i64 1)), none⟩,
     ⟨some 7, .mov (.t 18), none⟩]) (.keep [0, 5, 6, 7]))))) (.seq (.keep [0, 5, 6, 7]) .cut)))))) }
def c101 : CFunc := { nparams := 2, ntmps := 28, results := [], body := (
 .seq (
  .seq (
   .seq (
   .region [⟨some 4, .mov (.t 0), none⟩,
     ⟨some 5, .nilc (.t 4), none⟩,
     ⟨some 6, .faddr 1 (.t 5), none⟩,
     ⟨some 7, .load none (.t 6), none⟩,
     ⟨some 8, .mov (.t 7), none⟩,
     ⟨some 9, .mov (.t 1), (some (8, false))⟩,
     ⟨some 10, .mov (.t 0), (some (8, false))⟩,
     ⟨some 11, .nilc (.t 10), (some (8, false))⟩,
     ⟨some 12, .faddr 0 (.t 11), (some (8, false))⟩,
     ⟨some 13, .load none (.t 12), (some (8, false))⟩,
     ⟨some 14, .bin .sub (.k (.int .i64 1152921504606846976)) (.t 13), (some (8, false))⟩,
     ⟨some 15, .bin .gtr (.t 9) (.t 14), (some (8, false))⟩,
     ⟨some 16, .pick (.t 8) (.k (.bool true)) (.t 15), none⟩]) (.keep [0, 1, 16])) (
  .cond (.t 16) (
   .seq (
    .seq (
    .region [⟨some 17, .mov (.t 0), none⟩,
      ⟨some 18, .nilc (.t 17), none⟩,
      ⟨some 19, .faddr 1 (.t 18), none⟩,
      ⟨none, .store 1 (.t 19) (.k (.bool true)), none⟩]) (.keep [])) (
   .ret)) (
   .skip))) (
 .seq (
 .region [⟨some 20, .mov (.t 0), none⟩,
   ⟨some 21, .nilc (.t 20), none⟩,
   ⟨some 22, .faddr 0 (.t 21), none⟩,
   ⟨some 23, .load none (.t 22), none⟩,
   ⟨some 24, .mov (.t 1), none⟩,
   ⟨some 25, .bin .add (.t 23) (.t 24), none⟩,
   ⟨some 26, .nilc (.t 20), none⟩,
   ⟨some 27, .faddr 0 (.t 26), none⟩,
   ⟨none, .store 1 (.t 27) (.t 25), none⟩]) (.keep []))) }
def c102 : CFunc := { nparams := 2, ntmps := 14, results := [(4, none)], body := (
 .seq (
  .seq (
  .region [⟨some 4, .mov (.k (.int .i64 0)), none⟩]) (.keep [0, 1])) (
 .seq (
  .seq (
  .region [⟨some 5, .mov (.k (.int .i64 1)), none⟩]) (.keep [0, 1, 5])) (
 .seq (
  .seq (
   .seq (
   .region [⟨some 6, .mov (.t 1), none⟩,
     ⟨some 7, .mov (.k (.int .i64 0)), none⟩]) (.keep [0, 5, 6, 7])) (
  .block 0 (
   .seq (.keep [0, 5, 6, 7]) (.loop (.seq (
    .seq (
     .seq (
     .region [⟨some 8, .bin .lss (.t 7) (.t 6), none⟩]) (.keep [0, 5, 6, 7, 8])) (
    .seq (
     .cond (.t 8) (
      .skip) (
      .exit 0)) (
    .seq (
     .block 1 (
      .seq (
      .region [⟨some 9, .mov (.t 5), none⟩,
        ⟨some 10, .mov (.t 0), none⟩,
        ⟨some 11, .bin .mul (.t 9) (.t 10), none⟩,
        ⟨some 5, .mov (.t 11), none⟩]) (.keep [0, 5, 6, 7]))) (
    .seq (
    .region [⟨some 12, .bin .add (.t 7) (.k (.int .i64 1)), none⟩,
      ⟨some 7, .mov (.t 12), none⟩]) (.keep [0, 5, 6, 7]))))) (.keep [0, 5, 6, 7])))))) (
 .seq (
  .seq (
  .region [⟨some 13, .mov (.t 5), none⟩,
    ⟨some 4, .mov (.t 13), none⟩]) (.keep [4])) (
 .ret))))) }
def c103 : CFunc := { nparams := 2, ntmps := 16, results := [(4, none)], body := (
 .seq (
  .seq (
  .region [⟨some 2, .box false 2 (.t 0), none⟩,
    ⟨some 3, .box false 2 (.t 1), none⟩,
    ⟨some 4, .mov (.k (.int .i64 0)), none⟩]) (.keep [2, 3])) (
 .seq (
  .seq (
  .region [⟨some 5, .faddr 1 (.t 2), none⟩,
    ⟨some 6, .load none (.t 5), none⟩,
    ⟨some 7, .faddr 1 (.t 3), none⟩,
    ⟨some 8, .load none (.t 7), none⟩,
    ⟨some 9, .bin .sub (.t 6) (.t 8), none⟩,
    ⟨some 10, .faddr 1 (.t 3), none⟩,
    ⟨some 11, .load none (.t 10), none⟩,
    ⟨some 12, .faddr 1 (.t 2), none⟩,
    ⟨some 13, .load none (.t 12), none⟩,
    ⟨some 14, .bin .sub (.t 11) (.t 13), none⟩,
    ⟨some 15, .max (.t 9) [.t 14], none⟩,
    ⟨some 4, .mov (.t 15), none⟩]) (.keep [4])) (
 .ret))) }
def c104 : CFunc := { nparams := 1, ntmps := 4, results := [(2, none)], body := (
 .seq (
  .seq (
  .region [⟨some 1, .box false 1 (.t 0), none⟩,
    ⟨some 2, .mov (.k (.nilFunc)), none⟩]) (.keep [1])) (
 .seq (
  .seq (
  .region [⟨some 3, .mkfn 106 [.t 1], none⟩,
    ⟨some 2, .mov (.t 3), none⟩]) (.keep [2])) (
 .ret))) }
def c105 : CFunc := { nparams := 1, ntmps := 36, results := [(2, none)], body := (
 .seq (
  .seq (
  .region [⟨some 2, .mov (.k (.slice none 0 0)), none⟩]) (.keep [0])) (
 .seq (
  .seq (
  .region [⟨some 3, .mov (.k (.int .i64 0)), none⟩]) (.keep [0, 3])) (
 .seq (
  .seq (
   .seq (
   .region [⟨some 9, .mov (.t 0), none⟩,
     ⟨some 10, .len (.t 9), none⟩,
     ⟨some 11, .mov (.k (.int .i64 0)), none⟩]) (.keep [0, 3, 9, 10, 11])) (
  .block 0 (
   .seq (.keep [0, 3, 9, 10, 11]) (.loop (.seq (
    .seq (
     .seq (
     .region [⟨some 12, .bin .lss (.t 11) (.t 10), none⟩]) (.keep [0, 3, 9, 10, 11, 12])) (
    .seq (
     .cond (.t 12) (
      .skip) (
      .exit 0)) (
    .seq (
     .block 1 (
      .seq (
       .seq (
       .region [⟨some 13, .iaddr 1 (.t 9) (.t 11), none⟩,
         ⟨some 14, .load none (.t 13), none⟩,
         ⟨some 5, .mov (.t 14), none⟩]) (.keep [0, 3, 5, 9, 10, 11])) (
      .seq (
       .seq (
       .region [⟨some 15, .mov (.t 3), none⟩,
         ⟨some 16, .mov (.t 5), none⟩,
         ⟨some 17, .len (.t 16), none⟩,
         ⟨some 18, .bin .add (.t 15) (.t 17), none⟩,
         ⟨some 3, .mov (.t 18), none⟩]) (.keep [0, 3, 9, 10, 11])) (
      .seq (
       .seq (
       .region [⟨some 19, .mov (.t 3), none⟩,
         ⟨some 20, .bin .lss (.t 19) (.k (.int .i64 0)), none⟩]) (.keep [0, 3, 9, 10, 11, 20])) (
      .cond (.t 20) (
       .seq (
       .region [⟨some 21, .bad, none⟩,
         ⟨none, .bad, none⟩]) (.keep [0, 3, 9, 10, 11])) (
       .skip)))))) (
    .seq (
    .region [⟨some 22, .bin .add (.t 11) (.k (.int .i64 1)), none⟩,
      ⟨some 11, .mov (.t 22), none⟩]) (.keep [0, 3, 9, 10, 11]))))) (.keep [0, 3, 9, 10, 11])))))) (
 .seq (
  .seq (
  .region [⟨some 23, .mov (.t 3), none⟩,
    ⟨some 24, .call true (.inr 107) [.k (.slice none 0 0), .t 23], none⟩,
    ⟨some 6, .mov (.t 24), none⟩]) (.keep [0, 6])) (
 .seq (
  .seq (
   .seq (
   .region [⟨some 25, .mov (.t 0), none⟩,
     ⟨some 26, .len (.t 25), none⟩,
     ⟨some 27, .mov (.k (.int .i64 0)), none⟩]) (.keep [6, 25, 26, 27])) (
  .block 2 (
   .seq (.keep [6, 25, 26, 27]) (.loop (.seq (
    .seq (
     .seq (
     .region [⟨some 28, .bin .lss (.t 27) (.t 26), none⟩]) (.keep [6, 25, 26, 27, 28])) (
    .seq (
     .cond (.t 28) (
      .skip) (
      .exit 2)) (
    .seq (
     .block 3 (
      .seq (
       .seq (
       .region [⟨some 29, .iaddr 1 (.t 25) (.t 27), none⟩,
         ⟨some 30, .load none (.t 29), none⟩,
         ⟨some 8, .mov (.t 30), none⟩]) (.keep [6, 8, 25, 26, 27])) (
      .seq (
      .region [⟨some 31, .mov (.t 6), none⟩,
        ⟨some 32, .mov (.t 8), none⟩,
        ⟨some 33, .append 2 16 (.t 31) (.t 32), none⟩,
        ⟨some 6, .mov (.t 33), none⟩]) (.keep [6, 25, 26, 27])))) (
    .seq (
    .region [⟨some 34, .bin .add (.t 27) (.k (.int .i64 1)), none⟩,
      ⟨some 27, .mov (.t 34), none⟩]) (.keep [6, 25, 26, 27]))))) (.keep [6, 25, 26, 27])))))) (
 .seq (
  .seq (
  .region [⟨some 35, .fz (.mov (.t 6)), none⟩,
    ⟨some 2, .mov (.t 35), none⟩]) (.keep [2])) (
 .ret))))))) }
def c106 : CFunc := { nparams := 2, ntmps := 16, results := [], body := (
 .seq (
  .seq (
  .region [⟨some 5, .load none (.t 1), none⟩,
    ⟨some 6, .len (.t 5), none⟩,
    ⟨some 7, .mov (.k (.int .i64 0)), none⟩]) (.keep [0, 5, 6, 7])) (
 .block 0 (
  .seq (.keep [0, 5, 6, 7]) (.loop (.seq (
   .seq (
    .seq (
    .region [⟨some 8, .bin .lss (.t 7) (.t 6), none⟩]) (.keep [0, 5, 6, 7, 8])) (
   .seq (
    .cond (.t 8) (
     .skip) (
     .exit 0)) (
   .seq (
    .block 1 (
     .seq (
      .seq (
      .region [⟨some 9, .iaddr 2 (.t 5) (.t 7), none⟩,
        ⟨some 10, .load (some 2) (.t 9), none⟩,
        ⟨some 4, .alloc (some 2) [.int .i64 0, .int .i64 0], none⟩,
        ⟨none, .store 2 (.t 4) (.t 10), none⟩]) (.keep [0, 4, 5, 6, 7])) (
     .seq (
      .seq (
      .region [⟨some 11, .mov (.t 0), none⟩,
        ⟨some 12, .load (some 2) (.t 4), none⟩,
        ⟨some 13, .call true (.inl (.t 11)) [.t 12], none⟩,
        ⟨some 14, .un .not (.t 13), none⟩]) (.keep [0, 5, 6, 7, 14])) (
     .cond (.t 14) (
      .ret) (
      .skip))))) (
   .seq (
   .region [⟨some 15, .bin .add (.t 7) (.k (.int .i64 1)), none⟩,
     ⟨some 7, .mov (.t 15), none⟩]) (.keep [0, 5, 6, 7]))))) (.seq (.keep [0, 5, 6, 7]) .cut)))))) }
def c107 : CFunc := { nparams := 2, ntmps := 27, results := [(4, none)], hands := true, body := (
 .seq (
  .seq (
  .region [⟨some 4, .onil 2, none⟩]) (.keep [0, 1])) (
 .seq (
  .seq (
   .seq (
   .region [⟨some 5, .mov (.t 1), none⟩,
     ⟨some 6, .bin .lss (.t 5) (.k (.int .i64 0)), none⟩]) (.keep [0, 1, 6])) (
  .cond (.t 6) (
   .seq (
   .region [⟨some 7, .bad, none⟩,
     ⟨none, .bad, none⟩]) (.keep [0, 1])) (
   .skip))) (
 .seq (
  .seq (
   .seq (
   .region [⟨some 8, .mov (.t 1), none⟩,
     ⟨some 9, .mov (.t 0), none⟩,
     ⟨some 10, .capn (.t 9), none⟩,
     ⟨some 11, .mov (.t 0), none⟩,
     ⟨some 12, .len (.t 11), none⟩,
     ⟨some 13, .bin .sub (.t 10) (.t 12), none⟩,
     ⟨some 14, .bin .sub (.t 8) (.t 13), none⟩,
     ⟨some 1, .mov (.t 14), none⟩]) (.keep [0, 1])) (
  .seq (
   .seq (
   .region [⟨some 15, .mov (.t 1), none⟩,
     ⟨some 16, .bin .gtr (.t 15) (.k (.int .i64 0)), none⟩]) (.keep [0, 1, 16])) (
  .cond (.t 16) (
   .seq (
   .region [⟨some 17, .mov (.t 0), none⟩,
     ⟨some 18, .mov (.t 0), none⟩,
     ⟨some 19, .capn (.t 18), none⟩,
     ⟨some 20, .slice 2 (.t 17) none (some (.t 19)), none⟩,
     ⟨some 21, .mov (.t 1), none⟩,
     ⟨some 22, .appz 2 (some 2) [.int .i64 0, .int .i64 0] 16 (.t 20) (.t 21), none⟩,
     ⟨some 23, .mov (.t 0), none⟩,
     ⟨some 24, .len (.t 23), none⟩,
     ⟨some 25, .slice 2 (.t 22) none (some (.t 24)), none⟩,
     ⟨some 0, .mov (.t 25), none⟩]) (.keep [0])) (
   .skip)))) (
 .seq (
  .seq (
  .region [⟨some 26, .mov (.t 0), none⟩,
    ⟨some 4, .mov (.t 26), none⟩]) (.keep [4])) (
 .ret))))) }
def F : Prog
 | 6 => some c6
 | 13 => some c13
 | 15 => some c15
 | 16 => some c16
 | 17 => some c17
 | 19 => some c19
 | 20 => some c20
 | 21 => some c21
 | 22 => some c22
 | 24 => some c24
 | 25 => some c25
 | 27 => some c27
 | 28 => some c28
 | 29 => some c29
 | 31 => some c31
 | 32 => some c32
 | 33 => some c33
 | 40 => some c40
 | 41 => some c41
 | 42 => some c42
 | 43 => some c43
 | 44 => some c44
 | 45 => some c45
 | 46 => some c46
 | 47 => some c47
 | 48 => some c48
 | 49 => some c49
 | 50 => some c50
 | 56 => some c56
 | 59 => some c59
 | 66 => some c66
 | 67 => some c67
 | 68 => some c68
 | 70 => some c70
 | 71 => some c71
 | 72 => some c72
 | 73 => some c73
 | 74 => some c74
 | 75 => some c75
 | 76 => some c76
 | 77 => some c77
 | 78 => some c78
 | 79 => some c79
 | 80 => some c80
 | 81 => some c81
 | 82 => some c82
 | 83 => some c83
 | 84 => some c84
 | 85 => some c85
 | 90 => some c90
 | 91 => some c91
 | 92 => some c92
 | 93 => some c93
 | 94 => some c94
 | 98 => some c98
 | 99 => some c99
 | 100 => some c100
 | 101 => some c101
 | 102 => some c102
 | 103 => some c103
 | 104 => some c104
 | 105 => some c105
 | 106 => some c106
 | 107 => some c107
 | _ => none
end Go.Nac.L1

