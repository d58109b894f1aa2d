/- The plain code is the program's own. -/
import Derived.Test.YtdlngmbgalmdeaaG1
import Derived.Test.YtdlngmbgalmdeaaK13
import Derived.Test.YtdlngmbgalmdeaaChecked
import Derived.KernelRfl
set_option maxRecDepth 100000
namespace Go.Proofs.Ytdlngmbgalmdeaa
open Go.Nac
theorem ok6 : okFn Try.prog 6 L1.c6 = true := by kernel_rfl
theorem ok13 : okFn Try.prog 13 L1.c13 = true := by kernel_rfl
theorem ok15 : okFn Try.prog 15 L1.c15 = true := by kernel_rfl
theorem ok16 : okFn Try.prog 16 L1.c16 = true := by kernel_rfl
theorem ok17 : okFn Try.prog 17 L1.c17 = true := by kernel_rfl
theorem ok19 : okFn Try.prog 19 L1.c19 = true := by kernel_rfl
theorem ok20 : okFn Try.prog 20 L1.c20 = true := by kernel_rfl
theorem ok21 : okFn Try.prog 21 L1.c21 = true := by kernel_rfl
theorem ok22 : okFn Try.prog 22 L1.c22 = true := by kernel_rfl
theorem ok24 : okFn Try.prog 24 L1.c24 = true := by kernel_rfl
theorem ok25 : okFn Try.prog 25 L1.c25 = true := by kernel_rfl
theorem ok27 : okFn Try.prog 27 L1.c27 = true := by kernel_rfl
theorem ok28 : okFn Try.prog 28 L1.c28 = true := by kernel_rfl
theorem ok29 : okFn Try.prog 29 L1.c29 = true := by kernel_rfl
theorem ok31 : okFn Try.prog 31 L1.c31 = true := by kernel_rfl
theorem ok32 : okFn Try.prog 32 L1.c32 = true := by kernel_rfl
theorem ok33 : okFn Try.prog 33 L1.c33 = true := by kernel_rfl
theorem ok40 : okFn Try.prog 40 L1.c40 = true := by kernel_rfl
theorem ok41 : okFn Try.prog 41 L1.c41 = true := by kernel_rfl
theorem ok42 : okFn Try.prog 42 L1.c42 = true := by kernel_rfl
theorem ok43 : okFn Try.prog 43 L1.c43 = true := by kernel_rfl
theorem ok44 : okFn Try.prog 44 L1.c44 = true := by kernel_rfl
theorem ok45 : okFn Try.prog 45 L1.c45 = true := by kernel_rfl
theorem ok46 : okFn Try.prog 46 L1.c46 = true := by kernel_rfl
theorem ok47 : okFn Try.prog 47 L1.c47 = true := by kernel_rfl
theorem ok48 : okFn Try.prog 48 L1.c48 = true := by kernel_rfl
theorem ok49 : okFn Try.prog 49 L1.c49 = true := by kernel_rfl
theorem ok50 : okFn Try.prog 50 L1.c50 = true := by kernel_rfl
theorem ok56 : okFn Try.prog 56 L1.c56 = true := by kernel_rfl
theorem ok59 : okFn Try.prog 59 L1.c59 = true := by kernel_rfl
theorem ok66 : okFn Try.prog 66 L1.c66 = true := by kernel_rfl
theorem ok67 : okFn Try.prog 67 L1.c67 = true := by kernel_rfl
theorem ok68 : okFn Try.prog 68 L1.c68 = true := by kernel_rfl
theorem ok70 : okFn Try.prog 70 L1.c70 = true := by kernel_rfl
theorem ok71 : okFn Try.prog 71 L1.c71 = true := by kernel_rfl
theorem ok72 : okFn Try.prog 72 L1.c72 = true := by kernel_rfl
theorem ok73 : okFn Try.prog 73 L1.c73 = true := by kernel_rfl
theorem ok74 : okFn Try.prog 74 L1.c74 = true := by kernel_rfl
theorem ok75 : okFn Try.prog 75 L1.c75 = true := by kernel_rfl
theorem ok76 : okFn Try.prog 76 L1.c76 = true := by kernel_rfl
theorem ok77 : okFn Try.prog 77 L1.c77 = true := by kernel_rfl
theorem ok78 : okFn Try.prog 78 L1.c78 = true := by kernel_rfl
theorem ok79 : okFn Try.prog 79 L1.c79 = true := by kernel_rfl
theorem ok80 : okFn Try.prog 80 L1.c80 = true := by kernel_rfl
theorem ok81 : okFn Try.prog 81 L1.c81 = true := by kernel_rfl
theorem ok82 : okFn Try.prog 82 L1.c82 = true := by kernel_rfl
theorem ok83 : okFn Try.prog 83 L1.c83 = true := by kernel_rfl
theorem ok84 : okFn Try.prog 84 L1.c84 = true := by kernel_rfl
theorem ok85 : okFn Try.prog 85 L1.c85 = true := by kernel_rfl
theorem ok90 : okFn Try.prog 90 L1.c90 = true := by kernel_rfl
theorem ok91 : okFn Try.prog 91 L1.c91 = true := by kernel_rfl
theorem ok92 : okFn Try.prog 92 L1.c92 = true := by kernel_rfl
theorem ok93 : okFn Try.prog 93 L1.c93 = true := by kernel_rfl
theorem ok94 : okFn Try.prog 94 L1.c94 = true := by kernel_rfl
theorem ok98 : okFn Try.prog 98 L1.c98 = true := by kernel_rfl
theorem ok99 : okFn Try.prog 99 L1.c99 = true := by kernel_rfl
theorem ok100 : okFn Try.prog 100 L1.c100 = true := by kernel_rfl
theorem ok101 : okFn Try.prog 101 L1.c101 = true := by kernel_rfl
theorem ok102 : okFn Try.prog 102 L1.c102 = true := by kernel_rfl
theorem ok103 : okFn Try.prog 103 L1.c103 = true := by kernel_rfl
theorem ok104 : okFn Try.prog 104 L1.c104 = true := by kernel_rfl
theorem ok105 : okFn Try.prog 105 L1.c105 = true := by kernel_rfl
theorem ok106 : okFn Try.prog 106 L1.c106 = true := by kernel_rfl
theorem ok107 : okFn Try.prog 107 L1.c107 = true := by kernel_rfl
set_option linter.unusedVariables false
theorem okF : ∀ f cf, L1.F f = some cf → okFn Try.prog f cf = true := by
  intro f cf h
  unfold L1.F at h
  split at h
  · cases h; exact ok6
  · cases h; exact ok13
  · cases h; exact ok15
  · cases h; exact ok16
  · cases h; exact ok17
  · cases h; exact ok19
  · cases h; exact ok20
  · cases h; exact ok21
  · cases h; exact ok22
  · cases h; exact ok24
  · cases h; exact ok25
  · cases h; exact ok27
  · cases h; exact ok28
  · cases h; exact ok29
  · cases h; exact ok31
  · cases h; exact ok32
  · cases h; exact ok33
  · cases h; exact ok40
  · cases h; exact ok41
  · cases h; exact ok42
  · cases h; exact ok43
  · cases h; exact ok44
  · cases h; exact ok45
  · cases h; exact ok46
  · cases h; exact ok47
  · cases h; exact ok48
  · cases h; exact ok49
  · cases h; exact ok50
  · cases h; exact ok56
  · cases h; exact ok59
  · cases h; exact ok66
  · cases h; exact ok67
  · cases h; exact ok68
  · cases h; exact ok70
  · cases h; exact ok71
  · cases h; exact ok72
  · cases h; exact ok73
  · cases h; exact ok74
  · cases h; exact ok75
  · cases h; exact ok76
  · cases h; exact ok77
  · cases h; exact ok78
  · cases h; exact ok79
  · cases h; exact ok80
  · cases h; exact ok81
  · cases h; exact ok82
  · cases h; exact ok83
  · cases h; exact ok84
  · cases h; exact ok85
  · cases h; exact ok90
  · cases h; exact ok91
  · cases h; exact ok92
  · cases h; exact ok93
  · cases h; exact ok94
  · cases h; exact ok98
  · cases h; exact ok99
  · cases h; exact ok100
  · cases h; exact ok101
  · cases h; exact ok102
  · cases h; exact ok103
  · cases h; exact ok104
  · cases h; exact ok105
  · cases h; exact ok106
  · cases h; exact ok107
  · cases h
end Go.Proofs.Ytdlngmbgalmdeaa

