/- The plain code is the program's own. -/
import Derived.Test.YtbmicihfhfcpkaaG2
import Derived.Test.YtbmicihfhfcpkaaK13
import Derived.Test.YtbmicihfhfcpkaaChecked
import Derived.KernelRfl
set_option maxRecDepth 100000
namespace Go.Proofs.Ytbmicihfhfcpkaa
open Go.Nac
theorem ok3 : okFn Try.prog 3 L2.c3 = true := by kernel_rfl
theorem ok5 : okFn Try.prog 5 L2.c5 = true := by kernel_rfl
theorem ok6 : okFn Try.prog 6 L2.c6 = true := by kernel_rfl
theorem ok7 : okFn Try.prog 7 L2.c7 = true := by kernel_rfl
theorem ok8 : okFn Try.prog 8 L2.c8 = true := by kernel_rfl
theorem ok9 : okFn Try.prog 9 L2.c9 = true := by kernel_rfl
theorem ok10 : okFn Try.prog 10 L2.c10 = true := by kernel_rfl
theorem ok14 : okFn Try.prog 14 L2.c14 = true := by kernel_rfl
theorem ok16 : okFn Try.prog 16 L2.c16 = true := by kernel_rfl
theorem ok19 : okFn Try.prog 19 L2.c19 = true := by kernel_rfl
theorem ok20 : okFn Try.prog 20 L2.c20 = true := by kernel_rfl
theorem ok24 : okFn Try.prog 24 L2.c24 = true := by kernel_rfl
theorem ok27 : okFn Try.prog 27 L2.c27 = true := by kernel_rfl
theorem ok28 : okFn Try.prog 28 L2.c28 = true := by kernel_rfl
theorem ok29 : okFn Try.prog 29 L2.c29 = true := by kernel_rfl
theorem ok30 : okFn Try.prog 30 L2.c30 = true := by kernel_rfl
theorem ok31 : okFn Try.prog 31 L2.c31 = true := by kernel_rfl
theorem ok32 : okFn Try.prog 32 L2.c32 = true := by kernel_rfl
theorem ok33 : okFn Try.prog 33 L2.c33 = true := by kernel_rfl
theorem ok34 : okFn Try.prog 34 L2.c34 = true := by kernel_rfl
theorem ok35 : okFn Try.prog 35 L2.c35 = true := by kernel_rfl
theorem ok36 : okFn Try.prog 36 L2.c36 = true := by kernel_rfl
theorem ok37 : okFn Try.prog 37 L2.c37 = true := by kernel_rfl
theorem ok38 : okFn Try.prog 38 L2.c38 = true := by kernel_rfl
theorem ok39 : okFn Try.prog 39 L2.c39 = true := by kernel_rfl
theorem ok40 : okFn Try.prog 40 L2.c40 = true := by kernel_rfl
theorem ok41 : okFn Try.prog 41 L2.c41 = true := by kernel_rfl
theorem ok42 : okFn Try.prog 42 L2.c42 = true := by kernel_rfl
theorem ok43 : okFn Try.prog 43 L2.c43 = true := by kernel_rfl
theorem ok44 : okFn Try.prog 44 L2.c44 = true := by kernel_rfl
theorem ok45 : okFn Try.prog 45 L2.c45 = true := by kernel_rfl
theorem ok46 : okFn Try.prog 46 L2.c46 = true := by kernel_rfl
theorem ok47 : okFn Try.prog 47 L2.c47 = true := by kernel_rfl
theorem ok48 : okFn Try.prog 48 L2.c48 = true := by kernel_rfl
theorem ok49 : okFn Try.prog 49 L2.c49 = true := by kernel_rfl
theorem ok50 : okFn Try.prog 50 L2.c50 = true := by kernel_rfl
theorem ok51 : okFn Try.prog 51 L2.c51 = true := by kernel_rfl
theorem ok52 : okFn Try.prog 52 L2.c52 = true := by kernel_rfl
theorem ok55 : okFn Try.prog 55 L2.c55 = true := by kernel_rfl
theorem ok56 : okFn Try.prog 56 L2.c56 = true := by kernel_rfl
theorem ok57 : okFn Try.prog 57 L2.c57 = true := by kernel_rfl
theorem ok60 : okFn Try.prog 60 L2.c60 = true := by kernel_rfl
theorem ok61 : okFn Try.prog 61 L2.c61 = true := by kernel_rfl
theorem ok62 : okFn Try.prog 62 L2.c62 = true := by kernel_rfl
theorem ok63 : okFn Try.prog 63 L2.c63 = true := by kernel_rfl
theorem ok64 : okFn Try.prog 64 L2.c64 = true := by kernel_rfl
theorem ok65 : okFn Try.prog 65 L2.c65 = true := by kernel_rfl
theorem ok66 : okFn Try.prog 66 L2.c66 = true := by kernel_rfl
theorem ok67 : okFn Try.prog 67 L2.c67 = true := by kernel_rfl
theorem ok68 : okFn Try.prog 68 L2.c68 = true := by kernel_rfl
theorem ok69 : okFn Try.prog 69 L2.c69 = true := by kernel_rfl
theorem ok70 : okFn Try.prog 70 L2.c70 = true := by kernel_rfl
theorem ok71 : okFn Try.prog 71 L2.c71 = true := by kernel_rfl
theorem ok72 : okFn Try.prog 72 L2.c72 = true := by kernel_rfl
theorem ok73 : okFn Try.prog 73 L2.c73 = true := by kernel_rfl
theorem ok74 : okFn Try.prog 74 L2.c74 = true := by kernel_rfl
theorem ok75 : okFn Try.prog 75 L2.c75 = true := by kernel_rfl
theorem ok76 : okFn Try.prog 76 L2.c76 = true := by kernel_rfl
theorem ok77 : okFn Try.prog 77 L2.c77 = true := by kernel_rfl
theorem ok78 : okFn Try.prog 78 L2.c78 = true := by kernel_rfl
theorem ok79 : okFn Try.prog 79 L2.c79 = true := by kernel_rfl
theorem ok80 : okFn Try.prog 80 L2.c80 = true := by kernel_rfl
theorem ok81 : okFn Try.prog 81 L2.c81 = true := by kernel_rfl
theorem ok82 : okFn Try.prog 82 L2.c82 = true := by kernel_rfl
theorem ok86 : okFn Try.prog 86 L2.c86 = true := by kernel_rfl
theorem ok87 : okFn Try.prog 87 L2.c87 = true := by kernel_rfl
theorem ok88 : okFn Try.prog 88 L2.c88 = true := by kernel_rfl
theorem ok89 : okFn Try.prog 89 L2.c89 = true := by kernel_rfl
theorem ok90 : okFn Try.prog 90 L2.c90 = true := by kernel_rfl
theorem ok91 : okFn Try.prog 91 L2.c91 = true := by kernel_rfl
theorem ok92 : okFn Try.prog 92 L2.c92 = true := by kernel_rfl
theorem ok93 : okFn Try.prog 93 L2.c93 = true := by kernel_rfl
theorem ok94 : okFn Try.prog 94 L2.c94 = true := by kernel_rfl
theorem ok95 : okFn Try.prog 95 L2.c95 = true := by kernel_rfl
theorem ok96 : okFn Try.prog 96 L2.c96 = true := by kernel_rfl
theorem ok97 : okFn Try.prog 97 L2.c97 = true := by kernel_rfl
theorem ok98 : okFn Try.prog 98 L2.c98 = true := by kernel_rfl
theorem ok99 : okFn Try.prog 99 L2.c99 = true := by kernel_rfl
theorem ok111 : okFn Try.prog 111 L2.c111 = true := by kernel_rfl
theorem ok112 : okFn Try.prog 112 L2.c112 = true := by kernel_rfl
set_option linter.unusedVariables false
theorem okF : ∀ f cf, L2.F f = some cf → okFn Try.prog f cf = true := by
  intro f cf h
  unfold L2.F at h
  split at h
  · cases h; exact ok3
  · cases h; exact ok5
  · cases h; exact ok6
  · cases h; exact ok7
  · cases h; exact ok8
  · cases h; exact ok9
  · cases h; exact ok10
  · cases h; exact ok14
  · cases h; exact ok16
  · cases h; exact ok19
  · cases h; exact ok20
  · cases h; exact ok24
  · cases h; exact ok27
  · cases h; exact ok28
  · cases h; exact ok29
  · cases h; exact ok30
  · cases h; exact ok31
  · cases h; exact ok32
  · cases h; exact ok33
  · cases h; exact ok34
  · cases h; exact ok35
  · cases h; exact ok36
  · cases h; exact ok37
  · cases h; exact ok38
  · cases h; exact ok39
  · cases h; exact ok40
  · cases h; exact ok41
  · cases h; exact ok42
  · cases h; exact ok43
  · cases h; exact ok44
  · cases h; exact ok45
  · cases h; exact ok46
  · cases h; exact ok47
  · cases h; exact ok48
  · cases h; exact ok49
  · cases h; exact ok50
  · cases h; exact ok51
  · cases h; exact ok52
  · cases h; exact ok55
  · cases h; exact ok56
  · cases h; exact ok57
  · cases h; exact ok60
  · cases h; exact ok61
  · cases h; exact ok62
  · cases h; exact ok63
  · cases h; exact ok64
  · cases h; exact ok65
  · cases h; exact ok66
  · cases h; exact ok67
  · cases h; exact ok68
  · cases h; exact ok69
  · cases h; exact ok70
  · cases h; exact ok71
  · cases h; exact ok72
  · cases h; exact ok73
  · cases h; exact ok74
  · cases h; exact ok75
  · cases h; exact ok76
  · cases h; exact ok77
  · cases h; exact ok78
  · cases h; exact ok79
  · cases h; exact ok80
  · cases h; exact ok81
  · cases h; exact ok82
  · cases h; exact ok86
  · cases h; exact ok87
  · cases h; exact ok88
  · cases h; exact ok89
  · cases h; exact ok90
  · cases h; exact ok91
  · cases h; exact ok92
  · cases h; exact ok93
  · cases h; exact ok94
  · cases h; exact ok95
  · cases h; exact ok96
  · cases h; exact ok97
  · cases h; exact ok98
  · cases h; exact ok99
  · cases h; exact ok111
  · cases h; exact ok112
  · cases h
end Go.Proofs.Ytbmicihfhfcpkaa

