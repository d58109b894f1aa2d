import Derived.Test.YtdlngmbgalmdeaaC32
import Derived.Test.YtdlngmbgalmdeaaKA
import Derived.Test.YtdlngmbgalmdeaaC22
import Derived.Test.YtdlngmbgalmdeaaP14
set_option linter.unusedSimpArgs false
set_option linter.unusedVariables false
set_option linter.unnecessarySimpa false
set_option maxRecDepth 10000
namespace Go.Nac.L1
attribute [local congr] b1_congr b2_congr Wp_congr wpOps_congr thenK_congr blockK_congr gK_congr cK_congr
section
variable {X : FuncId → List PV → PV → Prop}
end
end Go.Nac.L1
set_option linter.unusedSimpArgs false
set_option linter.unusedVariables false
set_option linter.unnecessarySimpa false
set_option maxRecDepth 10000
namespace Go.Nac.L1
attribute [local congr] b1_congr b2_congr Wp_congr wpOps_congr thenK_congr blockK_congr gK_congr cK_congr
section
variable {X : FuncId → List PV → PV → Prop}
def ValCut (t3 : PV) (s : List Pnt) (x : Cyc) (j : Int) : Prop := ∃ (A B : List Pnt) (u1 u2 : PV), A.length + B.length = s.length ∧ (∀ M', sliceV M' 2 t3 none (some (.I j)) = some u1) ∧ (∀ M', sliceV M' 2 t3 (some (.I j)) none = some u2) ∧ (∀ M', held M' u1 = some (A.map encPnt)) ∧ (∀ M', held M' u2 = some (B.map encPnt)) ∧ refs u1 = [] ∧ refs u2 = [] ∧ (insP s (pntOf x)).map encPnt = A.map encPnt ++ [.agg [.I x.lo, .I x.hi]] ++ B.map encPnt
end
end Go.Nac.L1
set_option linter.unusedSimpArgs false
set_option linter.unusedVariables false
set_option linter.unnecessarySimpa false
set_option maxRecDepth 10000
namespace Go.Nac.L1
attribute [local congr] b1_congr b2_congr Wp_congr wpOps_congr thenK_congr blockK_congr gK_congr cK_congr
section
variable {X : FuncId → List PV → PV → Prop}
end
end Go.Nac.L1

