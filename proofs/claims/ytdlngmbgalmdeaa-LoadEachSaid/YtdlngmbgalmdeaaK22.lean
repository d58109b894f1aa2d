import Derived.Test.YtdlngmbgalmdeaaK21
set_option linter.unusedVariables false
namespace Go.Nac
end Go.Nac

