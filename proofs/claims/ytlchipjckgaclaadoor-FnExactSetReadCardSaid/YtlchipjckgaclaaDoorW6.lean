/- spans: the set of bits. -/
import Derived.Test.YtlchipjckgaclaaDoorW5
import Derived.Test.YtlchipjckgaclaaDoorW3
namespace Go.Proofs.YtlchipjckgaclaaDoor
set_option linter.unusedSimpArgs false
set_option linter.unusedVariables false
set_option maxRecDepth 100000
open Go.RowKit

end Go.Proofs.YtlchipjckgaclaaDoor
