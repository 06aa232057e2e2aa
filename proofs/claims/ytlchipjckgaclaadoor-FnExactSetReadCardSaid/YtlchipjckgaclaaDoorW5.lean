/- bitsOf: the bits of a set. -/
import Derived.Test.YtlchipjckgaclaaDoorBits
import Derived.Test.YtlchipjckgaclaaDoorW1h
import Derived.Test.YtlchipjckgaclaaDoorCs
namespace Go.Proofs.YtlchipjckgaclaaDoor
set_option linter.unusedSimpArgs false
set_option linter.unusedVariables false
set_option maxRecDepth 100000
open Go.RowKit

end Go.Proofs.YtlchipjckgaclaaDoor
