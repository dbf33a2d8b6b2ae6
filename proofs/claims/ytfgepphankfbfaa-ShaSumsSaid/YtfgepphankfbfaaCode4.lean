/- code.Writer.Hash: 32 bytes behind what is written. -/
import Derived.Test.YtfgepphankfbfaaCode3
import Derived.Test.YtfgepphankfbfaaCode1
set_option maxRecDepth 100000
namespace Go.Proofs.Ytfgepphankfbfaa
open Go Go.RowKit Go.Gv

end Go.Proofs.Ytfgepphankfbfaa
