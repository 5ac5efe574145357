/- memory: bytes.Equal, Same. -/
import Derived.Test.YtfploifafpifnaaMM
import Derived.Test.YtfploifafpifnaaR2
namespace Go.Proofs.Ytfploifafpifnaa
set_option linter.unusedVariables false
set_option linter.unusedSimpArgs false
open Go.RowKit

section
variable (p q : Option Addr) (w : World)
end

end Go.Proofs.Ytfploifafpifnaa
