
/-
  Package field, function by function: what each makes of words and numbers.
-/
import Derived.Test.YtlhhahafmmfhhaaProg
import Derived.Test.YtlhhahafmmfhhaaChecked
import Derived.Test.YtlhhahafmmfhhaaBits
import Derived.Deep.QuietTactic
import Derived.BigQuiet
namespace Go.Proofs.Ytlhhahafmmfhhaa
open Go Go.RowKit
set_option linter.unusedVariables false
set_option linter.unusedSimpArgs false



end Go.Proofs.Ytlhhahafmmfhhaa
