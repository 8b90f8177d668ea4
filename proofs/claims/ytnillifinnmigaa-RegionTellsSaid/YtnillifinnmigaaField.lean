
/-
  Package field, function by function: what each makes of words and numbers.
-/
import Derived.Test.YtnillifinnmigaaProg
import Derived.Test.YtnillifinnmigaaChecked
import Derived.Test.YtnillifinnmigaaBits
import Derived.Deep.QuietTactic
import Derived.BigQuiet
namespace Go.Proofs.Ytnillifinnmigaa
open Go Go.RowKit
set_option linter.unusedVariables false
set_option linter.unusedSimpArgs false



end Go.Proofs.Ytnillifinnmigaa
