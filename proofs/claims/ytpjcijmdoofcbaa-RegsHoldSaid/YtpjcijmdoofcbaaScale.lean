
/-
  Package scale, function by function: sums, spans, multiples of powers of two.
-/
import Derived.Test.YtpjcijmdoofcbaaProg
import Derived.Test.YtpjcijmdoofcbaaChecked
import Derived.Test.YtpjcijmdoofcbaaBits
import Derived.Deep.QuietTactic
import Derived.BigQuiet
namespace Go.Proofs.Ytpjcijmdoofcbaa
open Go Go.RowKit
set_option linter.unusedVariables false
set_option linter.unusedSimpArgs false

/-- Is the sum of two words 2^64 or above? -/
def overF (x y : BitVec 64) : Bool := decide (18446744073709551616 ≤ x.toNat + y.toNat)
def carryW (x y : BitVec 64) : BitVec 64 := if overF x y = true then 1#64 else 0#64
theorem carryW_bne (x y : BitVec 64) : (carryW x y != 0#64) = overF x y := by
  unfold carryW; cases overF x y <;> rfl
/-- Are some numbers from one on all within a span? -/
def inF (a n b t : BitVec 64) : Bool := decide (b.toNat ≤ a.toNat) && decide (a.toNat + n.toNat ≤ t.toNat)
/-- The greatest multiple of 2^n that is not above. -/
def downF (x : BitVec 64) (n : Int) : BitVec 64 := x &&& ~~~ maskF n
/-- The least multiple of 2^n that is not below; is there one? -/
def upOk (x : BitVec 64) (n : Int) : Bool := (x &&& maskF n == 0#64) || !overF x (maskF n)
def upF (x : BitVec 64) (n : Int) : BitVec 64 := if (x &&& maskF n == 0#64) = true then x else if overF x (maskF n) = true then 0#64 else (x + maskF n) &&& ~~~ maskF n
end Go.Proofs.Ytpjcijmdoofcbaa
