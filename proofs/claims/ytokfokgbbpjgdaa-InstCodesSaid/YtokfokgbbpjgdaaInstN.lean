
/-
  The table, and what is done with a row of it; plain.
-/
import Derived.Test.YtokfokgbbpjgdaaBits
namespace Go.Proofs.Ytokfokgbbpjgdaa
open Go Go.RowKit
set_option linter.unusedVariables false
set_option linter.unusedSimpArgs false

structure RowT where
  nm : ByteArray
  sh : Nat
  cd : BitVec 64
  f : BitVec 64
  ot : BitVec 64
instance : Inhabited RowT := ⟨⟨⟨#[]⟩, 0, 0#64, 0#64, 0#64⟩⟩
def tab : List RowT := [⟨{ data := #[108, 117, 105] }, 85, 55#64, 0#64, 0#64⟩, ⟨{ data := #[97, 117, 105, 112, 99] }, 85, 23#64, 0#64, 0#64⟩, ⟨{ data := #[106, 97, 108] }, 74, 111#64, 0#64, 0#64⟩, ⟨{ data := #[106, 97, 108, 114] }, 73, 103#64, 0#64, 0#64⟩, ⟨{ data := #[98, 101, 113] }, 66, 99#64, 0#64, 0#64⟩, ⟨{ data := #[98, 110, 101] }, 66, 99#64, 1#64, 0#64⟩, ⟨{ data := #[98, 108, 116] }, 66, 99#64, 4#64, 0#64⟩, ⟨{ data := #[98, 103, 101] }, 66, 99#64, 5#64, 0#64⟩, ⟨{ data := #[98, 108, 116, 117] }, 66, 99#64, 6#64, 0#64⟩, ⟨{ data := #[98, 103, 101, 117] }, 66, 99#64, 7#64, 0#64⟩, ⟨{ data := #[108, 98] }, 73, 3#64, 0#64, 0#64⟩, ⟨{ data := #[108, 104] }, 73, 3#64, 1#64, 0#64⟩, ⟨{ data := #[108, 119] }, 73, 3#64, 2#64, 0#64⟩, ⟨{ data := #[108, 100] }, 73, 3#64, 3#64, 0#64⟩, ⟨{ data := #[108, 98, 117] }, 73, 3#64, 4#64, 0#64⟩, ⟨{ data := #[108, 104, 117] }, 73, 3#64, 5#64, 0#64⟩, ⟨{ data := #[108, 119, 117] }, 73, 3#64, 6#64, 0#64⟩, ⟨{ data := #[115, 98] }, 83, 35#64, 0#64, 0#64⟩, ⟨{ data := #[115, 104] }, 83, 35#64, 1#64, 0#64⟩, ⟨{ data := #[115, 119] }, 83, 35#64, 2#64, 0#64⟩, ⟨{ data := #[115, 100] }, 83, 35#64, 3#64, 0#64⟩, ⟨{ data := #[97, 100, 100, 105] }, 73, 19#64, 0#64, 0#64⟩, ⟨{ data := #[115, 108, 116, 105] }, 73, 19#64, 2#64, 0#64⟩, ⟨{ data := #[115, 108, 116, 105, 117] }, 73, 19#64, 3#64, 0#64⟩, ⟨{ data := #[120, 111, 114, 105] }, 73, 19#64, 4#64, 0#64⟩, ⟨{ data := #[111, 114, 105] }, 73, 19#64, 6#64, 0#64⟩, ⟨{ data := #[97, 110, 100, 105] }, 73, 19#64, 7#64, 0#64⟩, ⟨{ data := #[115, 108, 108, 105] }, 72, 19#64, 1#64, 0#64⟩, ⟨{ data := #[115, 114, 108, 105] }, 72, 19#64, 5#64, 0#64⟩, ⟨{ data := #[115, 114, 97, 105] }, 72, 19#64, 5#64, 16#64⟩, ⟨{ data := #[97, 100, 100] }, 82, 51#64, 0#64, 0#64⟩, ⟨{ data := #[115, 117, 98] }, 82, 51#64, 0#64, 32#64⟩, ⟨{ data := #[115, 108, 108] }, 82, 51#64, 1#64, 0#64⟩, ⟨{ data := #[115, 108, 116] }, 82, 51#64, 2#64, 0#64⟩, ⟨{ data := #[115, 108, 116, 117] }, 82, 51#64, 3#64, 0#64⟩, ⟨{ data := #[120, 111, 114] }, 82, 51#64, 4#64, 0#64⟩, ⟨{ data := #[115, 114, 108] }, 82, 51#64, 5#64, 0#64⟩, ⟨{ data := #[115, 114, 97] }, 82, 51#64, 5#64, 32#64⟩, ⟨{ data := #[111, 114] }, 82, 51#64, 6#64, 0#64⟩, ⟨{ data := #[97, 110, 100] }, 82, 51#64, 7#64, 0#64⟩, ⟨{ data := #[101, 99, 97, 108, 108] }, 78, 115#64, 0#64, 0#64⟩, ⟨{ data := #[101, 98, 114, 101, 97, 107] }, 78, 115#64, 0#64, 1#64⟩, ⟨{ data := #[99, 108, 99] }, 73, 15#64, 2#64, 0#64⟩, ⟨{ data := #[99, 115, 99] }, 83, 35#64, 4#64, 0#64⟩, ⟨{ data := #[99, 115, 101, 116, 98, 111, 117, 110, 100, 115] }, 82, 91#64, 0#64, 8#64⟩, ⟨{ data := #[99, 115, 101, 116, 98, 111, 117, 110, 100, 115, 101, 120, 97, 99, 116] }, 82, 91#64, 0#64, 9#64⟩, ⟨{ data := #[99, 115, 101, 97, 108] }, 82, 91#64, 0#64, 11#64⟩, ⟨{ data := #[99, 117, 110, 115, 101, 97, 108] }, 82, 91#64, 0#64, 12#64⟩, ⟨{ data := #[99, 97, 110, 100, 112, 101, 114, 109] }, 82, 91#64, 0#64, 13#64⟩, ⟨{ data := #[99, 115, 101, 116, 97, 100, 100, 114] }, 82, 91#64, 0#64, 16#64⟩, ⟨{ data := #[99, 105, 110, 99, 111, 102, 102, 115, 101, 116] }, 82, 91#64, 0#64, 17#64⟩, ⟨{ data := #[99, 115, 117, 98] }, 82, 91#64, 0#64, 20#64⟩, ⟨{ data := #[99, 98, 117, 105, 108, 100, 99, 97, 112] }, 82, 91#64, 0#64, 29#64⟩, ⟨{ data := #[99, 116, 101, 115, 116, 115, 117, 98, 115, 101, 116] }, 82, 91#64, 0#64, 32#64⟩, ⟨{ data := #[99, 115, 101, 116, 101, 113, 117, 97, 108] }, 82, 91#64, 0#64, 33#64⟩, ⟨{ data := #[99, 103, 101, 116, 112, 101, 114, 109] }, 71, 91#64, 0#64, 0#64⟩, ⟨{ data := #[99, 103, 101, 116, 116, 121, 112, 101] }, 71, 91#64, 0#64, 1#64⟩, ⟨{ data := #[99, 103, 101, 116, 98, 97, 115, 101] }, 71, 91#64, 0#64, 2#64⟩, ⟨{ data := #[99, 103, 101, 116, 108, 101, 110] }, 71, 91#64, 0#64, 3#64⟩, ⟨{ data := #[99, 103, 101, 116, 116, 97, 103] }, 71, 91#64, 0#64, 4#64⟩, ⟨{ data := #[99, 103, 101, 116, 111, 102, 102, 115, 101, 116] }, 71, 91#64, 0#64, 6#64⟩, ⟨{ data := #[99, 114, 114, 108] }, 71, 91#64, 0#64, 8#64⟩, ⟨{ data := #[99, 114, 97, 109] }, 71, 91#64, 0#64, 9#64⟩, ⟨{ data := #[99, 109, 111, 118, 101] }, 71, 91#64, 0#64, 10#64⟩, ⟨{ data := #[99, 99, 108, 101, 97, 114, 116, 97, 103] }, 71, 91#64, 0#64, 11#64⟩, ⟨{ data := #[99, 103, 101, 116, 97, 100, 100, 114] }, 71, 91#64, 0#64, 15#64⟩, ⟨{ data := #[99, 115, 101, 97, 108, 101, 110, 116, 114, 121] }, 71, 91#64, 0#64, 17#64⟩, ⟨{ data := #[99, 105, 110, 99, 111, 102, 102, 115, 101, 116, 105, 109, 109] }, 73, 91#64, 1#64, 0#64⟩, ⟨{ data := #[99, 115, 101, 116, 98, 111, 117, 110, 100, 115, 105, 109, 109] }, 67, 91#64, 2#64, 0#64⟩]
def rowAt (k : Nat) : RowT := tab.getD k default
def rowC (r : RowT) : Array Value := #[.string r.nm, .int .u8 (r.sh : Int), .int .u64 (U r.cd), .int .u64 (U r.f), .int .u64 (U r.ot)]
/-- An instruction. -/
structure Ins where
  op : Int
  rd : BitVec 64
  r1 : BitVec 64
  r2 : BitVec 64
  imm : BitVec 64
def insC (i : Ins) : Array Value := #[.int .i64 i.op, .int .i64 (S i.rd), .int .i64 (S i.r1), .int .i64 (S i.r2), .int .i64 (S i.imm)]
/-- A piece: from, how many, where. -/
abbrev Pc := Int × Int × Int
def pcs (s : Nat) : List Pc :=
  if s = 73 ∨ s = 67 then [(0, 12, 20)] else if s = 72 then [(0, 6, 20)] else if s = 83 then [(0, 5, 7), (5, 7, 25)] else if s = 66 then [(1, 4, 8), (5, 6, 25), (11, 1, 7), (12, 1, 31)] else if s = 85 then [(12, 20, 12)] else if s = 74 then [(12, 8, 12), (11, 1, 20), (1, 10, 21), (20, 1, 31)] else []
def bitsOf (s : Nat) : Int := if s = 73 ∨ s = 67 then 12 else if s = 72 then 6 else if s = 83 then 12 else if s = 66 then 13 else if s = 85 then 32 else if s = 74 then 21 else 0
def sgOf (s : Nat) : Bool := s == 73 || s == 83 || s == 66 || s == 85 || s == 74
def zerosOf (s : Nat) : Int := if s = 66 ∨ s = 74 then 1 else if s = 85 then 12 else 0
def layF (L : List Pc) (x w : BitVec 64) : BitVec 64 := L.foldl (fun w p => putF w p.2.2 p.2.1 (getF x p.1 p.2.1)) w
def readF (L : List Pc) (w : BitVec 64) : BitVec 64 := L.foldl (fun x p => putF x p.1 p.2.1 (getF w p.2.2 p.2.1)) 0#64
def fitsL (L : List Pc) (b : Int) (sg : Bool) (z : Int) (x : BitVec 64) : Bool := L.isEmpty || (fitsF x b sg && (x &&& maskF z == 0#64))
def readI (s : Nat) (w : BitVec 64) : BitVec 64 := if sgOf s = true then sgnF (readF (pcs s) w) (bitsOf s) else readF (pcs s) w
def hasD (s : Nat) : Bool := s == 82 || s == 71 || s == 73 || s == 67 || s == 72 || s == 85 || s == 74
def has1 (s : Nat) : Bool := s == 82 || s == 71 || s == 73 || s == 67 || s == 72 || s == 83 || s == 66
def has2 (s : Nat) : Bool := s == 82 || s == 83 || s == 66
/-- What is fixed: where, how many bits, what. -/
def fix (r : RowT) : List (Int × Int × BitVec 64) :=
  (0, 7, r.cd) :: (if r.sh = 85 ∨ r.sh = 74 then [] else if r.sh = 78 then [(7, 13, 0#64), (20, 12, r.ot)] else (12, 3, r.f) :: (if r.sh = 82 then [(25, 7, r.ot)] else if r.sh = 71 then [(20, 5, r.ot), (25, 7, 127#64)] else if r.sh = 72 then [(26, 6, r.ot)] else []))
def ones64 : BitVec 64 := 18446744073709551615#64
def putsF (l : List (Int × Int × BitVec 64)) (w : BitVec 64) : BitVec 64 := l.foldl (fun w p => putF w p.1 p.2.1 p.2.2) w
def onesF (l : List (Int × Int × BitVec 64)) (m : BitVec 64) : BitVec 64 := l.foldl (fun m p => putF m p.1 p.2.1 ones64) m
def fixW (r : RowT) : BitVec 64 := putsF (fix r) 0#64
def fixM (r : RowT) : BitVec 64 := onesF (fix r) 0#64
def regF (h : Bool) (a : Int) (n w : BitVec 64) : Option (BitVec 64) := if h = true then (if fitsF n 5 false = true then some (putF w a 5 n) else none) else some w
def encW (r : RowT) (i : Ins) : Option (BitVec 64) :=
  if fitsL (pcs r.sh) (bitsOf r.sh) (sgOf r.sh) (zerosOf r.sh) i.imm = true then
    ((regF (hasD r.sh) 7 i.rd (layF (pcs r.sh) i.imm (fixW r))).bind fun w => regF (has1 r.sh) 15 i.r1 w).bind fun w => regF (has2 r.sh) 20 i.r2 w
  else none
def encF (i : Ins) : Option (BitVec 64) := if i.op < 1 ∨ 69 < i.op then none else encW (rowAt (i.op - 1).toNat) i
def decI (k : Nat) (w : BitVec 64) : Ins := ⟨(k : Int) + 1, if hasD (rowAt k).sh then getF w 7 5 else 0#64, if has1 (rowAt k).sh then getF w 15 5 else 0#64, if has2 (rowAt k).sh then getF w 20 5 else 0#64, readI (rowAt k).sh w⟩
def hit (w : BitVec 64) (k : Nat) : Bool := w &&& fixM (rowAt k) == fixW (rowAt k)
/-- The first row from k on that a word hits. -/
def hitFrom (w : BitVec 64) : Nat → Nat → Option Nat
  | 0, _ => none
  | n + 1, k => if hit w k = true then some k else hitFrom w n (k + 1)
def decF (w : BitVec 64) : Option Ins := (hitFrom w 69 0).map fun k => decI k w
def shapes : List Nat := [82, 71, 78, 73, 67, 72, 83, 66, 85, 74]
theorem rowAt_sh : ∀ k, k < 69 → (rowAt k).sh ∈ shapes := by decide +kernel
end Go.Proofs.Ytokfokgbbpjgdaa
