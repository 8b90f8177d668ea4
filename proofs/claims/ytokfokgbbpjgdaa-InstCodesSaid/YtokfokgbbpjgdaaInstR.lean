
/-
  The document's table of instructions (its Rows), and its small functions.
-/
import Derived.Test.YtokfokgbbpjgdaaInstB
import Derived.Test.YtokfokgbbpjgdaaInst
import Derived.Test.YtokfokgbbpjgdaaRefField
namespace Go.Proofs.Ytokfokgbbpjgdaa
open Go Go.RowKit
set_option linter.unusedVariables false
set_option linter.unusedSimpArgs false

def rrowsV : List Value := [.string { data := #[108, 117, 105] }, .int .u8 85, .int .u32 55, .int .u32 0, .int .u32 0, .string { data := #[97, 117, 105, 112, 99] }, .int .u8 85, .int .u32 23, .int .u32 0, .int .u32 0, .string { data := #[106, 97, 108] }, .int .u8 74, .int .u32 111, .int .u32 0, .int .u32 0, .string { data := #[106, 97, 108, 114] }, .int .u8 73, .int .u32 103, .int .u32 0, .int .u32 0, .string { data := #[98, 101, 113] }, .int .u8 66, .int .u32 99, .int .u32 0, .int .u32 0, .string { data := #[98, 110, 101] }, .int .u8 66, .int .u32 99, .int .u32 1, .int .u32 0, .string { data := #[98, 108, 116] }, .int .u8 66, .int .u32 99, .int .u32 4, .int .u32 0, .string { data := #[98, 103, 101] }, .int .u8 66, .int .u32 99, .int .u32 5, .int .u32 0, .string { data := #[98, 108, 116, 117] }, .int .u8 66, .int .u32 99, .int .u32 6, .int .u32 0, .string { data := #[98, 103, 101, 117] }, .int .u8 66, .int .u32 99, .int .u32 7, .int .u32 0, .string { data := #[108, 98] }, .int .u8 73, .int .u32 3, .int .u32 0, .int .u32 0, .string { data := #[108, 104] }, .int .u8 73, .int .u32 3, .int .u32 1, .int .u32 0, .string { data := #[108, 119] }, .int .u8 73, .int .u32 3, .int .u32 2, .int .u32 0, .string { data := #[108, 100] }, .int .u8 73, .int .u32 3, .int .u32 3, .int .u32 0, .string { data := #[108, 98, 117] }, .int .u8 73, .int .u32 3, .int .u32 4, .int .u32 0, .string { data := #[108, 104, 117] }, .int .u8 73, .int .u32 3, .int .u32 5, .int .u32 0, .string { data := #[108, 119, 117] }, .int .u8 73, .int .u32 3, .int .u32 6, .int .u32 0, .string { data := #[115, 98] }, .int .u8 83, .int .u32 35, .int .u32 0, .int .u32 0, .string { data := #[115, 104] }, .int .u8 83, .int .u32 35, .int .u32 1, .int .u32 0, .string { data := #[115, 119] }, .int .u8 83, .int .u32 35, .int .u32 2, .int .u32 0, .string { data := #[115, 100] }, .int .u8 83, .int .u32 35, .int .u32 3, .int .u32 0, .string { data := #[97, 100, 100, 105] }, .int .u8 73, .int .u32 19, .int .u32 0, .int .u32 0, .string { data := #[115, 108, 116, 105] }, .int .u8 73, .int .u32 19, .int .u32 2, .int .u32 0, .string { data := #[115, 108, 116, 105, 117] }, .int .u8 73, .int .u32 19, .int .u32 3, .int .u32 0, .string { data := #[120, 111, 114, 105] }, .int .u8 73, .int .u32 19, .int .u32 4, .int .u32 0, .string { data := #[111, 114, 105] }, .int .u8 73, .int .u32 19, .int .u32 6, .int .u32 0, .string { data := #[97, 110, 100, 105] }, .int .u8 73, .int .u32 19, .int .u32 7, .int .u32 0, .string { data := #[115, 108, 108, 105] }, .int .u8 72, .int .u32 19, .int .u32 1, .int .u32 0, .string { data := #[115, 114, 108, 105] }, .int .u8 72, .int .u32 19, .int .u32 5, .int .u32 0, .string { data := #[115, 114, 97, 105] }, .int .u8 72, .int .u32 19, .int .u32 5, .int .u32 16, .string { data := #[97, 100, 100] }, .int .u8 82, .int .u32 51, .int .u32 0, .int .u32 0, .string { data := #[115, 117, 98] }, .int .u8 82, .int .u32 51, .int .u32 0, .int .u32 32, .string { data := #[115, 108, 108] }, .int .u8 82, .int .u32 51, .int .u32 1, .int .u32 0, .string { data := #[115, 108, 116] }, .int .u8 82, .int .u32 51, .int .u32 2, .int .u32 0, .string { data := #[115, 108, 116, 117] }, .int .u8 82, .int .u32 51, .int .u32 3, .int .u32 0, .string { data := #[120, 111, 114] }, .int .u8 82, .int .u32 51, .int .u32 4, .int .u32 0, .string { data := #[115, 114, 108] }, .int .u8 82, .int .u32 51, .int .u32 5, .int .u32 0, .string { data := #[115, 114, 97] }, .int .u8 82, .int .u32 51, .int .u32 5, .int .u32 32, .string { data := #[111, 114] }, .int .u8 82, .int .u32 51, .int .u32 6, .int .u32 0, .string { data := #[97, 110, 100] }, .int .u8 82, .int .u32 51, .int .u32 7, .int .u32 0, .string { data := #[101, 99, 97, 108, 108] }, .int .u8 78, .int .u32 115, .int .u32 0, .int .u32 0, .string { data := #[101, 98, 114, 101, 97, 107] }, .int .u8 78, .int .u32 115, .int .u32 0, .int .u32 1, .string { data := #[99, 108, 99] }, .int .u8 73, .int .u32 15, .int .u32 2, .int .u32 0, .string { data := #[99, 115, 99] }, .int .u8 83, .int .u32 35, .int .u32 4, .int .u32 0, .string { data := #[99, 115, 101, 116, 98, 111, 117, 110, 100, 115] }, .int .u8 82, .int .u32 91, .int .u32 0, .int .u32 8, .string { data := #[99, 115, 101, 116, 98, 111, 117, 110, 100, 115, 101, 120, 97, 99, 116] }, .int .u8 82, .int .u32 91, .int .u32 0, .int .u32 9, .string { data := #[99, 115, 101, 97, 108] }, .int .u8 82, .int .u32 91, .int .u32 0, .int .u32 11, .string { data := #[99, 117, 110, 115, 101, 97, 108] }, .int .u8 82, .int .u32 91, .int .u32 0, .int .u32 12, .string { data := #[99, 97, 110, 100, 112, 101, 114, 109] }, .int .u8 82, .int .u32 91, .int .u32 0, .int .u32 13, .string { data := #[99, 115, 101, 116, 97, 100, 100, 114] }, .int .u8 82, .int .u32 91, .int .u32 0, .int .u32 16, .string { data := #[99, 105, 110, 99, 111, 102, 102, 115, 101, 116] }, .int .u8 82, .int .u32 91, .int .u32 0, .int .u32 17, .string { data := #[99, 115, 117, 98] }, .int .u8 82, .int .u32 91, .int .u32 0, .int .u32 20, .string { data := #[99, 98, 117, 105, 108, 100, 99, 97, 112] }, .int .u8 82, .int .u32 91, .int .u32 0, .int .u32 29, .string { data := #[99, 116, 101, 115, 116, 115, 117, 98, 115, 101, 116] }, .int .u8 82, .int .u32 91, .int .u32 0, .int .u32 32, .string { data := #[99, 115, 101, 116, 101, 113, 117, 97, 108] }, .int .u8 82, .int .u32 91, .int .u32 0, .int .u32 33, .string { data := #[99, 103, 101, 116, 112, 101, 114, 109] }, .int .u8 71, .int .u32 91, .int .u32 0, .int .u32 0, .string { data := #[99, 103, 101, 116, 116, 121, 112, 101] }, .int .u8 71, .int .u32 91, .int .u32 0, .int .u32 1, .string { data := #[99, 103, 101, 116, 98, 97, 115, 101] }, .int .u8 71, .int .u32 91, .int .u32 0, .int .u32 2, .string { data := #[99, 103, 101, 116, 108, 101, 110] }, .int .u8 71, .int .u32 91, .int .u32 0, .int .u32 3, .string { data := #[99, 103, 101, 116, 116, 97, 103] }, .int .u8 71, .int .u32 91, .int .u32 0, .int .u32 4, .string { data := #[99, 103, 101, 116, 111, 102, 102, 115, 101, 116] }, .int .u8 71, .int .u32 91, .int .u32 0, .int .u32 6, .string { data := #[99, 114, 114, 108] }, .int .u8 71, .int .u32 91, .int .u32 0, .int .u32 8, .string { data := #[99, 114, 97, 109] }, .int .u8 71, .int .u32 91, .int .u32 0, .int .u32 9, .string { data := #[99, 109, 111, 118, 101] }, .int .u8 71, .int .u32 91, .int .u32 0, .int .u32 10, .string { data := #[99, 99, 108, 101, 97, 114, 116, 97, 103] }, .int .u8 71, .int .u32 91, .int .u32 0, .int .u32 11, .string { data := #[99, 103, 101, 116, 97, 100, 100, 114] }, .int .u8 71, .int .u32 91, .int .u32 0, .int .u32 15, .string { data := #[99, 115, 101, 97, 108, 101, 110, 116, 114, 121] }, .int .u8 71, .int .u32 91, .int .u32 0, .int .u32 17, .string { data := #[99, 105, 110, 99, 111, 102, 102, 115, 101, 116, 105, 109, 109] }, .int .u8 73, .int .u32 91, .int .u32 1, .int .u32 0, .string { data := #[99, 115, 101, 116, 98, 111, 117, 110, 100, 115, 105, 109, 109] }, .int .u8 67, .int .u32 91, .int .u32 2, .int .u32 0]
def rrowsA : List Value := tab.map fun r => .agg #[.string r.nm, .int .u8 (r.sh : Int), .int .u32 (U r.cd), .int .u32 (U r.f), .int .u32 (U r.ot)]
/-- The document's rows in a block. -/
def rowVals (k : Nat) : List Value := [.string (rowAt k).nm, .int .u8 ((rowAt k).sh : Int), .int .u32 (U (rowAt k).cd), .int .u32 (U (rowAt k).f), .int .u32 (U (rowAt k).ot)]
def RowsIn (w : World) (b : Nat) : Prop := b < w.heap.size ∧ ∀ k, k < 69 → (w.cell? ⟨b, k * 5, none⟩ = some (.string (rowAt k).nm) ∧ w.cell? ⟨b, k * 5 + 1, none⟩ = some (.int .u8 ((rowAt k).sh : Int)) ∧ w.cell? ⟨b, k * 5 + 2, none⟩ = some (.int .u32 (U (rowAt k).cd)) ∧ w.cell? ⟨b, k * 5 + 3, none⟩ = some (.int .u32 (U (rowAt k).f)) ∧ w.cell? ⟨b, k * 5 + 4, none⟩ = some (.int .u32 (U (rowAt k).ot)))
theorem RowsIn.below {w w' : World} {b B : Nat} (h : RowsIn w b) (hb : Below B w w') (hB : b < B) : RowsIn w' b := by
  obtain ⟨h1, h2⟩ := h
  refine ⟨Nat.lt_of_lt_of_le h1 hb.size, fun k hk => ?_⟩
  obtain ⟨a, c, d, e, f⟩ := h2 k hk
  exact ⟨(hb.cell (p := ⟨b, _, none⟩) hB).trans a, (hb.cell (p := ⟨b, _, none⟩) hB).trans c, (hb.cell (p := ⟨b, _, none⟩) hB).trans d, (hb.cell (p := ⟨b, _, none⟩) hB).trans e, (hb.cell (p := ⟨b, _, none⟩) hB).trans f⟩
theorem rrow_0 : rrowsV[0]? = some (.string (rowAt 0).nm) ∧ rrowsV[1]? = some (.int .u8 ((rowAt 0).sh : Int)) ∧ rrowsV[2]? = some (.int .u32 (U (rowAt 0).cd)) ∧ rrowsV[3]? = some (.int .u32 (U (rowAt 0).f)) ∧ rrowsV[4]? = some (.int .u32 (U (rowAt 0).ot)) := by exact ⟨by kernel_rfl, by kernel_rfl, by kernel_rfl, by kernel_rfl, by kernel_rfl⟩
theorem rrow_1 : rrowsV[5]? = some (.string (rowAt 1).nm) ∧ rrowsV[6]? = some (.int .u8 ((rowAt 1).sh : Int)) ∧ rrowsV[7]? = some (.int .u32 (U (rowAt 1).cd)) ∧ rrowsV[8]? = some (.int .u32 (U (rowAt 1).f)) ∧ rrowsV[9]? = some (.int .u32 (U (rowAt 1).ot)) := by exact ⟨by kernel_rfl, by kernel_rfl, by kernel_rfl, by kernel_rfl, by kernel_rfl⟩
theorem rrow_2 : rrowsV[10]? = some (.string (rowAt 2).nm) ∧ rrowsV[11]? = some (.int .u8 ((rowAt 2).sh : Int)) ∧ rrowsV[12]? = some (.int .u32 (U (rowAt 2).cd)) ∧ rrowsV[13]? = some (.int .u32 (U (rowAt 2).f)) ∧ rrowsV[14]? = some (.int .u32 (U (rowAt 2).ot)) := by exact ⟨by kernel_rfl, by kernel_rfl, by kernel_rfl, by kernel_rfl, by kernel_rfl⟩
theorem rrow_3 : rrowsV[15]? = some (.string (rowAt 3).nm) ∧ rrowsV[16]? = some (.int .u8 ((rowAt 3).sh : Int)) ∧ rrowsV[17]? = some (.int .u32 (U (rowAt 3).cd)) ∧ rrowsV[18]? = some (.int .u32 (U (rowAt 3).f)) ∧ rrowsV[19]? = some (.int .u32 (U (rowAt 3).ot)) := by exact ⟨by kernel_rfl, by kernel_rfl, by kernel_rfl, by kernel_rfl, by kernel_rfl⟩
theorem rrow_4 : rrowsV[20]? = some (.string (rowAt 4).nm) ∧ rrowsV[21]? = some (.int .u8 ((rowAt 4).sh : Int)) ∧ rrowsV[22]? = some (.int .u32 (U (rowAt 4).cd)) ∧ rrowsV[23]? = some (.int .u32 (U (rowAt 4).f)) ∧ rrowsV[24]? = some (.int .u32 (U (rowAt 4).ot)) := by exact ⟨by kernel_rfl, by kernel_rfl, by kernel_rfl, by kernel_rfl, by kernel_rfl⟩
theorem rrow_5 : rrowsV[25]? = some (.string (rowAt 5).nm) ∧ rrowsV[26]? = some (.int .u8 ((rowAt 5).sh : Int)) ∧ rrowsV[27]? = some (.int .u32 (U (rowAt 5).cd)) ∧ rrowsV[28]? = some (.int .u32 (U (rowAt 5).f)) ∧ rrowsV[29]? = some (.int .u32 (U (rowAt 5).ot)) := by exact ⟨by kernel_rfl, by kernel_rfl, by kernel_rfl, by kernel_rfl, by kernel_rfl⟩
theorem rrow_6 : rrowsV[30]? = some (.string (rowAt 6).nm) ∧ rrowsV[31]? = some (.int .u8 ((rowAt 6).sh : Int)) ∧ rrowsV[32]? = some (.int .u32 (U (rowAt 6).cd)) ∧ rrowsV[33]? = some (.int .u32 (U (rowAt 6).f)) ∧ rrowsV[34]? = some (.int .u32 (U (rowAt 6).ot)) := by exact ⟨by kernel_rfl, by kernel_rfl, by kernel_rfl, by kernel_rfl, by kernel_rfl⟩
theorem rrow_7 : rrowsV[35]? = some (.string (rowAt 7).nm) ∧ rrowsV[36]? = some (.int .u8 ((rowAt 7).sh : Int)) ∧ rrowsV[37]? = some (.int .u32 (U (rowAt 7).cd)) ∧ rrowsV[38]? = some (.int .u32 (U (rowAt 7).f)) ∧ rrowsV[39]? = some (.int .u32 (U (rowAt 7).ot)) := by exact ⟨by kernel_rfl, by kernel_rfl, by kernel_rfl, by kernel_rfl, by kernel_rfl⟩
theorem rrow_8 : rrowsV[40]? = some (.string (rowAt 8).nm) ∧ rrowsV[41]? = some (.int .u8 ((rowAt 8).sh : Int)) ∧ rrowsV[42]? = some (.int .u32 (U (rowAt 8).cd)) ∧ rrowsV[43]? = some (.int .u32 (U (rowAt 8).f)) ∧ rrowsV[44]? = some (.int .u32 (U (rowAt 8).ot)) := by exact ⟨by kernel_rfl, by kernel_rfl, by kernel_rfl, by kernel_rfl, by kernel_rfl⟩
theorem rrow_9 : rrowsV[45]? = some (.string (rowAt 9).nm) ∧ rrowsV[46]? = some (.int .u8 ((rowAt 9).sh : Int)) ∧ rrowsV[47]? = some (.int .u32 (U (rowAt 9).cd)) ∧ rrowsV[48]? = some (.int .u32 (U (rowAt 9).f)) ∧ rrowsV[49]? = some (.int .u32 (U (rowAt 9).ot)) := by exact ⟨by kernel_rfl, by kernel_rfl, by kernel_rfl, by kernel_rfl, by kernel_rfl⟩
theorem rrow_10 : rrowsV[50]? = some (.string (rowAt 10).nm) ∧ rrowsV[51]? = some (.int .u8 ((rowAt 10).sh : Int)) ∧ rrowsV[52]? = some (.int .u32 (U (rowAt 10).cd)) ∧ rrowsV[53]? = some (.int .u32 (U (rowAt 10).f)) ∧ rrowsV[54]? = some (.int .u32 (U (rowAt 10).ot)) := by exact ⟨by kernel_rfl, by kernel_rfl, by kernel_rfl, by kernel_rfl, by kernel_rfl⟩
theorem rrow_11 : rrowsV[55]? = some (.string (rowAt 11).nm) ∧ rrowsV[56]? = some (.int .u8 ((rowAt 11).sh : Int)) ∧ rrowsV[57]? = some (.int .u32 (U (rowAt 11).cd)) ∧ rrowsV[58]? = some (.int .u32 (U (rowAt 11).f)) ∧ rrowsV[59]? = some (.int .u32 (U (rowAt 11).ot)) := by exact ⟨by kernel_rfl, by kernel_rfl, by kernel_rfl, by kernel_rfl, by kernel_rfl⟩
theorem rrow_12 : rrowsV[60]? = some (.string (rowAt 12).nm) ∧ rrowsV[61]? = some (.int .u8 ((rowAt 12).sh : Int)) ∧ rrowsV[62]? = some (.int .u32 (U (rowAt 12).cd)) ∧ rrowsV[63]? = some (.int .u32 (U (rowAt 12).f)) ∧ rrowsV[64]? = some (.int .u32 (U (rowAt 12).ot)) := by exact ⟨by kernel_rfl, by kernel_rfl, by kernel_rfl, by kernel_rfl, by kernel_rfl⟩
theorem rrow_13 : rrowsV[65]? = some (.string (rowAt 13).nm) ∧ rrowsV[66]? = some (.int .u8 ((rowAt 13).sh : Int)) ∧ rrowsV[67]? = some (.int .u32 (U (rowAt 13).cd)) ∧ rrowsV[68]? = some (.int .u32 (U (rowAt 13).f)) ∧ rrowsV[69]? = some (.int .u32 (U (rowAt 13).ot)) := by exact ⟨by kernel_rfl, by kernel_rfl, by kernel_rfl, by kernel_rfl, by kernel_rfl⟩
theorem rrow_14 : rrowsV[70]? = some (.string (rowAt 14).nm) ∧ rrowsV[71]? = some (.int .u8 ((rowAt 14).sh : Int)) ∧ rrowsV[72]? = some (.int .u32 (U (rowAt 14).cd)) ∧ rrowsV[73]? = some (.int .u32 (U (rowAt 14).f)) ∧ rrowsV[74]? = some (.int .u32 (U (rowAt 14).ot)) := by exact ⟨by kernel_rfl, by kernel_rfl, by kernel_rfl, by kernel_rfl, by kernel_rfl⟩
theorem rrow_15 : rrowsV[75]? = some (.string (rowAt 15).nm) ∧ rrowsV[76]? = some (.int .u8 ((rowAt 15).sh : Int)) ∧ rrowsV[77]? = some (.int .u32 (U (rowAt 15).cd)) ∧ rrowsV[78]? = some (.int .u32 (U (rowAt 15).f)) ∧ rrowsV[79]? = some (.int .u32 (U (rowAt 15).ot)) := by exact ⟨by kernel_rfl, by kernel_rfl, by kernel_rfl, by kernel_rfl, by kernel_rfl⟩
theorem rrow_16 : rrowsV[80]? = some (.string (rowAt 16).nm) ∧ rrowsV[81]? = some (.int .u8 ((rowAt 16).sh : Int)) ∧ rrowsV[82]? = some (.int .u32 (U (rowAt 16).cd)) ∧ rrowsV[83]? = some (.int .u32 (U (rowAt 16).f)) ∧ rrowsV[84]? = some (.int .u32 (U (rowAt 16).ot)) := by exact ⟨by kernel_rfl, by kernel_rfl, by kernel_rfl, by kernel_rfl, by kernel_rfl⟩
theorem rrow_17 : rrowsV[85]? = some (.string (rowAt 17).nm) ∧ rrowsV[86]? = some (.int .u8 ((rowAt 17).sh : Int)) ∧ rrowsV[87]? = some (.int .u32 (U (rowAt 17).cd)) ∧ rrowsV[88]? = some (.int .u32 (U (rowAt 17).f)) ∧ rrowsV[89]? = some (.int .u32 (U (rowAt 17).ot)) := by exact ⟨by kernel_rfl, by kernel_rfl, by kernel_rfl, by kernel_rfl, by kernel_rfl⟩
theorem rrow_18 : rrowsV[90]? = some (.string (rowAt 18).nm) ∧ rrowsV[91]? = some (.int .u8 ((rowAt 18).sh : Int)) ∧ rrowsV[92]? = some (.int .u32 (U (rowAt 18).cd)) ∧ rrowsV[93]? = some (.int .u32 (U (rowAt 18).f)) ∧ rrowsV[94]? = some (.int .u32 (U (rowAt 18).ot)) := by exact ⟨by kernel_rfl, by kernel_rfl, by kernel_rfl, by kernel_rfl, by kernel_rfl⟩
theorem rrow_19 : rrowsV[95]? = some (.string (rowAt 19).nm) ∧ rrowsV[96]? = some (.int .u8 ((rowAt 19).sh : Int)) ∧ rrowsV[97]? = some (.int .u32 (U (rowAt 19).cd)) ∧ rrowsV[98]? = some (.int .u32 (U (rowAt 19).f)) ∧ rrowsV[99]? = some (.int .u32 (U (rowAt 19).ot)) := by exact ⟨by kernel_rfl, by kernel_rfl, by kernel_rfl, by kernel_rfl, by kernel_rfl⟩
theorem rrow_20 : rrowsV[100]? = some (.string (rowAt 20).nm) ∧ rrowsV[101]? = some (.int .u8 ((rowAt 20).sh : Int)) ∧ rrowsV[102]? = some (.int .u32 (U (rowAt 20).cd)) ∧ rrowsV[103]? = some (.int .u32 (U (rowAt 20).f)) ∧ rrowsV[104]? = some (.int .u32 (U (rowAt 20).ot)) := by exact ⟨by kernel_rfl, by kernel_rfl, by kernel_rfl, by kernel_rfl, by kernel_rfl⟩
theorem rrow_21 : rrowsV[105]? = some (.string (rowAt 21).nm) ∧ rrowsV[106]? = some (.int .u8 ((rowAt 21).sh : Int)) ∧ rrowsV[107]? = some (.int .u32 (U (rowAt 21).cd)) ∧ rrowsV[108]? = some (.int .u32 (U (rowAt 21).f)) ∧ rrowsV[109]? = some (.int .u32 (U (rowAt 21).ot)) := by exact ⟨by kernel_rfl, by kernel_rfl, by kernel_rfl, by kernel_rfl, by kernel_rfl⟩
theorem rrow_22 : rrowsV[110]? = some (.string (rowAt 22).nm) ∧ rrowsV[111]? = some (.int .u8 ((rowAt 22).sh : Int)) ∧ rrowsV[112]? = some (.int .u32 (U (rowAt 22).cd)) ∧ rrowsV[113]? = some (.int .u32 (U (rowAt 22).f)) ∧ rrowsV[114]? = some (.int .u32 (U (rowAt 22).ot)) := by exact ⟨by kernel_rfl, by kernel_rfl, by kernel_rfl, by kernel_rfl, by kernel_rfl⟩
theorem rrow_23 : rrowsV[115]? = some (.string (rowAt 23).nm) ∧ rrowsV[116]? = some (.int .u8 ((rowAt 23).sh : Int)) ∧ rrowsV[117]? = some (.int .u32 (U (rowAt 23).cd)) ∧ rrowsV[118]? = some (.int .u32 (U (rowAt 23).f)) ∧ rrowsV[119]? = some (.int .u32 (U (rowAt 23).ot)) := by exact ⟨by kernel_rfl, by kernel_rfl, by kernel_rfl, by kernel_rfl, by kernel_rfl⟩
theorem rrow_24 : rrowsV[120]? = some (.string (rowAt 24).nm) ∧ rrowsV[121]? = some (.int .u8 ((rowAt 24).sh : Int)) ∧ rrowsV[122]? = some (.int .u32 (U (rowAt 24).cd)) ∧ rrowsV[123]? = some (.int .u32 (U (rowAt 24).f)) ∧ rrowsV[124]? = some (.int .u32 (U (rowAt 24).ot)) := by exact ⟨by kernel_rfl, by kernel_rfl, by kernel_rfl, by kernel_rfl, by kernel_rfl⟩
theorem rrow_25 : rrowsV[125]? = some (.string (rowAt 25).nm) ∧ rrowsV[126]? = some (.int .u8 ((rowAt 25).sh : Int)) ∧ rrowsV[127]? = some (.int .u32 (U (rowAt 25).cd)) ∧ rrowsV[128]? = some (.int .u32 (U (rowAt 25).f)) ∧ rrowsV[129]? = some (.int .u32 (U (rowAt 25).ot)) := by exact ⟨by kernel_rfl, by kernel_rfl, by kernel_rfl, by kernel_rfl, by kernel_rfl⟩
theorem rrow_26 : rrowsV[130]? = some (.string (rowAt 26).nm) ∧ rrowsV[131]? = some (.int .u8 ((rowAt 26).sh : Int)) ∧ rrowsV[132]? = some (.int .u32 (U (rowAt 26).cd)) ∧ rrowsV[133]? = some (.int .u32 (U (rowAt 26).f)) ∧ rrowsV[134]? = some (.int .u32 (U (rowAt 26).ot)) := by exact ⟨by kernel_rfl, by kernel_rfl, by kernel_rfl, by kernel_rfl, by kernel_rfl⟩
theorem rrow_27 : rrowsV[135]? = some (.string (rowAt 27).nm) ∧ rrowsV[136]? = some (.int .u8 ((rowAt 27).sh : Int)) ∧ rrowsV[137]? = some (.int .u32 (U (rowAt 27).cd)) ∧ rrowsV[138]? = some (.int .u32 (U (rowAt 27).f)) ∧ rrowsV[139]? = some (.int .u32 (U (rowAt 27).ot)) := by exact ⟨by kernel_rfl, by kernel_rfl, by kernel_rfl, by kernel_rfl, by kernel_rfl⟩
theorem rrow_28 : rrowsV[140]? = some (.string (rowAt 28).nm) ∧ rrowsV[141]? = some (.int .u8 ((rowAt 28).sh : Int)) ∧ rrowsV[142]? = some (.int .u32 (U (rowAt 28).cd)) ∧ rrowsV[143]? = some (.int .u32 (U (rowAt 28).f)) ∧ rrowsV[144]? = some (.int .u32 (U (rowAt 28).ot)) := by exact ⟨by kernel_rfl, by kernel_rfl, by kernel_rfl, by kernel_rfl, by kernel_rfl⟩
theorem rrow_29 : rrowsV[145]? = some (.string (rowAt 29).nm) ∧ rrowsV[146]? = some (.int .u8 ((rowAt 29).sh : Int)) ∧ rrowsV[147]? = some (.int .u32 (U (rowAt 29).cd)) ∧ rrowsV[148]? = some (.int .u32 (U (rowAt 29).f)) ∧ rrowsV[149]? = some (.int .u32 (U (rowAt 29).ot)) := by exact ⟨by kernel_rfl, by kernel_rfl, by kernel_rfl, by kernel_rfl, by kernel_rfl⟩
theorem rrow_30 : rrowsV[150]? = some (.string (rowAt 30).nm) ∧ rrowsV[151]? = some (.int .u8 ((rowAt 30).sh : Int)) ∧ rrowsV[152]? = some (.int .u32 (U (rowAt 30).cd)) ∧ rrowsV[153]? = some (.int .u32 (U (rowAt 30).f)) ∧ rrowsV[154]? = some (.int .u32 (U (rowAt 30).ot)) := by exact ⟨by kernel_rfl, by kernel_rfl, by kernel_rfl, by kernel_rfl, by kernel_rfl⟩
theorem rrow_31 : rrowsV[155]? = some (.string (rowAt 31).nm) ∧ rrowsV[156]? = some (.int .u8 ((rowAt 31).sh : Int)) ∧ rrowsV[157]? = some (.int .u32 (U (rowAt 31).cd)) ∧ rrowsV[158]? = some (.int .u32 (U (rowAt 31).f)) ∧ rrowsV[159]? = some (.int .u32 (U (rowAt 31).ot)) := by exact ⟨by kernel_rfl, by kernel_rfl, by kernel_rfl, by kernel_rfl, by kernel_rfl⟩
theorem rrow_32 : rrowsV[160]? = some (.string (rowAt 32).nm) ∧ rrowsV[161]? = some (.int .u8 ((rowAt 32).sh : Int)) ∧ rrowsV[162]? = some (.int .u32 (U (rowAt 32).cd)) ∧ rrowsV[163]? = some (.int .u32 (U (rowAt 32).f)) ∧ rrowsV[164]? = some (.int .u32 (U (rowAt 32).ot)) := by exact ⟨by kernel_rfl, by kernel_rfl, by kernel_rfl, by kernel_rfl, by kernel_rfl⟩
theorem rrow_33 : rrowsV[165]? = some (.string (rowAt 33).nm) ∧ rrowsV[166]? = some (.int .u8 ((rowAt 33).sh : Int)) ∧ rrowsV[167]? = some (.int .u32 (U (rowAt 33).cd)) ∧ rrowsV[168]? = some (.int .u32 (U (rowAt 33).f)) ∧ rrowsV[169]? = some (.int .u32 (U (rowAt 33).ot)) := by exact ⟨by kernel_rfl, by kernel_rfl, by kernel_rfl, by kernel_rfl, by kernel_rfl⟩
theorem rrow_34 : rrowsV[170]? = some (.string (rowAt 34).nm) ∧ rrowsV[171]? = some (.int .u8 ((rowAt 34).sh : Int)) ∧ rrowsV[172]? = some (.int .u32 (U (rowAt 34).cd)) ∧ rrowsV[173]? = some (.int .u32 (U (rowAt 34).f)) ∧ rrowsV[174]? = some (.int .u32 (U (rowAt 34).ot)) := by exact ⟨by kernel_rfl, by kernel_rfl, by kernel_rfl, by kernel_rfl, by kernel_rfl⟩
theorem rrow_35 : rrowsV[175]? = some (.string (rowAt 35).nm) ∧ rrowsV[176]? = some (.int .u8 ((rowAt 35).sh : Int)) ∧ rrowsV[177]? = some (.int .u32 (U (rowAt 35).cd)) ∧ rrowsV[178]? = some (.int .u32 (U (rowAt 35).f)) ∧ rrowsV[179]? = some (.int .u32 (U (rowAt 35).ot)) := by exact ⟨by kernel_rfl, by kernel_rfl, by kernel_rfl, by kernel_rfl, by kernel_rfl⟩
theorem rrow_36 : rrowsV[180]? = some (.string (rowAt 36).nm) ∧ rrowsV[181]? = some (.int .u8 ((rowAt 36).sh : Int)) ∧ rrowsV[182]? = some (.int .u32 (U (rowAt 36).cd)) ∧ rrowsV[183]? = some (.int .u32 (U (rowAt 36).f)) ∧ rrowsV[184]? = some (.int .u32 (U (rowAt 36).ot)) := by exact ⟨by kernel_rfl, by kernel_rfl, by kernel_rfl, by kernel_rfl, by kernel_rfl⟩
theorem rrow_37 : rrowsV[185]? = some (.string (rowAt 37).nm) ∧ rrowsV[186]? = some (.int .u8 ((rowAt 37).sh : Int)) ∧ rrowsV[187]? = some (.int .u32 (U (rowAt 37).cd)) ∧ rrowsV[188]? = some (.int .u32 (U (rowAt 37).f)) ∧ rrowsV[189]? = some (.int .u32 (U (rowAt 37).ot)) := by exact ⟨by kernel_rfl, by kernel_rfl, by kernel_rfl, by kernel_rfl, by kernel_rfl⟩
theorem rrow_38 : rrowsV[190]? = some (.string (rowAt 38).nm) ∧ rrowsV[191]? = some (.int .u8 ((rowAt 38).sh : Int)) ∧ rrowsV[192]? = some (.int .u32 (U (rowAt 38).cd)) ∧ rrowsV[193]? = some (.int .u32 (U (rowAt 38).f)) ∧ rrowsV[194]? = some (.int .u32 (U (rowAt 38).ot)) := by exact ⟨by kernel_rfl, by kernel_rfl, by kernel_rfl, by kernel_rfl, by kernel_rfl⟩
theorem rrow_39 : rrowsV[195]? = some (.string (rowAt 39).nm) ∧ rrowsV[196]? = some (.int .u8 ((rowAt 39).sh : Int)) ∧ rrowsV[197]? = some (.int .u32 (U (rowAt 39).cd)) ∧ rrowsV[198]? = some (.int .u32 (U (rowAt 39).f)) ∧ rrowsV[199]? = some (.int .u32 (U (rowAt 39).ot)) := by exact ⟨by kernel_rfl, by kernel_rfl, by kernel_rfl, by kernel_rfl, by kernel_rfl⟩
theorem rrow_40 : rrowsV[200]? = some (.string (rowAt 40).nm) ∧ rrowsV[201]? = some (.int .u8 ((rowAt 40).sh : Int)) ∧ rrowsV[202]? = some (.int .u32 (U (rowAt 40).cd)) ∧ rrowsV[203]? = some (.int .u32 (U (rowAt 40).f)) ∧ rrowsV[204]? = some (.int .u32 (U (rowAt 40).ot)) := by exact ⟨by kernel_rfl, by kernel_rfl, by kernel_rfl, by kernel_rfl, by kernel_rfl⟩
theorem rrow_41 : rrowsV[205]? = some (.string (rowAt 41).nm) ∧ rrowsV[206]? = some (.int .u8 ((rowAt 41).sh : Int)) ∧ rrowsV[207]? = some (.int .u32 (U (rowAt 41).cd)) ∧ rrowsV[208]? = some (.int .u32 (U (rowAt 41).f)) ∧ rrowsV[209]? = some (.int .u32 (U (rowAt 41).ot)) := by exact ⟨by kernel_rfl, by kernel_rfl, by kernel_rfl, by kernel_rfl, by kernel_rfl⟩
theorem rrow_42 : rrowsV[210]? = some (.string (rowAt 42).nm) ∧ rrowsV[211]? = some (.int .u8 ((rowAt 42).sh : Int)) ∧ rrowsV[212]? = some (.int .u32 (U (rowAt 42).cd)) ∧ rrowsV[213]? = some (.int .u32 (U (rowAt 42).f)) ∧ rrowsV[214]? = some (.int .u32 (U (rowAt 42).ot)) := by exact ⟨by kernel_rfl, by kernel_rfl, by kernel_rfl, by kernel_rfl, by kernel_rfl⟩
theorem rrow_43 : rrowsV[215]? = some (.string (rowAt 43).nm) ∧ rrowsV[216]? = some (.int .u8 ((rowAt 43).sh : Int)) ∧ rrowsV[217]? = some (.int .u32 (U (rowAt 43).cd)) ∧ rrowsV[218]? = some (.int .u32 (U (rowAt 43).f)) ∧ rrowsV[219]? = some (.int .u32 (U (rowAt 43).ot)) := by exact ⟨by kernel_rfl, by kernel_rfl, by kernel_rfl, by kernel_rfl, by kernel_rfl⟩
theorem rrow_44 : rrowsV[220]? = some (.string (rowAt 44).nm) ∧ rrowsV[221]? = some (.int .u8 ((rowAt 44).sh : Int)) ∧ rrowsV[222]? = some (.int .u32 (U (rowAt 44).cd)) ∧ rrowsV[223]? = some (.int .u32 (U (rowAt 44).f)) ∧ rrowsV[224]? = some (.int .u32 (U (rowAt 44).ot)) := by exact ⟨by kernel_rfl, by kernel_rfl, by kernel_rfl, by kernel_rfl, by kernel_rfl⟩
theorem rrow_45 : rrowsV[225]? = some (.string (rowAt 45).nm) ∧ rrowsV[226]? = some (.int .u8 ((rowAt 45).sh : Int)) ∧ rrowsV[227]? = some (.int .u32 (U (rowAt 45).cd)) ∧ rrowsV[228]? = some (.int .u32 (U (rowAt 45).f)) ∧ rrowsV[229]? = some (.int .u32 (U (rowAt 45).ot)) := by exact ⟨by kernel_rfl, by kernel_rfl, by kernel_rfl, by kernel_rfl, by kernel_rfl⟩
theorem rrow_46 : rrowsV[230]? = some (.string (rowAt 46).nm) ∧ rrowsV[231]? = some (.int .u8 ((rowAt 46).sh : Int)) ∧ rrowsV[232]? = some (.int .u32 (U (rowAt 46).cd)) ∧ rrowsV[233]? = some (.int .u32 (U (rowAt 46).f)) ∧ rrowsV[234]? = some (.int .u32 (U (rowAt 46).ot)) := by exact ⟨by kernel_rfl, by kernel_rfl, by kernel_rfl, by kernel_rfl, by kernel_rfl⟩
theorem rrow_47 : rrowsV[235]? = some (.string (rowAt 47).nm) ∧ rrowsV[236]? = some (.int .u8 ((rowAt 47).sh : Int)) ∧ rrowsV[237]? = some (.int .u32 (U (rowAt 47).cd)) ∧ rrowsV[238]? = some (.int .u32 (U (rowAt 47).f)) ∧ rrowsV[239]? = some (.int .u32 (U (rowAt 47).ot)) := by exact ⟨by kernel_rfl, by kernel_rfl, by kernel_rfl, by kernel_rfl, by kernel_rfl⟩
theorem rrow_48 : rrowsV[240]? = some (.string (rowAt 48).nm) ∧ rrowsV[241]? = some (.int .u8 ((rowAt 48).sh : Int)) ∧ rrowsV[242]? = some (.int .u32 (U (rowAt 48).cd)) ∧ rrowsV[243]? = some (.int .u32 (U (rowAt 48).f)) ∧ rrowsV[244]? = some (.int .u32 (U (rowAt 48).ot)) := by exact ⟨by kernel_rfl, by kernel_rfl, by kernel_rfl, by kernel_rfl, by kernel_rfl⟩
theorem rrow_49 : rrowsV[245]? = some (.string (rowAt 49).nm) ∧ rrowsV[246]? = some (.int .u8 ((rowAt 49).sh : Int)) ∧ rrowsV[247]? = some (.int .u32 (U (rowAt 49).cd)) ∧ rrowsV[248]? = some (.int .u32 (U (rowAt 49).f)) ∧ rrowsV[249]? = some (.int .u32 (U (rowAt 49).ot)) := by exact ⟨by kernel_rfl, by kernel_rfl, by kernel_rfl, by kernel_rfl, by kernel_rfl⟩
theorem rrow_50 : rrowsV[250]? = some (.string (rowAt 50).nm) ∧ rrowsV[251]? = some (.int .u8 ((rowAt 50).sh : Int)) ∧ rrowsV[252]? = some (.int .u32 (U (rowAt 50).cd)) ∧ rrowsV[253]? = some (.int .u32 (U (rowAt 50).f)) ∧ rrowsV[254]? = some (.int .u32 (U (rowAt 50).ot)) := by exact ⟨by kernel_rfl, by kernel_rfl, by kernel_rfl, by kernel_rfl, by kernel_rfl⟩
theorem rrow_51 : rrowsV[255]? = some (.string (rowAt 51).nm) ∧ rrowsV[256]? = some (.int .u8 ((rowAt 51).sh : Int)) ∧ rrowsV[257]? = some (.int .u32 (U (rowAt 51).cd)) ∧ rrowsV[258]? = some (.int .u32 (U (rowAt 51).f)) ∧ rrowsV[259]? = some (.int .u32 (U (rowAt 51).ot)) := by exact ⟨by kernel_rfl, by kernel_rfl, by kernel_rfl, by kernel_rfl, by kernel_rfl⟩
theorem rrow_52 : rrowsV[260]? = some (.string (rowAt 52).nm) ∧ rrowsV[261]? = some (.int .u8 ((rowAt 52).sh : Int)) ∧ rrowsV[262]? = some (.int .u32 (U (rowAt 52).cd)) ∧ rrowsV[263]? = some (.int .u32 (U (rowAt 52).f)) ∧ rrowsV[264]? = some (.int .u32 (U (rowAt 52).ot)) := by exact ⟨by kernel_rfl, by kernel_rfl, by kernel_rfl, by kernel_rfl, by kernel_rfl⟩
theorem rrow_53 : rrowsV[265]? = some (.string (rowAt 53).nm) ∧ rrowsV[266]? = some (.int .u8 ((rowAt 53).sh : Int)) ∧ rrowsV[267]? = some (.int .u32 (U (rowAt 53).cd)) ∧ rrowsV[268]? = some (.int .u32 (U (rowAt 53).f)) ∧ rrowsV[269]? = some (.int .u32 (U (rowAt 53).ot)) := by exact ⟨by kernel_rfl, by kernel_rfl, by kernel_rfl, by kernel_rfl, by kernel_rfl⟩
theorem rrow_54 : rrowsV[270]? = some (.string (rowAt 54).nm) ∧ rrowsV[271]? = some (.int .u8 ((rowAt 54).sh : Int)) ∧ rrowsV[272]? = some (.int .u32 (U (rowAt 54).cd)) ∧ rrowsV[273]? = some (.int .u32 (U (rowAt 54).f)) ∧ rrowsV[274]? = some (.int .u32 (U (rowAt 54).ot)) := by exact ⟨by kernel_rfl, by kernel_rfl, by kernel_rfl, by kernel_rfl, by kernel_rfl⟩
theorem rrow_55 : rrowsV[275]? = some (.string (rowAt 55).nm) ∧ rrowsV[276]? = some (.int .u8 ((rowAt 55).sh : Int)) ∧ rrowsV[277]? = some (.int .u32 (U (rowAt 55).cd)) ∧ rrowsV[278]? = some (.int .u32 (U (rowAt 55).f)) ∧ rrowsV[279]? = some (.int .u32 (U (rowAt 55).ot)) := by exact ⟨by kernel_rfl, by kernel_rfl, by kernel_rfl, by kernel_rfl, by kernel_rfl⟩
theorem rrow_56 : rrowsV[280]? = some (.string (rowAt 56).nm) ∧ rrowsV[281]? = some (.int .u8 ((rowAt 56).sh : Int)) ∧ rrowsV[282]? = some (.int .u32 (U (rowAt 56).cd)) ∧ rrowsV[283]? = some (.int .u32 (U (rowAt 56).f)) ∧ rrowsV[284]? = some (.int .u32 (U (rowAt 56).ot)) := by exact ⟨by kernel_rfl, by kernel_rfl, by kernel_rfl, by kernel_rfl, by kernel_rfl⟩
theorem rrow_57 : rrowsV[285]? = some (.string (rowAt 57).nm) ∧ rrowsV[286]? = some (.int .u8 ((rowAt 57).sh : Int)) ∧ rrowsV[287]? = some (.int .u32 (U (rowAt 57).cd)) ∧ rrowsV[288]? = some (.int .u32 (U (rowAt 57).f)) ∧ rrowsV[289]? = some (.int .u32 (U (rowAt 57).ot)) := by exact ⟨by kernel_rfl, by kernel_rfl, by kernel_rfl, by kernel_rfl, by kernel_rfl⟩
theorem rrow_58 : rrowsV[290]? = some (.string (rowAt 58).nm) ∧ rrowsV[291]? = some (.int .u8 ((rowAt 58).sh : Int)) ∧ rrowsV[292]? = some (.int .u32 (U (rowAt 58).cd)) ∧ rrowsV[293]? = some (.int .u32 (U (rowAt 58).f)) ∧ rrowsV[294]? = some (.int .u32 (U (rowAt 58).ot)) := by exact ⟨by kernel_rfl, by kernel_rfl, by kernel_rfl, by kernel_rfl, by kernel_rfl⟩
theorem rrow_59 : rrowsV[295]? = some (.string (rowAt 59).nm) ∧ rrowsV[296]? = some (.int .u8 ((rowAt 59).sh : Int)) ∧ rrowsV[297]? = some (.int .u32 (U (rowAt 59).cd)) ∧ rrowsV[298]? = some (.int .u32 (U (rowAt 59).f)) ∧ rrowsV[299]? = some (.int .u32 (U (rowAt 59).ot)) := by exact ⟨by kernel_rfl, by kernel_rfl, by kernel_rfl, by kernel_rfl, by kernel_rfl⟩
theorem rrow_60 : rrowsV[300]? = some (.string (rowAt 60).nm) ∧ rrowsV[301]? = some (.int .u8 ((rowAt 60).sh : Int)) ∧ rrowsV[302]? = some (.int .u32 (U (rowAt 60).cd)) ∧ rrowsV[303]? = some (.int .u32 (U (rowAt 60).f)) ∧ rrowsV[304]? = some (.int .u32 (U (rowAt 60).ot)) := by exact ⟨by kernel_rfl, by kernel_rfl, by kernel_rfl, by kernel_rfl, by kernel_rfl⟩
theorem rrow_61 : rrowsV[305]? = some (.string (rowAt 61).nm) ∧ rrowsV[306]? = some (.int .u8 ((rowAt 61).sh : Int)) ∧ rrowsV[307]? = some (.int .u32 (U (rowAt 61).cd)) ∧ rrowsV[308]? = some (.int .u32 (U (rowAt 61).f)) ∧ rrowsV[309]? = some (.int .u32 (U (rowAt 61).ot)) := by exact ⟨by kernel_rfl, by kernel_rfl, by kernel_rfl, by kernel_rfl, by kernel_rfl⟩
theorem rrow_62 : rrowsV[310]? = some (.string (rowAt 62).nm) ∧ rrowsV[311]? = some (.int .u8 ((rowAt 62).sh : Int)) ∧ rrowsV[312]? = some (.int .u32 (U (rowAt 62).cd)) ∧ rrowsV[313]? = some (.int .u32 (U (rowAt 62).f)) ∧ rrowsV[314]? = some (.int .u32 (U (rowAt 62).ot)) := by exact ⟨by kernel_rfl, by kernel_rfl, by kernel_rfl, by kernel_rfl, by kernel_rfl⟩
theorem rrow_63 : rrowsV[315]? = some (.string (rowAt 63).nm) ∧ rrowsV[316]? = some (.int .u8 ((rowAt 63).sh : Int)) ∧ rrowsV[317]? = some (.int .u32 (U (rowAt 63).cd)) ∧ rrowsV[318]? = some (.int .u32 (U (rowAt 63).f)) ∧ rrowsV[319]? = some (.int .u32 (U (rowAt 63).ot)) := by exact ⟨by kernel_rfl, by kernel_rfl, by kernel_rfl, by kernel_rfl, by kernel_rfl⟩
theorem rrow_64 : rrowsV[320]? = some (.string (rowAt 64).nm) ∧ rrowsV[321]? = some (.int .u8 ((rowAt 64).sh : Int)) ∧ rrowsV[322]? = some (.int .u32 (U (rowAt 64).cd)) ∧ rrowsV[323]? = some (.int .u32 (U (rowAt 64).f)) ∧ rrowsV[324]? = some (.int .u32 (U (rowAt 64).ot)) := by exact ⟨by kernel_rfl, by kernel_rfl, by kernel_rfl, by kernel_rfl, by kernel_rfl⟩
theorem rrow_65 : rrowsV[325]? = some (.string (rowAt 65).nm) ∧ rrowsV[326]? = some (.int .u8 ((rowAt 65).sh : Int)) ∧ rrowsV[327]? = some (.int .u32 (U (rowAt 65).cd)) ∧ rrowsV[328]? = some (.int .u32 (U (rowAt 65).f)) ∧ rrowsV[329]? = some (.int .u32 (U (rowAt 65).ot)) := by exact ⟨by kernel_rfl, by kernel_rfl, by kernel_rfl, by kernel_rfl, by kernel_rfl⟩
theorem rrow_66 : rrowsV[330]? = some (.string (rowAt 66).nm) ∧ rrowsV[331]? = some (.int .u8 ((rowAt 66).sh : Int)) ∧ rrowsV[332]? = some (.int .u32 (U (rowAt 66).cd)) ∧ rrowsV[333]? = some (.int .u32 (U (rowAt 66).f)) ∧ rrowsV[334]? = some (.int .u32 (U (rowAt 66).ot)) := by exact ⟨by kernel_rfl, by kernel_rfl, by kernel_rfl, by kernel_rfl, by kernel_rfl⟩
theorem rrow_67 : rrowsV[335]? = some (.string (rowAt 67).nm) ∧ rrowsV[336]? = some (.int .u8 ((rowAt 67).sh : Int)) ∧ rrowsV[337]? = some (.int .u32 (U (rowAt 67).cd)) ∧ rrowsV[338]? = some (.int .u32 (U (rowAt 67).f)) ∧ rrowsV[339]? = some (.int .u32 (U (rowAt 67).ot)) := by exact ⟨by kernel_rfl, by kernel_rfl, by kernel_rfl, by kernel_rfl, by kernel_rfl⟩
theorem rrow_68 : rrowsV[340]? = some (.string (rowAt 68).nm) ∧ rrowsV[341]? = some (.int .u8 ((rowAt 68).sh : Int)) ∧ rrowsV[342]? = some (.int .u32 (U (rowAt 68).cd)) ∧ rrowsV[343]? = some (.int .u32 (U (rowAt 68).f)) ∧ rrowsV[344]? = some (.int .u32 (U (rowAt 68).ot)) := by exact ⟨by kernel_rfl, by kernel_rfl, by kernel_rfl, by kernel_rfl, by kernel_rfl⟩
theorem rrow_at (k : Nat) (h : k < 69) : rrowsV[k * 5]? = some (.string (rowAt k).nm) ∧ rrowsV[k * 5 + 1]? = some (.int .u8 ((rowAt k).sh : Int)) ∧ rrowsV[k * 5 + 2]? = some (.int .u32 (U (rowAt k).cd)) ∧ rrowsV[k * 5 + 3]? = some (.int .u32 (U (rowAt k).f)) ∧ rrowsV[k * 5 + 4]? = some (.int .u32 (U (rowAt k).ot)) := by
  match k, h with
  | 0, _ => exact rrow_0
  | 1, _ => exact rrow_1
  | 2, _ => exact rrow_2
  | 3, _ => exact rrow_3
  | 4, _ => exact rrow_4
  | 5, _ => exact rrow_5
  | 6, _ => exact rrow_6
  | 7, _ => exact rrow_7
  | 8, _ => exact rrow_8
  | 9, _ => exact rrow_9
  | 10, _ => exact rrow_10
  | 11, _ => exact rrow_11
  | 12, _ => exact rrow_12
  | 13, _ => exact rrow_13
  | 14, _ => exact rrow_14
  | 15, _ => exact rrow_15
  | 16, _ => exact rrow_16
  | 17, _ => exact rrow_17
  | 18, _ => exact rrow_18
  | 19, _ => exact rrow_19
  | 20, _ => exact rrow_20
  | 21, _ => exact rrow_21
  | 22, _ => exact rrow_22
  | 23, _ => exact rrow_23
  | 24, _ => exact rrow_24
  | 25, _ => exact rrow_25
  | 26, _ => exact rrow_26
  | 27, _ => exact rrow_27
  | 28, _ => exact rrow_28
  | 29, _ => exact rrow_29
  | 30, _ => exact rrow_30
  | 31, _ => exact rrow_31
  | 32, _ => exact rrow_32
  | 33, _ => exact rrow_33
  | 34, _ => exact rrow_34
  | 35, _ => exact rrow_35
  | 36, _ => exact rrow_36
  | 37, _ => exact rrow_37
  | 38, _ => exact rrow_38
  | 39, _ => exact rrow_39
  | 40, _ => exact rrow_40
  | 41, _ => exact rrow_41
  | 42, _ => exact rrow_42
  | 43, _ => exact rrow_43
  | 44, _ => exact rrow_44
  | 45, _ => exact rrow_45
  | 46, _ => exact rrow_46
  | 47, _ => exact rrow_47
  | 48, _ => exact rrow_48
  | 49, _ => exact rrow_49
  | 50, _ => exact rrow_50
  | 51, _ => exact rrow_51
  | 52, _ => exact rrow_52
  | 53, _ => exact rrow_53
  | 54, _ => exact rrow_54
  | 55, _ => exact rrow_55
  | 56, _ => exact rrow_56
  | 57, _ => exact rrow_57
  | 58, _ => exact rrow_58
  | 59, _ => exact rrow_59
  | 60, _ => exact rrow_60
  | 61, _ => exact rrow_61
  | 62, _ => exact rrow_62
  | 63, _ => exact rrow_63
  | 64, _ => exact rrow_64
  | 65, _ => exact rrow_65
  | 66, _ => exact rrow_66
  | 67, _ => exact rrow_67
  | 68, _ => exact rrow_68
  | n + 69, h => omega
set_option maxHeartbeats 4000000 in
set_option maxRecDepth 100000 in
theorem rrows_any (w : World) : Calls Try.prog 23 #[] w fun r w' => (∃ b, r = .returned (.slice (some ⟨b, 0, none⟩) 69 69) ∧ w.heap.size ≤ b ∧ RowsIn w' b) ∧ Below w.heap.size w w' := by
  go_enter Try.func23, Try.ntmps23
  refine wp_seq (wp_region_lit (wpList_val (.slice none 0 0) rfl (by kernel_rfl) (wpList_nil ?_)))
  show Code.wp _ _ _ _ _
  refine wp_seq (wp_region_lit (wpList_builds_take 69 _ rrowsA 1 _ ⟨(Value.slice none 0 0 :: rrowsA ++ [undef]).toArray, []⟩ _ ?b (by kernel_rfl) ?_))
  case b =>
    repeat (first | exact trivial | refine ⟨⟨rfl, rfl, fun _ _ => by kernel_rfl⟩, ?_⟩)
  refine wpList_val_in (.slice (some ⟨w.heap.size, 0, none⟩) 69 69) (w.alloc (.cells rrowsV.toArray 63)) rfl (by kernel_rfl) ?_
  refine wpList_val (.slice (some ⟨w.heap.size, 0, none⟩) 69 69) rfl (by kernel_rfl) (wpList_nil ?_)
  show Code.wp _ _ _ _ _
  refine wp_ret ?_
  refine bodyPost_ret (results_tmp rfl _ _ _) rfl ?_
  have h := heap_alloc_new w (.cells rrowsV.toArray 63)
  have hc : ∀ j v, rrowsV[j]? = some v → (w.alloc (.cells rrowsV.toArray 63)).cell? ⟨w.heap.size, j, none⟩ = some v := fun j v hv => by
    rw [cell_of_row _ _ j _ _ _ h]
    simpa using hv
  refine ⟨⟨w.heap.size, rfl, Nat.le_refl _, by simp, fun k hk => ?_⟩, (Below.refl _ w).alloc (Nat.le_refl _) _⟩
  obtain ⟨a, c, d, e, f⟩ := rrow_at k hk
  exact ⟨hc _ _ a, hc _ _ c, hc _ _ d, hc _ _ e, hc _ _ f⟩
end Go.Proofs.Ytokfokgbbpjgdaa
