/- The examples of the chapter on dumps (plain facts). -/
import Derived.Test.YtbojbnpafoaljaaDoorDF
import Derived.Test.YtbojbnpafoaljaaDoorDG
namespace Go.Ab
open Go.RowKit Go.Proofs.YtbojbnpafoaljaaDoor
def exA : Ln := ⟨6, 167772161, 134744072, 40000, 80, 0, 1, true, true, 500, 7⟩
def exB : Ln := ⟨17, 167772161, 134744072, 53, 53, 1, 5, false, false, 30, 1⟩
def exTa : List UInt8 := [54, 32, 49, 48, 46, 48, 46, 48, 46, 49, 58, 52, 48, 48, 48, 48, 32, 56, 46, 56, 46, 56, 46, 56, 58, 56, 48, 32, 105, 110, 115, 105, 100, 101, 32, 116, 99, 112, 45, 111, 112, 101, 110, 32, 114, 101, 112, 108, 105, 101, 100, 32, 97, 115, 115, 117, 114, 101, 100, 32, 100, 101, 97, 100, 108, 105, 110, 101, 32, 53, 48, 48, 32, 115, 101, 101, 110, 32, 55]
def exTb : List UInt8 := [49, 55, 32, 49, 48, 46, 48, 46, 48, 46, 49, 58, 53, 51, 32, 56, 46, 56, 46, 56, 46, 56, 58, 53, 51, 32, 111, 117, 116, 115, 105, 100, 101, 32, 117, 100, 112, 45, 111, 110, 101, 32, 100, 101, 97, 100, 108, 105, 110, 101, 32, 51, 48, 32, 115, 101, 101, 110, 32, 49]
def bad1 : List UInt8 := [49, 55, 32, 49, 48, 46, 48, 46, 48, 46, 49, 58, 53, 51, 32, 56, 46, 56, 46, 56, 46, 56, 58, 53, 51, 32, 111, 117, 116, 115, 105, 100, 101, 32, 117, 100, 112, 45, 111, 110, 101, 32, 97, 115, 115, 117, 114, 101, 100, 32, 100, 101, 97, 100, 108, 105, 110, 101, 32, 51, 48, 32, 115, 101, 101, 110, 32, 49]
def bad2 : List UInt8 := [49, 55, 32, 49, 48, 46, 48, 46, 48, 46, 49, 58, 53, 51, 32, 56, 46, 56, 46, 56, 46, 56, 58, 53, 51, 32, 111, 117, 116, 115, 105, 100, 101, 32, 117, 100, 112, 45, 111, 110, 101, 32, 100, 101, 97, 100, 108, 105, 110, 101, 32, 45, 49, 32, 115, 101, 101, 110, 32, 49]
def bad3 : List UInt8 := [49, 55, 32, 49, 48, 46, 48, 46, 48, 46, 49, 58, 53, 51, 32, 56, 46, 56, 46, 56, 46, 56, 58, 53, 51, 32, 111, 117, 116, 115, 105, 100, 101, 32, 32, 117, 100, 112, 45, 111, 110, 101, 32, 100, 101, 97, 100, 108, 105, 110, 101, 32, 51, 48, 32, 115, 101, 101, 110, 32, 49]
def exC : List Int := [0, 0, 0, 0, 0, 0, 0, 0, 0, 0, 0, 1, 0, 0, 0, 0, 0, 0, 0, 0, 3, 0, 0, 0, 0, 0, 0, 0, 0, 0, 0]
theorem exA_b : LnB exA := by constructor <;> first | (constructor <;> decide) | decide
theorem exB_b : LnB exB := by constructor <;> first | (constructor <;> decide) | decide
theorem ex_ordered : orderedL [exA, exB] = true := by decide +kernel
theorem ex_ordered1 : orderedL [exA] = true := by decide +kernel
theorem ex_ta : exA.text = exTa := by decide +kernel
theorem ex_tb : exB.text = exTb := by decide +kernel
theorem ex_reads : readsL [exTa, exTb] = (some [exA, exB], 0) := by decide +kernel
theorem bad1_none : readLn bad1 = none := by decide +kernel
theorem bad2_none : readLn bad2 = none := by decide +kernel
theorem bad3_none : readLn bad3 = none := by decide +kernel
theorem ex_diff : diffL [exA] [exA, exB] = [⟨1, Ln.zero, exB⟩] := by decide +kernel
theorem ex_counts : countsL exC = [[116, 116, 108, 32, 49], [102, 108, 111, 119, 32, 51]] := by decide +kernel
theorem ex_countsB : (exC.all fun n => decide (0 ≤ n)) = true := by decide +kernel
end Go.Ab
