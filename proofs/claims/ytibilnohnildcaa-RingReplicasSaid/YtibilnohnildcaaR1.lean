/- The sum of a text by hand: hash.XX. -/
import Derived.Test.YtibilnohnildcaaQ1
import Derived.Test.YtibilnohnildcaaQ7
namespace Go.Proofs.Ytibilnohnildcaa.R
open Go.RowKit Go.Proofs.Ytibilnohnildcaa.Q Go.Proofs.YtibilnohnildcaaW.PrintWords Go.Proofs.YtibilnohnildcaaW.PrintLast Go.Proofs.YtibilnohnildcaaW.PrintMore
set_option linter.unusedVariables false
set_option linter.unusedSimpArgs false
def xx.T12 : Bool × List (List Nat × List Nat) := (true, [([], []), ([], []), ([1], [1]), ([2], [2]), ([], []), ([], []), ([5], [5]), ([], []), ([7], [7]), ([8], [8]), ([4, 6, 9], [4, 6, 9]), ([10], [10]), ([3, 11, 11], [3, 11]), ([0, 0, 1, 2, 3, 4, 5, 6, 7, 8, 9, 10, 11, 12], [0]), ([13, 12, 12, 0, 1, 2, 3, 4, 5, 6, 7, 8, 9, 10, 11, 12], [12, 13])])
def xx.B12 : List Nat := [0, 0, 2, 6, 0, 0, 32, 0, 128, 384, 1008, 2032, 4094, 8191, 16383]
theorem xx.tab12 : rtab .any (opsOf Try.f30 12) = xx.T12 := by kernel_rfl
theorem xx.bits12 : waitsOk xx.T12.2 xx.B12 = true := by kernel_rfl
def xx.T14 : Bool × List (List Nat × List Nat) := (true, [([], []), ([0], [0]), ([1], [1]), ([], []), ([3], [3]), ([4, 2], [4]), ([2, 5], [2, 5]), ([], []), ([7], [7]), ([8, 5], [8]), ([6, 9], [6, 9]), ([], []), ([11], [11]), ([12, 9], [12]), ([10, 13], [10, 13]), ([14, 13, 0, 1, 2, 3, 4, 5, 6, 7, 8, 9, 10, 11, 12, 13, 14], [14])])
def xx.B14 : List Nat := [0, 1, 3, 0, 8, 31, 63, 0, 128, 447, 1023, 0, 2048, 7103, 16383, 32767]
theorem xx.tab14 : rtab .any (opsOf Try.f30 14) = xx.T14 := by kernel_rfl
theorem xx.bits14 : waitsOk xx.T14.2 xx.B14 = true := by kernel_rfl
theorem wrap_id {n : Int} (h0 : -9223372036854775808 ≤ n) (h1 : n ≤ 9223372036854775807) : wrap64 n = n := by unfold wrap64; omega
/-- A word turned to the left. -/
def rotT (x n : Int) : Int := Go.bits .or .u64 (shl .u64 x n) (shr .u64 x (64 - n))
def rndT (a x : Int) : Int := IntKind.u64.wrap (rotT (IntKind.u64.wrap (a + IntKind.u64.wrap (x * 14029467366897019727))) 31 * 11400714785074694791)
def mrgT (h a : Int) : Int := IntKind.u64.wrap (IntKind.u64.wrap (Go.bits .xor .u64 h (rndT 0 a) * 11400714785074694791) + 9650029242287828579)
/-- The number of some bytes, the lowest first. -/
def lowT (l : List Int) : Int := (hash_low.f 10 l).getD 0
/-- Four words, when i lanes of 32 bytes were taken in. -/
def lanes (cs l : List Int) : Nat → List Int
  | 0 => cs
  | i + 1 => (lanes cs l i).set i (rndT ((lanes cs l i).getD i 0) (lowT ((l.take (8 * i + 8)).drop (8 * i))))
def stripes : Nat → List Int → List Int → List Int × List Int
  | 0, cs, l => (cs, l)
  | k + 1, cs, l => if 32 ≤ l.length then stripes k (lanes cs l 4) (l.drop 32) else (cs, l)
def mrgs (h : Int) (cs : List Int) : Nat → Int
  | 0 => h
  | i + 1 => mrgT (mrgs h cs i) (cs.getD i 0)
def sum4 (cs : List Int) : Int := IntKind.u64.wrap (IntKind.u64.wrap (IntKind.u64.wrap (rotT (cs.getD 0 0) 1 + rotT (cs.getD 1 0) 7) + rotT (cs.getD 2 0) 12) + rotT (cs.getD 3 0) 18)
def begin4 : List Int := [IntKind.u64.wrap 25430182151971714518, 14029467366897019727, 0, IntKind.u64.wrap (-11400714785074694791)]
def words8 : Nat → Int → List Int → Int × List Int
  | 0, h, l => (h, l)
  | k + 1, h, l => if 8 ≤ l.length then words8 k (IntKind.u64.wrap (IntKind.u64.wrap (rotT (Go.bits .xor .u64 h (rndT 0 (lowT (l.take 8)))) 27 * 11400714785074694791) + 9650029242287828579)) (l.drop 8) else (h, l)
def word4 (h : Int) (l : List Int) : Int × List Int := if 4 ≤ l.length then (IntKind.u64.wrap (IntKind.u64.wrap (rotT (Go.bits .xor .u64 h (IntKind.u64.wrap (lowT (l.take 4) * 11400714785074694791))) 23 * 14029467366897019727) + 1609587929392839161), l.drop 4) else (h, l)
def byteT (h b : Int) : Int := IntKind.u64.wrap (rotT (Go.bits .xor .u64 h (IntKind.u64.wrap (IntKind.u64.wrap b * 2870177450012600261))) 11 * 11400714785074694791)
def bytesT (h : Int) (l : List Int) : Nat → Int
  | 0 => h
  | i + 1 => byteT (bytesT h l i) (rd l (i : Int))
def lastT (h : Int) : Int :=
  let h1 := IntKind.u64.wrap (Go.bits .xor .u64 h (h / 8589934592) * 14029467366897019727)
  let h2 := IntKind.u64.wrap (Go.bits .xor .u64 h1 (h1 / 536870912) * 1609587929392839161)
  Go.bits .xor .u64 h2 (h2 / 4294967296)
/-- What is left when the great part was taken in: the sum so far, and bytes. -/
def tailT (h : Int) (l : List Int) : Int :=
  let p := words8 (l.length + 1) h l
  let q := word4 p.1 p.2
  lastT (bytesT q.1 q.2 q.2.length)
/-- xxHash64. -/
def xx (l : List Int) : Int :=
  if 32 ≤ l.length then
    let p := stripes (l.length + 1) begin4 l
    tailT (IntKind.u64.wrap (mrgs (sum4 p.1) p.1 4 + (l.length : Int))) p.2
  else tailT (IntKind.u64.wrap (2870177450012600261 + (l.length : Int))) l
theorem xx_small_eq {l : List Int} (h : ¬ 32 ≤ l.length) : xx l = tailT (IntKind.u64.wrap (2870177450012600261 + (l.length : Int))) l := if_neg h
theorem xx_great_eq {l : List Int} (h : 32 ≤ l.length) : xx l = tailT (IntKind.u64.wrap (mrgs (sum4 (stripes (l.length + 1) begin4 l).1) (stripes (l.length + 1) begin4 l).1 4 + (l.length : Int))) (stripes (l.length + 1) begin4 l).2 := if_pos h
theorem tail_eq (h : Int) (l : List Int) : tailT h l = lastT (bytesT (word4 (words8 (l.length + 1) h l).1 (words8 (l.length + 1) h l).2).1 (word4 (words8 (l.length + 1) h l).1 (words8 (l.length + 1) h l).2).2 (word4 (words8 (l.length + 1) h l).1 (words8 (l.length + 1) h l).2).2.length) := rfl
theorem rot1 (x : Int) : bits_RotateLeft64.f x 1 = some (rotT x 1) := by unfold bits_RotateLeft64.f; rw [if_pos (by decide), if_pos (by decide)]; rfl
theorem rot7 (x : Int) : bits_RotateLeft64.f x 7 = some (rotT x 7) := by unfold bits_RotateLeft64.f; rw [if_pos (by decide), if_pos (by decide)]; rfl
theorem rot11 (x : Int) : bits_RotateLeft64.f x 11 = some (rotT x 11) := by unfold bits_RotateLeft64.f; rw [if_pos (by decide), if_pos (by decide)]; rfl
theorem rot12 (x : Int) : bits_RotateLeft64.f x 12 = some (rotT x 12) := by unfold bits_RotateLeft64.f; rw [if_pos (by decide), if_pos (by decide)]; rfl
theorem rot18 (x : Int) : bits_RotateLeft64.f x 18 = some (rotT x 18) := by unfold bits_RotateLeft64.f; rw [if_pos (by decide), if_pos (by decide)]; rfl
theorem rot23 (x : Int) : bits_RotateLeft64.f x 23 = some (rotT x 23) := by unfold bits_RotateLeft64.f; rw [if_pos (by decide), if_pos (by decide)]; rfl
theorem rot27 (x : Int) : bits_RotateLeft64.f x 27 = some (rotT x 27) := by unfold bits_RotateLeft64.f; rw [if_pos (by decide), if_pos (by decide)]; rfl
theorem rot31 (x : Int) : bits_RotateLeft64.f x 31 = some (rotT x 31) := by unfold bits_RotateLeft64.f; rw [if_pos (by decide), if_pos (by decide)]; rfl
theorem rnd_f (a x : Int) : hash_round.f a x = some (rndT a x) := by unfold hash_round.f; rw [rot31]; rfl
theorem mrg_f (h a : Int) : hash_merge.f h a = some (mrgT h a) := by unfold hash_merge.f; rw [rnd_f]; rfl
theorem low4 {l : List Int} (h : l.length = 4) : hash_low.f 10 l = some (lowT l) := by
  match l, h with
  | [a, b, c, d], _ => unfold lowT; simp [hash_low.f, hash_low.l0, rd, wrap64]
theorem low8 {l : List Int} (h : l.length = 8) : hash_low.f 10 l = some (lowT l) := by
  match l, h with
  | [a, b, c, d, e, f, g, i], _ => unfold lowT; simp [hash_low.f, hash_low.l0, rd, wrap64]
end Go.Proofs.Ytibilnohnildcaa.R
