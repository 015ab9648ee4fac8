/- The tables, as the program reckons them, as lists. -/
import Derived.Test.YtiaceoecilinkaaA0
namespace Go.Proofs.Ytiaceoecilinkaa
open Go.RowKit
set_option linter.unusedSimpArgs false

def zs (n : Nat) : List Value := bvs (List.replicate n 0)
def iv (x : Nat) : Value := .int .i64 (x : Int)
def ivs (xs : List Nat) : List Value := xs.map iv
theorem zero45 (w : World) : Sem.run Try.prog (zeroValue 45) w = .ok (.agg (zs 512).toArray) w := by kernel_rfl
theorem zero43 (w : World) : Sem.run Try.prog (zeroValue 43) w = .ok (.agg (zs 256).toArray) w := by kernel_rfl
theorem zero46 (w : World) : Sem.run Try.prog (zeroValue 46) w = .ok (.agg (ivs (List.replicate 256 0)).toArray) w := by kernel_rfl
theorem ivs_set (xs : List Nat) (k x : Nat) : (ivs xs).set k (.int .i64 (x : Int)) = ivs (xs.set k x) := by
  simp [ivs, iv, List.map_set]

/-- The powers of three. -/
def pw : Nat → Nat
  | 0 => 1
  | k + 1 => pw k ^^^ dbl (pw k)
theorem pw_lt : ∀ k, pw k < 256
  | 0 => by decide
  | k + 1 => Nat.xor_lt_two_pow (n := 8) (pw_lt k) (dbl_lt _)
def powL : Nat → List Nat
  | 0 => List.replicate 256 0
  | k + 1 => (powL k).set k (pw k)
def logL : Nat → List Nat
  | 0 => List.replicate 256 0
  | k + 1 => (logL k).set (pw k) k
theorem powL_length : ∀ k, (powL k).length = 256
  | 0 => List.length_replicate
  | k + 1 => by simp [powL, powL_length k]
theorem logL_length : ∀ k, (logL k).length = 256
  | 0 => List.length_replicate
  | k + 1 => by simp [logL, logL_length k]

def powLit : List Nat := [1, 3, 5, 15, 17, 51, 85, 255, 26, 46, 114, 150, 161, 248, 19, 53, 95, 225, 56, 72, 216, 115, 149, 164, 247, 2, 6, 10, 30, 34, 102, 170, 229, 52, 92, 228, 55, 89, 235, 38, 106, 190, 217, 112, 144, 171, 230, 49, 83, 245, 4, 12, 20, 60, 68, 204, 79, 209, 104, 184, 211, 110, 178, 205, 76, 212, 103, 169, 224, 59, 77, 215, 98, 166, 241, 8, 24, 40, 120, 136, 131, 158, 185, 208, 107, 189, 220, 127, 129, 152, 179, 206, 73, 219, 118, 154, 181, 196, 87, 249, 16, 48, 80, 240, 11, 29, 39, 105, 187, 214, 97, 163, 254, 25, 43, 125, 135, 146, 173, 236, 47, 113, 147, 174, 233, 32, 96, 160, 251, 22, 58, 78, 210, 109, 183, 194, 93, 231, 50, 86, 250, 21, 63, 65, 195, 94, 226, 61, 71, 201, 64, 192, 91, 237, 44, 116, 156, 191, 218, 117, 159, 186, 213, 100, 172, 239, 42, 126, 130, 157, 188, 223, 122, 142, 137, 128, 155, 182, 193, 88, 232, 35, 101, 175, 234, 37, 111, 177, 200, 67, 197, 84, 252, 31, 33, 99, 165, 244, 7, 9, 27, 45, 119, 153, 176, 203, 70, 202, 69, 207, 74, 222, 121, 139, 134, 145, 168, 227, 62, 66, 198, 81, 243, 14, 18, 54, 90, 238, 41, 123, 141, 140, 143, 138, 133, 148, 167, 242, 13, 23, 57, 75, 221, 124, 132, 151, 162, 253, 28, 36, 108, 180, 199, 82, 246, 0]
def logLit : List Nat := [0, 0, 25, 1, 50, 2, 26, 198, 75, 199, 27, 104, 51, 238, 223, 3, 100, 4, 224, 14, 52, 141, 129, 239, 76, 113, 8, 200, 248, 105, 28, 193, 125, 194, 29, 181, 249, 185, 39, 106, 77, 228, 166, 114, 154, 201, 9, 120, 101, 47, 138, 5, 33, 15, 225, 36, 18, 240, 130, 69, 53, 147, 218, 142, 150, 143, 219, 189, 54, 208, 206, 148, 19, 92, 210, 241, 64, 70, 131, 56, 102, 221, 253, 48, 191, 6, 139, 98, 179, 37, 226, 152, 34, 136, 145, 16, 126, 110, 72, 195, 163, 182, 30, 66, 58, 107, 40, 84, 250, 133, 61, 186, 43, 121, 10, 21, 155, 159, 94, 202, 78, 212, 172, 229, 243, 115, 167, 87, 175, 88, 168, 80, 244, 234, 214, 116, 79, 174, 233, 213, 231, 230, 173, 232, 44, 215, 117, 122, 235, 22, 11, 245, 89, 203, 95, 176, 156, 169, 81, 160, 127, 12, 246, 111, 23, 196, 73, 236, 216, 67, 31, 45, 164, 118, 123, 183, 204, 187, 62, 90, 251, 96, 177, 134, 59, 82, 161, 108, 170, 85, 41, 157, 151, 178, 135, 144, 97, 190, 220, 252, 188, 149, 207, 205, 55, 63, 91, 209, 83, 57, 132, 60, 65, 162, 109, 71, 20, 42, 158, 93, 86, 242, 211, 171, 68, 17, 146, 217, 35, 32, 46, 137, 180, 124, 184, 38, 119, 153, 227, 165, 103, 74, 237, 222, 197, 49, 254, 24, 13, 99, 140, 128, 192, 247, 112, 7]
/-- What a byte becomes. -/
def boxLit : List Nat := [99, 124, 119, 123, 242, 107, 111, 197, 48, 1, 103, 43, 254, 215, 171, 118, 202, 130, 201, 125, 250, 89, 71, 240, 173, 212, 162, 175, 156, 164, 114, 192, 183, 253, 147, 38, 54, 63, 247, 204, 52, 165, 229, 241, 113, 216, 49, 21, 4, 199, 35, 195, 24, 150, 5, 154, 7, 18, 128, 226, 235, 39, 178, 117, 9, 131, 44, 26, 27, 110, 90, 160, 82, 59, 214, 179, 41, 227, 47, 132, 83, 209, 0, 237, 32, 252, 177, 91, 106, 203, 190, 57, 74, 76, 88, 207, 208, 239, 170, 251, 67, 77, 51, 133, 69, 249, 2, 127, 80, 60, 159, 168, 81, 163, 64, 143, 146, 157, 56, 245, 188, 182, 218, 33, 16, 255, 243, 210, 205, 12, 19, 236, 95, 151, 68, 23, 196, 167, 126, 61, 100, 93, 25, 115, 96, 129, 79, 220, 34, 42, 144, 136, 70, 238, 184, 20, 222, 94, 11, 219, 224, 50, 58, 10, 73, 6, 36, 92, 194, 211, 172, 98, 145, 149, 228, 121, 231, 200, 55, 109, 141, 213, 78, 169, 108, 86, 244, 234, 101, 122, 174, 8, 186, 120, 37, 46, 28, 166, 180, 198, 232, 221, 116, 31, 75, 189, 139, 138, 112, 62, 181, 102, 72, 3, 246, 14, 97, 53, 87, 185, 134, 193, 29, 158, 225, 248, 152, 17, 105, 217, 142, 148, 155, 30, 135, 233, 206, 85, 40, 223, 140, 161, 137, 13, 191, 230, 66, 104, 65, 153, 45, 15, 176, 84, 187, 22]
theorem powL_lit : powL 255 = powLit := by decide +kernel
theorem logL_lit : logL 255 = logLit := by decide +kernel
def inv_ (i : Nat) : Nat := if i = 0 then 0 else powLit.getD ((255 - logLit.getD i 0) % 255) 0
def sf (v : Nat) : Nat → Nat
  | 0 => 99
  | k + 1 => sf v k ^^^ ((v * 2 ^ k % 256) ||| (v / 2 ^ (8 - k)))
def tabL : Nat → List Nat
  | 0 => List.replicate 512 0
  | i + 1 => ((tabL i).set (256 + i) (dbl i)).set i (sf (inv_ i) 5)
theorem tabL_length : ∀ k, (tabL k).length = 512
  | 0 => List.length_replicate
  | k + 1 => by simp [tabL, tabL_length k]
theorem tab_lit : tabL 256 = boxLit ++ (List.range 256).map dbl := by decide +kernel
theorem powLit_lt : ∀ x ∈ powLit, x < 256 := by decide +kernel
theorem logLit_lt : ∀ x ∈ logLit, x < 255 := by decide +kernel
theorem boxLit_lt : ∀ x ∈ boxLit, x < 256 := by decide +kernel
theorem sf_lt (v : Nat) (hv : v < 256) : ∀ k, sf v k < 256
  | 0 => (by decide : 99 < 256)
  | k + 1 => Nat.xor_lt_two_pow (n := 8) (sf_lt v hv k) (Nat.or_lt_two_pow (n := 8) (by omega) (Nat.lt_of_le_of_lt (Nat.div_le_self _ _) hv))

end Go.Proofs.Ytiaceoecilinkaa
