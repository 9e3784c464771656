/- Words of 32 bits as the model counts them, and what digests are made of them: plain definitions and laws, no program. No conditions. -/
import Derived.WalkKit
import Derived.Lib.Hide
namespace Go.Proofs.YtjfeehoflahblaaDoor
open Go.RowKit

/-- x turned right by k. -/
def rot (x : Int) (k : Nat) : Int := bits .or .u32 (x / 2 ^ k) (x * 2 ^ (32 - k) % 4294967296)
theorem or_comm (k : IntKind) (x y : Int) : bits .or k x y = bits .or k y x := by
  unfold bits; simp only [BitVec.or_comm]
theorem and31 (n : Nat) (h0 : 0 < n) (h1 : n < 32) : bits .and .u64 (IntKind.u64.wrap (-(n : Int))) 31 = 32 - (n : Int) := by
  have e : IntKind.u64.wrap (-(n : Int)) = ((18446744073709551616 - n : Nat) : Int) := by rw [IntKind.wrap_u64]; omega
  have h := u64_and_nat (18446744073709551616 - n) 31 (by omega) (by omega)
  rw [e]
  have h31 : ((31 : Nat) : Int) = 31 := rfl
  rw [← h31, h, nat_mask5]
  omega

/-- The eight words at first. -/
def sha0 : List Int := [0x6a09e667, 0xbb67ae85, 0x3c6ef372, 0xa54ff53a, 0x510e527f, 0x9b05688c, 0x1f83d9ab, 0x5be0cd19]
/-- The words of the rounds. -/
def shaK : List Int := [
  0x428a2f98, 0x71374491, 0xb5c0fbcf, 0xe9b5dba5, 0x3956c25b, 0x59f111f1, 0x923f82a4, 0xab1c5ed5,
  0xd807aa98, 0x12835b01, 0x243185be, 0x550c7dc3, 0x72be5d74, 0x80deb1fe, 0x9bdc06a7, 0xc19bf174,
  0xe49b69c1, 0xefbe4786, 0x0fc19dc6, 0x240ca1cc, 0x2de92c6f, 0x4a7484aa, 0x5cb0a9dc, 0x76f988da,
  0x983e5152, 0xa831c66d, 0xb00327c8, 0xbf597fc7, 0xc6e00bf3, 0xd5a79147, 0x06ca6351, 0x14292967,
  0x27b70a85, 0x2e1b2138, 0x4d2c6dfc, 0x53380d13, 0x650a7354, 0x766a0abb, 0x81c2c92e, 0x92722c85,
  0xa2bfe8a1, 0xa81a664b, 0xc24b8b70, 0xc76c51a3, 0xd192e819, 0xd6990624, 0xf40e3585, 0x106aa070,
  0x19a4c116, 0x1e376c08, 0x2748774c, 0x34b0bcb5, 0x391c0cb3, 0x4ed8aa4a, 0x5b9cca4f, 0x682e6ff3,
  0x748f82ee, 0x78a5636f, 0x84c87814, 0x8cc70208, 0x90befffa, 0xa4506ceb, 0xbef9a3f7, 0xc67178f2]


/-- The other bits of a word. -/
def not32 (x : Int) : Int := bits .xor .u32 IntKind.u32.max x
/-- Four bytes as a word, the highest first. -/
def word4 (x0 x1 x2 x3 : Int) : Int :=
  bits .or .u32 (bits .or .u32 (bits .or .u32 (x0 % 4294967296 * 16777216 % 4294967296) (x1 % 4294967296 * 65536 % 4294967296)) (x2 % 4294967296 * 256 % 4294967296)) (x3 % 4294967296)
def sg0 (x : Int) : Int := bits .xor .u32 (bits .xor .u32 (rot x 7) (rot x 18)) (x / 8)
def sg1 (x : Int) : Int := bits .xor .u32 (bits .xor .u32 (rot x 17) (rot x 19)) (x / 1024)
/-- The n-th word of a chunk's words, out of those ahead. -/
def nextWord (l : List Int) (n : Nat) : Int := (((sg1 (l.getD (n - 2) 0) + l.getD (n - 7) 0) % 4294967296 + sg0 (l.getD (n - 15) 0)) % 4294967296 + l.getD (n - 16) 0) % 4294967296
/-- The first n words of a chunk. -/
def sched (b : List Int) : Nat → List Int
  | 0 => []
  | n + 1 => sched b n ++ [if n < 16 then word4 (b.getD (4 * n) 0) (b.getD (4 * n + 1) 0) (b.getD (4 * n + 2) 0) (b.getD (4 * n + 3) 0) else nextWord (sched b n) n]
theorem sched_length (b : List Int) (n : Nat) : (sched b n).length = n := by
  induction n with
  | zero => rfl
  | succ n ih => simp [sched, ih]
def wu (l : List Int) : List Value := l.map (Value.int .u32)
/-- A row that is filled from its beginning on. -/
def fil (l : List Int) (n : Nat) : List Int := l ++ List.replicate (n - l.length) 0
theorem fil_length {l : List Int} {n : Nat} (h : l.length ≤ n) : (fil l n).length = n := by simp [fil]; omega
theorem fil_nil (n : Nat) : fil [] n = List.replicate n 0 := by simp [fil]
theorem fil_full {l : List Int} {n : Nat} (h : l.length = n) : fil l n = l := by simp [fil, h]
theorem fil_getD {l : List Int} {n j : Nat} (h : j < l.length) : (fil l n).getD j 0 = l.getD j 0 := by
  simp [fil, List.getD, List.getElem?_append_left h]
theorem fil_set {l : List Int} {n : Nat} (h : l.length < n) (v : Int) : (wu (fil l n)).toArray.setIfInBounds l.length (.int .u32 v) = (wu (fil (l ++ [v]) n)).toArray := by
  obtain ⟨m, hm⟩ : ∃ m, n - l.length = m + 1 := ⟨n - l.length - 1, by omega⟩
  have hm2 : n - (l ++ [v]).length = m := by simp; omega
  unfold fil
  rw [hm, hm2, List.replicate_succ]
  have e : wu (l ++ 0 :: List.replicate m 0) = wu l ++ (.int .u32 0 :: wu (List.replicate m 0)) := by simp [wu]
  have e2 : wu (l ++ [v] ++ List.replicate m 0) = wu l ++ (.int .u32 v :: wu (List.replicate m 0)) := by simp [wu]
  rw [e, e2]
  have hl : (wu l).length = l.length := by simp [wu]
  simp [List.setIfInBounds_toArray, List.set_append, hl]
theorem wu_getElem? (l : List Int) (j : Nat) (h : j < l.length) : (wu l).toArray[j]? = some (.int .u32 (l.getD j 0)) := by
  simp [wu, List.getD, List.getElem?_eq_getElem h]
theorem wu_length (l : List Int) : (wu l).length = l.length := by simp [wu]
def ch (e f g : Int) : Int := bits .xor .u32 (bits .and .u32 e f) (bits .and .u32 (not32 e) g)
def maj (a b c : Int) : Int := bits .xor .u32 (bits .xor .u32 (bits .and .u32 a b) (bits .and .u32 a c)) (bits .and .u32 b c)
def bs0 (a : Int) : Int := bits .xor .u32 (bits .xor .u32 (rot a 2) (rot a 13)) (rot a 22)
def bs1 (e : Int) : Int := bits .xor .u32 (bits .xor .u32 (rot e 6) (rot e 11)) (rot e 25)
/-- What a round adds. -/
def tA (x4 x5 x6 x7 k w : Int) : Int := (x7 + bs1 x4 + ch x4 x5 x6 + k + w) % 4294967296
def tB (x0 x1 x2 : Int) : Int := (bs0 x0 + maj x0 x1 x2) % 4294967296
/-- One round. -/
def rnd (x0 x1 x2 x3 x4 x5 x6 x7 k w : Int) : List Int :=
  [(tA x4 x5 x6 x7 k w + tB x0 x1 x2) % 4294967296, x0, x1, x2, (x3 + tA x4 x5 x6 x7 k w) % 4294967296, x4, x5, x6]
theorem rnd_row {x0 x1 x2 x3 x4 x5 x6 x7 k w a0 a4 : Int} (h0 : a0 = (tA x4 x5 x6 x7 k w + tB x0 x1 x2) % 4294967296) (h4 : a4 = (x3 + tA x4 x5 x6 x7 k w) % 4294967296) :
    Value.agg #[.int .u32 a0, .int .u32 x0, .int .u32 x1, .int .u32 x2, .int .u32 a4, .int .u32 x4, .int .u32 x5, .int .u32 x6] = Value.agg (wu (rnd x0 x1 x2 x3 x4 x5 x6 x7 k w)).toArray := by
  subst h0; subst h4; rfl
def rndL (x : List Int) (k w : Int) : List Int := rnd (x.getD 0 0) (x.getD 1 0) (x.getD 2 0) (x.getD 3 0) (x.getD 4 0) (x.getD 5 0) (x.getD 6 0) (x.getD 7 0) k w
/-- The eight words behind n rounds. -/
def rnds (s b : List Int) : Nat → List Int
  | 0 => s
  | n + 1 => rndL (rnds s b n) (shaK.getD n 0) ((sched b 64).getD n 0)
/-- The first n words added. -/
def addTo (s x : List Int) (n : Nat) : List Int := (List.range 8).map fun j => if j < n then (s.getD j 0 + x.getD j 0) % 4294967296 else s.getD j 0
/-- A chunk mixed into the eight words. -/
def mixP (s b : List Int) : List Int := addTo s (rnds s b 64) 8
/-- The first n chunks mixed in. -/
def foldMix (s m : List Int) : Nat → List Int
  | 0 => s
  | n + 1 => mixP (foldMix s m n) ((m.drop (64 * n)).take 64)
theorem mixP_length (s b : List Int) : (mixP s b).length = 8 := by simp [mixP, addTo]
theorem foldMix_length (s m : List Int) (h : s.length = 8) (n : Nat) : (foldMix s m n).length = 8 := by
  cases n with
  | zero => exact h
  | succ n => exact mixP_length _ _
theorem list8 {l : List Int} (h : l.length = 8) : ∃ x0 x1 x2 x3 x4 x5 x6 x7, l = [x0, x1, x2, x3, x4, x5, x6, x7] := by
  match l, h with
  | [x0, x1, x2, x3, x4, x5, x6, x7], _ => exact ⟨x0, x1, x2, x3, x4, x5, x6, x7, rfl⟩
theorem rnds_length (s b : List Int) (h : s.length = 8) (n : Nat) : (rnds s b n).length = 8 := by
  cases n with
  | zero => exact h
  | succ n => rfl
theorem addTo_length (s x : List Int) (n : Nat) : (addTo s x n).length = 8 := by simp [addTo]
theorem addTo_zero (s x : List Int) (h : s.length = 8) : addTo s x 0 = s := by
  obtain ⟨x0, x1, x2, x3, x4, x5, x6, x7, rfl⟩ := list8 h
  rfl
theorem addTo_set (s x : List Int) (n : Nat) (h : n < 8) : (wu (addTo s x n)).toArray.setIfInBounds n (.int .u32 ((s.getD n 0 + x.getD n 0) % 4294967296)) = (wu (addTo s x (n + 1))).toArray := by
  have hc : n = 0 ∨ n = 1 ∨ n = 2 ∨ n = 3 ∨ n = 4 ∨ n = 5 ∨ n = 6 ∨ n = 7 := by omega
  rcases hc with rfl | rfl | rfl | rfl | rfl | rfl | rfl | rfl <;> rfl
theorem addTo_get (s x : List Int) (n : Nat) (h : n < 8) : (addTo s x n).getD n 0 = s.getD n 0 := by
  have hc : n = 0 ∨ n = 1 ∨ n = 2 ∨ n = 3 ∨ n = 4 ∨ n = 5 ∨ n = 6 ∨ n = 7 := by omega
  rcases hc with rfl | rfl | rfl | rfl | rfl | rfl | rfl | rfl <;> rfl
end Go.Proofs.YtjfeehoflahblaaDoor
