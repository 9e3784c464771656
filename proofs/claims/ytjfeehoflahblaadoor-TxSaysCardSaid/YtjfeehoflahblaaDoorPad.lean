/- What a digest's last chunks hold, and the digest of a row of bytes: plain definitions and laws, no program. No conditions. -/
import Derived.Test.YtjfeehoflahblaaDoorWord
namespace Go.Proofs.YtjfeehoflahblaaDoor
open Go.RowKit

/-- How many zeros stand behind the first byte of the end. -/
def zer (r : Nat) : Nat := (119 - r % 64) % 64
/-- The number of bits, the highest byte first. -/
def lenL (v : Int) : List Int := [v / 72057594037927936 % 256, v / 281474976710656 % 256, v / 1099511627776 % 256, v / 4294967296 % 256, v / 16777216 % 256, v / 65536 % 256, v / 256 % 256, v / 1 % 256]
def lenB (v : Int) (j : Nat) : List Int := (lenL v).take j
theorem lenB_length (v : Int) : (lenB v 8).length = 8 := rfl
theorem lenB_step (v X : Int) (j : Nat) (hj : j < 8) (h : X = (lenL v).getD j 0) : lenB v (j + 1) = lenB v j ++ [X] := by
  subst h
  unfold lenB
  have hl : j < (lenL v).length := hj
  rw [List.take_add_one, List.getElem?_eq_getElem hl]
  simp [List.getD, List.getElem?_eq_getElem hl]
/-- The end of a row of r bytes, of n bytes in all. -/
def padT (r n : Nat) : List Int := 128 :: (List.replicate (zer r) 0 ++ lenB (8 * (n : Int)) 8)
theorem padT_length (r n : Nat) : (padT r n).length = zer r + 9 := by simp [padT, lenB_length]
theorem pad_64 (r : Nat) : (r + zer r + 9) % 64 = 0 := by unfold zer; omega
theorem zer_step {r j : Nat} (h : j ≤ zer r) : (r + 1 + j) % 64 = 56 ↔ j = zer r := by unfold zer at h ⊢; omega
/-- Eight words as bytes. -/
def outB (s : List Int) : List Int := (List.range 32).map fun j => s.getD (j / 4) 0 / 2 ^ (24 - 8 * (j % 4)) % 256
def outF (s : List Int) (n : Nat) : List Int := (List.range 32).map fun j => if j < n then s.getD (j / 4) 0 / 2 ^ (24 - 8 * (j % 4)) % 256 else 0
theorem outB_length (s : List Int) : (outB s).length = 32 := by simp [outB]
theorem outF_length (s : List Int) (n : Nat) : (outF s n).length = 32 := by simp [outF]
theorem outF_zero (s : List Int) : outF s 0 = List.replicate 32 0 := by simp [outF]; rfl
theorem outF_full (s : List Int) : outF s 32 = outB s := by
  unfold outF outB
  apply List.map_congr_left
  intro j hj
  rw [if_pos (by simpa using hj)]
theorem outF_set (s : List Int) (n : Nat) (hn : n < 32) : (outF s n).set n (s.getD (n / 4) 0 / 2 ^ (24 - 8 * (n % 4)) % 256) = outF s (n + 1) := by
  apply List.ext_getElem?
  intro j
  unfold outF
  rw [List.getElem?_set]
  by_cases hj : n = j
  · subst hj; simp [hn]
  · rw [if_neg hj]
    by_cases h32 : j < 32
    · simp only [List.getElem?_map, List.getElem?_range h32, Option.map_some]
      by_cases hjn : j < n
      · rw [if_pos hjn, if_pos (by omega)]
      · rw [if_neg hjn, if_neg (by omega)]
    · rw [List.getElem?_eq_none (by simp; omega), List.getElem?_eq_none (by simp; omega)]

/-- The digest of a row of bytes. -/
def sha (b : List Int) : List Int := outB (foldMix sha0 (b ++ padT b.length b.length) ((b.length + zer b.length + 9) / 64))
theorem sha_length (b : List Int) : (sha b).length = 32 := outB_length _
theorem foldMix_take (s a c : List Int) (n : Nat) (h : 64 * n ≤ a.length) : foldMix s (a ++ c) n = foldMix s a n := by
  induction n with
  | zero => rfl
  | succ n ih =>
    rw [foldMix, foldMix, ih (by omega), List.drop_append_of_le_length (by omega), List.take_append_of_le_length (by rw [List.length_drop]; omega)]
theorem foldMix_add (s a : List Int) (n m : Nat) : foldMix s a (n + m) = foldMix (foldMix s a n) (a.drop (64 * n)) m := by
  induction m with
  | zero => rfl
  | succ m ih => rw [← Nat.add_assoc, foldMix, foldMix, ih, List.drop_drop, Nat.mul_add]
/-- The digest, taken in two strides: the whole chunks first. -/
theorem sha_split (b : List Int) (n : Nat) (hn : b.length = n) (s : List Int) (hs : s = foldMix sha0 b (n / 64)) :
    sha b = outB (foldMix (if (n : Int) < 64 then sha0 else s) (b.drop (64 * (n / 64)) ++ padT (n % 64) n) ((n % 64 + zer (n % 64) + 9) / 64)) := by
  have hz : zer (n % 64) = zer n := by unfold zer; omega
  have hp : padT (n % 64) n = padT n n := by unfold padT; rw [hz]
  have he : (if (n : Int) < 64 then sha0 else s) = foldMix sha0 b (n / 64) := by
    by_cases h : (n : Int) < 64
    · rw [if_pos h, show n / 64 = 0 by omega]; rfl
    · rw [if_neg h, hs]
  rw [he, hz, hp, sha, hn]
  rw [show (n + zer n + 9) / 64 = n / 64 + (n % 64 + zer n + 9) / 64 by omega, foldMix_add, foldMix_take _ _ _ _ (by omega), List.drop_append_of_le_length (by omega)]
end Go.Proofs.YtjfeehoflahblaaDoor
