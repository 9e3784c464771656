/- The library's Len, pdqsort and Sort at few numbers, and the number below a bound: what each call answers. Conditions: at most twelve numbers; a bound above 0. -/
import Derived.Test.YtjfeehoflahblabSort
namespace Go.Proofs.Ytjfeehoflahblab
open Go.RowKit Go.Sort

set_option maxRecDepth 100000 in
theorem bitsLen64_calls (n : Int) (h0 : 0 ≤ n) (h : n ≤ 12) (w : World) : Calls Try.prog 23 #[.int .u64 n] w fun e w' => (∃ k : Int, e = .returned (.int .i64 k)) ∧ w' = w := by
  have hc : n = 0 ∨ n = 1 ∨ n = 2 ∨ n = 3 ∨ n = 4 ∨ n = 5 ∨ n = 6 ∨ n = 7 ∨ n = 8 ∨ n = 9 ∨ n = 10 ∨ n = 11 ∨ n = 12 := by omega
  rcases hc with rfl | rfl | rfl | rfl | rfl | rfl | rfl | rfl | rfl | rfl | rfl | rfl | rfl
  all_goals
    go_enter Try.func23, Try.ntmps23
    go_wp2
    go_ret
    exact ⟨⟨_, rfl⟩, rfl⟩

set_option maxRecDepth 100000 in
theorem bitsLen_calls (n : Int) (h0 : 0 ≤ n) (h : n ≤ 12) (w : World) : Calls Try.prog 12 #[.int .u64 n] w fun e w' => (∃ k : Int, e = .returned (.int .i64 k)) ∧ w' = w := by
  go_enter Try.func12, Try.ntmps12
  go_wp2_with (go_at_call 23; refine (bitsLen64_calls _ (by omega) (by omega) _).mono ?_; rintro e w' ⟨⟨k, rfl⟩, rfl⟩)
  go_ret
  exact ⟨⟨_, rfl⟩, rfl⟩

theorem pdq_calls (blk off cap : Nat) (d : Array Int) (lim : Int) (w : World) (hH : Holds (Value.int .u32) w blk off d) (hsz : d.size ≤ 12) :
    Calls Try.prog 11 #[.slice (some ⟨blk, off, none⟩) d.size cap, .int .i64 0, .int .i64 d.size, .int .i64 lim] w fun e w' =>
      e = .returned (.tuple #[]) ∧ ∃ n, w' = putRow (Value.int .u32) (Sort.ahead w n) blk off (Sort.insertionSort ltInt d 0 d.size) := by
  go_enter Try.func11, Try.ntmps11
  go_wp2
  refine wp_loop_rounds 1 ?_
  rw [rounds_succ]
  have H := insertion_calls blk off cap 0 d.size d w hH (by omega) (Nat.le_refl _) (by omega)
  go_wp2_with (go_at_call 13; refine H.mono ?_; rintro e w' ⟨rfl, n, rfl⟩)
  refine bodyPost_ret (results_none rfl _ _ _) rfl ?_
  exact ⟨rfl, n, rfl⟩

theorem sort_calls (blk off cap : Nat) (d : Array Int) (w : World) (hH : Holds (Value.int .u32) w blk off d) (hsz : d.size ≤ 12) :
    Calls Try.prog 10 #[.slice (some ⟨blk, off, none⟩) d.size cap] w fun e w' =>
      e = .returned (.tuple #[]) ∧ ∃ n, w' = putRow (Value.int .u32) (Sort.ahead w n) blk off (Sort.insertionSort ltInt d 0 d.size) := by
  go_enter Try.func10, Try.ntmps10
  go_wp2_with (first | (go_at_call 12; refine (bitsLen_calls _ (by omega) (by omega) _).mono ?_; rintro e w' ⟨⟨k, rfl⟩, rfl⟩) | (go_at_call 11; refine (pdq_calls blk off cap d _ _ hH hsz).mono ?_; rintro e w' ⟨rfl, n, rfl⟩))
  go_end0
  exact ⟨rfl, n, rfl⟩

theorem number_calls (n b : Int) (hb : 0 < b) (hb2 : b ≤ 4611686018427387904) (hn : -9223372036854775808 ≤ n ∧ n ≤ 9223372036854775807) (w : World) :
    Calls Try.prog 7 #[.int .i64 n, .int .i64 b] w fun e w' => e = .returned (.int .i64 (n % b)) ∧ w' = w := by
  have e1 : n.tmod b = if 0 ≤ n ∨ n % b = 0 then n % b else n % b - b := by
    rw [Int.tmod_eq_emod]
    by_cases h0 : 0 ≤ n
    · simp [h0]
    · have : b ∣ n ↔ n % b = 0 := ⟨Int.emod_eq_zero_of_dvd, Int.dvd_of_emod_eq_zero⟩
      simp only [h0, false_or, this]
      split <;> omega
  have hp := Int.emod_nonneg n (show b ≠ 0 by omega)
  have hl := Int.emod_lt_of_pos n hb
  by_cases h : 0 ≤ n
  · go_enter Try.func7, Try.ntmps7
    go_wp2
    go_ret
    exact ⟨rfl, rfl⟩
  · have hne : (b == 0) = false := by simp; omega
    by_cases hz : n % b = 0
    · have e2 : n.tmod b = 0 := by rw [e1]; simp [hz]
      clear e1
      go_enter Try.func7, Try.ntmps7
      go_wp2
      go_ret
      exact ⟨rfl, rfl⟩
    · have e2 : n.tmod b = n % b - b := by rw [e1]; simp [hz, h]
      clear e1
      go_enter Try.func7, Try.ntmps7
      go_wp2
      go_ret
      exact ⟨rfl, rfl⟩
end Go.Proofs.Ytjfeehoflahblab
