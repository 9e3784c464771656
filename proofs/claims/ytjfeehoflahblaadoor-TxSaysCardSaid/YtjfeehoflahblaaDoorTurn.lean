/- The turning of a word, in the program and in the reference: each call answers the word turned right. Conditions: by 1 to 31 places. -/
import Derived.Test.YtjfeehoflahblaaDoorProg
import Derived.Test.YtjfeehoflahblaaDoorWord
import Derived.WalkSpells
import Derived.KernelRfl
namespace Go.Proofs.YtjfeehoflahblaaDoor
open Go.RowKit

theorem rotl_calls (x k : Int) (n : Nat) (w : World) (hk : k = -(n : Int)) (h0 : 0 < n) (h1 : n < 32) : Calls Tryd.prog 192 #[.int .u32 x, .int .i64 k] w fun e w' => e = .returned (.int .u32 (rot x n)) ∧ w = w' := by
  subst hk
  have hq := and31 n h0 h1
  go_enter Tryd.func192, Tryd.ntmps192
  go_wp2
  go_ret
  refine ⟨?_, rfl⟩
  rw [rot, or_comm, show 32 - (32 - n) = n by omega]
  rfl
theorem turn_calls (x k : Int) (n : Nat) (w : World) (hk : k = (n : Int)) (h0 : 0 < n) (h1 : n < 32) : Calls Tryd.prog 181 #[.int .u32 x, .int .i64 k] w fun e w' => e = .returned (.int .u32 (rot x n)) ∧ w = w' := by
  subst hk
  go_enter Tryd.func181, Tryd.ntmps181
  go_wp2_with (go_at_call 192; refine (rotl_calls _ _ n _ rfl h0 h1).mono ?_; rintro e w' ⟨rfl, rfl⟩)
  go_ret
  exact ⟨rfl, rfl⟩
theorem right_calls (x k : Int) (n : Nat) (w : World) (hk : k = (n : Int)) (h0 : 0 < n) (h1 : n < 32) : Calls Tryd.prog 135 #[.int .u32 x, .int .u64 k] w fun e w' => e = .returned (.int .u32 (rot x n)) ∧ w = w' := by
  subst hk
  go_enter Tryd.func135, Tryd.ntmps135
  go_wp2
  go_ret
  exact ⟨rfl, rfl⟩
theorem turn_any (x k : Int) (w : World) (h0 : 0 < k) (h1 : k < 32) : Calls Tryd.prog 181 #[.int .u32 x, .int .i64 k] w fun e w' => e = .returned (.int .u32 (rot x k.toNat)) ∧ w = w' :=
  turn_calls x k k.toNat w (by omega) (by omega) (by omega)
theorem right_any (x k : Int) (w : World) (h0 : 0 < k) (h1 : k < 32) : Calls Tryd.prog 135 #[.int .u32 x, .int .u64 k] w fun e w' => e = .returned (.int .u32 (rot x k.toNat)) ∧ w = w' :=
  right_calls x k k.toNat w (by omega) (by omega) (by omega)
theorem turn_q (x k : Int) (w : World) (h0 : 0 < k) (h1 : k < 32) : Calls Tryd.prog 181 #[.int .u32 x, .int .i64 k] w fun e w' => e = .returned (.int .u32 (rot x k.toNat)) ∧ w' = w :=
  (turn_any x k w h0 h1).mono fun _ _ h => ⟨h.1, h.2.symm⟩
theorem right_q (x k : Int) (w : World) (h0 : 0 < k) (h1 : k < 32) : Calls Tryd.prog 135 #[.int .u32 x, .int .u64 k] w fun e w' => e = .returned (.int .u32 (rot x k.toNat)) ∧ w' = w :=
  (right_any x k w h0 h1).mono fun _ _ h => ⟨h.1, h.2.symm⟩
end Go.Proofs.YtjfeehoflahblaaDoor
