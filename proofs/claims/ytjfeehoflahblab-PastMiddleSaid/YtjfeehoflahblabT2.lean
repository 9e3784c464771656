/- Clone and Halves: each answers a new slice of the same numbers. Conditions: at most thirty numbers. -/
import Derived.Test.YtjfeehoflahblabBase
import Derived.Test.YtjfeehoflahblabT1
namespace Go.Proofs.Ytjfeehoflahblab
open Go.RowKit

theorem el22 : El Try.prog 22 24 1 4 := El.mk Try.underlying22 (z := .int .u32 0) (by kernel_rfl) rfl (by omega)
def us (l : List Int) : List Value := l.map (Value.int .u32)

theorem clone_calls (A : Option Addr) (n c : Nat) (xs : List Int) (w : World) (hr : Rd w w.heap.size 1 A n (us xs)) (hn : n ≤ 30) :
    Calls Try.prog 9 #[.slice A n c] w fun e w' => ∃ A' c', e = .returned (.slice A' n c') ∧ Ow w' w.heap.size 24 1 A' n c' (us xs) ∧ Below w.heap.size w w' := by
  have hl : xs.length = n := by have := hr.1; simpa [us] using this
  have HL : Hid (xs.length = n) := hl
  clear hl
  have hq := fun w => Lib.run_eql_slice_nil (P := Try.prog) w 22 24 A n c 0 0 Try.underlying22
  cases A with
  | none =>
    go_enter Try.func9, Try.ntmps9
    go_wp2
    go_ret
    obtain ⟨rfl⟩ : n = 0 := by
      rcases Nat.eq_zero_or_pos n with h0 | h0
      · exact h0
      · obtain ⟨b, o, h, _⟩ := hr.addr h0 (by omega); cases h
    have hx : xs = [] := List.eq_nil_of_length_eq_zero HL.out
    subst hx
    exact ⟨none, 0, rfl, Ow.nil_ _ _ _ _, Below.refl _ _⟩
  | some ad =>
    go_enter Try.func9, Try.ntmps9
    go_wp2_with (at_builtin; go_must (refine wp_app rfl _ _ _ rfl el22 rfl (Ow.new0 w 24 1) rfl (hr.alloc (Nat.le_refl _) _) (oneCell_ints _ _) (by unfold maxLen; omega) (by omega) (by simp) ?_); intro A' c' w' h1 h2 h3)
    go_ret
    exact ⟨A', c', by simp, by simpa using h1, ((Below.refl _ _).alloc (Nat.le_refl _) _).trans h3⟩

theorem halves_calls (A : Option Addr) (n c : Nat) (xs : List Int) (w : World) (hr : Rd w w.heap.size 1 A n (us xs)) (hn : n ≤ 30) :
    Calls Try.prog 8 #[.slice A n c] w fun e w' => ∃ A' c', e = .returned (.slice A' n c') ∧ Ow w' w.heap.size 24 1 A' n c' (us xs) ∧ Below w.heap.size w w' := by
  have hl : xs.length = n := by have := hr.1; simpa [us] using this
  have HL : Hid (xs.length = n) := hl
  clear hl
  go_enter Try.func8, Try.ntmps8
  go_wp2_with (at_make; go_must (refine wp_make0 rfl _ _ _ rfl el22 n rfl rfl rfl (by omega) (by unfold maxLen; omega) ?_); intro w1 h1 h2)
  go_loopw [3, 4] (fun v i wr => ∃ (k : Nat) (A' : Option Addr) (c' : Nat), k ≤ n ∧ i = .int .i64 k ∧ v = .slice A' k c' ∧ Ow wr w.heap.size 24 1 A' k c' (us (xs.take k)) ∧ Below w.heap.size w wr) (fun _ i _ => n - (intOf i).toNat)
  case atStart => exact ⟨0, _, n, by omega, rfl, rfl, by simpa [us] using h1, h2⟩
  case round =>
    obtain ⟨k, A', c', hk, rfl, rfl, ho, hb⟩ := hrel
    by_cases hlt : k < n
    · obtain ⟨b, o, u, rfl, hbl, hu, hc⟩ := hr.at_ hlt
      have hkl : k < xs.length := by have := HL.out; omega
      obtain ⟨x, hx⟩ : ∃ x, xs[k]? = some x := ⟨_, List.getElem?_eq_getElem hkl⟩
      have hu' : u = .int .u32 x := by
        have : (us xs)[k]? = some (.int .u32 x) := by simp [us, hx]
        rw [this] at hu; injection hu with hu; exact hu.symm
      subst hu'
      have hcell : wr.cell? ⟨b, o + k, none⟩ = some (.int .u32 x) := (hb.cell (p := ⟨b, o + k, none⟩) hbl).trans hc
      have HX : Hid (xs[k]? = some x) := hx
      clear hx hu
      go_wp2_with (at_builtin; go_must (refine wp_app rfl _ _ _ rfl el22 rfl (ho.alloc _) rfl (Rd.new wr #[.int .u32 x] 24 1 1 rfl) (by simp [Value.oneCell']) (by unfold maxLen; omega) (by omega) (by have := hb.size; simp; omega) ?_); intro A2 c2 w2 h3 h4 h5)
      go_roundw
      case rel =>
        refine ⟨k + 1, A2, c2, by omega, by go_num, rfl, ?_, (hb.alloc hb.size _).trans h5⟩
        have e : xs.take (k + 1) = xs.take k ++ [x] := by rw [List.take_add_one, HX.out]; rfl
        rw [e]; simpa [us] using h3
      case measure => simp [intOf]; omega
    · go_wp2
      go_ret
      obtain rfl : k = n := by omega
      refine ⟨A', c', rfl, ?_, hb⟩
      rw [List.take_of_length_le (by rw [HL.out]; exact Nat.le_refl _)] at ho
      exact ho
end Go.Proofs.Ytjfeehoflahblab
