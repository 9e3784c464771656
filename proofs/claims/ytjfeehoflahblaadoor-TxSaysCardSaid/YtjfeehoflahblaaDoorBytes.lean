/- Bytes: a copy in new memory, in the program's library and in the reference. Conditions: at most 2^40 bytes. -/
import Derived.Test.YtjfeehoflahblaaDoorProg
import Derived.Test.YtjfeehoflahblaaDoorRow
import Derived.Lib.Hide
namespace Go.Proofs.YtjfeehoflahblaaDoor
open Go.RowKit

def ub (l : List Int) : List Value := l.map (Value.int .u8)
theorem ub_one (l : List Int) : ∀ u ∈ ub l, u.oneCell' = true := oneCell_ints _ _
theorem ub_length (l : List Int) : (ub l).length = l.length := by simp [ub]
theorem ub_append (l m : List Int) : ub (l ++ m) = ub l ++ ub m := by simp [ub]
theorem ub_take (l : List Int) (n : Nat) : (ub l).take n = ub (l.take n) := by simp [ub, List.map_take]
theorem ub_drop (l : List Int) (n : Nat) : (ub l).drop n = ub (l.drop n) := by simp [ub, List.map_drop]
theorem rd_len {w : World} {B n : Nat} {A : Option Addr} {l : List Int} (h : Rd w B 1 A n (ub l)) : l.length = n := by have := h.1; simpa [ub] using this
theorem elB : El Tryd.prog 29 5 1 1 := El.mk Tryd.underlying29 (z := .int .u8 0) (by kernel_rfl) rfl (by omega)

theorem clone_calls (A : Option Addr) (n c : Nat) (xs : List Int) (w : World) (hr : Rd w w.heap.size 1 A n (ub xs)) (hn : n ≤ 1099511627776) :
    Calls Tryd.prog 95 #[.slice A n c] w fun e w' => ∃ A' c', e = .returned (.slice A' n c') ∧ Ow w' w.heap.size 5 1 A' n c' (ub xs) ∧ Below w.heap.size w w' := by
  have HL := Lib.hid (rd_len hr)
  have hq := fun w => Lib.run_eql_slice_nil (P := Tryd.prog) w 29 5 A n c 0 0 Tryd.underlying29
  cases A with
  | none =>
    go_enter Tryd.func95, Tryd.ntmps95
    go_wp2
    go_ret
    obtain ⟨rfl⟩ : n = 0 := by
      rcases Nat.eq_zero_or_pos n with h0 | h0
      · exact h0
      · obtain ⟨b, o, h, _⟩ := hr.addr h0 (by omega); cases h
    have hx : xs = [] := List.eq_nil_of_length_eq_zero HL.out
    subst hx
    exact ⟨none, 0, rfl, Ow.nil_ _ _ _ _, Below.refl _ _⟩
  | some ad =>
    go_enter Tryd.func95, Tryd.ntmps95
    go_wp2_with (at_builtin; go_must (refine wp_app rfl _ _ _ rfl elB rfl (Ow.new0 w 5 1) rfl (hr.alloc (Nat.le_refl _) _) (ub_one _) (by unfold maxLen; omega) (by omega) (by simp) ?_); intro A' c' w' h1 h2 h3)
    go_ret
    exact ⟨A', c', by simp, by simpa using h1, ((Below.refl _ _).alloc (Nat.le_refl _) _).trans h3⟩

theorem refBytes_calls (A : Option Addr) (n c : Nat) (xs : List Int) (w : World) (hr : Rd w w.heap.size 1 A n (ub xs)) (hn : n ≤ 1099511627776) :
    Calls Tryd.prog 55 #[.slice A n c] w fun e w' => ∃ A' c', e = .returned (.slice A' n c') ∧ Ow w' w.heap.size 5 1 A' n c' (ub xs) ∧ Below w.heap.size w w' := by
  have HL := Lib.hid (rd_len hr)
  go_enter Tryd.func55, Tryd.ntmps55
  go_wp2_with (at_make; go_must (refine wp_make0 rfl _ _ _ rfl elB n rfl rfl rfl (by omega) (by unfold maxLen; omega) ?_); intro w1 h1 h2)
  go_loopw [3, 4] (fun v i wr => ∃ (k : Nat) (A' : Option Addr) (c' : Nat), k ≤ n ∧ i = .int .i64 k ∧ v = .slice A' k c' ∧ Ow wr w.heap.size 5 1 A' k c' (ub (xs.take k)) ∧ Below w.heap.size w wr) (fun _ i _ => n - (intOf i).toNat)
  case atStart => exact ⟨0, _, n, by omega, rfl, rfl, by simpa [ub] using h1, h2⟩
  case round =>
    obtain ⟨k, A', c', hk, rfl, rfl, ho, hb⟩ := hrel
    by_cases hlt : k < n
    · obtain ⟨b, o, u, rfl, hbl, hu, hc⟩ := hr.at_ hlt
      have hkl : k < xs.length := by have := HL.out; omega
      obtain ⟨x, hx⟩ : ∃ x, xs[k]? = some x := ⟨_, List.getElem?_eq_getElem hkl⟩
      have hu' : u = .int .u8 x := by
        have : (ub xs)[k]? = some (.int .u8 x) := by simp [ub, hx]
        rw [this] at hu; injection hu with hu; exact hu.symm
      subst hu'
      have hcell : wr.cell? ⟨b, o + k, none⟩ = some (.int .u8 x) := (hb.cell (p := ⟨b, o + k, none⟩) hbl).trans hc
      have HX : Hid (xs[k]? = some x) := hx
      clear hx hu
      go_wp2_with (at_builtin; go_must (refine wp_app rfl _ _ _ rfl elB rfl (ho.alloc _) rfl (Rd.new wr #[.int .u8 x] 5 1 1 rfl) (by simp [Value.oneCell']) (by unfold maxLen; omega) (by omega) (by have := hb.size; simp; omega) ?_); intro A2 c2 w2 h3 h4 h5)
      go_roundw
      case rel =>
        refine ⟨k + 1, A2, c2, by omega, by go_num, rfl, ?_, (hb.alloc hb.size _).trans h5⟩
        have e : xs.take (k + 1) = xs.take k ++ [x] := by rw [List.take_add_one, HX.out]; rfl
        rw [e]; simpa [ub] using h3
      case measure => simp [intOf]; omega
    · go_wp2
      go_ret
      obtain rfl : k = n := by omega
      refine ⟨A', c', rfl, ?_, hb⟩
      rw [List.take_of_length_le (by rw [HL.out]; exact Nat.le_refl _)] at ho
      exact ho
end Go.Proofs.YtjfeehoflahblaaDoor
