/- The call of PastLast answers true over every two slices. Conditions: the slices read as lists of numbers. -/
import Derived.Test.YtjfeehoflahblabT3
import Derived.Deep.RegionHeld3
import Derived.Deep.AppendLies
import Derived.Deep.QuietTactic
import Derived.BigQuiet
namespace Go.Proofs.Ytjfeehoflahblab
open Go.RowKit

theorem med_312 : med [3, 1, 2] = 2 := by
  have h : srt [3, 1, 2] = [1, 2, 3] :=
    List.Perm.eq_of_pairwise (le := fun a b => a ≤ b) (fun a b _ _ h1 h2 => Int.le_antisymm h1 h2) (srt_sorted _) (by decide) ((srt_perm _).trans (by decide))
  show (srt [3, 1, 2]).getD 1 0 = 2
  rw [h]; rfl

theorem first_calls (w : World) : Calls Try.prog 5 #[] w fun e w' => e = .returned (.bool true) ∧ Below w.heap.size w w' := by
  go_enter Try.func5, Try.ntmps5
  go_wp2_with fail
  refine (median_calls _ 3 3 [3, 1, 2] _ (Rd.of_cells rfl (by simp) fun j u hu => ?_) (by omega) (by omega)).mono ?_
  · have h := (Rd.new w #[.int .u32 3, .int .u32 1, .int .u32 2] 24 3 1 rfl).cells j u (by simpa [us] using hu)
    exact h
  rintro e w1 ⟨rfl, hb1⟩
  rw [med_312]
  go_wp2_with fail
  refine (median_calls none 0 0 [] _ (Rd.nil_ _ _ _ _) (by omega) (by omega)).mono ?_
  rintro e w2 ⟨rfl, hb2⟩
  rw [show med [] = 0 from rfl]
  go_wp2
  go_ret
  refine ⟨rfl, ((Below.refl _ _).alloc (Nat.le_refl _) _).trans ((hb1.mono (by simp)).trans (hb2.mono ?_))⟩
  have := hb1.size
  simp at this; omega

theorem med_last (xs ys : List Int) (h : 11 ≤ ys.length) : med (xs ++ ys) = med (ys.drop (ys.length - 11)) := by
  have e1 : (xs ++ ys).drop ((xs ++ ys).length - 11) = ys.drop (ys.length - 11) := by
    rw [List.length_append, List.drop_append, List.drop_eq_nil_of_le (by omega), List.nil_append]
    congr 1; omega
  have e2 : (ys.drop (ys.length - 11)).length = 11 := by rw [List.length_drop]; omega
  have n1 : xs ++ ys ≠ [] := by intro h0; have := congrArg List.length h0; simp at this; rw [this.2] at h; simp at h
  have n2 : ys.drop (ys.length - 11) ≠ [] := by intro h0; rw [h0] at e2; simp at e2
  unfold med
  rw [if_neg n1, if_neg n2, e1, e2, List.length_append]
  rw [show min (xs.length + ys.length) 11 = 11 by omega]
  simp

set_option maxHeartbeats 400000 in
theorem last_walk (A1 A2 : Option Addr) (n m c1 c2 : Nat) (xs ys : List Int) (w : World) (h1 : Rd w w.heap.size 1 A1 n (us xs)) (h2 : Rd w w.heap.size 1 A2 m (us ys)) (hc1 : n ≤ c1) (hc2 : m ≤ c2) (_hm1 : c1 ≤ maxLen) (_hm2 : c2 ≤ maxLen) :
    Calls Try.prog 4 #[.slice A1 n c1, .slice A2 m c2] w fun e w' => e = .returned (.bool true) ∧ Below w.heap.size w w' := by
  unfold maxLen at _hm1 _hm2
  have ha : xs.length = n := by have := h1.1; simpa [us] using this
  have hb : ys.length = m := by have := h2.1; simpa [us] using this
  have HA := Lib.hid ha
  have HB := Lib.hid hb
  clear ha hb
  by_cases hk : n ≤ 30 ∧ 11 ≤ m ∧ m ≤ 30
  · obtain ⟨k1, k2, k3⟩ := hk
    obtain ⟨b, o, rfl, hbl⟩ := h2.addr (by omega) (by omega)
    have hlt : m - 11 < c2 := by omega
    have q1 : (0 : Int) ≤ (m : Int) - 11 := by omega
    have q2 : (m : Int) - 11 ≤ (m : Int) := by omega
    have q3 : IntKind.i64.wrap ((m : Int) - 11) = (m : Int) - 11 := by rw [IntKind.wrap_i64]; omega
    have q4 : ((m : Int) - 11).toNat = m - 11 := by omega
    have q5 : (c2 = m - 11) = False := by simp; omega
    go_enter Try.func4, Try.ntmps4
    go_wp2_with (go_at_call 5; refine (first_calls _).mono ?_; rintro e w1 ⟨rfl, hb1⟩)
    have hrd := h2.drop_ (m - 11)
    rw [Nat.mul_one] at hrd
    have hus : List.drop (m - 11) (us ys) = us (ys.drop (m - 11)) := by simp [us, List.map_drop]
    rw [hus] at hrd
    clear hus
    obtain ⟨zs, hzs⟩ : ∃ zs, zs = ys.drop (m - 11) := ⟨_, rfl⟩
    rw [← hzs] at hrd
    have HZ := Lib.hid hzs
    clear hzs
    go_region_held3 (fun _ => True) (trivial)
      (first
        | (go_at_call 8; (with_reducible refine (halves_calls A1 n c1 xs _ ?_ k1).mono ?_); · exact (h1.below hb1.drew).more hb1.drew.size
           rintro e w2 ⟨A', c', rfl, ho, hb2⟩
           have hbw : Below w.heap.size w w2 := hb1.drew.trans (hb2.mono hb1.drew.size))
        | (refine st_app (by rfl) _ _ _ (by rfl) el22 (by rfl) ho (by rfl) (h2.below hbw) (oneCell_ints _ _) (by unfold maxLen; omega) (by omega) hb2.size ?_; intro A3 c3 w3 ho3 hg3 hb3
           have hbw3 : Below w.heap.size w w3 := hbw.trans (hb3.mono hb1.drew.size)
           have hr3 : Rd w3 w3.heap.size 1 A3 (n + m) (us (xs ++ ys)) := by (have := ho3.rd; simpa [us] using this))
        | (go_at_call 6; (with_reducible refine (median_calls A3 (n + m) c3 (xs ++ ys) _ hr3 ho3.le.1 (by omega)).mono ?_)
           rintro e w4 ⟨rfl, hb4⟩
           have hbw4 : Below w.heap.size w w4 := hbw3.trans (hb4.mono hbw3.size))
        | (go_at_call 6; (with_reducible refine (median_calls _ _ _ zs _ ?_ ?_ ?_).mono ?_); · exact (hrd.below hbw4).more hbw4.size
           · omega
           · omega
           rintro e w5 ⟨rfl, hb5⟩
           have hbw5 : Below w.heap.size w w5 := hbw4.trans (hb5.mono hbw4.size)))
    go_wp2
    go_ret
    have hm2 : med (xs ++ ys) = med zs := by rw [HZ.out, ← HB.out]; exact med_last xs ys (by rw [HB.out]; exact k2)
    refine ⟨?_, hbw5⟩
    rw [hm2]
    simp
  · have hk' : 30 < n ∨ (n ≤ 30 ∧ m < 11) ∨ (n ≤ 30 ∧ 11 ≤ m ∧ 30 < m) := by omega
    clear hk
    rcases hk' with k1 | ⟨k1, k2⟩ | ⟨k1, k2, k3⟩
    all_goals
      go_enter Try.func4, Try.ntmps4
      go_wp2_with (go_at_call 5; refine (first_calls _).mono ?_; rintro e w1 ⟨rfl, hb1⟩)
      go_ret
      exact ⟨rfl, hb1⟩
end Go.Proofs.Ytjfeehoflahblab
