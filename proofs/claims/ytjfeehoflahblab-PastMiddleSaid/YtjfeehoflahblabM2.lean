/- The call of PastMiddle answers true over every slice and every turn. Conditions: the slice reads as a list of numbers. -/
import Derived.Test.YtjfeehoflahblabM1
namespace Go.Proofs.Ytjfeehoflahblab
open Go.RowKit

set_option maxHeartbeats 1000000 in
theorem middle_walk (A : Option Addr) (n c : Nat) (xs : List Int) (t : Int) (w : World) (h1 : Rd w w.heap.size 1 A n (us xs)) (hc1 : n ≤ c) (_hm1 : c ≤ maxLen) (ht : -9223372036854775808 ≤ t ∧ t ≤ 9223372036854775807) :
    Calls Try.prog 3 #[.slice A n c, .int .i64 t] w fun e w' => e = .returned (.bool true) ∧ Below w.heap.size w w' := by
  unfold maxLen at _hm1
  have ha : xs.length = n := by have := h1.1; simpa [us] using this
  have HA := Lib.hid ha
  by_cases hk : 0 < n ∧ n ≤ 11
  · obtain ⟨k0, k1⟩ := hk
    have p1 := med_mem xs (by omega) (by omega)
    have p2 := med_below xs (by omega) (by omega)
    have p3 := med_above xs (by omega) (by omega)
    have P1 := Lib.hid p1
    rw [ha] at p2 p3
    obtain ⟨b, o, rfl, hbl⟩ := h1.addr (by omega) (by omega)
    obtain ⟨m, hm⟩ : ∃ m, m = med xs := ⟨_, rfl⟩
    rw [← hm] at p2 p3
    have HM := Lib.hid hm
    clear ha p1 hm
    have hn0 : ((n : Int) == 0) = false := by simp; omega
    go_enter Try.func3, Try.ntmps3
    go_wp2_with (first
      | (go_at_call 5; refine (first_calls _).mono ?_; rintro e w1 ⟨rfl, hb1⟩)
      | (go_at_call 6; refine (median_calls (some ⟨b, o, none⟩) n c xs _ ((h1.below hb1).more hb1.size) hc1 (by omega)).mono ?_; rintro e w2 ⟨rfl, hb2⟩))
    rw [← HM.out]
    have hb : Below w.heap.size w w2 := hb1.trans (hb2.mono hb1.size)
    have hr2 := h1.below hb
    go_loop [7, 8, 9, 10] (fun lo hi is i => ∃ k : Nat, ∃ bb : Bool, k ≤ n ∧ i = .int .i64 k ∧ lo = .int .i64 ((xs.take k).countP (fun x => decide (x < m)) : Nat) ∧ hi = .int .i64 ((xs.take k).countP (fun x => decide (m < x)) : Nat) ∧ is = .bool bb ∧ bb = (xs.take k).any (· == m)) (fun _ _ _ i => n - (intOf i).toNat)
    case atStart => exact ⟨0, false, by omega, rfl, rfl, rfl, rfl, rfl⟩
    case round =>
      obtain ⟨k, bb, hk, rfl, rfl, rfl, rfl, hbb⟩ := hrel
      have HBB := Lib.hid hbb
      clear hbb
      by_cases hlt : k < n
      · have hkl : k < xs.length := by have := HA.out; omega
        obtain ⟨x, hx⟩ : ∃ x, xs[k]? = some x := ⟨_, List.getElem?_eq_getElem hkl⟩
        have hcell : w2.cell? ⟨b, o + k, none⟩ = some (.int .u32 x) := hr2.cells k _ (by simp [us, hx])
        have s1 := Lib.hid (countP_snoc (fun x => decide (x < m)) xs k x hx)
        have s2 := Lib.hid (countP_snoc (fun x => decide (m < x)) xs k x hx)
        have s3 := Lib.hid (any_snoc m xs k x hx)
        have b1 := List.countP_le_length (p := fun x => decide (x < m)) (l := xs.take k)
        have b2 := List.countP_le_length (p := fun x => decide (m < x)) (l := xs.take k)
        rw [List.length_take] at b1 b2
        have b3 := Nat.min_le_left k xs.length
        clear hx
        obtain ⟨q1, hq1⟩ : ∃ q, q = (xs.take k).countP (fun x => decide (x < m)) := ⟨_, rfl⟩
        obtain ⟨q2, hq2⟩ : ∃ q, q = (xs.take k).countP (fun x => decide (m < x)) := ⟨_, rfl⟩
        rw [← hq1] at b1 ⊢
        rw [← hq2] at b2 ⊢
        have Q1 := Lib.hid hq1
        have Q2 := Lib.hid hq2
        clear hq1 hq2
        cases bb
        all_goals
          rcases Int.lt_trichotomy x m with hxm | hxm | hxm
          all_goals
            go_wp2
            go_round
            case rel =>
              refine ⟨k + 1, _, by omega, by go_num, ?_, ?_, rfl, ?_⟩
              · rw [s1.out, ← Q1.out]; first | rw [if_pos (by simp; omega)] | rw [if_neg (by simp; omega)]
                first | rfl | (congr 1)
              · rw [s2.out, ← Q2.out]; first | rw [if_pos (by simp; omega)] | rw [if_neg (by simp; omega)]
                first | rfl | (congr 1)
              · rw [s3.out, ← HBB.out]
                first | rfl | (simp; omega) | simp [hxm]
            case measure => simp [intOf]; omega
      · obtain rfl : k = n := by omega
        have et : xs.take k = xs := List.take_of_length_le (by have := HA.out; omega)
        have hbt : bb = true := by
          have := HBB.out; rw [et] at this; rw [this]
          rw [List.any_eq_true]
          exact ⟨m, by rw [HM.out]; exact P1.out, by simp⟩
        subst hbt
        rw [et] at *
        clear et
        obtain ⟨q1, hq1⟩ : ∃ q, q = xs.countP (fun x => decide (x < m)) := ⟨_, rfl⟩
        obtain ⟨q2, hq2⟩ : ∃ q, q = xs.countP (fun x => decide (m < x)) := ⟨_, rfl⟩
        rw [← hq1] at p2 ⊢
        rw [← hq2] at p3 ⊢
        clear hq1 hq2
        have m0 := Int.emod_nonneg t (show (k : Int) ≠ 0 by omega)
        have m1 := Int.emod_lt_of_pos t (show (0 : Int) < k by omega)
        go_wp2_with fail
        refine (number_calls t k (by omega) (by omega) ht _).mono ?_
        rintro e w3 ⟨rfl, rfl⟩
        obtain ⟨j, hj⟩ : ∃ j : Nat, t % (k : Int) = (j : Int) := ⟨(t % (k : Int)).toNat, by omega⟩
        rw [hj] at m0 m1 ⊢
        clear hj
        have hjk : j < k := by omega
        have hjc : j < c := by omega
        have hjc2 : (c = j) = False := by simp; omega
        have r1 : Rd w3 w3.heap.size 1 (some ⟨b, o + j, none⟩) (k - j) (us (xs.drop j)) := by
          have := (hr2.drop_ j).more hb.size
          rw [Nat.mul_one] at this; simpa [us, List.map_drop] using this
        have r2 : Rd w3 w3.heap.size 1 (some ⟨b, o, none⟩) j (us (xs.take j)) := by
          have := (hr2.take_ (show j ≤ k by omega)).more hb.size
          rw [Nat.mul_one] at this; simpa [us, List.map_take] using this
        have i1 : (j : Int) ≤ (k : Int) := by omega
        have i2 : (j : Int) ≤ (c : Int) := by omega
        go_wp2_with fail
        go_region_held3 (fun _ => True) (trivial)
          (first
            | (go_at_call 8; (with_reducible refine (halves_calls _ _ _ (xs.drop j) _ ?_ ?_).mono ?_); · exact r1.drew
               · omega
               rintro e w4 ⟨A', c', rfl, ho, hb4⟩
               have hbw4 : Below w.heap.size w w4 := hb.drew.trans (hb4.mono hb.drew.size))
            | (refine st_app (by rfl) _ _ _ (by rfl) el22 (by rfl) ho (by rfl) (r2.drew.below hb4) (oneCell_ints _ _) (by unfold maxLen; omega) (by omega) hb4.size ?_; intro A3 c3 w5 ho3 hg3 hb5
               have hbw5 : Below w.heap.size w w5 := hbw4.trans (hb5.mono hb.drew.size)))
        go_wp2_with fail
        have r5 : Rd w5 w5.heap.size 1 A3 (k - j + j) (us (xs.drop j ++ xs.take j)) := by have := ho3.rd; simpa [us] using this
        refine (median_calls A3 (k - j + j) c3 _ w5 r5 ho3.le.1 (by omega)).mono ?_
        rintro e w6 ⟨rfl, hb6⟩
        have em : med (xs.drop j ++ xs.take j) = m := by
          rw [HM.out]
          refine med_perm (by have := HA.out; omega) (by have := HA.out; omega) ?_
          refine List.perm_append_comm.trans ?_
          rw [List.take_append_drop]
        rw [em]
        go_wp2
        go_ret
        exact ⟨by first | rfl | simp, hbw5.trans (hb6.mono hbw5.size)⟩
  · have hk' : n = 0 ∨ 11 < n := by omega
    clear hk
    rcases hk' with rfl | k1
    all_goals
      go_enter Try.func3, Try.ntmps3
      go_wp2_with (go_at_call 5; refine (first_calls _).mono ?_; rintro e w1 ⟨rfl, hb1⟩)
      go_ret
      exact ⟨rfl, hb1⟩
end Go.Proofs.Ytjfeehoflahblab
