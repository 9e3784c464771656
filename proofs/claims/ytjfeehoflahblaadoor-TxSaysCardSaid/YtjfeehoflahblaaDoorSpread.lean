/- The words of a chunk, in the program: the call answers 'sched'. Conditions: 64 bytes. -/
import Derived.Test.YtjfeehoflahblaaDoorKeys
import Derived.Test.YtjfeehoflahblaaDoorTurn
import Derived.Deep.RegionHeld3
import Derived.Deep.QuietTactic
import Derived.BigQuiet
namespace Go.Proofs.YtjfeehoflahblaaDoor
open Go.RowKit

set_option maxRecDepth 100000 in
set_option maxHeartbeats 1000000 in
theorem spread_calls (b o c : Nat) (bs : List Int) (w : World) (hr : Rd w w.heap.size 1 (some ⟨b, o, none⟩) 64 (bs.map (Value.int .u8))) (hc : 64 ≤ c) :
    Calls Tryd.prog 179 #[.slice (some ⟨b, o, none⟩) 64 c] w fun e w' => e = .returned (.agg (wu (sched bs 64)).toArray) ∧ Below w.heap.size w w' := by
  have hl : bs.length = 64 := by have := hr.1; simpa using this
  have HL := Lib.hid hl
  clear hl
  have hbl : b < w.heap.size := by obtain ⟨b', o', e, hb⟩ := hr.addr (by omega) (by omega); cases e; exact hb
  go_enter Tryd.func179, Tryd.ntmps179
  go_wp2_with (first
    | (refine wp_alloc (o := ⟨some 2, _, _, _, _, _⟩) rfl _ rfl (z := .agg (Array.replicate 64 (.int .u32 0))) (by kernel_rfl) ?_; intro g0 w0 h0 hb0 hg0)
    | (refine wp_alloc (o := ⟨some 3, _, _, _, _, _⟩) rfl _ rfl (z := .agg (Array.replicate 64 (.int .u32 0))) (by kernel_rfl) ?_; intro g1 w1 h1 h2 hg1))
  have hb1 : Below w.heap.size w w1 := hb0.trans (h2.mono hb0.size)
  have hs0 := hb0.size
  have hl0 := h0.lt
  have h0' := h0.same h2
  go_loopw [4, 5, 6, 7, 8] (fun _ _ _ _ i wr => ∃ (k : Nat), k ≤ 64 ∧ i = .int .i64 k ∧ Bk wr g1 229 (wu (fil (sched bs k) 64)).toArray ∧ Bk wr g0 229 (Value.agg (Array.replicate 64 (.int .u32 0))).cells ∧ Below w.heap.size w wr) (fun _ _ _ _ i _ => 64 - (intOf i).toNat)
  case atStart => exact ⟨0, by omega, rfl, by rw [sched, fil_nil]; exact h1, h0', hb1⟩
  case round =>
    obtain ⟨k, hk, rfl, hB, hB0, hbw⟩ := hrel
    have hsl := Lib.hid (sched_length bs k)
    have HWL := Lib.hid (fil_length (n := 64) (show (sched bs k).length ≤ 64 by rw [sched_length]; exact hk))
    by_cases hlt : k < 64
    · by_cases h16 : k < 16
      · have hcell : ∀ j : Nat, j < 4 → wr.cell? ⟨b, o + 4 * k + j, none⟩ = some (.int .u8 (bs.getD (4 * k + j) 0)) := fun j hj => by
          have := (hr.below hbw).cells (4 * k + j) (.int .u8 (bs.getD (4 * k + j) 0)) (by have := HL.out; simp [List.getD, List.getElem?_eq_getElem (show 4 * k + j < bs.length by omega)])
          rw [← Nat.add_assoc] at this; exact this
        have c0 := hcell 0 (by omega)
        have c1 := hcell 1 (by omega)
        have c2 := hcell 2 (by omega)
        have c3 := hcell 3 (by omega)
        clear hcell
        rw [Nat.add_zero] at c0
        obtain ⟨x0, hx0⟩ : ∃ x, x = bs.getD (4 * k + 0) 0 := ⟨_, rfl⟩
        obtain ⟨x1, hx1⟩ : ∃ x, x = bs.getD (4 * k + 1) 0 := ⟨_, rfl⟩
        obtain ⟨x2, hx2⟩ : ∃ x, x = bs.getD (4 * k + 2) 0 := ⟨_, rfl⟩
        obtain ⟨x3, hx3⟩ : ∃ x, x = bs.getD (4 * k + 3) 0 := ⟨_, rfl⟩
        rw [← hx0] at c0
        rw [← hx1] at c1
        rw [← hx2] at c2
        rw [← hx3] at c3
        have HX := Lib.hid (And.intro hx0 (And.intro hx1 (And.intro hx2 hx3)))
        clear hx0 hx1 hx2 hx3
        have hcc : 4 * k < c := by omega
        have hne : ¬ b = g1 := by omega
        have hno : ¬ some b = some g1 := by intro h; injection h with h; omega
        have q0' : 0 < 64 - 4 * k := by omega
        have hst : ∃ old, wr.cell? ⟨g1, k, none⟩ = some old := by
          have hlk : k < (wu (fil (sched bs k) 64)).toArray.size := by have := HWL.out; simp [wu]; omega
          rw [hB.cell]; exact ⟨_, Array.getElem?_eq_getElem hlk⟩
        obtain ⟨old, hold⟩ := hst
        have hfz := hB.frozen k
        have q0 : (0 : Int) < ((64 - 4 * k : Nat) : Int) := by omega
        have q1 : (1 : Int) < ((64 - 4 * k : Nat) : Int) := by omega
        have q2 : (2 : Int) < ((64 - 4 * k : Nat) : Int) := by omega
        have q3 : (3 : Int) < ((64 - 4 * k : Nat) : Int) := by omega
        go_wp2
        go_region_held3 (fun w' => w'.cell? ⟨b, o + 4 * k, none⟩ = some (.int .u8 x0) ∧ w'.cell? ⟨b, o + 4 * k + 1, none⟩ = some (.int .u8 x1) ∧ w'.cell? ⟨b, o + 4 * k + 2, none⟩ = some (.int .u8 x2) ∧ w'.cell? ⟨b, o + 4 * k + 3, none⟩ = some (.int .u8 x3))
          (first | exact ⟨c0, c1, c2, c3⟩ | exact ⟨set_cell hne c0, set_cell hne c1, set_cell hne c2, set_cell hne c3⟩) (fail)
        go_wp2
        go_roundw
        case rel =>
          refine ⟨k + 1, by omega, by go_num, ?_, ?_, ?_⟩
          · have := hB.set k (.int .u32 (word4 x0 x1 x2 x3))
            have hs := fil_set (n := 64) (show (sched bs k).length < 64 by rw [sched_length]; omega) (word4 x0 x1 x2 x3)
            rw [sched_length] at hs
            rw [hs] at this
            have e : sched bs (k + 1) = sched bs k ++ [word4 x0 x1 x2 x3] := by
              rw [sched, if_pos h16, HX.out.1, HX.out.2.1, HX.out.2.2.1, HX.out.2.2.2]; rfl
            rw [e]; exact this
          · exact hB0.far (by simp; omega) _
          · exact (hbw.setCell (by simp; omega) _).drew
        case measure => simp [intOf]; omega
      · have h16' : 16 ≤ k := by omega
        have hcell : ∀ j : Nat, j < k → wr.cell? ⟨g1, j, none⟩ = some (.int .u32 ((sched bs k).getD j 0)) := fun j hj => by
          rw [hB.cell, wu_getElem? _ _ (by rw [HWL.out]; omega), fil_getD (by rw [hsl.out]; exact hj)]
        have d2 := hcell (k - 2) (by omega)
        have d7 := hcell (k - 7) (by omega)
        have d15 := hcell (k - 15) (by omega)
        have d16 := hcell (k - 16) (by omega)
        clear hcell
        obtain ⟨x2, hx2⟩ : ∃ x, x = (sched bs k).getD (k - 2) 0 := ⟨_, rfl⟩
        obtain ⟨x7, hx7⟩ : ∃ x, x = (sched bs k).getD (k - 7) 0 := ⟨_, rfl⟩
        obtain ⟨x15, hx15⟩ : ∃ x, x = (sched bs k).getD (k - 15) 0 := ⟨_, rfl⟩
        obtain ⟨x16, hx16⟩ : ∃ x, x = (sched bs k).getD (k - 16) 0 := ⟨_, rfl⟩
        rw [← hx2] at d2
        rw [← hx7] at d7
        rw [← hx15] at d15
        rw [← hx16] at d16
        have HX := Lib.hid (And.intro hx2 (And.intro hx7 (And.intro hx15 hx16)))
        clear hx2 hx7 hx15 hx16
        have hst : ∃ old, wr.cell? ⟨g1, k, none⟩ = some old := by
          have hlk : k < (wu (fil (sched bs k) 64)).toArray.size := by have := HWL.out; simp [wu]; omega
          rw [hB.cell]; exact ⟨_, Array.getElem?_eq_getElem hlk⟩
        obtain ⟨old, hold⟩ := hst
        have hfz := hB.frozen k
        have w2 : IntKind.i64.wrap ((k : Int) - 2) = (k : Int) - 2 := by rw [IntKind.wrap_i64]; omega
        have w7 : IntKind.i64.wrap ((k : Int) - 7) = (k : Int) - 7 := by rw [IntKind.wrap_i64]; omega
        have w15 : IntKind.i64.wrap ((k : Int) - 15) = (k : Int) - 15 := by rw [IntKind.wrap_i64]; omega
        have w16 : IntKind.i64.wrap ((k : Int) - 16) = (k : Int) - 16 := by rw [IntKind.wrap_i64]; omega
        have n2 : ((k : Int) - 2).toNat = k - 2 := by omega
        have n7 : ((k : Int) - 7).toNat = k - 7 := by omega
        have n15 : ((k : Int) - 15).toNat = k - 15 := by omega
        have n16 : ((k : Int) - 16).toNat = k - 16 := by omega
        have p2 : (0 : Int) ≤ (k : Int) - 2 := by omega
        have p7 : (0 : Int) ≤ (k : Int) - 7 := by omega
        have p15 : (0 : Int) ≤ (k : Int) - 15 := by omega
        have p16 : (0 : Int) ≤ (k : Int) - 16 := by omega
        have z2 : (2 : Int) ≤ (k : Int) := by omega
        have z7 : (7 : Int) ≤ (k : Int) := by omega
        have z15 : (15 : Int) ≤ (k : Int) := by omega
        have z16 : (16 : Int) ≤ (k : Int) := by omega
        have m2 : (k : Int) - 2 < 64 := by omega
        have m7 : (k : Int) - 7 < 64 := by omega
        have m15 : (k : Int) - 15 < 64 := by omega
        have m16 : (k : Int) - 16 < 64 := by omega
        go_wp2
        go_quiet (fail)
        go_wp2
        go_region_held3 (fun w' => w'.cell? ⟨g1, k - 7, none⟩ = some (.int .u32 x7) ∧ w'.cell? ⟨g1, k - 16, none⟩ = some (.int .u32 x16))
          (first | exact ⟨d7, d16⟩ | exact ⟨set_cell' (by omega) d7, set_cell' (by omega) d16⟩)
          (first
            | (go_at_call 181; (with_reducible refine (turn_any _ _ _ (by omega) (by omega)).mono ?_); rintro e w' ⟨rfl, rfl⟩))
        go_wp2
        go_roundw
        case rel =>
          refine ⟨k + 1, by omega, by go_num, ?_, ?_, ?_⟩
          · have hnw : nextWord (sched bs k) k = (((sg1 x2 + x7) % 4294967296 + sg0 x15) % 4294967296 + x16) % 4294967296 := by
              rw [nextWord, ← HX.out.1, ← HX.out.2.1, ← HX.out.2.2.1, ← HX.out.2.2.2]
            have := (hB.drewN (nq + 1)).set k (.int .u32 (nextWord (sched bs k) k))
            have hs := fil_set (n := 64) (show (sched bs k).length < 64 by rw [sched_length]; omega) (nextWord (sched bs k) k)
            rw [sched_length] at hs
            rw [hs, hnw] at this
            have e : sched bs (k + 1) = sched bs k ++ [nextWord (sched bs k) k] := by
              rw [sched, if_neg (by omega)]
            rw [e, hnw]; exact this
          · exact (hB0.drewN (nq + 1)).far (by simp; omega) _
          · exact (bl_drewN hbw (nq + 1)).setCell (by simp; omega) _
        case measure => simp [intOf]; omega
    · obtain rfl : k = 64 := by omega
      rw [fil_full hsl.out] at hB
      go_wp2_with (first
        | (refine wp_load rfl _ _ rfl ag64 rfl (wu_length _ |>.trans hsl.out) (fun j u hu => by rw [Nat.zero_add, hB.cell]; simpa using hu) ?_)
        | (refine wp_store_all rfl _ _ _ rfl ag64 rfl rfl hB0 (wu_length _ |>.trans hsl.out) rfl (oneCell_ints _ _) ?_; intro w2 h4 h5))
      exact ret_row rfl rfl ag64 rfl h4 (by simp [wu, hsl.out]) ⟨rfl, hbw.trans (grown_below h5 (by omega) hbw.size)⟩
end Go.Proofs.YtjfeehoflahblaaDoor
