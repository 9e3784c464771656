/- The plain law of PastMiddle: the middle one of up to eleven numbers is one of them, has at most half of them below it and at most half (but one) above it, and does not hang on their order. Conditions: one to eleven numbers. -/
import Derived.Test.YtjfeehoflahblabT4
namespace Go.Proofs.Ytjfeehoflahblab
open Go.RowKit

theorem med_small (xs : List Int) (h0 : 0 < xs.length) (h : xs.length ≤ 11) : med xs = (srt xs).getD (xs.length / 2) 0 := by
  have hne : xs ≠ [] := by intro e; rw [e] at h0; simp at h0
  unfold med
  rw [if_neg hne, show xs.length - 11 = 0 by omega, show min xs.length 11 = xs.length by omega]
  rfl
theorem med_perm {xs ys : List Int} (h0 : 0 < xs.length) (h : xs.length ≤ 11) (hp : ys.Perm xs) : med ys = med xs := by
  rw [med_small xs h0 h, med_small ys (by rw [hp.length_eq]; exact h0) (by rw [hp.length_eq]; exact h), srt_congr hp, hp.length_eq]
theorem med_mem (xs : List Int) (h0 : 0 < xs.length) (h : xs.length ≤ 11) : med xs ∈ xs := by
  rw [med_small xs h0 h]
  have hl : xs.length / 2 < (srt xs).length := by rw [srt_length]; omega
  rw [List.getD, List.getElem?_eq_getElem hl]
  exact (srt_perm xs).mem_iff.1 (List.getElem_mem hl)
theorem med_below (xs : List Int) (h0 : 0 < xs.length) (h : xs.length ≤ 11) : xs.countP (fun x => decide (x < med xs)) ≤ xs.length / 2 := by
  have hl : xs.length / 2 < (srt xs).length := by rw [srt_length]; omega
  have hm : med xs = (srt xs)[xs.length / 2] := by rw [med_small xs h0 h, List.getD, List.getElem?_eq_getElem hl]; rfl
  rw [← (srt_perm xs).countP_eq, ← List.take_append_drop (xs.length / 2) (srt xs), List.countP_append]
  have h1 : ((srt xs).drop (xs.length / 2)).countP (fun x => decide (x < med xs)) = 0 := by
    rw [List.countP_eq_zero]
    intro a ha
    obtain ⟨j, hj, rfl⟩ := List.getElem_of_mem ha
    rw [List.length_drop] at hj
    rw [List.getElem_drop, hm]
    rcases Nat.eq_zero_or_pos j with hj0 | hj0
    · subst hj0; simp
    · have := (List.pairwise_iff_getElem.1 (srt_sorted xs)) (xs.length / 2) (xs.length / 2 + j) hl (by omega) (by omega)
      simp; omega
  have h2 := List.countP_le_length (p := fun x => decide (x < med xs)) (l := (srt xs).take (xs.length / 2))
  rw [List.length_take] at h2
  omega
theorem med_above (xs : List Int) (h0 : 0 < xs.length) (h : xs.length ≤ 11) : xs.countP (fun x => decide (med xs < x)) ≤ (xs.length - 1) / 2 := by
  have hl : xs.length / 2 < (srt xs).length := by rw [srt_length]; omega
  have hm : med xs = (srt xs)[xs.length / 2] := by rw [med_small xs h0 h, List.getD, List.getElem?_eq_getElem hl]; rfl
  rw [← (srt_perm xs).countP_eq, ← List.take_append_drop (xs.length / 2 + 1) (srt xs), List.countP_append]
  have h1 : ((srt xs).take (xs.length / 2 + 1)).countP (fun x => decide (med xs < x)) = 0 := by
    rw [List.countP_eq_zero]
    intro a ha
    obtain ⟨j, hj, rfl⟩ := List.getElem_of_mem ha
    rw [List.length_take] at hj
    rw [List.getElem_take, hm]
    rcases Nat.lt_or_ge j (xs.length / 2) with hj0 | hj0
    · have := (List.pairwise_iff_getElem.1 (srt_sorted xs)) j (xs.length / 2) (by omega) hl hj0
      simp; omega
    · have : j = xs.length / 2 := by omega
      subst this; simp
  have h2 := List.countP_le_length (p := fun x => decide (med xs < x)) (l := (srt xs).drop (xs.length / 2 + 1))
  rw [List.length_drop, srt_length] at h2
  omega

theorem countP_snoc (p : Int → Bool) (xs : List Int) (k : Nat) (x : Int) (h : xs[k]? = some x) : (xs.take (k + 1)).countP p = (xs.take k).countP p + if p x then 1 else 0 := by
  rw [List.take_add_one, h, List.countP_append]
  simp [List.countP_cons]
theorem any_snoc (m : Int) (xs : List Int) (k : Nat) (x : Int) (h : xs[k]? = some x) : (xs.take (k + 1)).any (· == m) = ((xs.take k).any (· == m) || x == m) := by
  rw [List.take_add_one, h, List.any_append]
  simp
end Go.Proofs.Ytjfeehoflahblab
