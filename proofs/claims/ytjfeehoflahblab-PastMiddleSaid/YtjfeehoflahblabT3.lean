/- past.Median answers the middle one of the last eleven numbers, sorted. Conditions: at most sixty numbers. -/
import Derived.Test.YtjfeehoflahblabT2
import Derived.Lib.Hide
namespace Go.Proofs.Ytjfeehoflahblab
open Go.RowKit

/-- The numbers, sorted. -/
def srt (xs : List Int) : List Int := xs.mergeSort (fun x y => !Sort.ltInt y x)
theorem srt_eq (xs : List Int) : (Sort.insertionSort Sort.ltInt xs.toArray 0 xs.length).toList = srt xs := by
  have h := Sort.insertionSort_holds (lt := Sort.ltInt) Sort.swo_ltInt xs.toArray 0 xs.length (Nat.zero_le _) (by simp)
  have hu := Sort.sorted_unique_holds (lt := Sort.ltInt) Sort.swo_ltInt (fun x y h1 h2 => by simp [Sort.ltInt] at h1 h2; omega) xs.toArray _ (by simpa using h.1) (by simpa using h.2)
  simpa [srt] using hu
theorem srt_perm (xs : List Int) : (srt xs).Perm xs := List.mergeSort_perm _ _
theorem srt_length (xs : List Int) : (srt xs).length = xs.length := (srt_perm xs).length_eq
theorem srt_sorted (xs : List Int) : (srt xs).Pairwise (· ≤ ·) := by
  have h := List.pairwise_mergeSort (le := fun x y => !Sort.ltInt y x) (fun a b c h1 h2 => by simp [Sort.ltInt] at *; omega) (fun a b => by simp [Sort.ltInt]; omega) xs
  exact h.imp fun h => by simpa [Sort.ltInt] using h
theorem srt_congr {xs ys : List Int} (h : xs.Perm ys) : srt xs = srt ys :=
  List.Perm.eq_of_pairwise (le := fun a b => a ≤ b) (fun a b _ _ h1 h2 => Int.le_antisymm h1 h2) (srt_sorted xs) (srt_sorted ys) ((srt_perm xs).trans (h.trans (srt_perm ys).symm))

theorem sort_own {base g n c : Nat} {xs : List Int} {w : World} (h : Ow w base 24 1 (some ⟨g, 0, none⟩) n c (us xs)) (hn : n ≤ 12) :
    Calls Try.prog 10 #[.slice (some ⟨g, 0, none⟩) n c] w fun e w' => e = .returned (.tuple #[]) ∧ Ow w' base 24 1 (some ⟨g, 0, none⟩) n c (us (srt xs)) ∧ Below g w w' := by
  have hl : xs.length = n := by have := h.1; simpa [us] using this
  subst hl
  rcases h.cases with ⟨h0, _⟩ | ⟨g', cur, hg, hb, _, hbk, hnc, hcm, hcs, htk⟩
  · cases h0
  · obtain rfl : g = g' := by injection hg with hg; injection hg
    have hcell : ∀ j, j < xs.length → cur[j]? = some (.int .u32 (xs.getD j 0)) := fun j hj => by
      have e : (cur.toList.take (xs.length * 1))[j]? = (us xs)[j]? := by rw [htk]
      rw [List.getElem?_take_of_lt (by omega)] at e
      simp only [Array.getElem?_toList] at e
      rw [e]; simp [us, List.getElem?_eq_getElem hj, List.getD]
    have hH : Sort.Holds (Value.int .u32) w g 0 xs.toArray := fun j hj => by
      have hj' : j < xs.length := by simpa using hj
      refine ⟨?_, hbk.frozen _⟩
      rw [Nat.zero_add, hbk.cell, hcell j hj']
      simp [List.getD, List.getElem?_eq_getElem hj', hj']
    have := sort_calls g 0 c xs.toArray w hH (by simpa using hn)
    simp only [List.size_toArray] at this
    refine this.mono ?_
    rintro e w' ⟨rfl, q, rfl⟩
    have hsz : (Sort.insertionSort Sort.ltInt xs.toArray 0 xs.length).size = xs.length := by
      have := srt_length xs; rw [← srt_eq] at this; simpa using this
    have hheap : (Sort.putRow (Value.int .u32) (Sort.ahead w q) g 0 (Sort.insertionSort Sort.ltInt xs.toArray 0 xs.length)).heap[g]? = some (.cells (Sort.putCells (Value.int .u32) 0 (Sort.insertionSort Sort.ltInt xs.toArray 0 xs.length) cur) 24 (0, 0)) := by
      have : w.heap[g]? = _ := hbk
      simp [Sort.putRow, Sort.mapBlock, Array.getElem?_modify, this, Sort.onCells]
    refine ⟨rfl, ?_, ?_⟩
    · have hbk' : Bk (Sort.putRow (Value.int .u32) (Sort.ahead w q) g 0 (Sort.insertionSort Sort.ltInt xs.toArray 0 xs.length)) g 24 _ := hheap
      have ho := Ow.of_bk (sz := 1) (n := xs.length) (c := c) hbk' hb hnc hcm (by simpa [Sort.putCells] using hcs)
      have e : ((Sort.putCells (Value.int .u32) 0 (Sort.insertionSort Sort.ltInt xs.toArray 0 xs.length) cur).toList.take (xs.length * 1)) = us (srt xs) := by
        have hc2 : cur.size = c := by simpa using hcs
        apply List.ext_getElem?
        intro j
        by_cases hj : j < xs.length
        · rw [List.getElem?_take_of_lt (by omega)]
          simp only [Array.getElem?_toList, Sort.putCells, Array.getElem?_mapIdx, us, ← srt_eq, List.getElem?_map, Array.getElem?_toList]
          rw [Array.getElem?_eq_getElem (xs := cur) (by omega), Array.getElem?_eq_getElem (xs := Sort.insertionSort Sort.ltInt xs.toArray 0 xs.length) (by omega)]
          simp [hsz, hj]
        · rw [List.getElem?_eq_none (by simp; omega), List.getElem?_eq_none (by simp [us, srt_length]; omega)]
      rw [e] at ho
      exact ho
    · refine ⟨rfl, rfl, rfl, by simp, fun k hk => ?_⟩
      simp [Sort.putRow, Sort.mapBlock, Array.getElem?_modify, show g ≠ k by omega]

def med (xs : List Int) : Int := if xs = [] then 0 else (srt (xs.drop (xs.length - 11))).getD ((min xs.length 11) / 2) 0

theorem median_calls (A : Option Addr) (n c : Nat) (xs : List Int) (w : World) (hr : Rd w w.heap.size 1 A n (us xs)) (hnc : n ≤ c) (hn : n ≤ 60) :
    Calls Try.prog 6 #[.slice A n c] w fun e w' => e = .returned (.int .u32 (med xs)) ∧ Below w.heap.size w w' := by
  have hl : xs.length = n := by have := hr.1; simpa [us] using this
  rcases Nat.eq_zero_or_pos n with h0 | h0
  · subst h0
    have hx : xs = [] := List.eq_nil_of_length_eq_zero hl
    subst hx
    go_enter Try.func6, Try.ntmps6
    go_wp2
    go_ret
    exact ⟨by simp [med], Below.refl _ _⟩
  · obtain ⟨b, o, rfl, hb⟩ := hr.addr h0 (by omega)
    have hne : xs ≠ [] := by intro h; rw [h] at hl; simp at hl; omega
    have hrd := hr.drop_ (n - 11)
    rw [Nat.mul_one] at hrd
    have hdl : (xs.drop (n - 11)).length = min n 11 := by rw [List.length_drop, hl]; omega
    have hus : List.drop (n - 11) (us xs) = us (xs.drop (n - 11)) := by simp [us, List.map_drop]
    rw [hus] at hrd
    have hmed : med xs = (srt (xs.drop (n - 11))).getD (min n 11 / 2) 0 := by unfold med; rw [if_neg hne, hl]
    have HM := Lib.hid hmed
    have HL := Lib.hid hl
    have HD := Lib.hid hdl
    obtain ⟨ys, hys⟩ : ∃ ys, ys = xs.drop (n - 11) := ⟨_, rfl⟩
    rw [← hys] at hrd HM HD
    clear hmed hl hdl hus hne hys
    have hlt : n - 11 < c := by omega
    go_enter Try.func6, Try.ntmps6
    go_wp2_with fail
    rw [show (max ((n : Int) - 11) 0).toNat = n - 11 from by omega]
    refine (clone_calls _ (n - (n - 11)) _ ys w hrd (by omega)).mono ?_
    rintro e w1 ⟨A', c', rfl, ho, hb1⟩
    obtain ⟨m, hm⟩ : ∃ m, m = n - (n - 11) := ⟨_, rfl⟩
    have hm0 : 0 < m := by omega
    have hm1 : m ≤ 11 := by omega
    rw [← hm] at ho ⊢
    obtain ⟨b1, o1, rfl, _⟩ := ho.rd.addr hm0 (by omega)
    obtain ⟨rfl⟩ : o1 = 0 := by
      rcases ho.cases with ⟨h, _⟩ | ⟨g, cur, h, _⟩
      · cases h
      · injection h with h; injection h
    have hb2 : w.heap.size ≤ b1 := by
      rcases ho.cases with ⟨h, _⟩ | ⟨g, cur, h, hg, _⟩
      · cases h
      · injection h with h; injection h with h; omega
    have hyl : ys.length = m := by rw [HD.out]; omega
    have HMM : Hid (med xs = (srt ys).getD (m / 2) 0) := by have := HM.out; rw [show min n 11 = m by omega] at this; exact this
    have HYL := Lib.hid hyl
    clear hyl hm HM HL HD hrd hr
    go_wp2_with fail
    refine (sort_own ho (by omega)).mono ?_
    rintro e w2 ⟨rfl, ho2, hb3⟩
    have hc : w2.cell? ⟨b1, m / 2, none⟩ = some (.int .u32 ((srt ys).getD (m / 2) 0)) := by
      have hlen : m / 2 < (srt ys).length := by rw [srt_length, HYL.out]; omega
      have := ho2.rd.cells (m / 2) (.int .u32 ((srt ys).getD (m / 2) 0)) (by simp [us, List.getD, List.getElem?_eq_getElem hlen])
      simpa using this
    obtain ⟨x, hx⟩ : ∃ x, x = (srt ys).getD (m / 2) 0 := ⟨_, rfl⟩
    rw [← hx] at hc
    have HX := Lib.hid hx
    clear hx
    go_wp2
    go_ret
    exact ⟨by rw [HMM.out, ← HX.out]; rfl, hb1.trans (hb3.mono hb2)⟩
end Go.Proofs.Ytjfeehoflahblab
