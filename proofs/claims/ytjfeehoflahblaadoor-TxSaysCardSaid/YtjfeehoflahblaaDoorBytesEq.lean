/- Whether two rows of bytes are the same: the library's answer. Conditions: the rows lie in memory. -/
import Derived.Test.YtjfeehoflahblaaDoorCheckTx
import Derived.Shelf.Bytes.SlSmallAll
import Derived.Lib.Bytes
namespace Go.Proofs.YtjfeehoflahblaaDoor
open Go.RowKit

theorem conv_rd {w : World} {B : Nat} {A : Option Addr} {n : Nat} {xs : List Int} (h : Rd w B 1 A n (ub xs)) (c : Nat) (hn : 0 < n) :
    (convert 29 9 (.slice A n c)).run Tryd.prog w = .ok (.string (strOfNums xs)) w := by
  have hl : xs.length = n := by have := h.1; simpa [ub] using this
  obtain ⟨u, hu⟩ : ∃ u, (ub xs)[0]? = some u := ⟨_, List.getElem?_eq_getElem (by rw [ub_length]; omega)⟩
  obtain ⟨b, o, rfl, _, _⟩ := h.2 0 u hu
  refine run_convert_bytes_arg (P := Tryd.prog) w 29 5 Tryd.underlying29 Tryd.underlying5 b o n c xs hl (fun i hi => ?_) _ Tryd.underlying9
  have hx : (ub xs)[i]? = some (.int .u8 (xs.getD i 0)) := by
    have : i < xs.length := by omega
    simp [ub, List.getD, this]
  obtain ⟨b', o', e, _, hc⟩ := h.2 i _ hx
  cases e
  exact hc
theorem conv_all {w : World} {B : Nat} {A : Option Addr} {n : Nat} {xs : List Int} (h : Rd w B 1 A n (ub xs)) (c : Nat) :
    (convert 29 9 (.slice A n c)).run Tryd.prog w = .ok (.string (strOfNums xs)) w := by
  have hl : xs.length = n := by have := h.1; simpa [ub] using this
  rcases Nat.eq_zero_or_pos n with hn | hn
  · subst hn
    obtain rfl : xs = [] := List.eq_nil_of_length_eq_zero hl
    exact run_convert_bytes_zero (P := Tryd.prog) w 29 5 Tryd.underlying29 Tryd.underlying5 A c _ Tryd.underlying9
  · exact conv_rd h c hn
theorem str_inj : ∀ {xs ys : List Int}, IsB xs → IsB ys → (xs.map fun n => UInt8.ofNat n.toNat) = (ys.map fun n => UInt8.ofNat n.toNat) → xs = ys
  | [], [], _, _, _ => rfl
  | [], _ :: _, _, _, h => by simp at h
  | _ :: _, [], _, _, h => by simp at h
  | x :: xs, y :: ys, hx, hy, h => by
    simp only [List.map_cons, List.cons.injEq] at h
    have h1 := hx x (by simp)
    have h2 := hy y (by simp)
    have h3 : x.toNat % 256 = y.toNat % 256 := by
      have := congrArg UInt8.toNat h.1
      simpa using this
    rw [str_inj (fun z hz => hx z (by simp [hz])) (fun z hz => hy z (by simp [hz])) h.2, show x = y by omega]
theorem strOf_beq {xs ys : List Int} (hx : IsB xs) (hy : IsB ys) : ((strOfNums xs).toList == (strOfNums ys).toList) = decide (xs = ys) := by
  rw [Bool.eq_iff_iff, decide_eq_true_iff, beq_iff_eq, Lib.strOfNums_toList, Lib.strOfNums_toList]
  exact ⟨fun h => str_inj hx hy h, fun h => by rw [h]⟩
theorem bytesEq_calls (A B : Option Addr) (n m c d b1 b2 : Nat) (xs ys : List Int) (w : World) (h1 : Rd w b1 1 A n (ub xs)) (h2 : Rd w b2 1 B m (ub ys)) (hx : IsB xs) (hy : IsB ys) :
    Calls Tryd.prog 90 #[.slice A n c, .slice B m d] w fun e w' => e = .returned (.bool (decide (xs = ys))) ∧ w' = w := by
  have g1 := conv_all h1 c
  have g2 := conv_all h2 d
  have HE := Lib.hid (strOf_beq hx hy)
  clear h1 h2
  go_enter Tryd.func90, Tryd.ntmps90
  go_wp2_with fail
  go_ret
  exact ⟨by rw [← HE.out]; rfl, rfl⟩
end Go.Proofs.YtjfeehoflahblaaDoor
