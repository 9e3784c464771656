/- The words of a digest under way: the call answers the eight words at first, or those that are kept. Conditions: eight words. -/
import Derived.Test.YtjfeehoflahblaaDoorMix
import Derived.Test.YtjfeehoflahblaaDoorBytes
namespace Go.Proofs.YtjfeehoflahblaaDoor
open Go.RowKit

/-- A Writer's cells. -/
def wrt (s : List Int) (A : Option Addr) (r c : Nat) (n : Int) : List Value := wu s ++ [.slice A r c, .int .i64 n]

set_option maxRecDepth 100000 in
theorem state_calls (g : Nat) (s : List Int) (A : Option Addr) (r c : Nat) (n : Int) (w : World) (hs : s.length = 8) (hg : Bk w g 212 (wrt s A r c n).toArray) :
    Calls Tryd.prog 171 #[.pointer (some ⟨g, 0, none⟩)] w fun e w' => e = .returned (.agg (wu (if n < 64 then sha0 else s)).toArray) ∧ Below w.heap.size w w' := by
  obtain ⟨x0, x1, x2, x3, x4, x5, x6, x7, rfl⟩ := list8 hs
  have c9 : ∀ w', Below w.heap.size w w' → w'.cell? ⟨g, 9, none⟩ = some (.int .i64 n) := fun w' h => ((hg.same h).cell 9).trans rfl
  by_cases hn : n < 64
  · go_enter Tryd.func171, Tryd.ntmps171
    go_wp2_with (first
      | (refine wp_alloc rfl _ rfl (z := .agg (Array.replicate 8 (.int .u32 0))) (by kernel_rfl) ?_; intro g2 wa h2 ba ga; have d9 := c9 wa ba)
      | (go_at_call 178; refine (begin_calls _).mono ?_; rintro e wb ⟨rfl, bb⟩)
      | (refine wp_store_all rfl _ _ _ rfl ag8 rfl rfl (h2.same bb) rfl rfl (oneCell_ints _ _) ?_; intro wc h3 h4))
    refine ret_row rfl rfl ag8 rfl h3 rfl ⟨by first | rfl | rw [if_pos (by omega)], ba.trans ((bb.mono ba.size).trans (grown_below h4 (by omega) (by have := ba.size; have := bb.size; omega)))⟩
  · go_enter Tryd.func171, Tryd.ntmps171
    go_wp2_with (first
      | (refine wp_alloc rfl _ rfl (z := .agg (Array.replicate 8 (.int .u32 0))) (by kernel_rfl) ?_; intro g2 wa h2 ba ga; have d9 := c9 wa ba; have hga := hg.same ba)
      | (refine wp_load (o := ⟨some 12, _, _, _, _, _⟩) (cs := wu [x0, x1, x2, x3, x4, x5, x6, x7]) rfl _ _ rfl ag8 rfl rfl (Bk.part_app (pre := []) hga) ?_)
      | (refine wp_store_all (cs := wu [x0, x1, x2, x3, x4, x5, x6, x7]) rfl _ _ _ rfl ag8 rfl rfl h2 rfl rfl (oneCell_ints _ _) ?_; intro wc h3 h4))
    refine ret_row rfl rfl ag8 rfl h3 rfl ⟨by first | rfl | rw [if_neg (by omega)], ba.trans (grown_below h4 (by omega) ba.size)⟩
end Go.Proofs.YtjfeehoflahblaaDoor
