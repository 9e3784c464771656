/- The digest's constant words, in the program and in the reference: each call hands them out. No conditions. -/
import Derived.Test.YtjfeehoflahblaaDoorProg
import Derived.Test.YtjfeehoflahblaaDoorRow
import Derived.Test.YtjfeehoflahblaaDoorWord
namespace Go.Proofs.YtjfeehoflahblaaDoor
open Go.RowKit

theorem ag8 : Ag Tryd.prog 210 8 := Ag.mk Tryd.underlying210 rfl (by kernel_rfl)
theorem ag64 : Ag Tryd.prog 229 64 := Ag.mk Tryd.underlying229 rfl (by kernel_rfl)
theorem wu_one (l : List Int) : ∀ u ∈ wu l, u.oneCell' = true := oneCell_ints _ _

theorem begin_calls (w : World) : Calls Tryd.prog 178 #[] w fun e w' => e = .returned (.agg (wu sha0).toArray) ∧ Below w.heap.size w w' := by
  go_enter Tryd.func178, Tryd.ntmps178
  go_wp2
  exact ret_row rfl rfl ag8 rfl (Bk.new w _ _) rfl ⟨rfl, (Below.refl _ _).alloc (Nat.le_refl _) _⟩
set_option maxRecDepth 100000 in
theorem keys_calls (w : World) : Calls Tryd.prog 180 #[] w fun e w' => e = .returned (.agg (wu shaK).toArray) ∧ Below w.heap.size w w' := by
  go_enter Tryd.func180, Tryd.ntmps180
  go_wp2_with (first
    | (refine wp_alloc rfl _ rfl (z := .agg (Array.replicate 64 (.int .u32 0))) (by kernel_rfl) ?_; intro g w1 h1 h2 h3)
    | (refine wp_build rfl _ _ rfl (.agg (wu shaK).toArray) (by kernel_rfl) ?_)
    | (refine wp_store_all rfl _ _ _ rfl ag64 rfl rfl h1 rfl rfl (wu_one _) ?_; intro w2 h4 h5))
  exact ret_row rfl rfl ag64 rfl h4 rfl ⟨rfl, h2.trans (grown_below h5 h3 h2.size)⟩
theorem k_calls (w : World) : Calls Tryd.prog 134 #[] w fun e w' => ∃ g, e = .returned (.slice (some ⟨g, 0, none⟩) 64 64) ∧ w.heap.size ≤ g ∧ Bk w' g 22 (wu shaK).toArray ∧ Below w.heap.size w w' := by
  go_enter Tryd.func134, Tryd.ntmps134
  go_wp2
  go_ret
  refine ⟨w.heap.size, rfl, Nat.le_refl _, Bk.new w _ _, (Below.refl _ _).alloc (Nat.le_refl _) _⟩
end Go.Proofs.YtjfeehoflahblaaDoor
