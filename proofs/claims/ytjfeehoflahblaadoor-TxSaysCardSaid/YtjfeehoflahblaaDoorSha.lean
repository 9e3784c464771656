/- The digest of a row of bytes, in the program: the call answers 'sha'. Conditions: at most 2^40 bytes. -/
import Derived.Test.YtjfeehoflahblaaDoorSum
namespace Go.Proofs.YtjfeehoflahblaaDoor
open Go.RowKit

set_option maxRecDepth 100000 in
set_option maxHeartbeats 1000000 in
theorem sha_calls (A : Option Addr) (n c : Nat) (bs : List Int) (w : World) (hr : Rd w w.heap.size 1 A n (ub bs)) (hn : n ≤ 1099511627776) :
    Calls Tryd.prog 133 #[.slice A n c] w fun e w' => e = .returned (.agg (ub (sha bs)).toArray) ∧ Below w.heap.size w w' := by
  have HL := Lib.hid (rd_len hr)
  go_enter Tryd.func133, Tryd.ntmps133
  go_wp2_with (first
    | (refine wp_alloc (o := ⟨some 2, _, _, _, _, _⟩) rfl _ rfl (z := .agg (Array.replicate 32 (.int .u8 0))) (by kernel_rfl) ?_; intro g2 wa h2 ba ga)
    | (refine wp_alloc (o := ⟨some 3, _, _, _, _, _⟩) rfl _ rfl (z := .agg (wrt [0, 0, 0, 0, 0, 0, 0, 0] none 0 0 0).toArray) (by kernel_rfl) ?_; intro g3 wb h3 bb gb
       have hb3 : Bk wb g3 212 (wrt [0, 0, 0, 0, 0, 0, 0, 0] none 0 0 0).toArray := h3
       have hra := ((hr.below ba).more ba.size).below bb)
    | (go_at_call 158; refine (write_calls g3 wa.heap.size [0, 0, 0, 0, 0, 0, 0, 0] rfl A n c bs wb hb3 hra gb hn).mono ?_; rintro e wc ⟨rfl, A', c', hw3, hrc, gc⟩
       have hsum := sum_calls g3 (foldMix sha0 bs (n / 64)) A' (n % 64) c' n (bs.drop (64 * (n / 64))) wc (foldMix_length _ _ rfl _) hw3 hrc (by omega) hn _ rfl
       rw [← sha_split bs n HL.out _ rfl] at hsum
       have n23 : ¬ some g2 = some g3 := by intro h; injection h with h; have := h2.lt; omega)
    | (go_at_call 159; refine hsum.mono ?_; rintro e wd ⟨rfl, bd⟩)
    | (refine wp_store_all (cs := ub (sha bs)) rfl _ (.tmp 2) _ rfl ag32 rfl rfl (((h2.same bb).grown gc n23).same bd) (by rw [ub_length, sha_length]) rfl (ub_one _) ?_; intro wy h8 h9))
  refine ret_row rfl rfl ag32 rfl h8 (by simp [ub_length, sha_length]) ⟨rfl, ?_⟩
  have s1 := ba.size
  have s2 := bb.size
  have s3 := bd.size
  have s4 := gc.size
  exact (((ba.trans (bb.mono s1)).trans (grown_below gc (by omega) (by omega))).trans (bd.mono (by omega))).trans (grown_below h9 (by omega) (by omega))
end Go.Proofs.YtjfeehoflahblaaDoor
