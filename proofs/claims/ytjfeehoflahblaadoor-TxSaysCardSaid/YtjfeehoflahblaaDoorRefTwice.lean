/- A digest of a digest, in the reference. Conditions: at most 2^40 bytes. -/
import Derived.Test.YtjfeehoflahblaaDoorRefSha
namespace Go.Proofs.YtjfeehoflahblaaDoor
open Go.RowKit

set_option maxRecDepth 100000 in
set_option maxHeartbeats 1000000 in
theorem refTwice_calls (A : Option Addr) (n c : Nat) (bs : List Int) (w : World) (hr : Rd w w.heap.size 1 A n (ub bs)) (hn : n ≤ 1099511627000) :
    Calls Tryd.prog 20 #[.slice A n c] w fun e w' => e = .returned (.agg (ub (twice bs)).toArray) ∧ Below w.heap.size w w' := by
  have HL := Lib.hid (rd_len hr)
  go_enter Tryd.func20, Tryd.ntmps20
  go_wp2_with (first
    | (refine wp_alloc (o := ⟨some 2, _, _, _, _, _⟩) rfl _ rfl (z := .agg (Array.replicate 32 (.int .u8 0))) (by kernel_rfl) ?_; intro g2 wa h2 ba ga
       have hra := (hr.below ba).more ba.size
       have s1 := ba.size)
    | (go_at_call 75; go_at_call_of 75 (Value.slice A n c); refine (refSha_calls A n c bs _ hra (by omega)).mono ?_; rintro e wb ⟨rfl, bb⟩
       have s2 := bb.size)
    | (refine wp_alloc (o := ⟨some 3, _, _, _, _, _⟩) rfl _ rfl (z := .agg (Array.replicate 32 (.int .u8 0))) (by kernel_rfl) ?_; intro g3 wc h3 bc gc
       have s3 := bc.size
       have l3 := h3.lt
       refine wp_store_all (cs := ub (sha bs)) rfl _ (.tmp 3) _ rfl ag32 rfl rfl h3 (by rw [ub_length, sha_length]) rfl (ub_one _) ?_; intro wd h3d gd
       have s4 := gd.size
       have hrd : Rd wd wd.heap.size 1 (some ⟨g3, 0, none⟩) 32 (ub (sha bs)) := by
         have := h3d.rd (n := 32) (sz := 1) (by simp [ub_length, sha_length])
         simpa using this
       have n23 : ¬ some g2 = some g3 := by intro h; injection h with h; have := h2.lt; omega)
    | (go_at_call 75; refine (refSha_calls (some ⟨g3, 0, none⟩) 32 32 (sha bs) _ hrd (by omega)).mono ?_; rintro e we ⟨rfl, be⟩
       have s5 := be.size)
    | (refine wp_store_all (cs := ub (twice bs)) rfl _ (.tmp 2) _ rfl ag32 rfl rfl ((((h2.same bb).same bc).grown gd n23).same be) (by rw [ub_length, twice_length]) rfl (ub_one _) ?_; intro wy h8 h9))
  refine ret_row rfl rfl ag32 rfl h8 (by simp [ub_length, twice_length]) ⟨rfl, ?_⟩
  exact ((((ba.trans (bb.mono s1)).trans (bc.mono (by omega))).trans (grown_below gd (by omega) (by omega))).trans (be.mono (by omega))).trans (grown_below h9 (by omega) (by omega))
end Go.Proofs.YtjfeehoflahblaaDoor
