/- A transaction's size and id, in the program. Conditions: at most 2^39 bytes. -/
import Derived.Test.YtjfeehoflahblaaDoorTxBytes
namespace Go.Proofs.YtjfeehoflahblaaDoor
open Go.RowKit

theorem agTx : Ag Tryd.prog 26 4 := ⟨_, Tryd.underlying26, rfl, by kernel_rfl⟩
theorem Bk.all {w : World} {g t : Nat} {cs : List Value} (h : Bk w g t cs.toArray) : ∀ j u, cs[j]? = some u → w.cell? ⟨g, 0 + j, none⟩ = some u := fun j u hu => by
  rw [Nat.zero_add, h.cell]; simpa using hu
/-- What the walks ask of a transaction's size. -/
structure TTx.Fit (t : TTx) : Prop where
  b : (txB t).length ≤ 549755813888
  i : t.ins.length ≤ 549755813888
  o : t.outs.length ≤ 549755813888
theorem txC_one (t : TTx) (A : Option Addr) (c : Nat) (A' : Option Addr) (c' : Nat) : ∀ u ∈ txC t A c A' c', u.oneCell' = true := by
  intro u hu
  simp [txC] at hu
  rcases hu with rfl | rfl | rfl | rfl <;> rfl

theorem txBytes_any (cs : List Value) (t : TTx) (w : World) (h : RdTx w w.heap.size cs t) (hk : t.Ok) (hf : t.Fit) :
    Calls Tryd.prog 16 #[.agg cs.toArray] w fun e w' => ∃ A' c', e = .returned (.slice A' (txB t).length c') ∧ Ow w' w.heap.size 5 1 A' (txB t).length c' (ub (txB t)) ∧ Below w.heap.size w w' := by
  obtain ⟨A, c, A', c', rfl, h1, h2⟩ := h
  exact txBytes_calls t A A' c c' w h1 h2 hk hf.b hf.i hf.o

set_option maxRecDepth 100000 in
theorem txSize_calls (cs : List Value) (t : TTx) (w : World) (h : RdTx w w.heap.size cs t) (hk : t.Ok) (hf : t.Fit) :
    Calls Tryd.prog 17 #[.agg cs.toArray] w fun e w' => e = .returned (.int .i64 (txB t).length) ∧ Below w.heap.size w w' := by
  have hb := hf.b
  have hl : cs.length = 4 := by obtain ⟨A, c, A', c', rfl, _⟩ := h; rfl
  have HL := Lib.hid hl
  clear hl
  go_enter Tryd.func17, Tryd.ntmps17
  go_wp2_with (first
    | (refine wp_box (o := ⟨some 1, _, _, _, _, _⟩) rfl _ _ rfl rfl ?_; intro g1 wa h1 ba ga; have h1' : Bk wa g1 26 cs.toArray := h1)
    | (refine wp_load (o := ⟨some 3, _, _, _, _, _⟩) (cs := cs) rfl _ _ rfl agTx rfl HL.out (Bk.all h1') ?_)
    | (go_at_call 16; refine (txBytes_any cs t wa ((h.below ba).more ba.size) hk hf).mono ?_; rintro e wb ⟨A', c', rfl, ho, bb⟩))
  go_ret
  exact ⟨rfl, ba.trans (bb.mono ba.size)⟩

set_option maxRecDepth 100000 in
theorem txID_calls (cs : List Value) (t : TTx) (w : World) (h : RdTx w w.heap.size cs t) (hk : t.Ok) (hf : t.Fit) :
    Calls Tryd.prog 19 #[.agg cs.toArray] w fun e w' => e = .returned (.agg (ub (txID t)).toArray) ∧ Below w.heap.size w w' := by
  have hb := hf.b
  have hl : cs.length = 4 := by obtain ⟨A, c, A', c', rfl, _⟩ := h; rfl
  have HL := Lib.hid hl
  clear hl
  go_enter Tryd.func19, Tryd.ntmps19
  go_wp2_with (first
    | (refine wp_box (o := ⟨some 1, _, _, _, _, _⟩) rfl _ _ rfl rfl ?_; intro g1 wa h1 ba ga; have h1' : Bk wa g1 26 cs.toArray := h1)
    | (refine wp_alloc (o := ⟨some 2, _, _, _, _, _⟩) rfl _ rfl (z := .agg (Array.replicate 32 (.int .u8 0))) (by kernel_rfl) ?_; intro g2 wb h2 bb gb
       have h1b : Bk wb g1 26 cs.toArray := h1.same bb
       have sa := ba.size
       have bwb := ba.trans (bb.mono sa)
       have hb' := (h.below bwb).more bwb.size)
    | (refine wp_load (o := ⟨some 3, _, _, _, _, _⟩) (cs := cs) rfl _ _ rfl agTx rfl HL.out (Bk.all h1b) ?_)
    | (go_at_call 16; refine (txBytes_any cs t wb hb' hk hf).mono ?_; rintro e wc ⟨A', c', rfl, ho, bc⟩
       have h2c := h2.same bc
       have bwc := bwb.trans (bc.mono bwb.size)
       have ro := ho.rd)
    | (go_at_call 74; refine (twice_calls A' (txB t).length c' (txB t) wc ro ?_).mono ?_; omega; rintro e wd ⟨rfl, bd⟩
       have bwd := bwc.trans (bd.mono bwc.size))
    | (refine wp_store_all (cs := ub (twice (txB t))) rfl _ (.tmp 2) _ rfl ag32 rfl rfl (h2c.same bd) (by rw [ub_length, twice_length]) rfl (ub_one _) ?_; intro wy h8 h9))
  refine ret_row rfl rfl ag32 rfl h8 (by simp [ub_length, twice_length]) ⟨rfl, bwd.trans (grown_below h9 (by omega) bwd.size)⟩
end Go.Proofs.YtjfeehoflahblaaDoor
