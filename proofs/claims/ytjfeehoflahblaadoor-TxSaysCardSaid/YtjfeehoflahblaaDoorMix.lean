/- A chunk mixed into the eight words, in the program: the call answers 'mixP'. Conditions: eight words, 64 bytes. -/
import Derived.Test.YtjfeehoflahblaaDoorSpread
namespace Go.Proofs.YtjfeehoflahblaaDoor
open Go.RowKit

set_option maxRecDepth 100000 in
set_option maxHeartbeats 4000000 in
theorem mix_calls (s : List Int) (b o c : Nat) (bs : List Int) (w : World) (hs : s.length = 8) (hr : Rd w w.heap.size 1 (some ⟨b, o, none⟩) 64 (bs.map (Value.int .u8))) (hc : 64 ≤ c) :
    Calls Tryd.prog 172 #[.agg (wu s).toArray, .slice (some ⟨b, o, none⟩) 64 c] w fun e w' => e = .returned (.agg (wu (mixP s bs)).toArray) ∧ Below w.heap.size w w' := by
  have HS := Lib.hid hs
  clear hs
  go_enter Tryd.func172, Tryd.ntmps172
  go_wp2_with (first
    | (refine wp_box (o := ⟨some 2, _, _, _, _, _⟩) rfl _ _ rfl rfl ?_; intro g2 wa h2 ba ga)
    | (refine wp_alloc (o := ⟨some 4, _, _, _, _, _⟩) rfl _ rfl (z := .agg (Array.replicate 8 (.int .u32 0))) (by kernel_rfl) ?_; intro g4 wb h4 bb gb))
  refine (spread_calls b o c bs wb (((hr.below ba).more ba.size |>.below bb).more bb.size) hc).mono ?_
  rintro e wc ⟨rfl, bc⟩
  go_wp2_with fail
  refine (keys_calls wc).mono ?_
  rintro e wd ⟨rfl, bd⟩
  go_wp2_with (first
    | (refine wp_alloc (o := ⟨some 5, _, _, _, _, _⟩) rfl _ rfl (z := .agg (Array.replicate 64 (.int .u32 0))) (by kernel_rfl) ?_; intro g5 we h5 be ge
       refine wp_alloc (o := ⟨some 6, _, _, _, _, _⟩) rfl _ rfl (z := .agg (Array.replicate 64 (.int .u32 0))) (by kernel_rfl) ?_; intro g6 wf h6 bf gf
       have l2 := h2.lt
       have l4 := h4.lt
       have l5 := h5.lt
       have l6 := h6.lt
       have sa := ba.size
       have sb := bb.size
       have sc := bc.size
       have sd := bd.size
       have se := be.size
       have sf := bf.size
       have n25 : ¬ some g2 = some g5 := by intro h; injection h with h; omega
       have n26 : ¬ some g2 = some g6 := by intro h; injection h with h; omega
       have n45 : ¬ some g4 = some g5 := by intro h; injection h with h; omega
       have n46 : ¬ some g4 = some g6 := by intro h; injection h with h; omega
       have n56 : ¬ some g5 = some g6 := by intro h; injection h with h; omega
       have n65 : ¬ some g6 = some g5 := by intro h; injection h with h; omega
       refine wp_store_all rfl _ (.tmp 5) _ rfl ag64 rfl rfl (h5.same bf) (wu_length _ |>.trans (sched_length _ _)) rfl (oneCell_ints _ _) ?_; intro wg h5q gg
       refine wp_store_all rfl _ (.tmp 6) _ rfl ag64 rfl rfl (h6.grown gg n65) rfl rfl (oneCell_ints _ _) ?_; intro wh h6q gh
       have bcd : Below wb.heap.size wb we := bc.trans ((bd.mono sc).trans (be.mono (Nat.le_trans sc sd)))
       have h2f : Bk wf g2 210 (wu s).toArray := ((h2.same bb).below bcd (by omega)).same bf
       have h4f : Bk wf g4 210 (Value.agg (Array.replicate 8 (.int .u32 0))).cells := (h4.same bcd).same bf
       have h2h := (h2f.grown gg n25).grown gh n26
       have h4h := (h4f.grown gg n45).grown gh n46
       have h5h := h5q.grown gh n56
       have bwf : Below w.heap.size w wf := ba.trans ((bb.mono sa).trans ((bcd.mono (by omega)).trans (bf.mono (by omega))))
       have sg := gg.size
       have sh := gh.size
       have bwh : Below w.heap.size w wh := bwf.trans ((grown_below gg (by omega) (by omega)).trans (grown_below gh (by omega) (by omega)))
       clear bcd h2f h4f bwf)
    | (refine wp_load (o := ⟨some 17, _, _, _, _, _⟩) rfl _ _ rfl ag8 rfl (wu_length _ |>.trans HS.out) (fun j u hu => by rw [Nat.zero_add, h2h.cell]; simpa using hu) ?_
       refine wp_alloc (o := ⟨some 7, _, _, _, _, _⟩) rfl _ rfl (z := .agg (Array.replicate 8 (.int .u32 0))) (by kernel_rfl) ?_; intro g7 wi h7 bi gi
       refine wp_store_all rfl _ (.tmp 7) _ rfl ag8 rfl rfl h7 (wu_length _ |>.trans HS.out) rfl (oneCell_ints _ _) ?_; intro wj h7q gj
       have l7 := h7.lt
       have si := bi.size
       have n27 : ¬ some g2 = some g7 := by intro h; injection h with h; omega
       have n47 : ¬ some g4 = some g7 := by intro h; injection h with h; omega
       have n57 : ¬ some g5 = some g7 := by intro h; injection h with h; omega
       have n67 : ¬ some g6 = some g7 := by intro h; injection h with h; omega
       have h2j := (h2h.same bi).grown gj n27
       have h4j := (h4h.same bi).grown gj n47
       have h5j := (h5h.same bi).grown gj n57
       have h6j := (h6q.same bi).grown gj n67
       have sj := gj.size
       have bwj : Below w.heap.size w wj := bwh.trans ((bi.mono (by omega)).trans (grown_below gj (by omega) (by omega)))))
  clear h2 h4 h5 h6 h5q h6q h7 h2h h4h h5h ba bb bc bd be bf bi gg gh gj bwh
  go_loopw [18] (fun i wr => ∃ (k : Nat), k ≤ 64 ∧ i = .int .i64 k ∧ Bk wr g7 210 (wu (rnds s bs k)).toArray ∧ Bk wr g2 210 (wu s).toArray ∧ Bk wr g4 210 (Value.agg (Array.replicate 8 (.int .u32 0))).cells ∧
      Bk wr g5 229 (wu (sched bs 64)).toArray ∧ Bk wr g6 229 (wu shaK).toArray ∧ Below w.heap.size w wr) (fun i _ => 64 - (intOf i).toNat)
  case atStart => exact ⟨0, by omega, rfl, h7q, h2j, h4j, h5j, h6j, bwj⟩
  case round =>
    obtain ⟨k, hk, rfl, H7, H2, H4, H5, H6, hbw⟩ := hrel
    by_cases hlt : k < 64
    · obtain ⟨x0, x1, x2, x3, x4, x5, x6, x7, hx⟩ := list8 (rnds_length s bs HS.out k)
      have HX := Lib.hid hx
      rw [hx] at H7
      clear hx
      have c0 : wr.cell? ⟨g7, 0, none⟩ = some (.int .u32 x0) := (H7.cell 0).trans rfl
      have c1 : wr.cell? ⟨g7, 1, none⟩ = some (.int .u32 x1) := (H7.cell 1).trans rfl
      have c2 : wr.cell? ⟨g7, 2, none⟩ = some (.int .u32 x2) := (H7.cell 2).trans rfl
      have c3 : wr.cell? ⟨g7, 3, none⟩ = some (.int .u32 x3) := (H7.cell 3).trans rfl
      have c4 : wr.cell? ⟨g7, 4, none⟩ = some (.int .u32 x4) := (H7.cell 4).trans rfl
      have c5 : wr.cell? ⟨g7, 5, none⟩ = some (.int .u32 x5) := (H7.cell 5).trans rfl
      have c6 : wr.cell? ⟨g7, 6, none⟩ = some (.int .u32 x6) := (H7.cell 6).trans rfl
      have c7 : wr.cell? ⟨g7, 7, none⟩ = some (.int .u32 x7) := (H7.cell 7).trans rfl
      have cw : wr.cell? ⟨g5, k, none⟩ = some (.int .u32 ((sched bs 64).getD k 0)) := by rw [H5.cell, wu_getElem? _ _ (by rw [sched_length]; exact hlt)]
      have ck : wr.cell? ⟨g6, k, none⟩ = some (.int .u32 (shaK.getD k 0)) := by rw [H6.cell, wu_getElem? _ _ (by exact hlt)]
      obtain ⟨kw, hkw⟩ : ∃ x, x = (sched bs 64).getD k 0 := ⟨_, rfl⟩
      obtain ⟨kk, hkk⟩ : ∃ x, x = shaK.getD k 0 := ⟨_, rfl⟩
      rw [← hkw] at cw
      rw [← hkk] at ck
      have HW := Lib.hid hkw
      have HK := Lib.hid hkk
      clear hkw hkk
      have j0 : (0 : Int) ≤ (k : Int) := by omega
      have j1 : (k : Int) < 64 := by omega
      go_wp2_with fail
      go_quiet (fail)
      go_wp2_with fail
      go_quiet ((go_at_call 181; refine (turn_any _ _ _ ?_ ?_).mono (fun _ _ h => ⟨h.1, _, h.2.symm⟩) <;> omega))
      go_wp2_with fail
      go_quiet ((go_at_call 181; refine (turn_any _ _ _ ?_ ?_).mono (fun _ _ h => ⟨h.1, _, h.2.symm⟩) <;> omega))
      go_wp2_with (refine wp_store_all (cs := wu (rnd x0 x1 x2 x3 x4 x5 x6 x7 kk kw)) rfl _ (.tmp 7) _ rfl ag8 rfl ?hy (H7.drewN _) rfl rfl (oneCell_ints _ _) ?_; rotate_left; intro wz Hz gz)
      case hy =>
        refine rnd_row ?_ ?_
        · unfold tA tB bs0 bs1 ch maj not32; omega
        · unfold tA bs1 ch not32; omega
      have hn27 : ¬ some g2 = some g7 := n27
      go_roundw
      case rel =>
        refine ⟨k + 1, by omega, by go_num, ?_, (H2.drewN _).grown gz n27, (H4.drewN _).grown gz n47, (H5.drewN _).grown gz n57, (H6.drewN _).grown gz n67, (bl_drewN hbw _).trans (grown_below gz (by omega) hbw.size)⟩
        rw [rnds, rndL, HX.out, ← HW.out, ← HK.out]; exact Hz
      case measure => simp [intOf]; omega
    · obtain rfl : k = 64 := by omega
      obtain ⟨X, hX⟩ : ∃ X, X = rnds s bs 64 := ⟨_, rfl⟩
      rw [← hX] at H7
      have hXl : X.length = 8 := by rw [hX]; exact rnds_length s bs HS.out 64
      have HXl := Lib.hid hXl
      have HX := Lib.hid hX
      clear hX hXl h7q h2j h4j h5j h6j bwj H5 H6
      go_wp2
      go_loopw [98] (fun i wr => ∃ (k : Nat), k ≤ 8 ∧ i = .int .i64 k ∧ Bk wr g2 210 (wu (addTo s X k)).toArray ∧ Bk wr g7 210 (wu X).toArray ∧ Bk wr g4 210 (Value.agg (Array.replicate 8 (.int .u32 0))).cells ∧ Below w.heap.size w wr) (fun i _ => 8 - (intOf i).toNat)
      case atStart => exact ⟨0, by omega, rfl, by rw [addTo_zero _ _ HS.out]; exact H2, H7, H4, hbw⟩
      case round =>
        obtain ⟨k, hk, rfl, G2, G7, G4, hbw⟩ := hrel
        by_cases hlt : k < 8
        · have c2 : wr.cell? ⟨g2, k, none⟩ = some (.int .u32 (s.getD k 0)) := by rw [G2.cell, wu_getElem? _ _ (by rw [addTo_length]; exact hlt), addTo_get _ _ _ hlt]
          have c7 : wr.cell? ⟨g7, k, none⟩ = some (.int .u32 (X.getD k 0)) := by rw [G7.cell, wu_getElem? _ _ (by rw [HXl.out]; exact hlt)]
          have hs := Lib.hid (addTo_set s X k hlt)
          obtain ⟨x, hx⟩ : ∃ x, x = s.getD k 0 := ⟨_, rfl⟩
          obtain ⟨y, hy⟩ : ∃ y, y = X.getD k 0 := ⟨_, rfl⟩
          rw [← hx] at c2
          rw [← hy] at c7
          have Hxy := Lib.hid (And.intro hx hy)
          clear hx hy
          have hfz := G2.frozen k
          have j0 : (0 : Int) ≤ (k : Int) := by omega
          have j1 : (k : Int) < 8 := by omega
          have n72 : ¬ g7 = g2 := by omega
          go_wp2
          go_region
          all_goals go_wp2
          all_goals
            go_roundw
            case rel =>
              refine ⟨k + 1, by omega, by go_num, ?_, G7.far n72 _, G4.far (by simp; omega) _, (hbw.setCell (by simp; omega) _).drew⟩
              have := G2.set k (.int .u32 ((s.getD k 0 + X.getD k 0) % 4294967296))
              rw [hs.out, ← Hxy.out.1, ← Hxy.out.2] at this
              exact this
            case measure => simp [intOf]; omega
        · obtain rfl : k = 8 := by omega
          go_wp2_with (first
            | (refine wp_load (cs := wu (addTo s X 8)) rfl _ _ rfl ag8 rfl (by rw [wu_length, addTo_length]) (fun j u hu => by rw [Nat.zero_add, G2.cell]; simpa using hu) ?_)
            | (refine wp_store_all (cs := wu (addTo s X 8)) rfl _ _ _ rfl ag8 rfl rfl G4 (by rw [wu_length, addTo_length]) rfl (oneCell_ints _ _) ?_; intro wy h8 h9))
          refine ret_row rfl rfl ag8 rfl h8 (by simp [wu, addTo_length]) ⟨by rw [mixP, ← HX.out], hbw.trans (grown_below h9 (by omega) hbw.size)⟩
end Go.Proofs.YtjfeehoflahblaaDoor
