/- Whether two transactions are the same: the program's Same. Conditions: rows of at most 2^39 things. -/
import Derived.Test.YtjfeehoflahblaaDoorEqOuts
namespace Go.Proofs.YtjfeehoflahblaaDoor
open Go.RowKit

theorem tx_eq (t u : TTx) : decide (t = u) = (((decide (t.ver = u.ver) && decide (t.time = u.time)) && decide (t.outs = u.outs)) && decide (t.ins = u.ins)) := by
  rw [Bool.eq_iff_iff]
  cases t; cases u
  simp
  constructor
  · rintro ⟨rfl, rfl, rfl, rfl⟩; simp
  · rintro ⟨⟨⟨rfl, rfl⟩, rfl⟩, rfl⟩; simp
set_option maxRecDepth 100000 in
set_option maxHeartbeats 2000000 in
theorem txSame_calls (t u : TTx) (A A' B B' : Option Addr) (c c' d d' : Nat) (w : World) (hit : RdIns w w.heap.size A t.ins) (hot : RdOuts w w.heap.size A' t.outs) (hiu : RdIns w w.heap.size B u.ins) (hou : RdOuts w w.heap.size B' u.outs)
    (kt : t.Ok) (ku : u.Ok) (ft : t.Fit) (fu : u.Fit) :
    Calls Tryd.prog 26 #[.agg (txC t A c A' c').toArray, .agg (txC u B d B' d').toArray] w fun e w' => e = .returned (.bool (decide (t = u))) ∧ Below w.heap.size w w' := by
  have tok2 : True := trivial
  have tok3 : True := trivial
  by_cases hs : t.ver = u.ver ∧ t.time = u.time
  · have e1 : (t.ver == u.ver) = true := by simp [hs.1]
    have e2 : (t.time == u.time) = true := by simp [hs.2]
    have HS := Lib.hid hs
    clear hs
    go_enter Tryd.func26, Tryd.ntmps26
    go_wp2_with (first
      | (have _t := tok2; refine wp_box (o := ⟨some 2, _, _, _, _, _⟩) rfl _ _ rfl rfl ?_; intro g2 wa h2 ba ga; clear _t tok2
         have h2q : Bk wa g2 26 (txC t A c A' c').toArray := h2)
      | (have _t := tok3; refine wp_box (o := ⟨some 3, _, _, _, _, _⟩) rfl _ _ rfl rfl ?_; intro g3 wb h3 bb gb; clear _t tok3
         have h2' : Bk wb g2 26 (txC t A c A' c').toArray := h2q.same bb
         have h3' : Bk wb g3 26 (txC u B d B' d').toArray := h3
         have bwb := ba.trans (bb.mono ba.size)
         have c20 : wb.cell? ⟨g2, 0, none⟩ = some (.int .u32 t.ver) := (h2'.cell 0).trans rfl
         have c23 : wb.cell? ⟨g2, 3, none⟩ = some (.int .u32 t.time) := (h2'.cell 3).trans rfl
         have c22 : wb.cell? ⟨g2, 2, none⟩ = some (.slice A' t.outs.length c') := (h2'.cell 2).trans rfl
         have c30 : wb.cell? ⟨g3, 0, none⟩ = some (.int .u32 u.ver) := (h3'.cell 0).trans rfl
         have c33 : wb.cell? ⟨g3, 3, none⟩ = some (.int .u32 u.time) := (h3'.cell 3).trans rfl
         have c32 : wb.cell? ⟨g3, 2, none⟩ = some (.slice B' u.outs.length d') := (h3'.cell 2).trans rfl))
    refine (eqOuts_calls t.outs u.outs A' B' c' d' wb ((hot.below bwb).more bwb.size) ((hou.below bwb).more bwb.size) kt.outs ku.outs ft.o fu.o).mono ?_
    rintro e wc ⟨rfl, bc⟩
    have h2c := h2'.same bc
    have h3c := h3'.same bc
    have bwc := bwb.trans (bc.mono bwb.size)
    have c21 : wc.cell? ⟨g2, 1, none⟩ = some (.slice A t.ins.length c) := (h2c.cell 1).trans rfl
    have c31 : wc.cell? ⟨g3, 1, none⟩ = some (.slice B u.ins.length d) := (h3c.cell 1).trans rfl
    clear c20 c23 c22 c30 c33 c32
    by_cases ho : t.outs = u.outs
    · rw [decide_eq_true ho]
      have HO := Lib.hid ho
      clear ho
      go_wp2_with fail
      refine (eqIns_calls t.ins u.ins A B c d wc ((hit.below bwc).more bwc.size) ((hiu.below bwc).more bwc.size) kt.ins ku.ins ft.i fu.i).mono ?_
      rintro e wd ⟨rfl, bd⟩
      go_wp2_with fail
      go_ret
      refine ⟨?_, bwc.trans (bd.mono bwc.size)⟩
      rw [tx_eq, decide_eq_true HS.out.1, decide_eq_true HS.out.2, decide_eq_true HO.out]
      simp [results]
    · rw [decide_eq_false ho]
      have HO := Lib.hid ho
      clear ho
      go_wp2_with fail
      go_ret
      refine ⟨?_, bwc⟩
      rw [tx_eq, decide_eq_false HO.out]
      simp [results]
  · have HS := Lib.hid (show (decide (t.ver = u.ver) && decide (t.time = u.time)) = false by
      rw [Bool.and_eq_false_iff, decide_eq_false_iff_not, decide_eq_false_iff_not]; by_cases h : t.ver = u.ver
      · exact .inr fun h2 => hs ⟨h, h2⟩
      · exact .inl h)
    have hq : (t.ver == u.ver) = false ∨ ((t.ver == u.ver) = true ∧ (t.time == u.time) = false) := by
      by_cases h : t.ver = u.ver
      · exact .inr ⟨by simp [h], by simp; exact fun h2 => hs ⟨h, h2⟩⟩
      · exact .inl (by simp [h])
    clear hs
    rcases hq with e1 | ⟨e1, e2⟩
    all_goals
      go_enter Tryd.func26, Tryd.ntmps26
      go_wp2_with (first
        | (have _t := tok2; refine wp_box (o := ⟨some 2, _, _, _, _, _⟩) rfl _ _ rfl rfl ?_; intro g2 wa h2 ba ga; clear _t tok2
           have h2q : Bk wa g2 26 (txC t A c A' c').toArray := h2)
        | (have _t := tok3; refine wp_box (o := ⟨some 3, _, _, _, _, _⟩) rfl _ _ rfl rfl ?_; intro g3 wb h3 bb gb; clear _t tok3
           have h2' : Bk wb g2 26 (txC t A c A' c').toArray := h2q.same bb
           have h3' : Bk wb g3 26 (txC u B d B' d').toArray := h3
           have bwb := ba.trans (bb.mono ba.size)
           have c20 : wb.cell? ⟨g2, 0, none⟩ = some (.int .u32 t.ver) := (h2'.cell 0).trans rfl
           have c23 : wb.cell? ⟨g2, 3, none⟩ = some (.int .u32 t.time) := (h2'.cell 3).trans rfl
           have c30 : wb.cell? ⟨g3, 0, none⟩ = some (.int .u32 u.ver) := (h3'.cell 0).trans rfl
           have c33 : wb.cell? ⟨g3, 3, none⟩ = some (.int .u32 u.time) := (h3'.cell 3).trans rfl))
      go_ret
      refine ⟨?_, bwb⟩
      rw [tx_eq, HS.out]
      simp [results]
end Go.Proofs.YtjfeehoflahblaaDoor
