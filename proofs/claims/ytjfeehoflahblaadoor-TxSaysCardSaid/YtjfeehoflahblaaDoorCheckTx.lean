/- Whether a transaction is well made: the program's Check. Conditions: rows of at most 2^39 things. -/
import Derived.Test.YtjfeehoflahblaaDoorCheck
namespace Go.Proofs.YtjfeehoflahblaaDoor
open Go.RowKit Go.Maps

theorem key_le {t : TTx} (hk : t.Ok) (hf : t.Fit) : ∀ x ∈ t.ins, x.key.length ≤ 549755813888 := by
  intro x hx
  obtain ⟨j, hj⟩ := List.getElem?_of_mem hx
  have hle := txI_in_le t j x hj
  rw [inB_length x (hk.ins x hx).txl] at hle
  have := hf.b
  omega
def badN (t : TTx) : Bool := decide (t.ins.length = 0 ∨ 50 < t.ins.length ∨ t.outs.length = 0 ∨ 50 < t.outs.length)
def sumOk (t : TTx) : Bool := (sumA 0 (valsP t)).isSome
theorem sumV_some (t : TTx) : ∃ v, sumV (valsP t) = .tuple #[.int .u64 v, .bool (sumOk t)] := by
  unfold sumV sumOk
  cases sumA 0 (valsP t) with
  | none => exact ⟨0, rfl⟩
  | some s => exact ⟨s, rfl⟩
/-- What tx.Check answers: the errors are values. -/
def checkE (t : TTx) (e0 e1 e2 e3 e4 e5 : Value) : Value :=
  if badN t = true then e0 else if 4000 < (txB t).length then e1 else if t.ins.any longKey = true then e2 else if sumOk t = false then e3 else if twiceP t.ins = true then e4 else baseE t e5

set_option maxRecDepth 100000 in
set_option maxHeartbeats 2000000 in
theorem check_calls (t : TTx) (A A' : Option Addr) (c c' : Nat) (e0 e1 e2 e3 e4 e5 : Value) (w : World) (hi : RdIns w w.heap.size A t.ins) (ho : RdOuts w w.heap.size A' t.outs) (hk : t.Ok) (hf : t.Fit)
    (he0 : ErrAt w 0 e0) (he1 : ErrAt w 1 e1) (he2 : ErrAt w 2 e2) (he3 : ErrAt w 3 e3) (he4 : ErrAt w 4 e4) (he5 : ErrAt w 11 e5) :
    Calls Tryd.prog 24 #[.agg (txC t A c A' c').toArray] w fun x w' => x = .returned (checkE t e0 e1 e2 e3 e4 e5) ∧ Below w.heap.size w w' := by
  have hil := hf.i
  have hol := hf.o
  have hbl := hf.b
  have hkl := Lib.hid (key_le hk hf)
  have tok1 : True := trivial
  by_cases hbad : badN t = true
  · have HB := Lib.hid (show checkE t e0 e1 e2 e3 e4 e5 = e0 by unfold checkE; rw [if_pos hbad])
    have hb : t.ins.length = 0 ∨ (0 < t.ins.length ∧ 50 < t.ins.length) ∨ (0 < t.ins.length ∧ t.ins.length ≤ 50 ∧ t.outs.length = 0) ∨ (0 < t.ins.length ∧ t.ins.length ≤ 50 ∧ 0 < t.outs.length ∧ 50 < t.outs.length) := by
      unfold badN at hbad; rw [decide_eq_true_iff] at hbad; omega
    clear hbad
    rcases hb with hb | ⟨hb1, hb2⟩ | ⟨hb1, hb2, hb3⟩ | ⟨hb1, hb2, hb3, hb4⟩
    all_goals
      go_enter Tryd.func24, Tryd.ntmps24
      go_wp2_with (have _t := tok1; refine wp_box (o := ⟨some 1, _, _, _, _, _⟩) rfl _ _ rfl rfl ?_; intro g1 wa h1 ba ga; clear _t tok1
                   have c1 : wa.cell? ⟨g1, 1, none⟩ = some (.slice A t.ins.length c) := (h1.cell 1).trans rfl
                   have c2 : wa.cell? ⟨g1, 2, none⟩ = some (.slice A' t.outs.length c') := (h1.cell 2).trans rfl
                   have hea := he0.below ba)
      all_goals (first | (go_ret; exact ⟨by rw [HB.out]; rfl, ba⟩) | (exfalso; simp at *; omega))
  · have hg : 0 < t.ins.length ∧ t.ins.length ≤ 50 ∧ 0 < t.outs.length ∧ t.outs.length ≤ 50 := by
      unfold badN at hbad; rw [decide_eq_true_iff] at hbad; omega
    obtain ⟨hg1, hg2, hg3, hg4⟩ := hg
    have HB1 := Lib.hid (show checkE t e0 e1 e2 e3 e4 e5 = if 4000 < (txB t).length then e1 else if t.ins.any longKey = true then e2 else if sumOk t = false then e3 else if twiceP t.ins = true then e4 else baseE t e5 by unfold checkE; rw [if_neg hbad])
    have HS1 := Lib.hid (fun (w1 : World) (h : RdTx w1 w1.heap.size (txC t A c A' c') t) => txSize_calls (txC t A c A' c') t w1 h hk hf)
    have HS2 := Lib.hid (fun (w1 : World) (h : RdIns w1 w1.heap.size A t.ins) => anyL_calls t.ins A c w1 h hk.ins hil hkl.out)
    have HS3 := Lib.hid (fun (w1 : World) (h : RdTx w1 w1.heap.size (txC t A c A' c') t) => txSum_calls (txC t A c A' c') t w1 h hk hf)
    have HS4 := Lib.hid (fun (w1 : World) (h : RdIns w1 w1.heap.size A t.ins) => seen_calls t A A' c c' w1 h hk hf)
    have HS5 := Lib.hid (fun (w1 : World) (h : RdIns w1 w1.heap.size A t.ins) (he : ErrAt w1 11 e5) => base_calls t A A' c c' e5 w1 h hk hf he)
    have f1 : ((t.ins.length : Int) == 0) = false := by rw [beq_eq_false_iff_ne]; omega
    have f2 : ¬ ((50 : Int) < (t.ins.length : Int)) := by omega
    have f3 : ((t.outs.length : Int) == 0) = false := by rw [beq_eq_false_iff_ne]; omega
    have f4 : ¬ ((50 : Int) < (t.outs.length : Int)) := by omega
    have tok30 : True := trivial
    have tok40 : True := trivial
    have tok47 : True := trivial
    have tok50 : True := trivial
    clear hbad
    go_enter Tryd.func24, Tryd.ntmps24
    go_wp2_with (first
      | (have _t := tok1; refine wp_box (o := ⟨some 1, _, _, _, _, _⟩) rfl _ _ rfl rfl ?_; intro g1 wa h1 ba ga; clear _t tok1
         have h1q : Bk wa g1 26 (txC t A c A' c').toArray := h1
         have c1 : wa.cell? ⟨g1, 1, none⟩ = some (.slice A t.ins.length c) := (h1.cell 1).trans rfl
         have c2 : wa.cell? ⟨g1, 2, none⟩ = some (.slice A' t.outs.length c') := (h1.cell 2).trans rfl)
      | (have _t := tok30; refine wp_load (o := ⟨some 30, _, _, _, _, _⟩) (cs := txC t A c A' c') rfl _ _ rfl agTx rfl rfl (Bk.all h1q) ?_; clear _t tok30))
    clear f1 f2 f3 f4 h1 c1 c2
    refine (HS1.out _ ⟨A, c, A', c', rfl, (hi.below ba).more ba.size, (ho.below ba).more ba.size⟩).mono ?_
    rintro y wb ⟨rfl, bb⟩
    have h1b := h1q.same bb
    have bwb := ba.trans (bb.mono ba.size)
    have c1b : wb.cell? ⟨g1, 1, none⟩ = some (.slice A t.ins.length c) := (h1b.cell 1).trans rfl
    have heb := he1.below bwb
    clear h1q
    by_cases q1 : 4000 < (txB t).length
    · go_wp2_with fail
      go_ret
      exact ⟨by rw [HB1.out, if_pos q1]; rfl, bwb⟩
    have HB2 := Lib.hid (HB1.out.trans (if_neg q1))
    go_wp2_with fail
    clear HB1 c1b heb
    refine (HS2.out _ ((hi.below bwb).more bwb.size)).mono ?_
    rintro y wc ⟨rfl, bc⟩
    have h1c := h1b.same bc
    have bwc := bwb.trans (bc.mono bwb.size)
    have hec := he2.below bwc
    clear h1b
    by_cases q2 : t.ins.any longKey = true
    · rw [q2]
      go_wp2_with fail
      go_ret
      exact ⟨by rw [HB2.out, if_pos q2]; rfl, bwc⟩
    have HB3 := Lib.hid (HB2.out.trans (if_neg q2))
    rw [show t.ins.any longKey = false by simpa using q2]
    go_wp2_with (have _t := tok40; refine wp_load (o := ⟨some 40, _, _, _, _, _⟩) (cs := txC t A c A' c') rfl _ _ rfl agTx rfl rfl (Bk.all h1c) ?_; clear _t tok40)
    clear HB2 hec
    refine (HS3.out _ ⟨A, c, A', c', rfl, (hi.below bwc).more bwc.size, (ho.below bwc).more bwc.size⟩).mono ?_
    obtain ⟨v, hv⟩ := sumV_some t
    rw [hv]
    rintro y wd ⟨rfl, bd⟩
    have h1d := h1c.same bd
    have bwd := bwc.trans (bd.mono bwc.size)
    have hed := he3.below bwd
    clear h1c
    by_cases q3 : sumOk t = false
    · rw [q3]
      go_wp2_with fail
      go_ret
      exact ⟨by rw [HB3.out, if_pos q3]; rfl, bwd⟩
    have HB4 := Lib.hid (HB3.out.trans (if_neg q3))
    rw [show sumOk t = true by simpa using q3]
    go_wp2_with (have _t := tok47; refine wp_load (o := ⟨some 47, _, _, _, _, _⟩) (cs := txC t A c A' c') rfl _ _ rfl agTx rfl rfl (Bk.all h1d) ?_; clear _t tok47)
    clear HB3 hed
    refine (HS4.out _ ((hi.below bwd).more bwd.size)).mono ?_
    rintro y we ⟨rfl, be⟩
    have h1e := h1d.same be
    have bwe := bwd.trans (be.mono bwd.size)
    have hee := he4.below bwe
    clear h1d
    by_cases q4 : twiceP t.ins = true
    · rw [q4]
      go_wp2_with fail
      go_ret
      exact ⟨by rw [HB4.out, if_pos q4]; rfl, bwe⟩
    have HB5 := Lib.hid (HB4.out.trans (if_neg q4))
    rw [show twiceP t.ins = false by simpa using q4]
    go_wp2_with (have _t := tok50; refine wp_load (o := ⟨some 50, _, _, _, _, _⟩) (cs := txC t A c A' c') rfl _ _ rfl agTx rfl rfl (Bk.all h1e) ?_; clear _t tok50)
    refine (HS5.out _ ((hi.below bwe).more bwe.size) (he5.later bwe)).mono ?_
    rintro y wf ⟨rfl, bf⟩
    go_wp2_with fail
    go_ret
    exact ⟨by rw [HB5.out]; rfl, bwe.trans (bf.mono bwe.size)⟩
end Go.Proofs.YtjfeehoflahblaaDoor
