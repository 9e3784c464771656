/- Whether two rows of outputs are the same: the library's Equal. Conditions: rows of at most 2^39 things. -/
import Derived.Test.YtjfeehoflahblaaDoorEqIns
namespace Go.Proofs.YtjfeehoflahblaaDoor
open Go.RowKit

def EqOutsR (l m : List TOut) (w : World) (i : Value) (wr : World) : Prop := ∃ k : Nat, k ≤ l.length ∧ i = .int .i64 k ∧ (∀ j, j < k → l[j]? = m[j]?) ∧ Below w.heap.size w wr
theorem eq_of_getsO {l m : List TOut} (hl : l.length = m.length) (h : ∀ j, j < l.length → l[j]? = m[j]?) : l = m := by
  apply List.ext_getElem?
  intro j
  rcases Nat.lt_or_ge j l.length with h1 | h1
  · exact h j h1
  · rw [List.getElem?_eq_none h1, List.getElem?_eq_none (by omega)]
set_option maxRecDepth 100000 in
set_option maxHeartbeats 1000000 in
theorem eqOuts_calls (l m : List TOut) (A B : Option Addr) (c d : Nat) (w : World) (hi : RdOuts w w.heap.size A l) (hj : RdOuts w w.heap.size B m) (hk : ∀ x ∈ l, x.Ok) (hkm : ∀ x ∈ m, x.Ok) (hl : l.length ≤ 549755813888) (hm : m.length ≤ 549755813888) :
    Calls Tryd.prog 87 #[.slice A l.length c, .slice B m.length d] w fun e w' => e = .returned (.bool (decide (l = m))) ∧ Below w.heap.size w w' := by
  by_cases hlm : l.length = m.length
  · go_enter Tryd.func87, Tryd.ntmps87
    go_wp2
    go_loopw [13] (EqOutsR l m w) (fun i _ => l.length - (intOf i).toNat)
    case atStart => exact ⟨0, by omega, rfl, fun j hj => by omega, Below.refl _ _⟩
    case round =>
      obtain ⟨k, hk1, rfl, hn, hbw⟩ := hrel
      have HN := Lib.hid hn
      clear hn
      by_cases hlt : k < l.length
      · obtain ⟨x, hx⟩ : ∃ x, l[k]? = some x := ⟨_, List.getElem?_eq_getElem hlt⟩
        obtain ⟨y, hy⟩ : ∃ y, m[k]? = some y := ⟨_, List.getElem?_eq_getElem (by omega)⟩
        obtain ⟨b, o, rfl, hbl, hcell⟩ := hi k x hx
        obtain ⟨b2, o2, rfl, hbl2, hcell2⟩ := hj k y hy
        have HX := Lib.hid (And.intro hx (hk x (mem_of_get hx)))
        have HY := Lib.hid (And.intro hy (hkm y (mem_of_get hy)))
        have j0 : (0 : Int) ≤ (k : Int) := by omega
        have j1 : (k : Int) < (l.length : Int) := by omega
        have j2 : (k : Int) < (m.length : Int) := by omega
        have HLM := Lib.hid hlm
        clear hx hy hlm
        go_wp2_with fail
        have rx : wr.rangeAt b (o + k * 33) (outC x) := fun j u hu => (hbw.cell (p := ⟨b, _, none⟩) hbl).trans (hcell j u hu)
        have ry : wr.rangeAt b2 (o2 + k * 33) (outC y) := fun j u hu => (hbw.cell (p := ⟨b2, _, none⟩) hbl2).trans (hcell2 j u hu)
        refine wp_region_held_drew (S := fun w' => w'.rangeAt b (o + k * 33) (outC x) ∧ w'.rangeAt b2 (o2 + k * 33) (outC y)) (by kernel_rfl) ⟨rx, ry⟩ (fun hHeld => ?_)
        refine wpAnyH_take (i := 0) (oi := ⟨some 16, _, _, _, _, _⟩) (v := .slice (some ⟨b, o, none⟩) l.length c) rfl (by kernel_rfl) (by kernel_rfl) (by kernel_rfl) (fun _ _ _ h => h) (.inl ⟨by rfl, fun w' hS => by go_simp⟩) hHeld ?_
        simp only [Act.put, List.setIfInBounds_toArray, List.set_cons_zero, List.set_cons_succ]
        refine wpAnyH_take (i := 1) (oi := ⟨some 17, _, _, _, _, _⟩) (v := .int .i64 k) rfl (by kernel_rfl) (by kernel_rfl) (by kernel_rfl) (fun _ _ _ h => h) (.inl ⟨by rfl, fun w' hS => by go_simp⟩) hHeld ?_
        simp only [Act.put, List.setIfInBounds_toArray, List.set_cons_zero, List.set_cons_succ]
        refine wpAnyH_take (i := 2) (oi := ⟨some 18, _, _, _, _, _⟩) (v := .pointer (some ⟨b, o + k * 33, none⟩)) rfl (by kernel_rfl) (by kernel_rfl) (by kernel_rfl) (fun _ _ _ h => h) (.inl ⟨by rfl, fun w' hS => by go_simp⟩) hHeld ?_
        simp only [Act.put, List.setIfInBounds_toArray, List.set_cons_zero, List.set_cons_succ]
        refine wpAnyH_take (i := 3) (oi := ⟨some 19, _, _, _, _, _⟩) (v := .agg (outC x).toArray) rfl (by kernel_rfl) (by kernel_rfl) (by kernel_rfl) (fun _ _ _ h => h) (.inl ⟨by rfl, fun w' hS => exec_load _ _ rfl agOut rfl (outC_length HX.out.2.lockl) hS.1⟩) hHeld ?_
        simp only [Act.put, List.setIfInBounds_toArray, List.set_cons_zero, List.set_cons_succ]
        refine wpAnyH_take (i := 4) (oi := ⟨some 20, _, _, _, _, _⟩) (v := .slice (some ⟨b2, o2, none⟩) m.length d) rfl (by kernel_rfl) (by kernel_rfl) (by kernel_rfl) (fun _ _ _ h => h) (.inl ⟨by rfl, fun w' hS => by go_simp⟩) hHeld ?_
        simp only [Act.put, List.setIfInBounds_toArray, List.set_cons_zero, List.set_cons_succ]
        refine wpAnyH_take (i := 5) (oi := ⟨some 21, _, _, _, _, _⟩) (v := .int .i64 k) rfl (by kernel_rfl) (by kernel_rfl) (by kernel_rfl) (fun _ _ _ h => h) (.inl ⟨by rfl, fun w' hS => by go_simp⟩) hHeld ?_
        simp only [Act.put, List.setIfInBounds_toArray, List.set_cons_zero, List.set_cons_succ]
        refine wpAnyH_take (i := 6) (oi := ⟨some 22, _, _, _, _, _⟩) (v := .pointer (some ⟨b2, o2 + k * 33, none⟩)) rfl (by kernel_rfl) (by kernel_rfl) (by kernel_rfl) (fun _ _ _ h => h) (.inl ⟨by rfl, fun w' hS => by go_simp⟩) hHeld ?_
        simp only [Act.put, List.setIfInBounds_toArray, List.set_cons_zero, List.set_cons_succ]
        refine wpAnyH_take (i := 7) (oi := ⟨some 23, _, _, _, _, _⟩) (v := .agg (outC y).toArray) rfl (by kernel_rfl) (by kernel_rfl) (by kernel_rfl) (fun _ _ _ h => h) (.inl ⟨by rfl, fun w' hS => exec_load _ _ rfl agOut rfl (outC_length HY.out.2.lockl) hS.2⟩) hHeld ?_
        simp only [Act.put, List.setIfInBounds_toArray, List.set_cons_zero, List.set_cons_succ]
        refine hOne (i := 8) (o := ⟨some 24, _, _, _, _, _⟩) (by kernel_rfl) rfl (by rfl) ?_
        by_cases hp : x = y
        · have hq := run_neq_out x y wr.drew HX.out.2 HY.out.2
          rw [decide_eq_true hp] at hq
          have HP := Lib.hid hp
          clear hp
          unfold Oper.wp
          rw [exec_bin _ _ _ _ _ rfl rfl rfl gdOut hq]
          go_simp
          refine ⟨by kernel_rfl, ?_⟩
          go_wp2_with fail
          go_roundw
          case rel =>
            refine ⟨k + 1, by omega, by go_num, fun j hj => ?_, bl_drewN hbw _⟩
            rcases Nat.lt_or_ge j k with h | h
            · exact HN.out j h
            · obtain rfl : j = k := by omega
              rw [HX.out.1, HY.out.1, HP.out]
          case measure => simp [intOf]; omega
        · have hq := run_neq_out x y wr.drew HX.out.2 HY.out.2
          rw [decide_eq_false hp] at hq
          have hd : decide (l = m) = false := decide_eq_false (fun h => hp (by
            have h1 := HX.out.1
            rw [h, HY.out.1] at h1
            injection h1 with h1
            exact h1.symm))
          have HD := Lib.hid hd
          clear hp hd
          unfold Oper.wp
          rw [exec_bin _ _ _ _ _ rfl rfl rfl gdOut hq]
          go_simp
          refine ⟨by kernel_rfl, ?_⟩
          go_wp2_with fail
          go_ret
          exact ⟨by rw [HD.out]; rfl, bl_drewN hbw _⟩
      · obtain rfl : k = l.length := by omega
        have hd : decide (l = m) = true := by rw [eq_of_getsO hlm HN.out]; simp
        have HD := Lib.hid hd
        clear hd
        go_wp2_with fail
        go_ret
        exact ⟨by rw [HD.out]; rfl, hbw⟩
  · have hd : decide (l = m) = false := decide_eq_false (fun h => hlm (by rw [h]))
    have HD := Lib.hid hd
    clear hd
    have f1 : ¬ ((l.length : Int) = (m.length : Int)) := by omega
    go_enter Tryd.func87, Tryd.ntmps87
    go_wp2_with fail
    go_ret
    exact ⟨by rw [HD.out]; rfl, Below.refl _ _⟩
-- the walk (f87): region 6 draws its order: 2 loads of type Out (wpAnyH_take + exec_load), neq by exec_bin + run_neq_out
end Go.Proofs.YtjfeehoflahblaaDoor
