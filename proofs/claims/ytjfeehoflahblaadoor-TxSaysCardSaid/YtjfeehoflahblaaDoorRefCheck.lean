/- Whether a transaction is well made: the reference's CheckTx, and that the program's answer is that error. Conditions: rows of at most 2^39 things. -/
import Derived.Test.YtjfeehoflahblaaDoorErr
import Derived.Test.YtjfeehoflahblaaDoorRefTx
namespace Go.Proofs.YtjfeehoflahblaaDoor
open Go.RowKit Go.Maps

def baseC (t : TTx) : Int := if baseP t then (match t.ins with | x :: _ => if x.key.length < 4 then 107 else 0 | [] => 0) else if t.ins.any nullIn then 107 else 0
def checkC (t : TTx) : Int :=
  if badN t = true then 104 else if 4000 < (txB t).length then 103 else if t.ins.any longKey = true then 114 else if sumOk t = false then 105 else if twiceP t.ins = true then 106 else baseC t
/-- The error of a code. -/
def ErrOf (E : Nat → Addr) (e : Value) (c : Int) : Prop := (e = .nilIface ∧ c = 0) ∨ ∃ i : Nat, i < 25 ∧ e = errV E i ∧ c = 101 + i
theorem baseE_of (E : Nat → Addr) (t : TTx) : ErrOf E (baseE t (errV E 6)) (baseC t) := by
  unfold baseE baseC
  split
  · cases t.ins with
    | nil => exact .inl ⟨rfl, rfl⟩
    | cons x r =>
      by_cases h : x.key.length < 4
      · simp only [h, if_true]; exact .inr ⟨6, by omega, rfl, rfl⟩
      · simp only [h, if_false]; exact .inl ⟨rfl, rfl⟩
  · by_cases h : t.ins.any nullIn = true
    · simp only [h, if_true]; exact .inr ⟨6, by omega, rfl, rfl⟩
    · simp only [h]; exact .inl ⟨rfl, rfl⟩
theorem checkE_of (E : Nat → Addr) (t : TTx) : ErrOf E (checkE t (errV E 3) (errV E 2) (errV E 13) (errV E 4) (errV E 5) (errV E 6)) (checkC t) := by
  unfold checkE checkC
  split
  · exact .inr ⟨3, by omega, rfl, rfl⟩
  split
  · exact .inr ⟨2, by omega, rfl, rfl⟩
  split
  · exact .inr ⟨13, by omega, rfl, rfl⟩
  split
  · exact .inr ⟨4, by omega, rfl, rfl⟩
  split
  · exact .inr ⟨5, by omega, rfl, rfl⟩
  exact baseE_of E t
theorem baseC_not {t : TTx} (h : baseP t = false) : baseC t = if t.ins.any nullIn then 107 else 0 := by unfold baseC; simp [h]
theorem baseC_one {t : TTx} {x : TIn} (h : baseP t = true) (hx : t.ins[0]? = some x) : baseC t = if x.key.length < 4 then 107 else 0 := by
  unfold baseC
  cases hi : t.ins with
  | nil => rw [hi] at hx; simp at hx
  | cons y r => rw [hi] at hx; simp at hx; subst hx; simp [h]
theorem samePt_eq (x y : TIn) : decide (x.tx = y.tx ∧ x.n = y.n) = samePt x y := by
  unfold samePt
  exact decide_eq_decide.2 ⟨fun h => ⟨h.1.symm, h.2.symm⟩, fun h => ⟨h.1.symm, h.2.symm⟩⟩
theorem seenAt_no {l : List TIn} {k : Nat} {x : TIn} (hx : l[k]? = some x) (h : ∀ j y, j < k → l[j]? = some y → samePt x y = false) : seenAt l k = false := by
  rw [seenAt_get hx, List.any_eq_false]
  intro y hy
  obtain ⟨j, hj⟩ := List.getElem?_of_mem hy
  have hjk : j < k := by
    rcases Nat.lt_or_ge j k with h1 | h1
    · exact h1
    · rw [List.getElem?_eq_none (by rw [List.length_take]; omega)] at hj; cases hj
  rw [List.getElem?_take_of_lt hjk] at hj
  simp [h j y hjk hj]
theorem seenAt_yes {l : List TIn} {k j : Nat} {x y : TIn} (hx : l[k]? = some x) (hj : j < k) (hy : l[j]? = some y) (h : samePt x y = true) : seenAt l k = true := by
  rw [seenAt_get hx, List.any_eq_true]
  exact ⟨y, mem_of_get (by rw [List.getElem?_take_of_lt hj]; exact hy), h⟩

def KeyR (l : List TIn) (w : World) (i : Value) (wr : World) : Prop := ∃ k : Nat, k ≤ l.length ∧ i = .int .i64 k ∧ (∀ j x, j < k → l[j]? = some x → longKey x = false) ∧ w = wr
def TwR (l : List TIn) (w : World) (i : Value) (wr : World) : Prop := ∃ k : Nat, k ≤ l.length ∧ i = .int .i64 k ∧ (∀ j, j < k → seenAt l j = false) ∧ Below w.heap.size w wr
def TwI (l : List TIn) (x : TIn) (k : Nat) (w : World) (i : Value) (wr : World) : Prop := ∃ m : Nat, m ≤ k ∧ i = .int .i64 m ∧ (∀ j y, j < m → l[j]? = some y → samePt x y = false) ∧ Below w.heap.size w wr
def NuR (l : List TIn) (w : World) (i : Value) (wr : World) : Prop := ∃ k : Nat, k ≤ l.length ∧ i = .int .i64 k ∧ (∀ j x, j < k → l[j]? = some x → nullIn x = false) ∧ Below w.heap.size w wr
set_option maxRecDepth 100000 in
set_option maxHeartbeats 4000000 in
theorem refCheck_calls (t : TTx) (A A' : Option Addr) (c c' : Nat) (w : World) (hi : RdIns w w.heap.size A t.ins) (ho : RdOuts w w.heap.size A' t.outs) (hk : t.Ok) (hf : t.Fit) :
    Calls Tryd.prog 25 #[.agg (txC t A c A' c').toArray] w fun x w' => x = .returned (.int .i64 (checkC t)) ∧ Below w.heap.size w w' := by
  have hil := hf.i
  have hol := hf.o
  have hbl := hf.b
  have tok1 : True := trivial
  by_cases hbad : badN t = true
  · have HB := Lib.hid (show checkC t = 104 by unfold checkC; rw [if_pos hbad])
    have hb : t.ins.length = 0 ∨ (0 < t.ins.length ∧ 50 < t.ins.length) ∨ (0 < t.ins.length ∧ t.ins.length ≤ 50 ∧ t.outs.length = 0) ∨ (0 < t.ins.length ∧ t.ins.length ≤ 50 ∧ 0 < t.outs.length ∧ 50 < t.outs.length) := by
      unfold badN at hbad; rw [decide_eq_true_iff] at hbad; omega
    clear hbad
    rcases hb with hb | ⟨hb1, hb2⟩ | ⟨hb1, hb2, hb3⟩ | ⟨hb1, hb2, hb3, hb4⟩
    all_goals
      go_enter Tryd.func25, Tryd.ntmps25
      go_wp2_with (have _t := tok1; refine wp_box (o := ⟨some 1, _, _, _, _, _⟩) rfl _ _ rfl rfl ?_; intro g1 wa h1 ba ga; clear _t tok1
                   have c1 : wa.cell? ⟨g1, 1, none⟩ = some (.slice A t.ins.length c) := (h1.cell 1).trans rfl
                   have c2 : wa.cell? ⟨g1, 2, none⟩ = some (.slice A' t.outs.length c') := (h1.cell 2).trans rfl)
      all_goals (first | (go_ret; exact ⟨by rw [HB.out]; rfl, ba⟩) | (exfalso; simp at *; omega))
  · have hg : 0 < t.ins.length ∧ t.ins.length ≤ 50 ∧ 0 < t.outs.length ∧ t.outs.length ≤ 50 := by
      unfold badN at hbad; rw [decide_eq_true_iff] at hbad; omega
    obtain ⟨hg1, hg2, hg3, hg4⟩ := hg
    have HB1 := Lib.hid (show checkC t = if 4000 < (txB t).length then 103 else if t.ins.any longKey = true then 114 else if sumOk t = false then 105 else if twiceP t.ins = true then 106 else baseC t by unfold checkC; rw [if_neg hbad])
    have HS1 := Lib.hid (fun (w1 : World) (h : RdTx w1 w1.heap.size (txC t A c A' c') t) => refTxSize_calls (txC t A c A' c') t w1 h hk hf)
    have HS2 := Lib.hid (fun (w1 : World) (h : RdOuts w1 w1.heap.size A' t.outs) => refValues_calls t A A' c c' w1 h hol)
    have HS5 := Lib.hid (fun (w1 : World) (h : RdIns w1 w1.heap.size A t.ins) => refBase_calls t A A' c c' w1 h hk hf)
    have hkok := Lib.hid hk
    have f1 : ((t.ins.length : Int) == 0) = false := by rw [beq_eq_false_iff_ne]; omega
    have f2 : ¬ ((50 : Int) < (t.ins.length : Int)) := by omega
    have f3 : ((t.outs.length : Int) == 0) = false := by rw [beq_eq_false_iff_ne]; omega
    have f4 : ¬ ((50 : Int) < (t.outs.length : Int)) := by omega
    have tok31 : True := trivial
    have tok50 : True := trivial
    have tok82 : True := trivial
    clear hbad hk
    go_enter Tryd.func25, Tryd.ntmps25
    go_wp2_with (first
      | (have _t := tok1; refine wp_box (o := ⟨some 1, _, _, _, _, _⟩) rfl _ _ rfl rfl ?_; intro g1 wa h1 ba ga; clear _t tok1
         have h1q : Bk wa g1 26 (txC t A c A' c').toArray := h1
         have c1 : wa.cell? ⟨g1, 1, none⟩ = some (.slice A t.ins.length c) := (h1.cell 1).trans rfl
         have c2 : wa.cell? ⟨g1, 2, none⟩ = some (.slice A' t.outs.length c') := (h1.cell 2).trans rfl)
      | (have _t := tok31; refine wp_load (o := ⟨some 31, _, _, _, _, _⟩) (cs := txC t A c A' c') rfl _ _ rfl agTx rfl rfl (Bk.all h1q) ?_; clear _t tok31))
    clear f1 f2 f3 f4 h1 c1 c2
    refine (HS1.out _ ⟨A, c, A', c', rfl, (hi.below ba).more ba.size, (ho.below ba).more ba.size⟩).mono ?_
    rintro y wb ⟨rfl, bb⟩
    have h1b := h1q.same bb
    have bwb := ba.trans (bb.mono ba.size)
    have c1b : wb.cell? ⟨g1, 1, none⟩ = some (.slice A t.ins.length c) := (h1b.cell 1).trans rfl
    clear h1q
    by_cases q1 : 4000 < (txB t).length
    · go_wp2_with fail
      go_ret
      exact ⟨by rw [HB1.out, if_pos q1]; rfl, bwb⟩
    have HB2 := Lib.hid (HB1.out.trans (if_neg q1))
    go_wp2_with fail
    clear HB1
    go_loopw [3] (KeyR t.ins wb) (fun i _ => t.ins.length - (intOf i).toNat)
    case atStart => exact ⟨0, by omega, rfl, fun j x hj _ => by omega, rfl⟩
    case round =>
      obtain ⟨k, hk1, rfl, hn, rfl⟩ := hrel
      have HN := Lib.hid hn
      clear hn
      by_cases hlt : k < t.ins.length
      · obtain ⟨x, hx⟩ : ∃ x, t.ins[k]? = some x := ⟨_, List.getElem?_eq_getElem hlt⟩
        obtain ⟨b, o, K, kc, rfl, hbl, hcell, hkey⟩ := hi k x hx
        have hxk := hkok.out.ins x (mem_of_get hx)
        have h33 : wb.cell? ⟨b, o + k * 35 + 33, none⟩ = some (.slice K x.key.length kc) := (bwb.cell (p := ⟨b, _, none⟩) hbl).trans (hcell 33 _ (inC_33 hxk.txl K kc))
        have hkl : x.key.length ≤ 549755813888 := key_le hkok.out hf x (mem_of_get hx)
        have HX := Lib.hid hx
        have j0 : (0 : Int) ≤ (k : Int) := by omega
        have j1 : (k : Int) < (t.ins.length : Int) := by omega
        clear hcell hkey hx hxk
        by_cases hp : 80 < x.key.length
        · have HA := Lib.hid (show t.ins.any longKey = true from List.any_eq_true.2 ⟨x, mem_of_get HX.out, by simp [longKey, hp]⟩)
          go_wp2_with fail
          go_ret
          exact ⟨by rw [HB2.out, if_pos HA.out]; rfl, bwb⟩
        · have HP := Lib.hid (show longKey x = false by simp [longKey]; omega)
          go_wp2_with fail
          go_roundw
          case rel =>
            refine ⟨k + 1, by omega, by go_num, fun j y hj hy => ?_, rfl⟩
            rcases Nat.lt_or_ge j k with h | h
            · exact HN.out j y h hy
            · obtain rfl : j = k := by omega
              have := HX.out
              rw [hy] at this; injection this with this; subst this
              exact HP.out
          case measure => simp [intOf]; omega
      · obtain rfl : k = t.ins.length := by omega
        have HB3 := Lib.hid (HB2.out.trans (if_neg (by rw [any_noneL HN.out]; simp)))
        go_wp2_with (have _t := tok50; refine wp_load (o := ⟨some 50, _, _, _, _, _⟩) (cs := txC t A c A' c') rfl _ _ rfl agTx rfl rfl (Bk.all h1b) ?_; clear _t tok50)
        clear HB2 HN c1b
        refine (HS2.out _ ((ho.below bwb).more bwb.size)).mono ?_
        rintro y wc ⟨A1, k1, rfl, o1, bc⟩
        have h1c := h1b.same bc
        have bwc := bwb.trans (bc.mono bwb.size)
        clear h1b
        go_wp2_with fail
        refine (refSum_calls A1 t.outs.length k1 (valsP t) wc o1.rd hol (vals64 hkok.out)).mono ?_
        obtain ⟨v, hv⟩ := sumV_some t
        rw [hv]
        rintro e wd ⟨rfl, rfl⟩
        have c1c : wd.cell? ⟨g1, 1, none⟩ = some (.slice A t.ins.length c) := (h1c.cell 1).trans rfl
        by_cases q3 : sumOk t = false
        · rw [q3]
          go_wp2_with fail
          go_ret
          exact ⟨by rw [HB3.out, if_pos q3]; rfl, bwc⟩
        have HB4 := Lib.hid (HB3.out.trans (if_neg q3))
        rw [show sumOk t = true by simpa using q3]
        clear o1 HB3 hv
        go_wp2_with fail
        go_loopw [6] (TwR t.ins wd) (fun i _ => t.ins.length - (intOf i).toNat)
        case atStart => exact ⟨0, by omega, rfl, fun j hj => by omega, Below.refl _ _⟩
        case round =>
          obtain ⟨k, hk1, rfl, hn, hbw⟩ := hrel
          have HN := Lib.hid hn
          have h1r := h1c.same hbw
          have bwr := bwc.trans (hbw.mono bwc.size)
          have c1r : wr.cell? ⟨g1, 1, none⟩ = some (.slice A t.ins.length c) := (h1r.cell 1).trans rfl
          clear hn
          by_cases hlt : k < t.ins.length
          · obtain ⟨x, hx⟩ : ∃ x, t.ins[k]? = some x := ⟨_, List.getElem?_eq_getElem hlt⟩
            have HX := Lib.hid (And.intro hx (hkok.out.ins x (mem_of_get hx)))
            have j0 : (0 : Int) ≤ (k : Int) := by omega
            have j1 : (k : Int) < (t.ins.length : Int) := by omega
            clear hx
            go_wp2_with fail
            obtain ⟨wo, rfl⟩ : ∃ wo : World, wo = wr := ⟨_, rfl⟩
            go_loopw [7] (TwI t.ins x k wo) (fun i _ => k - (intOf i).toNat)
            case atStart => exact ⟨0, by omega, rfl, fun j y hj _ => by omega, Below.refl _ _⟩
            case round =>
              obtain ⟨m, hm1, rfl, hm, hbi⟩ := hrel
              have HM := Lib.hid hm
              have h1i := h1r.same hbi
              have bwi := bwr.trans (hbi.mono bwr.size)
              have hbwi := hbw.trans (hbi.mono hbw.size)
              clear hm
              by_cases hmk : m < k
              · obtain ⟨y, hy⟩ : ∃ y, t.ins[m]? = some y := ⟨_, List.getElem?_eq_getElem (by omega)⟩
                obtain ⟨b, o, K, kc, rfl, hbl, hcell, hkey⟩ := hi k x HX.out.1
                obtain ⟨b2, o2, K2, kc2, hA2, hbl2, hcell2, hkey2⟩ := hi m y hy
                injection hA2 with hA2
                injection hA2 with hA3 hA4
                subst hA3; subst hA4
                have HY := Lib.hid (And.intro hy (hkok.out.ins y (mem_of_get hy)))
                have k0 : wr.cell? ⟨g1, 1, none⟩ = some (.slice (some ⟨b, o, none⟩) t.ins.length c) := (h1i.cell 1).trans rfl
                have k1 : wr.rangeAt b (o + k * 35) (pC x.tx x.n) := fun j u hu => (bwi.cell (p := ⟨b, _, none⟩) hbl).trans (hcell j u (inC_pt HX.out.2.txl K kc hu))
                have k2 : wr.rangeAt b (o + m * 35) (pC y.tx y.n) := fun j u hu => (bwi.cell (p := ⟨b, _, none⟩) hbl).trans (hcell2 j u (inC_pt HY.out.2.txl K2 kc2 hu))
                have HC := fun (wx : World) => samePoint_calls x.tx y.tx x.n y.n wx HX.out.2.txl HY.out.2.txl
                rw [samePt_eq] at HC
                have m0 : (0 : Int) ≤ (m : Int) := by omega
                have m1 : (m : Int) < (t.ins.length : Int) := by omega
                have m2 : (m : Int) < (k : Int) := by omega
                clear hy hcell hcell2 hkey hkey2 c1r
                by_cases hp : samePt x y = true
                · rw [hp] at HC
                  have HP := Lib.hid hp
                  have HQ := Lib.hid HC
                  clear hp HC
                  go_wp2_with fail
                  refine wp_region_held_drew (S := fun w' => w'.cell? ⟨g1, 1, none⟩ = some (.slice (some ⟨b, o, none⟩) t.ins.length c) ∧ w'.rangeAt b (o + k * 35) (pC x.tx x.n) ∧ w'.rangeAt b (o + m * 35) (pC y.tx y.n)) (by kernel_rfl) ⟨k0, k1, k2⟩ (fun hHeld => ?_)
                  refine wpAnyH_take (i := 0) (oi := ⟨some 69, _, _, _, _, _⟩) (v := .pointer (some ⟨g1, 1, none⟩)) rfl (by kernel_rfl) (by kernel_rfl) (by kernel_rfl) (fun _ _ _ h => h) (.inl ⟨by rfl, fun w' hS => by go_simp⟩) hHeld ?_
                  simp only [Act.put, List.setIfInBounds_toArray, List.set_cons_zero, List.set_cons_succ]
                  refine wpAnyH_take (i := 1) (oi := ⟨some 70, _, _, _, _, _⟩) (v := .slice (some ⟨b, o, none⟩) t.ins.length c) rfl (by kernel_rfl) (by kernel_rfl) (by kernel_rfl) (fun _ _ _ h => h) (.inl ⟨by rfl, fun w' hS => by have h1 := hS.1; go_simp⟩) hHeld ?_
                  simp only [Act.put, List.setIfInBounds_toArray, List.set_cons_zero, List.set_cons_succ]
                  refine wpAnyH_take (i := 2) (oi := ⟨some 71, _, _, _, _, _⟩) (v := .int .i64 k) rfl (by kernel_rfl) (by kernel_rfl) (by kernel_rfl) (fun _ _ _ h => h) (.inl ⟨by rfl, fun w' hS => by go_simp⟩) hHeld ?_
                  simp only [Act.put, List.setIfInBounds_toArray, List.set_cons_zero, List.set_cons_succ]
                  refine wpAnyH_take (i := 3) (oi := ⟨some 72, _, _, _, _, _⟩) (v := .pointer (some ⟨b, o + k * 35, none⟩)) rfl (by kernel_rfl) (by kernel_rfl) (by kernel_rfl) (fun _ _ _ h => h) (.inl ⟨by rfl, fun w' hS => by go_simp⟩) hHeld ?_
                  simp only [Act.put, List.setIfInBounds_toArray, List.set_cons_zero, List.set_cons_succ]
                  refine wpAnyH_take (i := 4) (oi := ⟨some 73, _, _, _, _, _⟩) (v := .pointer (some ⟨b, o + k * 35, none⟩)) rfl (by kernel_rfl) (by kernel_rfl) (by kernel_rfl) (fun _ _ _ h => h) (.inl ⟨by rfl, fun w' hS => by go_simp⟩) hHeld ?_
                  simp only [Act.put, List.setIfInBounds_toArray, List.set_cons_zero, List.set_cons_succ]
                  refine wpAnyH_take (i := 5) (oi := ⟨some 74, _, _, _, _, _⟩) (v := .agg (pC x.tx x.n).toArray) rfl (by kernel_rfl) (by kernel_rfl) (by kernel_rfl) (fun _ _ _ h => h) (.inl ⟨by rfl, fun w' hS => exec_load _ _ rfl agPoint rfl (pC_length HX.out.2.txl x.n) hS.2.1⟩) hHeld ?_
                  simp only [Act.put, List.setIfInBounds_toArray, List.set_cons_zero, List.set_cons_succ]
                  refine wpAnyH_take (i := 6) (oi := ⟨some 75, _, _, _, _, _⟩) (v := .pointer (some ⟨g1, 1, none⟩)) rfl (by kernel_rfl) (by kernel_rfl) (by kernel_rfl) (fun _ _ _ h => h) (.inl ⟨by rfl, fun w' hS => by go_simp⟩) hHeld ?_
                  simp only [Act.put, List.setIfInBounds_toArray, List.set_cons_zero, List.set_cons_succ]
                  refine wpAnyH_take (i := 7) (oi := ⟨some 76, _, _, _, _, _⟩) (v := .slice (some ⟨b, o, none⟩) t.ins.length c) rfl (by kernel_rfl) (by kernel_rfl) (by kernel_rfl) (fun _ _ _ h => h) (.inl ⟨by rfl, fun w' hS => by have h1 := hS.1; go_simp⟩) hHeld ?_
                  simp only [Act.put, List.setIfInBounds_toArray, List.set_cons_zero, List.set_cons_succ]
                  refine wpAnyH_take (i := 8) (oi := ⟨some 77, _, _, _, _, _⟩) (v := .int .i64 m) rfl (by kernel_rfl) (by kernel_rfl) (by kernel_rfl) (fun _ _ _ h => h) (.inl ⟨by rfl, fun w' hS => by go_simp⟩) hHeld ?_
                  simp only [Act.put, List.setIfInBounds_toArray, List.set_cons_zero, List.set_cons_succ]
                  refine wpAnyH_take (i := 9) (oi := ⟨some 78, _, _, _, _, _⟩) (v := .pointer (some ⟨b, o + m * 35, none⟩)) rfl (by kernel_rfl) (by kernel_rfl) (by kernel_rfl) (fun _ _ _ h => h) (.inl ⟨by rfl, fun w' hS => by go_simp⟩) hHeld ?_
                  simp only [Act.put, List.setIfInBounds_toArray, List.set_cons_zero, List.set_cons_succ]
                  refine wpAnyH_take (i := 10) (oi := ⟨some 79, _, _, _, _, _⟩) (v := .pointer (some ⟨b, o + m * 35, none⟩)) rfl (by kernel_rfl) (by kernel_rfl) (by kernel_rfl) (fun _ _ _ h => h) (.inl ⟨by rfl, fun w' hS => by go_simp⟩) hHeld ?_
                  simp only [Act.put, List.setIfInBounds_toArray, List.set_cons_zero, List.set_cons_succ]
                  refine wpAnyH_take (i := 11) (oi := ⟨some 80, _, _, _, _, _⟩) (v := .agg (pC y.tx y.n).toArray) rfl (by kernel_rfl) (by kernel_rfl) (by kernel_rfl) (fun _ _ _ h => h) (.inl ⟨by rfl, fun w' hS => exec_load _ _ rfl agPoint rfl (pC_length HY.out.2.txl y.n) hS.2.2⟩) hHeld ?_
                  simp only [Act.put, List.setIfInBounds_toArray, List.set_cons_zero, List.set_cons_succ]
                  refine hOne (i := 12) (o := ⟨some 81, _, _, _, _, _⟩) (by kernel_rfl) rfl (by rfl) ?_
                  go_simp
                  refine (HQ.out _).mono ?_
                  rintro e wv ⟨rfl, bv⟩
                  have hQ : (fun w' : World => w'.cell? ⟨g1, 1, none⟩ = some (.slice (some ⟨b, o, none⟩) t.ins.length c) ∧ w'.rangeAt b (o + k * 35) (pC x.tx x.n) ∧ w'.rangeAt b (o + m * 35) (pC y.tx y.n)) wv := ⟨cell_bel bv hHeld.1, rng_bel bv hHeld.2.1, rng_bel bv hHeld.2.2⟩
                  clear hHeld
                  refine ⟨hQ, ?_⟩
                  have hHeld := hQ
                  clear hQ
                  refine wpAnyH_done (by kernel_rfl) ?_ _
                  go_wp2_with fail
                  go_ret
                  exact ⟨by rw [HB4.out, if_pos (twiceP_yes hlt (seenAt_yes HX.out.1 hmk HY.out.1 HP.out))]; rfl, bwi.drew.trans (bv.mono bwi.size)⟩
                · rw [show samePt x y = false by simpa using hp] at HC
                  have HP := Lib.hid hp
                  have HQ := Lib.hid HC
                  clear hp HC
                  go_wp2_with fail
                  refine wp_region_held_drew (S := fun w' => w'.cell? ⟨g1, 1, none⟩ = some (.slice (some ⟨b, o, none⟩) t.ins.length c) ∧ w'.rangeAt b (o + k * 35) (pC x.tx x.n) ∧ w'.rangeAt b (o + m * 35) (pC y.tx y.n)) (by kernel_rfl) ⟨k0, k1, k2⟩ (fun hHeld => ?_)
                  refine wpAnyH_take (i := 0) (oi := ⟨some 69, _, _, _, _, _⟩) (v := .pointer (some ⟨g1, 1, none⟩)) rfl (by kernel_rfl) (by kernel_rfl) (by kernel_rfl) (fun _ _ _ h => h) (.inl ⟨by rfl, fun w' hS => by go_simp⟩) hHeld ?_
                  simp only [Act.put, List.setIfInBounds_toArray, List.set_cons_zero, List.set_cons_succ]
                  refine wpAnyH_take (i := 1) (oi := ⟨some 70, _, _, _, _, _⟩) (v := .slice (some ⟨b, o, none⟩) t.ins.length c) rfl (by kernel_rfl) (by kernel_rfl) (by kernel_rfl) (fun _ _ _ h => h) (.inl ⟨by rfl, fun w' hS => by have h1 := hS.1; go_simp⟩) hHeld ?_
                  simp only [Act.put, List.setIfInBounds_toArray, List.set_cons_zero, List.set_cons_succ]
                  refine wpAnyH_take (i := 2) (oi := ⟨some 71, _, _, _, _, _⟩) (v := .int .i64 k) rfl (by kernel_rfl) (by kernel_rfl) (by kernel_rfl) (fun _ _ _ h => h) (.inl ⟨by rfl, fun w' hS => by go_simp⟩) hHeld ?_
                  simp only [Act.put, List.setIfInBounds_toArray, List.set_cons_zero, List.set_cons_succ]
                  refine wpAnyH_take (i := 3) (oi := ⟨some 72, _, _, _, _, _⟩) (v := .pointer (some ⟨b, o + k * 35, none⟩)) rfl (by kernel_rfl) (by kernel_rfl) (by kernel_rfl) (fun _ _ _ h => h) (.inl ⟨by rfl, fun w' hS => by go_simp⟩) hHeld ?_
                  simp only [Act.put, List.setIfInBounds_toArray, List.set_cons_zero, List.set_cons_succ]
                  refine wpAnyH_take (i := 4) (oi := ⟨some 73, _, _, _, _, _⟩) (v := .pointer (some ⟨b, o + k * 35, none⟩)) rfl (by kernel_rfl) (by kernel_rfl) (by kernel_rfl) (fun _ _ _ h => h) (.inl ⟨by rfl, fun w' hS => by go_simp⟩) hHeld ?_
                  simp only [Act.put, List.setIfInBounds_toArray, List.set_cons_zero, List.set_cons_succ]
                  refine wpAnyH_take (i := 5) (oi := ⟨some 74, _, _, _, _, _⟩) (v := .agg (pC x.tx x.n).toArray) rfl (by kernel_rfl) (by kernel_rfl) (by kernel_rfl) (fun _ _ _ h => h) (.inl ⟨by rfl, fun w' hS => exec_load _ _ rfl agPoint rfl (pC_length HX.out.2.txl x.n) hS.2.1⟩) hHeld ?_
                  simp only [Act.put, List.setIfInBounds_toArray, List.set_cons_zero, List.set_cons_succ]
                  refine wpAnyH_take (i := 6) (oi := ⟨some 75, _, _, _, _, _⟩) (v := .pointer (some ⟨g1, 1, none⟩)) rfl (by kernel_rfl) (by kernel_rfl) (by kernel_rfl) (fun _ _ _ h => h) (.inl ⟨by rfl, fun w' hS => by go_simp⟩) hHeld ?_
                  simp only [Act.put, List.setIfInBounds_toArray, List.set_cons_zero, List.set_cons_succ]
                  refine wpAnyH_take (i := 7) (oi := ⟨some 76, _, _, _, _, _⟩) (v := .slice (some ⟨b, o, none⟩) t.ins.length c) rfl (by kernel_rfl) (by kernel_rfl) (by kernel_rfl) (fun _ _ _ h => h) (.inl ⟨by rfl, fun w' hS => by have h1 := hS.1; go_simp⟩) hHeld ?_
                  simp only [Act.put, List.setIfInBounds_toArray, List.set_cons_zero, List.set_cons_succ]
                  refine wpAnyH_take (i := 8) (oi := ⟨some 77, _, _, _, _, _⟩) (v := .int .i64 m) rfl (by kernel_rfl) (by kernel_rfl) (by kernel_rfl) (fun _ _ _ h => h) (.inl ⟨by rfl, fun w' hS => by go_simp⟩) hHeld ?_
                  simp only [Act.put, List.setIfInBounds_toArray, List.set_cons_zero, List.set_cons_succ]
                  refine wpAnyH_take (i := 9) (oi := ⟨some 78, _, _, _, _, _⟩) (v := .pointer (some ⟨b, o + m * 35, none⟩)) rfl (by kernel_rfl) (by kernel_rfl) (by kernel_rfl) (fun _ _ _ h => h) (.inl ⟨by rfl, fun w' hS => by go_simp⟩) hHeld ?_
                  simp only [Act.put, List.setIfInBounds_toArray, List.set_cons_zero, List.set_cons_succ]
                  refine wpAnyH_take (i := 10) (oi := ⟨some 79, _, _, _, _, _⟩) (v := .pointer (some ⟨b, o + m * 35, none⟩)) rfl (by kernel_rfl) (by kernel_rfl) (by kernel_rfl) (fun _ _ _ h => h) (.inl ⟨by rfl, fun w' hS => by go_simp⟩) hHeld ?_
                  simp only [Act.put, List.setIfInBounds_toArray, List.set_cons_zero, List.set_cons_succ]
                  refine wpAnyH_take (i := 11) (oi := ⟨some 80, _, _, _, _, _⟩) (v := .agg (pC y.tx y.n).toArray) rfl (by kernel_rfl) (by kernel_rfl) (by kernel_rfl) (fun _ _ _ h => h) (.inl ⟨by rfl, fun w' hS => exec_load _ _ rfl agPoint rfl (pC_length HY.out.2.txl y.n) hS.2.2⟩) hHeld ?_
                  simp only [Act.put, List.setIfInBounds_toArray, List.set_cons_zero, List.set_cons_succ]
                  refine hOne (i := 12) (o := ⟨some 81, _, _, _, _, _⟩) (by kernel_rfl) rfl (by rfl) ?_
                  go_simp
                  refine (HQ.out _).mono ?_
                  rintro e wv ⟨rfl, bv⟩
                  have hQ : (fun w' : World => w'.cell? ⟨g1, 1, none⟩ = some (.slice (some ⟨b, o, none⟩) t.ins.length c) ∧ w'.rangeAt b (o + k * 35) (pC x.tx x.n) ∧ w'.rangeAt b (o + m * 35) (pC y.tx y.n)) wv := ⟨cell_bel bv hHeld.1, rng_bel bv hHeld.2.1, rng_bel bv hHeld.2.2⟩
                  clear hHeld
                  refine ⟨hQ, ?_⟩
                  have hHeld := hQ
                  clear hQ
                  refine wpAnyH_done (by kernel_rfl) ?_ _
                  go_wp2_with fail
                  go_roundw
                  case rel =>
                    refine ⟨m + 1, by omega, by go_num, fun j z hj hz => ?_, hbi.drew.trans (bv.mono hbi.size)⟩
                    rcases Nat.lt_or_ge j m with h | h
                    · exact HM.out j z h hz
                    · obtain rfl : j = m := by omega
                      have := HY.out.1
                      rw [hz] at this; injection this with this; subst this
                      exact Bool.eq_false_iff.2 HP.out
                  case measure => simp [intOf]; omega
              · obtain rfl : m = k := by omega
                go_wp2_with fail
                go_roundw
                case rel =>
                  refine ⟨m + 1, by omega, by go_num, fun j hj => ?_, hbwi⟩
                  rcases Nat.lt_or_ge j m with h | h
                  · exact HN.out j h
                  · obtain rfl : j = m := by omega
                    exact seenAt_no HX.out.1 HM.out
                case measure => simp [intOf]; omega
          · obtain rfl : k = t.ins.length := by omega
            have HB5 := Lib.hid (HB4.out.trans (if_neg (by rw [twiceP_no HN.out]; simp)))
            go_wp2_with (have _t := tok82; refine wp_load (o := ⟨some 82, _, _, _, _, _⟩) (cs := txC t A c A' c') rfl _ _ rfl agTx rfl rfl (Bk.all h1r) ?_; clear _t tok82)
            clear HB4 HN c1r
            refine (HS5.out _ ((hi.below bwr).more bwr.size)).mono ?_
            rintro y we ⟨rfl, be⟩
            have h1e := h1r.same be
            have bwe := bwr.trans (be.mono bwr.size)
            by_cases hbp : baseP t = true
            · rw [hbp]
              obtain ⟨x, hx⟩ : ∃ x, t.ins[0]? = some x := ⟨_, List.getElem?_eq_getElem (by omega)⟩
              obtain ⟨b, o, K, kc, rfl, hbl2, hcell, hkey⟩ := hi 0 x hx
              have hxk := hkok.out.ins x (mem_of_get hx)
              have h33 : we.cell? ⟨b, o + 33, none⟩ = some (.slice K x.key.length kc) := by
                have := (bwe.cell (p := ⟨b, _, none⟩) hbl2).trans (hcell 33 _ (inC_33 hxk.txl K kc))
                simpa using this
              have c1e : we.cell? ⟨g1, 1, none⟩ = some (.slice (some ⟨b, o, none⟩) t.ins.length c) := (h1e.cell 1).trans rfl
              have e2 : (0 : Int) < (t.ins.length : Int) := by omega
              have hne : ¬ t.ins = [] := by intro h; rw [h] at hg1; simp at hg1
              have hkl : x.key.length ≤ 549755813888 := key_le hkok.out hf x (mem_of_get hx)
              have HX := Lib.hid (HB5.out.trans (baseC_one hbp hx))
              clear hcell hkey hx hxk hbp
              by_cases h4 : x.key.length < 4
              · go_wp2_with fail
                go_ret
                exact ⟨by rw [HX.out, if_pos h4]; rfl, bwe⟩
              · go_wp2_with fail
                go_ret
                exact ⟨by rw [HX.out, if_neg h4]; rfl, bwe⟩
            · have hbf : baseP t = false := by simpa using hbp
              rw [hbf]
              have HX5 := Lib.hid (HB5.out.trans (baseC_not hbf))
              clear hbp hbf HB5
              go_wp2_with fail
              go_loopw [8] (NuR t.ins we) (fun i _ => t.ins.length - (intOf i).toNat)
              case atStart => exact ⟨0, by omega, rfl, fun j x hj _ => by omega, Below.refl _ _⟩
              case round =>
                obtain ⟨k, hk1, rfl, hn, hbz⟩ := hrel
                have HN := Lib.hid hn
                have h1z := h1e.same hbz
                have bwz := bwe.trans (hbz.mono bwe.size)
                clear hn
                by_cases hlt : k < t.ins.length
                · obtain ⟨x, hx⟩ : ∃ x, t.ins[k]? = some x := ⟨_, List.getElem?_eq_getElem hlt⟩
                  obtain ⟨b, o, K, kc, rfl, hbl2, hcell, hkey⟩ := hi k x hx
                  have HX := Lib.hid (And.intro hx (hkok.out.ins x (mem_of_get hx)))
                  have k0 : wr.cell? ⟨g1, 1, none⟩ = some (.slice (some ⟨b, o, none⟩) t.ins.length c) := (h1z.cell 1).trans rfl
                  have k1 : wr.rangeAt b (o + k * 35) (pC x.tx x.n) := fun j u hu => (bwz.cell (p := ⟨b, _, none⟩) hbl2).trans (hcell j u (inC_pt HX.out.2.txl K kc hu))
                  have HC : ∀ (wx : World), Calls Tryd.prog 77 #[.agg (pC x.tx x.n).toArray, .agg (pC zero32 4294967295).toArray] wx fun e w' => e = .returned (.bool (nullIn x)) ∧ Below wx.heap.size wx w' := fun wx => samePoint_calls x.tx zero32 x.n 4294967295 wx HX.out.2.txl rfl
                  have j0 : (0 : Int) ≤ (k : Int) := by omega
                  have j1 : (k : Int) < (t.ins.length : Int) := by omega
                  clear hx hcell hkey
                  by_cases hp : nullIn x = true
                  · rw [hp] at HC
                    have HP := Lib.hid hp
                    have HQ := Lib.hid HC
                    clear hp HC
                    go_wp2_with fail
                    refine wp_region_held_drew (S := fun w' => w'.cell? ⟨g1, 1, none⟩ = some (.slice (some ⟨b, o, none⟩) t.ins.length c) ∧ w'.rangeAt b (o + k * 35) (pC x.tx x.n)) (by kernel_rfl) ⟨k0, k1⟩ (fun hHeld => ?_)
                    refine wpAnyH_take (i := 0) (oi := ⟨some 98, _, _, _, _, _⟩) (v := .pointer (some ⟨g1, 1, none⟩)) rfl (by kernel_rfl) (by kernel_rfl) (by kernel_rfl) (fun _ _ _ h => h) (.inl ⟨by rfl, fun w' hS => by go_simp⟩) hHeld ?_
                    simp only [Act.put, List.setIfInBounds_toArray, List.set_cons_zero, List.set_cons_succ]
                    refine wpAnyH_take (i := 1) (oi := ⟨some 99, _, _, _, _, _⟩) (v := .slice (some ⟨b, o, none⟩) t.ins.length c) rfl (by kernel_rfl) (by kernel_rfl) (by kernel_rfl) (fun _ _ _ h => h) (.inl ⟨by rfl, fun w' hS => by have h1 := hS.1; go_simp⟩) hHeld ?_
                    simp only [Act.put, List.setIfInBounds_toArray, List.set_cons_zero, List.set_cons_succ]
                    refine wpAnyH_take (i := 2) (oi := ⟨some 100, _, _, _, _, _⟩) (v := .int .i64 k) rfl (by kernel_rfl) (by kernel_rfl) (by kernel_rfl) (fun _ _ _ h => h) (.inl ⟨by rfl, fun w' hS => by go_simp⟩) hHeld ?_
                    simp only [Act.put, List.setIfInBounds_toArray, List.set_cons_zero, List.set_cons_succ]
                    refine wpAnyH_take (i := 3) (oi := ⟨some 101, _, _, _, _, _⟩) (v := .pointer (some ⟨b, o + k * 35, none⟩)) rfl (by kernel_rfl) (by kernel_rfl) (by kernel_rfl) (fun _ _ _ h => h) (.inl ⟨by rfl, fun w' hS => by go_simp⟩) hHeld ?_
                    simp only [Act.put, List.setIfInBounds_toArray, List.set_cons_zero, List.set_cons_succ]
                    refine wpAnyH_take (i := 4) (oi := ⟨some 102, _, _, _, _, _⟩) (v := .pointer (some ⟨b, o + k * 35, none⟩)) rfl (by kernel_rfl) (by kernel_rfl) (by kernel_rfl) (fun _ _ _ h => h) (.inl ⟨by rfl, fun w' hS => by go_simp⟩) hHeld ?_
                    simp only [Act.put, List.setIfInBounds_toArray, List.set_cons_zero, List.set_cons_succ]
                    refine wpAnyH_take (i := 5) (oi := ⟨some 103, _, _, _, _, _⟩) (v := .agg (pC x.tx x.n).toArray) rfl (by kernel_rfl) (by kernel_rfl) (by kernel_rfl) (fun _ _ _ h => h) (.inl ⟨by rfl, fun w' hS => exec_load _ _ rfl agPoint rfl (pC_length HX.out.2.txl x.n) hS.2⟩) hHeld ?_
                    simp only [Act.put, List.setIfInBounds_toArray, List.set_cons_zero, List.set_cons_succ]
                    refine hOne (i := 6) (o := ⟨some 104, _, _, _, _, _⟩) (by kernel_rfl) rfl (by rfl) ?_
                    go_simp
                    refine (refNull_calls _).mono ?_
                    rintro e wu ⟨rfl, bu⟩
                    have hQ : (fun w' : World => w'.cell? ⟨g1, 1, none⟩ = some (.slice (some ⟨b, o, none⟩) t.ins.length c) ∧ w'.rangeAt b (o + k * 35) (pC x.tx x.n)) wu := ⟨cell_bel bu hHeld.1, rng_bel bu hHeld.2⟩
                    clear hHeld
                    refine ⟨hQ, ?_⟩
                    have hHeld := hQ
                    clear hQ
                    refine hOne (i := 7) (o := ⟨some 105, _, _, _, _, _⟩) (by kernel_rfl) rfl (by rfl) ?_
                    go_simp
                    refine (HQ.out _).mono ?_
                    rintro e wv ⟨rfl, bv⟩
                    have hQ : (fun w' : World => w'.cell? ⟨g1, 1, none⟩ = some (.slice (some ⟨b, o, none⟩) t.ins.length c) ∧ w'.rangeAt b (o + k * 35) (pC x.tx x.n)) wv := ⟨cell_bel bv hHeld.1, rng_bel bv hHeld.2⟩
                    clear hHeld
                    refine ⟨hQ, ?_⟩
                    have hHeld := hQ
                    clear hQ
                    refine wpAnyH_done (by kernel_rfl) ?_ _
                    go_wp2_with fail
                    go_ret
                    exact ⟨by rw [HX5.out, if_pos (List.any_eq_true.2 ⟨x, mem_of_get HX.out.1, HP.out⟩)]; rfl, (bwz.drew.trans (bu.mono bwz.size)).trans (bv.mono (Nat.le_trans bwz.size bu.size))⟩
                  · rw [show nullIn x = false by simpa using hp] at HC
                    have HP := Lib.hid hp
                    have HQ := Lib.hid HC
                    clear hp HC
                    go_wp2_with fail
                    refine wp_region_held_drew (S := fun w' => w'.cell? ⟨g1, 1, none⟩ = some (.slice (some ⟨b, o, none⟩) t.ins.length c) ∧ w'.rangeAt b (o + k * 35) (pC x.tx x.n)) (by kernel_rfl) ⟨k0, k1⟩ (fun hHeld => ?_)
                    refine wpAnyH_take (i := 0) (oi := ⟨some 98, _, _, _, _, _⟩) (v := .pointer (some ⟨g1, 1, none⟩)) rfl (by kernel_rfl) (by kernel_rfl) (by kernel_rfl) (fun _ _ _ h => h) (.inl ⟨by rfl, fun w' hS => by go_simp⟩) hHeld ?_
                    simp only [Act.put, List.setIfInBounds_toArray, List.set_cons_zero, List.set_cons_succ]
                    refine wpAnyH_take (i := 1) (oi := ⟨some 99, _, _, _, _, _⟩) (v := .slice (some ⟨b, o, none⟩) t.ins.length c) rfl (by kernel_rfl) (by kernel_rfl) (by kernel_rfl) (fun _ _ _ h => h) (.inl ⟨by rfl, fun w' hS => by have h1 := hS.1; go_simp⟩) hHeld ?_
                    simp only [Act.put, List.setIfInBounds_toArray, List.set_cons_zero, List.set_cons_succ]
                    refine wpAnyH_take (i := 2) (oi := ⟨some 100, _, _, _, _, _⟩) (v := .int .i64 k) rfl (by kernel_rfl) (by kernel_rfl) (by kernel_rfl) (fun _ _ _ h => h) (.inl ⟨by rfl, fun w' hS => by go_simp⟩) hHeld ?_
                    simp only [Act.put, List.setIfInBounds_toArray, List.set_cons_zero, List.set_cons_succ]
                    refine wpAnyH_take (i := 3) (oi := ⟨some 101, _, _, _, _, _⟩) (v := .pointer (some ⟨b, o + k * 35, none⟩)) rfl (by kernel_rfl) (by kernel_rfl) (by kernel_rfl) (fun _ _ _ h => h) (.inl ⟨by rfl, fun w' hS => by go_simp⟩) hHeld ?_
                    simp only [Act.put, List.setIfInBounds_toArray, List.set_cons_zero, List.set_cons_succ]
                    refine wpAnyH_take (i := 4) (oi := ⟨some 102, _, _, _, _, _⟩) (v := .pointer (some ⟨b, o + k * 35, none⟩)) rfl (by kernel_rfl) (by kernel_rfl) (by kernel_rfl) (fun _ _ _ h => h) (.inl ⟨by rfl, fun w' hS => by go_simp⟩) hHeld ?_
                    simp only [Act.put, List.setIfInBounds_toArray, List.set_cons_zero, List.set_cons_succ]
                    refine wpAnyH_take (i := 5) (oi := ⟨some 103, _, _, _, _, _⟩) (v := .agg (pC x.tx x.n).toArray) rfl (by kernel_rfl) (by kernel_rfl) (by kernel_rfl) (fun _ _ _ h => h) (.inl ⟨by rfl, fun w' hS => exec_load _ _ rfl agPoint rfl (pC_length HX.out.2.txl x.n) hS.2⟩) hHeld ?_
                    simp only [Act.put, List.setIfInBounds_toArray, List.set_cons_zero, List.set_cons_succ]
                    refine hOne (i := 6) (o := ⟨some 104, _, _, _, _, _⟩) (by kernel_rfl) rfl (by rfl) ?_
                    go_simp
                    refine (refNull_calls _).mono ?_
                    rintro e wu ⟨rfl, bu⟩
                    have hQ : (fun w' : World => w'.cell? ⟨g1, 1, none⟩ = some (.slice (some ⟨b, o, none⟩) t.ins.length c) ∧ w'.rangeAt b (o + k * 35) (pC x.tx x.n)) wu := ⟨cell_bel bu hHeld.1, rng_bel bu hHeld.2⟩
                    clear hHeld
                    refine ⟨hQ, ?_⟩
                    have hHeld := hQ
                    clear hQ
                    refine hOne (i := 7) (o := ⟨some 105, _, _, _, _, _⟩) (by kernel_rfl) rfl (by rfl) ?_
                    go_simp
                    refine (HQ.out _).mono ?_
                    rintro e wv ⟨rfl, bv⟩
                    have hQ : (fun w' : World => w'.cell? ⟨g1, 1, none⟩ = some (.slice (some ⟨b, o, none⟩) t.ins.length c) ∧ w'.rangeAt b (o + k * 35) (pC x.tx x.n)) wv := ⟨cell_bel bv hHeld.1, rng_bel bv hHeld.2⟩
                    clear hHeld
                    refine ⟨hQ, ?_⟩
                    have hHeld := hQ
                    clear hQ
                    refine wpAnyH_done (by kernel_rfl) ?_ _
                    go_wp2_with fail
                    go_roundw
                    case rel =>
                      refine ⟨k + 1, by omega, by go_num, fun j y hj hy => ?_, (hbz.drew.trans (bu.mono hbz.size)).trans (bv.mono (Nat.le_trans hbz.size bu.size))⟩
                      rcases Nat.lt_or_ge j k with h | h
                      · exact HN.out j y h hy
                      · obtain rfl : j = k := by omega
                        have := HX.out.1
                        rw [hy] at this; injection this with this; subst this
                        exact Bool.eq_false_iff.2 HP.out
                    case measure => simp [intOf]; omega
                · obtain rfl : k = t.ins.length := by omega
                  have HZ := Lib.hid (HX5.out.trans (if_neg (by rw [any_noneN HN.out]; simp)))
                  have c1z : wr.cell? ⟨g1, 1, none⟩ = some (.slice A t.ins.length c) := (h1z.cell 1).trans rfl
                  go_wp2_with fail
                  go_ret
                  exact ⟨by rw [HZ.out]; rfl, bwz⟩
end Go.Proofs.YtjfeehoflahblaaDoor
