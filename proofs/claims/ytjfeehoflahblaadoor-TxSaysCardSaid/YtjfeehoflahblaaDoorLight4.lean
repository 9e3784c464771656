/- Chapter 4's small questions: whether a transaction is small; the chapter's examples. No conditions. -/
import Derived.Test.YtjfeehoflahblaaDoorSee
import Derived.Test.YtjfeehoflahblaaDoorRefTwice
import Derived.Test.YtjfeehoflahblaaDoorTxSame
namespace Go.Proofs.YtjfeehoflahblaaDoor
open Go.RowKit

def shortKey (x : TIn) : Bool := decide (x.key.length ≤ 100)
def lightP (t : TTx) : Bool := decide (t.ins.length ≤ 60) && (decide (t.outs.length ≤ 60) && t.ins.all shortKey)
theorem all_get {l : List TIn} {p : TIn → Bool} (h : ∀ j x, j < l.length → l[j]? = some x → p x = true) : l.all p = true := by
  rw [List.all_eq_true]
  intro x hx
  obtain ⟨j, hj⟩ := List.getElem?_of_mem hx
  exact h j x (lt_of_get hj) hj
theorem flat_le {α : Type} (f : α → List Int) (l : List α) (M : Nat) (h : ∀ x ∈ l, (f x).length ≤ M) : (l.flatMap f).length ≤ l.length * M := by
  induction l with
  | nil => simp
  | cons x l ih =>
    have h1 := h x (by simp)
    have h2 := ih fun y hy => h y (by simp [hy])
    simp only [List.flatMap_cons, List.length_append, List.length_cons, Nat.add_mul, Nat.one_mul]
    omega
theorem txB_le {t : TTx} (hk : t.Ok) {a b M : Nat} (hi : t.ins.length ≤ a) (ho : t.outs.length ≤ b) (hm : ∀ x ∈ t.ins, x.key.length ≤ M) : (txB t).length ≤ a * (49 + M) + b * 40 + 26 := by
  have h1 := flat_le inB t.ins (49 + M) (fun x hx => by
    rw [inB_length x (hk.ins x hx).txl]
    have := lenN_le (x.key.length : Int)
    have := hm x hx
    omega)
  have h2 := flat_le outY t.outs 40 (fun x hx => by rw [outY_length x (hk.outs x hx).lockl]; exact Nat.le_refl _)
  have h3 := lenN_le (t.ins.length : Int)
  have h4 := lenN_le (t.outs.length : Int)
  have h5 : t.ins.length * (49 + M) ≤ a * (49 + M) := Nat.mul_le_mul_right _ hi
  have h6 : t.outs.length * 40 ≤ b * 40 := Nat.mul_le_mul_right _ ho
  simp only [txB, List.length_append, le_length, putB_length]
  omega
theorem fit_of {t : TTx} (hk : t.Ok) (hi : t.ins.length ≤ 1000) (ho : t.outs.length ≤ 1000) (hm : ∀ x ∈ t.ins, x.key.length ≤ 100000) : t.Fit := by
  have := txB_le hk hi ho hm
  exact ⟨by omega, by omega, by omega⟩
theorem light_parts {t : TTx} (h : lightP t = true) : t.ins.length ≤ 60 ∧ t.outs.length ≤ 60 ∧ ∀ x ∈ t.ins, x.key.length ≤ 100 := by
  unfold lightP at h
  simp only [Bool.and_eq_true, decide_eq_true_eq, List.all_eq_true] at h
  exact ⟨h.1, h.2.1, fun x hx => by have := h.2.2 x hx; simpa [shortKey] using this⟩
theorem light_fit {t : TTx} (hk : t.Ok) (h : lightP t = true) : t.Fit := by
  obtain ⟨h1, h2, h3⟩ := light_parts h
  exact fit_of hk (by omega) (by omega) (fun x hx => by have := h3 x hx; omega)

def LightR (l : List TIn) (w : World) (i : Value) (wr : World) : Prop := ∃ k : Nat, k ≤ l.length ∧ i = .int .i64 k ∧ (∀ j x, j < k → l[j]? = some x → shortKey x = true) ∧ w = wr
set_option maxRecDepth 100000 in
set_option maxHeartbeats 1000000 in
theorem light_calls (t : TTx) (A A' : Option Addr) (c c' : Nat) (w : World) (hi : RdIns w w.heap.size A t.ins) (hk : t.Ok) :
    Calls Tryd.prog 13 #[.agg (txC t A c A' c').toArray] w fun x w' => x = .returned (.bool (lightP t)) ∧ Below w.heap.size w w' := by
  have tok1 : True := trivial
  have HK := Lib.hid hk
  clear hk
  by_cases hbad : t.ins.length ≤ 60 ∧ t.outs.length ≤ 60
  · obtain ⟨hg1, hg2⟩ := hbad
    have f2 : ¬ ((60 : Int) < (t.ins.length : Int)) := by omega
    have f4 : ¬ ((60 : Int) < (t.outs.length : Int)) := by omega
    have HB := Lib.hid (show lightP t = t.ins.all shortKey by unfold lightP; simp [hg1, hg2])
    go_enter Tryd.func13, Tryd.ntmps13
    go_wp2_with (have _t := tok1; refine wp_box (o := ⟨some 1, _, _, _, _, _⟩) rfl _ _ rfl rfl ?_; intro g1 wa h1 ba ga; clear _t tok1
                 have h1q : Bk wa g1 26 (txC t A c A' c').toArray := h1
                 have c1 : wa.cell? ⟨g1, 1, none⟩ = some (.slice A t.ins.length c) := (h1.cell 1).trans rfl
                 have c2 : wa.cell? ⟨g1, 2, none⟩ = some (.slice A' t.outs.length c') := (h1.cell 2).trans rfl)
    clear f2 f4 c2
    go_loopw [3] (LightR t.ins wa) (fun i _ => t.ins.length - (intOf i).toNat)
    case atStart => exact ⟨0, by omega, rfl, fun j x hj _ => by omega, rfl⟩
    case round =>
      obtain ⟨k, hk1, rfl, hn, rfl⟩ := hrel
      have HN := Lib.hid hn
      clear hn
      by_cases hlt : k < t.ins.length
      · obtain ⟨x, hx⟩ : ∃ x, t.ins[k]? = some x := ⟨_, List.getElem?_eq_getElem hlt⟩
        obtain ⟨b, o, K, kc, rfl, hbl, hcell, hkey⟩ := hi k x hx
        have h33 : wa.cell? ⟨b, o + k * 35 + 33, none⟩ = some (.slice K x.key.length kc) := (ba.cell (p := ⟨b, _, none⟩) hbl).trans (hcell 33 _ (inC_33 (HK.out.ins x (mem_of_get hx)).txl K kc))
        have HX := Lib.hid hx
        have j0 : (0 : Int) ≤ (k : Int) := by omega
        have j1 : (k : Int) < (t.ins.length : Int) := by omega
        clear hcell hkey hx
        by_cases hp : 100 < x.key.length
        · have HA := Lib.hid (show t.ins.all shortKey = false from List.all_eq_false.2 ⟨x, mem_of_get HX.out, by simp [shortKey]; omega⟩)
          go_wp2_with fail
          go_ret
          exact ⟨by rw [HB.out, HA.out]; rfl, ba⟩
        · have HP := Lib.hid (show shortKey x = true by simp [shortKey]; omega)
          go_wp2_with fail
          go_roundw
          case rel =>
            refine ⟨k + 1, by omega, by go_num, fun j y hj hy => ?_, rfl⟩
            rcases Nat.lt_or_ge j k with h | h
            · exact HN.out j y h hy
            · obtain rfl : j = k := by omega
              have := HX.out
              rw [hy] at this; injection this with this; subst this
              exact HP.out
          case measure => simp [intOf]; omega
      · obtain rfl : k = t.ins.length := by omega
        have HA := Lib.hid (all_get HN.out)
        go_wp2_with fail
        go_ret
        exact ⟨by rw [HB.out, HA.out]; rfl, ba⟩
  · have HB := Lib.hid (show lightP t = false by unfold lightP; by_cases h : t.ins.length ≤ 60 <;> simp [h] <;> omega)
    have hb : 60 < t.ins.length ∨ (t.ins.length ≤ 60 ∧ 60 < t.outs.length) := by omega
    clear hbad
    rcases hb with hb1 | ⟨hb1, hb2⟩
    · have f2 : ((60 : Int) < (t.ins.length : Int)) := by omega
      go_enter Tryd.func13, Tryd.ntmps13
      go_wp2_with (have _t := tok1; refine wp_box (o := ⟨some 1, _, _, _, _, _⟩) rfl _ _ rfl rfl ?_; intro g1 wa h1 ba ga; clear _t tok1
                   have c1 : wa.cell? ⟨g1, 1, none⟩ = some (.slice A t.ins.length c) := (h1.cell 1).trans rfl)
      go_ret
      exact ⟨by rw [HB.out]; rfl, ba⟩
    · have f2 : ¬ ((60 : Int) < (t.ins.length : Int)) := by omega
      have f3 : ((60 : Int) < (t.outs.length : Int)) := by omega
      go_enter Tryd.func13, Tryd.ntmps13
      go_wp2_with (have _t := tok1; refine wp_box (o := ⟨some 1, _, _, _, _, _⟩) rfl _ _ rfl rfl ?_; intro g1 wa h1 ba ga; clear _t tok1
                   have c1 : wa.cell? ⟨g1, 1, none⟩ = some (.slice A t.ins.length c) := (h1.cell 1).trans rfl
                   have c2 : wa.cell? ⟨g1, 2, none⟩ = some (.slice A' t.outs.length c') := (h1.cell 2).trans rfl)
      go_ret
      exact ⟨by rw [HB.out]; rfl, ba⟩

def tx0 : TTx := ⟨0, [], [], 0⟩
theorem tx0_ok : tx0.Ok := ⟨⟨by decide, by decide⟩, by simp [tx0], by simp [tx0], ⟨by decide, by decide⟩⟩
theorem tx0_fit : tx0.Fit := fit_of tx0_ok (by simp [tx0]) (by simp [tx0]) (by simp [tx0])
theorem tx0_len : (txB tx0).length = 10 := by decide
theorem tx0_rd (w : World) : RdTx w w.heap.size (txC tx0 none 0 none 0) tx0 := ⟨none, 0, none, 0, rfl, RdIns.nil_ _ _ _, RdOuts.nil_ _ _ _⟩
set_option maxRecDepth 100000 in
theorem first4_calls (w : World) : Calls Tryd.prog 12 #[] w fun x w' => x = .returned (.bool true) ∧ Below w.heap.size w w' := by
  have H1 := Lib.hid (fun (wx : World) => txBytes_any (txC tx0 none 0 none 0) tx0 wx (tx0_rd wx) tx0_ok tx0_fit)
  have H2 := Lib.hid (fun (wx : World) => txSize_calls (txC tx0 none 0 none 0) tx0 wx (tx0_rd wx) tx0_ok tx0_fit)
  have hl := tx0_len
  rw [hl] at H1 H2
  clear hl
  go_enter Tryd.func12, Tryd.ntmps12
  go_wp2_with (refine wp_build (o := ⟨some 1, _, _, _, _, _⟩) rfl _ _ rfl (.agg (txC tx0 none 0 none 0).toArray) (by kernel_rfl) ?_)
  refine (H1.out w).mono ?_
  rintro e wa ⟨A1, c1, rfl, o1, ba⟩
  clear o1
  go_wp2_with fail
  refine (H2.out wa).mono ?_
  rintro e wb ⟨rfl, bb⟩
  go_wp2_with fail
  go_ret
  exact ⟨rfl, ba.trans (bb.mono ba.size)⟩
end Go.Proofs.YtjfeehoflahblaaDoor
