/- Errors as plain data: what sargassosee tells of an error. Conditions: the sentinels lie as the program's text lays them (Errs). -/
import Derived.Test.YtjfeehoflahblaaDoorCheckTx
import Derived.LaidEql
namespace Go.Proofs.YtjfeehoflahblaaDoor
open Go.RowKit

theorem cell_bel {w w' : World} {b o : Nat} {v : Value} (hb : Below w.heap.size w w') (h : w.cell? ⟨b, o, none⟩ = some v) : w'.cell? ⟨b, o, none⟩ = some v := (hb.cell (p := ⟨b, o, none⟩) (World.block_lt_of_cell? w ⟨b, o, none⟩ h)).trans h
theorem rng_bel {w w' : World} {b o : Nat} {cs : List Value} (hb : Below w.heap.size w w') (h : w.rangeAt b o cs) : w'.rangeAt b o cs := fun j u hu => cell_bel hb (h j u hu)
/-- The variables of api's errors, in the order of their codes. -/
def errG : List Nat := [12, 7, 1, 0, 3, 4, 11, 6, 8, 9, 13, 14, 15, 2, 16, 17, 18, 19, 20, 21, 10, 5, 22, 23, 24]
abbrev errV (E : Nat → Addr) (i : Nat) : Value := .iface 250 (.pointer (some (E i)))
structure Errs (w : World) (E : Nat → Addr) : Prop where
  cell : ∀ i g, errG[i]? = some g → w.cell? ⟨g, 0, none⟩ = some (errV E i)
  inj : ∀ i j, i < 25 → j < 25 → E i = E j → i = j
  row : ∀ i, i < 25 → ∃ t cs, Bk w (E i).block t cs
theorem Errs.below {w w' : World} {E : Nat → Addr} (h : Errs w E) (hb : Below w.heap.size w w') : Errs w' E :=
  ⟨fun i g hg => cell_bel hb (h.cell i g hg), h.inj, fun i hi => by obtain ⟨t, cs, hk⟩ := h.row i hi; exact ⟨t, cs, hk.same hb⟩⟩
theorem Errs.drew {w : World} {E : Nat → Addr} (h : Errs w E) : Errs w.drew E := ⟨h.cell, h.inj, h.row⟩
theorem Errs.at_ {w : World} {E : Nat → Addr} (h : Errs w E) {i g : Nat} (hg : errG[i]? = some g) : ErrAt w g (errV E i) := ⟨h.cell i g hg, World.block_lt_of_cell? w ⟨g, 0, none⟩ (h.cell i g hg)⟩
theorem errComp : (Tryd.prog.info? 250).map (·.comparable) = some true := by kernel_rfl
theorem errSize : (Tryd.prog.info? 269).map (·.size) = some 1 := by kernel_rfl
theorem eq_err {w : World} {E : Nat → Addr} (h : Errs w E) {i j : Nat} (hi : i < 25) (hj : j < 25) : (binOp .eql 40 (errV E i) (errV E j)).run Tryd.prog w = .ok (.bool (decide (i = j))) w := by
  obtain ⟨ii, h1, h2⟩ := Option.map_eq_some_iff.1 errComp
  obtain ⟨jj, h3, h4⟩ := Option.map_eq_some_iff.1 errSize
  by_cases e : i = j
  · subst e
    rw [decide_eq_true rfl]
    exact run_eql_iface_ptr_same w (E i) Tryd.underlying40 Tryd.underlying250 h1 h2 h3
  · rw [decide_eq_false e]
    obtain ⟨t, cs, k1⟩ := h.row i hi
    obtain ⟨t', cs', k2⟩ := h.row j hj
    exact run_eql_iface_ptr_other w Tryd.underlying40 Tryd.underlying250 h1 h2 h3 (by rw [h4]; decide) (fun q => e (h.inj i j hi hj q)) k1 k2

theorem alike_calls {E : Nat → Addr} {i j : Nat} (w : World) (h : Errs w E) (hi : i < 25) (hj : j < 25) :
    Calls Tryd.prog 165 #[errV E i, errV E j] w fun e w' => e = .returned (.bool (decide (i = j))) ∧ w = w' := by
  have heq := eq_err h hi hj
  by_cases e : i = j
  · rw [decide_eq_true e] at heq ⊢
    clear e h
    go_enter Tryd.func165, Tryd.ntmps165
    go_wp2
    go_ret
    exact ⟨rfl, rfl⟩
  · rw [decide_eq_false e] at heq ⊢
    clear e h
    go_enter Tryd.func165, Tryd.ntmps165
    go_wp2
    go_ret
    exact ⟨rfl, rfl⟩

def errL (E : Nat → Addr) : List Value := (List.range 25).map (errV E)
set_option maxRecDepth 100000 in
theorem sentinels_calls {E : Nat → Addr} (w : World) (h : Errs w E) :
    Calls Tryd.prog 164 #[] w fun e w' => ∃ g, e = .returned (.slice (some ⟨g, 0, none⟩) 25 25) ∧ Bk w' g 40 (errL E).toArray ∧ Below w.heap.size w w' := by
  have c0 := h.cell 0 _ rfl
  have c1 := h.cell 1 _ rfl
  have c2 := h.cell 2 _ rfl
  have c3 := h.cell 3 _ rfl
  have c4 := h.cell 4 _ rfl
  have c5 := h.cell 5 _ rfl
  have c6 := h.cell 6 _ rfl
  have c7 := h.cell 7 _ rfl
  have c8 := h.cell 8 _ rfl
  have c9 := h.cell 9 _ rfl
  have c10 := h.cell 10 _ rfl
  have c11 := h.cell 11 _ rfl
  have c12 := h.cell 12 _ rfl
  have c13 := h.cell 13 _ rfl
  have c14 := h.cell 14 _ rfl
  have c15 := h.cell 15 _ rfl
  have c16 := h.cell 16 _ rfl
  have c17 := h.cell 17 _ rfl
  have c18 := h.cell 18 _ rfl
  have c19 := h.cell 19 _ rfl
  have c20 := h.cell 20 _ rfl
  have c21 := h.cell 21 _ rfl
  have c22 := h.cell 22 _ rfl
  have c23 := h.cell 23 _ rfl
  have c24 := h.cell 24 _ rfl
  clear h
  go_enter Tryd.func164, Tryd.ntmps164
  go_wp2
  go_ret
  exact ⟨w.heap.size, rfl, Bk.new w _ _, (Below.refl _ _).alloc (Nat.le_refl _) _⟩

def SentR (i : Nat) (w : World) (v : Value) (wr : World) : Prop := ∃ k : Nat, k ≤ i ∧ v = .int .i64 k ∧ w = wr
set_option maxRecDepth 100000 in
theorem sentinel_calls {E : Nat → Addr} {i : Nat} (w : World) (h : Errs w E) (hi : i < 25) :
    Calls Tryd.prog 146 #[errV E i] w fun e w' => e = .returned (.int .i64 (101 + i)) ∧ Below w.heap.size w w' := by
  go_enter Tryd.func146, Tryd.ntmps146
  go_wp2_with fail
  refine (sentinels_calls w h).mono ?_
  rintro e wa ⟨g, rfl, hg, ba⟩
  go_wp2_with fail
  go_loopw [4] (SentR i wa) (fun v _ => 25 - (intOf v).toNat)
  case atStart => exact ⟨0, by omega, rfl, rfl⟩
  case round =>
    obtain ⟨k, hk, rfl, rfl⟩ := hrel
    have HA := Lib.hid (fun (_ : Unit) => alike_calls wa (h.below ba) hi (show k < 25 by omega))
    have j0 : (0 : Int) ≤ (k : Int) := by omega
    have j1 : (k : Int) < 25 := by omega
    have hc : wa.cell? ⟨g, k, none⟩ = some (errV E k) := by
      rw [hg.cell]; simp [errL, List.getElem?_range (show k < 25 by omega)]
    have HG := Lib.hid hg
    have HE := Lib.hid h
    clear hg h
    go_wp2_with fail
    refine (HA.out ()).mono ?_
    rintro e wb ⟨rfl, rfl⟩
    by_cases e : i = k
    · rw [decide_eq_true e]
      have e2 := Lib.hid e
      clear e hc
      go_wp2_with fail
      go_ret
      refine ⟨?_, ba⟩
      rw [e2.out]; rfl
    · rw [decide_eq_false e]
      have e2 : k < i := by omega
      clear e hc
      go_wp2_with fail
      go_roundw
      case rel => exact ⟨k + 1, by omega, by go_num, rfl⟩
      case measure => simp [intOf]; omega

/-- A fault's cells. -/
def faultC (c : Int) (p : Bool) (pos : Int) (o : Bool) (at_ : Int) : List Value := [.int .i64 c, .bool p, .int .i64 pos, .bool o, .int .i64 at_]
theorem agFault : Ag Tryd.prog 83 5 := ⟨_, Tryd.underlying83, rfl, by kernel_rfl⟩
theorem faultC_one (c : Int) (p : Bool) (pos : Int) (o : Bool) (at_ : Int) : ∀ u ∈ faultC c p pos o at_, u.oneCell' = true := by
  intro u hu
  simp [faultC] at hu
  rcases hu with rfl | rfl | rfl | rfl | rfl <;> rfl
set_option maxRecDepth 100000 in
theorem bare_calls (c : Int) (w : World) : Calls Tryd.prog 79 #[.int .i64 c] w fun e w' => e = .returned (.agg (faultC c false 0 false 0).toArray) ∧ Below w.heap.size w w' := by
  go_enter Tryd.func79, Tryd.ntmps79
  go_wp2_with (first
    | (refine wp_alloc (o := ⟨some 2, _, _, _, _, _⟩) rfl _ rfl (z := .agg (faultC 0 false 0 false 0).toArray) (by kernel_rfl) ?_; intro g w1 h1 h2 h3)
    | (refine wp_build (o := ⟨some 4, _, _, _, _, _⟩) rfl _ _ rfl (.agg (faultC c false 0 false 0).toArray) (by kernel_rfl) ?_)
    | (refine wp_store_all (cs := faultC c false 0 false 0) rfl _ _ _ rfl agFault rfl rfl h1 rfl rfl (faultC_one _ _ _ _ _) ?_; intro w2 h4 h5))
  exact ret_row rfl rfl agFault rfl h4 rfl ⟨rfl, h2.trans (grown_below h5 h3 h2.size)⟩
set_option maxRecDepth 100000 in
theorem none_calls (w : World) : Calls Tryd.prog 114 #[] w fun e w' => e = .returned (.agg (faultC 0 false 0 false 0).toArray) ∧ Below w.heap.size w w' := by
  go_enter Tryd.func114, Tryd.ntmps114
  go_wp2_with (first
    | (refine wp_alloc (o := ⟨some 0, _, _, _, _, _⟩) rfl _ rfl (z := .agg (faultC 0 false 0 false 0).toArray) (by kernel_rfl) ?_; intro g w1 h1 h2 h3)
    | (refine wp_build (o := ⟨some 1, _, _, _, _, _⟩) rfl _ _ rfl (.agg (faultC 0 false 0 false 0).toArray) (by kernel_rfl) ?_)
    | (refine wp_store_all (cs := faultC 0 false 0 false 0) rfl _ _ _ rfl agFault rfl rfl h1 rfl rfl (faultC_one _ _ _ _ _) ?_; intro w2 h4 h5))
  exact ret_row rfl rfl agFault rfl h4 rfl ⟨rfl, h2.trans (grown_below h5 h3 h2.size)⟩
end Go.Proofs.YtjfeehoflahblaaDoor
