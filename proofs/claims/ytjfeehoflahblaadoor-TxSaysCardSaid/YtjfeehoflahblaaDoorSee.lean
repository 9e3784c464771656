/- What sargassosee tells of an error: its fault; whether it is this one. Conditions: the sentinels lie as the program's text lays them (Errs). -/
import Derived.Test.YtjfeehoflahblaaDoorRefCheck
namespace Go.Proofs.YtjfeehoflahblaaDoor
open Go.RowKit

/-- The error e is the fault (c, p, pos): none, a sentinel, or a sentinel with a place. -/
def FaultAt (E : Nat → Addr) (w : World) (e : Value) (c : Int) (p : Bool) (pos : Int) : Prop :=
  (ErrOf E e c ∧ p = false ∧ pos = 0) ∨
  ∃ (g i : Nat), i < 25 ∧ e = .iface 189 (.pointer (some ⟨g, 0, none⟩)) ∧ c = 101 + i ∧ p = true ∧ Bk w g 191 #[.int .i64 pos, errV E i]
theorem FaultAt.below {E : Nat → Addr} {w w' : World} {e : Value} {c : Int} {p : Bool} {pos : Int} (h : FaultAt E w e c p pos) (hb : Below w.heap.size w w') : FaultAt E w' e c p pos := by
  rcases h with h | ⟨g, i, h1, h2, h3, h4, h5⟩
  · exact .inl h
  · exact .inr ⟨g, i, h1, h2, h3, h4, h5.same hb⟩

def fEq (c c' : Int) (p p' : Bool) (pos pos' : Int) (o o' : Bool) (at_ at' : Int) : Bool := decide (c = c' ∧ p = p' ∧ pos = pos' ∧ o = o' ∧ at_ = at')
set_option maxRecDepth 100000 in
set_option maxHeartbeats 1000000 in
theorem sameFault_calls (c c' : Int) (p p' : Bool) (pos pos' : Int) (o o' : Bool) (at_ at' : Int) (w : World) :
    Calls Tryd.prog 112 #[.agg (faultC c p pos o at_).toArray, .agg (faultC c' p' pos' o' at').toArray] w fun e w' => e = .returned (.bool (fEq c c' p p' pos pos' o o' at_ at')) ∧ Below w.heap.size w w' := by
  have tok2 : True := trivial
  have tok3 : True := trivial
  have hq : ((c == c') = false) ∨ ((c == c') = true ∧ (p == p') = false) ∨ ((c == c') = true ∧ (p == p') = true ∧ (pos == pos') = false) ∨ ((c == c') = true ∧ (p == p') = true ∧ (pos == pos') = true ∧ (o == o') = false) ∨ ((c == c') = true ∧ (p == p') = true ∧ (pos == pos') = true ∧ (o == o') = true ∧ (at_ == at') = false) ∨ ((c == c') = true ∧ (p == p') = true ∧ (pos == pos') = true ∧ (o == o') = true ∧ (at_ == at') = true) := by
    cases (c == c') <;> cases (p == p') <;> cases (pos == pos') <;> cases (o == o') <;> cases (at_ == at') <;> simp
  have hd : fEq c c' p p' pos pos' o o' at_ at' = (c == c' && (p == p' && (pos == pos' && (o == o' && at_ == at')))) := by
    unfold fEq
    rw [Bool.eq_iff_iff]; simp
  have HD := Lib.hid hd
  clear hd
  rcases hq with e1 | ⟨e1, e2⟩ | ⟨e1, e2, e3⟩ | ⟨e1, e2, e3, e4⟩ | ⟨e1, e2, e3, e4, e5⟩ | ⟨e1, e2, e3, e4, e5⟩
  all_goals
    go_enter Tryd.func112, Tryd.ntmps112
    go_wp2_with (first
      | (have _t := tok2; refine wp_box (o := ⟨some 2, _, _, _, _, _⟩) rfl _ _ rfl rfl ?_; intro g2 wa h2 ba ga; clear _t tok2
         have h2q : Bk wa g2 83 (faultC c p pos o at_).toArray := h2)
      | (have _t := tok3; refine wp_box (o := ⟨some 3, _, _, _, _, _⟩) rfl _ _ rfl rfl ?_; intro g3 wb h3 bb gb; clear _t tok3
         have h2' : Bk wb g2 83 (faultC c p pos o at_).toArray := h2q.same bb
         have h3' : Bk wb g3 83 (faultC c' p' pos' o' at').toArray := h3
         have bwb := ba.trans (bb.mono ba.size)
         have c20 : wb.cell? ⟨g2, 0, none⟩ = some (.int .i64 c) := (h2'.cell 0).trans rfl
         have c21 : wb.cell? ⟨g2, 1, none⟩ = some (.bool p) := (h2'.cell 1).trans rfl
         have c22 : wb.cell? ⟨g2, 2, none⟩ = some (.int .i64 pos) := (h2'.cell 2).trans rfl
         have c23 : wb.cell? ⟨g2, 3, none⟩ = some (.bool o) := (h2'.cell 3).trans rfl
         have c24 : wb.cell? ⟨g2, 4, none⟩ = some (.int .i64 at_) := (h2'.cell 4).trans rfl
         have c30 : wb.cell? ⟨g3, 0, none⟩ = some (.int .i64 c') := (h3'.cell 0).trans rfl
         have c31 : wb.cell? ⟨g3, 1, none⟩ = some (.bool p') := (h3'.cell 1).trans rfl
         have c32 : wb.cell? ⟨g3, 2, none⟩ = some (.int .i64 pos') := (h3'.cell 2).trans rfl
         have c33 : wb.cell? ⟨g3, 3, none⟩ = some (.bool o') := (h3'.cell 3).trans rfl
         have c34 : wb.cell? ⟨g3, 4, none⟩ = some (.int .i64 at') := (h3'.cell 4).trans rfl))
    go_ret
    refine ⟨?_, bwb⟩
    rw [HD.out]
    simp [*]

set_option maxRecDepth 100000 in
theorem placed_calls (c pos : Int) (hc : ¬ c = 0) (w : World) : Calls Tryd.prog 49 #[.int .i64 c, .int .i64 pos] w fun e w' => e = .returned (.agg (faultC c true pos false 0).toArray) ∧ Below w.heap.size w w' := by
  have e1 : (c == 0) = false := by simpa using hc
  go_enter Tryd.func49, Tryd.ntmps49
  go_wp2_with (first
    | (refine wp_alloc (o := ⟨some 4, _, _, _, _, _⟩) rfl _ rfl (z := .agg (faultC 0 false 0 false 0).toArray) (by kernel_rfl) ?_; intro g w1 h1 h2 h3)
    | (refine wp_build (o := ⟨some 10, _, _, _, _, _⟩) rfl _ _ rfl (.agg (faultC c true pos false 0).toArray) (by kernel_rfl) ?_)
    | (refine wp_store_all (cs := faultC c true pos false 0) rfl _ _ _ rfl agFault rfl rfl h1 rfl rfl (faultC_one _ _ _ _ _) ?_; intro w2 h4 h5))
  exact ret_row rfl rfl agFault rfl h4 rfl ⟨rfl, h2.trans (grown_below h5 h3 h2.size)⟩

set_option maxRecDepth 100000 in
theorem fault_nil (w : World) : Calls Tryd.prog 113 #[.nilIface] w fun e w' => e = .returned (.agg (faultC 0 false 0 false 0).toArray) ∧ Below w.heap.size w w' := by
  go_enter Tryd.func113, Tryd.ntmps113
  go_wp2_with (first
    | (refine wp_alloc (o := ⟨some 2, _, _, _, _, _⟩) rfl _ rfl (z := .agg (faultC 0 false 0 false 0).toArray) (by kernel_rfl) ?_; intro g w1 h1 h2 h3)
    | (go_at_call 114; refine (none_calls w1).mono ?_; rintro e w2 ⟨rfl, h4⟩)
    | (refine wp_store_all (cs := faultC 0 false 0 false 0) rfl _ _ _ rfl agFault rfl rfl (h1.same h4) rfl rfl (faultC_one _ _ _ _ _) ?_; intro w3 h5 h6))
  exact ret_row rfl rfl agFault rfl h5 rfl ⟨rfl, (h2.trans (h4.mono h2.size)).trans (grown_below h6 h3 (h2.trans (h4.mono h2.size)).size)⟩

theorem noAt (v : Value) (w : World) : (Instr.typeAssert (.iface 250 v) 40 189 true).run Tryd.prog w = .ok (.tuple #[.pointer none, .bool false]) w := by kernel_rfl
theorem isAt (v : Value) (w : World) : (Instr.typeAssert (.iface 189 v) 40 189 true).run Tryd.prog w = .ok (.tuple #[v, .bool true]) w := by kernel_rfl
set_option maxRecDepth 100000 in
theorem fault_err {E : Nat → Addr} {i : Nat} (w : World) (h : Errs w E) (hi : i < 25) : Calls Tryd.prog 113 #[errV E i] w fun e w' => e = .returned (.agg (faultC (101 + i) false 0 false 0).toArray) ∧ Below w.heap.size w w' := by
  have HE := Lib.hid h
  clear h
  have hna := noAt
  go_enter Tryd.func113, Tryd.ntmps113
  go_wp2_with (first
    | (refine wp_alloc (o := ⟨some 2, _, _, _, _, _⟩) rfl _ rfl (z := .agg (faultC 0 false 0 false 0).toArray) (by kernel_rfl) ?_; intro g w1 h1 h2 h3)
    | (go_at_call 146; refine (sentinel_calls w1 (HE.out.below h2) hi).mono ?_; rintro e w2 ⟨rfl, h4⟩
       have h24 := h2.trans (h4.mono h2.size))
    | (go_at_call 79; refine (bare_calls (101 + i) w2).mono ?_; rintro e w3 ⟨rfl, h7⟩
       have h27 := h24.trans (h7.mono h24.size))
    | (refine wp_store_all (cs := faultC (101 + i) false 0 false 0) rfl _ _ _ rfl agFault rfl rfl ((h1.same h4).same h7) rfl rfl (faultC_one _ _ _ _ _) ?_; intro w4 h5 h6))
  exact ret_row rfl rfl agFault rfl h5 rfl ⟨rfl, h27.trans (grown_below h6 h3 h27.size)⟩

set_option maxRecDepth 100000 in
set_option maxHeartbeats 1000000 in
theorem fault_at {E : Nat → Addr} {i g : Nat} {pos : Int} (w : World) (h : Errs w E) (hi : i < 25) (hg : Bk w g 191 #[.int .i64 pos, errV E i]) :
    Calls Tryd.prog 113 #[.iface 189 (.pointer (some ⟨g, 0, none⟩))] w fun e w' => e = .returned (.agg (faultC (101 + i) true pos false 0).toArray) ∧ Below w.heap.size w w' := by
  have hg0 : w.cell? ⟨g, 0, none⟩ = some (.int .i64 pos) := (hg.cell 0).trans rfl
  have hg1 : w.cell? ⟨g, 1, none⟩ = some (errV E i) := (hg.cell 1).trans rfl
  have hgl : g < w.heap.size := hg.lt
  have HE := Lib.hid h
  have H0 := Lib.hid hg0
  have H1 := Lib.hid hg1
  clear h hg hg0 hg1
  have hna := noAt
  have hia := isAt
  go_enter Tryd.func113, Tryd.ntmps113
  go_wp2_with (first
    | (refine wp_alloc (o := ⟨some 2, _, _, _, _, _⟩) rfl _ rfl (z := .agg (faultC 0 false 0 false 0).toArray) (by kernel_rfl) ?_; intro g2 w1 h1 h2 h3
       have c0 : w1.cell? ⟨g, 0, none⟩ = some (.int .i64 pos) := (h2.cell (p := ⟨g, _, none⟩) hgl).trans H0.out
       have c1 : w1.cell? ⟨g, 1, none⟩ = some (errV E i) := (h2.cell (p := ⟨g, _, none⟩) hgl).trans H1.out))
  have k0 := c0
  have k1 := c1
  refine wp_region_held_drew (S := fun w' => w'.cell? ⟨g, 0, none⟩ = some (.int .i64 pos) ∧ w'.cell? ⟨g, 1, none⟩ = some (errV E i)) (by kernel_rfl) ⟨k0, k1⟩ (fun hHeld => ?_)
  refine wpAnyH_take (i := 0) (oi := ⟨some 40, _, _, _, _, _⟩) (v := .pointer (some ⟨g, 0, none⟩)) rfl (by kernel_rfl) (by kernel_rfl) (by kernel_rfl) (fun _ _ _ h => h) (.inl ⟨by rfl, fun w' hS => by go_simp⟩) hHeld ?_
  simp only [Act.put, List.setIfInBounds_toArray, List.set_cons_zero, List.set_cons_succ]
  refine wpAnyH_take (i := 1) (oi := ⟨some 41, _, _, _, _, _⟩) (v := .pointer (some ⟨g, 0, none⟩)) rfl (by kernel_rfl) (by kernel_rfl) (by kernel_rfl) (fun _ _ _ h => h) (.inl ⟨by rfl, fun w' hS => by go_simp⟩) hHeld ?_
  simp only [Act.put, List.setIfInBounds_toArray, List.set_cons_zero, List.set_cons_succ]
  refine wpAnyH_take (i := 2) (oi := ⟨some 42, _, _, _, _, _⟩) (v := .pointer (some ⟨g, 1, none⟩)) rfl (by kernel_rfl) (by kernel_rfl) (by kernel_rfl) (fun _ _ _ h => h) (.inl ⟨by rfl, fun w' hS => by go_simp⟩) hHeld ?_
  simp only [Act.put, List.setIfInBounds_toArray, List.set_cons_zero, List.set_cons_succ]
  refine wpAnyH_take (i := 3) (oi := ⟨some 43, _, _, _, _, _⟩) (v := errV E i) rfl (by kernel_rfl) (by kernel_rfl) (by kernel_rfl) (fun _ _ _ h => h) (.inl ⟨by rfl, fun w' hS => by have h1 := hS.2; go_simp⟩) hHeld ?_
  simp only [Act.put, List.setIfInBounds_toArray, List.set_cons_zero, List.set_cons_succ]
  refine wpAnyH_take (i := 5) (oi := ⟨some 45, _, _, _, _, _⟩) (v := .pointer (some ⟨g, 0, none⟩)) rfl (by kernel_rfl) (by kernel_rfl) (by kernel_rfl) (fun _ _ _ h => h) (.inl ⟨by rfl, fun w' hS => by go_simp⟩) hHeld ?_
  simp only [Act.put, List.setIfInBounds_toArray, List.set_cons_zero, List.set_cons_succ]
  refine wpAnyH_take (i := 6) (oi := ⟨some 46, _, _, _, _, _⟩) (v := .pointer (some ⟨g, 0, none⟩)) rfl (by kernel_rfl) (by kernel_rfl) (by kernel_rfl) (fun _ _ _ h => h) (.inl ⟨by rfl, fun w' hS => by go_simp⟩) hHeld ?_
  simp only [Act.put, List.setIfInBounds_toArray, List.set_cons_zero, List.set_cons_succ]
  refine wpAnyH_take (i := 7) (oi := ⟨some 47, _, _, _, _, _⟩) (v := .pointer (some ⟨g, 0, none⟩)) rfl (by kernel_rfl) (by kernel_rfl) (by kernel_rfl) (fun _ _ _ h => h) (.inl ⟨by rfl, fun w' hS => by go_simp⟩) hHeld ?_
  simp only [Act.put, List.setIfInBounds_toArray, List.set_cons_zero, List.set_cons_succ]
  refine wpAnyH_take (i := 8) (oi := ⟨some 48, _, _, _, _, _⟩) (v := .int .i64 pos) rfl (by kernel_rfl) (by kernel_rfl) (by kernel_rfl) (fun _ _ _ h => h) (.inl ⟨by rfl, fun w' hS => by have h1 := hS.1; go_simp⟩) hHeld ?_
  simp only [Act.put, List.setIfInBounds_toArray, List.set_cons_zero, List.set_cons_succ]
  refine hOne (i := 4) (o := ⟨some 44, _, _, _, _, _⟩) (by kernel_rfl) rfl (by rfl) ?_
  go_simp
  refine (sentinel_calls _ (HE.out.below h2).drew hi).mono ?_
  rintro e w2 ⟨rfl, b2⟩
  have b2s := h2.drew.trans (b2.mono h2.size)
  have hQ : (fun w' : World => w'.cell? ⟨g, 0, none⟩ = some (.int .i64 pos) ∧ w'.cell? ⟨g, 1, none⟩ = some (errV E i)) w2 := ⟨cell_bel b2 hHeld.1, cell_bel b2 hHeld.2⟩
  clear hHeld
  refine ⟨hQ, ?_⟩
  have hHeld := hQ
  clear hQ
  refine hOne (i := 9) (o := ⟨some 49, _, _, _, _, _⟩) (by kernel_rfl) rfl (by rfl) ?_
  go_simp
  refine (placed_calls (101 + i) pos (by omega) w2).mono ?_
  rintro e w3 ⟨rfl, b3⟩
  have b3s := b2s.trans (b3.mono b2s.size)
  have hQ : (fun w' : World => w'.cell? ⟨g, 0, none⟩ = some (.int .i64 pos) ∧ w'.cell? ⟨g, 1, none⟩ = some (errV E i)) w3 := ⟨cell_bel b3 hHeld.1, cell_bel b3 hHeld.2⟩
  clear hHeld
  refine ⟨hQ, ?_⟩
  have hHeld := hQ
  clear hQ
  refine hOne (i := 10) (o := ⟨none, _, _, _, _, _⟩) (by kernel_rfl) rfl (by rfl) ?_
  refine op_store (cs := faultC (101 + i) true pos false 0) _ _ _ rfl agFault rfl rfl ((h1.drew.same b2).same b3) rfl (Nat.le_refl 5) (faultC_one _ _ _ _ _) ?_
  intro w4 h8 h9
  rw [splice_all (Value.agg (faultC 0 false 0 false 0).toArray).cells (faultC (101 + i) true pos false 0) rfl] at h8
  have hne : ¬ some g = some g2 := by intro q; injection q with q; omega
  refine ⟨⟨grown_cell h9 hne hHeld.1, grown_cell h9 hne hHeld.2⟩, ?_⟩
  refine wpAnyH_done (by kernel_rfl) ?_ _
  go_wp2_with fail
  exact ret_row rfl rfl agFault rfl h8 rfl ⟨rfl, b3s.trans (grown_below h9 h3 b3s.size)⟩

/-- Fault, at whatever error. -/
theorem fault_any {E : Nat → Addr} {e : Value} {c pos : Int} {p : Bool} (w : World) (h : Errs w E) (hf : FaultAt E w e c p pos) :
    Calls Tryd.prog 113 #[e] w fun x w' => x = .returned (.agg (faultC c p pos false 0).toArray) ∧ Below w.heap.size w w' := by
  rcases hf with ⟨⟨rfl, rfl⟩ | ⟨i, hi, rfl, rfl⟩, rfl, rfl⟩ | ⟨g, i, hi, rfl, rfl, rfl, hb⟩
  · exact fault_nil w
  · exact fault_err w h hi
  · exact fault_at w h hi hb

set_option maxRecDepth 100000 in
theorem seeSame_calls {E : Nat → Addr} {e : Value} {c pos c' pos' : Int} {p p' : Bool} (w : World) (h : Errs w E) (hf : FaultAt E w e c p pos) :
    Calls Tryd.prog 48 #[e, .agg (faultC c' p' pos' false 0).toArray] w fun x w' => x = .returned (.bool (fEq c c' p p' pos pos' false false 0 0)) ∧ Below w.heap.size w w' := by
  have HE := Lib.hid h
  have HF := Lib.hid hf
  clear h hf
  have tok3 : True := trivial
  go_enter Tryd.func48, Tryd.ntmps48
  go_wp2_with (have _t := tok3; refine wp_box (o := ⟨some 3, _, _, _, _, _⟩) rfl _ _ rfl rfl ?_; intro g3 wa h1 ba ga; clear _t tok3)
  have h3 : Bk wa g3 83 (faultC c' p' pos' false 0).toArray := h1
  have k0 : wa.rangeAt g3 0 (faultC c' p' pos' false 0) := Bk.all h3
  clear h1
  refine wp_region_held_drew (S := fun w' => w'.rangeAt g3 (0) (faultC c' p' pos' false 0)) (by kernel_rfl) k0 (fun hHeld => ?_)
  refine wpAnyH_take (i := 0) (oi := ⟨some 5, _, _, _, _, _⟩) (v := e) rfl (by kernel_rfl) (by kernel_rfl) (by kernel_rfl) (fun _ _ _ h => h) (.inl ⟨by rfl, fun w' hS => by go_simp⟩) hHeld ?_
  simp only [Act.put, List.setIfInBounds_toArray, List.set_cons_zero, List.set_cons_succ]
  refine wpAnyH_take (i := 2) (oi := ⟨some 7, _, _, _, _, _⟩) (v := .agg (faultC c' p' pos' false 0).toArray) rfl (by kernel_rfl) (by kernel_rfl) (by kernel_rfl) (fun _ _ _ h => h) (.inl ⟨by rfl, fun w' hS => exec_load _ _ rfl agFault rfl rfl hS⟩) hHeld ?_
  simp only [Act.put, List.setIfInBounds_toArray, List.set_cons_zero, List.set_cons_succ]
  refine hOne (i := 1) (o := ⟨some 6, _, _, _, _, _⟩) (by kernel_rfl) rfl (by rfl) ?_
  go_simp
  refine (fault_any _ (HE.out.below ba).drew (HF.out.below ba.drew)).mono ?_
  rintro y wb ⟨rfl, bb⟩
  have bwb := ba.drew.trans (bb.mono ba.size)
  have hQ : (fun w' : World => w'.rangeAt g3 (0) (faultC c' p' pos' false 0)) wb := rng_bel bb hHeld
  clear hHeld
  refine ⟨hQ, ?_⟩
  have hHeld := hQ
  clear hQ
  refine hOne (i := 3) (o := ⟨some 8, _, _, _, _, _⟩) (by kernel_rfl) rfl (by rfl) ?_
  go_simp
  refine (sameFault_calls c c' p p' pos pos' false false 0 0 wb).mono ?_
  rintro y wc ⟨rfl, bc⟩
  have bwc := bwb.trans (bc.mono bwb.size)
  have hQ : (fun w' : World => w'.rangeAt g3 (0) (faultC c' p' pos' false 0)) wc := rng_bel bc hHeld
  clear hHeld
  refine ⟨hQ, ?_⟩
  have hHeld := hQ
  clear hQ
  refine wpAnyH_take (i := 4) (oi := ⟨some 4, _, _, _, _, _⟩) (v := (.bool (fEq c c' p p' pos pos' false false 0 0))) rfl (by kernel_rfl) (by kernel_rfl) (by kernel_rfl) (fun _ _ _ h => h) (.inl ⟨by rfl, fun w' hS => by go_simp⟩) hHeld ?_
  simp only [Act.put, List.setIfInBounds_toArray, List.set_cons_zero, List.set_cons_succ]
  refine wpAnyH_done (by kernel_rfl) ?_ _
  go_wp2_with fail
  go_ret
  exact ⟨rfl, bwc⟩

set_option maxRecDepth 100000 in
theorem is_calls {E : Nat → Addr} {e : Value} {c pos c' : Int} {p : Bool} (w : World) (h : Errs w E) (hf : FaultAt E w e c p pos) :
    Calls Tryd.prog 23 #[e, .int .i64 c'] w fun x w' => x = .returned (.bool (fEq c c' p false pos 0 false false 0 0)) ∧ Below w.heap.size w w' := by
  have HE := Lib.hid h
  have HF := Lib.hid hf
  clear h hf
  go_enter Tryd.func23, Tryd.ntmps23
  go_wp2_with fail
  refine (bare_calls c' w).mono ?_
  rintro y wa ⟨rfl, ba⟩
  go_wp2_with fail
  refine (seeSame_calls wa (HE.out.below ba) (HF.out.below ba)).mono ?_
  rintro y wb ⟨rfl, bb⟩
  go_wp2_with fail
  go_ret
  exact ⟨rfl, ba.trans (bb.mono ba.size)⟩
theorem is_err {E : Nat → Addr} {e : Value} {c c' : Int} (w : World) (h : Errs w E) (hf : ErrOf E e c) :
    Calls Tryd.prog 23 #[e, .int .i64 c'] w fun x w' => x = .returned (.bool (decide (c = c'))) ∧ Below w.heap.size w w' := by
  have h1 : fEq c c' false false 0 0 false false 0 0 = decide (c = c') := by unfold fEq; simp
  rw [← h1]
  exact is_calls w h (.inl ⟨hf, rfl, rfl⟩)
end Go.Proofs.YtjfeehoflahblaaDoor
